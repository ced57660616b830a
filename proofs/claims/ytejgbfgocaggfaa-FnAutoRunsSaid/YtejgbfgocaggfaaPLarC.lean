import Derived.Test.YtejgbfgocaggfaaM11
import Derived.Test.YtejgbfgocaggfaaM12
/- 'laws.FnAutoRuns' returns true at every argument, and leaves its arguments as they were. No condition. -/
namespace Go.Proofs.Ytejgbfgocaggfaa
open Go.ChangeShapes Go.WideShapes Go.ChangeAt Go.RowKit Go.Joins
open Go.ChangeMaps (open_string)

set_option maxRecDepth 100000 in
theorem autoRuns_lifted (os : Os) (started : os.Started) (H : Type) (enc : TypeId × Value → H) :
    ReturnsInHanded {} Try.checked os 6 .any (Rows.fnAutoRunsSpec.pre6 enc Try.prog Try.f6 Rows.fnAutoRunsRow.domain false) (Rows.fnAutoRunsSpec.post enc Try.prog Try.f6 false true false false) := by
  refine returnsInHanded_of_change (C := Try.checked) own started (by kernel_rfl) Try.func6
    (ChangeSpec.witness6 (enc := enc) (C := Try.checked) false ⟨#[], #[.slice none 0 0, .slice none 0 0], []⟩ 8 (by kernel_rfl) (by kernel_rfl) (by kernel_rfl) (by kernel_rfl)) ?_
  intro W base args ds gs before hval0 hW hcnd _
  have hval : ∀ (j : Nat) t v, Try.f6.params[j]? = some t → args[j]? = some v → Value.okWide Try.prog W .any base t v := hval0
  have hW' := hW
  obtain ⟨p, q, hA0, hV, rfl, hfz, hnd⟩ := hW
  have hA : DataW.TrodAll enc Try.prog W 0 (fun _ => true) true Try.f6.params.toList args.toList ds p := hA0
  rw [Try.params6] at hA hval
  obtain ⟨v0, v1, d0, d1, p0, p1, rfl, rfl, rfl, h0, h1⟩ := trodAll_two hA
  obtain ⟨rfl, rfl⟩ := trodVars_none hV
  obtain ⟨xs0, hsl0⟩ := open_bytes (hval 0 41 v0 rfl rfl) h0
  obtain ⟨xs1, hsl1⟩ := open_bytes (hval 1 41 v1 rfl rfl) h1
  clear hA0 hval0
  refine (lawAutoRuns_any v0 v1 xs0 xs1 W hsl0 hsl1).mono fun e W' ⟨he, hb⟩ => ?_
  subst he
  exact ⟨_, rfl, post_of_below (pv := []) hW' (fun _ _ _ => trodAll_mk1 (shut_bool Try.underlying4 _)) (fun sp hsp => trodAll_below laidOut hb (of_decide_eq_true (by kernel_rfl)) hA (fun x hx => hW'.lt x (by simpa using hx)) sp (fun x hx => hsp x (by simpa using hx))) (fun _ _ => rfl) rfl hb (ok_one (by kernel_rfl) rfl (okWide_bool_mk Try.underlying4 _))⟩

theorem autoRuns_j1 : (Rows.fnAutoRunsRow.inPlace == Try.pinned.checked.prog.inPlace 6) = true := by kernel_rfl
theorem autoRuns_j2 : (Rows.fnAutoRunsRow.unfollowed == Try.pinned.checked.prog.unfollowed 6) = true := by kernel_rfl
theorem autoRuns_j3 : (Rows.fnAutoRunsRow.recurses == Try.pinned.checked.prog.recurses 6) = true := by kernel_rfl
theorem autoRuns_j4 : (Rows.fnAutoRunsRow.named == Try.pinned.checked.prog.varsNamed 6) = true := by kernel_rfl
theorem autoRuns_joined : joinedFacts Try.pinned.checked.prog 6 Try.f6 Rows.fnAutoRunsSpec Rows.fnAutoRunsRow = true := by
  unfold joinedFacts
  rw [autoRuns_j1, autoRuns_j2, autoRuns_j3, autoRuns_j4]
  kernel_rfl

theorem autoRuns_holds : Rows.FnAutoRunsSaid :=
  OpenClaim.holds_of_wide 6 Try.f6 rfl rfl rfl rfl rfl rfl rfl ⟨rfl, rfl, rfl, rfl, rfl⟩ rfl rfl rfl rfl rfl (by kernel_rfl) Try.func6 autoRuns_joined
    (of_decide_eq_true (by kernel_rfl)) (by unfold Func.isWrapper; first | (rw [if_pos (by decide +kernel)]; kernel_rfl) | (rw [if_neg (by decide +kernel)]; exact ⟨rfl, rfl⟩))
    (fun os started H enc _ => autoRuns_lifted os started H enc)
end Go.Proofs.Ytejgbfgocaggfaa

