import Derived.Test.YtfkijaamfmpboaaM7
/- 'laws.FnExactNextPattern' returns true at every argument, and leaves its arguments as they were. No condition. -/
namespace Go.Proofs.Ytfkijaamfmpboaa
open Go.ChangeShapes Go.WideShapes Go.ChangeAt Go.RowKit Go.Joins
open Go.ChangeMaps (open_string)

set_option maxRecDepth 100000 in
theorem nextPattern_lifted (os : Os) (started : os.Started) (H : Type) (enc : TypeId × Value → H) :
    ReturnsInHanded {} Try.checked os 3 .any (Rows.fnExactNextPatternSpec.pre6 enc Try.prog Try.f3 Rows.fnExactNextPatternRow.domain false) (Rows.fnExactNextPatternSpec.post enc Try.prog Try.f3 false true false false) := by
  refine returnsInHanded_of_change (C := Try.checked) own started (by kernel_rfl) Try.func3
    (ChangeSpec.witness6 (enc := enc) (C := Try.checked) false ⟨#[], #[.agg #[.slice none 0 0], .string ⟨#[]⟩, .int .i64 0], []⟩ 8 (by kernel_rfl) (by kernel_rfl) (by kernel_rfl) (by kernel_rfl)) ?_
  intro W base args ds gs before hval0 hW hcnd _
  have hval : ∀ (j : Nat) t v, Try.f3.params[j]? = some t → args[j]? = some v → Value.okWide Try.prog W .any base t v := hval0
  have hW' := hW
  obtain ⟨p, q, hA0, hV, rfl, hfz, hnd⟩ := hW
  have hA : DataW.TrodAll enc Try.prog W 0 (fun _ => true) true Try.f3.params.toList args.toList ds p := hA0
  rw [Try.params3] at hA hval
  obtain ⟨v0, v1, v2, d0, d1, d2, p0, p1, p2, rfl, rfl, rfl, h0, h1, h2⟩ := trodAll_three hA
  obtain ⟨rfl, rfl⟩ := trodVars_none hV
  obtain ⟨u0, xs0, rfl, hsl0, hsm0⟩ := open_gram (hval 0 24 v0 rfl rfl) h0
  obtain ⟨l1, rfl, ea1, eb1, hl1⟩ := open_string Try.underlying9 (hval 1 9 v1 rfl rfl) h1
  obtain ⟨s2, rfl, ea2, eb2, _⟩ := open_int Try.underlying2 (hval 2 2 v2 rfl rfl) h2
  clear hA0 hval0
  refine (lawNext_any u0 xs0 l1 s2 W hsl0 hsm0 hl1).mono fun e W' ⟨he, hb⟩ => ?_
  subst he
  exact ⟨_, rfl, post_of_below (pv := []) hW' (fun _ _ _ => trodAll_mk1 (shut_bool Try.underlying4 _)) (fun sp hsp => trodAll_below laidOut hb (of_decide_eq_true (by kernel_rfl)) hA (fun x hx => hW'.lt x (by simpa using hx)) sp (fun x hx => hsp x (by simpa using hx))) (fun _ _ => rfl) rfl hb (ok_one (by kernel_rfl) rfl (okWide_bool_mk Try.underlying4 _))⟩

theorem nextPattern_j1 : (Rows.fnExactNextPatternRow.inPlace == Try.pinned.checked.prog.inPlace 3) = true := by kernel_rfl
theorem nextPattern_j2 : (Rows.fnExactNextPatternRow.unfollowed == Try.pinned.checked.prog.unfollowed 3) = true := by kernel_rfl
theorem nextPattern_j3 : (Rows.fnExactNextPatternRow.recurses == Try.pinned.checked.prog.recurses 3) = true := by kernel_rfl
theorem nextPattern_j4 : (Rows.fnExactNextPatternRow.named == Try.pinned.checked.prog.varsNamed 3) = true := by kernel_rfl
theorem nextPattern_joined : joinedFacts Try.pinned.checked.prog 3 Try.f3 Rows.fnExactNextPatternSpec Rows.fnExactNextPatternRow = true := by
  unfold joinedFacts
  rw [nextPattern_j1, nextPattern_j2, nextPattern_j3, nextPattern_j4]
  kernel_rfl

theorem nextPattern_holds : Rows.FnExactNextPatternSaid :=
  OpenClaim.holds_of_wide 3 Try.f3 rfl rfl rfl rfl rfl rfl rfl ⟨rfl, rfl, rfl, rfl, rfl⟩ rfl rfl rfl rfl rfl (by kernel_rfl) Try.func3 nextPattern_joined
    (of_decide_eq_true (by kernel_rfl)) (by unfold Func.isWrapper; first | (rw [if_pos (by decide +kernel)]; kernel_rfl) | (rw [if_neg (by decide +kernel)]; exact ⟨rfl, rfl⟩))
    (fun os started H enc _ => nextPattern_lifted os started H enc)
end Go.Proofs.Ytfkijaamfmpboaa

