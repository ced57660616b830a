import Derived.Test.YtfkijaamfmpboaaM7
/- 'laws.FnEmbeds' returns true at every argument, and leaves its arguments as they were. No condition. -/
namespace Go.Proofs.Ytfkijaamfmpboaa
open Go.ChangeShapes Go.WideShapes Go.ChangeAt Go.RowKit Go.Joins
open Go.ChangeMaps (open_string)

set_option maxRecDepth 100000 in
theorem embeds_lifted (os : Os) (started : os.Started) (H : Type) (enc : TypeId × Value → H) :
    ReturnsInHanded {} Try.checked os 5 .any (Rows.fnEmbedsSpec.pre6 enc Try.prog Try.f5 Rows.fnEmbedsRow.domain false) (Rows.fnEmbedsSpec.post enc Try.prog Try.f5 false true false false) := by
  refine returnsInHanded_of_change (C := Try.checked) own started (by kernel_rfl) Try.func5
    (ChangeSpec.witness6 (enc := enc) (C := Try.checked) false ⟨#[], #[.slice none 0 0, .slice none 0 0], []⟩ 8 (by kernel_rfl) (by kernel_rfl) (by kernel_rfl) (by kernel_rfl)) ?_
  intro W base args ds gs before hval0 hW hcnd _
  have hval : ∀ (j : Nat) t v, Try.f5.params[j]? = some t → args[j]? = some v → Value.okWide Try.prog W .any base t v := hval0
  have hW' := hW
  obtain ⟨p, q, hA0, hV, rfl, hfz, hnd⟩ := hW
  have hA : DataW.TrodAll enc Try.prog W 0 (fun _ => true) true Try.f5.params.toList args.toList ds p := hA0
  rw [Try.params5] at hA hval
  obtain ⟨v0, v1, d0, d1, p0, p1, rfl, rfl, rfl, h0, h1⟩ := trodAll_two hA
  obtain ⟨rfl, rfl⟩ := trodVars_none hV
  obtain ⟨xs0, hsl0⟩ := open_bytes (hval 0 41 v0 rfl rfl) h0
  obtain ⟨xs1, hsl1⟩ := open_bytes (hval 1 41 v1 rfl rfl) h1
  clear hA0 hval0
  refine (lawEmbeds_any v0 v1 xs0 xs1 W hsl0 hsl1).mono fun e W' ⟨he, hb⟩ => ?_
  subst he
  exact ⟨_, rfl, post_of_below (pv := []) hW' (fun _ _ _ => trodAll_mk1 (shut_bool Try.underlying4 _)) (fun sp hsp => trodAll_below laidOut hb (of_decide_eq_true (by kernel_rfl)) hA (fun x hx => hW'.lt x (by simpa using hx)) sp (fun x hx => hsp x (by simpa using hx))) (fun _ _ => rfl) rfl hb (ok_one (by kernel_rfl) rfl (okWide_bool_mk Try.underlying4 _))⟩

theorem embeds_j1 : (Rows.fnEmbedsRow.inPlace == Try.pinned.checked.prog.inPlace 5) = true := by kernel_rfl
theorem embeds_j2 : (Rows.fnEmbedsRow.unfollowed == Try.pinned.checked.prog.unfollowed 5) = true := by kernel_rfl
theorem embeds_j3 : (Rows.fnEmbedsRow.recurses == Try.pinned.checked.prog.recurses 5) = true := by kernel_rfl
theorem embeds_j4 : (Rows.fnEmbedsRow.named == Try.pinned.checked.prog.varsNamed 5) = true := by kernel_rfl
theorem embeds_joined : joinedFacts Try.pinned.checked.prog 5 Try.f5 Rows.fnEmbedsSpec Rows.fnEmbedsRow = true := by
  unfold joinedFacts
  rw [embeds_j1, embeds_j2, embeds_j3, embeds_j4]
  kernel_rfl

theorem embeds_holds : Rows.FnEmbedsSaid :=
  OpenClaim.holds_of_wide 5 Try.f5 rfl rfl rfl rfl rfl rfl rfl ⟨rfl, rfl, rfl, rfl, rfl⟩ rfl rfl rfl rfl rfl (by kernel_rfl) Try.func5 embeds_joined
    (of_decide_eq_true (by kernel_rfl)) (by unfold Func.isWrapper; first | (rw [if_pos (by decide +kernel)]; kernel_rfl) | (rw [if_neg (by decide +kernel)]; exact ⟨rfl, rfl⟩))
    (fun os started H enc _ => embeds_lifted os started H enc)
end Go.Proofs.Ytfkijaamfmpboaa

