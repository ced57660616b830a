import Derived.Test.YtfapnipmgmpgaaaM11
/- 'laws.FnExactEditPlain' returns true at every argument, and leaves its arguments as they were. No condition. -/
namespace Go.Proofs.Ytfapnipmgmpgaaa
open Go.ChangeShapes Go.WideShapes Go.ChangeAt Go.RowKit Go.Joins
open Go.ChangeMaps (open_string)

set_option maxRecDepth 100000 in
theorem editPlain_lifted (os : Os) (started : os.Started) (H : Type) (enc : TypeId × Value → H) :
    ReturnsInHanded {} Try.checked os 3 .any (Rows.fnExactEditPlainSpec.pre6 enc Try.prog Try.f3 Rows.fnExactEditPlainRow.domain false) (Rows.fnExactEditPlainSpec.post enc Try.prog Try.f3 false true false false) := by
  refine returnsInHanded_of_change (C := Try.checked) own started (by kernel_rfl) Try.func3
    (ChangeSpec.witness6 (enc := enc) (C := Try.checked) false ⟨#[], #[.string ⟨#[]⟩, .agg #[.int .i64 0, .int .i64 0, .int .i64 0, .int .i64 0, .slice none 0 0, .string ⟨#[]⟩]], []⟩ 8 (by kernel_rfl) (by kernel_rfl) (by kernel_rfl) (by kernel_rfl)) ?_
  intro W base args ds gs before hval0 hW hcnd _
  have hval : ∀ (j : Nat) t v, Try.f3.params[j]? = some t → args[j]? = some v → Value.okWide Try.prog W .any base t v := hval0
  have hW' := hW
  obtain ⟨p, q, hA0, hV, rfl, hfz, hnd⟩ := hW
  have hA : DataW.TrodAll enc Try.prog W 0 (fun _ => true) true Try.f3.params.toList args.toList ds p := hA0
  rw [Try.params3] at hA hval
  obtain ⟨v0, v1, d0, d1, p0, p1, rfl, rfl, rfl, h0, h1⟩ := trodAll_two hA
  obtain ⟨rfl, rfl⟩ := trodVars_none hV
  obtain ⟨l0, rfl, ea0, eb0, hl0⟩ := open_string Try.underlying9 (hval 0 9 v0 rfl rfl) h0
  obtain ⟨e1, he1, hsm1, hm1⟩ := open_edit (hval 1 26 v1 rfl rfl) h1
  clear hA0 hval0
  refine (lawEditPlain_any l0 v1 e1 W hl0 he1 hsm1 hm1).mono fun e W' ⟨he, hb⟩ => ?_
  subst he
  exact ⟨_, rfl, post_of_below (pv := []) hW' (fun _ _ _ => trodAll_mk1 (shut_bool Try.underlying4 _)) (fun sp hsp => trodAll_below laidOut hb (of_decide_eq_true (by kernel_rfl)) hA (fun x hx => hW'.lt x (by simpa using hx)) sp (fun x hx => hsp x (by simpa using hx))) (fun _ _ => rfl) rfl hb (ok_one (by kernel_rfl) rfl (okWide_bool_mk Try.underlying4 _))⟩

theorem editPlain_j1 : (Rows.fnExactEditPlainRow.inPlace == Try.pinned.checked.prog.inPlace 3) = true := by kernel_rfl
theorem editPlain_j2 : (Rows.fnExactEditPlainRow.unfollowed == Try.pinned.checked.prog.unfollowed 3) = true := by kernel_rfl
theorem editPlain_j3 : (Rows.fnExactEditPlainRow.recurses == Try.pinned.checked.prog.recurses 3) = true := by kernel_rfl
theorem editPlain_j4 : (Rows.fnExactEditPlainRow.named == Try.pinned.checked.prog.varsNamed 3) = true := by kernel_rfl
theorem editPlain_joined : joinedFacts Try.pinned.checked.prog 3 Try.f3 Rows.fnExactEditPlainSpec Rows.fnExactEditPlainRow = true := by
  unfold joinedFacts
  rw [editPlain_j1, editPlain_j2, editPlain_j3, editPlain_j4]
  kernel_rfl

theorem editPlain_holds : Rows.FnExactEditPlainSaid :=
  OpenClaim.holds_of_wide 3 Try.f3 rfl rfl rfl rfl rfl rfl rfl ⟨rfl, rfl, rfl, rfl, rfl⟩ rfl rfl rfl rfl rfl (by kernel_rfl) Try.func3 editPlain_joined
    (of_decide_eq_true (by kernel_rfl)) (by unfold Func.isWrapper; first | (rw [if_pos (by decide +kernel)]; kernel_rfl) | (rw [if_neg (by decide +kernel)]; exact ⟨rfl, rfl⟩))
    (fun os started H enc _ => editPlain_lifted os started H enc)
end Go.Proofs.Ytfapnipmgmpgaaa

