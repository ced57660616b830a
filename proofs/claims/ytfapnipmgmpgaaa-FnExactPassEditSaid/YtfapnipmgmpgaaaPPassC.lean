import Derived.Test.YtfapnipmgmpgaaaM6
/- 'laws.FnExactPassEdit' returns true at every argument, and leaves its arguments as they were. No condition. -/
namespace Go.Proofs.Ytfapnipmgmpgaaa
open Go.ChangeShapes Go.WideShapes Go.ChangeAt Go.RowKit Go.Joins
open Go.ChangeMaps (open_string)

set_option maxRecDepth 100000 in
theorem passEdit_lifted (os : Os) (started : os.Started) (H : Type) (enc : TypeId × Value → H) :
    ReturnsInHanded {} Try.checked os 4 .any (Rows.fnExactPassEditSpec.pre6 enc Try.prog Try.f4 Rows.fnExactPassEditRow.domain false) (Rows.fnExactPassEditSpec.post enc Try.prog Try.f4 false true false false) := by
  refine returnsInHanded_of_change (C := Try.checked) own started (by kernel_rfl) Try.func4
    (ChangeSpec.witness6 (enc := enc) (C := Try.checked) false ⟨#[], #[.agg #[.int .i64 0, .int .i64 0, .int .i64 0, .int .i64 0, .slice none 0 0, .string ⟨#[]⟩], .agg #[.int .i64 0, .int .i64 0, .int .i64 0, .int .i64 0, .slice none 0 0, .string ⟨#[]⟩], .bool false], []⟩ 8 (by kernel_rfl) (by kernel_rfl) (by kernel_rfl) (by kernel_rfl)) ?_
  intro W base args ds gs before hval0 hW hcnd _
  have hval : ∀ (j : Nat) t v, Try.f4.params[j]? = some t → args[j]? = some v → Value.okWide Try.prog W .any base t v := hval0
  have hW' := hW
  obtain ⟨p, q, hA0, hV, rfl, hfz, hnd⟩ := hW
  have hA : DataW.TrodAll enc Try.prog W 0 (fun _ => true) true Try.f4.params.toList args.toList ds p := hA0
  rw [Try.params4] at hA hval
  obtain ⟨v0, v1, v2, d0, d1, d2, p0, p1, p2, rfl, rfl, rfl, h0, h1, h2⟩ := trodAll_three hA
  obtain ⟨rfl, rfl⟩ := trodVars_none hV
  obtain ⟨e0, he0, hsm0, hm0⟩ := open_edit (hval 0 26 v0 rfl rfl) h0
  obtain ⟨e1, he1, hsm1, hm1⟩ := open_edit (hval 1 26 v1 rfl rfl) h1
  obtain ⟨b2, rfl, ea2, eb2⟩ := open_bool Try.underlying4 (hval 2 4 v2 rfl rfl) h2
  clear hA0 hval0
  refine (lawPass_any v0 v1 e0 e1 b2 W he0 hsm0 hm0 he1 hsm1 hm1).mono fun e W' ⟨he, hb⟩ => ?_
  subst he
  exact ⟨_, rfl, post_of_below (pv := []) hW' (fun _ _ _ => trodAll_mk1 (shut_bool Try.underlying4 _)) (fun sp hsp => trodAll_below laidOut hb (of_decide_eq_true (by kernel_rfl)) hA (fun x hx => hW'.lt x (by simpa using hx)) sp (fun x hx => hsp x (by simpa using hx))) (fun _ _ => rfl) rfl hb (ok_one (by kernel_rfl) rfl (okWide_bool_mk Try.underlying4 _))⟩

theorem passEdit_j1 : (Rows.fnExactPassEditRow.inPlace == Try.pinned.checked.prog.inPlace 4) = true := by kernel_rfl
theorem passEdit_j2 : (Rows.fnExactPassEditRow.unfollowed == Try.pinned.checked.prog.unfollowed 4) = true := by kernel_rfl
theorem passEdit_j3 : (Rows.fnExactPassEditRow.recurses == Try.pinned.checked.prog.recurses 4) = true := by kernel_rfl
theorem passEdit_j4 : (Rows.fnExactPassEditRow.named == Try.pinned.checked.prog.varsNamed 4) = true := by kernel_rfl
theorem passEdit_joined : joinedFacts Try.pinned.checked.prog 4 Try.f4 Rows.fnExactPassEditSpec Rows.fnExactPassEditRow = true := by
  unfold joinedFacts
  rw [passEdit_j1, passEdit_j2, passEdit_j3, passEdit_j4]
  kernel_rfl

theorem passEdit_holds : Rows.FnExactPassEditSaid :=
  OpenClaim.holds_of_wide 4 Try.f4 rfl rfl rfl rfl rfl rfl rfl ⟨rfl, rfl, rfl, rfl, rfl⟩ rfl rfl rfl rfl rfl (by kernel_rfl) Try.func4 passEdit_joined
    (of_decide_eq_true (by kernel_rfl)) (by unfold Func.isWrapper; first | (rw [if_pos (by decide +kernel)]; kernel_rfl) | (rw [if_neg (by decide +kernel)]; exact ⟨rfl, rfl⟩))
    (fun os started H enc _ => passEdit_lifted os started H enc)
end Go.Proofs.Ytfapnipmgmpgaaa

