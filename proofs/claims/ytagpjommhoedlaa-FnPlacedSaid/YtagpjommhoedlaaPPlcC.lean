import Derived.Test.YtagpjommhoedlaaM6
/- 'laws.FnPlaced' returns true at every argument, and leaves its arguments as they were. No condition. -/
namespace Go.Proofs.Ytagpjommhoedlaa
open Go.ChangeShapes Go.WideShapes Go.ChangeAt Go.RowKit Go.Joins
open Go.ChangeMaps (open_string)

set_option maxRecDepth 100000 in
theorem placed_lifted (os : Os) (started : os.Started) (H : Type) (enc : TypeId × Value → H) :
    ReturnsInHanded {} Try.checked os 3 .any (Rows.fnPlacedSpec.pre6 enc Try.prog Try.f3 Rows.fnPlacedRow.domain false) (Rows.fnPlacedSpec.post enc Try.prog Try.f3 false true false false) := by
  refine returnsInHanded_of_change (C := Try.checked) own started (by kernel_rfl) Try.func3
    (ChangeSpec.witness6 (enc := enc) (C := Try.checked) false ⟨#[], #[.slice none 0 0, .slice none 0 0], []⟩ 8 (by kernel_rfl) (by kernel_rfl) (by kernel_rfl) (by kernel_rfl)) ?_
  intro W base args ds gs before hval0 hW hcnd _
  have hval : ∀ (j : Nat) t v, Try.f3.params[j]? = some t → args[j]? = some v → Value.okWide Try.prog W .any base t v := hval0
  have hW' := hW
  obtain ⟨p, q, hA0, hV, rfl, hfz, hnd⟩ := hW
  have hA : DataW.TrodAll enc Try.prog W 0 (fun _ => true) true Try.f3.params.toList args.toList ds p := hA0
  rw [Try.params3] at hA hval
  obtain ⟨v0, v1, d0, d1, p0, p1, rfl, rfl, rfl, h0, h1⟩ := trodAll_two hA
  obtain ⟨rfl, rfl⟩ := trodVars_none hV
  obtain ⟨xs0, hsl0⟩ := open_bytes (hval 0 22 v0 rfl rfl) h0
  obtain ⟨xs1, hsl1⟩ := open_bytes (hval 1 22 v1 rfl rfl) h1
  clear hA0 hval0
  refine (lawPlaced_any v0 v1 xs0 xs1 W hsl0 hsl1).mono fun e W' ⟨he, hb⟩ => ?_
  subst he
  exact ⟨_, rfl, post_of_below (pv := []) hW' (fun _ _ _ => trodAll_mk1 (shut_bool Try.underlying4 _)) (fun sp hsp => trodAll_below laidOut hb (of_decide_eq_true (by kernel_rfl)) hA (fun x hx => hW'.lt x (by simpa using hx)) sp (fun x hx => hsp x (by simpa using hx))) (fun _ _ => rfl) rfl hb (ok_one (by kernel_rfl) rfl (okWide_bool_mk Try.underlying4 _))⟩

theorem placed_j1 : (Rows.fnPlacedRow.inPlace == Try.pinned.checked.prog.inPlace 3) = true := by kernel_rfl
theorem placed_j2 : (Rows.fnPlacedRow.unfollowed == Try.pinned.checked.prog.unfollowed 3) = true := by kernel_rfl
theorem placed_j3 : (Rows.fnPlacedRow.recurses == Try.pinned.checked.prog.recurses 3) = true := by kernel_rfl
theorem placed_j4 : (Rows.fnPlacedRow.named == Try.pinned.checked.prog.varsNamed 3) = true := by kernel_rfl
theorem placed_joined : joinedFacts Try.pinned.checked.prog 3 Try.f3 Rows.fnPlacedSpec Rows.fnPlacedRow = true := by
  unfold joinedFacts
  rw [placed_j1, placed_j2, placed_j3, placed_j4]
  kernel_rfl

theorem placed_holds : Rows.FnPlacedSaid :=
  OpenClaim.holds_of_wide 3 Try.f3 rfl rfl rfl rfl rfl rfl rfl ⟨rfl, rfl, rfl, rfl, rfl⟩ rfl rfl rfl rfl rfl (by kernel_rfl) Try.func3 placed_joined
    (of_decide_eq_true (by kernel_rfl)) (by unfold Func.isWrapper; first | (rw [if_pos (by decide +kernel)]; kernel_rfl) | (rw [if_neg (by decide +kernel)]; exact ⟨rfl, rfl⟩))
    (fun os started H enc _ => placed_lifted os started H enc)
end Go.Proofs.Ytagpjommhoedlaa

