/- 'laws.FnExactValidDepot' returns true for every depot, and leaves its argument as it was. No condition. -/
import Derived.Test.YthidgjdjijjkoaaDepot3
import Derived.Test.YthidgjdjijjkoaaOpenG
namespace Go.Proofs.Ythidgjdjijjkoaa
open Go.ChangeShapes Go.WideShapes Go.ChangeAt Go.RowKit Go.Joins
open Go.ChangeMaps (open_string)
theorem cellsDepot : Try.prog.cellsOf 41 = 3 := by kernel_rfl
theorem opensGramS : Opens Try.prog (SliceE (SliceE RuleE)) (fun ws => ∀ xs ∈ ws, ∀ r ∈ xs, r.letter.size ≤ maxLen) 39 := opens_slice opensGram Try.underlying39 (by kernel_rfl)
set_option maxRecDepth 100000 in
theorem open_depot {H : Type} {enc : TypeId × Value → H} {w : World} {base : Nat} {spare : Nat → Bool} {held : Bool} {r : Reach} {b0 : Nat} {v : Value} {d : DataW H} {p : List MemPlace}
    (hv : Value.okWide Try.prog w r b0 41 v) (h : DataW.Trod enc Try.prog w base spare held 41 v d p) : ∃ a, DepotV w w.heap.size v a ∧ SmallLs a.words := by
  obtain ⟨c0, c1, c2, y0, y1, y2, m, rfl, hd, hp, hy0, hy1, hy2⟩ := open_agg3 Try.underlying41 (by kernel_rfl) cellsDepot hv h
  obtain ⟨k, e0, _, _⟩ := DataW.trod_int Try.underlying2 hy0
  obtain ⟨s, e1, _, _⟩ := DataW.trod_int Try.underlying2 hy1
  obtain ⟨xs, ⟨v2, e2, h2⟩, hs⟩ := opensGramS enc w base spare held _ _ _ hy2
  simp at e0 e1 e2
  subst e0 e1 e2
  exact ⟨⟨k, s, xs⟩, ⟨_, rfl, h2⟩, fun g hg => SmallL_of (hs g hg)⟩

set_option maxRecDepth 100000 in
theorem validDepot_lifted (os : Os) (started : os.Started) (H : Type) (enc : TypeId × Value → H) :
    ReturnsInHanded {} Try.checked os 5 .any (Rows.fnExactValidDepotSpec.pre6 enc Try.prog Try.f5 Rows.fnExactValidDepotRow.domain false) (Rows.fnExactValidDepotSpec.post enc Try.prog Try.f5 false true false false) := by
  refine returnsInHanded_of_change (C := Try.checked) own started (by kernel_rfl) Try.func5
    (ChangeSpec.witness6 (enc := enc) (C := Try.checked) false ⟨#[], #[.agg #[.int .i64 0, .int .i64 0, .slice none 0 0]], []⟩ 8 (by kernel_rfl) (by kernel_rfl) (by kernel_rfl) (by kernel_rfl)) ?_
  intro W base args ds gs before hval0 hW hcnd _
  have hval : ∀ (j : Nat) t v, Try.f5.params[j]? = some t → args[j]? = some v → Value.okWide Try.prog W .any base t v := hval0
  have hW' := hW
  obtain ⟨p, q, hA0, hV, rfl, hfz, hnd⟩ := hW
  have hA : DataW.TrodAll enc Try.prog W 0 (fun _ => true) true Try.f5.params.toList args.toList ds p := hA0
  rw [Try.params5] at hA hval
  obtain ⟨v0, d0, rfl, rfl, h0⟩ := trodAll_one hA
  obtain ⟨rfl, rfl⟩ := trodVars_none hV
  obtain ⟨a, ha, hs⟩ := open_depot (hval 0 41 v0 rfl rfl) h0
  clear hA0 hval0
  refine (lawValidDepot_any v0 a W ha hs).mono fun e W' ⟨he, hb⟩ => ?_
  subst he
  exact ⟨_, rfl, post_of_below (pv := []) hW' (fun _ _ _ => trodAll_mk1 (shut_bool Try.underlying4 _)) (fun sp hsp => trodAll_below laidOut hb (of_decide_eq_true (by kernel_rfl)) hA (fun x hx => hW'.lt x (by simpa using hx)) sp (fun x hx => hsp x (by simpa using hx))) (fun _ _ => rfl) rfl hb (ok_one (by kernel_rfl) rfl (okWide_bool_mk Try.underlying4 _))⟩

theorem validDepot_holds : Rows.FnExactValidDepotSaid :=
  OpenClaim.holds_of_wide 5 Try.f5 rfl rfl rfl rfl rfl rfl rfl ⟨rfl, rfl, rfl, rfl, rfl⟩ rfl rfl rfl rfl rfl (by kernel_rfl) Try.func5 (by kernel_rfl)
    (of_decide_eq_true (by kernel_rfl)) (by unfold Func.isWrapper; first | (rw [if_pos (by decide +kernel)]; kernel_rfl) | (rw [if_neg (by decide +kernel)]; exact ⟨rfl, rfl⟩))
    (fun os started H enc _ => validDepot_lifted os started H enc)
end Go.Proofs.Ythidgjdjijjkoaa
