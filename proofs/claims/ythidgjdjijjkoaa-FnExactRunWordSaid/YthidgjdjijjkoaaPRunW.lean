/- 'laws.FnExactRunWord' returns true for every automaton, state and text, and leaves its arguments as they were. No condition. -/
import Derived.Test.YthidgjdjijjkoaaLRunW
import Derived.Test.YthidgjdjijjkoaaOpenG
namespace Go.Proofs.Ythidgjdjijjkoaa
open Go.ChangeShapes Go.WideShapes Go.ChangeAt Go.RowKit Go.Joins
open Go.ChangeMaps (open_string)
theorem cellsAuto : Try.prog.cellsOf 31 = 4 := by kernel_rfl
theorem opensInts : Opens Try.prog IntE (fun _ => True) 2 := opens_int Try.underlying2
theorem opensIntS : Opens Try.prog (SliceE IntE) (fun xs => ∀ x ∈ xs, True) 28 := opens_slice opensInts Try.underlying28 (by kernel_rfl)
theorem opensIntSS : Opens Try.prog (SliceE (SliceE IntE)) (fun xs => ∀ x ∈ xs, ∀ y ∈ x, True) 29 := opens_slice opensIntS Try.underlying29 (by kernel_rfl)
set_option maxRecDepth 100000 in
theorem open_auto {H : Type} {enc : TypeId × Value → H} {w : World} {base : Nat} {spare : Nat → Bool} {held : Bool} {r : Reach} {b0 : Nat} {v : Value} {d : DataW H} {p : List MemPlace}
    (hv : Value.okWide Try.prog w r b0 31 v) (h : DataW.Trod enc Try.prog w base spare held 31 v d p) : ∃ a, AutoV w w.heap.size v a := by
  obtain ⟨c0, c1, c2, c3, y0, y1, y2, y3, m, rfl, hd, hp, hy0, hy1, hy2, hy3⟩ := open_agg4 Try.underlying31 (by kernel_rfl) cellsAuto hv h
  obtain ⟨k, e0, _, _⟩ := DataW.trod_int Try.underlying2 hy0
  obtain ⟨s, e1, _, _⟩ := DataW.trod_int Try.underlying2 hy1
  obtain ⟨xs, ⟨v2, e2, h2⟩, _⟩ := opensIntS enc w base spare held _ _ _ hy2
  obtain ⟨ys, ⟨v3, e3, h3⟩, _⟩ := opensIntSS enc w base spare held _ _ _ hy3
  simp at e0 e1 e2 e3
  subst e0 e1 e2 e3
  exact ⟨⟨k, s, xs, ys⟩, _, _, rfl, h2, h3⟩

set_option maxRecDepth 100000 in
theorem runWord_lifted (os : Os) (started : os.Started) (H : Type) (enc : TypeId × Value → H) :
    ReturnsInHanded {} Try.checked os 4 .any (Rows.fnExactRunWordSpec.pre6 enc Try.prog Try.f4 Rows.fnExactRunWordRow.domain false) (Rows.fnExactRunWordSpec.post enc Try.prog Try.f4 false true false false) := by
  refine returnsInHanded_of_change (C := Try.checked) own started (by kernel_rfl) Try.func4
    (ChangeSpec.witness6 (enc := enc) (C := Try.checked) false ⟨#[], #[.agg #[.int .i64 0, .int .i64 0, .slice none 0 0, .slice none 0 0], .int .i64 0, .string ⟨#[]⟩], []⟩ 8 (by kernel_rfl) (by kernel_rfl) (by kernel_rfl) (by kernel_rfl)) ?_
  intro W base args ds gs before hval0 hW hcnd _
  have hval : ∀ (j : Nat) t v, Try.f4.params[j]? = some t → args[j]? = some v → Value.okWide Try.prog W .any base t v := hval0
  have hW' := hW
  obtain ⟨p, q, hA0, hV, rfl, hfz, hnd⟩ := hW
  have hA : DataW.TrodAll enc Try.prog W 0 (fun _ => true) true Try.f4.params.toList args.toList ds p := hA0
  rw [Try.params4] at hA hval
  obtain ⟨v0, v1, v2, d0, d1, d2, p0, p1, p2, rfl, rfl, rfl, h0, h1, h2⟩ := trodAll_three hA
  obtain ⟨rfl, rfl⟩ := trodVars_none hV
  obtain ⟨a, ha⟩ := open_auto (hval 0 31 v0 rfl rfl) h0
  obtain ⟨s, rfl, e1, e2, _⟩ := open_int Try.underlying2 (hval 1 2 v1 rfl rfl) h1
  obtain ⟨l, rfl, e3, e4, hl⟩ := open_string Try.underlying9 (hval 2 9 v2 rfl rfl) h2
  clear hA0 hval0
  refine (lawRunWord_any v0 a s l W ha hl).mono fun e W' ⟨he, hb⟩ => ?_
  subst he
  exact ⟨_, rfl, post_of_below (pv := []) hW' (fun _ _ _ => trodAll_mk1 (shut_bool Try.underlying4 _)) (fun sp hsp => trodAll_below laidOut hb (of_decide_eq_true (by kernel_rfl)) hA (fun x hx => hW'.lt x (by simpa using hx)) sp (fun x hx => hsp x (by simpa using hx))) (fun _ _ => rfl) rfl hb (ok_one (by kernel_rfl) rfl (okWide_bool_mk Try.underlying4 _))⟩

theorem runWord_holds : Rows.FnExactRunWordSaid :=
  OpenClaim.holds_of_wide 4 Try.f4 rfl rfl rfl rfl rfl rfl rfl ⟨rfl, rfl, rfl, rfl, rfl⟩ rfl rfl rfl rfl rfl (by kernel_rfl) Try.func4 (by kernel_rfl)
    (of_decide_eq_true (by kernel_rfl)) (by unfold Func.isWrapper; first | (rw [if_pos (by decide +kernel)]; kernel_rfl) | (rw [if_neg (by decide +kernel)]; exact ⟨rfl, rfl⟩))
    (fun os started H enc _ => runWord_lifted os started H enc)
end Go.Proofs.Ythidgjdjijjkoaa
