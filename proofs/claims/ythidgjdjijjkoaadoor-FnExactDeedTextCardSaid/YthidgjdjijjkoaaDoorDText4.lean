import Derived.Test.YthidgjdjijjkoaaDoorDText3
namespace Go.Proofs.YthidgjdjijjkoaaDoor
open Go.RowKit

set_option maxRecDepth 100000 in
theorem lawDeedText_any (k a b c : Int) (w : World) (htab : Lib.TabIs Tryd.prog w "internal/strconv.uint64pow10" .u64 Lib.pow10Tab) :
    Calls Tryd.prog 3 #[.agg #[.int .i64 k, .int .i64 a, .int .i64 b, .int .i64 c]] w fun e w' => e = .returned (.bool true) ∧ Below w.heap.size w w' := by
  have HT := Lib.hid htab
  clear htab
  go_enter Tryd.func3, Tryd.ntmps3
  go_wp2_with fail
  refine (toDeed_any _ _ _ _ _).mono ?_
  rintro e w1 ⟨rfl, hb1⟩
  have z1 : w.heap.size < w1.heap.size := Nat.lt_of_lt_of_le (by simp) hb1.size
  have X1 := Lib.hid (Box4.upD (b := w.heap.size) (c0 := .int .i64 k) (c1 := .int .i64 a) (c2 := .int .i64 b) (c3 := .int .i64 c) ⟨by simp [go_sem], by simp [go_sem], by simp [go_sem], by simp [go_sem]⟩ hb1 (by simp))
  have B1 := Lib.hid (((Below.refl w.heap.size w).alloc (Nat.le_refl _) _).trans (hb1.mono (by simp)))
  clear hb1
  go_wp2_with fail
  refine (specDeedText_any k a b c _).mono ?_
  rintro e w2 ⟨rfl, hb2⟩
  have z2 : w.heap.size < w2.heap.size := Nat.lt_of_lt_of_le z1 hb2.size
  have X2 := Lib.hid (Box4.upD X1.out hb2 z1)
  have B2 := Lib.hid (B1.out.trans (hb2.mono B1.out.size))
  clear hb2
  obtain ⟨x0, x1, x2, x3⟩ := And.intro X2.out.1 X2.out.2
  go_wp2_with fail
  refine (toDeed_any _ _ _ _ _).mono ?_
  rintro e w3 ⟨rfl, hb3⟩
  have B3 := Lib.hid (B2.out.trans (hb3.mono B2.out.size))
  clear hb3 x0 x1 x2 x3
  go_wp2_with fail
  refine (implDeedText_any k a b c _ (tab_below HT.out B3.out)).mono ?_
  rintro e w4 ⟨rfl, hb4⟩
  have B4 := Lib.hid (B3.out.trans (hb4.mono B3.out.size))
  clear hb4
  go_wp2_with fail
  go_ret
  exact ⟨rfl, B4.out⟩
end Go.Proofs.YthidgjdjijjkoaaDoor
