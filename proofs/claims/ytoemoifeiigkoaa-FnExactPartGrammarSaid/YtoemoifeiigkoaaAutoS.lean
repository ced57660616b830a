import Derived.Test.YtoemoifeiigkoaaAutoR
namespace Go.Proofs.Ytoemoifeiigkoaa
open Go.RowKit

theorem l04Letter_any (c : UInt8) (w : World) (h1 : 97 ≤ c.toNat) (h2 : c.toNat ≤ 100) :
    Calls Try.prog 90 #[.int .u8 c.toNat] w fun e w' => e = .returned (.int .i64 ((c.toNat - 97 : Nat) : Int)) ∧ w = w' := by
  obtain ⟨d, hd⟩ : ∃ d, c.toNat = 97 + d := ⟨c.toNat - 97, by omega⟩
  have hd3 : d ≤ 3 := by omega
  rw [hd]
  clear hd h1 h2
  go_enter Try.func90, Try.ntmps90
  go_wp2_with fail
  go_ret
  exact ⟨ret_int (by omega), rfl⟩

theorem drewN_below {w w' : World} (h : ∃ n, w' = w.drewN n) : Below w.heap.size w w' := by
  obtain ⟨n, rfl⟩ := h; exact below_drewN (Below.refl _ _) n

/-- Four cells of a block. -/
def Box4 (w : World) (b : Nat) (c0 c1 c2 c3 : Value) : Prop := w.cell? ⟨b, 0, none⟩ = some c0 ∧ w.cell? ⟨b, 1, none⟩ = some c1 ∧ w.cell? ⟨b, 2, none⟩ = some c2 ∧ w.cell? ⟨b, 3, none⟩ = some c3
theorem Box4.up {w w' : World} {b N : Nat} {c0 c1 c2 c3 : Value} (h : Box4 w b c0 c1 c2 c3) (hb : Below N w w') (hlt : b < N) : Box4 w' b c0 c1 c2 c3 :=
  ⟨(hb.cell (p := ⟨b, 0, none⟩) hlt).trans h.1, (hb.cell (p := ⟨b, 1, none⟩) hlt).trans h.2.1, (hb.cell (p := ⟨b, 2, none⟩) hlt).trans h.2.2.1, (hb.cell (p := ⟨b, 3, none⟩) hlt).trans h.2.2.2⟩
theorem Box4.new {w w' : World} {c0 c1 c2 c3 : Value} {t : TypeId} (hb : Below (w.alloc (.cells #[c0, c1, c2, c3] t)).heap.size (w.alloc (.cells #[c0, c1, c2, c3] t)) w') : Box4 w' w.heap.size c0 c1 c2 c3 :=
  Box4.up (w := w.alloc (.cells #[c0, c1, c2, c3] t)) ⟨by simp [go_sem], by simp [go_sem], by simp [go_sem], by simp [go_sem]⟩ hb (by simp)
theorem keep8 {wr W W2 : World} {p q : Nat} {a0 a1 a2 a3 b0 b1 b2 b3 : Value}
    (h : Below wr.heap.size wr W ∧ W.cell? ⟨p, 0, none⟩ = some a0 ∧ W.cell? ⟨p, 1, none⟩ = some a1 ∧ W.cell? ⟨p, 2, none⟩ = some a2 ∧ W.cell? ⟨p, 3, none⟩ = some a3 ∧ W.cell? ⟨q, 0, none⟩ = some b0 ∧ W.cell? ⟨q, 1, none⟩ = some b1 ∧ W.cell? ⟨q, 2, none⟩ = some b2 ∧ W.cell? ⟨q, 3, none⟩ = some b3)
    (h2 : Below W.heap.size W W2) (hp : p < wr.heap.size) (hq : q < wr.heap.size) :
    Below wr.heap.size wr W2 ∧ W2.cell? ⟨p, 0, none⟩ = some a0 ∧ W2.cell? ⟨p, 1, none⟩ = some a1 ∧ W2.cell? ⟨p, 2, none⟩ = some a2 ∧ W2.cell? ⟨p, 3, none⟩ = some a3 ∧ W2.cell? ⟨q, 0, none⟩ = some b0 ∧ W2.cell? ⟨q, 1, none⟩ = some b1 ∧ W2.cell? ⟨q, 2, none⟩ = some b2 ∧ W2.cell? ⟨q, 3, none⟩ = some b3 := by
  obtain ⟨h1, x0, x1, x2, x3, y0, y1, y2, y3⟩ := h
  have A := Box4.up ⟨x0, x1, x2, x3⟩ h2 (Nat.lt_of_lt_of_le hp h1.size)
  have B := Box4.up ⟨y0, y1, y2, y3⟩ h2 (Nat.lt_of_lt_of_le hq h1.size)
  exact ⟨h1.trans (h2.mono h1.size), A.1, A.2.1, A.2.2.1, A.2.2.2, B.1, B.2.1, B.2.2.1, B.2.2.2⟩

end Go.Proofs.Ytoemoifeiigkoaa
