import Derived.Test.YtoemoifeiigkoaaTurn2
namespace Go.Proofs.Ytoemoifeiigkoaa
open Go.RowKit

theorem cell_up {w w' : World} {N b : Nat} {v : Value} (h : w.cell? ⟨b, 0, none⟩ = some v) (hb : Below N w w') (hlt : b < N) : w'.cell? ⟨b, 0, none⟩ = some v := (hb.cell (p := ⟨b, 0, none⟩) hlt).trans h
theorem cell_up_grown {w w' : World} {b : Nat} {row : Option Nat} {v : Value} (h : w.cell? ⟨b, 0, none⟩ = some v) (hg : w.grownBy w' row) (hlt : b < w.heap.size) (hne : some b ≠ row) : w'.cell? ⟨b, 0, none⟩ = some v :=
  (World.cell?_of_block (a := ⟨b, 0, none⟩) (hg.block b hlt hne)).trans h
theorem own_keep {w w' : World} {base e s : Nat} {v : Value} {n : Nat} {xs : List Value} (h : w.ownsRow base e s v n xs) (hk : ∀ g, v.ownBlock = some g → w'.heap[g]? = w.heap[g]?) : w'.ownsRow base e s v n xs := by
  refine ⟨h.1, ?_⟩
  rcases h.2 with hn | ⟨g, cap, cur, rfl, hb, hgg, rest⟩
  · exact .inl hn
  · exact .inr ⟨g, cap, cur, rfl, hb, by rw [hk g rfl]; exact hgg, rest⟩
theorem own_rng {w : World} {base e s : Nat} {v : Value} {n : Nat} {xs : List Value} (h : w.ownsRow base e s v n xs) : ∀ g, v.ownBlock = some g → base ≤ g ∧ g < w.heap.size := h.lt
theorem below_of_grown {w w' : World} {row : Option Nat} {N : Nat} (hg : w.grownBy w' row) (hN : N ≤ w.heap.size) (hr : ∀ g, row = some g → N ≤ g) : Below N w w' :=
  ⟨hg.os, hg.tape, hg.output, hg.size, fun k hk => hg.block k (by omega) (fun e => by have := hr k e.symm; omega)⟩

theorem turnOut_len (xs : List GRule) : (turnOut xs).length ≤ xs.length := by unfold turnOut; split <;> simp
theorem markGrammar1 (base : Nat) (v : Value) (xs : List GRule) (w : World) (h : OwnRules w base v xs) (hn : xs.length ≤ 1099511627776) :
    Calls Try.prog 18 #[.agg #[v], .int .i64 1] w fun e w' => e = .returned (.int .i64 ((1 + 3 * xs.length : Nat) : Int)) ∧ OwnRules w' base v (marks 1 xs.length) ∧ w.grownBy w' v.ownBlock :=
  markGrammar_any base v xs 1 w h hn (by omega)
theorem heldGrammar1 (v : Value) (m : Nat) (w : World) (h : Sl RuleE w w.heap.size v (marks 1 m)) (hn : m ≤ 1099511627776) :
    Calls Try.prog 19 #[.agg #[v], .int .i64 1] w fun e w' => e = .returned (.int .i64 ((1 + 3 * m : Nat) : Int)) ∧ Below w.heap.size w w' :=
  heldGrammar_any v 1 m w h hn (by omega)
theorem OwnRules.below {w w' : World} {base : Nat} {v : Value} {l : List GRule} (h : OwnRules w base v l) (hb : Below w.heap.size w w') : OwnRules w' base v l := ownsRow_below h hb
theorem OwnRules.keep {w w' : World} {base : Nat} {v : Value} {l : List GRule} {row : Option Nat} (h : OwnRules w base v l) (hg : w.grownBy w' row) (hne : ∀ g, v.ownBlock = some g → some g ≠ row) : OwnRules w' base v l :=
  own_keep h fun g hgg => hg.block g (World.ownsRow.lt h g hgg).2 (hne g hgg)

theorem keepC {wr W W2 : World} {p q : Addr} {v u : Value} (h : Below wr.heap.size wr W ∧ W.cell? p = some v ∧ W.cell? q = some u) (h2 : Below W.heap.size W W2) (hp : p.block < wr.heap.size) (hq : q.block < wr.heap.size) :
    Below wr.heap.size wr W2 ∧ W2.cell? p = some v ∧ W2.cell? q = some u :=
  ⟨h.1.trans (h2.mono h.1.size), (h2.cell (Nat.lt_of_lt_of_le hp h.1.size)).trans h.2.1, (h2.cell (Nat.lt_of_lt_of_le hq h.1.size)).trans h.2.2⟩
theorem Hid_slR {w W w7 : World} {base : Nat} {v : Value} {l : List GRule} (h : OwnRules w base v l) (hb : Below w.heap.size w W) (hb7 : Below W.heap.size W w7) : Sl RuleE w7 w7.heap.size v l :=
  (h.below (hb.trans (hb7.mono hb.size))).sl

end Go.Proofs.Ytoemoifeiigkoaa
