import Derived.Test.YtfapnipmgmpgaaaM3
import Derived.Test.YtfapnipmgmpgaaaM2
namespace Go.Proofs.Ytfapnipmgmpgaaa
open Go.RowKit

theorem cell_up {w w' : World} {N b : Nat} {v : Value} (h : w.cell? ⟨b, 0, none⟩ = some v) (hb : Below N w w') (hlt : b < N) : w'.cell? ⟨b, 0, none⟩ = some v := (hb.cell (p := ⟨b, 0, none⟩) hlt).trans h
theorem cell_up_grown {w w' : World} {b : Nat} {row : Option Nat} {v : Value} (h : w.cell? ⟨b, 0, none⟩ = some v) (hg : w.grownBy w' row) (hlt : b < w.heap.size) (hne : some b ≠ row) : w'.cell? ⟨b, 0, none⟩ = some v :=
  (World.cell?_of_block (a := ⟨b, 0, none⟩) (hg.block b hlt hne)).trans h
theorem own_keep {w w' : World} {base e s : Nat} {v : Value} {n : Nat} {xs : List Value} (h : w.ownsRow base e s v n xs) (hk : ∀ g, v.ownBlock = some g → w'.heap[g]? = w.heap[g]?) : w'.ownsRow base e s v n xs := by
  refine ⟨h.1, ?_⟩
  rcases h.2 with hn | ⟨g, cap, cur, rfl, hb, hgg, rest⟩
  · exact .inl hn
  · exact .inr ⟨g, cap, cur, rfl, hb, by rw [hk g rfl]; exact hgg, rest⟩
theorem own_rng {w : World} {base e s : Nat} {v : Value} {n : Nat} {xs : List Value} (h : w.ownsRow base e s v n xs) : ∀ g, v.ownBlock = some g → base ≤ g ∧ g < w.heap.size := h.lt
theorem below_of_grown {w w' : World} {row : Option Nat} {N : Nat} (hg : w.grownBy w' row) (hN : N ≤ w.heap.size) (hr : ∀ g, row = some g → N ≤ g) : Below N w w' :=
  ⟨hg.os, hg.tape, hg.output, hg.size, fun k hk => hg.block k (by omega) (fun e => by have := hr k e.symm; omega)⟩

theorem turnOut_len (xs : List GRule) : (turnOut xs).length ≤ xs.length := by unfold turnOut; split <;> simp
theorem markGrammar1 (base : Nat) (v : Value) (xs : List GRule) (w : World) (h : OwnRules w base v xs) (hn : xs.length ≤ 1099511627776) :
    Calls Try.prog 26 #[.agg #[v], .int .i64 1] w fun e w' => e = .returned (.int .i64 ((1 + 3 * xs.length : Nat) : Int)) ∧ OwnRules w' base v (marks 1 xs.length) ∧ w.grownBy w' v.ownBlock :=
  markGrammar_any base v xs 1 w h hn (by omega)
theorem heldGrammar1 (v : Value) (m : Nat) (w : World) (h : Sl RuleE w w.heap.size v (marks 1 m)) (hn : m ≤ 1099511627776) :
    Calls Try.prog 27 #[.agg #[v], .int .i64 1] w fun e w' => e = .returned (.int .i64 ((1 + 3 * m : Nat) : Int)) ∧ Below w.heap.size w w' :=
  heldGrammar_any v 1 m w h hn (by omega)
theorem OwnRules.below {w w' : World} {base : Nat} {v : Value} {l : List GRule} (h : OwnRules w base v l) (hb : Below w.heap.size w w') : OwnRules w' base v l := ownsRow_below h hb
theorem OwnRules.keep {w w' : World} {base : Nat} {v : Value} {l : List GRule} {row : Option Nat} (h : OwnRules w base v l) (hg : w.grownBy w' row) (hne : ∀ g, v.ownBlock = some g → some g ≠ row) : OwnRules w' base v l :=
  own_keep h fun g hgg => hg.block g (World.ownsRow.lt h g hgg).2 (hne g hgg)

theorem keepC {wr W W2 : World} {p q : Addr} {v u : Value} (h : Below wr.heap.size wr W ∧ W.cell? p = some v ∧ W.cell? q = some u) (h2 : Below W.heap.size W W2) (hp : p.block < wr.heap.size) (hq : q.block < wr.heap.size) :
    Below wr.heap.size wr W2 ∧ W2.cell? p = some v ∧ W2.cell? q = some u :=
  ⟨h.1.trans (h2.mono h.1.size), (h2.cell (Nat.lt_of_lt_of_le hp h.1.size)).trans h.2.1, (h2.cell (Nat.lt_of_lt_of_le hq h.1.size)).trans h.2.2⟩
theorem Hid_slR {w W w7 : World} {base : Nat} {v : Value} {l : List GRule} (h : OwnRules w base v l) (hb : Below w.heap.size w W) (hb7 : Below W.heap.size W w7) : Sl RuleE w7 w7.heap.size v l :=
  (h.below (hb.trans (hb7.mono hb.size))).sl

end Go.Proofs.Ytfapnipmgmpgaaa

namespace Go.Proofs.Ytfapnipmgmpgaaa
open Go.RowKit

theorem within_yes (n a b : Int) (w : World) (h : inR n a b = true) : Calls Try.prog 86 #[.int .i64 n, .int .i64 a, .int .i64 b] w fun e w' => e = .returned (.bool true) ∧ w = w' :=
  (within_any n a b w).mono fun _ _ ⟨he, hw⟩ => ⟨by rw [he, ← h]; rfl, hw⟩
theorem within_no (n a b : Int) (w : World) (h : inR n a b = false) : Calls Try.prog 86 #[.int .i64 n, .int .i64 a, .int .i64 b] w fun e w' => e = .returned (.bool false) ∧ w = w' :=
  (within_any n a b w).mono fun _ _ ⟨he, hw⟩ => ⟨by rw [he, ← h]; rfl, hw⟩

end Go.Proofs.Ytfapnipmgmpgaaa

namespace Go.Proofs.Ytfapnipmgmpgaaa
open Go.RowKit

/-- The value v reads as the automaton a, below block B. -/
def AutoV (w : World) (B : Nat) (v : Value) (a : GAuto) : Prop := ∃ vF vN, v = .agg #[.int .i64 a.states, .int .i64 a.start, vF, vN] ∧ Sl IntE w B vF a.finals ∧ Sl (SliceE IntE) w B vN a.next
theorem AutoV.below {w w' : World} {B : Nat} {v : Value} {a : GAuto} (h : AutoV w B v a) (hb : Below B w w') : AutoV w' B v a := by
  obtain ⟨vF, vN, rfl, h1, h2⟩ := h
  exact ⟨vF, vN, rfl, h1.below hb, h2.below hb⟩
theorem AutoV.le {w : World} {B B' : Nat} {v : Value} {a : GAuto} (h : AutoV w B v a) (hb : B ≤ B') : AutoV w B' v a := by
  obtain ⟨vF, vN, rfl, h1, h2⟩ := h
  exact ⟨vF, vN, rfl, h1.le hb, h2.le hb⟩
theorem AutoV.up {w0 w : World} {v : Value} {a : GAuto} (h : AutoV w0 w0.heap.size v a) (hb : Below w0.heap.size w0 w) : AutoV w w.heap.size v a := (h.below hb).le hb.size

end Go.Proofs.Ytfapnipmgmpgaaa

namespace Go.Proofs.Ytfapnipmgmpgaaa
open Go.RowKit

theorem any_false_of {α : Type} {p : α → Bool} {d : α} {l : List α} (h : ∀ i, i < l.length → p (l.getD i d) = true) : (l.any fun r => !p r) = false := by
  rw [List.any_eq_false]
  intro x hx
  obtain ⟨i, hi, rfl⟩ := List.getElem_of_mem hx
  have := h i hi
  rw [List.getD_eq_getElem?_getD, List.getElem?_eq_getElem hi, Option.getD_some] at this
  simp [this]
theorem any_true_of {α : Type} {p : α → Bool} {d : α} {l : List α} (i : Nat) (hi : i < l.length) (h : p (l.getD i d) = false) : (l.any fun r => !p r) = true := by
  rw [List.any_eq_true]
  rw [List.getD_eq_getElem?_getD, List.getElem?_eq_getElem hi, Option.getD_some] at h
  exact ⟨l[i], List.getElem_mem hi, by simp [h]⟩
theorem rowOk_no1 {s : Int} {row : List Int} (h : row.length ≠ 4) : rowOk s row = false := by simp [rowOk, h]
theorem rowOk_no2 {s : Int} {row : List Int} (i : Nat) (hi : i < row.length) (h : inR (row.getD i 0) 0 (s - 1) = false) : rowOk s row = false := by
  unfold rowOk; rw [any_true_of (p := fun x => inR x 0 (s - 1)) (d := 0) i hi h]; simp
theorem rowOk_yes {s : Int} {row : List Int} (h : row.length = 4) (h' : ∀ i, i < 4 → inR (row.getD i 0) 0 (s - 1) = true) : rowOk s row = true := by
  unfold rowOk; rw [any_false_of (p := fun x => inR x 0 (s - 1)) (d := 0) (by rw [h]; exact h')]; simp [h]
theorem nextOk_no {s : Int} {next : List (List Int)} (i : Nat) (hi : i < next.length) (h : rowOk s (next.getD i []) = false) : nextOk s next = false := by
  unfold nextOk; rw [any_true_of (p := rowOk s) (d := []) i hi h]; simp
theorem nextOk_of {s : Int} {next : List (List Int)} (h : ∀ i, i < next.length → rowOk s (next.getD i []) = true) : nextOk s next = ((next.length : Int) == s) := by
  unfold nextOk; rw [any_false_of (p := rowOk s) (d := []) h]; simp

end Go.Proofs.Ytfapnipmgmpgaaa

namespace Go.Proofs.Ytfapnipmgmpgaaa
open Go.RowKit

def szA (a : GAuto) (left : Int) : Int := if szN a.finals.length left < 0 then -1 else if szII a.next (szN a.finals.length left) < 0 then -1 else szII a.next (szN a.finals.length left)
theorem szII_le (xs : List (List Int)) (left : Int) (h0 : 0 ≤ left) : szII xs left ≤ left := by
  unfold szII
  split
  · omega
  · have := szNN_le xs (szN xs.length left) (by omega)
    have h3 : szN xs.length left ≤ left := by unfold szN; split <;> omega
    omega
theorem szNN_all (xs : List (List Int)) : ∀ left : Int, 0 ≤ szNN xs left → left ≤ 1048576 → ∀ x ∈ xs, x.length ≤ 1048576 := by
  induction xs with
  | nil => intro l _ _ x hx; simp at hx
  | cons y ys ih =>
    intro l h hl x hx
    unfold szNN at h
    split at h
    · omega
    · rename_i hn
      have h3 : szN y.length l ≤ l := by unfold szN at *; split at hn <;> split <;> omega
      have h4 : (y.length : Int) ≤ l := by unfold szN at hn; split at hn <;> omega
      rcases List.mem_cons.1 hx with rfl | hx
      · omega
      · exact ih _ h (by omega) x hx
theorem szA_le {a : GAuto} (h : 0 ≤ szA a 1048576) : a.finals.length ≤ 1048576 ∧ a.next.length ≤ 1048576 ∧ ∀ x ∈ a.next, x.length ≤ 1048576 := by
  unfold szA at h
  split at h
  · omega
  · rename_i h1
    split at h
    · omega
    · rename_i h2
      have h3 : szN a.finals.length 1048576 ≤ 1048576 := by unfold szN; split <;> omega
      have h4 : (a.finals.length : Int) ≤ 1048576 := by unfold szN at h1; split at h1 <;> omega
      unfold szII at h
      split at h
      · omega
      · rename_i h5
        have h6 : szN a.next.length (szN a.finals.length 1048576) ≤ 1048576 := by unfold szN at *; (repeat' split) <;> omega
        have h7 : (a.next.length : Int) ≤ 1048576 := by unfold szN at h5 h6 h3; (repeat' split at h5) <;> omega
        exact ⟨by omega, by omega, szNN_all _ _ h h6⟩

theorem Keep.of_set {S : Nat → Prop} {w : World} {p : Addr} (h : ¬ S p.block) (v : Value) : Keep S w (w.setCell p v) := by
  intro b hb
  exact heap_setCell_other w p b v (fun e => h (e ▸ hb))
theorem Keep.of_set2 {N M b o : Nat} {w : World} (h : b < N) (v : Value) : Keep (fun k => N ≤ k ∧ k < M) w (w.setCell ⟨b, o, none⟩ v) := Keep.of_set (fun h' => by have := h'.1; simp at this; omega) v

end Go.Proofs.Ytfapnipmgmpgaaa

namespace Go.Proofs.Ytfapnipmgmpgaaa
open Go.RowKit

def stepW (next : List (List Int)) (s : Nat) (d : Nat) : Nat := ((next.getD s []).getD d 0).toNat
def readW (next : List (List Int)) (s : Nat) (l : List UInt8) : Nat := l.foldl (fun s c => stepW next s (c.toNat - 97)) s
theorem any_false_get {α : Type} {p : α → Bool} {d : α} {l : List α} (h : (l.any fun r => !p r) = false) (i : Nat) (hi : i < l.length) : p (l.getD i d) = true := by
  rw [List.any_eq_false] at h
  have := h l[i] (List.getElem_mem hi)
  rw [List.getD_eq_getElem?_getD, List.getElem?_eq_getElem hi, Option.getD_some]
  simpa using this
theorem nextOk_get {s : Int} {next : List (List Int)} (h : nextOk s next = true) : (next.length : Int) = s ∧ ∀ t, t < next.length → (next.getD t []).length = 4 ∧ ∀ d, d < 4 → 0 ≤ (next.getD t []).getD d 0 ∧ (next.getD t []).getD d 0 < next.length := by
  unfold nextOk at h
  rw [Bool.and_eq_true, Bool.not_eq_true'] at h
  obtain ⟨h1, h2⟩ := h
  have h1 : (next.length : Int) = s := by simpa using h1
  refine ⟨h1, fun t ht => ?_⟩
  have h3 := any_false_get (p := rowOk s) (d := []) h2 t ht
  unfold rowOk at h3
  rw [Bool.and_eq_true, Bool.not_eq_true'] at h3
  have h4 : (next.getD t []).length = 4 := by simpa using h3.1
  refine ⟨h4, fun d hd => ?_⟩
  have h5 := any_false_get (p := fun x => inR x 0 (s - 1)) (d := 0) h3.2 d (by omega)
  simp only [inR, Bool.and_eq_true, decide_eq_true_eq] at h5
  omega
theorem autoOk_get {a : GAuto} (h : autoOk a = true) : 1 ≤ a.states ∧ a.states ≤ 24 ∧ (a.next.length : Int) = a.states ∧ ∀ t, t < a.next.length → (a.next.getD t []).length = 4 ∧ ∀ d, d < 4 → 0 ≤ (a.next.getD t []).getD d 0 ∧ (a.next.getD t []).getD d 0 < a.next.length := by
  unfold autoOk at h
  simp only [Bool.and_eq_true] at h
  have h1 := h.1.1.1
  simp only [inR, Bool.and_eq_true, decide_eq_true_eq] at h1
  exact ⟨h1.1, h1.2, nextOk_get h.2⟩
theorem stepW_lt {a : GAuto} (h : autoOk a = true) {t d : Nat} (ht : t < a.next.length) (hd : d < 4) : stepW a.next t d < a.next.length := by
  obtain ⟨_, _, _, h4⟩ := autoOk_get h
  have := ((h4 t ht).2 d hd)
  unfold stepW
  omega
theorem wordOk_at {s : ByteArray} (h : wordOk s = true) {k : Nat} (hk : k < s.size) : 97 ≤ s[k].toNat ∧ s[k].toNat ≤ 100 := by
  unfold wordOk at h
  rw [Bool.and_eq_true, List.all_eq_true] at h
  have := h.2 s[k] (List.mem_of_getElem? (toList_getElem? s k hk))
  simp [letOk] at this
  omega
theorem readW_step {next : List (List Int)} {s : Nat} {l : ByteArray} {k : Nat} (h : k < l.size) : readW next s (l.data.toList.take (k + 1)) = stepW next (readW next s (l.data.toList.take k)) (l[k].toNat - 97) := by
  unfold readW
  rw [foldl_take_succ _ _ _ _ _ (toList_getElem? l k h)]

/-- The row t of the table, and its cells. -/
theorem row_at {w : World} {A : Option Addr} {next : List (List Int)} (hrow : Row (SliceE IntE) w (· < w.heap.size) A next) {t d : Nat} (ht : t < next.length) (h4 : (next.getD t []).length = 4) (hd : d < 4) :
    ∃ b o b' o' c, A = some ⟨b, o, none⟩ ∧ w.cell? ⟨b, o + t, none⟩ = some (.slice (some ⟨b', o', none⟩) 4 c) ∧ w.cell? ⟨b', o' + d, none⟩ = some (.int .i64 ((next.getD t []).getD d 0)) := by
  obtain ⟨b, o, rfl, hbl, hcell⟩ := hrow.sl ht
  have hx : next[t]? = some (next.getD t []) := by rw [List.getD_eq_getElem?_getD, List.getElem?_eq_getElem ht]; rfl
  obtain ⟨u, hu, A2, c2, rfl, hc2, hm2, hrow2⟩ := hcell t _ hx
  obtain ⟨b2, o2, rfl, hb2, hcell2⟩ := hrow2.int (k := d) (by omega)
  rw [h4] at hu
  exact ⟨b, o, b2, o2, c2, rfl, hu, hcell2 d (by omega)⟩

/-- What RunWord answers. -/
def runWV (a : GAuto) (s : Int) (l : ByteArray) : Int := if autoOk a && wordOk l && inR s 0 (a.states - 1) then readW a.next s.toNat l.data.toList else 0
def runWC (a : GAuto) (s : Int) (l : ByteArray) : Int := if autoOk a && wordOk l then if inR s 0 (a.states - 1) then 0 else 2 else 1

end Go.Proofs.Ytfapnipmgmpgaaa

namespace Go.Proofs.Ytfapnipmgmpgaaa
open Go.RowKit

theorem l04Letter_any (c : UInt8) (w : World) (h1 : 97 ≤ c.toNat) (h2 : c.toNat ≤ 100) :
    Calls Try.prog 94 #[.int .u8 c.toNat] w fun e w' => e = .returned (.int .i64 ((c.toNat - 97 : Nat) : Int)) ∧ w = w' := by
  obtain ⟨d, hd⟩ : ∃ d, c.toNat = 97 + d := ⟨c.toNat - 97, by omega⟩
  have hd3 : d ≤ 3 := by omega
  rw [hd]
  clear hd h1 h2
  go_enter Try.func94, Try.ntmps94
  go_wp2_with fail
  go_ret
  exact ⟨ret_int (by omega), rfl⟩

theorem drewN_below {w w' : World} (h : ∃ n, w' = w.drewN n) : Below w.heap.size w w' := by
  obtain ⟨n, rfl⟩ := h; exact below_drewN (Below.refl _ _) n

/-- Four cells of a block. -/
def Box4 (w : World) (b : Nat) (c0 c1 c2 c3 : Value) : Prop := w.cell? ⟨b, 0, none⟩ = some c0 ∧ w.cell? ⟨b, 1, none⟩ = some c1 ∧ w.cell? ⟨b, 2, none⟩ = some c2 ∧ w.cell? ⟨b, 3, none⟩ = some c3
theorem Box4.up {w w' : World} {b N : Nat} {c0 c1 c2 c3 : Value} (h : Box4 w b c0 c1 c2 c3) (hb : Below N w w') (hlt : b < N) : Box4 w' b c0 c1 c2 c3 :=
  ⟨(hb.cell (p := ⟨b, 0, none⟩) hlt).trans h.1, (hb.cell (p := ⟨b, 1, none⟩) hlt).trans h.2.1, (hb.cell (p := ⟨b, 2, none⟩) hlt).trans h.2.2.1, (hb.cell (p := ⟨b, 3, none⟩) hlt).trans h.2.2.2⟩
theorem Box4.new {w w' : World} {c0 c1 c2 c3 : Value} {t : TypeId} (hb : Below (w.alloc (.cells #[c0, c1, c2, c3] t)).heap.size (w.alloc (.cells #[c0, c1, c2, c3] t)) w') : Box4 w' w.heap.size c0 c1 c2 c3 :=
  Box4.up (w := w.alloc (.cells #[c0, c1, c2, c3] t)) ⟨by simp [go_sem], by simp [go_sem], by simp [go_sem], by simp [go_sem]⟩ hb (by simp)
theorem keep8 {wr W W2 : World} {p q : Nat} {a0 a1 a2 a3 b0 b1 b2 b3 : Value}
    (h : Below wr.heap.size wr W ∧ W.cell? ⟨p, 0, none⟩ = some a0 ∧ W.cell? ⟨p, 1, none⟩ = some a1 ∧ W.cell? ⟨p, 2, none⟩ = some a2 ∧ W.cell? ⟨p, 3, none⟩ = some a3 ∧ W.cell? ⟨q, 0, none⟩ = some b0 ∧ W.cell? ⟨q, 1, none⟩ = some b1 ∧ W.cell? ⟨q, 2, none⟩ = some b2 ∧ W.cell? ⟨q, 3, none⟩ = some b3)
    (h2 : Below W.heap.size W W2) (hp : p < wr.heap.size) (hq : q < wr.heap.size) :
    Below wr.heap.size wr W2 ∧ W2.cell? ⟨p, 0, none⟩ = some a0 ∧ W2.cell? ⟨p, 1, none⟩ = some a1 ∧ W2.cell? ⟨p, 2, none⟩ = some a2 ∧ W2.cell? ⟨p, 3, none⟩ = some a3 ∧ W2.cell? ⟨q, 0, none⟩ = some b0 ∧ W2.cell? ⟨q, 1, none⟩ = some b1 ∧ W2.cell? ⟨q, 2, none⟩ = some b2 ∧ W2.cell? ⟨q, 3, none⟩ = some b3 := by
  obtain ⟨h1, x0, x1, x2, x3, y0, y1, y2, y3⟩ := h
  have A := Box4.up ⟨x0, x1, x2, x3⟩ h2 (Nat.lt_of_lt_of_le hp h1.size)
  have B := Box4.up ⟨y0, y1, y2, y3⟩ h2 (Nat.lt_of_lt_of_le hq h1.size)
  exact ⟨h1.trans (h2.mono h1.size), A.1, A.2.1, A.2.2.1, A.2.2.2, B.1, B.2.1, B.2.2.1, B.2.2.2⟩

end Go.Proofs.Ytfapnipmgmpgaaa

namespace Go.Proofs.Ytfapnipmgmpgaaa
open Go.RowKit

/-- 'append(s, x)' of one element onto a row of the call's own, with what is known of the block. -/
theorem wpList_push2 {P : Program} {W : World} {ops : Array Oper} {rest : List Oper} {o : Oper} {a : Act} {Q : Exit → Act → World → Prop} (hgd : o.guard = none) (s x : Operand) (t : TypeId)
    (ho : o.op = .call { callee := .builtin .append, args := #[s, x], argTypes := #[t, t] }) {cs : Array Value} {e : TypeId}
    (i : TypeInfo) (z : Value) (size bytes : Nat) (ht : P.underlying t = some (.slice e)) (hi : P.info? e = some i) (hz : i.zero = some z)
    (hsize : i.size = size) (hby : i.bytes = bytes) (hzs : z.cells.size = size) (hsz : 0 < size)
    {base : Nat} {v : Value} {n : Nat} {xs : List Value} (hs : a.eval s = v) (hx : a.eval x = .slice (some ⟨W.heap.size, 0, none⟩) 1 1)
    (hcs : cs.size = size) (h1 : ∀ u ∈ cs.toList, u.oneCell' = true) (hown : W.ownsRow base e size v n xs)
    (hlen : (n + 1) * bytes ≤ 140737488355328) (hn : n + 1 ≤ 140737488355328) (hbase : base ≤ W.heap.size)
    (h : ∀ v' w', w'.ownsRow base e size v' (n + 1) (xs ++ cs.toList) → (W.alloc (.cells cs e)).grownBy w' v.ownBlock → (v'.ownBlock = v.ownBlock ∨ v'.ownBlock = some (W.heap.size + 1)) → wpList P ops Q rest (a.put o.dst v') w') :
    wpList P ops Q (o :: rest) a (W.alloc (.cells cs e)) := by
  refine wpList_plain hgd fun _ hK => ?_
  obtain ⟨v', w', hrun, h2, h3, _, h5⟩ := run_append_own_at (P := P) (W.alloc (.cells cs e)) base t o.type e i z size bytes ht hi hz hsize hby hzs hsz v n xs (hown.alloc _) ⟨W.heap.size, 0, none⟩ 1 1 cs.toList (by simpa using hcs)
    (fun j u hu => by
      have : (W.alloc (.cells cs e)).cell? ⟨W.heap.size, j, none⟩ = cs[j]? := cell_of_row _ _ _ _ e (0, 0) (heap_alloc_new W _)
      have ha : (⟨W.heap.size, 0, none⟩ : Addr).add j = ⟨W.heap.size, j, none⟩ := by unfold Addr.add; split <;> simp_all
      rw [ha, this]; simpa using hu) h1 (by simp only [maxLen]; omega) hlen (by simp; omega)
  unfold Oper.wp execOp
  simp only [ho, resolve, invoke, builtin, Sem.run_bind, Sem.run_pure, Result.andThen_ok, List.map_toArray, List.map_cons, List.map_nil, hs, hx, hrun]
  exact hK _ _ (h v' w' h2 h3 (by simpa using h5))

theorem push_sl {W : World} {ops : Array Oper} {rest : List Oper} {o : Oper} {a : Act} {Q : Exit → Act → World → Prop} (hgd : o.guard = none) (s x : Operand)
    (ho : o.op = .call { callee := .builtin .append, args := #[s, x], argTypes := #[123, 123] }) {u : Value} {base n : Nat} {v : Value} {vs : List Value}
    (hs : a.eval s = v) {N : Nat} (hx : a.eval x = .slice (some ⟨N, 0, none⟩) 1 1) (hN : N = W.heap.size) (hu : u.oneCell' = true) (hown : W.ownsRow base 65 1 v n vs) (hlen : n ≤ 1099511627776) (hbase : base ≤ W.heap.size)
    (h : ∀ v' w', w'.ownsRow base 65 1 v' (n + 1) (vs ++ [u]) → (W.alloc (.cells #[u] 65)).grownBy w' v.ownBlock → (v'.ownBlock = v.ownBlock ∨ v'.ownBlock = some (W.heap.size + 1)) → wpList Try.prog ops Q rest (a.put o.dst v') w') :
    wpList Try.prog ops Q (o :: rest) a (W.alloc (.cells #[u] 65)) := by
  subst hN
  obtain ⟨i0, hi0, hz0, hz1, hz2⟩ := info_parts Try.infoII
  refine wpList_push2 hgd s x 123 ho i0 (.slice none 0 0) 1 24 Try.underlying123 hi0 hz0 hz1 hz2 rfl (by decide) hs hx rfl (by simpa using hu) hown (by omega) (by omega) hbase ?_
  intro v' w' h1 h2 h3
  exact h v' w' (by simpa using h1) h2 h3

/-- 'append(s, x)' of one number in a region that draws its order. -/
theorem step_push_int {W : World} {ops : Array Oper} {o : Oper} {a : Act} {K : Act → World → Prop} {Q : Exit → Act → World → Prop} {E : Prop} (hgd : o.guard = none) (s x : Operand)
    (ho : o.op = .call { callee := .builtin .append, args := #[s, x], argTypes := #[65, 65] }) {y : Int} {base : Nat} {v : Value} {l : List Int}
    (hs : a.eval s = v) {N : Nat} (hx : a.eval x = .slice (some ⟨N, 0, none⟩) 1 1) (hc : W.cell? ⟨N, 0, none⟩ = some (.int .i64 y)) (hown : OwnInts W base v l) (hlen : l.length ≤ 1099511627776) (hbase : base ≤ W.heap.size)
    (h : ∀ v' w', OwnInts w' base v' (l ++ [y]) → W.grownBy w' v.ownBlock → (v'.ownBlock = v.ownBlock ∨ v'.ownBlock = some W.heap.size) → K (a.put o.dst v') w') :
    if Region.wanted o (yielded ops a.tmps) = true then Oper.wp Try.prog o a W K Q else E := by
  have hw : Region.wanted o (yielded ops a.tmps) = true := by simp [Region.wanted, hgd]
  rw [if_pos hw]
  obtain ⟨i0, hi0, hz0, hz1, hz2⟩ := info_parts Try.infoI
  obtain ⟨v', w', hrun, h2, h3, _, h5⟩ := run_append_own_at (P := Try.prog) W base 65 o.type 2 i0 (.int .i64 0) 1 8 Try.underlying65 hi0 hz0 hz1 hz2 rfl (by decide) v _ _ hown ⟨N, 0, none⟩ 1 1 [.int .i64 y] rfl
    (fun j u hu => by
      cases j with
      | zero => simp at hu; subst hu; simpa [Addr.add] using hc
      | succ j => simp at hu) (by simp [Value.oneCell']) (by simp only [maxLen]; omega) (by omega) hbase
  unfold Oper.wp execOp
  simp only [ho, resolve, invoke, builtin, Sem.run_bind, Sem.run_pure, Result.andThen_ok, List.map_toArray, List.map_cons, List.map_nil, hs, hx, hrun]
  exact h v' w' (by unfold OwnInts; simpa using h2) h3 h5

/-! the plain maps -/
def mapCell (next out : List (List Int)) (r : GRule) (s : Nat) : Int :=
  if r.pair then (out.getD r.right.toNat []).getD ((out.getD r.left.toNat []).getD s 0).toNat 0 else (next.getD s []).getD ((r.letter.data.getD 0 0).toNat - 97) 0
def mapRow (next out : List (List Int)) (r : GRule) : List Int := (List.range next.length).map (mapCell next out r)
def mapsOf (next : List (List Int)) (xs : List GRule) : List (List Int) := xs.foldl (fun out r => out ++ [mapRow next out r]) []
theorem mapsOf_snoc {next : List (List Int)} {xs : List GRule} {k : Nat} {r : GRule} (h : xs[k]? = some r) : mapsOf next (xs.take (k + 1)) = mapsOf next (xs.take k) ++ [mapRow next (mapsOf next (xs.take k)) r] := by
  unfold mapsOf; rw [foldl_take_succ _ _ _ _ _ h]
theorem mapsOf_len (next : List (List Int)) (xs : List GRule) : (mapsOf next xs).length = xs.length := by
  suffices H : ∀ (ys : List GRule) (a : List (List Int)), (ys.foldl (fun out r => out ++ [mapRow next out r]) a).length = a.length + ys.length by simpa [mapsOf] using H xs []
  intro ys
  induction ys with
  | nil => intro a; rfl
  | cons y ys ih => intro a; rw [List.foldl_cons, ih]; simp; omega
/-- All rows are rows of states. -/
def RowsOk (n : Nat) (l : List (List Int)) : Prop := ∀ t, t < l.length → (l.getD t []).length = n ∧ ∀ d, d < n → 0 ≤ (l.getD t []).getD d 0 ∧ (l.getD t []).getD d 0 < n
theorem RowsOk.snoc {n : Nat} {l : List (List Int)} {row : List Int} (h : RowsOk n l) (h1 : row.length = n) (h2 : ∀ d, d < n → 0 ≤ row.getD d 0 ∧ row.getD d 0 < n) : RowsOk n (l ++ [row]) := by
  intro t ht
  rcases Nat.lt_or_ge t l.length with h3 | h3
  · have e : (l ++ [row]).getD t [] = l.getD t [] := by rw [List.getD_eq_getElem?_getD, List.getElem?_append_left h3, List.getD_eq_getElem?_getD]
    rw [e]; exact h t h3
  · have ht' : t = l.length := by simp at ht; omega
    subst ht'
    have e : (l ++ [row]).getD l.length [] = row := by rw [List.getD_eq_getElem?_getD, List.getElem?_append_right (Nat.le_refl _)]; simp
    rw [e]; exact ⟨h1, h2⟩
theorem letter_of_ok {i : Nat} {r : GRule} (h : okRule i r = true) (hp : r.pair = false) : r.letter.size = 1 ∧ 97 ≤ (r.letter.data.getD 0 0).toNat ∧ (r.letter.data.getD 0 0).toNat ≤ 100 := by
  simp only [okRule, hp, isLet, Bool.and_eq_true, Bool.false_eq_true, if_false, decide_eq_true_eq, beq_iff_eq] at h
  omega
theorem pair_of_ok {i : Nat} {r : GRule} (h : okRule i r = true) (hp : r.pair = true) : 0 ≤ r.left ∧ r.left.toNat < i ∧ 0 ≤ r.right ∧ r.right.toNat < i := by
  simp only [okRule, hp, if_true, Bool.and_eq_true, decide_eq_true_eq] at h
  omega
theorem mapCell_ok {a : GAuto} (ha : autoOk a = true) {out : List (List Int)} (ho : RowsOk a.next.length out) {r : GRule} (hr : okRule out.length r = true) {s : Nat} (hs : s < a.next.length) :
    0 ≤ mapCell a.next out r s ∧ mapCell a.next out r s < a.next.length := by
  unfold mapCell
  split
  · rename_i hp
    obtain ⟨h1, h2, h3, h4⟩ := pair_of_ok hr hp
    obtain ⟨g1, g2⟩ := ho _ h2
    obtain ⟨k1, k2⟩ := ho _ h4
    have := g2 s hs
    exact k2 _ (by omega)
  · rename_i hp
    obtain ⟨h1, h2, h3⟩ := letter_of_ok hr (by simpa using hp)
    exact ((autoOk_get ha).2.2.2 s hs).2 _ (by omega)
theorem mapRow_len (next out : List (List Int)) (r : GRule) : (mapRow next out r).length = next.length := by simp [mapRow]
theorem mapRow_get (next out : List (List Int)) (r : GRule) {d : Nat} (hd : d < next.length) : (mapRow next out r).getD d 0 = mapCell next out r d := by
  rw [mapRow, List.getD_eq_getElem?_getD, List.getElem?_map, List.getElem?_range hd]; rfl
theorem mapsOf_ok {a : GAuto} (ha : autoOk a = true) {xs : List GRule} {ls : List Int} (hl : lens xs = some ls) : ∀ k, k ≤ xs.length → RowsOk a.next.length (mapsOf a.next (xs.take k)) := by
  intro k
  induction k with
  | zero => intro _ t ht; simp [mapsOf] at ht
  | succ k ih =>
    intro hk
    have hr := getR_at (xs := xs) (r := k) (by omega)
    have h1 := ih (by omega)
    have hok := (lens_steps hl k _ hr).1
    have hlen : (mapsOf a.next (xs.take k)).length = k := by rw [mapsOf_len, List.length_take]; omega
    rw [mapsOf_snoc hr]
    refine h1.snoc (mapRow_len _ _ _) fun d hd => ?_
    rw [mapRow_get _ _ _ hd]
    exact mapCell_ok ha h1 (by rw [hlen]; exact hok) hd

/-- The cells of a table of numbers. -/
theorem cells2 {w : World} {S : Nat → Prop} {A : Option Addr} {l : List (List Int)} (hrow : Row (SliceE IntE) w S A l) (hl : 0 < l.length) :
    ∃ b o, A = some ⟨b, o, none⟩ ∧ S b ∧ ∀ t d, t < l.length → d < (l.getD t []).length → ∃ b' o' c, w.cell? ⟨b, o + t, none⟩ = some (.slice (some ⟨b', o', none⟩) (l.getD t []).length c) ∧ S b' ∧ w.cell? ⟨b', o' + d, none⟩ = some (.int .i64 ((l.getD t []).getD d 0)) := by
  obtain ⟨b, o, rfl, hbl, hcell⟩ := hrow.sl hl
  refine ⟨b, o, rfl, hbl, fun t d ht hd => ?_⟩
  have hx : l[t]? = some (l.getD t []) := by rw [List.getD_eq_getElem?_getD, List.getElem?_eq_getElem ht]; rfl
  obtain ⟨u, hu, A2, c2, rfl, hc2, hm2, hrow2⟩ := hcell t _ hx
  obtain ⟨b2, o2, rfl, hb2, hcell2⟩ := hrow2.int (k := d) hd
  exact ⟨b2, o2, c2, hu, hb2, hcell2 d hd⟩
end Go.Proofs.Ytfapnipmgmpgaaa

namespace Go.Proofs.Ytfapnipmgmpgaaa
open Go.RowKit

theorem own_grown {w w' : World} {base e s : Nat} {v : Value} {n : Nat} {xs : List Value} {row : Option Nat} (h : w.ownsRow base e s v n xs) (hg : w.grownBy w' row) (hne : ∀ g, v.ownBlock = some g → some g ≠ row) : w'.ownsRow base e s v n xs :=
  own_keep h fun g hgg => hg.block g (h.lt g hgg).2 (hne g hgg)
theorem ownSl_empty {w : World} {base N : Nat} (hN : N = w.heap.size) (hb : base ≤ w.heap.size) : (w.alloc (Obj.cells #[] 65)).ownsRow base 65 1 (Value.slice (some ⟨N, 0, none⟩) 0 0) 0 [] := by
  subst hN
  exact World.ownsRow_lit w #[] 0 hb (Nat.zero_le _) rfl
theorem leDA (w : World) (o : Obj) : w.heap.size ≤ (w.alloc o).drew.heap.size := Nat.le_trans (by simp) (Nat.le_refl _)
theorem isPair_b (l : ByteArray) (a b : Int) (w : World) :
    Calls Try.prog 137 #[.agg #[.string l, .int .i64 a, .int .i64 b]] w fun e w' => e = .returned (.bool (l.toList.isEmpty)) ∧ Below w.heap.size w w' :=
  (isPair_any l a b w).mono fun _ _ ⟨he, hw⟩ => ⟨he, hw ▸ (Below.refl _ _).alloc (Nat.le_refl _) _⟩
theorem keepM {W W2 : World} {row : Option Nat} {N : Nat} {p0 p1 p2 p3 p4 p5 : Addr} {v0 v1 v2 v3 v4 v5 : Value}
    (h : W.cell? p0 = some v0 ∧ W.cell? p1 = some v1 ∧ W.cell? p2 = some v2 ∧ W.cell? p3 = some v3 ∧ W.cell? p4 = some v4 ∧ W.cell? p5 = some v5) (hg : W.grownBy W2 row) (hr : ∀ g, row = some g → N ≤ g)
    (h0 : p0.block < N) (h1 : p1.block < N) (h2 : p2.block < N) (h3 : p3.block < N) (h4 : p4.block < N) (h5 : p5.block < N) :
    W2.cell? p0 = some v0 ∧ W2.cell? p1 = some v1 ∧ W2.cell? p2 = some v2 ∧ W2.cell? p3 = some v3 ∧ W2.cell? p4 = some v4 ∧ W2.cell? p5 = some v5 := by
  have k : ∀ {p : Addr} {v : Value}, W.cell? p = some v → p.block < N → W2.cell? p = some v := fun {p v} hc hp => hg.cell hc (fun e => by have := hr _ e.symm; omega)
  exact ⟨k h.1 h0, k h.2.1 h1, k h.2.2.1 h2, k h.2.2.2.1 h3, k h.2.2.2.2.1 h4, k h.2.2.2.2.2 h5⟩
theorem maps_push {N B : Nat} {wo wr w2 : World} {outv v' rowv : Value} {k : Nat} {vs : List Value} {M : List (List Int)} {row : List Int} {o : Obj} (hN : N ≤ wo.heap.size) (hB : wo.heap.size ≤ B) (hown : wo.ownsRow N 65 1 outv k vs)
    (hea : Each IntE wo (fun b => N ≤ b ∧ b < wo.heap.size ∧ some b ≠ outv.ownBlock) vs M) (hb : Below wo.heap.size wo wr) (hrow : OwnInts wr B rowv row) (hg : (wr.alloc o).grownBy w2 outv.ownBlock) (hv : v'.ownBlock = outv.ownBlock ∨ v'.ownBlock = some (wr.heap.size + 1)) :
    Each IntE w2 (fun b => N ≤ b ∧ b < w2.heap.size ∧ some b ≠ v'.ownBlock) (vs ++ [rowv]) (M ++ [row]) := by
  have hs1 : wo.heap.size ≤ wr.heap.size := hb.size
  have hs2 : wr.heap.size < w2.heap.size := Nat.lt_of_lt_of_le (by simp) hg.size
  have hob := fun g hg => (hown.lt g hg).2
  have h1 := hea.keep ((Keep.of_below hb).mono fun b h => h.2.1)
  have h2 := h1.keep ((Keep.of_below ((Below.refl wr.heap.size wr).alloc (Nat.le_refl _) o)).mono fun b h => by have := h.2.1; omega)
  have h3 := h2.keep ((Keep.of_grown hg).mono fun b h => ⟨by have := h.2.1; simp; omega, h.2.2⟩)
  have h4 := h3.more (S' := fun b => N ≤ b ∧ b < w2.heap.size ∧ some b ≠ v'.ownBlock) fun b h => ⟨h.1, by have := h.2.1; omega, fun e => by
    rcases hv with hv | hv
    · exact h.2.2 (e.trans hv)
    · rw [hv] at e; injection e with e; have := h.2.1; omega⟩
  refine h4.snoc ?_
  have r1 := World.ownsRow.alloc hrow o
  have r2 : OwnInts w2 B rowv row := own_grown r1 hg fun g hgg e => by
    have := (World.ownsRow.lt hrow g hgg).1
    have := hob g e.symm
    omega
  refine r2.slS fun g hgg => ⟨?_, ?_, ?_⟩
  · have := (World.ownsRow.lt hrow g hgg).1; omega
  · have := (World.ownsRow.lt hrow g hgg).2; omega
  · intro e
    rcases hv with hv | hv
    · have := hob g (hv ▸ e.symm); have := (World.ownsRow.lt hrow g hgg).1; omega
    · rw [hv] at e; injection e with e; have := (World.ownsRow.lt hrow g hgg).2; omega
theorem keepM3 {W W2 : World} {row : Option Nat} {N : Nat} {p0 p1 p2 : Addr} {v0 v1 v2 : Value}
    (h : W.cell? p0 = some v0 ∧ W.cell? p1 = some v1 ∧ W.cell? p2 = some v2) (hg : W.grownBy W2 row) (hr : ∀ g, row = some g → N ≤ g)
    (h0 : p0.block < N) (h1 : p1.block < N) (h2 : p2.block < N) :
    W2.cell? p0 = some v0 ∧ W2.cell? p1 = some v1 ∧ W2.cell? p2 = some v2 := by
  have k : ∀ {p : Addr} {v : Value}, W.cell? p = some v → p.block < N → W2.cell? p = some v := fun {p v} hc hp => hg.cell hc (fun e => by have := hr _ e.symm; omega)
  exact ⟨k h.1 h0, k h.2.1 h1, k h.2.2 h2⟩
def MapsPost (w : World) (m : List (List Int)) (e : Ending) (w' : World) : Prop :=
  ∃ v, e = .returned v ∧ SlS (SliceE IntE) w' (fun b => w.heap.size ≤ b ∧ b < w'.heap.size) v m ∧ Below w.heap.size w w'

end Go.Proofs.Ytfapnipmgmpgaaa

namespace Go.Proofs.Ytfapnipmgmpgaaa
open Go.RowKit

theorem keepN {W W2 : World} {row : Option Nat} {p0 p1 p2 p3 p4 p5 : Addr} {v0 v1 v2 v3 v4 v5 : Value}
    (h : W.cell? p0 = some v0 ∧ W.cell? p1 = some v1 ∧ W.cell? p2 = some v2 ∧ W.cell? p3 = some v3 ∧ W.cell? p4 = some v4 ∧ W.cell? p5 = some v5) (hg : W.grownBy W2 row)
    (h0 : some p0.block ≠ row) (h1 : some p1.block ≠ row) (h2 : some p2.block ≠ row) (h3 : some p3.block ≠ row) (h4 : some p4.block ≠ row) (h5 : some p5.block ≠ row) :
    W2.cell? p0 = some v0 ∧ W2.cell? p1 = some v1 ∧ W2.cell? p2 = some v2 ∧ W2.cell? p3 = some v3 ∧ W2.cell? p4 = some v4 ∧ W2.cell? p5 = some v5 :=
  ⟨hg.cell h.1 h0, hg.cell h.2.1 h1, hg.cell h.2.2.1 h2, hg.cell h.2.2.2.1 h3, hg.cell h.2.2.2.2.1 h4, hg.cell h.2.2.2.2.2 h5⟩
theorem keepN3 {W W2 : World} {row : Option Nat} {p0 p1 p2 : Addr} {v0 v1 v2 : Value}
    (h : W.cell? p0 = some v0 ∧ W.cell? p1 = some v1 ∧ W.cell? p2 = some v2) (hg : W.grownBy W2 row) (h0 : some p0.block ≠ row) (h1 : some p1.block ≠ row) (h2 : some p2.block ≠ row) :
    W2.cell? p0 = some v0 ∧ W2.cell? p1 = some v1 ∧ W2.cell? p2 = some v2 :=
  ⟨hg.cell h.1 h0, hg.cell h.2.1 h1, hg.cell h.2.2 h2⟩

end Go.Proofs.Ytfapnipmgmpgaaa

namespace Go.Proofs.Ytfapnipmgmpgaaa
open Go.RowKit

/-- The value v reads as a ride: an automaton, a grammar, its lengths, its maps. -/
def RideV (w : World) (B : Nat) (v : Value) (a : GAuto) (xs : List GRule) (ls : List Int) : Prop :=
  ∃ vF vN vR vL vM, v = .agg #[.int .i64 a.states, .int .i64 a.start, vF, vN, vR, vL, vM] ∧ Sl IntE w B vF a.finals ∧ Sl (SliceE IntE) w B vN a.next ∧ Sl RuleE w B vR xs ∧ Sl IntE w B vL ls ∧ Sl (SliceE IntE) w B vM (mapsOf a.next xs)
theorem RideV.below {w w' : World} {B : Nat} {v : Value} {a : GAuto} {xs : List GRule} {ls : List Int} (h : RideV w B v a xs ls) (hb : Below B w w') : RideV w' B v a xs ls := by
  obtain ⟨vF, vN, vR, vL, vM, rfl, h1, h2, h3, h4, h5⟩ := h
  exact ⟨vF, vN, vR, vL, vM, rfl, h1.below hb, h2.below hb, h3.below hb, h4.below hb, h5.below hb⟩
theorem RideV.le {w : World} {B B' : Nat} {v : Value} {a : GAuto} {xs : List GRule} {ls : List Int} (h : RideV w B v a xs ls) (hb : B ≤ B') : RideV w B' v a xs ls := by
  obtain ⟨vF, vN, vR, vL, vM, rfl, h1, h2, h3, h4, h5⟩ := h
  exact ⟨vF, vN, vR, vL, vM, rfl, h1.le hb, h2.le hb, h3.le hb, h4.le hb, h5.le hb⟩
theorem RideV.up {w0 w : World} {v : Value} {a : GAuto} {xs : List GRule} {ls : List Int} (h : RideV w0 w0.heap.size v a xs ls) (hb : Below w0.heap.size w0 w) : RideV w w.heap.size v a xs ls := (h.below hb).le hb.size
def RidePost (a : GAuto) (xs : List GRule) (w : World) (e : Ending) (w' : World) : Prop :=
  Below w.heap.size w w' ∧ ((∃ ls v, lens xs = some ls ∧ gramOk xs = true ∧ autoOk a = true ∧ e = .returned (.tuple #[v, .bool true]) ∧ RideV w' w'.heap.size v a xs ls) ∨
    ((autoOk a && gramOk xs) = false ∧ e = .returned (.tuple #[.agg #[.int .i64 0, .int .i64 0, .slice none 0 0, .slice none 0 0, .slice none 0 0, .slice none 0 0, .slice none 0 0], .bool false])))

theorem keepR {N : Nat} {wr W W2 : World} {p q : Nat} {a0 a1 a2 a3 b0 : Value}
    (h : Below N wr W ∧ W.cell? ⟨p, 0, none⟩ = some a0 ∧ W.cell? ⟨p, 1, none⟩ = some a1 ∧ W.cell? ⟨p, 2, none⟩ = some a2 ∧ W.cell? ⟨p, 3, none⟩ = some a3 ∧ W.cell? ⟨q, 0, none⟩ = some b0)
    (h2 : Below W.heap.size W W2) (hN : N ≤ wr.heap.size) (hp : p < N) (hq : q < N) :
    Below N wr W2 ∧ W2.cell? ⟨p, 0, none⟩ = some a0 ∧ W2.cell? ⟨p, 1, none⟩ = some a1 ∧ W2.cell? ⟨p, 2, none⟩ = some a2 ∧ W2.cell? ⟨p, 3, none⟩ = some a3 ∧ W2.cell? ⟨q, 0, none⟩ = some b0 := by
  obtain ⟨h1, x0, x1, x2, x3, y0⟩ := h
  have hs := h1.size
  have A := Box4.up ⟨x0, x1, x2, x3⟩ h2 (by omega)
  exact ⟨h1.trans (h2.mono (by omega)), A.1, A.2.1, A.2.2.1, A.2.2.2, (h2.cell (p := ⟨q, 0, none⟩) (by show q < _; omega)).trans y0⟩
theorem keepRD {N : Nat} {W : World} {p q : Nat} {a0 a1 a2 a3 b0 : Value} (x0 : W.cell? ⟨p, 0, none⟩ = some a0) (x1 : W.cell? ⟨p, 1, none⟩ = some a1) (x2 : W.cell? ⟨p, 2, none⟩ = some a2) (x3 : W.cell? ⟨p, 3, none⟩ = some a3) (y0 : W.cell? ⟨q, 0, none⟩ = some b0) :
    Below N W W.drew ∧ W.drew.cell? ⟨p, 0, none⟩ = some a0 ∧ W.drew.cell? ⟨p, 1, none⟩ = some a1 ∧ W.drew.cell? ⟨p, 2, none⟩ = some a2 ∧ W.drew.cell? ⟨p, 3, none⟩ = some a3 ∧ W.drew.cell? ⟨q, 0, none⟩ = some b0 :=
  ⟨(Below.refl _ _).drew, x0, x1, x2, x3, y0⟩
theorem keepRS {N : Nat} {wr W : World} {p q b o : Nat} {a0 a1 a2 a3 b0 u : Value}
    (h : Below N wr W ∧ W.cell? ⟨p, 0, none⟩ = some a0 ∧ W.cell? ⟨p, 1, none⟩ = some a1 ∧ W.cell? ⟨p, 2, none⟩ = some a2 ∧ W.cell? ⟨p, 3, none⟩ = some a3 ∧ W.cell? ⟨q, 0, none⟩ = some b0)
    (hb : N ≤ b) (hp : p < N) (hq : q < N) :
    Below N wr (W.setCell ⟨b, o, none⟩ u) ∧ (W.setCell ⟨b, o, none⟩ u).cell? ⟨p, 0, none⟩ = some a0 ∧ (W.setCell ⟨b, o, none⟩ u).cell? ⟨p, 1, none⟩ = some a1 ∧ (W.setCell ⟨b, o, none⟩ u).cell? ⟨p, 2, none⟩ = some a2 ∧ (W.setCell ⟨b, o, none⟩ u).cell? ⟨p, 3, none⟩ = some a3 ∧ (W.setCell ⟨b, o, none⟩ u).cell? ⟨q, 0, none⟩ = some b0 := by
  obtain ⟨h1, x0, x1, x2, x3, y0⟩ := h
  have h2 : Below N W (W.setCell ⟨b, o, none⟩ u) := (Below.refl _ _).setCell hb _
  have A := Box4.up ⟨x0, x1, x2, x3⟩ h2 hp
  exact ⟨h1.trans h2, A.1, A.2.1, A.2.2.1, A.2.2.2, (h2.cell (p := ⟨q, 0, none⟩) hq).trans y0⟩

end Go.Proofs.Ytfapnipmgmpgaaa

namespace Go.Proofs.Ytfapnipmgmpgaaa
open Go.RowKit

def lastI (l : List Int) : Int := l.getD (l.length - 1) 0
theorem last_any (v : Value) (l : List Int) (w : World) (h : Sl IntE w w.heap.size v l) :
    Calls Try.prog 154 #[v] w fun e w' => e = .returned (.int .i64 (lastI l)) ∧ w = w' := by
  obtain ⟨A, c, rfl, hc, hm, hrow⟩ := h
  unfold maxLen at hm
  by_cases h0 : l.length = 0
  · have hl : l = [] := List.eq_nil_of_length_eq_zero h0
    subst hl
    go_enter Try.func154, Try.ntmps154
    go_wp2_with fail
    go_ret
    exact ⟨rfl, rfl⟩
  · obtain ⟨b, o, rfl, hbl, hcell⟩ := hrow.int (k := 0) (by omega)
    have hc0 := hcell (l.length - 1) (by omega)
    have g0 : ((l.length : Int) == 0) = false := by rw [beq_eq_false_iff_ne]; omega
    have hk : ((l.length : Int) - 1).toNat = l.length - 1 := by omega
    have hl : 0 ≤ (l.length : Int) - 1 := by omega
    obtain ⟨x, hx⟩ : ∃ x, l.getD (l.length - 1) 0 = x := ⟨_, rfl⟩
    have Hx := Lib.hid hx
    rw [hx] at hc0
    clear hcell hx
    go_enter Try.func154, Try.ntmps154
    go_wp2_with fail
    go_ret
    exact ⟨ret_int (by rw [lastI, Hx.out]), rfl⟩

theorem Wk.set {C : Nat → Prop} {w : World} {b o : Nat} {v : Value} (h : ¬ C b) : Wk C w (w.setCell ⟨b, o, none⟩ v).drew :=
  ⟨rfl, rfl, rfl, by show w.heap.size ≤ (w.setCell ⟨b, o, none⟩ v).heap.size; simp, fun k hk => heap_setCell_other w ⟨b, o, none⟩ k v (fun e => h (by have e' : k = b := e; exact e' ▸ hk))⟩
/-- One step of a ride. -/
def stepM (maps : List (List Int)) (s r : Nat) : Nat := ((maps.getD r []).getD s 0).toNat
/-- What stands behind some rules in the state box bs. -/
structure RJ (w0 : World) (bs n : Nat) (C : Nat → Prop) (s : Nat) (w : World) : Prop where
  wk : Wk (fun b => b < w0.heap.size ∧ b ≠ bs) w0 w
  cell : w.cell? ⟨bs, 0, none⟩ = some (.int .i64 s)
  fr : w.frozen? ⟨bs, 0, none⟩ = false
  nc : ¬ C bs
  lt : s < n
theorem RJ.ext {w0 : World} {bs n : Nat} (hbs : bs < w0.heap.size) : ∀ C s w w', RJ w0 bs n C s w → Below w.heap.size w w' → (∀ b, C b → b < w.heap.size) → RJ w0 bs n (ext C w.heap.size w'.heap.size) s w' := by
  intro C s w w' h hb hC
  have hsz := h.wk.size
  refine ⟨h.wk.trans (Wk.of_below hb fun k hk => by have := hk.1; omega), (hb.cell (p := ⟨bs, 0, none⟩) (by show bs < _; omega)).trans h.cell, (hb.frozen (p := ⟨bs, 0, none⟩) (by show bs < _; omega)).trans h.fr, ?_, h.lt⟩
  intro h'
  rcases h' with h' | h'
  · exact h.nc h'
  · omega

theorem foldl_stepM_lt {maps : List (List Int)} {n : Nat} (hok : RowsOk n maps) : ∀ (l : List Nat) (s : Nat), (∀ r ∈ l, r < maps.length) → s < n → l.foldl (stepM maps) s < n := by
  intro l
  induction l with
  | nil => intro s _ h; exact h
  | cons r l ih =>
    intro s hl hs
    refine ih _ (fun x hx => hl x (by simp [hx])) ?_
    have := (hok r (hl r (by simp))).2 s hs
    unfold stepM; omega

end Go.Proofs.Ytfapnipmgmpgaaa

namespace Go.Proofs.Ytfapnipmgmpgaaa
open Go.RowKit

/-- The length of the word of a grammar. -/
def gramLen (xs : List GRule) : Int := match lens xs with | some ls => lastI ls | none => 0
theorem gramLen_of {xs : List GRule} {ls : List Int} (h : lens xs = some ls) : gramLen xs = lastI ls := by simp [gramLen, h]
theorem lastI_nil : lastI [] = 0 := rfl
theorem lastI_bounds {xs : List GRule} {ls : List Int} (h : lens xs = some ls) : 0 ≤ lastI ls ∧ lastI ls ≤ 1000000000000000 := by
  have hll := lens_length h
  unfold lastI
  by_cases h0 : xs.length = 0
  · have : ls = [] := List.eq_nil_of_length_eq_zero (by omega)
    subst this; simp
  · have := lens_pos' h (r := ls.length - 1) (by omega)
    omega
theorem gramLen_bounds (xs : List GRule) : 0 ≤ gramLen xs ∧ gramLen xs ≤ 1000000000000000 := by
  unfold gramLen
  split
  · rename_i ls h; exact lastI_bounds h
  · omega

set_option maxRecDepth 100000 in
theorem l02Length_any (b o : Nat) (v : Value) (xs : List GRule) (ls : List Int) (w : World) (hl : lens xs = some ls) (hp : w.cell? ⟨b, o, none⟩ = some v) (hbl : b < w.heap.size) (h : Sl RuleE w w.heap.size v xs) (hsm : SmallL xs) (hn : xs.length ≤ 1099511627776) :
    Calls Try.prog 47 #[.pointer (some ⟨b, o, none⟩)] w fun e w' => e = .returned (.int .i64 (lastI ls)) ∧ Below w.heap.size w w' := by
  have Hsl := Lib.hid h
  have Hl := Lib.hid hl
  clear h hl
  go_enter Try.func47, Try.ntmps47
  go_wp2_with fail
  refine (l02Sizes_any _ _ _ _ _ hp hbl Hsl.out hsm hn).mono ?_
  rintro e w1 ⟨hb, (⟨ls', v1, h1, rfl, h2⟩ | ⟨h1, _⟩)⟩
  · have e1 : ls' = ls := by rw [Hl.out] at h1; injection h1 with h1; exact h1.symm
    subst e1
    have HB := Lib.hid hb
    have hsl := h2.sl
    obtain ⟨A, c, rfl, hc, hm, hrow⟩ := hsl
    unfold maxLen at hm
    clear h1 h2 hb
    by_cases h0 : ls'.length = 0
    · have hl : ls' = [] := List.eq_nil_of_length_eq_zero h0
      subst hl
      clear hrow
      go_wp2_with fail
      go_ret
      exact ⟨rfl, HB.out⟩
    · obtain ⟨b, o, rfl, hbl, hcell⟩ := hrow.int (k := 0) (by omega)
      have hc0 := hcell (ls'.length - 1) (by omega)
      have g0 : ((ls'.length : Int) == 0) = false := by rw [beq_eq_false_iff_ne]; omega
      have hk : ((ls'.length : Int) - 1).toNat = ls'.length - 1 := by omega
      have hl : 0 ≤ (ls'.length : Int) - 1 := by omega
      have hwr : IntKind.i64.wrap ((ls'.length : Int) - 1) = (ls'.length : Int) - 1 := IntWalk.i64_in _ (by omega)
      obtain ⟨x, hx⟩ : ∃ x, ls'.getD (ls'.length - 1) 0 = x := ⟨_, rfl⟩
      have Hx := Lib.hid hx
      rw [hx] at hc0
      clear hcell hx hrow
      go_wp2_with fail
      go_ret
      exact ⟨ret_int (by rw [lastI, Hx.out]), HB.out⟩
  · rw [Hl.out] at h1; cases h1

def lenV (xs : List GRule) : Int := if gramOk xs then gramLen xs else 0
def lenC (xs : List GRule) : Int := if gramOk xs then 0 else 1
set_option maxRecDepth 100000 in
theorem LengthOf_any (v : Value) (xs : List GRule) (w : World) (h : Sl RuleE w w.heap.size v xs) (hn : xs.length ≤ 1099511627776) :
    Calls Try.prog 101 #[.agg #[v]] w fun e w' => e = .returned (.tuple #[.int .i64 (lenV xs), .int .i64 (lenC xs)]) ∧ Below w.heap.size w w' := by
  have h1 := fun o => (h.below ((Below.refl w.heap.size w).alloc (Nat.le_refl _) o)).le (B' := (w.alloc o).heap.size) (by simp)
  have H1 := Lib.hid h1
  clear h1 h
  go_enter Try.func101, Try.ntmps101
  go_wp2_with fail
  refine (lengths_any _ _ _ (H1.out _) hn).mono ?_
  rintro e w1 ⟨hb, (⟨ls, v1, h1, rfl, h2⟩ | ⟨h1, rfl⟩)⟩
  · have HL := Lib.hid h2.sl
    have H1' := Lib.hid h1
    have HB := Lib.hid hb
    obtain ⟨A, c, rfl, _⟩ := h2.sl
    clear h1 h2 hb
    by_cases hc : xs.length ≤ 400
    · have hd : decide (xs.length ≤ 400) = true := by simp [hc]
      have hg : gramOk xs = true := by simp [gramOk, H1'.out, hc]
      have Hg := Lib.hid hg
      rw [hd]
      clear hd hc hg
      go_wp2_with fail
      refine (last_any _ ls _ HL.out).mono ?_
      rintro e w2 ⟨rfl, rfl⟩
      go_wp2_with fail
      go_ret2
      exact ⟨by simp [lenV, lenC, Hg.out, gramLen_of H1'.out], ((Below.refl _ _).alloc (Nat.le_refl _) _).trans (HB.out.mono (by simp))⟩
    · have hd : decide (xs.length ≤ 400) = false := by simp [hc]
      have hg : gramOk xs = false := by simp [gramOk, hc]
      have Hg := Lib.hid hg
      rw [hd]
      clear hd hc hg
      go_wp2_with fail
      go_ret2
      exact ⟨by simp [lenV, lenC, Hg.out], ((Below.refl _ _).alloc (Nat.le_refl _) _).trans (HB.out.mono (by simp))⟩
  · have hg : gramOk xs = false := by simp [gramOk, h1]
    have Hg := Lib.hid hg
    have HB := Lib.hid hb
    clear h1 hg hb
    go_wp2_with fail
    go_ret2
    exact ⟨by simp [lenV, lenC, Hg.out], ((Below.refl _ _).alloc (Nat.le_refl _) _).trans (HB.out.mono (by simp))⟩
end Go.Proofs.Ytfapnipmgmpgaaa

namespace Go.Proofs.Ytfapnipmgmpgaaa
open Go.RowKit

/-- An edit. -/
structure GEdit where
  kind : Int
  i : Int
  j : Int
  k : Int
  part : List GRule
  map : ByteArray
def usesJ (k : Int) : Bool := decide (2 ≤ k)
def usesK (k : Int) : Bool := k == 3 || k == 4 || k == 6
def EditV (w : World) (B : Nat) (v : Value) (e : GEdit) : Prop := ∃ vR, v = .agg #[.int .i64 e.kind, .int .i64 e.i, .int .i64 e.j, .int .i64 e.k, vR, .string e.map] ∧ Sl RuleE w B vR e.part
theorem EditV.below {w w' : World} {B : Nat} {v : Value} {e : GEdit} (h : EditV w B v e) (hb : Below B w w') : EditV w' B v e := by
  obtain ⟨vR, rfl, h1⟩ := h; exact ⟨vR, rfl, h1.below hb⟩
theorem EditV.le {w : World} {B B' : Nat} {v : Value} {e : GEdit} (h : EditV w B v e) (hb : B ≤ B') : EditV w B' v e := by
  obtain ⟨vR, rfl, h1⟩ := h; exact ⟨vR, rfl, h1.le hb⟩
theorem EditV.up {w0 w : World} {v : Value} {e : GEdit} (h : EditV w0 w0.heap.size v e) (hb : Below w0.heap.size w0 w) : EditV w w.heap.size v e := (h.below hb).le hb.size

def numOk (n : Int) (told : Bool) : Bool := if told then inR n 0 1000000000000000 else n == 0
def editOk (e : GEdit) : Bool :=
  inR e.kind 1 7 && inR e.i 0 1000000000000000 && numOk e.j (usesJ e.kind) && numOk e.k (usesK e.kind) && !(usesJ e.kind && decide (e.j < e.i)) &&
    (decide (0 < e.part.length) == (e.kind == 1)) && gramOk e.part && (if e.kind == 7 then e.map.size == 4 && wordOk e.map else e.map.size == 0)
def editFits (e : GEdit) (n : Int) : Bool :=
  if e.kind = 1 then decide (e.i ≤ n) else if e.kind = 3 then decide (e.j ≤ n) && decide (e.k ≤ n) else if e.kind = 4 then decide (e.j ≤ n) && (decide (e.k ≤ e.i) || (decide (e.j ≤ e.k) && decide (e.k ≤ n))) else decide (e.j ≤ n)
/-- The length behind an edit. -/
def editLen (e : GEdit) (n : Int) : Int :=
  if e.kind = 1 then n + gramLen e.part else if e.kind = 2 then n - (e.j - e.i) else if e.kind = 3 then n + (e.j - e.i) else if e.kind = 6 then n - (e.j - e.i) + (e.j - e.i) * e.k else n
def lessP (e : GEdit) (p : Int) : Int := if p ≤ e.i then p else if p < e.j then e.i else p - (e.j - e.i)
def placeP (e : GEdit) (p : Int) : Int :=
  if e.kind = 1 then (if e.i < p then p + gramLen e.part else p)
  else if e.kind = 2 then lessP e p
  else if e.kind = 3 then (if e.k < p then p + (e.j - e.i) else p)
  else if e.kind = 4 then (if e.i < p ∧ p < e.j then lessP e e.k + p - e.i else if lessP e e.k < lessP e p then lessP e p + (e.j - e.i) else lessP e p)
  else if e.kind = 5 then (if e.i < p ∧ p < e.j then e.i + e.j - p else p)
  else if e.kind = 6 then (if e.j ≤ p then p - (e.j - e.i) + (e.j - e.i) * e.k else if (e.i < p ∧ p < e.j) ∧ e.k = 0 then e.i else p)
  else p
/-- What PlaceAfter answers. -/
def paC (n : Int) (e : GEdit) (p : Int) : Int := if editOk e then if inR n 0 1000000000000000 && inR p 0 n && editFits e n then if editLen e n ≤ 1000000000000000 then 0 else 3 else 2 else 1
def paV (n : Int) (e : GEdit) (p : Int) : Int := if paC n e p = 0 then placeP e p else 0
/-- Six cells of a block. -/
def Box6 (w : World) (b : Nat) (c0 c1 c2 c3 c4 c5 : Value) : Prop := w.cell? ⟨b, 0, none⟩ = some c0 ∧ w.cell? ⟨b, 1, none⟩ = some c1 ∧ w.cell? ⟨b, 2, none⟩ = some c2 ∧ w.cell? ⟨b, 3, none⟩ = some c3 ∧ w.cell? ⟨b, 4, none⟩ = some c4 ∧ w.cell? ⟨b, 5, none⟩ = some c5
theorem Box6.up {w w' : World} {b N : Nat} {c0 c1 c2 c3 c4 c5 : Value} (h : Box6 w b c0 c1 c2 c3 c4 c5) (hb : Below N w w') (hlt : b < N) : Box6 w' b c0 c1 c2 c3 c4 c5 := by
  obtain ⟨h0, h1, h2, h3, h4, h5⟩ := h
  have k : ∀ {o : Nat} {v : Value}, w.cell? ⟨b, o, none⟩ = some v → w'.cell? ⟨b, o, none⟩ = some v := fun {o v} hc => (hb.cell (p := ⟨b, o, none⟩) hlt).trans hc
  exact ⟨k h0, k h1, k h2, k h3, k h4, k h5⟩
theorem Box6.new {w w' : World} {c0 c1 c2 c3 c4 c5 : Value} {t : TypeId} (hb : Below (w.alloc (.cells #[c0, c1, c2, c3, c4, c5] t)).heap.size (w.alloc (.cells #[c0, c1, c2, c3, c4, c5] t)) w') : Box6 w' w.heap.size c0 c1 c2 c3 c4 c5 :=
  Box6.up (w := w.alloc (.cells #[c0, c1, c2, c3, c4, c5] t)) ⟨by simp [go_sem], by simp [go_sem], by simp [go_sem], by simp [go_sem], by simp [go_sem], by simp [go_sem]⟩ hb (by simp)
theorem kind7 {k : Int} (h : inR k 1 7 = true) : k = 1 ∨ k = 2 ∨ k = 3 ∨ k = 4 ∨ k = 5 ∨ k = 6 ∨ k = 7 := by
  have : 1 ≤ k ∧ k ≤ 7 := by simpa [inR] using h
  omega
theorem numOk_get {n : Int} {b : Bool} (h : numOk n b = true) : 0 ≤ n ∧ n ≤ 1000000000000000 := by
  cases b
  · have : n = 0 := by simpa [numOk] using h
    omega
  · simpa [numOk, inR] using h
theorem editOk_get {e : GEdit} (h : editOk e = true) : inR e.kind 1 7 = true ∧ (0 ≤ e.i ∧ e.i ≤ 1000000000000000) ∧ (0 ≤ e.j ∧ e.j ≤ 1000000000000000) ∧ (0 ≤ e.k ∧ e.k ≤ 1000000000000000) ∧ (2 ≤ e.kind → e.i ≤ e.j) ∧ (e.kind = 1 → e.j = 0) ∧ gramOk e.part = true := by
  simp only [editOk, Bool.and_eq_true, Bool.not_eq_true'] at h
  obtain ⟨⟨⟨⟨⟨⟨⟨h1, h2⟩, h3⟩, h4⟩, h5⟩, h6⟩, h7⟩, h8⟩ := h
  refine ⟨h1, by simpa [inR] using h2, numOk_get h3, numOk_get h4, ?_, ?_, h7⟩
  · intro hk
    simp [usesJ] at h5
    have := h5 hk
    omega
  · intro hk
    rw [hk] at h3
    simpa [numOk, usesJ] using h3
end Go.Proofs.Ytfapnipmgmpgaaa

namespace Go.Proofs.Ytfapnipmgmpgaaa
open Go.RowKit

def usesS (k : Int) : ByteArray := if k = 1 then ⟨#[73, 80]⟩ else if k = 2 then ⟨#[73, 74]⟩ else if k = 3 then ⟨#[73, 74, 75]⟩ else if k = 4 then ⟨#[73, 74, 75]⟩ else if k = 5 then ⟨#[73, 74]⟩ else if k = 6 then ⟨#[73, 74, 75]⟩ else ⟨#[73, 74, 77]⟩
def hasByte (s : ByteArray) (b : UInt8) : Bool := s.data.toList.any (· == b)
theorem uses_has {k : Int} (h : inR k 1 7 = true) : hasByte (usesS k) 74 = usesJ k ∧ hasByte (usesS k) 75 = usesK k ∧ hasByte (usesS k) 80 = (k == 1) ∧ hasByte (usesS k) 77 = (k == 7) ∧ (usesS k).size ≤ 3 := by
  rcases kind7 h with rfl | rfl | rfl | rfl | rfl | rfl | rfl <;> decide
set_option maxRecDepth 100000 in
set_option maxHeartbeats 4000000 in
theorem l07Uses_any (k : Int) (w : World) (h : inR k 1 7 = true) :
    Calls Try.prog 103 #[.int .i64 k] w fun e w' => e = .returned (.string (usesS k)) ∧ Below w.heap.size w w' := by
  rcases kind7 h with rfl | rfl | rfl | rfl | rfl | rfl | rfl <;>
  · clear h
    go_enter Try.func103, Try.ntmps103
    go_wp2
    go_ret
    exact ⟨rfl, (by repeat (first | exact Below.refl _ _ | (refine Below.alloc ?_ (by first | omega | (simp; done) | (simp; omega)) _) | refine below_drewN ?_ _ | refine Below.drew ?_))⟩

theorem has_true {s : ByteArray} {b : UInt8} {k : Nat} (h : k < s.size) (e : s[k] = b) : hasByte s b = true := by
  unfold hasByte
  rw [List.any_eq_true]
  exact ⟨s[k], by rw [Array.mem_toList_iff]; exact Array.getElem_mem h, by simp [e]⟩
theorem has_false {s : ByteArray} {b : UInt8} (h : ∀ j (hj : j < s.size), s[j] ≠ b) : hasByte s b = false := by
  unfold hasByte
  rw [List.any_eq_false]
  intro x hx
  rw [Array.mem_toList_iff] at hx
  obtain ⟨j, hj, rfl⟩ := Array.getElem_of_mem hx
  have := h j hj
  simp only [beq_iff_eq]
  exact this
set_option maxRecDepth 100000 in
theorem l07Has_any (s : ByteArray) (b : UInt8) (w : World) (hs : s.size ≤ maxLen) :
    Calls Try.prog 105 #[.string s, .int .u8 b.toNat] w fun e w' => e = .returned (.bool (hasByte s b)) ∧ w = w' := by
  unfold maxLen at hs
  go_enter Try.func105, Try.ntmps105
  go_wp2_with fail
  go_loop [5] (fun i => ∃ k : Nat, k ≤ s.size ∧ i = .int .i64 k ∧ ∀ j (hj : j < s.size), j < k → s[j] ≠ b) (fun i => s.size - (intOf i).toNat)
  case atStart => exact ⟨0, Nat.zero_le _, rfl, fun j hj h => absurd h (by omega)⟩
  case round =>
    obtain ⟨k, hk, rfl, hno⟩ := hrel
    have Hno := Lib.hid hno
    clear hno
    by_cases hlt : k < s.size
    · by_cases hp : s[k] = b
      · have Hp := Lib.hid hp
        have g : ((s[k].toNat : Int) == (b.toNat : Int)) = true := by rw [hp]; simp
        clear hp
        go_wp2
        go_ret
        exact ⟨ret_bool (has_true hlt Hp.out).symm, rfl⟩
      · have Hp := Lib.hid hp
        have g : ((s[k].toNat : Int) == (b.toNat : Int)) = false := by
          rw [beq_eq_false_iff_ne]; intro h
          exact hp (UInt8.toNat_inj.1 (by omega))
        clear hp
        go_wp2
        go_round
        case rel =>
          refine ⟨k + 1, by omega, by go_num, fun j hj h => ?_⟩
          by_cases e : j = k
          · subst e; exact Hp.out
          · exact Hno.out j hj (by omega)
        case measure => simp [intOf]; omega
    · go_wp2
      go_ret
      exact ⟨ret_bool (has_false (fun j hj => Hno.out j hj (by omega))).symm, rfl⟩

theorem l07Number_any (n : Int) (b : Bool) (w : World) :
    Calls Try.prog 104 #[.int .i64 n, .bool b] w fun r w' => r = .returned (.bool (numOk n b)) ∧ w = w' := by
  cases b
  · go_enter Try.func104, Try.ntmps104
    go_wp2_with fail
    go_ret
    exact ⟨rfl, rfl⟩
  · go_enter Try.func104, Try.ntmps104
    go_wp2_with fail
    refine (l00In_any _ _ _ _).mono ?_
    rintro r w' ⟨rfl, rfl⟩
    go_wp2_with fail
    go_ret
    exact ⟨rfl, rfl⟩

/-- An edit at an address, below B. -/
structure EditAt (w : World) (B b : Nat) (e : GEdit) (vR : Value) : Prop where
  box : Box6 w b (.int .i64 e.kind) (.int .i64 e.i) (.int .i64 e.j) (.int .i64 e.k) vR (.string e.map)
  lt : b < B
  sl : Sl RuleE w B vR e.part
theorem EditAt.up {w w' : World} {b : Nat} {e : GEdit} {vR : Value} (h : EditAt w w.heap.size b e vR) (hb : Below w.heap.size w w') : EditAt w' w'.heap.size b e vR :=
  ⟨h.box.up hb h.lt, Nat.lt_of_lt_of_le h.lt hb.size, h.sl.up hb⟩

set_option maxRecDepth 100000 in
set_option maxHeartbeats 2000000 in
theorem l07Range_any (b : Nat) (vR : Value) (e : GEdit) (n : Int) (w : World) (h : EditAt w w.heap.size b e vR) (hk : inR e.kind 1 7 = true) :
    Calls Try.prog 44 #[.pointer (some ⟨b, 0, none⟩), .int .i64 n] w fun r w' => r = .returned (.bool (editFits e n)) ∧ Below w.heap.size w w' := by
  obtain ⟨k, i, j, kk, part, map⟩ := e
  obtain ⟨⟨x0, x1, x2, x3, x4, x5⟩, hlt, _⟩ := h
  simp only at hk x0 x1 x2 x3 x4 x5
  rcases kind7 hk with rfl | rfl | rfl | rfl | rfl | rfl | rfl
  all_goals clear hk
  rotate_left 3
  · by_cases c1 : j ≤ n
    · by_cases c2 : kk ≤ i
      · go_enter Try.func44, Try.ntmps44
        go_wp2_with fail
        go_quiet (fail)
        go_wp2_with fail
        go_ret
        exact ⟨ret_bool (by simp [editFits, c1, c2]), (by repeat (first | exact Below.refl _ _ | (refine Below.alloc ?_ (by first | omega | (simp; done) | (simp; omega)) _) | refine below_drewN ?_ _ | refine Below.drew ?_))⟩
      · have g2 : decide (kk ≤ i) = false := by simp; omega
        by_cases c3 : j ≤ kk
        · go_enter Try.func44, Try.ntmps44
          go_wp2_with fail
          go_quiet (fail)
          go_wp2_with fail
          go_ret
          exact ⟨ret_bool (by simp [editFits, c1, g2, c3]), (by repeat (first | exact Below.refl _ _ | (refine Below.alloc ?_ (by first | omega | (simp; done) | (simp; omega)) _) | refine below_drewN ?_ _ | refine Below.drew ?_))⟩
        · have g3 : decide (j ≤ kk) = false := by simp; omega
          have C3 := Lib.hid c3
          go_enter Try.func44, Try.ntmps44
          go_wp2_with fail
          go_quiet (fail)
          go_wp2_with fail
          go_ret
          exact ⟨ret_bool (by simp [editFits, c1, g2, g3]), (by repeat (first | exact Below.refl _ _ | (refine Below.alloc ?_ (by first | omega | (simp; done) | (simp; omega)) _) | refine below_drewN ?_ _ | refine Below.drew ?_))⟩
    · have g1 : decide (j ≤ n) = false := by simp; omega
      go_enter Try.func44, Try.ntmps44
      go_wp2_with fail
      go_quiet (fail)
      go_wp2_with fail
      go_ret
      exact ⟨ret_bool (by simp [editFits, g1]), (by repeat (first | exact Below.refl _ _ | (refine Below.alloc ?_ (by first | omega | (simp; done) | (simp; omega)) _) | refine below_drewN ?_ _ | refine Below.drew ?_))⟩
  all_goals
    go_enter Try.func44, Try.ntmps44
    go_wp2_with fail
    all_goals
      go_ret
      refine ⟨ret_bool ?_, (by repeat (first | exact Below.refl _ _ | (refine Below.alloc ?_ (by first | omega | (simp; done) | (simp; omega)) _) | refine below_drewN ?_ _ | refine Below.drew ?_))⟩
      rw [Bool.eq_iff_iff]
      simp [editFits] at *
      try omega
end Go.Proofs.Ytfapnipmgmpgaaa

