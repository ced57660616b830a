import Derived.Test.YtejgbfgocaggfaaM5
import Derived.Test.YtejgbfgocaggfaaM4
import Derived.Test.YtejgbfgocaggfaaM1
import Derived.Maps.Keyed
import Derived.DeepKeys4
import Derived.Deep.CutRange
import Derived.Deep.DeepCutAuto
import Derived.Test.YtejgbfgocaggfaaM3
import Derived.WalkArith
import Derived.Deep.OwnRows
import Derived.IntWalk
import Derived.Test.YtejgbfgocaggfaaM2
namespace Go.Proofs.Ytejgbfgocaggfaa
def coverS (xs : List GRule) (ls : List Int) : Nat → Nat → Int → Int → List Nat
  | 0, _, _, _ => []
  | f + 1, r, i, j =>
    if j ≤ i then [] else if i = 0 ∧ j = ls.getD r 0 then [r] else
      coverS xs ls f (getR xs r).left.toNat i (min j (ls.getD (getR xs r).left.toNat 0)) ++ coverS xs ls f (getR xs r).right.toNat (max (i - ls.getD (getR xs r).left.toNat 0) 0) (j - ls.getD (getR xs r).left.toNat 0)
theorem coverS_eq {xs : List GRule} {ls : List Int} (hl : lens xs = some ls) {i j : Int} (hij : i < j) : ∀ (f r : Nat) (p : Int), r < f → r < xs.length →
    coverS xs ls f r (max (i - p) 0) (min (j - p) (ls.getD r 0)) = coverR xs ls i j f r p := by
  intro f
  induction f with
  | zero => intro r p hr; omega
  | succ f ih =>
    intro r p hr hx
    have h1 := lens_pos' hl hx
    rw [coverS, coverR]
    by_cases c1 : p + ls.getD r 0 ≤ i ∨ j ≤ p
    · rw [if_pos c1, if_pos (by omega)]
    rw [if_neg c1, if_neg (by omega)]
    by_cases c2 : i ≤ p ∧ p + ls.getD r 0 ≤ j
    · rw [if_pos c2, if_pos (by omega)]
    rw [if_neg c2, if_neg (by omega)]
    cases hpair : (getR xs r).pair with
    | false => have := lens_letter hl hx hpair; omega
    | true =>
      obtain ⟨q1, q2, q3, q4, q5⟩ := lens_pair hl hx hpair
      have hL := lens_pos' hl (r := (getR xs r).left.toNat) (by omega)
      have hR := lens_pos' hl (r := (getR xs r).right.toNat) (by omega)
      have e1 := ih (getR xs r).left.toNat p (by omega) (by omega)
      have e2 := ih (getR xs r).right.toNat (p + ls.getD (getR xs r).left.toNat 0) (by omega) (by omega)
      rw [← e1, ← e2]
      congr 1
      · congr 1; omega
      · congr 1 <;> omega
theorem pieces_cover {xs : List GRule} {ls : List Int} (hl : lens xs = some ls) {i j : Int} (hi : 0 ≤ i) (hij : i < j) (hj : j ≤ lastI ls) (h0 : 0 < xs.length) : piecesL xs ls i j = coverS xs ls xs.length (xs.length - 1) i j := by
  have hll := lens_length hl
  have e : lastI ls = ls.getD (xs.length - 1) 0 := by rw [lastI, hll]
  have := coverS_eq hl hij xs.length (xs.length - 1) 0 (by omega) (by omega)
  rw [piecesL, if_pos ⟨h0, hij⟩, ← this]
  congr 1 <;> omega
theorem cover_mem {xs : List GRule} {ls : List Int} (hl : lens xs = some ls) {i j : Int} : ∀ (f r : Nat) (p : Int), r < f → r < xs.length → ∀ x ∈ coverR xs ls i j f r p, x < xs.length := by
  intro f
  induction f with
  | zero => intro r p hr; omega
  | succ f ih =>
    intro r p hr hx y hy
    rw [coverR] at hy
    have h1 := lens_pos' hl hx
    split at hy
    · simp at hy
    split at hy
    · simp at hy; omega
    rename_i c1 c2
    cases hpair : (getR xs r).pair with
    | false => have := lens_letter hl hx hpair; omega
    | true =>
      obtain ⟨q1, q2, q3, q4, q5⟩ := lens_pair hl hx hpair
      rcases List.mem_append.1 hy with hy | hy
      · exact ih _ _ (by omega) (by omega) y hy
      · exact ih _ _ (by omega) (by omega) y hy
theorem cover_one {xs : List GRule} {ls : List Int} (hl : lens xs = some ls) {i j : Int} : ∀ (f r : Nat) (p : Int), r < f → r < xs.length → (i ≤ p ∨ p + ls.getD r 0 ≤ j) → (coverR xs ls i j f r p).length ≤ r + 1 := by
  intro f
  induction f with
  | zero => intro r p hr; omega
  | succ f ih =>
    intro r p hr hx ho
    rw [coverR]
    have h1 := lens_pos' hl hx
    split
    · simp
    split
    · simp
    rename_i c1 c2
    cases hpair : (getR xs r).pair with
    | false => have := lens_letter hl hx hpair; omega
    | true =>
      obtain ⟨q1, q2, q3, q4, q5⟩ := lens_pair hl hx hpair
      have hL := lens_pos' hl (r := (getR xs r).left.toNat) (by omega)
      have hR := lens_pos' hl (r := (getR xs r).right.toNat) (by omega)
      obtain ⟨g, rfl⟩ : ∃ g, f = g + 1 := ⟨f - 1, by omega⟩
      rw [List.length_append]
      rcases ho with ho | ho
      · by_cases c3 : p + ls.getD (getR xs r).left.toNat 0 ≤ j
        · have e1 : (coverR xs ls i j (g + 1) (getR xs r).left.toNat p).length = 1 := by rw [coverR, if_neg (by omega), if_pos (by omega)]; rfl
          have e2 := ih (getR xs r).right.toNat (p + ls.getD (getR xs r).left.toNat 0) (by omega) (by omega) (.inl (by omega))
          omega
        · have e2 : (coverR xs ls i j (g + 1) (getR xs r).right.toNat (p + ls.getD (getR xs r).left.toNat 0)).length = 0 := by rw [coverR, if_pos (by omega)]; rfl
          have e1 := ih (getR xs r).left.toNat p (by omega) (by omega) (.inl ho)
          omega
      · by_cases c3 : i ≤ p + ls.getD (getR xs r).left.toNat 0
        · have e2 : (coverR xs ls i j (g + 1) (getR xs r).right.toNat (p + ls.getD (getR xs r).left.toNat 0)).length ≤ 1 := by
            rw [coverR]
            split
            · simp
            rw [if_pos (by omega)]; simp
          have e1 := ih (getR xs r).left.toNat p (by omega) (by omega) (.inr (by omega))
          omega
        · have e1 : (coverR xs ls i j (g + 1) (getR xs r).left.toNat p).length = 0 := by rw [coverR, if_pos (by omega)]; rfl
          have e2 := ih (getR xs r).right.toNat (p + ls.getD (getR xs r).left.toNat 0) (by omega) (by omega) (.inr (by omega))
          omega
theorem cover_two {xs : List GRule} {ls : List Int} (hl : lens xs = some ls) {i j : Int} : ∀ (f r : Nat) (p : Int), r < f → r < xs.length → (coverR xs ls i j f r p).length ≤ 2 * (r + 1) := by
  intro f
  induction f with
  | zero => intro r p hr; omega
  | succ f ih =>
    intro r p hr hx
    rw [coverR]
    have h1 := lens_pos' hl hx
    split
    · simp
    split
    · simp; omega
    rename_i c1 c2
    cases hpair : (getR xs r).pair with
    | false => have := lens_letter hl hx hpair; omega
    | true =>
      obtain ⟨q1, q2, q3, q4, q5⟩ := lens_pair hl hx hpair
      have hL := lens_pos' hl (r := (getR xs r).left.toNat) (by omega)
      have hR := lens_pos' hl (r := (getR xs r).right.toNat) (by omega)
      obtain ⟨g, rfl⟩ : ∃ g, f = g + 1 := ⟨f - 1, by omega⟩
      rw [List.length_append]
      by_cases c3 : j ≤ p + ls.getD (getR xs r).left.toNat 0
      · have e2 : (coverR xs ls i j (g + 1) (getR xs r).right.toNat (p + ls.getD (getR xs r).left.toNat 0)).length = 0 := by rw [coverR, if_pos (by omega)]; rfl
        have e1 := ih (getR xs r).left.toNat p (by omega) (by omega)
        omega
      · by_cases c4 : p + ls.getD (getR xs r).left.toNat 0 ≤ i
        · have e1 : (coverR xs ls i j (g + 1) (getR xs r).left.toNat p).length = 0 := by rw [coverR, if_pos (by omega)]; rfl
          have e2 := ih (getR xs r).right.toNat (p + ls.getD (getR xs r).left.toNat 0) (by omega) (by omega)
          omega
        · have e1 := cover_one hl (i := i) (j := j) (g + 1) (getR xs r).left.toNat p (by omega) (by omega) (.inr (by omega))
          have e2 := cover_one hl (i := i) (j := j) (g + 1) (getR xs r).right.toNat (p + ls.getD (getR xs r).left.toNat 0) (by omega) (by omega) (.inl (by omega))
          omega
theorem cover_pos {xs : List GRule} {ls : List Int} (hl : lens xs = some ls) {i j : Int} (hij : i < j) : ∀ (f r : Nat) (p : Int), r < f → r < xs.length → i < p + ls.getD r 0 → p < j → 0 < (coverR xs ls i j f r p).length := by
  intro f
  induction f with
  | zero => intro r p hr; omega
  | succ f ih =>
    intro r p hr hx ha hb
    rw [coverR, if_neg (by omega)]
    have h1 := lens_pos' hl hx
    split
    · simp
    rename_i c2
    cases hpair : (getR xs r).pair with
    | false => have := lens_letter hl hx hpair; omega
    | true =>
      obtain ⟨q1, q2, q3, q4, q5⟩ := lens_pair hl hx hpair
      have hL := lens_pos' hl (r := (getR xs r).left.toNat) (by omega)
      have hR := lens_pos' hl (r := (getR xs r).right.toNat) (by omega)
      rw [List.length_append]
      by_cases c3 : i < p + ls.getD (getR xs r).left.toNat 0
      · have := ih (getR xs r).left.toNat p (by omega) (by omega) c3 hb
        omega
      · have := ih (getR xs r).right.toNat (p + ls.getD (getR xs r).left.toNat 0) (by omega) (by omega) (by omega) (by omega)
        omega
def joinStep (p : List GRule × Int) (c : Nat) : List GRule × Int := (p.1 ++ [pairR p.2 c], (p.1.length : Int))
def cutG (xs : List GRule) : List Nat → List GRule
  | [] => []
  | [c] => xs.take (c + 1)
  | c :: d :: cs => ((d :: cs).foldl joinStep (xs, (c : Int))).1
def partG (xs : List GRule) (ls : List Int) (i j : Int) : List GRule := trimG (cutG xs (piecesL xs ls i j))
theorem join_ok {m : Nat} : ∀ (cs : List Nat) (p : List GRule × Int), (∀ c ∈ cs, c < m) → m ≤ p.1.length → OkAll p.1 → 0 ≤ p.2 ∧ p.2 < p.1.length → OkAll (cs.foldl joinStep p).1 ∧ (cs.foldl joinStep p).1.length = p.1.length + cs.length
  | [], p, _, _, h, _ => ⟨h, rfl⟩
  | c :: cs, p, hc, hm, h, hp => by
    have hcm := hc c (by simp)
    have := join_ok cs (joinStep p c) (fun d hd => hc d (by simp [hd])) (by simp [joinStep]; omega) (h.snoc (okRule_pair hp ⟨by omega, by omega⟩)) (by simp [joinStep]; omega)
    refine ⟨this.1, ?_⟩
    rw [List.foldl_cons, this.2]
    simp [joinStep]; omega
theorem okAll_take {xs : List GRule} (h : OkAll xs) (n : Nat) : OkAll (xs.take n) := fun k r hk => by
  rw [List.getElem?_take] at hk
  split at hk
  · exact h k r hk
  · cases hk
theorem cutG_ok {xs : List GRule} (h : OkAll xs) (cs : List Nat) (hc : ∀ c ∈ cs, c < xs.length) : OkAll (cutG xs cs) ∧ (cutG xs cs).length ≤ xs.length + cs.length := by
  match cs with
  | [] => exact ⟨fun k r hk => by simp [cutG] at hk, by simp [cutG]⟩
  | [c] => exact ⟨okAll_take h _, by simp [cutG]; omega⟩
  | c :: d :: cs =>
    have := join_ok (d :: cs) (xs, (c : Int)) (fun x hx => hc x (by simp at hx; simp; exact .inr hx)) (Nat.le_refl _) h (by have := hc c (by simp); simp; omega)
    refine ⟨this.1, ?_⟩
    have e : (cutG xs (c :: d :: cs)).length = xs.length + (d :: cs).length := this.2
    rw [e]; simp
theorem pieces_len {xs : List GRule} {ls : List Int} (hl : lens xs = some ls) (i j : Int) : (piecesL xs ls i j).length ≤ 2 * xs.length := by
  unfold piecesL
  split
  · rename_i h
    have := cover_two hl (i := i) (j := j) xs.length (xs.length - 1) 0 (by omega) (by omega)
    omega
  · simp
theorem pieces_mem {xs : List GRule} {ls : List Int} (hl : lens xs = some ls) (i j : Int) : ∀ x ∈ piecesL xs ls i j, x < xs.length := by
  unfold piecesL
  split
  · rename_i h
    exact cover_mem hl xs.length (xs.length - 1) 0 (by omega) (by omega)
  · simp
theorem pieces_pos {xs : List GRule} {ls : List Int} (hl : lens xs = some ls) {i j : Int} (hi : 0 ≤ i) (hij : i < j) (hj : j ≤ lastI ls) (h0 : 0 < xs.length) : 0 < (piecesL xs ls i j).length := by
  have hll := lens_length hl
  have e : lastI ls = ls.getD (xs.length - 1) 0 := by rw [lastI, hll]
  rw [piecesL, if_pos ⟨h0, hij⟩]
  exact cover_pos hl hij xs.length (xs.length - 1) 0 (by omega) (by omega) (by omega) (by omega)
open Go.RowKit
section
variable {w w' : World} {b : Nat} {ks : List GRule} {r : GRule}
end
theorem list_push_rule {W : World} {ops : Array Oper} {rest : List Oper} {o : Oper} {a : Act} {Q : Exit → Act → World → Prop} (hgd : o.guard = none) (s x : Operand)
    (ho : o.op = .call { callee := .builtin .append, args := #[s, x], argTypes := #[29, 29] }) {t : ByteArray} {p q : Int} {base : Nat} {v : Value} {l : List GRule}
    (hs : a.eval s = v) {N : Nat} (hx : a.eval x = .slice (some ⟨N, 0, none⟩) 1 1) (hN : N = W.heap.size) (hown : OwnRules W base v l) (hlen : l.length ≤ 1099511627775) (hbase : base ≤ W.heap.size)
    (h : ∀ v' w', OwnRules w' base v' (l ++ [⟨t, p, q⟩]) → (W.alloc (.cells #[.string t, .int .i64 p, .int .i64 q] 138)).grownBy w' v.ownBlock → Below base (W.alloc (.cells #[.string t, .int .i64 p, .int .i64 q] 138)) w' → wpList Try.prog ops Q rest (a.put o.dst v') w') :
    wpList Try.prog ops Q (o :: rest) a (W.alloc (.cells #[.string t, .int .i64 p, .int .i64 q] 138)) :=
  wpList_plain hgd fun K hK => by
    have := step_push_rule (E := True) (K := K) (ops := ops) (Q := Q) hgd s x ho hs hx hN hown hlen hbase (fun v' w' h1 h2 h3 => hK _ _ (h v' w' h1 h2 h3))
    rwa [if_pos (by simp [Region.wanted, hgd])] at this
theorem own_put {w5 : World} {K base n c5 : Nat} {A5 : Option Addr} {L M : List GRule} {vo : Value} (bx : Boxed w5 K 31 vo) (own : OwnRules w5 base (.slice A5 L.length c5) L) (hM : L = M) (hn : M.length = n) :
    OwnRules (w5.setCell ⟨K, 0, none⟩ (.slice A5 n c5)) base (.slice A5 n c5) M := by
  subst hM; subst hn; exact ownsRow_setCell_other (a := ⟨K, 0, none⟩) own (bx.not_row (by decide) own).symm _
def Cells3 (w : World) (B : Nat) (r : GRule) : Prop := w.cell? ⟨B, 0, none⟩ = some (.string r.letter) ∧ w.cell? ⟨B, 1, none⟩ = some (.int .i64 r.left) ∧ w.cell? ⟨B, 2, none⟩ = some (.int .i64 r.right) ∧ B < w.heap.size
theorem Cells3.below {w w' : World} {B N : Nat} {r : GRule} (h : Cells3 w B r) (hb : Below N w w') (hlt : B < N) : Cells3 w' B r :=
  ⟨(hb.cell (p := ⟨B, 0, none⟩) hlt).trans h.1, (hb.cell (p := ⟨B, 1, none⟩) hlt).trans h.2.1, (hb.cell (p := ⟨B, 2, none⟩) hlt).trans h.2.2.1, Nat.lt_of_lt_of_le h.2.2.2 hb.size⟩
theorem Cells3.kept {w w' : World} {B : Nat} {r : GRule} {row : Option Nat} (h : Cells3 w B r) (hg : w.grownBy w' row) (hne : some B ≠ row) : Cells3 w' B r :=
  ⟨(World.cell?_of_block (a := ⟨B, 0, none⟩) (hg.block B h.2.2.2 hne)).trans h.1, (World.cell?_of_block (a := ⟨B, 1, none⟩) (hg.block B h.2.2.2 hne)).trans h.2.1, (World.cell?_of_block (a := ⟨B, 2, none⟩) (hg.block B h.2.2.2 hne)).trans h.2.2.1, Nat.lt_of_lt_of_le h.2.2.2 hg.size⟩
theorem keptc {W w' : World} {row : Option Nat} {N o : Nat} {u : Value} (hg : W.grownBy w' row) (hc : W.cell? ⟨N, o, none⟩ = some u) (hlt : N < W.heap.size) (hne : some N ≠ row) : w'.cell? ⟨N, o, none⟩ = some u :=
  (World.cell?_of_block (a := ⟨N, o, none⟩) (hg.block N hlt hne)).trans hc
theorem own_block {w : World} {base e s n : Nat} {v : Value} {xs : List Value} (h : w.ownsRow base e s v n xs) {g : Nat} (hg : v.ownBlock = some g) : ∃ cur, w.heap[g]? = some (.cells cur e (0, 0)) := by
  rcases h.2 with ⟨rfl, _⟩ | ⟨g', cap, cur, rfl, _, hb, _⟩
  · cases hg
  · have : g' = g := by simpa [Value.ownBlock] using hg
    subst this; exact ⟨cur, hb⟩
theorem own_apart {w : World} {base base' e e' s s' n n' : Nat} {v v' : Value} {xs xs' : List Value} (h : w.ownsRow base e s v n xs) (h' : w.ownsRow base' e' s' v' n' xs') (hne : e ≠ e') : ∀ g, v.ownBlock = some g → some g ≠ v'.ownBlock := fun g hg hg' => by
  obtain ⟨c1, h1⟩ := own_block h hg
  obtain ⟨c2, h2⟩ := own_block h' hg'.symm
  rw [h1] at h2
  have := Option.some.inj h2
  injection this with _ h3; exact hne h3
section
variable {w0 W : World} {base bm bx : Nat} {X : GRule} {ks K : List GRule} {v4 v6 : Value} {S : List Int}
end
theorem Cells3.new {W : World} {N : Nat} {r : GRule} (hN : N = W.heap.size) : Cells3 (W.alloc (.cells #[.string r.letter, .int .i64 r.left, .int .i64 r.right] 138)) N r := by
  subst hN
  refine ⟨?_, ?_, ?_, by simp⟩ <;> simp [go_sem]
theorem Cells3.alloc {W : World} {N : Nat} {r : GRule} (h : Cells3 W N r) (o : Obj) : Cells3 (W.alloc o) N r := h.below ((Below.refl W.heap.size W).alloc (Nat.le_refl _) o) h.2.2.2
theorem Cells3.drew {W : World} {N : Nat} {r : GRule} (h : Cells3 W N r) : Cells3 W.drew N r := h
def Cell1 (w : World) (B : Nat) (q : Int) : Prop := w.cell? ⟨B, 0, none⟩ = some (.int .i64 q) ∧ B < w.heap.size
theorem Cell1.new {W : World} {N : Nat} {q : Int} (hN : N = W.heap.size) : Cell1 (W.alloc (.cells #[.int .i64 q] 2)) N q := by
  subst hN
  exact ⟨by simp [go_sem], by simp⟩
theorem Cell1.alloc {W : World} {N : Nat} {q : Int} (h : Cell1 W N q) (o : Obj) : Cell1 (W.alloc o) N q :=
  ⟨(((Below.refl W.heap.size W).alloc (Nat.le_refl _) o).cell (p := ⟨N, 0, none⟩) h.2).trans h.1, by have := h.2; simp; omega⟩
theorem Cell1.drew {W : World} {N : Nat} {q : Int} (h : Cell1 W N q) : Cell1 W.drew N q := h
theorem Cell1.kept {w w' : World} {B : Nat} {q : Int} {row : Option Nat} (h : Cell1 w B q) (hg : w.grownBy w' row) (hne : some B ≠ row) : Cell1 w' B q := ⟨keptc hg h.1 h.2 hne, Nat.lt_of_lt_of_le h.2 hg.size⟩
theorem own_far {w : World} {base e s n : Nat} {v : Value} {xs : List Value} (h : w.ownsRow base e s v n xs) {N : Nat} (hN : w.heap.size ≤ N) : some N ≠ v.ownBlock := fun e => by
  have := (World.ownsRow.lt h N e.symm).2; omega
def RowB (w : World) (b : Nat) (N : List Bool) : Prop := w.rowIs b 4 N.length fun i => .bool (N.getD i false)
def RowI (w : World) (b : Nat) (l : List Int) : Prop := w.rowIs b 2 l.length fun i => .int .i64 (l.getD i 0)
theorem RowB.made (w : World) (n : Nat) : RowB (w.alloc (.cells (madeCells #[.bool false] n) 4)) w.heap.size (List.replicate n false) := by
  have h := World.rowIs_made w (.bool false) n 4
  unfold RowB; rw [List.length_replicate]
  exact h.congr fun i hi => by simp [hi]
theorem RowI.made (w : World) (n : Nat) : RowI (w.alloc (.cells (madeCells #[.int .i64 0] n) 2)) w.heap.size (List.replicate n 0) := by
  have h := World.rowIs_made w (.int .i64 0) n 2
  unfold RowI; rw [List.length_replicate]
  exact h.congr fun i hi => by simp [hi]
section
variable {w w' : World} {b : Nat} {N : List Bool} {l : List Int}
theorem RowB.set (h : RowB w b N) (i : Nat) (x : Bool) : RowB (w.setCell ⟨b, i, none⟩ (.bool x)) b (N.set i x) := by
  have h2 := World.rowIs.set h i (.bool x)
  unfold RowB; rw [List.length_set]
  exact h2.congr fun j hj => by
    by_cases e : j = i
    · subst e; simp [hj]
    · simp [e, Ne.symm e]
theorem RowI.set (h : RowI w b l) (i : Nat) (x : Int) : RowI (w.setCell ⟨b, i, none⟩ (.int .i64 x)) b (l.set i x) := by
  have h2 := World.rowIs.set h i (.int .i64 x)
  unfold RowI; rw [List.length_set]
  exact h2.congr fun j hj => by
    by_cases e : j = i
    · subst e; simp [hj]
    · simp [e, Ne.symm e]
theorem RowB.lt (h : RowB w b N) : b < w.heap.size := World.rowIs.lt h
theorem RowI.lt (h : RowI w b l) : b < w.heap.size := World.rowIs.lt h
theorem RowB.cell (h : RowB w b N) {i : Nat} (hi : i < N.length) : w.cell? ⟨b, i, none⟩ = some (.bool (N.getD i false)) := World.rowIs.cell h hi
theorem RowI.cell (h : RowI w b l) {i : Nat} (hi : i < l.length) : w.cell? ⟨b, i, none⟩ = some (.int .i64 (l.getD i 0)) := World.rowIs.cell h hi
theorem RowB.frozen (h : RowB w b N) (i : Nat) : w.frozen? ⟨b, i, none⟩ = false := World.rowIs.frozen h i
theorem RowI.frozen (h : RowI w b l) (i : Nat) : w.frozen? ⟨b, i, none⟩ = false := World.rowIs.frozen h i
theorem RowB.alloc (h : RowB w b N) (o : Obj) : RowB (w.alloc o) b N := World.rowIs.alloc h o
theorem RowI.alloc (h : RowI w b l) (o : Obj) : RowI (w.alloc o) b l := World.rowIs.alloc h o
theorem RowB.drew (h : RowB w b N) : RowB w.drew b N := h
theorem RowI.drew (h : RowI w b l) : RowI w.drew b l := h
theorem RowB.below {M : Nat} (h : RowB w b N) (hb : Below M w w') (hlt : b < M) : RowB w' b N := World.rowIs.of_block h (hb.block b hlt)
theorem RowI.below {M : Nat} (h : RowI w b l) (hb : Below M w w') (hlt : b < M) : RowI w' b l := World.rowIs.of_block h (hb.block b hlt)
theorem RowI.kept {row : Option Nat} (h : RowI w b l) (hg : w.grownBy w' row) (hne : some b ≠ row) : RowI w' b l := World.rowIs.of_block h (hg.block b h.lt hne)
theorem RowI.other (h : RowI w b l) {c o : Nat} (hne : b ≠ c) (u : Value) : RowI (w.setCell ⟨c, o, none⟩ u) b l := World.rowIs.setOther h hne u
theorem RowI.not_row {base e s n : Nat} {v : Value} {xs : List Value} (h : RowI w b l) (h' : w.ownsRow base e s v n xs) (hne : 2 ≠ e) : some b ≠ v.ownBlock := fun hb => by
  obtain ⟨c, h1⟩ := own_block h' hb.symm
  obtain ⟨c2, h2, _⟩ := h
  rw [h1] at h2
  have := Option.some.inj h2
  injection this with _ h3; exact hne h3.symm
end
theorem boxed_other {W : World} {B B' o : Nat} {t : TypeId} {v : Value} (h : Boxed W B t v) (hne : B ≠ B') (u : Value) : Boxed (W.setCell ⟨B', o, none⟩ u) B t v := (Below.heap_setCell _ _ _ _ hne).trans h
theorem Boxed.of1 (w : World) (o : Obj) (t : TypeId) (v : Value) : Boxed ((w.alloc o).alloc (.cells #[v] t)).drew (w.heap.size + 1) t v := by
  have := Boxed.new (w.alloc o) t v
  rw [show (w.alloc o).heap.size = w.heap.size + 1 by simp] at this
  exact this
theorem RowI.of1 (w : World) (o : Obj) (n : Nat) : RowI ((w.alloc o).alloc (.cells (madeCells #[.int .i64 0] n) 2)).drew (w.heap.size + 1) (List.replicate n 0) := by
  have := RowI.made (w.alloc o) n
  rw [show (w.alloc o).heap.size = w.heap.size + 1 by simp] at this
  exact this
theorem l00Min_any (a b : Int) (w : World) : Calls Try.prog 94 #[.int .i64 a, .int .i64 b] w fun e w' => e = .returned (.int .i64 (min a b)) ∧ w = w' := by
  by_cases h : a < b
  · have e : min a b = a := by omega
    rw [e]
    go_enter Try.func94, Try.ntmps94
    go_wp2
    go_ret
    exact ⟨rfl, rfl⟩
  · have e : min a b = b := by omega
    rw [e]
    go_enter Try.func94, Try.ntmps94
    go_wp2
    go_ret
    exact ⟨rfl, rfl⟩
theorem l00Max_any (a b : Int) (w : World) : Calls Try.prog 142 #[.int .i64 a, .int .i64 b] w fun e w' => e = .returned (.int .i64 (max a b)) ∧ w = w' := by
  by_cases h : a > b
  · have e : max a b = a := by omega
    rw [e]
    go_enter Try.func142, Try.ntmps142
    go_wp2
    go_ret
    exact ⟨rfl, rfl⟩
  · have e : max a b = b := by omega
    rw [e]
    go_enter Try.func142, Try.ntmps142
    go_wp2
    go_ret
    exact ⟨rfl, rfl⟩
def nI (l : List Nat) : List Int := l.map Int.ofNat
theorem nI_append (a b : List Nat) : nI (a ++ b) = nI a ++ nI b := by simp [nI]
theorem nI_len (a : List Nat) : (nI a).length = a.length := by simp [nI]
set_option maxRecDepth 100000 in
set_option maxHeartbeats 2000000 in
theorem l02Cover_any (base bg og : Nat) (vL vR : Value) (xs : List GRule) (ls : List Int) (hl : lens xs = some ls) (_hn : xs.length ≤ 4194304) (hbg : bg < base) : ∀ (f r : Nat) (i j : Int) (vO : Value) (out : List Int) (w : World),
    r < f → r < xs.length → 0 ≤ i ∧ i ≤ 1000000000000000 → -1000000000000000 ≤ j ∧ j ≤ ls.getD r 0 → w.cell? ⟨bg, og, none⟩ = some vR → Sl IntE w base vL ls → Sl RuleE w base vR xs → base ≤ w.heap.size → OwnInts w base vO out →
    out.length + (coverS xs ls f r i j).length ≤ 1099511627776 →
    Calls Try.prog 118 #[.pointer (some ⟨bg, og, none⟩), vL, .int .i64 r, .int .i64 i, .int .i64 j, vO] w fun e w' => ∃ v', e = .returned v' ∧ OwnInts w' base v' (out ++ nI (coverS xs ls f r i j)) ∧ Below base w w' := by
  intro f
  induction f with
  | zero => intro r i j vO out w hr; omega
  | succ f ih =>
    intro r i j vO out w hr hx hi hj hp hL hR hbs hown hlen
    have hll := lens_length hl
    have hL' := hL
    have hR' := hR
    obtain ⟨AL, cL, rfl, _, hmL, hrowL⟩ := hL
    obtain ⟨AR, cR, rfl, _, hmR, hrowR⟩ := hR
    unfold maxLen at hmL hmR
    have hr1 := lens_pos' hl hx
    by_cases c1 : j ≤ i
    · have e : coverS xs ls (f + 1) r i j = [] := by rw [coverS, if_pos c1]
      have He := Lib.hid e
      have Hown := Lib.hid hown
      clear e hrowL hrowR ih hL' hR' hown hlen
      go_enter Try.func118, Try.ntmps118
      go_wp2_with fail
      go_ret
      exact ⟨_, rfl, by rw [He.out]; simpa [nI] using Hown.out, Below.refl _ _⟩
    obtain ⟨b1, o1, rfl, hb1, hcellL⟩ := hrowL.int (k := r) (by omega)
    obtain ⟨b2, o2, rfl, hb2', hcellR⟩ := hrowR.rule (k := r) hx
    have hcl := hcellL r (by omega)
    have hri : (r : Int) < (xs.length : Int) := by omega
    have hri2 : (r : Int) < (ls.length : Int) := by omega
    obtain ⟨LR, hLR⟩ : ∃ x, ls.getD r 0 = x := ⟨_, rfl⟩
    rw [hLR] at hcl hr1 hj
    by_cases c2 : i = 0 ∧ j = ls.getD r 0
    · obtain ⟨rfl, c2⟩ := c2
      rw [hLR] at c2
      subst c2
      have e : coverS xs ls (f + 1) r 0 j = [r] := by rw [coverS, if_neg c1, if_pos ⟨rfl, hLR.symm⟩]
      rw [e] at hlen
      have He := Lib.hid e
      have Hown := Lib.hid hown
      have hl2 : out.length ≤ 1099511627776 := by simp at hlen; omega
      have Hl2 := Lib.hid hl2
      obtain ⟨AO, cO, rfl, _⟩ := own_nil hown
      clear e hrowL hrowR ih hL' hR' hown hlen hcellL hcellR hl2 hll
      go_enter Try.func118, Try.ntmps118
      go_wp2_with (first | (at_builtin; go_must (refine push_ints (base := base) (v := .slice AO out.length cO) (l := out) rfl _ _ rfl rfl rfl rfl Hown.out Hl2.out hbs ?_); intro v' w' h1 h2 h3))
      go_ret
      exact ⟨_, rfl, by rw [He.out]; exact h1, h3⟩
    cases hpair : (getR xs r).pair with
    | false => have := lens_letter hl hx hpair; omega
    | true =>
      obtain ⟨q1, q2, q3, q4, q5⟩ := lens_pair hl hx hpair
      obtain ⟨k0, k1, k2⟩ := hcellR r _ (getR_at hx)
      obtain ⟨la, hla⟩ := Int.eq_ofNat_of_zero_le q1
      obtain ⟨ra, hra⟩ := Int.eq_ofNat_of_zero_le q3
      have e : coverS xs ls (f + 1) r i j = coverS xs ls f la i (min j (ls.getD la 0)) ++ coverS xs ls f ra (max (i - ls.getD la 0) 0) (j - ls.getD la 0) := by
        rw [coverS, if_neg c1, if_neg c2, hla, hra]; rfl
      rw [hla] at k1 q2 q5
      rw [hra] at k2 q4 q5
      simp only [Int.toNat_natCast] at q2 q4 q5
      have hA := lens_pos' hl (r := la) (by omega)
      have hB := lens_pos' hl (r := ra) (by omega)
      rw [e, List.length_append] at hlen
      have IH1 := Lib.hid (fun w' hp' hL'' hR'' hb' ho' => ih la i (min j (ls.getD la 0)) vO out w' (by omega) (by omega) hi (by omega) hp' hL'' hR'' hb' ho' (by omega))
      have IH2 := Lib.hid (fun v' w' hp' hL'' hR'' hb' ho' => ih ra (max (i - ls.getD la 0) 0) (j - ls.getD la 0) v' (out ++ nI (coverS xs ls f la i (min j (ls.getD la 0)))) w' (by omega) (by omega) (by omega) (by omega) hp' hL'' hR'' hb' ho' (by rw [List.length_append, nI_len]; omega))
      have hca := hcellL la (by omega)
      obtain ⟨LA, hLA⟩ : ∃ x, ls.getD la 0 = x := ⟨_, rfl⟩
      rw [hLA] at IH1 IH2 hca hA e
      have He := Lib.hid e
      have Hown := Lib.hid hown
      have HL := Lib.hid hL'
      have HR := Lib.hid hR'
      have d1 : (j == LR) = false ∨ ¬ i = 0 := by
        by_cases h : i = 0
        · exact .inl (by rw [beq_eq_false_iff_ne]; exact fun h2 => c2 ⟨h, by rw [hLR]; exact h2⟩)
        · exact .inr h
      have d2 : ¬ (i = 0) ∨ ¬ (j = LR) := by rcases d1 with d | d
                                             · exact .inr (by simpa using d)
                                             · exact .inl d
      have hlai : (la : Int) < (ls.length : Int) := by omega
      have hij : i < j := by omega
      clear e hrowL hrowR ih hL' hR' hown hlen hcellL hcellR hLR hLA q5 hB c1 c2 d1 hll
      go_enter Try.func118, Try.ntmps118
      have HLd : Hid (Sl IntE w.drew base (.slice (some ⟨b1, o1, none⟩) ls.length cL) ls) := HL.out.keep fun _ _ => rfl
      have HRd : Hid (Sl RuleE w.drew base (.slice (some ⟨b2, o2, none⟩) xs.length cR) xs) := HR.out.keep fun _ _ => rfl
      have Hod : Hid (OwnInts w.drew base vO out) := Hown.out.drew
      have hpd : w.drew.cell? ⟨bg, og, none⟩ = some (.slice (some ⟨b2, o2, none⟩) xs.length cR) := hp
      have hbd : base ≤ w.drew.heap.size := hbs
      have I1 := Lib.hid (IH1.out w.drew hpd HLd.out HRd.out hbd Hod.out)
      by_cases hi0 : i = 0
      · subst hi0
        have hjL : ¬ (j = LR) := by rcases d2 with d | d
                                    · exact absurd rfl d
                                    · exact d
        have hm0 : max (0 - LA) 0 = 0 := by omega
        rw [hm0] at IH2 He
        clear hm0
        go_upto_region 7 with fail
        go_cut [5] from 15 to 57 (fun q wx => OwnInts wx base q (out ++ nI (coverS xs ls f la 0 (min j LA))) ∧ Below base w wx)
        case first =>
          go_region_law (first
            | (go_simp; go_at_call 94; refine (l00Min_any _ _ _).mono ?_; rintro e w1 ⟨rfl, rfl⟩)
            | (go_simp; go_at_call 118; (with_reducible refine I1.out.mono ?_); rintro e w2 ⟨v2, rfl, own2, hb2⟩))
          all_goals
            go_wp2_with fail
            go_meet
            exact ⟨own2, (Below.drew (Below.refl _ _)).trans hb2⟩
        case rest =>
          revert hcut
          generalize wc = w2
          intro hcut
          obtain ⟨own2, hb2⟩ := hcut
          have p2 : w2.cell? ⟨bg, og, none⟩ = some (.slice (some ⟨b2, o2, none⟩) xs.length cR) := (hb2.cell (p := ⟨bg, og, none⟩) hbg).trans hp
          have I2 := Lib.hid (IH2.out _ w2.drew p2 (SlS.below HL.out (Below.drew hb2)) (SlS.below HR.out (Below.drew hb2)) (Nat.le_trans hbs hb2.size) own2.drew)
          have m1 : w2.cell? ⟨b2, o2 + r * 3 + 2, none⟩ = some (.int .i64 (ra : Int)) := (hb2.cell (p := ⟨b2, o2 + r * 3 + 2, none⟩) hb2').trans k2
          have HB2 := Lib.hid hb2
          clear own2 hb2
          have hwj : IntKind.i64.wrap (j - LA) = j - LA := IntWalk.i64_in _ (by omega)
          have hwn : IntKind.i64.wrap (-LA) = -LA := IntWalk.i64_in _ (by omega)
          have hmx : max (-LA) 0 = 0 := by omega
          go_wp2_with fail
          go_region_law (first
            | (go_simp; go_at_call 142; refine (l00Max_any _ _ _).mono ?_; rintro e w1 ⟨rfl, rfl⟩)
            | (go_simp; go_at_call 118; (with_reducible refine I2.out.mono ?_); rintro e w3 ⟨v3, rfl, own3, hb3⟩))
          all_goals
            go_wp2_with fail
            go_ret
            exact ⟨_, rfl, by rw [He.out, nI_append, ← List.append_assoc]; exact own3, (HB2.out.trans (Below.drew (Below.refl _ _))).trans hb3⟩
      · go_upto_region 7 with fail
        go_cut [5] from 15 to 57 (fun q wx => OwnInts wx base q (out ++ nI (coverS xs ls f la i (min j LA))) ∧ Below base w wx)
        case first =>
          go_region_law (first
            | (go_simp; go_at_call 94; refine (l00Min_any _ _ _).mono ?_; rintro e w1 ⟨rfl, rfl⟩)
            | (go_simp; go_at_call 118; (with_reducible refine I1.out.mono ?_); rintro e w2 ⟨v2, rfl, own2, hb2⟩))
          all_goals
            go_wp2_with fail
            go_meet
            exact ⟨own2, (Below.drew (Below.refl _ _)).trans hb2⟩
        case rest =>
          revert hcut
          generalize wc = w2
          intro hcut
          obtain ⟨own2, hb2⟩ := hcut
          have p2 : w2.cell? ⟨bg, og, none⟩ = some (.slice (some ⟨b2, o2, none⟩) xs.length cR) := (hb2.cell (p := ⟨bg, og, none⟩) hbg).trans hp
          have I2 := Lib.hid (IH2.out _ w2.drew p2 (SlS.below HL.out (Below.drew hb2)) (SlS.below HR.out (Below.drew hb2)) (Nat.le_trans hbs hb2.size) own2.drew)
          have m1 : w2.cell? ⟨b2, o2 + r * 3 + 2, none⟩ = some (.int .i64 (ra : Int)) := (hb2.cell (p := ⟨b2, o2 + r * 3 + 2, none⟩) hb2').trans k2
          have HB2 := Lib.hid hb2
          clear own2 hb2
          have hwj : IntKind.i64.wrap (j - LA) = j - LA := IntWalk.i64_in _ (by omega)
          have hwi : IntKind.i64.wrap (i - LA) = i - LA := IntWalk.i64_in _ (by omega)
          go_wp2_with fail
          go_region_law (first
            | (go_simp; go_at_call 142; refine (l00Max_any _ _ _).mono ?_; rintro e w1 ⟨rfl, rfl⟩)
            | (go_simp; go_at_call 118; (with_reducible refine I2.out.mono ?_); rintro e w3 ⟨v3, rfl, own3, hb3⟩))
          all_goals
            go_wp2_with fail
            go_ret
            exact ⟨_, rfl, by rw [He.out, nI_append, ← List.append_assoc]; exact own3, (HB2.out.trans (Below.drew (Below.refl _ _))).trans hb3⟩
theorem list_push_int {W : World} {ops : Array Oper} {rest : List Oper} {o : Oper} {a : Act} {Q : Exit → Act → World → Prop} (hgd : o.guard = none) (s x : Operand)
    (ho : o.op = .call { callee := .builtin .append, args := #[s, x], argTypes := #[26, 26] }) {y : Int} {base : Nat} {v : Value} {l : List Int}
    (hs : a.eval s = v) {N : Nat} (hx : a.eval x = .slice (some ⟨N, 0, none⟩) 1 1) (hN : N = W.heap.size) (hown : OwnInts W base v l) (hlen : l.length ≤ 1099511627775) (hbase : base ≤ W.heap.size)
    (h : ∀ v' w', OwnInts w' base v' (l ++ [y]) → (W.alloc (.cells #[.int .i64 y] 2)).grownBy w' v.ownBlock → (v'.ownBlock = v.ownBlock ∨ v'.ownBlock = some (W.heap.size + 1)) → wpList Try.prog ops Q rest (a.put o.dst v') w') :
    wpList Try.prog ops Q (o :: rest) a (W.alloc (.cells #[.int .i64 y] 2)) :=
  wpList_plain hgd fun K hK => by
    subst hN
    have := step_push_int (E := True) (K := K) (ops := ops) (Q := Q) hgd s x ho hs hx (Cell1.new rfl).1 (hown.alloc _) (by omega) (by simp; omega) (fun v' w' h1 h2 h3 => hK _ _ (h v' w' h1 h2 (by simpa using h3)))
    rwa [if_pos (by simp [Region.wanted, hgd])] at this
theorem Row.take {α : Type} {E : Enc α} {w : World} {S : Nat → Prop} {A : Option Addr} {xs : List α} (h : Row E w S A xs) (m : Nat) : Row E w S A (xs.take m) := fun hn => by
  obtain ⟨b, o, rfl, hlt, hc⟩ := h (by simp at hn; omega)
  refine ⟨b, o, rfl, hlt, fun k x hx => hc k x ?_⟩
  rw [List.getElem?_take] at hx
  split at hx
  · exact hx
  · cases hx
theorem sl_take {α : Type} {E : Enc α} {w : World} {S : Nat → Prop} {A : Option Addr} {n c : Nat} {xs : List α} (h : SlS E w S (.slice A n c) xs) {m : Nat} (hm : m ≤ xs.length) : SlS E w S (.slice A m c) (xs.take m) := by
  obtain ⟨A', c', e, h1, h2, h3⟩ := h
  injection e with e1 e2 e3
  subst e1; subst e3
  exact ⟨A, c, by rw [List.length_take, Nat.min_eq_left hm], by rw [List.length_take]; omega, h2, h3.take m⟩
theorem joinFold_len : ∀ (l : List Nat) (p : List GRule × Int), (l.foldl joinStep p).1.length = p.1.length + l.length
  | [], p => rfl
  | a :: l, p => by rw [List.foldl_cons, joinFold_len l]; simp [joinStep]; omega
theorem lens_fit {xs : List GRule} {ls : List Int} (h : lens xs = some ls) {i j : Int} (hi : 0 ≤ i) (hij : i < j) (hj : j ≤ lastI ls) : 0 < xs.length := by
  refine Nat.pos_of_ne_zero fun e => ?_
  have := lens_length h
  rw [e] at this
  have hls : ls = [] := List.eq_nil_of_length_eq_zero this
  subst hls
  simp [lastI] at hj; omega
set_option maxRecDepth 100000 in
set_option maxHeartbeats 4000000 in
theorem l02Cut_any (b o : Nat) (v : Value) (xs : List GRule) (ls : List Int) (i j : Int) (w : World) (hp : w.cell? ⟨b, o, none⟩ = some v) (hbl : b < w.heap.size) (h : Sl RuleE w w.heap.size v xs) (hsm : SmallL xs) (hl : lens xs = some ls)
    (hn : xs.length ≤ 400) (hi : 0 ≤ i) (hij : i ≤ j) (hj : j ≤ lastI ls) :
    Calls Try.prog 80 #[.pointer (some ⟨b, o, none⟩), .int .i64 i, .int .i64 j] w (GOwn (cutG xs (piecesL xs ls i j)) w) := by
  have HR := Lib.hid h
  obtain ⟨AR, cR, rfl, _, hmR, _⟩ := h
  unfold maxLen at hmR
  have Hl := Lib.hid hl
  clear hl
  by_cases c1 : i = j
  · subst c1
    have e : piecesL xs ls i i = [] := by rw [piecesL, if_neg (by omega)]
    rw [e]
    clear e
    go_enter Try.func80, Try.ntmps80
    go_wp2_with fail
    refine bodyPost_ret (v := .agg #[.slice none 0 0]) (by simp [results, Try.results80, go_sem]) rfl ⟨(by repeat (first | exact Below.refl _ _ | (refine Below.alloc ?_ (by first | omega | (simp; done) | (simp; omega)) _) | refine below_drewN ?_ _ | refine Below.drew ?_)), _, by exact World.ownsRow_nil _ _ _ _, rfl⟩
  · have g1 : (i == j) = false := by simpa using c1
    have hij' : i < j := by omega
    have h0 := lens_fit Hl.out hi hij' hj
    have hpc := pieces_cover Hl.out hi hij' hj h0
    have hpl := pieces_len Hl.out i j
    have hpm := pieces_mem Hl.out i j
    have hpp := pieces_pos Hl.out hi hij' hj h0
    have hll := lens_length Hl.out
    have hj2 : j ≤ ls.getD (xs.length - 1) 0 := by rw [lastI, hll] at hj; exact hj
    have hjm : ls.getD (xs.length - 1) 0 ≤ 1000000000000000 := (lens_pos' Hl.out (r := xs.length - 1) (by omega)).2
    obtain ⟨P, hP⟩ : ∃ P, piecesL xs ls i j = P := ⟨_, rfl⟩
    rw [hP] at hpl hpm hpp hpc
    rw [hP]
    have Hpc := Lib.hid hpc
    have HPM := Lib.hid hpm
    have Hll := Lib.hid hll
    have hm1 : (xs.length : Int) - 1 = ((xs.length - 1 : Nat) : Int) := by omega
    obtain ⟨m, hm⟩ : ∃ m, xs.length - 1 = m := ⟨_, rfl⟩
    rw [hm] at hm1 hj2 hjm Hpc
    have hmx : m < xs.length := by omega
    have hzb : b < (w.alloc (Obj.cells #[Value.slice none 0 0] 31)).heap.size := by simp; omega
    have hp1 : (w.alloc (Obj.cells #[Value.slice none 0 0] 31)).cell? ⟨b, o, none⟩ = some (.slice AR xs.length cR) := (((Below.refl w.heap.size w).alloc (Nat.le_refl _) _).cell (p := ⟨b, o, none⟩) hbl).trans hp
    have hB1 : Below w.heap.size w (w.alloc (Obj.cells #[Value.slice none 0 0] 31)) := (Below.refl w.heap.size w).alloc (Nat.le_refl _) _
    have HB1 := Lib.hid hB1
    have bxR : Boxed (w.alloc (Obj.cells #[Value.slice none 0 0] 31)) w.heap.size 31 (.slice none 0 0) := Boxed.new _ _ _
    have BXR := Lib.hid bxR
    have hd4 : decide (xs.length ≤ 400) = true := by simp [hn]
    clear hij c1 hj hpc hpm hll hP hm hB1 bxR h0
    go_enter Try.func80, Try.ntmps80
    go_wp2_with fail
    refine (l02Lengths_any _ _ _ xs _ hp1 hzb ((HR.out.below HB1.out).le (by simp)) hsm).mono ?_
    rintro e w2 ⟨hb2, v2, ls', rfl, own2, hls⟩
    have e4 : ls' = ls := hls hn ls Hl.out
    subst e4
    obtain ⟨A2, c2, rfl, _⟩ := own_nil own2
    have p2 := (hb2.cell (p := ⟨b, o, none⟩) hzb).trans hp1
    have z2 : b < w2.heap.size := Nat.lt_of_lt_of_le hzb hb2.size
    have hz12 : w.heap.size + 1 ≤ w2.heap.size := by have := hb2.size; simpa using this
    have BX2 := Lib.hid (Boxed.up BXR.out hb2 (by simp))
    have HB2 := Lib.hid (HB1.out.trans (hb2.mono (by simp)))
    have HL2 := Lib.hid own2.sl
    have HRm : Hid (Sl RuleE w2 w2.heap.size (.slice AR xs.length cR) xs) := (HR.out.below HB2.out).le (by omega)
    clear hb2 own2 hls hp hp1 hzb hbl
    go_wp2_with fail
    have B3 : Below w2.heap.size w2 (w2.alloc (.cells #[] 2)) := (Below.refl _ _).alloc (Nat.le_refl _) _
    refine (l02Cover_any w2.heap.size b o (.slice A2 ls'.length c2) (.slice AR xs.length cR) xs ls' Hl.out (by omega) z2 (m + 1) m i j (.slice (some ⟨w2.heap.size, 0, none⟩) 0 0) [] (w2.alloc (.cells #[] 2)) (by omega) hmx ⟨hi, by omega⟩ ⟨by omega, hj2⟩
      ((B3.cell (p := ⟨b, o, none⟩) z2).trans p2) (HL2.out.below B3) (HRm.out.below B3) (by simp) (OwnInts.empty rfl (Nat.le_refl _)) ?_).mono ?_
    · have := Hpc.out
      rw [show m + 1 = xs.length by omega, ← this]
      simp; omega
    rintro e w3 ⟨v3, rfl, own3, hb3⟩
    have hPe : coverS xs ls' (m + 1) m i j = P := by rw [show m + 1 = xs.length by omega]; exact Hpc.out.symm
    rw [hPe, List.nil_append] at own3
    have hb3' := B3.trans hb3
    have hz23 : w2.heap.size + 1 ≤ w3.heap.size := by have := hb3.size; simpa using this
    have p3 := (hb3'.cell (p := ⟨b, o, none⟩) z2).trans p2
    have z3 : b < w3.heap.size := by omega
    have BX3 := Lib.hid (Boxed.up BX2.out hb3' (by omega))
    have HB3 := Lib.hid (HB2.out.trans (hb3'.mono (by omega)))
    have HR3 : Hid (Sl RuleE w3 w3.heap.size (.slice AR xs.length cR) xs) := (HR.out.below HB3.out).le (by omega)
    have HOC := Lib.hid own3
    obtain ⟨A3, cc, rfl, _⟩ := own_nil own3
    have fR := BX3.out.frozen
    have cR1 := BX3.out.cell
    clear own3 hb3 hb3' hPe p2 B3 HL2 HRm Hpc hj2 hjm hij'
    rcases P with _ | ⟨c, _ | ⟨d, cs⟩⟩
    · simp at hpp
    · have e1 : (nI [c]).length = 1 := rfl
      rw [e1] at HOC
      obtain ⟨g, cap, e1, hg1, hg2, hg3, hgc⟩ := OwnInts.at_ HOC.out (j := 0) (by simp [nI])
      injection e1 with e11 e12 e13
      subst e11
      have cc0 : w3.cell? ⟨g, 0, none⟩ = some (.int .i64 (c : Int)) := hgc 0 (by simp [nI])
      have hcx : c < xs.length := HPM.out c (by simp)
      have hcR : (c : Int) + 1 ≤ (cR : Int) := by omega
      have htn : ((c : Int) + 1).toNat = c + 1 := by omega
      have hwc : IntKind.i64.wrap ((c : Int) + 1) = (c : Int) + 1 := IntWalk.i64_in _ (by omega)
      have hc0 : (0 : Int) ≤ (c : Int) + 1 := by omega
      have e1' : (nI [c]).length = 1 := rfl
      rw [e1']
      have l0 : w.heap.size < w3.heap.size := by omega
      have E0 : Hid (OwnRules (w3.alloc (Obj.cells #[] 138)).drew w3.heap.size (.slice (some ⟨w3.heap.size, 0, none⟩) 0 0) []) := OwnRules.empty rfl (Nat.le_refl _)
      have S0 : Hid (Sl RuleE (w3.alloc (Obj.cells #[] 138)).drew w3.heap.size (.slice AR (c + 1) cR) (xs.take (c + 1))) := (SlS.below (sl_take HR3.out (by omega)) ((Below.refl w3.heap.size w3).alloc (Nat.le_refl _) _)).keep fun _ _ => rfl
      have hlt' : (xs.take (c + 1)).length = c + 1 := by rw [List.length_take]; omega
      have Hlt' := Lib.hid hlt'
      clear hgc e12 hg3 e1' hlt'
      go_wp2_with fail
      go_region_law (refine step_append_rules (base := w3.heap.size) (v := .slice (some ⟨w3.heap.size, 0, none⟩) 0 0) (sv := .slice AR (c + 1) cR) (by rfl) _ _ (by rfl) (by rfl) (by rfl) E0.out S0.out (by rw [Hlt'.out]; simp; omega) (by show w3.heap.size ≤ (w3.alloc _).heap.size; simp) ?_; intro v5 w5 own5 hg5 hb5; obtain ⟨A5, c5, rfl, _⟩ := own_nil own5; have hbR5 : Boxed w5 w.heap.size 31 (.slice none 0 0) := (hb5.block w.heap.size l0).trans (BX3.out.alloc _); have fR5 := hbR5.frozen; have cR5 := hbR5.cell)
      all_goals
        go_wp2_with fail
        have e5 : ([] ++ xs.take (c + 1)).length = min (c + 1) xs.length := by simp
        have own9 : OwnRules w5 w3.heap.size (.slice A5 (min (c + 1) xs.length) c5) (xs.take (c + 1)) := by rw [← e5]; exact own5
        refine bodyPost_ret (v := .agg #[.slice A5 (min (c + 1) xs.length) c5]) (by simp [results, Try.results80, go_sem, (Boxed.set (Value.slice A5 (min (c + 1) xs.length) c5) hbR5).cell]) rfl ⟨(HB3.out.trans (((Below.refl w3.heap.size w3).alloc (Nat.le_refl _) _).trans ((Below.drew (Below.refl _ _)).trans hb5) |>.mono (by omega))).setCell (Nat.le_refl _) _, _, ?_, rfl⟩
        exact ownsRow_more (ownsRow_setCell_other (a := ⟨w.heap.size, 0, none⟩) own9 (hbR5.not_row (by decide) own9).symm _) (by omega)
    · have hln : (nI (c :: d :: cs)).length = cs.length + 2 := by simp [nI]
      rw [hln]
      obtain ⟨g, cap, e1, hg1, hg2, hg3, hgc⟩ := OwnInts.at_ HOC.out (j := 0) (by simp [nI])
      injection e1 with e11 e12 e13
      subst e11; subst e13
      rw [hln] at hg3
      have cc0 : w3.cell? ⟨g, 0, none⟩ = some (.int .i64 (c : Int)) := hgc 0 (by simp [nI])
      have Hgc := Lib.hid hgc
      have h02 : (0 : Int) < (cs.length : Int) + 2 := by omega
      have hne1 : ((cs.length : Int) + 2 == 1) = false := by rw [beq_eq_false_iff_ne]; omega
      clear hgc hln e12
      go_wp2_with fail
      refine (l02Own_any b o _ xs w3 p3 z3 HR3.out (by omega)).mono ?_
      rintro e w4 ⟨v4, rfl, own4, hb4⟩
      obtain ⟨A4, c4, rfl, _⟩ := own_nil own4
      have cc4 := (hb4.cell (p := ⟨g, 0, none⟩) hg2).trans cc0
      have hg4 : g < w4.heap.size := Nat.lt_of_lt_of_le hg2 hb4.size
      have Own4 := Lib.hid own4
      have Hb4 := Lib.hid hb4
      clear own4 hb4
      have bx4 : Boxed (w4.alloc (Obj.cells #[Value.slice A4 xs.length c4] 31)) w4.heap.size 31 (.slice A4 xs.length c4) := Boxed.new _ _ _
      have hb5 : Below w3.heap.size w3 (w4.alloc (Obj.cells #[Value.slice A4 xs.length c4] 31)) := Hb4.out.alloc Hb4.out.size _
      have own5 : OwnRules (w4.alloc (Obj.cells #[Value.slice A4 xs.length c4] 31)) w3.heap.size (.slice A4 xs.length c4) xs := Own4.out.alloc _
      have HB5 := Lib.hid hb5
      have Bx5 := Lib.hid bx4
      have Ow5 := Lib.hid own5
      have hK : w3.heap.size ≤ w4.heap.size := Hb4.out.size
      have hcl : cs.length ≤ 800 := by simp at hpl; omega
      clear hb5 bx4 own5
      go_wp2_with fail
      generalize w4.alloc (Obj.cells #[Value.slice A4 xs.length c4] 31) = w5 at *
      obtain ⟨K, hKe⟩ : ∃ K, w4.heap.size = K := ⟨_, rfl⟩
      rw [hKe] at Bx5 hK
      simp only [hKe]
      clear hKe
      go_loopw [11, 12] (fun q i wx => ∃ (k : Nat) (z y : Int) (vo : Value) (L : List GRule), k ≤ cs.length + 1 ∧ q = .int .i64 z ∧ y = (k : Int) + 1 ∧ i = .int .i64 y ∧ ((d :: cs).take k).foldl joinStep (xs, (c : Int)) = (L, z) ∧ Boxed wx K 31 vo ∧ OwnRules wx w3.heap.size vo L ∧ Below w3.heap.size w5 wx) (fun _ i _ => cs.length + 2 - (intOf i).toNat)
      case atStart => exact ⟨0, (c : Int), 1, _, xs, by omega, rfl, rfl, rfl, rfl, Bx5.out, Ow5.out, Below.refl _ _⟩
      case round =>
        obtain ⟨k, z, y, vk, L, hk, rfl, hy, rfl, hLb, hbk, hok, hb6⟩ := hrel
        obtain ⟨Ak, ck, rfl, _⟩ := own_nil hok
        have hLn : L.length ≤ 10000 := by
          have := joinFold_len ((d :: cs).take k) (xs, (c : Int))
          rw [hLb] at this
          simp at this; omega
        have hy2 : y = ((k + 1 : Nat) : Int) := by omega
        subst hy2
        obtain ⟨q, hq⟩ : ∃ q, k + 1 = q := ⟨_, rfl⟩
        rw [hq]
        rw [hq] at hy
        have Hb6 := Lib.hid hb6
        have Hbk := Lib.hid hbk
        have Hok := Lib.hid hok
        have HLb := Lib.hid hLb
        have bxk := hbk.cell
        have fxk := hbk.frozen
        have hw56 := hb6.size
        clear hb6 hbk hok hLb hy
        by_cases hlt : k < cs.length + 1
        · have cg : wr.cell? ⟨g, q, none⟩ = some (.int .i64 (((d :: cs).getD k 0 : Nat) : Int)) := by
            rw [(HB5.out.trans Hb6.out).cell (p := ⟨g, q, none⟩) hg2, Hgc.out q (by simp [nI]; omega)]
            have e : (nI (c :: d :: cs)).getD q 0 = (((d :: cs).getD k 0 : Nat) : Int) := by
              rw [← hq, nI, List.getD_eq_getElem?_getD, List.map_cons, List.getElem?_cons_succ, List.getElem?_map, List.getD_eq_getElem?_getD, List.getElem?_eq_getElem (by simp; omega)]; rfl
            rw [e]
          have hqi : (q : Int) < (cs.length : Int) + 2 := by omega
          obtain ⟨x, hx⟩ : ∃ x, (d :: cs).getD k 0 = x := ⟨_, rfl⟩
          rw [hx] at cg
          have Hx := Lib.hid hx
          have HLn := Lib.hid hLn
          have HW := Lib.hid (show w3.heap.size ≤ wr.heap.size from Nat.le_trans HB5.out.size hw56)
          have hrl := Hbk.out.lt
          have hgr : g < wr.heap.size := by have := HW.out; omega
          clear hx hLn
          go_upto_region 12 with fail
          go_cut [] from 54 to 70 (fun wx => ∃ vo : Value, Boxed wx K 31 vo ∧ OwnRules wx w3.heap.size vo (L ++ [pairR z x]) ∧ Below w3.heap.size w5 wx)
          case first =>
            go_region_law (refine step_push_rule (base := w3.heap.size) (v := .slice Ak L.length ck) (by rfl) _ _ (by rfl) (by rfl) (by first | rfl | simp) rfl Hok.out.drew (Nat.le_trans HLn.out (by omega)) HW.out ?_; intro v7 w7 own7 hg7 hb7; have bx7 : Boxed w7 K 31 _ := Boxed.grown (Boxed.mk' Hbk.out) (by decide) Hok.out.drew hg7; obtain ⟨A7, c7, rfl, _⟩ := own_nil own7; have hcb7 := bx7.cell; have hfb7 := bx7.frozen)
            all_goals
              go_wp2_with fail
              go_meet
              have e9 : (L ++ [pairR z x]).length = L.length + 1 := by simp
              have own9 : OwnRules w7 w3.heap.size (.slice A7 (L.length + 1) c7) (L ++ [pairR z x]) := by rw [← e9]; exact own7
              exact ⟨_, Boxed.set _ bx7, ownsRow_setCell_other (a := ⟨K, 0, none⟩) own9 (bx7.not_row (by decide) own9).symm _, ((((Below.drew Hb6.out)).alloc HW.out _).trans hb7).setCell hK _⟩
          case rest =>
            revert hcut
            generalize wc = w7
            intro hcut
            obtain ⟨v7, bx7, own7, hb7⟩ := hcut
            have hM : (L ++ [pairR z x]).length = L.length + 1 := by simp
            obtain ⟨M, hMe⟩ : ∃ M, L ++ [pairR z x] = M := ⟨_, rfl⟩
            rw [hMe] at own7 hM
            obtain ⟨A7, c7, rfl, _⟩ := own_nil own7
            rw [hM] at own7 bx7
            have bxc7 := bx7.cell
            have Bx7 := Lib.hid bx7
            have Ow7 := Lib.hid own7
            have Hb7 := Lib.hid hb7
            have HMe := Lib.hid hMe
            have hLn := HLn.out
            clear bx7 own7 hb7 hM hMe
            go_wp2_with fail
            refine ⟨⟨k + 1, (L.length : Int), _, _, M, by omega, rfl, ?_, rfl, ?_, Bx7.out, Ow7.out, Hb7.out⟩, by simp [intOf]; omega⟩
            · omega
            rw [List.take_add_one, List.getElem?_eq_getElem (show k < (d :: cs).length by simpa using hlt), List.foldl_append, HLb.out]
            have hxe : (d :: cs)[k]'(by simpa using hlt) = x := by rw [← Hx.out, List.getD_eq_getElem?_getD, List.getElem?_eq_getElem (show k < (d :: cs).length by simpa using hlt)]; rfl
            rw [hxe]
            show (L ++ [pairR z x], (L.length : Int)) = _
            rw [HMe.out]
        · have hkn : k = cs.length + 1 := by omega
          subst hkn
          have hki : ¬ ((q : Int) < (cs.length : Int) + 2) := by omega
          have hL : L = cutG xs (c :: d :: cs) := by
            have := HLb.out
            rw [List.take_of_length_le (by simp)] at this
            rw [cutG, this]
          have hb9 : Boxed wr w.heap.size 31 (.slice none 0 0) := Boxed.up BX3.out (HB5.out.trans Hb6.out) (by omega)
          have c9 := hb9.cell
          have f9 := hb9.frozen
          have HL' := Lib.hid hL
          have Hb9 := Lib.hid hb9
          clear hL hb9
          go_wp2_with fail
          refine bodyPost_ret (v := .agg #[.slice Ak L.length ck]) (by simp [results, Try.results80, go_sem, (Boxed.set (Value.slice Ak L.length ck) Hb9.out).cell]) rfl ⟨(HB3.out.trans ((HB5.out.trans Hb6.out).mono (by omega))).setCell (Nat.le_refl _) _, _, ?_, rfl⟩
          rw [← HL'.out]
          exact ownsRow_more (ownsRow_setCell_other (a := ⟨w.heap.size, 0, none⟩) Hok.out (Hb9.out.not_row (by decide) Hok.out).symm _) (by omega)
end Go.Proofs.Ytejgbfgocaggfaa
