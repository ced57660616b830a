import Derived.Test.YtagpjommhoedlaaDoorM2
import Derived.Test.YtagpjommhoedlaaDoorM3
import Derived.Deep.CutRange
import Derived.Deep.DeepCutAuto
import Derived.WalkArith
import Derived.Deep.OwnRows
import Derived.IntWalk
import Derived.Test.YtagpjommhoedlaaDoorM1
namespace Go.Proofs.YtagpjommhoedlaaDoor
open Go.RowKit

theorem pairI64_any (a b : Int) (w : World) :
    Calls Tryd.prog 61 #[.int .i64 a, .int .i64 b] w fun e w' => e = .returned (.agg #[.string ⟨#[]⟩, .int .i64 a, .int .i64 b]) ∧ Below w.heap.size w w' := by
  go_enter Tryd.func61, Tryd.ntmps61
  go_wp2
  exact bodyPost_ret (v := .agg #[.string ⟨#[]⟩, .int .i64 a, .int .i64 b]) (by simp [results, Tryd.results61, go_sem]) rfl ⟨rfl, (by repeat (first | exact (Below.refl _ _) | (refine Below.alloc ?_ (by first | omega | (simp; done) | (simp; omega)) _) | refine below_drewN ?_ _ | refine Below.drew ?_))⟩

/-- Three cells of a rule in a block. -/
def Cells3 (w : World) (B : Nat) (r : GRule) : Prop := w.cell? ⟨B, 0, none⟩ = some (.string r.letter) ∧ w.cell? ⟨B, 1, none⟩ = some (.int .i64 r.left) ∧ w.cell? ⟨B, 2, none⟩ = some (.int .i64 r.right) ∧ B < w.heap.size
theorem Cells3.below {w w' : World} {B N : Nat} {r : GRule} (h : Cells3 w B r) (hb : Below N w w') (hlt : B < N) : Cells3 w' B r :=
  ⟨(hb.cell (p := ⟨B, 0, none⟩) hlt).trans h.1, (hb.cell (p := ⟨B, 1, none⟩) hlt).trans h.2.1, (hb.cell (p := ⟨B, 2, none⟩) hlt).trans h.2.2.1, Nat.lt_of_lt_of_le h.2.2.2 hb.size⟩
theorem Cells3.kept {w w' : World} {B : Nat} {r : GRule} {row : Option Nat} (h : Cells3 w B r) (hg : w.grownBy w' row) (hne : some B ≠ row) : Cells3 w' B r :=
  ⟨(World.cell?_of_block (a := ⟨B, 0, none⟩) (hg.block B h.2.2.2 hne)).trans h.1, (World.cell?_of_block (a := ⟨B, 1, none⟩) (hg.block B h.2.2.2 hne)).trans h.2.1, (World.cell?_of_block (a := ⟨B, 2, none⟩) (hg.block B h.2.2.2 hne)).trans h.2.2.1, Nat.lt_of_lt_of_le h.2.2.2 hg.size⟩
theorem okRule_key {k : Nat} {r : GRule} (h : okRule k r = true) (hk : k ≤ 1099511627776) : KeyOk r := by
  cases hp : r.pair with
  | true =>
    have := okRule_at h hp
    exact ⟨okRule_small h, by omega, by omega⟩
  | false =>
    obtain ⟨h1, h2, h3⟩ := okRule_let h hp
    exact ⟨okRule_small h, by omega, by omega⟩

/-- 'append(s, x)' of one rule in a region that draws its order. -/
theorem step_push_ruleC {W : World} {ops : Array Oper} {o : Oper} {a : Act} {K : Act → World → Prop} {Q : Exit → Act → World → Prop} {E : Prop} (hgd : o.guard = none) (s x : Operand)
    (ho : o.op = .call { callee := .builtin .append, args := #[s, x], argTypes := #[24, 24] }) {r : GRule} {base : Nat} {v : Value} {l : List GRule}
    (hs : a.eval s = v) {N : Nat} (hx : a.eval x = .slice (some ⟨N, 0, none⟩) 1 1) (hc : Cells3 W N r) (hown : OwnRules W base v l) (hlen : l.length ≤ 1099511627775) (hbase : base ≤ W.heap.size)
    (h : ∀ v' w', OwnRules w' base v' (l ++ [r]) → W.grownBy w' v.ownBlock → (v'.ownBlock = v.ownBlock ∨ v'.ownBlock = some W.heap.size) → K (a.put o.dst v') w') :
    if Region.wanted o (yielded ops a.tmps) = true then Oper.wp Tryd.prog o a W K Q else E := by
  have hw : Region.wanted o (yielded ops a.tmps) = true := by simp [Region.wanted, hgd]
  rw [if_pos hw]
  obtain ⟨i0, hi0, hz0, hz1, hz2⟩ := info_parts Tryd.infoR
  obtain ⟨v', w', hrun, h2, h3, _, h5⟩ := run_append_own_at (P := Tryd.prog) W base 24 o.type 70 i0 _ 3 32 Tryd.underlying24 hi0 hz0 hz1 hz2 rfl (by decide) v _ _ hown ⟨N, 0, none⟩ 1 1 r.cells rfl
    (fun j u hu => by
      obtain ⟨c0, c1, c2, _⟩ := hc
      match j, hu with
      | 0, hu => simp [GRule.cells] at hu; subst hu; simpa [Addr.add] using c0
      | 1, hu => simp [GRule.cells] at hu; subst hu; simpa [Addr.add] using c1
      | 2, hu => simp [GRule.cells] at hu; subst hu; simpa [Addr.add] using c2
      | j + 3, hu => simp [GRule.cells] at hu) (by simp [GRule.cells, Value.oneCell']) (by simp only [maxLen]; omega) (by omega) hbase
  unfold Oper.wp execOp
  simp only [ho, resolve, invoke, builtin, Sem.run_bind, Sem.run_pure, Result.andThen_ok, List.map_toArray, List.map_cons, List.map_nil, hs, hx, hrun]
  exact h v' w' (by unfold OwnRules; simpa using h2) h3 h5

theorem keptc {W w' : World} {row : Option Nat} {N o : Nat} {u : Value} (hg : W.grownBy w' row) (hc : W.cell? ⟨N, o, none⟩ = some u) (hlt : N < W.heap.size) (hne : some N ≠ row) : w'.cell? ⟨N, o, none⟩ = some u :=
  (World.cell?_of_block (a := ⟨N, o, none⟩) (hg.block N hlt hne)).trans hc
theorem own_block {w : World} {base e s n : Nat} {v : Value} {xs : List Value} (h : w.ownsRow base e s v n xs) {g : Nat} (hg : v.ownBlock = some g) : ∃ cur, w.heap[g]? = some (.cells cur e (0, 0)) := by
  rcases h.2 with ⟨rfl, _⟩ | ⟨g', cap, cur, rfl, _, hb, _⟩
  · cases hg
  · have : g' = g := by simpa [Value.ownBlock] using hg
    subst this; exact ⟨cur, hb⟩
theorem own_apart {w : World} {base base' e e' s s' n n' : Nat} {v v' : Value} {xs xs' : List Value} (h : w.ownsRow base e s v n xs) (h' : w.ownsRow base' e' s' v' n' xs') (hne : e ≠ e') : ∀ g, v.ownBlock = some g → some g ≠ v'.ownBlock := fun g hg hg' => by
  obtain ⟨c1, h1⟩ := own_block h hg
  obtain ⟨c2, h2⟩ := own_block h' hg'.symm
  rw [h1] at h2
  have := Option.some.inj h2
  injection this with _ h3; exact hne h3
theorem rmap_apart {w : World} {b base e s n : Nat} {v : Value} {xs : List Value} {ks : List GRule} (h : RMap w b ks) (h' : w.ownsRow base e s v n xs) : some b ≠ v.ownBlock := fun hb => by
  obtain ⟨c, h1⟩ := own_block h' hb.symm
  obtain ⟨es, clock, h2, _⟩ := h
  rw [h1] at h2; cases h2

/-- What the first loop of a trimming holds: two rows, a map, a rule in a box. -/
structure T3 (w0 : World) (base bm bx : Nat) (X : GRule) (ks : List GRule) (W : World) (v4 : Value) (K : List GRule) (v6 : Value) (S : List Int) : Prop where
  below : Below base w0 W
  rows : OwnRules W base v4 K
  ints : OwnInts W base v6 S
  mp : RMap W bm ks
  box : Cells3 W bx X
  bxR : some bx ≠ v4.ownBlock
  bxI : some bx ≠ v6.ownBlock
  lb : base ≤ W.heap.size
section
variable {w0 W : World} {base bm bx : Nat} {X : GRule} {ks K : List GRule} {v4 v6 : Value} {S : List Int}
theorem T3.alloc (h : T3 w0 base bm bx X ks W v4 K v6 S) (o : Obj) : T3 w0 base bm bx X ks (W.alloc o) v4 K v6 S :=
  ⟨h.below.alloc h.lb _, h.rows.alloc _, h.ints.alloc _, h.mp.alloc _, h.box.below ((Below.refl W.heap.size W).alloc (Nat.le_refl _) o) h.box.2.2.2, h.bxR, h.bxI, by have := h.lb; simp; omega⟩
theorem T3.drew (h : T3 w0 base bm bx X ks W v4 K v6 S) : T3 w0 base bm bx X ks W.drew v4 K v6 S :=
  ⟨Below.drew h.below, h.rows, h.ints, h.mp, h.box, h.bxR, h.bxI, h.lb⟩
theorem T3.pushR (h : T3 w0 base bm bx X ks W v4 K v6 S) {w' : World} {v' : Value} {L : List GRule} (h1 : OwnRules w' base v' L) (hg : W.grownBy w' v4.ownBlock) (hv : v'.ownBlock = v4.ownBlock ∨ v'.ownBlock = some W.heap.size) : T3 w0 base bm bx X ks w' v' L v6 S :=
  ⟨h.below.grown hg h.lb (fun g hgg => (World.ownsRow.lt h.rows g hgg).1), h1, own_keep h.ints fun g hgg => hg.block g (World.ownsRow.lt h.ints g hgg).2 (own_apart h.ints h.rows (by decide) g hgg), h.mp.kept hg (rmap_apart h.mp h.rows), h.box.kept hg h.bxR,
    by rcases hv with e | e
       · rw [e]; exact h.bxR
       · rw [e]; intro e'; have := h.box.2.2.2; have : bx = W.heap.size := Option.some.inj e'; omega, h.bxI, Nat.le_trans h.lb hg.size⟩
theorem T3.pushI (h : T3 w0 base bm bx X ks W v4 K v6 S) {w' : World} {v' : Value} {L : List Int} (h1 : OwnInts w' base v' L) (hg : W.grownBy w' v6.ownBlock) (hv : v'.ownBlock = v6.ownBlock ∨ v'.ownBlock = some W.heap.size) : T3 w0 base bm bx X ks w' v4 K v' L :=
  ⟨h.below.grown hg h.lb (fun g hgg => (World.ownsRow.lt h.ints g hgg).1), own_keep h.rows fun g hgg => hg.block g (World.ownsRow.lt h.rows g hgg).2 (own_apart h.rows h.ints (by decide) g hgg), h1, h.mp.kept hg (rmap_apart h.mp h.ints), h.box.kept hg h.bxI, h.bxR,
    by rcases hv with e | e
       · rw [e]; exact h.bxI
       · rw [e]; intro e'; have := h.box.2.2.2; have : bx = W.heap.size := Option.some.inj e'; omega, Nat.le_trans h.lb hg.size⟩
theorem step_T3R {ops : Array Oper} {o : Oper} {a : Act} {KK : Act → World → Prop} {Q : Exit → Act → World → Prop} {E : Prop} (hgd : o.guard = none) (s x : Operand)
    (ho : o.op = .call { callee := .builtin .append, args := #[s, x], argTypes := #[24, 24] }) {r : GRule} {N : Nat}
    (hs : a.eval s = v4) (hx : a.eval x = .slice (some ⟨N, 0, none⟩) 1 1) (T : T3 w0 base bm bx X ks W v4 K v6 S) (hc : Cells3 W N r) (hlen : K.length ≤ 1099511627775)
    (h : ∀ v' w', T3 w0 base bm bx X ks w' v' (K ++ [r]) v6 S → W.grownBy w' v4.ownBlock → KK (a.put o.dst v') w') :
    if Region.wanted o (yielded ops a.tmps) = true then Oper.wp Tryd.prog o a W KK Q else E :=
  step_push_ruleC hgd s x ho hs hx hc T.rows hlen T.lb fun v' w' h1 h2 h3 => h v' w' (T.pushR h1 h2 h3) h2
theorem step_T3I {ops : Array Oper} {o : Oper} {a : Act} {KK : Act → World → Prop} {Q : Exit → Act → World → Prop} {E : Prop} (hgd : o.guard = none) (s x : Operand)
    (ho : o.op = .call { callee := .builtin .append, args := #[s, x], argTypes := #[51, 51] }) {y : Int} {N : Nat}
    (hs : a.eval s = v6) (hx : a.eval x = .slice (some ⟨N, 0, none⟩) 1 1) (T : T3 w0 base bm bx X ks W v4 K v6 S) (hc : W.cell? ⟨N, 0, none⟩ = some (.int .i64 y)) (hlen : S.length ≤ 1099511627775)
    (h : ∀ v' w', T3 w0 base bm bx X ks w' v4 K v' (S ++ [y]) → W.grownBy w' v6.ownBlock → KK (a.put o.dst v') w') :
    if Region.wanted o (yielded ops a.tmps) = true then Oper.wp Tryd.prog o a W KK Q else E :=
  step_push_int hgd s x ho hs hx hc T.ints (by omega) T.lb fun v' w' h1 h2 h3 => h v' w' (T.pushI h1 h2 h3) h2
end

theorem Cells3.new {W : World} {N : Nat} {r : GRule} (hN : N = W.heap.size) : Cells3 (W.alloc (.cells #[.string r.letter, .int .i64 r.left, .int .i64 r.right] 70)) N r := by
  subst hN
  refine ⟨?_, ?_, ?_, by simp⟩ <;> simp [go_sem]
theorem Cells3.alloc {W : World} {N : Nat} {r : GRule} (h : Cells3 W N r) (o : Obj) : Cells3 (W.alloc o) N r := h.below ((Below.refl W.heap.size W).alloc (Nat.le_refl _) o) h.2.2.2
theorem Cells3.drew {W : World} {N : Nat} {r : GRule} (h : Cells3 W N r) : Cells3 W.drew N r := h
/-- A number in a block. -/
def Cell1 (w : World) (B : Nat) (q : Int) : Prop := w.cell? ⟨B, 0, none⟩ = some (.int .i64 q) ∧ B < w.heap.size
theorem Cell1.new {W : World} {N : Nat} {q : Int} (hN : N = W.heap.size) : Cell1 (W.alloc (.cells #[.int .i64 q] 2)) N q := by
  subst hN
  exact ⟨by simp [go_sem], by simp⟩
theorem Cell1.alloc {W : World} {N : Nat} {q : Int} (h : Cell1 W N q) (o : Obj) : Cell1 (W.alloc o) N q :=
  ⟨(((Below.refl W.heap.size W).alloc (Nat.le_refl _) o).cell (p := ⟨N, 0, none⟩) h.2).trans h.1, by have := h.2; simp; omega⟩
theorem Cell1.drew {W : World} {N : Nat} {q : Int} (h : Cell1 W N q) : Cell1 W.drew N q := h
theorem Cell1.kept {w w' : World} {B : Nat} {q : Int} {row : Option Nat} (h : Cell1 w B q) (hg : w.grownBy w' row) (hne : some B ≠ row) : Cell1 w' B q := ⟨keptc hg h.1 h.2 hne, Nat.lt_of_lt_of_le h.2 hg.size⟩
theorem own_far {w : World} {base e s n : Nat} {v : Value} {xs : List Value} (h : w.ownsRow base e s v n xs) {N : Nat} (hN : w.heap.size ≤ N) : some N ≠ v.ownBlock := fun e => by
  have := (World.ownsRow.lt h N e.symm).2; omega
theorem T3.look {w0 W : World} {base bm bx : Nat} {X : GRule} {ks K : List GRule} {v4 v6 : Value} {S : List Int} (h : T3 w0 base bm bx X ks W v4 K v6 S) {r : GRule} (hk : KeyOk r) (hr : r ∈ ks) :
    (Instr.lookup 101 (.map (some bm)) (.agg #[.string r.letter, .int .i64 r.left, .int .i64 r.right]) false).run Tryd.prog W = .ok (.int .i64 (ks.idxOf r : Nat)) W := h.mp.yes hk hr false

/-- A row of booleans in a block. -/
def RowB (w : World) (b : Nat) (N : List Bool) : Prop := w.rowIs b 4 N.length fun i => .bool (N.getD i false)
/-- A row of numbers in a block. -/
def RowI (w : World) (b : Nat) (l : List Int) : Prop := w.rowIs b 2 l.length fun i => .int .i64 (l.getD i 0)
theorem RowB.made (w : World) (n : Nat) : RowB (w.alloc (.cells (madeCells #[.bool false] n) 4)) w.heap.size (List.replicate n false) := by
  have h := World.rowIs_made w (.bool false) n 4
  unfold RowB; rw [List.length_replicate]
  exact h.congr fun i hi => by simp [List.getD_eq_getElem?_getD, hi]
theorem RowI.made (w : World) (n : Nat) : RowI (w.alloc (.cells (madeCells #[.int .i64 0] n) 2)) w.heap.size (List.replicate n 0) := by
  have h := World.rowIs_made w (.int .i64 0) n 2
  unfold RowI; rw [List.length_replicate]
  exact h.congr fun i hi => by simp [List.getD_eq_getElem?_getD, hi]
section
variable {w w' : World} {b : Nat} {N : List Bool} {l : List Int}
theorem RowB.set (h : RowB w b N) (i : Nat) (x : Bool) : RowB (w.setCell ⟨b, i, none⟩ (.bool x)) b (N.set i x) := by
  have h2 := World.rowIs.set h i (.bool x)
  unfold RowB; rw [List.length_set]
  exact h2.congr fun j hj => by
    by_cases e : j = i
    · subst e; simp [List.getD_eq_getElem?_getD, hj]
    · simp [e, List.getD_eq_getElem?_getD, Ne.symm e]
theorem RowI.set (h : RowI w b l) (i : Nat) (x : Int) : RowI (w.setCell ⟨b, i, none⟩ (.int .i64 x)) b (l.set i x) := by
  have h2 := World.rowIs.set h i (.int .i64 x)
  unfold RowI; rw [List.length_set]
  exact h2.congr fun j hj => by
    by_cases e : j = i
    · subst e; simp [List.getD_eq_getElem?_getD, hj]
    · simp [e, List.getD_eq_getElem?_getD, Ne.symm e]
theorem RowB.lt (h : RowB w b N) : b < w.heap.size := World.rowIs.lt h
theorem RowI.lt (h : RowI w b l) : b < w.heap.size := World.rowIs.lt h
theorem RowB.cell (h : RowB w b N) {i : Nat} (hi : i < N.length) : w.cell? ⟨b, i, none⟩ = some (.bool (N.getD i false)) := World.rowIs.cell h hi
theorem RowI.cell (h : RowI w b l) {i : Nat} (hi : i < l.length) : w.cell? ⟨b, i, none⟩ = some (.int .i64 (l.getD i 0)) := World.rowIs.cell h hi
theorem RowB.frozen (h : RowB w b N) (i : Nat) : w.frozen? ⟨b, i, none⟩ = false := World.rowIs.frozen h i
theorem RowI.frozen (h : RowI w b l) (i : Nat) : w.frozen? ⟨b, i, none⟩ = false := World.rowIs.frozen h i
theorem RowB.alloc (h : RowB w b N) (o : Obj) : RowB (w.alloc o) b N := World.rowIs.alloc h o
theorem RowI.alloc (h : RowI w b l) (o : Obj) : RowI (w.alloc o) b l := World.rowIs.alloc h o
theorem RowB.drew (h : RowB w b N) : RowB w.drew b N := h
theorem RowI.drew (h : RowI w b l) : RowI w.drew b l := h
theorem RowB.below {M : Nat} (h : RowB w b N) (hb : Below M w w') (hlt : b < M) : RowB w' b N := World.rowIs.of_block h (hb.block b hlt)
theorem RowI.below {M : Nat} (h : RowI w b l) (hb : Below M w w') (hlt : b < M) : RowI w' b l := World.rowIs.of_block h (hb.block b hlt)
theorem RowI.kept {row : Option Nat} (h : RowI w b l) (hg : w.grownBy w' row) (hne : some b ≠ row) : RowI w' b l := World.rowIs.of_block h (hg.block b h.lt hne)
theorem RowI.other (h : RowI w b l) {c o : Nat} (hne : b ≠ c) (u : Value) : RowI (w.setCell ⟨c, o, none⟩ u) b l := World.rowIs.setOther h hne u
theorem RowI.not_row {base e s n : Nat} {v : Value} {xs : List Value} (h : RowI w b l) (h' : w.ownsRow base e s v n xs) (hne : 2 ≠ e) : some b ≠ v.ownBlock := fun hb => by
  obtain ⟨c, h1⟩ := own_block h' hb.symm
  obtain ⟨c2, h2, _⟩ := h
  rw [h1] at h2
  have := Option.some.inj h2
  injection this with _ h3; exact hne h3.symm
end
theorem boxed_other {W : World} {B B' o : Nat} {t : TypeId} {v : Value} (h : Boxed W B t v) (hne : B ≠ B') (u : Value) : Boxed (W.setCell ⟨B', o, none⟩ u) B t v := (Below.heap_setCell _ _ _ _ hne).trans h
theorem Boxed.of1 (w : World) (o : Obj) (t : TypeId) (v : Value) : Boxed ((w.alloc o).alloc (.cells #[v] t)).drew (w.heap.size + 1) t v := by
  have := Boxed.new (w.alloc o) t v
  rw [show (w.alloc o).heap.size = w.heap.size + 1 by simp] at this
  exact this
theorem RowI.of1 (w : World) (o : Obj) (n : Nat) : RowI ((w.alloc o).alloc (.cells (madeCells #[.int .i64 0] n) 2)).drew (w.heap.size + 1) (List.replicate n 0) := by
  have := RowI.made (w.alloc o) n
  rw [show (w.alloc o).heap.size = w.heap.size + 1 by simp] at this
  exact this
end Go.Proofs.YtagpjommhoedlaaDoor

namespace Go.Proofs.YtagpjommhoedlaaDoor
open Go.RowKit

def nI (l : List Nat) : List Int := l.map Int.ofNat
end Go.Proofs.YtagpjommhoedlaaDoor

namespace Go.Proofs.YtagpjommhoedlaaDoor
open Go.RowKit

/-- The closure's cover: a box that holds the pieces met so far. -/
def CJ (bc base : Nat) (C : Nat → Prop) (s : List Nat) (w : World) : Prop :=
  ∃ v, Boxed w bc 51 v ∧ OwnInts w base v (nI s) ∧ base ≤ w.heap.size ∧ ¬ C bc ∧ ∀ g, v.ownBlock = some g → ¬ C g
theorem CJ.ext {bc base : Nat} : ∀ (C : Nat → Prop) (s : List Nat) (w w' : World), CJ bc base C s w → Below w.heap.size w w' → (∀ b, C b → b < w.heap.size) → CJ bc base (ext C w.heap.size w'.heap.size) s w' := by
  rintro C s w w' ⟨v, hb, ho, hn, h1, h2⟩ hbl hC
  refine ⟨v, Boxed.up hb hbl hb.lt, ownsRow_below ho hbl, Nat.le_trans hn hbl.size, ?_, fun g hg => ?_⟩
  · rintro (h | h)
    · exact h1 h
    · have := hb.lt; omega
  · have := (World.ownsRow.lt ho g hg).2
    rintro (h | h)
    · exact h2 g hg h
    · omega
/-- 'append(s, x)' of one number, with the place of the new row. -/
theorem list_push_int {W : World} {ops : Array Oper} {rest : List Oper} {o : Oper} {a : Act} {Q : Exit → Act → World → Prop} (hgd : o.guard = none) (s x : Operand)
    (ho : o.op = .call { callee := .builtin .append, args := #[s, x], argTypes := #[51, 51] }) {y : Int} {base : Nat} {v : Value} {l : List Int}
    (hs : a.eval s = v) {N : Nat} (hx : a.eval x = .slice (some ⟨N, 0, none⟩) 1 1) (hN : N = W.heap.size) (hown : OwnInts W base v l) (hlen : l.length ≤ 1099511627775) (hbase : base ≤ W.heap.size)
    (h : ∀ v' w', OwnInts w' base v' (l ++ [y]) → (W.alloc (.cells #[.int .i64 y] 2)).grownBy w' v.ownBlock → (v'.ownBlock = v.ownBlock ∨ v'.ownBlock = some (W.heap.size + 1)) → wpList Tryd.prog ops Q rest (a.put o.dst v') w') :
    wpList Tryd.prog ops Q (o :: rest) a (W.alloc (.cells #[.int .i64 y] 2)) :=
  wpList_plain hgd fun K hK => by
    subst hN
    have := step_push_int (E := True) (K := K) (ops := ops) (Q := Q) hgd s x ho hs hx (Cell1.new rfl).1 (hown.alloc _) (by omega) (by simp; omega) (fun v' w' h1 h2 h3 => hK _ _ (h v' w' h1 h2 (by simpa using h3)))
    rwa [if_pos (by simp [Region.wanted, hgd])] at this

end Go.Proofs.YtagpjommhoedlaaDoor

namespace Go.Proofs.YtagpjommhoedlaaDoor
open Go.RowKit

set_option maxRecDepth 100000 in
set_option maxHeartbeats 4000000 in
theorem trimmed_any (v : Value) (xs : List GRule) (w : World) (h : Sl RuleE w w.heap.size v xs) (hn : xs.length ≤ 4194304) (hok : OkAll xs) :
    Calls Tryd.prog 60 #[.agg #[v]] w (GOwn (trimG xs) w) := by
  obtain ⟨A, c, rfl, hc, hm, hrow⟩ := h
  have Hok := Lib.hid hok
  clear hm hok
  have hmm := @run_makeMap Tryd.prog
  by_cases h0 : xs.length = 0
  · have hx : xs = [] := List.eq_nil_of_length_eq_zero h0
    subst hx
    clear h0
    go_enter Tryd.func60, Tryd.ntmps60
    go_wp2_with fail
    refine bodyPost_ret (v := .agg #[.slice none 0 0]) (by simp [results, Tryd.results60, go_sem]) rfl ⟨(by repeat (first | exact Below.refl _ _ | (refine Below.alloc ?_ (by first | omega | (simp; done) | (simp; omega)) _) | refine below_drewN ?_ _ | refine Below.drew ?_)), _, by exact World.ownsRow_nil _ _ _ _, rfl⟩
  · have g1 : ((xs.length : Int) == 0) = false := by rw [beq_eq_false_iff_ne]; omega
    have hn1 : 1 ≤ xs.length := by omega
    clear h0
    go_enter Tryd.func60, Tryd.ntmps60
    go_wp2_with fail
    have hs0 : ((((((w.alloc (Obj.cells #[Value.slice A xs.length c] 26)).alloc (Obj.cells #[Value.slice none 0 0] 26)).alloc (Obj.cells #[] 70)).alloc (.map #[] 0)).alloc (Obj.cells #[] 2))).heap.size = w.heap.size + 5 := by simp
    go_loopw [4, 6, 30] (fun a s i wr => ∃ k : Nat, k ≤ xs.length ∧ i = .int .i64 k ∧ Below (w.heap.size + 2) ((w.alloc (Obj.cells #[Value.slice A xs.length c] 26)).alloc (Obj.cells #[Value.slice none 0 0] 26)) wr ∧
      OwnRules wr (w.heap.size + 2) a (canon (xs.take k)).1 ∧ OwnInts wr (w.heap.size + 2) s (canon (xs.take k)).2 ∧ RMap wr (w.heap.size + 3) (canon (xs.take k)).1) (fun _ _ i _ => xs.length - (intOf i).toNat)
    case atStart =>
      refine ⟨0, Nat.zero_le _, rfl, (by repeat (first | exact Below.refl _ _ | (refine Below.alloc ?_ (by first | omega | (simp; done) | (simp; omega)) _) | refine below_drewN ?_ _ | refine Below.drew ?_)), ?_, ?_, ?_⟩
      · exact ((OwnRules.empty (N := w.heap.size + 2) (by simp) (by simp)).alloc _).alloc _
      · exact OwnInts.empty (by simp) (by simp)
      · have := RMap.made (((w.alloc (Obj.cells #[Value.slice A xs.length c] 26)).alloc (Obj.cells #[Value.slice none 0 0] 26)).alloc (Obj.cells #[] 70))
        have h2 := this.alloc (Obj.cells #[] 2)
        have e : (((w.alloc (Obj.cells #[Value.slice A xs.length c] 26)).alloc (Obj.cells #[Value.slice none 0 0] 26)).alloc (Obj.cells #[] 70)).heap.size = w.heap.size + 3 := by simp
        rw [e] at h2
        exact h2
    case round =>
      obtain ⟨k, hk, rfl, hb, hown, hint, hmap⟩ := hrel
      have hwz : w.heap.size + 2 ≤ wr.heap.size := by have := hb.size; simpa using this
      have hco := canon_ok Hok.out k hk
      have HB := Lib.hid hb
      have HO := Lib.hid hown
      have HI := Lib.hid hint
      have HMp := Lib.hid hmap
      have HCo := Lib.hid hco
      by_cases hlt : k < xs.length
      · obtain ⟨b, o, rfl, hbl, hcell⟩ := hrow.rule hlt
        obtain ⟨r, hr⟩ : ∃ r, xs[k]? = some r := ⟨_, List.getElem?_eq_getElem hlt⟩
        obtain ⟨q0, q1, q2⟩ := hcell k r hr
        have p0 : wr.cell? ⟨b, o + k * 3, none⟩ = some (.string r.letter) := (hb.cell (p := ⟨b, o + k * 3, none⟩) (by show b < _; omega)).trans (by simp [go_sem, hbl, Nat.lt_succ_of_lt hbl, q0])
        have p1 : wr.cell? ⟨b, o + k * 3 + 1, none⟩ = some (.int .i64 r.left) := (hb.cell (p := ⟨b, o + k * 3 + 1, none⟩) (by show b < _; omega)).trans (by simp [go_sem, hbl, Nat.lt_succ_of_lt hbl, q1])
        have p2 : wr.cell? ⟨b, o + k * 3 + 2, none⟩ = some (.int .i64 r.right) := (hb.cell (p := ⟨b, o + k * 3 + 2, none⟩) (by show b < _; omega)).trans (by simp [go_sem, hbl, Nat.lt_succ_of_lt hbl, q2])
        have hi : (k : Int) < (xs.length : Int) := by omega
        have hbz : b < wr.heap.size := by omega
        have hor := Hok.out k r hr
        have Hr := Lib.hid hr
        have Hor := Lib.hid hor
        clear hcell hr q0 q1 q2 hb hown hint hmap hor hco hrow
        go_wp2_with fail
        refine (isPair_any _ _ _ _).mono ?_
        rintro e w1 ⟨rfl, rfl⟩
        go_upto_if 36 with fail
        obtain ⟨K, hK⟩ : ∃ K, (canon (xs.take k)).1 = K := ⟨_, rfl⟩
        obtain ⟨S, hS⟩ : ∃ S, (canon (xs.take k)).2 = S := ⟨_, rfl⟩
        have hKl : K.length = k := by rw [← hK]; exact HCo.out.l1
        have hSl : S.length = k := by rw [← hS]; exact HCo.out.l2
        have hlow : ∀ i, i < k → 0 ≤ S.getD i 0 ∧ S.getD i 0 ≤ i := by rw [← hS]; exact HCo.out.low
        have hKo : OkAll K := by rw [← hK]; exact HCo.out.ok
        rw [hK] at HO HMp
        rw [hS] at HI
        have hnx : canon (xs.take (k + 1)) = (K ++ [trimR S r], S ++ [((K.idxOf (trimR S r) : Nat) : Int)]) := by rw [canon_snoc Hr.out, trimStep, hK, hS]
        have Hnx := Lib.hid hnx
        obtain ⟨X, hX⟩ : ∃ X, trimR S r = X := ⟨_, rfl⟩
        have hXo : okRule k X = true := by
          have := (canon_ok Hok.out (k + 1) (by omega)).ok
          rw [hnx] at this
          have h9 := this k (trimR S r) (by simp [hKl])
          rw [← hX]; exact h9
        have HX := Lib.hid hX
        have HXo := Lib.hid hXo
        have HK := Lib.hid hK
        have HKo := Lib.hid hKo
        rw [hX] at Hnx
        clear hK hS hnx hX hXo hKo HCo
        have HKl := Lib.hid hKl
        have HSl := Lib.hid hSl
        have Hlow := Lib.hid hlow
        clear hKl hSl hlow
        go_cut [] from 34 to 47 (fun wx => Below wr.heap.size wr wx ∧ Cells3 wx wr.heap.size X)
        case first =>
          by_cases hp : r.letter.toList.isEmpty = true
          · rw [hp]
            have hpr : r.pair = true := by rw [isEmpty_size] at hp; exact hp
            obtain ⟨e1, e2, e3, e4⟩ := okRule_at Hor.out hpr
            obtain ⟨la, hla⟩ := Int.eq_ofNat_of_zero_le e1
            obtain ⟨ra, hra⟩ := Int.eq_ofNat_of_zero_le e3
            rw [hla] at e2
            rw [hra] at e4
            simp only [Int.toNat_natCast] at e2 e4
            have i1 : (la : Int) < (S.length : Int) := by have := HSl.out; omega
            have i2 : (ra : Int) < (S.length : Int) := by have := HSl.out; omega
            obtain ⟨g, cap, rfl, hg1, hg2, hg3, hgc⟩ := OwnInts.at_ HI.out (j := 0) (by omega)
            have w1 := hgc la (by omega)
            have w2 := hgc ra (by omega)
            obtain ⟨va, hva⟩ : ∃ x, S.getD la 0 = x := ⟨_, rfl⟩
            obtain ⟨vb, hvb⟩ : ∃ x, S.getD ra 0 = x := ⟨_, rfl⟩
            rw [hva] at w1
            rw [hvb] at w2
            have hX2 : X = pairR va vb := by rw [← HX.out, trimR_pair hpr, hla, hra, ← hva, ← hvb]; rfl
            have HX2 := Lib.hid hX2
            rw [hla, hra]
            have hcap : S.length ≤ cap := hg3
            clear hX2 hgc hpr e1 e3 hg3 hva hvb
            have y1 : g < wr.heap.size := hg2
            have B3 : Below wr.heap.size wr ((wr.alloc (Obj.cells #[Value.string r.letter, Value.int IntKind.i64 la, Value.int IntKind.i64 ra] 70)).alloc (Obj.cells #[Value.string r.letter, Value.int IntKind.i64 la, Value.int IntKind.i64 ra] 70)) := (by repeat (first | exact Below.refl _ _ | (refine Below.alloc ?_ (by first | omega | (simp; done) | (simp; omega)) _) | refine below_drewN ?_ _ | refine Below.drew ?_))
            have e0 : ((wr.alloc (Obj.cells #[Value.string r.letter, Value.int IntKind.i64 la, Value.int IntKind.i64 ra] 70)).alloc (Obj.cells #[Value.string r.letter, Value.int IntKind.i64 la, Value.int IntKind.i64 ra] 70)).heap[wr.heap.size]? = some (Obj.cells #[Value.string r.letter, Value.int IntKind.i64 la, Value.int IntKind.i64 ra] 70 (0, 0)) := ((Below.refl _ _).alloc (Nat.le_refl _) _).block wr.heap.size (by simp) |>.trans (alloc_heap_last _ _)
            generalize (wr.alloc (Obj.cells #[Value.string r.letter, Value.int IntKind.i64 la, Value.int IntKind.i64 ra] 70)).alloc (Obj.cells #[Value.string r.letter, Value.int IntKind.i64 la, Value.int IntKind.i64 ra] 70) = W3 at *
            have l0 : wr.heap.size < W3.heap.size := (Array.getElem?_eq_some_iff.1 e0).1
            have c0 : W3.cell? ⟨wr.heap.size, 0, none⟩ = some (.string r.letter) := by simp [World.cell?, e0]
            have c1 : W3.cell? ⟨wr.heap.size, 1, none⟩ = some (.int .i64 la) := by simp [World.cell?, e0]
            have c2 : W3.cell? ⟨wr.heap.size, 2, none⟩ = some (.int .i64 ra) := by simp [World.cell?, e0]
            have f0 : ∀ o, W3.frozen? ⟨wr.heap.size, o, none⟩ = false := fun o => by simp [World.frozen?, e0]
            have w3 := (B3.cell (p := ⟨g, la, none⟩) y1).trans w1
            have w4 := (B3.cell (p := ⟨g, ra, none⟩) y1).trans w2
            have BB3 := Lib.hid B3
            clear B3 e0 w1 w2
            go_wp2_with fail
            go_still_tail 10, (by kernel_rfl)
            change wpList _ _ _ _ _ W3.drew
            go_wp2_with fail
            refine (pairI64_any _ _ _).mono ?_
            rintro e w5 ⟨rfl, hb5⟩
            have z5 : W3.heap.size ≤ w5.heap.size := hb5.size
            have l5 : wr.heap.size < w5.heap.size := by omega
            have d0 : w5.cell? ⟨wr.heap.size, 0, none⟩ = some (.string r.letter) := (hb5.cell (p := ⟨wr.heap.size, 0, none⟩) l0).trans c0
            have d1 : w5.cell? ⟨wr.heap.size, 1, none⟩ = some (.int .i64 la) := (hb5.cell (p := ⟨wr.heap.size, 1, none⟩) l0).trans c1
            have d2 : w5.cell? ⟨wr.heap.size, 2, none⟩ = some (.int .i64 ra) := (hb5.cell (p := ⟨wr.heap.size, 2, none⟩) l0).trans c2
            have g5 : ∀ o, w5.frozen? ⟨wr.heap.size, o, none⟩ = false := fun o => (hb5.frozen (p := ⟨wr.heap.size, o, none⟩) l0).trans (f0 o)
            have B5 := Lib.hid ((Below.drew BB3.out).trans (hb5.mono (Nat.le_of_lt l0)))
            clear c0 c1 c2 f0 w3 w4 hb5
            go_wp2_with fail
            go_meet
            rw [HX2.out]
            exact ⟨((B5.out.setCell (Nat.le_refl _) _).setCell (Nat.le_refl _) _).setCell (Nat.le_refl _) _, by simp [go_sem, pairR, d0], by simp [go_sem, pairR, d1], by simp [go_sem, pairR, d2], by simp; omega⟩
          · have hpr : r.pair = false := by rw [isEmpty_size] at hp; simpa [GRule.pair] using hp
            have hX2 : X = r := by rw [← HX.out, trimR_let hpr]
            have HX2 := Lib.hid hX2
            have hp2 : r.letter.toList.isEmpty = false := by simpa using hp
            rw [hp2]
            clear hX2 hpr hp
            go_wp2_with fail
            go_meet
            rw [HX2.out]
            exact ⟨(by repeat (first | exact Below.refl _ _ | (refine Below.alloc ?_ (by first | omega | (simp; done) | (simp; omega)) _) | refine below_drewN ?_ _ | refine Below.drew ?_)), by simp [go_sem], by simp [go_sem], by simp [go_sem], by simp; omega⟩
        case rest =>
          revert hcut
          generalize wc = w1
          intro hcut
          obtain ⟨hb1, hx1⟩ := hcut
          have z1 : wr.heap.size ≤ w1.heap.size := hb1.size
          have HO1 := Lib.hid (OwnRules.below HO.out hb1)
          have HI1 : Hid (OwnInts w1 (w.heap.size + 2) u6 S) := ownsRow_below HI.out hb1
          have HM1 := Lib.hid (HMp.out.below hb1 HMp.out.lt)
          have B1 := Lib.hid (HB.out.trans (hb1.mono hwz))
          have HX1 := Lib.hid hx1
          obtain ⟨c0, c1, c2, lx⟩ := hx1
          have hkx := Lib.hid (okRule_key HXo.out (by omega))
          obtain ⟨d, hd⟩ : ∃ d, decide (X ∈ K) = d := ⟨_, rfl⟩
          obtain ⟨q, hq⟩ : ∃ q : Int, (if X ∈ K then ((K.idxOf X : Nat) : Int) else 0) = q := ⟨_, rfl⟩
          have hlk : (Instr.lookup 101 (.map (some (w.heap.size + 1 + 1 + 1))) (.agg #[.string X.letter, .int .i64 X.left, .int .i64 X.right]) true).run Tryd.prog w1 = .ok (.tuple #[.int .i64 q, .bool d]) w1 := by
            rw [← hd, ← hq]
            by_cases h : X ∈ K
            · rw [if_pos h, decide_eq_true h]; exact HM1.out.yes hkx.out h true
            · rw [if_neg h, decide_eq_false h]; exact HM1.out.no hkx.out h true
          have Hd := Lib.hid hd
          clear hb1 hd hq p0 p1 p2
          go_upto_if 55 with fail
          go_cut [] from 48 to 58 (fun wx => RMap wx (w.heap.size + 3) (K ++ [X]) ∧ w1.grownBy wx (some (w.heap.size + 3)))
          case first =>
            cases d
            · have hmem : ¬ X ∈ K := by have := Hd.out; simpa using this
              obtain ⟨w2, hrun, hm2, hg2⟩ := HM1.out.put hkx.out hmem
              rw [HKl.out] at hrun
              have hrun2 : (Instr.mapUpdate 101 (.map (some (w.heap.size + 1 + 1 + 1))) (.agg #[.string X.letter, .int .i64 X.left, .int .i64 X.right]) (.int .i64 (k : Nat))).run Tryd.prog w1 = .ok () w2 := hrun
              have HM2 := Lib.hid hm2
              have HG2 := Lib.hid hg2
              clear hrun hm2 hg2
              go_wp2_with fail
              go_meet
              exact ⟨HM2.out, HG2.out⟩
            · have hmem : X ∈ K := by have := Hd.out; simpa using this
              have HMm := Lib.hid hmem
              clear hmem
              go_wp2_with fail
              go_meet
              exact ⟨HM1.out.same HMm.out, World.grownBy.refl _ _⟩
          case rest =>
            revert hcut
            generalize wc = w2
            intro hcut
            obtain ⟨hm2, hg2⟩ := hcut
            have B2 : Below (w.heap.size + 2) ((w.alloc (Obj.cells #[Value.slice (some ⟨b, o, none⟩) xs.length c] 26)).alloc (Obj.cells #[Value.slice none 0 0] 26)) w2 := B1.out.grown hg2 (by omega) (fun g hg => by have : w.heap.size + 3 = g := Option.some.inj hg; omega)
            have hxm : X ∈ K ++ [X] := by simp
            have T0 : Hid (T3 ((w.alloc (Obj.cells #[Value.slice (some ⟨b, o, none⟩) xs.length c] 26)).alloc (Obj.cells #[Value.slice none 0 0] 26)) (w.heap.size + 2) (w.heap.size + 3) wr.heap.size X (K ++ [X]) w2 u4 K u6 S) :=
              ⟨B2, own_keep HO1.out fun g hg => hg2.block g (World.ownsRow.lt HO1.out g hg).2 (fun e => rmap_apart HM1.out HO1.out (e ▸ hg).symm), own_keep HI1.out fun g hg => hg2.block g (World.ownsRow.lt HI1.out g hg).2 (fun e => rmap_apart HM1.out HI1.out (e ▸ hg).symm),
                hm2, HX1.out.kept hg2 (fun e => by have h1 := HMp.out.lt; have h2 : wr.heap.size = w.heap.size + 3 := Option.some.inj e; omega), own_far HO.out (Nat.le_refl _), own_far HI.out (Nat.le_refl _), Nat.le_trans (by omega) hg2.size⟩
            obtain ⟨A4, c4, rfl, _⟩ := own_nil T0.out.rows
            obtain ⟨A6, c6, rfl, _⟩ := own_nil T0.out.ints
            have hq : ((K ++ [X]).idxOf X : Nat) = K.idxOf X := by
              rw [List.idxOf_append]
              split
              · rfl
              · rename_i h; rw [List.idxOf_eq_length h]; simp
            obtain ⟨z, hz⟩ : ∃ z : Nat, (K ++ [X]).idxOf X = z := ⟨_, rfl⟩
            have Hz := Lib.hid (hq.symm.trans hz)
            have hl0 : (Instr.lookup 101 (.map (some (w.heap.size + 1 + 1 + 1))) (.agg #[.string X.letter, .int .i64 X.left, .int .i64 X.right]) false).run Tryd.prog w2.drew = .ok (.int .i64 (z : Nat)) w2.drew := by rw [← hz]; exact T0.out.drew.look hkx.out hxm
            have hl1 : ∀ o, (Instr.lookup 101 (.map (some (w.heap.size + 1 + 1 + 1))) (.agg #[.string X.letter, .int .i64 X.left, .int .i64 X.right]) false).run Tryd.prog (w2.alloc o).drew = .ok (.int .i64 (z : Nat)) (w2.alloc o).drew := fun o => by rw [← hz]; exact (T0.out.alloc o).drew.look hkx.out hxm
            have hl2 : ∀ W v L, T3 ((w.alloc (Obj.cells #[Value.slice (some ⟨b, o, none⟩) xs.length c] 26)).alloc (Obj.cells #[Value.slice none 0 0] 26)) (w.heap.size + 2) (w.heap.size + 3) wr.heap.size X (K ++ [X]) W v L (.slice A6 S.length c6) S → (Instr.lookup 101 (.map (some (w.heap.size + 1 + 1 + 1))) (.agg #[.string X.letter, .int .i64 X.left, .int .i64 X.right]) false).run Tryd.prog W = .ok (.int .i64 (z : Nat)) W := fun W v L T => by rw [← hz]; exact T.look hkx.out hxm
            have HL2 := Lib.hid hl2
            obtain ⟨c0, c1, c2, lx⟩ := T0.out.box
            have T1 := Lib.hid T0.out.drew
            have nR := Lib.hid (fun N (h : w2.heap.size ≤ N) => own_far (N := N) T0.out.rows h)
            have nI := Lib.hid (fun N (h : w2.heap.size ≤ N) => own_far (N := N) T0.out.ints h)
            have KL : Hid (K.length ≤ 1099511627775) := by rw [Hid, HKl.out]; omega
            have SL : Hid (S.length ≤ 1099511627775) := by rw [Hid, HSl.out]; omega
            clear hl2 hz hq B2 hm2 hg2 hxm hlk
            have FIN : ∀ W p q, T3 ((w.alloc (Obj.cells #[Value.slice (some ⟨b, o, none⟩) xs.length c] 26)).alloc (Obj.cells #[Value.slice none 0 0] 26)) (w.heap.size + 2) (w.heap.size + 3) wr.heap.size X (K ++ [X]) W p (K ++ [X]) q (S ++ [(z : Int)]) → ∃ k', k' ≤ xs.length ∧ (Value.int .i64 ((k : Int) + 1)) = .int .i64 (k' : Nat) ∧ Below (w.heap.size + 2) ((w.alloc (Obj.cells #[Value.slice (some ⟨b, o, none⟩) xs.length c] 26)).alloc (Obj.cells #[Value.slice none 0 0] 26)) W ∧ OwnRules W (w.heap.size + 2) p (canon (xs.take k')).1 ∧ OwnInts W (w.heap.size + 2) q (canon (xs.take k')).2 ∧ RMap W (w.heap.size + 3) (canon (xs.take k')).1 := fun W p q T =>
              ⟨k + 1, by omega, rfl, T.below, by rw [Hnx.out]; exact T.rows, by rw [Hnx.out, Hz.out]; exact T.ints, by rw [Hnx.out]; exact T.mp⟩
            have FINh := Lib.hid FIN
            clear FIN
            go_wp2_with fail
            go_region_law (first
              | ((refine step_T3R (r := X) (v4 := .slice A4 K.length c4) (by rfl) _ _ (by rfl) (by rfl) (by first | rfl | simp) (by first | exact (T0.out.alloc _).drew | exact ((T0.out.alloc _).alloc _).drew | exact T2 | exact T2.alloc _) (by first | exact (Cells3.new (by simp)).drew | exact ((Cells3.new (by simp)).alloc _).drew | exact Cells3.new rfl | exact (Cells3.new (by simp)).drew.kept hg7 (nI.out _ (by simp)) | exact ((Cells3.new (by simp)).alloc _).drew.kept hg7 (nI.out _ (by simp))) KL.out ?_); intro v8 w8 T3 hg8; have hl3 := HL2.out _ _ _ T3; obtain ⟨c80, c81, c82, l8⟩ := T3.box)
              | ((refine step_T3I (y := (z : Nat)) (v6 := .slice A6 S.length c6) (by rfl) _ _ (by rfl) (by rfl) (by first | rfl | simp) (by first | exact (T0.out.alloc _).drew | exact ((T0.out.alloc _).alloc _).drew | exact T3 | exact T3.alloc _) (by first | exact (Cell1.new (by simp)).drew.1 | exact ((Cell1.new (by simp)).alloc _).drew.1 | exact (Cell1.new rfl).1 | exact ((Cell1.new (by simp)).drew.kept hg8 (nR.out _ (by simp))).1 | exact (((Cell1.new (by simp)).alloc _).drew.kept hg8 (nR.out _ (by simp))).1) SL.out ?_); intro v7 w7 T2 hg7; obtain ⟨c70, c71, c72, l7⟩ := T2.box))
            all_goals
              go_wp2_with fail
              refine ⟨?_, by simp only [intOf]; omega⟩
              first | exact FINh.out _ _ _ T2 | exact FINh.out _ _ _ T3
      · have hkn : k = xs.length := by omega
        subst hkn
        have hcz := canon_all Hok.out
        obtain ⟨K, S, hKS⟩ : ∃ K S, canon xs = (K, S) := ⟨_, _, rfl⟩
        have hown := HO.out
        have hint := HI.out
        rw [List.take_length, hKS] at hown hint
        rw [hKS] at hcz
        dsimp only at hown hint
        have hKl : K.length = xs.length := hcz.l1
        have hSl : S.length = xs.length := hcz.l2
        have hlow : 0 ≤ S.getD (xs.length - 1) 0 ∧ S.getD (xs.length - 1) 0 ≤ ((xs.length - 1 : Nat) : Int) := hcz.low (xs.length - 1) (by omega)
        have HKo : Hid (OkAll K) := hcz.ok
        have Hnd : Hid (needDown K xs.length (rootB xs) = needL xs) := by rw [Hid, needL, hKS]
        have Hrb : Hid (rootB xs = (List.replicate xs.length false).set (S.getD (xs.length - 1) 0).toNat true) := by rw [Hid, rootB, hKS]
        have Hto : Hid (∀ k, trimO xs (k + 1) = outStep K (needL xs) (trimO xs k) k) := fun k => by rw [trimO_succ, hKS]
        have HNl := Lib.hid (needL_len xs)
        obtain ⟨AK, cK, rfl, _, hmK, hrowK⟩ := OwnRules.sl hown
        obtain ⟨AS, cS, rfl, _, hmS, hrowS⟩ := OwnInts.sl hint
        obtain ⟨bS, oS, rfl, hbS, hcS⟩ := hrowS.int (k := xs.length - 1) (by omega)
        have c0 := hcS (xs.length - 1) (by omega)
        obtain ⟨t, ht⟩ := Int.eq_ofNat_of_zero_le hlow.1
        have hm1 : (xs.length : Int) - 1 = ((xs.length - 1 : Nat) : Int) := by omega
        have hm2 : xs.length - 1 < S.length := by omega
        have htl : t < xs.length := by omega
        rw [ht, Int.toNat_natCast] at Hrb
        rw [ht] at c0
        obtain ⟨m, hm⟩ : ∃ m, xs.length - 1 = m := ⟨_, rfl⟩
        rw [hm] at hm1 hm2 c0
        have HB2 := Lib.hid (show Below (w.heap.size + 2) _ wr from HB.out)
        have HrowK := Lib.hid hrowK
        have hmkB : ∀ W : World, (Instr.makeSlice 90 (.int .i64 (xs.length : Int)) (.int .i64 (xs.length : Int))).run Tryd.prog W = .ok (.slice (some ⟨W.heap.size, 0, none⟩) xs.length xs.length) (W.alloc (.cells (madeCells #[.bool false] xs.length) 4)) :=
          fun W => run_make_row' _ _ _ 1 Tryd.underlying90 (by kernel_rfl) rfl .i64 .i64 xs.length (by omega) (by omega) W
        have HKl := Lib.hid hKl
        have HSl := Lib.hid hSl
        clear hown hint hcz hKl hlow hSl hKS HO HI HMp hrowK hrowS hcS ht hm hmm hrow HCo hmK hmS
        clear hown hint hb hmap hco hlt hk
        generalize wr = w1 at *
        go_upto_region 16 with fail
        have hR0 := RowB.made w1 xs.length
        have hb0 : Below w1.heap.size w1 (w1.alloc (.cells (madeCells #[.bool false] xs.length) 4)) := (Below.refl _ _).alloc (Nat.le_refl _) _
        generalize w1.alloc (.cells (madeCells #[.bool false] xs.length) 4) = w2 at *
        have c1 := (hb0.cell (p := ⟨bS, oS + m, none⟩) hbS).trans c0
        have c2 := hR0.cell (i := t) (by simpa using htl)
        have f2 := hR0.frozen
        have hti : (t : Int) < (xs.length : Int) := by omega
        have HR0 := Lib.hid (hR0.set t true)
        rw [← Hrb.out] at HR0
        have HB0 := Lib.hid hb0
        clear hR0 hb0 c0
        go_wp2_with fail
        go_loopw [12] (fun i wx => ∃ (k : Nat) (z : Int) (N : List Bool), k ≤ xs.length ∧ z = (k : Int) - 1 ∧ i = .int .i64 z ∧ Below w1.heap.size w1 wx ∧ RowB wx w1.heap.size N ∧ N.length = xs.length ∧ needDown K k N = needL xs) (fun i _ => (intOf i + 1).toNat)
        case atStart =>
          exact ⟨xs.length, _, rootB xs, Nat.le_refl _, hm1.symm, rfl, HB0.out.setCell (Nat.le_refl _) _, HR0.out, by simp [rootB], Hnd.out⟩
        case round =>
          obtain ⟨k, z, N, hk2, rfl, rfl, hb2, hrN, hNl, hnN⟩ := hrel
          have HB3 := Lib.hid hb2
          have HRN := Lib.hid hrN
          have HNN := Lib.hid hnN
          have HNlen := Lib.hid hNl
          clear hb2 hrN hnN
          cases k with
          | zero =>
            have hz : ((0 : Nat) : Int) - 1 = -1 := by omega
            rw [hz]
            have hNN : N = needL xs := by have := HNN.out; rwa [needDown] at this
            subst hNN
            have HmkI : ∀ W : World, (Instr.makeSlice 51 (.int .i64 (xs.length : Int)) (.int .i64 (xs.length : Int))).run Tryd.prog W = .ok (.slice (some ⟨W.heap.size, 0, none⟩) xs.length xs.length) (W.alloc (.cells (madeCells #[.int .i64 0] xs.length) 2)) :=
              fun W => run_make_row' _ _ _ 8 Tryd.underlying51 Tryd.infoI rfl .i64 .i64 xs.length (by omega) (by omega) W
            obtain ⟨w3, rfl⟩ : ∃ w3 : World, w3 = wr := ⟨_, rfl⟩
            clear hz c1 c2 f2 hmkB hti HR0 HB0 Hrb Hnd HNN
            go_upto_region 23 with fail
            go_cut [14, 15] (fun p q wx => ∃ bo ba : Nat, p = .pointer (some ⟨bo, 0, none⟩) ∧ q = .slice (some ⟨ba, 0, none⟩) xs.length xs.length ∧ w3.heap.size ≤ bo ∧ w3.heap.size ≤ ba ∧ bo ≠ ba ∧ Boxed wx bo 26 (.slice none 0 0) ∧ RowI wx ba (List.replicate xs.length 0) ∧ Below w3.heap.size w3 wx)
            case first =>
              go_region
              all_goals
                go_wp2_with fail
                go_meet
                first
                  | exact ⟨w3.heap.size + 1, w3.heap.size, rfl, rfl, by omega, Nat.le_refl _, by omega, Boxed.of1 w3 _ _ _, (RowI.made w3 xs.length).alloc _, Below.drew (((Below.refl _ _).alloc (Nat.le_refl _) _).alloc (by simp) _)⟩
                  | exact ⟨w3.heap.size, w3.heap.size + 1, rfl, rfl, Nat.le_refl _, by omega, by omega, (Boxed.new w3 _ _).alloc _, RowI.of1 w3 _ _, Below.drew (((Below.refl _ _).alloc (Nat.le_refl _) _).alloc (by simp) _)⟩
            case rest =>
              revert hcut
              generalize wc = w4
              intro hcut
              obtain ⟨bo, ba, rfl, rfl, hbo, hba, hne, hbx, hri, hb4⟩ := hcut
              have HRN4 := Lib.hid (HRN.out.below hb4 HRN.out.lt)
              have z13 := HRN.out.lt
              have HB4 := Lib.hid (HB3.out.trans (hb4.mono (Nat.le_of_lt HRN.out.lt)))
              have HBX := Lib.hid hbx
              have HRI := Lib.hid hri
              have Hb4 := Lib.hid hb4
              clear hbx hri hb4 HRN HB3 HNlen hNl hk2 HmkI
              go_wp2_with fail
              go_loopw [110] (fun i wx => ∃ k : Nat, k ≤ xs.length ∧ i = .int .i64 k ∧ Below w3.heap.size w4 wx ∧ ∃ vo : Value, Boxed wx bo 26 vo ∧ OwnRules wx w3.heap.size vo (trimO xs k).1 ∧ RowI wx ba (trimO xs k).2) (fun i _ => xs.length - (intOf i).toNat)
              case atStart => exact ⟨0, Nat.zero_le _, rfl, Below.refl _ _, _, HBX.out, World.ownsRow_nil _ _ _ _, HRI.out⟩
              case round =>
                obtain ⟨k, hk, rfl, hb5, vo, hbx, hown, hri⟩ := hrel
                obtain ⟨Ao, co, rfl, _⟩ := own_nil hown
                have HB5 := Lib.hid hb5
                have HBX5 := Lib.hid hbx
                have HOW := Lib.hid hown
                have HRI5 := Lib.hid hri
                have z34 : w3.heap.size ≤ w4.heap.size := Hb4.out.size
                have z45 : w4.heap.size ≤ wr.heap.size := hb5.size
                clear hb5 hown hri
                by_cases hlt : k < xs.length
                · obtain ⟨bK, oK, hAK, hbK, hcK⟩ := HrowK.out.rule (k := k) (by have := HKl.out; omega)
                  subst hAK
                  obtain ⟨r, hr⟩ : ∃ r, K[k]? = some r := ⟨_, List.getElem?_eq_getElem (by have := HKl.out; omega)⟩
                  have Hr := Lib.hid hr
                  have Hor := Lib.hid (HKo.out k r hr)
                  obtain ⟨q0, q1, q2⟩ := hcK k r hr
                  have B1 : Below w1.heap.size w1 wr := HB4.out.trans (HB5.out.mono (Nat.le_of_lt z13))
                  have p0 := (B1.cell (p := ⟨bK, oK + k * 3, none⟩) hbK).trans q0
                  have p1 := (B1.cell (p := ⟨bK, oK + k * 3 + 1, none⟩) hbK).trans q1
                  have p2 := (B1.cell (p := ⟨bK, oK + k * 3 + 2, none⟩) hbK).trans q2
                  have hjK : (k : Int) < (K.length : Int) := by have := HKl.out; omega
                  have hjn : (k : Int) < (xs.length : Int) := by omega
                  have RNr := Lib.hid (HRN4.out.below HB5.out z13)
                  have cN := RNr.out.cell (i := k) (by have := HNl.out; omega)
                  have hlN := RNr.out.lt
                  obtain ⟨L, T, hLT⟩ : ∃ L T, trimO xs k = (L, T) := ⟨_, _, rfl⟩
                  have hTl : T.length = xs.length := by have := (trimO_len xs k).1; rw [hLT] at this; exact this
                  have hLl : L.length ≤ k := by have := (trimO_len xs k).2; rw [hLT] at this; exact this
                  rw [hLT] at HBX5 HOW HRI5
                  dsimp only at HBX5 HOW HRI5
                  have hst := Hto.out k
                  rw [hLT, outStep, getR_some hr] at hst
                  obtain ⟨u, hu⟩ : ∃ u, (needL xs).getD k false = u := ⟨_, rfl⟩
                  rw [hu] at cN hst
                  dsimp only at hst
                  have zbo := hbx.lt
                  have zba := HRI5.out.lt
                  clear hr hcK q0 q1 q2 B1 hLT hu hbx
                  cases u
                  · rw [if_neg (by simp)] at hst
                    have Hst := Lib.hid hst
                    clear hst
                    go_wp2_with fail
                    refine ⟨⟨k + 1, by omega, rfl, HB5.out.alloc (by omega) _, _, by rw [Hst.out]; exact ⟨HBX5.out.alloc _, HOW.out.alloc _, HRI5.out.alloc _⟩⟩, by simp [intOf]; omega⟩
                  · rw [if_pos rfl] at hst
                    obtain ⟨X, hX⟩ : ∃ X, trimR T r = X := ⟨_, rfl⟩
                    rw [hX] at hst
                    have Hst := Lib.hid hst
                    have HX := Lib.hid hX
                    have HTl := Lib.hid hTl
                    have HLl := Lib.hid hLl
                    clear hst hX hTl hLl
                    go_wp2_with fail
                    refine (isPair_any _ _ _ _).mono ?_
                    rintro e w5 ⟨rfl, rfl⟩
                    go_upto_if 121 with fail
                    go_cut [] from 114 to 132 (fun wx => Below wr.heap.size wr wx ∧ Cells3 wx wr.heap.size X)
                    case first =>
                      by_cases hp : r.letter.toList.isEmpty = true
                      · rw [hp]
                        have hpr : r.pair = true := by rw [isEmpty_size] at hp; exact hp
                        obtain ⟨e1, e2, e3, e4⟩ := okRule_at Hor.out hpr
                        obtain ⟨la, hla⟩ := Int.eq_ofNat_of_zero_le e1
                        obtain ⟨ra, hra⟩ := Int.eq_ofNat_of_zero_le e3
                        rw [hla] at e2
                        rw [hra] at e4
                        simp only [Int.toNat_natCast] at e2 e4
                        have i1 : (la : Int) < (xs.length : Int) := by omega
                        have i2 : (ra : Int) < (xs.length : Int) := by omega
                        have w1c := HRI5.out.cell (i := la) (by have := HTl.out; omega)
                        have w2c := HRI5.out.cell (i := ra) (by have := HTl.out; omega)
                        obtain ⟨va, hva⟩ : ∃ x, T.getD la 0 = x := ⟨_, rfl⟩
                        obtain ⟨vb, hvb⟩ : ∃ x, T.getD ra 0 = x := ⟨_, rfl⟩
                        rw [hva] at w1c
                        rw [hvb] at w2c
                        have hX2 : X = pairR va vb := by rw [← HX.out, trimR_pair hpr, hla, hra, ← hva, ← hvb]; rfl
                        have HX2 := Lib.hid hX2
                        rw [hla, hra]
                        clear hX2 hpr e1 e3 hva hvb hla hra
                        have B3 : Below wr.heap.size wr ((wr.alloc (Obj.cells #[Value.string r.letter, Value.int IntKind.i64 la, Value.int IntKind.i64 ra] 70)).alloc (Obj.cells #[Value.string r.letter, Value.int IntKind.i64 la, Value.int IntKind.i64 ra] 70)) := (by repeat (first | exact Below.refl _ _ | (refine Below.alloc ?_ (by first | omega | (simp; done) | (simp; omega)) _) | refine below_drewN ?_ _ | refine Below.drew ?_))
                        have e0 : ((wr.alloc (Obj.cells #[Value.string r.letter, Value.int IntKind.i64 la, Value.int IntKind.i64 ra] 70)).alloc (Obj.cells #[Value.string r.letter, Value.int IntKind.i64 la, Value.int IntKind.i64 ra] 70)).heap[wr.heap.size]? = some (Obj.cells #[Value.string r.letter, Value.int IntKind.i64 la, Value.int IntKind.i64 ra] 70 (0, 0)) := ((Below.refl _ _).alloc (Nat.le_refl _) _).block wr.heap.size (by simp) |>.trans (alloc_heap_last _ _)
                        generalize (wr.alloc (Obj.cells #[Value.string r.letter, Value.int IntKind.i64 la, Value.int IntKind.i64 ra] 70)).alloc (Obj.cells #[Value.string r.letter, Value.int IntKind.i64 la, Value.int IntKind.i64 ra] 70) = W3 at *
                        have l0 : wr.heap.size < W3.heap.size := (Array.getElem?_eq_some_iff.1 e0).1
                        have c0 : W3.cell? ⟨wr.heap.size, 0, none⟩ = some (.string r.letter) := by simp [World.cell?, e0]
                        have c1 : W3.cell? ⟨wr.heap.size, 1, none⟩ = some (.int .i64 la) := by simp [World.cell?, e0]
                        have c2 : W3.cell? ⟨wr.heap.size, 2, none⟩ = some (.int .i64 ra) := by simp [World.cell?, e0]
                        have f0 : ∀ o, W3.frozen? ⟨wr.heap.size, o, none⟩ = false := fun o => by simp [World.frozen?, e0]
                        have w3c := (B3.cell (p := ⟨ba, la, none⟩) zba).trans w1c
                        have w4c := (B3.cell (p := ⟨ba, ra, none⟩) zba).trans w2c
                        have BB3 := Lib.hid B3
                        clear B3 e0 w1c w2c p0 p1 p2 cN
                        go_wp2_with fail
                        go_still_tail 10, (by kernel_rfl)
                        change wpList _ _ _ _ _ W3.drew
                        go_wp2_with fail
                        refine (pairI64_any _ _ _).mono ?_
                        rintro e w5 ⟨rfl, hb5⟩
                        have z5 : W3.heap.size ≤ w5.heap.size := hb5.size
                        have l5 : wr.heap.size < w5.heap.size := by omega
                        have d0 : w5.cell? ⟨wr.heap.size, 0, none⟩ = some (.string r.letter) := (hb5.cell (p := ⟨wr.heap.size, 0, none⟩) l0).trans c0
                        have d1 : w5.cell? ⟨wr.heap.size, 1, none⟩ = some (.int .i64 la) := (hb5.cell (p := ⟨wr.heap.size, 1, none⟩) l0).trans c1
                        have d2 : w5.cell? ⟨wr.heap.size, 2, none⟩ = some (.int .i64 ra) := (hb5.cell (p := ⟨wr.heap.size, 2, none⟩) l0).trans c2
                        have g5 : ∀ o, w5.frozen? ⟨wr.heap.size, o, none⟩ = false := fun o => (hb5.frozen (p := ⟨wr.heap.size, o, none⟩) l0).trans (f0 o)
                        have B5 := Lib.hid ((Below.drew BB3.out).trans (hb5.mono (Nat.le_of_lt l0)))
                        clear c0 c1 c2 f0 w3c w4c hb5
                        go_wp2_with fail
                        go_meet
                        rw [HX2.out]
                        exact ⟨((B5.out.setCell (Nat.le_refl _) _).setCell (Nat.le_refl _) _).setCell (Nat.le_refl _) _, by simp [go_sem, pairR, d0], by simp [go_sem, pairR, d1], by simp [go_sem, pairR, d2], by simp; omega⟩
                      · have hpr : r.pair = false := by rw [isEmpty_size] at hp; simpa [GRule.pair] using hp
                        have hX2 : X = r := by rw [← HX.out, trimR_let hpr]
                        have HX2 := Lib.hid hX2
                        have hp2 : r.letter.toList.isEmpty = false := by simpa using hp
                        rw [hp2]
                        clear hX2 hpr hp
                        go_wp2_with fail
                        go_meet
                        rw [HX2.out]
                        exact ⟨(by repeat (first | exact Below.refl _ _ | (refine Below.alloc ?_ (by first | omega | (simp; done) | (simp; omega)) _) | refine below_drewN ?_ _ | refine Below.drew ?_)), by simp [go_sem], by simp [go_sem], by simp [go_sem], by simp; omega⟩
                    case rest =>
                      revert hcut
                      generalize wc = w5
                      intro hcut
                      obtain ⟨hb6, hx6⟩ := hcut
                      have bx6 : Boxed w5 bo 26 (.slice Ao L.length co) := Boxed.up HBX5.out hb6 zbo
                      have hcb := bx6.cell
                      have hfb := bx6.frozen
                      have ri6 := HRI5.out.below hb6 zba
                      have HRI6 := Lib.hid (ri6.set k (L.length : Int))
                      have cT := ri6.cell (i := k) (by have := HTl.out; omega)
                      have fT := ri6.frozen
                      have ow6 : OwnRules w5 w3.heap.size (.slice Ao L.length co) L := OwnRules.below HOW.out hb6
                      have hne2 : ba ≠ wr.heap.size := by omega
                      have HOW6 : Hid (OwnRules (w5.setCell ⟨ba, k, none⟩ (.int .i64 (L.length : Int))) w3.heap.size (.slice Ao L.length co) L) := ownsRow_setCell_other (a := ⟨ba, k, none⟩) ow6 (ri6.not_row ow6 (by decide)).symm _
                      have HX6 := Lib.hid hx6
                      have HBX6 := Lib.hid (boxed_other (o := k) bx6 hne (.int .i64 (L.length : Int)))
                      have BB6 := Lib.hid ((HB5.out.trans (hb6.mono (by omega))).setCell (p := ⟨ba, k, none⟩) hba (.int .i64 (L.length : Int)))
                      clear hb6 hx6 bx6 ri6 ow6 p0 p1 p2 cN
                      go_upto_region 31 with fail
                      have HX7 : Hid (Cells3 (w5.setCell ⟨ba, k, none⟩ (.int .i64 (L.length : Int))) wr.heap.size X) := by
                        obtain ⟨a0, a1, a2, a3⟩ := HX6.out
                        have hb : ∀ o, (w5.setCell ⟨ba, k, none⟩ (.int .i64 (L.length : Int))).cell? ⟨wr.heap.size, o, none⟩ = w5.cell? ⟨wr.heap.size, o, none⟩ := fun o => World.cell?_of_block (a := ⟨wr.heap.size, o, none⟩) (Below.heap_setCell _ _ _ _ hne2.symm)
                        exact ⟨(hb 0).trans a0, (hb 1).trans a1, (hb 2).trans a2, by simpa [World.setCell] using a3⟩
                      clear hcb hfb cT fT HX6
                      generalize w5.setCell ⟨ba, k, none⟩ (.int .i64 (L.length : Int)) = w6 at *
                      obtain ⟨x0, x1, x2, x3⟩ := HX7.out
                      have hcb := HBX6.out.cell
                      have HLL : Hid (L.length ≤ 1099511627775) := by have := HLl.out; exact Nat.le_trans this (by omega)
                      have HW6 : Hid (w3.heap.size ≤ w6.heap.size) := Nat.le_of_lt (Nat.lt_of_le_of_lt hbo HBX6.out.lt)
                      go_wp2_with (first
                        | (at_builtin; refine list_push_rule (base := w3.heap.size) (v := .slice Ao L.length co) rfl _ _ rfl (by rfl) (by rfl) rfl HOW6.out HLL.out HW6.out ?_; intro v7 w7 own7 hg7 hb7; (have bx7 : Boxed w7 bo 26 _ := Boxed.grown HBX6.out (by decide) HOW6.out hg7; have ri7 := Lib.hid ((HRI6.out.alloc _).kept hg7 (HRI6.out.not_row HOW6.out (by decide))); obtain ⟨A7, c7, rfl, _⟩ := own_nil own7; have hcb7 := bx7.cell; have hfb7 := bx7.frozen; have hl7 := bx7.lt; have own8 := Lib.hid (own_put bx7 own7 rfl List.length_append); have B8 := Lib.hid (((BB6.out.alloc HW6.out _).trans hb7).setCell (p := ⟨bo, 0, none⟩) hbo (.slice A7 (L.length + 1) c7)); have X8 : Hid (Boxed (w7.setCell ⟨bo, 0, none⟩ (.slice A7 (L.length + 1) c7)) bo 26 (.slice A7 (L.length + 1) c7)) := Boxed.set _ bx7; have R8 := Lib.hid (ri7.out.other (c := bo) (o := 0) hne.symm (.slice A7 (L.length + 1) c7)); clear own7 hg7 hb7)))
                      refine ⟨⟨k + 1, by omega, rfl, B8.out, _, X8.out, ?_⟩, by simp [intOf]; omega⟩
                      rw [Hst.out]
                      exact ⟨own8.out, R8.out⟩
                · have hkn : k = xs.length := by omega
                  subst hkn
                  have h1b : Below w1.heap.size w1 wr := HB4.out.trans (HB5.out.mono (Nat.le_of_lt z13))
                  have h0b : Below (w.heap.size + 2) _ wr := HB2.out.trans (h1b.mono hwz)
                  have c9 : wr.cell? ⟨w.heap.size + 1, 0, none⟩ = some (.slice none 0 0) := (h0b.cell (p := ⟨w.heap.size + 1, 0, none⟩) (by show w.heap.size + 1 < w.heap.size + 2; omega)).trans (by simp [go_sem])
                  have f9 : wr.frozen? ⟨w.heap.size + 1, 0, none⟩ = false := (h0b.frozen (p := ⟨w.heap.size + 1, 0, none⟩) (by show w.heap.size + 1 < w.heap.size + 2; omega)).trans (by simp [go_sem])
                  have cw : (wr.setCell ⟨w.heap.size + 1, 0, none⟩ (.slice Ao (trimO xs xs.length).1.length co)).cell? ⟨w.heap.size + 1, 0, none⟩ = some (.slice Ao (trimO xs xs.length).1.length co) := by
                    have hn9 : Boxed ((w.alloc (Obj.cells #[Value.slice A xs.length c] 26)).alloc (Obj.cells #[Value.slice none 0 0] 26)) (w.heap.size + 1) 26 (.slice none 0 0) := by
                      have := Boxed.new (w.alloc (Obj.cells #[Value.slice A xs.length c] 26)) 26 (Value.slice none 0 0)
                      rwa [show (w.alloc (Obj.cells #[Value.slice A xs.length c] 26)).heap.size = w.heap.size + 1 by simp] at this
                    have hb9 : Boxed wr (w.heap.size + 1) 26 (.slice none 0 0) := (h0b.block (w.heap.size + 1) (by omega)).trans hn9
                    have := Boxed.set (.slice Ao (trimO xs xs.length).1.length co) hb9
                    exact this.cell
                  have Hcw := Lib.hid cw
                  clear cw
                  have cb := hbx.cell
                  have hz9 : w.heap.size + 1 < wr.heap.size := by have := h0b.size; simp at this; omega
                  have H0 := Lib.hid h0b
                  have hkk : ¬ ((xs.length : Int) < (K.length : Int)) := by have := HKl.out; omega
                  clear h1b h0b
                  go_wp2_with fail
                  refine bodyPost_ret (v := .agg #[.slice Ao (trimO xs xs.length).1.length co]) (by simp [results, Tryd.results60, go_sem, Hcw.out]) rfl ⟨?_, .slice Ao (trimO xs xs.length).1.length co, ?_, rfl⟩
                  · exact (((Below.refl w.heap.size w).alloc (Nat.le_refl _) _).alloc (by simp) _).trans (H0.out.mono (by omega)) |>.setCell (by show w.heap.size ≤ w.heap.size + 1; omega) _
                  · exact ownsRow_setCell_below (a := ⟨w.heap.size + 1, 0, none⟩) (ownsRow_more HOW.out (base' := w.heap.size + 2) (by omega)) (by show w.heap.size + 1 < w.heap.size + 2; omega) _ |> fun h => ownsRow_more h (by omega)
          | succ j =>
            have hz : ((j + 1 : Nat) : Int) - 1 = (j : Int) := by omega
            rw [hz]
            clear hz
            obtain ⟨bK, oK, hAK, hbK, hcK⟩ := HrowK.out.rule (k := j) (by have := HKl.out; omega)
            subst hAK
            obtain ⟨r, hr⟩ : ∃ r, K[j]? = some r := ⟨_, List.getElem?_eq_getElem (by have := HKl.out; omega)⟩
            have Hr := Lib.hid hr
            have Hor := Lib.hid (HKo.out j r hr)
            obtain ⟨q0, q1, q2⟩ := hcK j r hr
            have p0 := (HB3.out.cell (p := ⟨bK, oK + j * 3, none⟩) hbK).trans q0
            have p1 := (HB3.out.cell (p := ⟨bK, oK + j * 3 + 1, none⟩) hbK).trans q1
            have p2 := (HB3.out.cell (p := ⟨bK, oK + j * 3 + 2, none⟩) hbK).trans q2
            have hjK : (j : Int) < (K.length : Int) := by have := HKl.out; omega
            have hjn : (j : Int) < (xs.length : Int) := by omega
            have cN := HRN.out.cell (i := j) (by have := HNlen.out; omega)
            have hlN := HRN.out.lt
            obtain ⟨u, hu⟩ : ∃ u, N.getD j false = u := ⟨_, rfl⟩
            rw [hu] at cN
            have Hu := Lib.hid hu
            clear hr hcK q0 q1 q2 hu hNl
            cases u
            · go_wp2_with fail
              go_roundw
              case rel => exact ⟨j, _, N, by omega, rfl, rfl, HB3.out.alloc (Nat.le_of_lt hlN) _, HRN.out.alloc _, HNlen.out, by rw [← HNN.out, needDown, needStep, Hu.out]; rfl⟩
              case measure => simp [intOf]
            · go_wp2_with fail
              refine (isPair_any _ _ _ _).mono ?_
              rintro e w3 ⟨rfl, rfl⟩
              by_cases hp : r.letter.toList.isEmpty = true
              · rw [hp]
                have hpr : r.pair = true := by rw [isEmpty_size] at hp; exact hp
                obtain ⟨e1, e2, e3, e4⟩ := okRule_at Hor.out hpr
                obtain ⟨la, hla⟩ := Int.eq_ofNat_of_zero_le e1
                obtain ⟨ra, hra⟩ := Int.eq_ofNat_of_zero_le e3
                rw [hla] at e2
                rw [hra] at e4
                simp only [Int.toNat_natCast] at e2 e4
                have Hla := Lib.hid hla
                have Hra := Lib.hid hra
                have Hpr := Lib.hid hpr
                clear hpr
                have i1 : (la : Int) < (xs.length : Int) := by omega
                have i2 : (ra : Int) < (xs.length : Int) := by omega
                rw [hla, hra]
                clear e1 e3 hla hra
                have B3 : Below wr.heap.size wr ((wr.alloc (Obj.cells #[Value.string r.letter, Value.int IntKind.i64 la, Value.int IntKind.i64 ra] 70)).alloc (Obj.cells #[Value.string r.letter, Value.int IntKind.i64 la, Value.int IntKind.i64 ra] 70)) := (by repeat (first | exact Below.refl _ _ | (refine Below.alloc ?_ (by first | omega | (simp; done) | (simp; omega)) _) | refine below_drewN ?_ _ | refine Below.drew ?_))
                have e0 : ((wr.alloc (Obj.cells #[Value.string r.letter, Value.int IntKind.i64 la, Value.int IntKind.i64 ra] 70)).alloc (Obj.cells #[Value.string r.letter, Value.int IntKind.i64 la, Value.int IntKind.i64 ra] 70)).heap[wr.heap.size]? = some (Obj.cells #[Value.string r.letter, Value.int IntKind.i64 la, Value.int IntKind.i64 ra] 70 (0, 0)) := ((Below.refl _ _).alloc (Nat.le_refl _) _).block wr.heap.size (by simp) |>.trans (alloc_heap_last _ _)
                generalize (wr.alloc (Obj.cells #[Value.string r.letter, Value.int IntKind.i64 la, Value.int IntKind.i64 ra] 70)).alloc (Obj.cells #[Value.string r.letter, Value.int IntKind.i64 la, Value.int IntKind.i64 ra] 70) = W3 at *
                have l0 : wr.heap.size < W3.heap.size := (Array.getElem?_eq_some_iff.1 e0).1
                have d1 : W3.cell? ⟨wr.heap.size, 1, none⟩ = some (.int .i64 la) := by simp [World.cell?, e0]
                have d2 : W3.cell? ⟨wr.heap.size, 2, none⟩ = some (.int .i64 ra) := by simp [World.cell?, e0]
                have RN3 := Lib.hid (HRN.out.below B3 hlN)
                have cL := RN3.out.cell (i := la) (by have := HNlen.out; omega)
                have cR := RN3.out.cell (i := ra) (by have := HNlen.out; omega)
                have fN := RN3.out.frozen
                have BB3 := Lib.hid B3
                have hne : wr.heap.size ≠ w1.heap.size := by omega
                clear p0 p1 p2 cN B3 e0
                go_wp2_with fail
                by_cases hlr : la = ra
                · subst hlr
                  have H3 := Lib.hid ((RN3.out.set la true).set la true).drew
                  have B4 := Lib.hid (Below.drew (((HB3.out.trans (BB3.out.mono (Nat.le_of_lt hlN))).setCell (p := ⟨w1.heap.size, la, none⟩) (Nat.le_refl _) (.bool true)).setCell (p := ⟨w1.heap.size, la, none⟩) (Nat.le_refl _) (.bool true)))
                  go_region
                  go_wp2_with fail
                  go_roundw
                  case rel => exact ⟨j, _, _, by omega, rfl, rfl, B4.out, H3.out, by simpa using HNlen.out, by rw [← HNN.out, needDown, needStep, getR_some Hr.out, Hu.out, Hpr.out, Hla.out, Hra.out]; rfl⟩
                  case measure => simp [intOf]
                · have hlr2 : ra ≠ la := fun e => hlr e.symm
                  have H3 := Lib.hid ((RN3.out.set la true).set ra true).drew
                  have B4 := Lib.hid (Below.drew (((HB3.out.trans (BB3.out.mono (Nat.le_of_lt hlN))).setCell (p := ⟨w1.heap.size, la, none⟩) (Nat.le_refl _) (.bool true)).setCell (p := ⟨w1.heap.size, ra, none⟩) (Nat.le_refl _) (.bool true)))
                  go_region
                  go_wp2_with fail
                  go_roundw
                  case rel => exact ⟨j, _, _, by omega, rfl, rfl, B4.out, H3.out, by simpa using HNlen.out, by rw [← HNN.out, needDown, needStep, getR_some Hr.out, Hu.out, Hpr.out, Hla.out, Hra.out]; rfl⟩
                  case measure => simp [intOf]
              · have hpr : r.pair = false := by rw [isEmpty_size] at hp; simpa [GRule.pair] using hp
                have hp2 : r.letter.toList.isEmpty = false := by simpa using hp
                have Hpr := Lib.hid hpr
                have hgr : getR K j = r := getR_some Hr.out
                have Hgr := Lib.hid hgr
                rw [hp2]
                clear hpr hp hgr
                go_wp2_with fail
                go_roundw
                case rel => exact ⟨j, _, N, by omega, rfl, rfl, (HB3.out.alloc (Nat.le_of_lt hlN) _).alloc (by simp; omega) _, (HRN.out.alloc _).alloc _, HNlen.out, by rw [← HNN.out, needDown, needStep, Hgr.out, Hpr.out, Bool.and_false]; rfl⟩
                case measure => simp [intOf]
end Go.Proofs.YtagpjommhoedlaaDoor

namespace Go.Proofs.YtagpjommhoedlaaDoor
open Go.RowKit

theorem Row.take {α : Type} {E : Enc α} {w : World} {S : Nat → Prop} {A : Option Addr} {xs : List α} (h : Row E w S A xs) (m : Nat) : Row E w S A (xs.take m) := fun hn => by
  obtain ⟨b, o, rfl, hlt, hc⟩ := h (by simp at hn; omega)
  refine ⟨b, o, rfl, hlt, fun k x hx => hc k x ?_⟩
  rw [List.getElem?_take] at hx
  split at hx
  · exact hx
  · cases hx
end Go.Proofs.YtagpjommhoedlaaDoor

namespace Go.Proofs.YtagpjommhoedlaaDoor
open Go.RowKit

end Go.Proofs.YtagpjommhoedlaaDoor

