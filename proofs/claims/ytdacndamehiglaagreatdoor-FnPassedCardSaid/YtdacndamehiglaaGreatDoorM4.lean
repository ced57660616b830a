import Derived.Test.YtdacndamehiglaaGreatDoorM3
import Derived.Deep.CutRange
import Derived.Deep.DeepCutAuto
import Derived.WalkArith
import Derived.Deep.OwnRows
import Derived.IntWalk
import Derived.Test.YtdacndamehiglaaGreatDoorM2
namespace Go.Proofs.YtdacndamehiglaaGreatDoor
open Go.RowKit
theorem list_push_rule {W : World} {ops : Array Oper} {rest : List Oper} {o : Oper} {a : Act} {Q : Exit → Act → World → Prop} (hgd : o.guard = none) (s x : Operand)
    (ho : o.op = .call { callee := .builtin .append, args := #[s, x], argTypes := #[24, 24] }) {t : ByteArray} {p q : Int} {base : Nat} {v : Value} {l : List GRule}
    (hs : a.eval s = v) {N : Nat} (hx : a.eval x = .slice (some ⟨N, 0, none⟩) 1 1) (hN : N = W.heap.size) (hown : OwnRules W base v l) (hlen : l.length ≤ 1099511627775) (hbase : base ≤ W.heap.size)
    (h : ∀ v' w', OwnRules w' base v' (l ++ [⟨t, p, q⟩]) → (W.alloc (.cells #[.string t, .int .i64 p, .int .i64 q] 112)).grownBy w' v.ownBlock → Below base (W.alloc (.cells #[.string t, .int .i64 p, .int .i64 q] 112)) w' → wpList Tryz.prog ops Q rest (a.put o.dst v') w') :
    wpList Tryz.prog ops Q (o :: rest) a (W.alloc (.cells #[.string t, .int .i64 p, .int .i64 q] 112)) :=
  wpList_plain hgd fun K hK => by
    have := step_push_rule (E := True) (K := K) (ops := ops) (Q := Q) hgd s x ho hs hx hN hown hlen hbase (fun v' w' h1 h2 h3 => hK _ _ (h v' w' h1 h2 h3))
    rwa [if_pos (by simp [Region.wanted, hgd])] at this
theorem own_put {w5 : World} {K base n c5 : Nat} {A5 : Option Addr} {L M : List GRule} {vo : Value} (bx : Boxed w5 K 26 vo) (own : OwnRules w5 base (.slice A5 L.length c5) L) (hM : L = M) (hn : M.length = n) :
    OwnRules (w5.setCell ⟨K, 0, none⟩ (.slice A5 n c5)) base (.slice A5 n c5) M := by
  subst hM; subst hn; exact ownsRow_setCell_other (a := ⟨K, 0, none⟩) own (bx.not_row (by decide) own).symm _
theorem pairI64_any (a b : Int) (w : World) :
    Calls Tryz.prog 143 #[.int .i64 a, .int .i64 b] w fun e w' => e = .returned (.agg #[.string ⟨#[]⟩, .int .i64 a, .int .i64 b]) ∧ Below w.heap.size w w' := by
  go_enter Tryz.func143, Tryz.ntmps143
  go_wp2
  exact bodyPost_ret (v := .agg #[.string ⟨#[]⟩, .int .i64 a, .int .i64 b]) (by simp [results, Tryz.results143, go_sem]) rfl ⟨rfl, (by repeat (first | exact (Below.refl _ _) | (refine Below.alloc ?_ (by first | omega | (simp; done) | (simp; omega)) _) | refine below_drewN ?_ _ | refine Below.drew ?_))⟩
def Cells3 (w : World) (B : Nat) (r : GRule) : Prop := w.cell? ⟨B, 0, none⟩ = some (.string r.letter) ∧ w.cell? ⟨B, 1, none⟩ = some (.int .i64 r.left) ∧ w.cell? ⟨B, 2, none⟩ = some (.int .i64 r.right) ∧ B < w.heap.size
theorem Cells3.below {w w' : World} {B N : Nat} {r : GRule} (h : Cells3 w B r) (hb : Below N w w') (hlt : B < N) : Cells3 w' B r :=
  ⟨(hb.cell (p := ⟨B, 0, none⟩) hlt).trans h.1, (hb.cell (p := ⟨B, 1, none⟩) hlt).trans h.2.1, (hb.cell (p := ⟨B, 2, none⟩) hlt).trans h.2.2.1, Nat.lt_of_lt_of_le h.2.2.2 hb.size⟩
theorem Cells3.kept {w w' : World} {B : Nat} {r : GRule} {row : Option Nat} (h : Cells3 w B r) (hg : w.grownBy w' row) (hne : some B ≠ row) : Cells3 w' B r :=
  ⟨(World.cell?_of_block (a := ⟨B, 0, none⟩) (hg.block B h.2.2.2 hne)).trans h.1, (World.cell?_of_block (a := ⟨B, 1, none⟩) (hg.block B h.2.2.2 hne)).trans h.2.1, (World.cell?_of_block (a := ⟨B, 2, none⟩) (hg.block B h.2.2.2 hne)).trans h.2.2.1, Nat.lt_of_lt_of_le h.2.2.2 hg.size⟩
theorem okRule_key {k : Nat} {r : GRule} (h : okRule k r = true) (hk : k ≤ 1099511627776) : KeyOk r := by
  cases hp : r.pair with
  | true =>
    have := okRule_at h hp
    exact ⟨okRule_small h, by omega, by omega⟩
  | false =>
    obtain ⟨h1, h2, h3⟩ := okRule_let h hp
    exact ⟨okRule_small h, by omega, by omega⟩
theorem step_push_ruleC {W : World} {ops : Array Oper} {o : Oper} {a : Act} {K : Act → World → Prop} {Q : Exit → Act → World → Prop} {E : Prop} (hgd : o.guard = none) (s x : Operand)
    (ho : o.op = .call { callee := .builtin .append, args := #[s, x], argTypes := #[24, 24] }) {r : GRule} {base : Nat} {v : Value} {l : List GRule}
    (hs : a.eval s = v) {N : Nat} (hx : a.eval x = .slice (some ⟨N, 0, none⟩) 1 1) (hc : Cells3 W N r) (hown : OwnRules W base v l) (hlen : l.length ≤ 1099511627775) (hbase : base ≤ W.heap.size)
    (h : ∀ v' w', OwnRules w' base v' (l ++ [r]) → W.grownBy w' v.ownBlock → (v'.ownBlock = v.ownBlock ∨ v'.ownBlock = some W.heap.size) → K (a.put o.dst v') w') :
    if Region.wanted o (yielded ops a.tmps) = true then Oper.wp Tryz.prog o a W K Q else E := by
  have hw : Region.wanted o (yielded ops a.tmps) = true := by simp [Region.wanted, hgd]
  rw [if_pos hw]
  obtain ⟨i0, hi0, hz0, hz1, hz2⟩ := info_parts Tryz.infoR
  obtain ⟨v', w', hrun, h2, h3, _, h5⟩ := run_append_own_at (P := Tryz.prog) W base 24 o.type 112 i0 _ 3 32 Tryz.underlying24 hi0 hz0 hz1 hz2 rfl (by decide) v _ _ hown ⟨N, 0, none⟩ 1 1 r.cells rfl
    (fun j u hu => by
      obtain ⟨c0, c1, c2, _⟩ := hc
      match j, hu with
      | 0, hu => simp [GRule.cells] at hu; subst hu; simpa [Addr.add] using c0
      | 1, hu => simp [GRule.cells] at hu; subst hu; simpa [Addr.add] using c1
      | 2, hu => simp [GRule.cells] at hu; subst hu; simpa [Addr.add] using c2
      | j + 3, hu => simp [GRule.cells] at hu) (by simp [GRule.cells, Value.oneCell']) (by simp only [maxLen]; omega) (by omega) hbase
  unfold Oper.wp execOp
  simp only [ho, resolve, invoke, builtin, Sem.run_bind, Sem.run_pure, Result.andThen_ok, List.map_toArray, List.map_cons, List.map_nil, hs, hx, hrun]
  exact h v' w' (by unfold OwnRules; simpa using h2) h3 h5
theorem keptc {W w' : World} {row : Option Nat} {N o : Nat} {u : Value} (hg : W.grownBy w' row) (hc : W.cell? ⟨N, o, none⟩ = some u) (hlt : N < W.heap.size) (hne : some N ≠ row) : w'.cell? ⟨N, o, none⟩ = some u :=
  (World.cell?_of_block (a := ⟨N, o, none⟩) (hg.block N hlt hne)).trans hc
theorem own_block {w : World} {base e s n : Nat} {v : Value} {xs : List Value} (h : w.ownsRow base e s v n xs) {g : Nat} (hg : v.ownBlock = some g) : ∃ cur, w.heap[g]? = some (.cells cur e (0, 0)) := by
  rcases h.2 with ⟨rfl, _⟩ | ⟨g', cap, cur, rfl, _, hb, _⟩
  · cases hg
  · have : g' = g := by simpa [Value.ownBlock] using hg
    subst this; exact ⟨cur, hb⟩
theorem own_apart {w : World} {base base' e e' s s' n n' : Nat} {v v' : Value} {xs xs' : List Value} (h : w.ownsRow base e s v n xs) (h' : w.ownsRow base' e' s' v' n' xs') (hne : e ≠ e') : ∀ g, v.ownBlock = some g → some g ≠ v'.ownBlock := fun g hg hg' => by
  obtain ⟨c1, h1⟩ := own_block h hg
  obtain ⟨c2, h2⟩ := own_block h' hg'.symm
  rw [h1] at h2
  have := Option.some.inj h2
  injection this with _ h3; exact hne h3
theorem rmap_apart {w : World} {b base e s n : Nat} {v : Value} {xs : List Value} {ks : List GRule} (h : RMap w b ks) (h' : w.ownsRow base e s v n xs) : some b ≠ v.ownBlock := fun hb => by
  obtain ⟨c, h1⟩ := own_block h' hb.symm
  obtain ⟨es, clock, h2, _⟩ := h
  rw [h1] at h2; cases h2
structure T3 (w0 : World) (base bm bx : Nat) (X : GRule) (ks : List GRule) (W : World) (v4 : Value) (K : List GRule) (v6 : Value) (S : List Int) : Prop where
  below : Below base w0 W
  rows : OwnRules W base v4 K
  ints : OwnInts W base v6 S
  mp : RMap W bm ks
  box : Cells3 W bx X
  bxR : some bx ≠ v4.ownBlock
  bxI : some bx ≠ v6.ownBlock
  lb : base ≤ W.heap.size
section
variable {w0 W : World} {base bm bx : Nat} {X : GRule} {ks K : List GRule} {v4 v6 : Value} {S : List Int}
theorem T3.alloc (h : T3 w0 base bm bx X ks W v4 K v6 S) (o : Obj) : T3 w0 base bm bx X ks (W.alloc o) v4 K v6 S :=
  ⟨h.below.alloc h.lb _, h.rows.alloc _, h.ints.alloc _, h.mp.alloc _, h.box.below ((Below.refl W.heap.size W).alloc (Nat.le_refl _) o) h.box.2.2.2, h.bxR, h.bxI, by have := h.lb; simp; omega⟩
theorem T3.drew (h : T3 w0 base bm bx X ks W v4 K v6 S) : T3 w0 base bm bx X ks W.drew v4 K v6 S :=
  ⟨Below.drew h.below, h.rows, h.ints, h.mp, h.box, h.bxR, h.bxI, h.lb⟩
theorem T3.pushR (h : T3 w0 base bm bx X ks W v4 K v6 S) {w' : World} {v' : Value} {L : List GRule} (h1 : OwnRules w' base v' L) (hg : W.grownBy w' v4.ownBlock) (hv : v'.ownBlock = v4.ownBlock ∨ v'.ownBlock = some W.heap.size) : T3 w0 base bm bx X ks w' v' L v6 S :=
  ⟨h.below.grown hg h.lb (fun g hgg => (World.ownsRow.lt h.rows g hgg).1), h1, own_keep h.ints fun g hgg => hg.block g (World.ownsRow.lt h.ints g hgg).2 (own_apart h.ints h.rows (by decide) g hgg), h.mp.kept hg (rmap_apart h.mp h.rows), h.box.kept hg h.bxR,
    by rcases hv with e | e
       · rw [e]; exact h.bxR
       · rw [e]; intro e'; have := h.box.2.2.2; have : bx = W.heap.size := Option.some.inj e'; omega, h.bxI, Nat.le_trans h.lb hg.size⟩
theorem T3.pushI (h : T3 w0 base bm bx X ks W v4 K v6 S) {w' : World} {v' : Value} {L : List Int} (h1 : OwnInts w' base v' L) (hg : W.grownBy w' v6.ownBlock) (hv : v'.ownBlock = v6.ownBlock ∨ v'.ownBlock = some W.heap.size) : T3 w0 base bm bx X ks w' v4 K v' L :=
  ⟨h.below.grown hg h.lb (fun g hgg => (World.ownsRow.lt h.ints g hgg).1), own_keep h.rows fun g hgg => hg.block g (World.ownsRow.lt h.rows g hgg).2 (own_apart h.rows h.ints (by decide) g hgg), h1, h.mp.kept hg (rmap_apart h.mp h.ints), h.box.kept hg h.bxI, h.bxR,
    by rcases hv with e | e
       · rw [e]; exact h.bxI
       · rw [e]; intro e'; have := h.box.2.2.2; have : bx = W.heap.size := Option.some.inj e'; omega, Nat.le_trans h.lb hg.size⟩
theorem step_T3R {ops : Array Oper} {o : Oper} {a : Act} {KK : Act → World → Prop} {Q : Exit → Act → World → Prop} {E : Prop} (hgd : o.guard = none) (s x : Operand)
    (ho : o.op = .call { callee := .builtin .append, args := #[s, x], argTypes := #[24, 24] }) {r : GRule} {N : Nat}
    (hs : a.eval s = v4) (hx : a.eval x = .slice (some ⟨N, 0, none⟩) 1 1) (T : T3 w0 base bm bx X ks W v4 K v6 S) (hc : Cells3 W N r) (hlen : K.length ≤ 1099511627775)
    (h : ∀ v' w', T3 w0 base bm bx X ks w' v' (K ++ [r]) v6 S → W.grownBy w' v4.ownBlock → KK (a.put o.dst v') w') :
    if Region.wanted o (yielded ops a.tmps) = true then Oper.wp Tryz.prog o a W KK Q else E :=
  step_push_ruleC hgd s x ho hs hx hc T.rows hlen T.lb fun v' w' h1 h2 h3 => h v' w' (T.pushR h1 h2 h3) h2
theorem step_T3I {ops : Array Oper} {o : Oper} {a : Act} {KK : Act → World → Prop} {Q : Exit → Act → World → Prop} {E : Prop} (hgd : o.guard = none) (s x : Operand)
    (ho : o.op = .call { callee := .builtin .append, args := #[s, x], argTypes := #[117, 117] }) {y : Int} {N : Nat}
    (hs : a.eval s = v6) (hx : a.eval x = .slice (some ⟨N, 0, none⟩) 1 1) (T : T3 w0 base bm bx X ks W v4 K v6 S) (hc : W.cell? ⟨N, 0, none⟩ = some (.int .i64 y)) (hlen : S.length ≤ 1099511627775)
    (h : ∀ v' w', T3 w0 base bm bx X ks w' v4 K v' (S ++ [y]) → W.grownBy w' v6.ownBlock → KK (a.put o.dst v') w') :
    if Region.wanted o (yielded ops a.tmps) = true then Oper.wp Tryz.prog o a W KK Q else E :=
  step_push_int hgd s x ho hs hx hc T.ints (by omega) T.lb fun v' w' h1 h2 h3 => h v' w' (T.pushI h1 h2 h3) h2
end
theorem Cells3.new {W : World} {N : Nat} {r : GRule} (hN : N = W.heap.size) : Cells3 (W.alloc (.cells #[.string r.letter, .int .i64 r.left, .int .i64 r.right] 112)) N r := by
  subst hN
  refine ⟨?_, ?_, ?_, by simp⟩ <;> simp [go_sem]
theorem Cells3.alloc {W : World} {N : Nat} {r : GRule} (h : Cells3 W N r) (o : Obj) : Cells3 (W.alloc o) N r := h.below ((Below.refl W.heap.size W).alloc (Nat.le_refl _) o) h.2.2.2
theorem Cells3.drew {W : World} {N : Nat} {r : GRule} (h : Cells3 W N r) : Cells3 W.drew N r := h
def Cell1 (w : World) (B : Nat) (q : Int) : Prop := w.cell? ⟨B, 0, none⟩ = some (.int .i64 q) ∧ B < w.heap.size
theorem Cell1.new {W : World} {N : Nat} {q : Int} (hN : N = W.heap.size) : Cell1 (W.alloc (.cells #[.int .i64 q] 2)) N q := by
  subst hN
  exact ⟨by simp [go_sem], by simp⟩
theorem Cell1.alloc {W : World} {N : Nat} {q : Int} (h : Cell1 W N q) (o : Obj) : Cell1 (W.alloc o) N q :=
  ⟨(((Below.refl W.heap.size W).alloc (Nat.le_refl _) o).cell (p := ⟨N, 0, none⟩) h.2).trans h.1, by have := h.2; simp; omega⟩
theorem Cell1.drew {W : World} {N : Nat} {q : Int} (h : Cell1 W N q) : Cell1 W.drew N q := h
theorem Cell1.kept {w w' : World} {B : Nat} {q : Int} {row : Option Nat} (h : Cell1 w B q) (hg : w.grownBy w' row) (hne : some B ≠ row) : Cell1 w' B q := ⟨keptc hg h.1 h.2 hne, Nat.lt_of_lt_of_le h.2 hg.size⟩
theorem own_far {w : World} {base e s n : Nat} {v : Value} {xs : List Value} (h : w.ownsRow base e s v n xs) {N : Nat} (hN : w.heap.size ≤ N) : some N ≠ v.ownBlock := fun e => by
  have := (World.ownsRow.lt h N e.symm).2; omega
theorem T3.look {w0 W : World} {base bm bx : Nat} {X : GRule} {ks K : List GRule} {v4 v6 : Value} {S : List Int} (h : T3 w0 base bm bx X ks W v4 K v6 S) {r : GRule} (hk : KeyOk r) (hr : r ∈ ks) :
    (Instr.lookup 174 (.map (some bm)) (.agg #[.string r.letter, .int .i64 r.left, .int .i64 r.right]) false).run Tryz.prog W = .ok (.int .i64 (ks.idxOf r : Nat)) W := h.mp.yes hk hr false
def RowB (w : World) (b : Nat) (N : List Bool) : Prop := w.rowIs b 4 N.length fun i => .bool (N.getD i false)
def RowI (w : World) (b : Nat) (l : List Int) : Prop := w.rowIs b 2 l.length fun i => .int .i64 (l.getD i 0)
theorem RowB.made (w : World) (n : Nat) : RowB (w.alloc (.cells (madeCells #[.bool false] n) 4)) w.heap.size (List.replicate n false) := by
  have h := World.rowIs_made w (.bool false) n 4
  unfold RowB; rw [List.length_replicate]
  exact h.congr fun i hi => by simp [List.getD_eq_getElem?_getD, hi]
theorem RowI.made (w : World) (n : Nat) : RowI (w.alloc (.cells (madeCells #[.int .i64 0] n) 2)) w.heap.size (List.replicate n 0) := by
  have h := World.rowIs_made w (.int .i64 0) n 2
  unfold RowI; rw [List.length_replicate]
  exact h.congr fun i hi => by simp [List.getD_eq_getElem?_getD, hi]
section
variable {w w' : World} {b : Nat} {N : List Bool} {l : List Int}
theorem RowB.set (h : RowB w b N) (i : Nat) (x : Bool) : RowB (w.setCell ⟨b, i, none⟩ (.bool x)) b (N.set i x) := by
  have h2 := World.rowIs.set h i (.bool x)
  unfold RowB; rw [List.length_set]
  exact h2.congr fun j hj => by
    by_cases e : j = i
    · subst e; simp [List.getD_eq_getElem?_getD, hj]
    · simp [e, List.getD_eq_getElem?_getD, Ne.symm e]
theorem RowI.set (h : RowI w b l) (i : Nat) (x : Int) : RowI (w.setCell ⟨b, i, none⟩ (.int .i64 x)) b (l.set i x) := by
  have h2 := World.rowIs.set h i (.int .i64 x)
  unfold RowI; rw [List.length_set]
  exact h2.congr fun j hj => by
    by_cases e : j = i
    · subst e; simp [List.getD_eq_getElem?_getD, hj]
    · simp [e, List.getD_eq_getElem?_getD, Ne.symm e]
theorem RowB.lt (h : RowB w b N) : b < w.heap.size := World.rowIs.lt h
theorem RowI.lt (h : RowI w b l) : b < w.heap.size := World.rowIs.lt h
theorem RowB.cell (h : RowB w b N) {i : Nat} (hi : i < N.length) : w.cell? ⟨b, i, none⟩ = some (.bool (N.getD i false)) := World.rowIs.cell h hi
theorem RowI.cell (h : RowI w b l) {i : Nat} (hi : i < l.length) : w.cell? ⟨b, i, none⟩ = some (.int .i64 (l.getD i 0)) := World.rowIs.cell h hi
theorem RowB.frozen (h : RowB w b N) (i : Nat) : w.frozen? ⟨b, i, none⟩ = false := World.rowIs.frozen h i
theorem RowI.frozen (h : RowI w b l) (i : Nat) : w.frozen? ⟨b, i, none⟩ = false := World.rowIs.frozen h i
theorem RowB.alloc (h : RowB w b N) (o : Obj) : RowB (w.alloc o) b N := World.rowIs.alloc h o
theorem RowI.alloc (h : RowI w b l) (o : Obj) : RowI (w.alloc o) b l := World.rowIs.alloc h o
theorem RowB.drew (h : RowB w b N) : RowB w.drew b N := h
theorem RowI.drew (h : RowI w b l) : RowI w.drew b l := h
theorem RowB.below {M : Nat} (h : RowB w b N) (hb : Below M w w') (hlt : b < M) : RowB w' b N := World.rowIs.of_block h (hb.block b hlt)
theorem RowI.below {M : Nat} (h : RowI w b l) (hb : Below M w w') (hlt : b < M) : RowI w' b l := World.rowIs.of_block h (hb.block b hlt)
theorem RowI.kept {row : Option Nat} (h : RowI w b l) (hg : w.grownBy w' row) (hne : some b ≠ row) : RowI w' b l := World.rowIs.of_block h (hg.block b h.lt hne)
theorem RowI.other (h : RowI w b l) {c o : Nat} (hne : b ≠ c) (u : Value) : RowI (w.setCell ⟨c, o, none⟩ u) b l := World.rowIs.setOther h hne u
theorem RowI.not_row {base e s n : Nat} {v : Value} {xs : List Value} (h : RowI w b l) (h' : w.ownsRow base e s v n xs) (hne : 2 ≠ e) : some b ≠ v.ownBlock := fun hb => by
  obtain ⟨c, h1⟩ := own_block h' hb.symm
  obtain ⟨c2, h2, _⟩ := h
  rw [h1] at h2
  have := Option.some.inj h2
  injection this with _ h3; exact hne h3.symm
end
theorem boxed_other {W : World} {B B' o : Nat} {t : TypeId} {v : Value} (h : Boxed W B t v) (hne : B ≠ B') (u : Value) : Boxed (W.setCell ⟨B', o, none⟩ u) B t v := (Below.heap_setCell _ _ _ _ hne).trans h
theorem Boxed.of1 (w : World) (o : Obj) (t : TypeId) (v : Value) : Boxed ((w.alloc o).alloc (.cells #[v] t)).drew (w.heap.size + 1) t v := by
  have := Boxed.new (w.alloc o) t v
  rw [show (w.alloc o).heap.size = w.heap.size + 1 by simp] at this
  exact this
theorem RowI.of1 (w : World) (o : Obj) (n : Nat) : RowI ((w.alloc o).alloc (.cells (madeCells #[.int .i64 0] n) 2)).drew (w.heap.size + 1) (List.replicate n 0) := by
  have := RowI.made (w.alloc o) n
  rw [show (w.alloc o).heap.size = w.heap.size + 1 by simp] at this
  exact this
def nI (l : List Nat) : List Int := l.map Int.ofNat
theorem nI_append (a b : List Nat) : nI (a ++ b) = nI a ++ nI b := by simp [nI]
theorem nI_len (a : List Nat) : (nI a).length = a.length := by simp [nI]
def CJ (bc base : Nat) (C : Nat → Prop) (s : List Nat) (w : World) : Prop :=
  ∃ v, Boxed w bc 117 v ∧ OwnInts w base v (nI s) ∧ base ≤ w.heap.size ∧ ¬ C bc ∧ ∀ g, v.ownBlock = some g → ¬ C g
theorem CJ.ext {bc base : Nat} : ∀ (C : Nat → Prop) (s : List Nat) (w w' : World), CJ bc base C s w → Below w.heap.size w w' → (∀ b, C b → b < w.heap.size) → CJ bc base (ext C w.heap.size w'.heap.size) s w' := by
  rintro C s w w' ⟨v, hb, ho, hn, h1, h2⟩ hbl hC
  refine ⟨v, Boxed.up hb hbl hb.lt, ownsRow_below ho hbl, Nat.le_trans hn hbl.size, ?_, fun g hg => ?_⟩
  · rintro (h | h)
    · exact h1 h
    · have := hb.lt; omega
  · have := (World.ownsRow.lt ho g hg).2
    rintro (h | h)
    · exact h2 g hg h
    · omega
theorem list_push_int {W : World} {ops : Array Oper} {rest : List Oper} {o : Oper} {a : Act} {Q : Exit → Act → World → Prop} (hgd : o.guard = none) (s x : Operand)
    (ho : o.op = .call { callee := .builtin .append, args := #[s, x], argTypes := #[117, 117] }) {y : Int} {base : Nat} {v : Value} {l : List Int}
    (hs : a.eval s = v) {N : Nat} (hx : a.eval x = .slice (some ⟨N, 0, none⟩) 1 1) (hN : N = W.heap.size) (hown : OwnInts W base v l) (hlen : l.length ≤ 1099511627775) (hbase : base ≤ W.heap.size)
    (h : ∀ v' w', OwnInts w' base v' (l ++ [y]) → (W.alloc (.cells #[.int .i64 y] 2)).grownBy w' v.ownBlock → (v'.ownBlock = v.ownBlock ∨ v'.ownBlock = some (W.heap.size + 1)) → wpList Tryz.prog ops Q rest (a.put o.dst v') w') :
    wpList Tryz.prog ops Q (o :: rest) a (W.alloc (.cells #[.int .i64 y] 2)) :=
  wpList_plain hgd fun K hK => by
    subst hN
    have := step_push_int (E := True) (K := K) (ops := ops) (Q := Q) hgd s x ho hs hx (Cell1.new rfl).1 (hown.alloc _) (by omega) (by simp; omega) (fun v' w' h1 h2 h3 => hK _ _ (h v' w' h1 h2 (by simpa using h3)))
    rwa [if_pos (by simp [Region.wanted, hgd])] at this
theorem coverCl_any (bc base : Nat) (C : Nat → Prop) (s : List Nat) (r : Nat) (w : World) (hJ : CJ bc base C s w) (hs : s.length ≤ 1099511627775) (hC : ∀ b, C b → b < w.heap.size) :
    Calls Tryz.prog 152 #[.int .i64 r, .pointer (some ⟨bc, 0, none⟩)] w (TakePost (CJ bc base) C (s ++ [r]) w) := by
  obtain ⟨v, hb, ho, hn, h1, h2⟩ := hJ
  obtain ⟨A, c, rfl, _⟩ := own_nil ho
  have hcb := hb.cell
  have hlb := hb.lt
  have Hb := Lib.hid hb
  have Ho := Lib.hid ho
  have HL : Hid ((nI s).length ≤ 1099511627775) := by rw [Hid, nI_len]; exact hs
  have H1 := Lib.hid h1
  have H2 := Lib.hid h2
  have HC := Lib.hid hC
  clear hb ho h1 h2 hC hs
  go_enter Tryz.func152, Tryz.ntmps152
  go_wp2_with (first
    | (at_builtin; go_must (refine list_push_int (base := base) (v := .slice A (nI s).length c) (l := nI s) rfl _ _ rfl rfl rfl rfl Ho.out HL.out hn ?_); intro v2 w2 own2 hg2 hv2; obtain ⟨A2, c2, rfl, _⟩ := own_nil own2; have bx2 : Boxed w2 bc 117 _ := Boxed.grown Hb.out (by decide) Ho.out hg2; have hcb2 := bx2.cell; have hfb2 := bx2.frozen))
  go_end0
  have hsz : w.heap.size + 1 ≤ w2.heap.size := by have := hg2.size; simpa using this
  have hne : ∀ b, C b → some b ≠ (Value.slice A (nI s).length c).ownBlock := fun b hb e => H2.out b e.symm hb
  have el : (nI s).length + 1 = (nI s ++ [(r : Int)]).length := by simp
  rw [el]
  refine ⟨rfl, C, fun _ h => h, fun b hb => ?_, ⟨_, Boxed.set _ bx2, ?_, ?_, H1.out, fun g hg hCg => ?_⟩, ?_⟩
  · have := HC.out b hb; simp; omega
  · rw [nI_append]
    exact ownsRow_setCell_other (a := ⟨bc, 0, none⟩) own2 (bx2.not_row (by decide) own2).symm _
  · simp; omega
  · rcases hv2 with e | e
    · rw [e] at hg; exact H2.out g hg hCg
    · rw [e] at hg
      have := Option.some.inj hg
      have := HC.out g hCg
      omega
  · refine ⟨hg2.os, hg2.tape, hg2.output, by simp; omega, fun b hb => ?_⟩
    have hbl := HC.out b hb
    have hbc : b ≠ bc := fun e => H1.out (e ▸ hb)
    rw [Below.heap_setCell _ _ _ _ hbc]
    have := hg2.block b (by simp; omega) (hne b hb)
    rw [this]
    exact Below.heap_alloc _ _ _ hbl
end Go.Proofs.YtdacndamehiglaaGreatDoor
