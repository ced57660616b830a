import Derived.Test.YtfhiaifdigefdaaDoorM1
import Derived.Test.YtfhiaifdigefdaaDoorM3
import Derived.Test.YtfhiaifdigefdaaDoorM2
import Derived.Deep.RegionHeld3
import Derived.OrdersHeld
import Derived.StillTail
import Derived.Deep.CutRange
import Derived.Deep.DeepCutAuto
namespace Go.Proofs.YtfhiaifdigefdaaDoor
open Go.RowKit
def polP (b : Nat) (w : List UInt8) : Nat := w.foldl (fun a c => (a * b + c.toNat) % pF) 0
def powP (b n : Nat) : Nat := b ^ n % pF
theorem pF_pos : 0 < pF := by decide
theorem polP_lt (b : Nat) (w : List UInt8) : polP b w < pF := by
  unfold polP
  suffices H : ∀ (w : List UInt8) (a : Nat), a < pF → w.foldl (fun a c => (a * b + c.toNat) % pF) a < pF from H w 0 pF_pos
  intro w
  induction w with
  | nil => intro a h; exact h
  | cons c w ih => intro a _; exact ih _ (Nat.mod_lt _ pF_pos)
theorem powP_lt (b n : Nat) : powP b n < pF := Nat.mod_lt _ pF_pos
theorem powP_add (b m n : Nat) : powP b (m + n) = powP b m * powP b n % pF := by
  unfold powP
  rw [Nat.pow_add, ← Nat.mul_mod]
theorem powP_one {b : Nat} (h : b < pF) : powP b 1 = b := by
  unfold powP
  rw [Nat.pow_one, Nat.mod_eq_of_lt h]
theorem polP_fold (b : Nat) : ∀ (v : List UInt8) (a : Nat), v.foldl (fun a c => (a * b + c.toNat) % pF) (a % pF) = (a * powP b v.length + polP b v) % pF := by
  intro v
  induction v with
  | nil =>
    intro a
    show a % pF = (a * powP b 0 + 0) % pF
    have : powP b 0 = 1 := by unfold powP; rw [Nat.pow_zero]; decide
    rw [this, Nat.mul_one, Nat.add_zero]
  | cons c v ih =>
    intro a
    rw [List.foldl_cons]
    have e1 : (a % pF * b + c.toNat) % pF = (a * b + c.toNat) % pF := by
      rw [Nat.add_mod, Nat.mul_mod, Nat.mod_mod, ← Nat.mul_mod, ← Nat.add_mod]
    have e0 : polP b (c :: v) = (c.toNat * powP b v.length + polP b v) % pF := by
      unfold polP
      rw [List.foldl_cons, Nat.zero_mul, Nat.zero_add]
      exact ih c.toNat
    rw [e1, ih (a * b + c.toNat), e0, List.length_cons, Nat.add_comm v.length 1, powP_add]
    have e2 : a * (powP b 1 * powP b v.length % pF) % pF = a * b * powP b v.length % pF := by
      unfold powP
      rw [Nat.pow_one, ← Nat.mul_mod, Nat.mul_mod, Nat.mod_mod, ← Nat.mul_mod, ← Nat.mul_assoc, Nat.mul_mod _ (b ^ _ % pF), Nat.mod_mod, ← Nat.mul_mod]
    rw [Nat.add_mul, Nat.add_assoc, Nat.add_mod, Nat.add_mod (a * (powP b 1 * powP b v.length % pF)), e2, Nat.mod_mod]
theorem polP_app (b : Nat) (u v : List UInt8) : polP b (u ++ v) = (polP b u * powP b v.length % pF + polP b v) % pF := by
  have h := polP_fold b v (polP b u)
  rw [Nat.mod_eq_of_lt (polP_lt b u)] at h
  unfold polP at h ⊢
  rw [List.foldl_append, h]
  exact (Nat.mod_add_mod _ _ _).symm
theorem polP_one (b : Nat) (c : UInt8) : polP b [c] = c.toNat := by
  unfold polP
  have h : c.toNat < 256 := c.toNat_lt
  rw [List.foldl_cons, List.foldl_nil, Nat.zero_mul, Nat.zero_add, Nat.mod_eq_of_lt]
  unfold pF
  omega
def bA : Nat := 1234567890123456789
def bB : Nat := 987654321987654321
theorem bA_lt : bA < pF := by decide
theorem bB_lt : bB < pF := by decide
def prCells (p : Nat × Nat) : List Value := [.int .u64 (p.1 : Int), .int .u64 (p.2 : Int)]
def OwnPr (w : World) (base : Nat) (v : Value) (l : List (Nat × Nat)) : Prop := w.ownsRow base 103 2 v l.length (l.flatMap prCells)
theorem pr_at {l : List (Nat × Nat)} {k : Nat} {p : Nat × Nat} (h : l[k]? = some p) : (l.flatMap prCells)[k * 2]? = some (.int .u64 (p.1 : Int)) ∧ (l.flatMap prCells)[k * 2 + 1]? = some (.int .u64 (p.2 : Int)) := by
  induction l generalizing k with
  | nil => simp at h
  | cons x xs ih =>
    cases k with
    | zero => simp at h; subst h; exact ⟨rfl, rfl⟩
    | succ k =>
      have h2 : xs[k]? = some p := by simpa using h
      obtain ⟨i1, i2⟩ := ih h2
      rw [List.flatMap_cons]
      have e : (prCells x).length = 2 := rfl
      rw [List.getElem?_append_right (by rw [e]; omega), List.getElem?_append_right (by rw [e]; omega), e]
      exact ⟨by rw [show (k + 1) * 2 - 2 = k * 2 by omega]; exact i1, by rw [show (k + 1) * 2 + 1 - 2 = k * 2 + 1 by omega]; exact i2⟩
theorem OwnPr.cells {w : World} {base : Nat} {v : Value} {l : List (Nat × Nat)} (h : OwnPr w base v l) {k : Nat} {p : Nat × Nat} (hk : l[k]? = some p) :
    ∃ g cap, v = .slice (some ⟨g, 0, none⟩) l.length cap ∧ base ≤ g ∧ g < w.heap.size ∧ w.cell? ⟨g, k * 2, none⟩ = some (.int .u64 (p.1 : Int)) ∧ w.cell? ⟨g, k * 2 + 1, none⟩ = some (.int .u64 (p.2 : Int)) := by
  have hl : k < l.length := (List.getElem?_eq_some_iff.1 hk).1
  obtain ⟨g, cap, rfl, hb, hg, _, hc⟩ := own_form h (by omega)
  obtain ⟨p1, p2⟩ := pr_at hk
  exact ⟨g, cap, rfl, hb, hg, hc _ _ p1, hc _ _ p2⟩
def mkOf (xs : List GRule) (k : Nat) : Nat × Nat := (polP bA (W1 xs k), polP bB (W1 xs k))
def stOf (xs : List GRule) (k : Nat) : Nat × Nat := (powP bA (W1 xs k).length, powP bB (W1 xs k).length)
def mksL (xs : List GRule) (n : Nat) : List (Nat × Nat) := (List.range n).map (mkOf xs)
def stsL (xs : List GRule) (n : Nat) : List (Nat × Nat) := (List.range n).map (stOf xs)
theorem mks_len (xs : List GRule) (n : Nat) : (mksL xs n).length = n := by simp [mksL]
theorem sts_len (xs : List GRule) (n : Nat) : (stsL xs n).length = n := by simp [stsL]
theorem mks_at {xs : List GRule} {n k : Nat} (h : k < n) : (mksL xs n)[k]? = some (mkOf xs k) := by simp [mksL, List.getElem?_range h]
theorem sts_at {xs : List GRule} {n k : Nat} (h : k < n) : (stsL xs n)[k]? = some (stOf xs k) := by simp [stsL, List.getElem?_range h]
theorem mks_succ (xs : List GRule) (n : Nat) : mksL xs (n + 1) = mksL xs n ++ [mkOf xs n] := by simp [mksL, List.range_succ]
theorem sts_succ (xs : List GRule) (n : Nat) : stsL xs (n + 1) = stsL xs n ++ [stOf xs n] := by simp [stsL, List.range_succ]
theorem mk_pair {xs : List GRule} {ls : List Int} (h : lens xs = some ls) {k : Nat} (hk : k < xs.length) (hp : (getR xs k).pair = true) :
    mkOf xs k = (((mkOf xs (getR xs k).left.toNat).1 * (stOf xs (getR xs k).right.toNat).1 % pF + (mkOf xs (getR xs k).right.toNat).1) % pF, ((mkOf xs (getR xs k).left.toNat).2 * (stOf xs (getR xs k).right.toNat).2 % pF + (mkOf xs (getR xs k).right.toNat).2) % pF) := by
  unfold mkOf stOf
  rw [W1_pair h hk hp, polP_app, polP_app]
theorem st_pair {xs : List GRule} {ls : List Int} (h : lens xs = some ls) {k : Nat} (hk : k < xs.length) (hp : (getR xs k).pair = true) :
    stOf xs k = ((stOf xs (getR xs k).left.toNat).1 * (stOf xs (getR xs k).right.toNat).1 % pF, (stOf xs (getR xs k).left.toNat).2 * (stOf xs (getR xs k).right.toNat).2 % pF) := by
  unfold stOf
  rw [W1_pair h hk hp, List.length_append, powP_add, powP_add]
theorem mk_let {xs : List GRule} {k : Nat} {c : UInt8} (hp : (getR xs k).pair = false) (hc : (getR xs k).letter = ⟨#[c]⟩) : mkOf xs k = (c.toNat, c.toNat) ∧ stOf xs k = (bA, bB) := by
  have hw : W1 xs k = [c] := by rw [W1_let hp, hc]
  unfold mkOf stOf
  rw [hw, polP_one, polP_one]
  exact ⟨rfl, by rw [List.length_singleton, powP_one bA_lt, powP_one bB_lt]⟩
theorem mk_lt (xs : List GRule) (k : Nat) : (mkOf xs k).1 < pF ∧ (mkOf xs k).2 < pF := ⟨polP_lt _ _, polP_lt _ _⟩
theorem st_lt (xs : List GRule) (k : Nat) : (stOf xs k).1 < pF ∧ (stOf xs k).2 < pF := ⟨powP_lt _ _, powP_lt _ _⟩
theorem bases_any (w : World) : Calls Tryd.prog 64 #[] w fun e w' => Below w.heap.size w w' ∧ e = .returned (.agg #[.int .u64 1234567890123456789, .int .u64 987654321987654321]) := by
  go_enter Tryd.func64, Tryd.ntmps64
  go_wp2_with fail
  exact bodyPost_ret (v := .agg #[.int .u64 1234567890123456789, .int .u64 987654321987654321]) (by simp [results, Tryd.results64, go_sem]) rfl ⟨(Below.refl _ _).alloc (Nat.le_refl _) _, rfl⟩
theorem Tryd.infoPr : (Tryd.prog.info? 103).map (fun i => (i.zero, i.size, i.bytes)) = some (some (.agg #[.int .u64 0, .int .u64 0]), 2, 16) := by kernel_rfl
theorem step_push_pr {W : World} {ops : Array Oper} {o : Oper} {a : Act} {K : Act → World → Prop} {Q : Exit → Act → World → Prop} {E : Prop} (hgd : o.guard = none) (s x : Operand)
    (ho : o.op = .call { callee := .builtin .append, args := #[s, x], argTypes := #[99, 99] }) {p : Nat × Nat} {base n c N : Nat} {A : Option Addr} {l : List (Nat × Nat)}
    (hs : a.eval s = .slice A n c) (hx : a.eval x = .slice (some ⟨N, 0, none⟩) 1 1) (hN : W.heap[N]? = some (.cells #[.int .u64 (p.1 : Int), .int .u64 (p.2 : Int)] 103 (0, 0))) (hn : n = l.length) (hown : OwnPr W base (.slice A n c) l) (hlen : l.length ≤ 1048576) (hbase : base ≤ W.heap.size)
    (h : ∀ A' c' w', OwnPr w' base (.slice A' (n + 1) c') (l ++ [p]) → ((Value.slice A' (n + 1) c').ownBlock = (Value.slice A n c).ownBlock ∨ ∃ g, (Value.slice A' (n + 1) c').ownBlock = some g ∧ W.heap.size ≤ g) → W.grownBy w' (Value.slice A n c).ownBlock → Below base W w' → K (a.put o.dst (.slice A' (n + 1) c')) w') :
    if Region.wanted o (yielded ops a.tmps) = true then Oper.wp Tryd.prog o a W K Q else E := by
  subst hn
  have hw : Region.wanted o (yielded ops a.tmps) = true := by simp [Region.wanted, hgd]
  rw [if_pos hw]
  obtain ⟨i0, hi0, hz0, hz1, hz2⟩ := info_parts Tryd.infoPr
  obtain ⟨v', w', hrun, k1, k2, _, k3⟩ := run_append_own_at (P := Tryd.prog) W base 99 o.type 103 i0 _ 2 16 Tryd.underlying99 hi0 hz0 hz1 hz2 rfl (by decide) (.slice A l.length c) l.length _ hown ⟨N, 0, none⟩ 1 1 (prCells p) rfl
    (fun j y hy => by
      have : W.cell? ⟨N, j, none⟩ = (#[Value.int .u64 (p.1 : Int), .int .u64 (p.2 : Int)] : Array Value)[j]? := cell_of_row _ _ _ _ 103 (0, 0) hN
      have ha : (⟨N, 0, none⟩ : Addr).add j = ⟨N, j, none⟩ := by unfold Addr.add; split <;> simp_all
      rw [ha, this]; simpa [prCells] using hy) (by simp [prCells, Value.oneCell']) (by simp only [maxLen]; omega) (by omega) hbase
  unfold Oper.wp execOp
  simp only [ho, resolve, invoke, builtin, Sem.run_bind, Sem.run_pure, Result.andThen_ok, List.map_toArray, List.map_cons, List.map_nil, hs, hx, hrun]
  have k1' : OwnPr w' base v' (l ++ [p]) := by
    unfold OwnPr
    simpa [prCells] using k1
  obtain ⟨A', c', rfl, _⟩ := own_nil k1'
  have el : (l ++ [p]).length = l.length + 1 := by simp
  rw [el] at k1' k3 ⊢
  refine h A' c' w' k1' ?_ k2 ((Below.refl base W).grown k2 hbase (fun y hy => (World.ownsRow.lt hown y hy).1))
  rcases k3 with k3 | k3
  · exact .inl k3
  · exact .inr ⟨_, k3, Nat.le_refl _⟩
structure WvSt (w wx : World) (P : Nat) (vR vL : Value) (xs : List GRule) (ls : List Int) (k : Nat) (AM : Option Addr) (cM : Nat) (AS : Option Addr) (cS : Nat) : Prop where
  bel : Below w.heap.size w wx
  box : Blk wx P #[vR, vL, .slice AM k cM, .slice AS k cS] 101
  len : OwnInts wx w.heap.size vL ls
  low : ∀ g, vL.ownBlock = some g → g < P
  mrk : OwnPr wx (P + 1) (.slice AM k cM) (mksL xs k)
  stp : OwnPr wx (P + 1) (.slice AS k cS) (stsL xs k)
  ne : ∀ g, (Value.slice AM k cM).ownBlock = some g → (Value.slice AS k cS).ownBlock ≠ some g
theorem WvSt.up {w wx w' : World} {P : Nat} {vR vL : Value} {xs : List GRule} {ls : List Int} {k : Nat} {AM AS : Option Addr} {cM cS : Nat} (h : WvSt w wx P vR vL xs ls k AM cM AS cS) (hb : Below wx.heap.size wx w') : WvSt w w' P vR vL xs ls k AM cM AS cS :=
  ⟨Below.tr h.bel hb, h.box.up hb, ownsRow_below h.len hb, h.low, ownsRow_below h.mrk hb, ownsRow_below h.stp hb, h.ne⟩
theorem pair_empty (rs : ByteArray) (rl rr : Int) : (⟨rs, rl, rr⟩ : GRule).pair = rs.toList.isEmpty := by
  rw [ByteArray.toList_eq]
  obtain ⟨⟨l⟩⟩ := rs
  cases l with
  | nil => rfl
  | cons x t => rfl
theorem let_byte {s : ByteArray} (h : isLet s = true) : ∃ c, s = ⟨#[c]⟩ := by
  have h1 := isLet_size h
  obtain ⟨⟨l⟩⟩ := s
  have hl : l.length = 1 := h1
  obtain ⟨c, rfl⟩ := List.length_eq_one_iff.1 hl
  exact ⟨c, rfl⟩
def prB (w : World) (b : Nat) (p : Nat × Nat) : Prop := Blk w b #[.int .u64 (p.1 : Int), .int .u64 (p.2 : Int)] 103
def WeavePost (xs : List GRule) (vR : Value) (w : World) (e : Ending) (w' : World) : Prop :=
  ∃ P ls vL AM cM AS cS, e = .returned (.tuple #[.pointer (some ⟨P, 0, none⟩), .bool true]) ∧ lens xs = some ls ∧ w.heap.size ≤ P ∧ WvSt w w' P vR vL xs ls xs.length AM cM AS cS
structure CI (w : World) (p : Addr) (v : Value) : Prop where
  c : w.cell? p = some v
  lt : p.block < w.heap.size
theorem CI.up {w W : World} {p : Addr} {v : Value} (h : CI w p v) (hb : Below w.heap.size w W) : W.cell? p = some v := (hb.cell h.lt).trans h.c
theorem Blk.ci {w : World} {b : Nat} {a : Array Value} {t : TypeId} (h : Blk w b a t) {i : Nat} {v : Value} (hi : a[i]? = some v) : CI w ⟨b, i, none⟩ v := ⟨h.cell hi, h.lt⟩
theorem keepN7 {w W : World} {p1 p2 p3 p4 p5 p6 p7 : Addr} {v1 v2 v3 v4 v5 v6 v7 : Value} (h1 : CI w p1 v1) (h2 : CI w p2 v2) (h3 : CI w p3 v3) (h4 : CI w p4 v4) (h5 : CI w p5 v5) (h6 : CI w p6 v6) (h7 : CI w p7 v7) (hb : Below w.heap.size w W) : Below w.heap.size w W ∧ W.cell? p1 = some v1 ∧ W.cell? p2 = some v2 ∧ W.cell? p3 = some v3 ∧ W.cell? p4 = some v4 ∧ W.cell? p5 = some v5 ∧ W.cell? p6 = some v6 ∧ W.cell? p7 = some v7 :=
  ⟨hb, h1.up hb, h2.up hb, h3.up hb, h4.up hb, h5.up hb, h6.up hb, h7.up hb⟩
theorem keepN10 {w W : World} {p1 p2 p3 p4 p5 p6 p7 p8 p9 p10 : Addr} {v1 v2 v3 v4 v5 v6 v7 v8 v9 v10 : Value} (h1 : CI w p1 v1) (h2 : CI w p2 v2) (h3 : CI w p3 v3) (h4 : CI w p4 v4) (h5 : CI w p5 v5) (h6 : CI w p6 v6) (h7 : CI w p7 v7) (h8 : CI w p8 v8) (h9 : CI w p9 v9) (h10 : CI w p10 v10) (hb : Below w.heap.size w W) : Below w.heap.size w W ∧ W.cell? p1 = some v1 ∧ W.cell? p2 = some v2 ∧ W.cell? p3 = some v3 ∧ W.cell? p4 = some v4 ∧ W.cell? p5 = some v5 ∧ W.cell? p6 = some v6 ∧ W.cell? p7 = some v7 ∧ W.cell? p8 = some v8 ∧ W.cell? p9 = some v9 ∧ W.cell? p10 = some v10 :=
  ⟨hb, h1.up hb, h2.up hb, h3.up hb, h4.up hb, h5.up hb, h6.up hb, h7.up hb, h8.up hb, h9.up hb, h10.up hb⟩
theorem OwnPr.two {w : World} {base n c : Nat} {A : Option Addr} {l : List (Nat × Nat)} (h : OwnPr w base (.slice A n c) l) {i j : Nat} {p q : Nat × Nat} (hi : l[i]? = some p) (hj : l[j]? = some q) :
    ∃ g, A = some ⟨g, 0, none⟩ ∧ CI w ⟨g, i * 2, none⟩ (.int .u64 (p.1 : Int)) ∧ CI w ⟨g, i * 2 + 1, none⟩ (.int .u64 (p.2 : Int)) ∧ CI w ⟨g, j * 2, none⟩ (.int .u64 (q.1 : Int)) ∧ CI w ⟨g, j * 2 + 1, none⟩ (.int .u64 (q.2 : Int)) := by
  obtain ⟨g, cap, e, _, hg, h1, h2⟩ := h.cells hi
  obtain ⟨g', cap', e', _, _, h3, h4⟩ := h.cells hj
  injection e with e1 _ _
  injection e' with e1' _ _
  subst e1
  injection e1' with e2
  injection e2 with e3
  subst e3
  exact ⟨g, rfl, ⟨h1, hg⟩, ⟨h2, hg⟩, ⟨h3, hg⟩, ⟨h4, hg⟩⟩
structure Psh (w W : World) (P M0 : Nat) (bx : Array Value) (vL : Value) (ls : List Int) (m s : Nat × Nat) (vM vS : Value) (lM lS : List (Nat × Nat)) : Prop where
  bel : Below w.heap.size w W
  hP : w.heap.size ≤ P
  box : Blk W P bx 101
  len : OwnInts W w.heap.size vL ls
  low : ∀ g, vL.ownBlock = some g → g < P
  pm : Blk W M0 #[.int .u64 (m.1 : Int), .int .u64 (m.2 : Int)] 103
  ps : Blk W (M0 + 1) #[.int .u64 (s.1 : Int), .int .u64 (s.2 : Int)] 103
  mrk : OwnPr W (P + 1) vM lM
  stp : OwnPr W (P + 1) vS lS
  ne : ∀ g, vM.ownBlock = some g → vS.ownBlock ≠ some g
  nm : ∀ g, vM.ownBlock = some g → g ≠ M0 ∧ g ≠ M0 + 1
  ns : ∀ g, vS.ownBlock = some g → g ≠ M0 ∧ g ≠ M0 + 1
section
variable {w W W' : World} {P M0 : Nat} {bx : Array Value} {vL : Value} {ls : List Int} {m s : Nat × Nat} {vM vS v' : Value} {lM lS l' : List (Nat × Nat)}
theorem Psh.up (h : Psh w W P M0 bx vL ls m s vM vS lM lS) (hb : Below W.heap.size W W') : Psh w W' P M0 bx vL ls m s vM vS lM lS :=
  ⟨Below.tr h.bel hb, h.hP, h.box.up hb, ownsRow_below h.len hb, h.low, h.pm.up hb, h.ps.up hb, ownsRow_below h.mrk hb, ownsRow_below h.stp hb, h.ne, h.nm, h.ns⟩
theorem Psh.drew (h : Psh w W P M0 bx vL ls m s vM vS lM lS) : Psh w W.drew P M0 bx vL ls m s vM vS lM lS := h.up (Below.drew (Below.refl _ _))
theorem Psh.alloc (h : Psh w W P M0 bx vL ls m s vM vS lM lS) (o : Obj) : Psh w (W.alloc o) P M0 bx vL ls m s vM vS lM lS := h.up (Below.alloc (Below.refl _ _) (Nat.le_refl _) o)
theorem Psh.cells {vR : Value} {AM AS : Option Addr} {n c c' : Nat} (h : Psh w W P M0 #[vR, vL, .slice AM n c, .slice AS n c'] vL ls m s vM vS lM lS) : W.cell? ⟨P, 2, none⟩ = some (.slice AM n c) ∧ W.cell? ⟨P, 3, none⟩ = some (.slice AS n c') ∧ W.cell? ⟨M0, 0, none⟩ = some (.int .u64 (m.1 : Int)) ∧ W.cell? ⟨M0, 1, none⟩ = some (.int .u64 (m.2 : Int)) ∧ W.cell? ⟨M0 + 1, 0, none⟩ = some (.int .u64 (s.1 : Int)) ∧ W.cell? ⟨M0 + 1, 1, none⟩ = some (.int .u64 (s.2 : Int)) :=
  ⟨h.box.cell rfl, h.box.cell rfl, h.pm.cell rfl, h.pm.cell rfl, h.ps.cell rfl, h.ps.cell rfl⟩
theorem Psh.push1 (h : Psh w W P M0 bx vL ls m s vM vS lM lS) (ho : OwnPr W' (P + 1) v' l') (hv : v'.ownBlock = vM.ownBlock ∨ ∃ g, v'.ownBlock = some g ∧ W.heap.size ≤ g) (hg : W.grownBy W' vM.ownBlock) (hb : Below (P + 1) W W') :
    Psh w W' P M0 bx vL ls m s v' vS l' lS := by
  have hM := h.pm.lt
  have hS := h.ps.lt
  have hb2 : Below w.heap.size W W' := hb.mono (by have := h.hP; omega)
  have hne : ∀ g, v'.ownBlock = some g → vS.ownBlock ≠ some g := by
    intro g e
    rcases hv with hv | ⟨g2, e2, h2⟩
    · rw [hv] at e
      exact h.ne g e
    · rw [e] at e2; cases e2
      intro e3
      exact absurd (World.ownsRow.lt h.stp g e3).2 (by omega)
  have hnn : ∀ g, v'.ownBlock = some g → g ≠ M0 ∧ g ≠ M0 + 1 := by
    intro g e
    rcases hv with hv | ⟨g2, e2, h2⟩
    · rw [hv] at e; exact h.nm g e
    · rw [e] at e2; cases e2; omega
  have hmm : Blk W' M0 #[.int .u64 (m.1 : Int), .int .u64 (m.2 : Int)] 103 := (hg.block M0 hM (fun e => (h.nm M0 e.symm).1 rfl)).trans h.pm
  have hss : Blk W' (M0 + 1) #[.int .u64 (s.1 : Int), .int .u64 (s.2 : Int)] 103 := (hg.block (M0 + 1) hS (fun e => (h.nm (M0 + 1) e.symm).2 rfl)).trans h.ps
  have hoo : OwnPr W' (P + 1) vS lS := own_keep h.stp (fun g e => hg.block g (World.ownsRow.lt h.stp g e).2 (fun e3 => h.ne g e3.symm e))
  have hl : OwnInts W' w.heap.size vL ls := own_keep h.len (fun g e => hb.block g (by have := h.low g e; omega))
  exact ⟨h.bel.trans hb2, h.hP, h.box.upB hb (Nat.lt_succ_self _), hl, h.low, hmm, hss, ho, hoo, hne, hnn, h.ns⟩
theorem Psh.push2 (h : Psh w W P M0 bx vL ls m s vM vS lM lS) (ho : OwnPr W' (P + 1) v' l') (hv : v'.ownBlock = vS.ownBlock ∨ ∃ g, v'.ownBlock = some g ∧ W.heap.size ≤ g) (hg : W.grownBy W' vS.ownBlock) (hb : Below (P + 1) W W') :
    Psh w W' P M0 bx vL ls m s vM v' lM l' := by
  have hM := h.pm.lt
  have hS := h.ps.lt
  have hb2 : Below w.heap.size W W' := hb.mono (by have := h.hP; omega)
  have hne : ∀ g, v'.ownBlock = some g → vM.ownBlock ≠ some g := by
    intro g e
    rcases hv with hv | ⟨g2, e2, h2⟩
    · rw [hv] at e
      exact fun e3 => h.ne g e3 e
    · rw [e] at e2; cases e2
      intro e3
      exact absurd (World.ownsRow.lt h.mrk g e3).2 (by omega)
  have hnn : ∀ g, v'.ownBlock = some g → g ≠ M0 ∧ g ≠ M0 + 1 := by
    intro g e
    rcases hv with hv | ⟨g2, e2, h2⟩
    · rw [hv] at e; exact h.ns g e
    · rw [e] at e2; cases e2; omega
  have hmm : Blk W' M0 #[.int .u64 (m.1 : Int), .int .u64 (m.2 : Int)] 103 := (hg.block M0 hM (fun e => (h.ns M0 e.symm).1 rfl)).trans h.pm
  have hss : Blk W' (M0 + 1) #[.int .u64 (s.1 : Int), .int .u64 (s.2 : Int)] 103 := (hg.block (M0 + 1) hS (fun e => (h.ns (M0 + 1) e.symm).2 rfl)).trans h.ps
  have hoo : OwnPr W' (P + 1) vM lM := own_keep h.mrk (fun g e => hg.block g (World.ownsRow.lt h.mrk g e).2 (fun e3 => h.ne g e e3.symm))
  have hl : OwnInts W' w.heap.size vL ls := own_keep h.len (fun g e => hb.block g (by have := h.low g e; omega))
  exact ⟨h.bel.trans hb2, h.hP, h.box.upB hb (Nat.lt_succ_self _), hl, h.low, hmm, hss, hoo, ho, fun g e e3 => hne g e3 e, h.nm, hnn⟩
theorem grown_kp (hg : W.grownBy W' vM.ownBlock) {N : Nat} (hN : ∀ g, vM.ownBlock = some g → g < N) : ∀ k o, N ≤ k → W.heap[k]? = some o → W'.heap[k]? = some o := fun k o hNk hk =>
  (hg.block k (Array.getElem?_eq_some_iff.1 hk).1 (fun e => absurd (hN k e.symm) (by omega))).trans hk
theorem pn_new {o : Obj} {k : Nat} (hk : k = W.heap.size) : (W.alloc o).heap[k]? = some o := by subst hk; exact heap_alloc_new W o
theorem pn_newD {o : Obj} {k : Nat} (hk : k = W.heap.size) : (W.alloc o).drew.heap[k]? = some o := by subst hk; exact heap_alloc_new W o
theorem pn_up {o o' : Obj} {k : Nat} (h : W.heap[k]? = some o) : (W.alloc o').heap[k]? = some o := (Below.heap_alloc W o' k (Array.getElem?_eq_some_iff.1 h).1).trans h
theorem Psh.done {vR : Value} {AM AS AM' AS' : Option Addr} {n n' c c' d d' : Nat} {xs : List GRule} (h : Psh w W P M0 #[vR, vL, .slice AM n c, .slice AS n c'] vL ls (mkOf xs n) (stOf xs n) (.slice AM' n' d) (.slice AS' n' d') (mksL xs n ++ [mkOf xs n]) (stsL xs n ++ [stOf xs n])) (hn : n' = n + 1) :
    WvSt w ((W.setCell ⟨P, 2, none⟩ (.slice AM' n' d)).setCell ⟨P, 3, none⟩ (.slice AS' n' d')) P vR vL xs ls (n + 1) AM' d AS' d' := by
  subst hn
  have hb : Below P W ((W.setCell ⟨P, 2, none⟩ (.slice AM' (n + 1) d)).setCell ⟨P, 3, none⟩ (.slice AS' (n + 1) d')) := ((Below.refl P W).setCell (p := ⟨P, 2, none⟩) (Nat.le_refl _) _).setCell (p := ⟨P, 3, none⟩) (Nat.le_refl _) _
  have hk : ∀ g, g ≠ P → ((W.setCell ⟨P, 2, none⟩ (.slice AM' (n + 1) d)).setCell ⟨P, 3, none⟩ (.slice AS' (n + 1) d')).heap[g]? = W.heap[g]? := fun g hg =>
    (Below.heap_setCell _ ⟨P, 3, none⟩ _ g hg).trans (Below.heap_setCell _ ⟨P, 2, none⟩ _ g hg)
  refine ⟨h.bel.trans (hb.mono h.hP), (h.box.set 2 _).set 3 _, own_keep h.len (fun g e => hk g (by have := h.low g e; omega)), h.low, ?_, ?_, h.ne⟩
  · rw [mks_succ]; exact own_keep h.mrk (fun g e => hk g (by have := (World.ownsRow.lt h.mrk g e).1; omega))
  · rw [sts_succ]; exact own_keep h.stp (fun g e => hk g (by have := (World.ownsRow.lt h.stp g e).1; omega))
end
open Go
section
variable {P : Program} {ops : Array Oper} {Q : Exit → Act → World → Prop} {md : Region.Mode} {S : World → Prop} {n : Nat}
def wpHL (P : Program) (md : Region.Mode) (ops : Array Oper) (Q : Exit → Act → World → Prop) (S : World → Prop) (n : Nat) (L : Array Bool → Act → World → Prop) : Nat → Array Bool → Act → World → Prop
  | 0, listed, a, w => L listed a w
  | f + 1, listed, a, w => Region.ready md ops listed ≠ [] ∧ ∀ i ∈ Region.ready md ops listed, i < n ∧ wpOp P ops Q i (fun a' w' => S w' ∧ wpHL P md ops Q S n L f (listed.setIfInBounds i true) a' w') a w
theorem wpAny_of_HL {g : Nat} {L : Array Bool → Act → World → Prop} (hL : ∀ listed a w, L listed a w → wpAny P md ops Q g listed a w) :
    ∀ (f : Nat) (listed : Array Bool) (a : Act) (w : World), wpHL P md ops Q S n L f listed a w → wpAny P md ops Q (f + g) listed a w
  | 0, listed, a, w, h => by rw [Nat.zero_add]; exact hL _ _ _ h
  | f + 1, listed, a, w, h => by
    rw [show f + 1 + g = (f + g) + 1 by omega]
    exact ⟨fun h0 => absurd h0 h.1, fun i hi => wpOp_mono (fun a' w' h' => wpAny_of_HL hL f _ a' w' h'.2) (h.2 i hi).2⟩
def sinkL (md : Region.Mode) (ops : Array Oper) (n : Nat) (l0 : Array Bool) : Bool :=
  (List.range n).all fun i => l0.getD i false || (List.range (n + 1)).any fun j => decide (i < j) && Region.waitsFor md ops j i
structure HInv (md : Region.Mode) (ops : Array Oper) (n : Nat) (l0 listed : Array Bool) : Prop where
  inv : HeadInv md ops n listed
  low : ∀ i, l0.getD i false = true → listed.getD i false = true
theorem HInv.set {n i : Nat} {l0 listed : Array Bool} (h : HInv md ops n l0 listed) (hi : i ∈ Region.ready md ops listed) (hin : i < n) : HInv md ops n l0 (listed.setIfInBounds i true) :=
  ⟨h.inv.set hi hin, fun k hk => getD_set_true (h.low k hk)⟩
theorem tail_waitsL {n : Nat} {l0 listed : Array Bool} (hs : sinkL md ops n l0 = true) (hc : Region.chainB md ops n = true) (hn : n < ops.size) (H : HInv md ops n l0 listed) :
    ∀ (d i : Nat), n - i = d → i < n → listed.getD i true = false → ∀ t, n ≤ t → t ∉ Region.ready md ops listed := by
  have inv := H.inv
  intro d
  induction d using Nat.strongRecOn with
  | _ d ih =>
    intro i hd hi hun t ht hr
    obtain ⟨_, ot, hot, hall⟩ := mem_ready.1 hr
    have htlt : t < ops.size := (Array.getElem?_eq_some_iff.1 hot).1
    by_cases htn : t = n
    · subst htn
      have h1 := List.all_eq_true.1 hs i (List.mem_range.2 hi)
      rw [Bool.or_eq_true] at h1
      rcases h1 with h1 | h1
      · have := H.low i h1
        rw [getD_both hun] at this
        cases this
      obtain ⟨j, hj, hj2⟩ := List.any_eq_true.1 h1
      simp only [Bool.and_eq_true, decide_eq_true_eq] at hj2
      obtain ⟨oj, hoj, e, he, hb, hon⟩ := Region.waitsFor_spec hj2.2
      have hjle : j ≤ t := by have := List.mem_range.1 hj; omega
      by_cases hjt : j = t
      · subst hjt
        have : oj = ot := Option.some.inj (hoj.symm.trans hot)
        subst this
        have h2 := hall e he hb
        rw [hon, getD_both hun] at h2
        cases h2
      · cases hl : listed.getD j false with
        | true =>
          have h2 := inv.closed j oj hoj hl e he hb
          rw [hon, getD_both hun] at h2
          cases h2
        | false =>
          have hjs : j < listed.size := by rw [inv.size]; omega
          exact ih (t - j) (by omega) j rfl (by omega) (getD_in hjs hl) t (Nat.le_refl _) hr
    · have h1 := List.all_eq_true.1 hc t (List.mem_range.2 htlt)
      simp only [Bool.or_eq_true, decide_eq_true_eq] at h1
      rcases h1 with h1 | h1
      · omega
      · obtain ⟨o', ho', e, he, hb, hon⟩ := Region.waitsFor_spec h1
        have : o' = ot := Option.some.inj (ho'.symm.trans hot)
        subst this
        have h2 := hall e he hb
        rw [hon, getD_both (inv.tail (t - 1) (by omega) (by omega))] at h2
        cases h2
theorem wpHL_first {i : Nat} {l0 : Array Bool} {oi : Oper} {v : Value} {L : Array Bool → Act → World → Prop} (hi : ops[i]? = some oi) (hsel : ∀ (j : Nat) (o : Oper) cs b, ops[j]? = some o → o.op ≠ .select cs b)
    (hs : sinkL md ops n l0 = true) (hc : Region.chainB md ops n = true) (hn : n < ops.size) (hin : i < n)
    (hdone : ∀ listed a w, L listed a w → ∀ j ∈ Region.ready md ops listed, n ≤ j) (hQ : ∀ c a w, Q (.panic c) (a.put oi.dst v) w → Q (.panic c) a w) :
    ∀ (f : Nat) (listed : Array Bool) (a : Act) (w : World), HInv md ops n l0 listed →
      (∀ j oj, ops[j]? = some oj → j ≠ i → listed.getD j true = false → (∀ e ∈ oj.after, Region.binds md e = true → e.on ≠ i) → oi.apart ops oj = true) →
      i ∈ Region.ready md ops listed → YieldsIf P ops S oi v a → S w →
      wpHL P md ops Q S n L f (listed.setIfInBounds i true) (a.put oi.dst v) w → wpHL P md ops Q S n L (f + 1) listed a w := by
  intro f
  induction f with
  | zero =>
    intro listed a w inv _ hr hy hS H
    have hun := (mem_ready.1 hr).1
    refine ⟨fun h => (by rw [h] at hr; cases hr), fun j hj => ?_⟩
    have hjn : j < n := by
      rcases Nat.lt_or_ge j n with h | h
      · exact h
      · exact absurd hj (tail_waitsL hs hc hn inv _ i rfl hin hun j h)
    refine ⟨hjn, ?_⟩
    by_cases hji : j = i
    · subst hji; exact hy.wpOp hi hS ⟨hS, H⟩
    · have := hdone _ _ _ H j (ready_mono hj hji)
      omega
  | succ f ih =>
    intro listed a w inv hfree hr hy hS H
    have hun := (mem_ready.1 hr).1
    refine ⟨fun h => (by rw [h] at hr; cases hr), fun j hj => ?_⟩
    have hjn : j < n := by
      rcases Nat.lt_or_ge j n with h | h
      · exact h
      · exact absurd hj (tail_waitsL hs hc hn inv _ i rfl hin hun j h)
    refine ⟨hjn, ?_⟩
    by_cases hji : j = i
    · subst hji; exact hy.wpOp hi hS ⟨hS, H⟩
    · have h1 := (H.2 j (ready_mono hj hji)).2
      obtain ⟨hjun, oj, hoj, hall⟩ := mem_ready.1 hj
      have hnot : ∀ e ∈ oj.after, Region.binds md e = true → e.on ≠ i := fun e he hb heq => by
        have h1 := hall e he hb
        rw [heq, getD_both hun] at h1
        cases h1
      have h2 := wpOp_putIf hoj (hfree j oj hoj hji hjun hnot) (fun cs b => hsel i oi cs b hi) (fun cs b => hsel j oj cs b hoj) hQ hy h1
      have hfree' : ∀ k ok, ops[k]? = some ok → k ≠ i → (listed.setIfInBounds j true).getD k true = false →
          (∀ e ∈ ok.after, Region.binds md e = true → e.on ≠ i) → oi.apart ops ok = true := fun k ok hk hki hun hno => by
        refine hfree k ok hk hki ?_ hno
        by_cases hjk : j = k
        · subst hjk; exact hjun
        · rw [getD_set_ne true hjk] at hun; exact hun
      refine wpOp_mono (fun a' w' h3 => ⟨h3.2.1, ih (listed.setIfInBounds j true) a' w' (inv.set hj hjn) hfree' (ready_mono hr (Ne.symm hji)) h3.1 h3.2.1 ?_⟩) h2
      rw [Array.setIfInBounds_comm _ _ hji]
      exact h3.2.2
def headB (md : Region.Mode) (ops : Array Oper) (n : Nat) (l0 listed : Array Bool) : Bool :=
  decide (listed.size = ops.size) && decide (l0.size = ops.size) && (List.range ops.size).all fun j => (!l0.getD j false || listed.getD j false) && (decide (j < n) || !listed.getD j true) && (!listed.getD j false || (match ops[j]? with
    | some o => o.after.all fun e => !Region.binds md e || listed.getD e.on false
    | none => true))
theorem headB_spec {l0 listed : Array Bool} (h : headB md ops n l0 listed = true) : HInv md ops n l0 listed := by
  unfold headB at h
  simp only [Bool.and_eq_true, decide_eq_true_eq, List.all_eq_true, List.mem_range, Bool.or_eq_true, Bool.not_eq_true'] at h
  refine ⟨⟨h.1.1, fun j oj hj hl e he hb => ?_, fun t ht hts => ?_⟩, fun i hi => ?_⟩
  · have hjs : j < ops.size := (Array.getElem?_eq_some_iff.1 hj).1
    have h2 := (h.2 j hjs).2
    rw [hj] at h2
    rcases h2 with h2 | h2
    · rw [h2] at hl; cases hl
    · have h3 := Array.all_eq_true_iff_forall_mem.1 h2 e he
      rw [hb] at h3
      simpa using h3
  · rcases (h.2 t hts).1.2 with h1 | h1
    · omega
    · exact h1
  · have his : i < ops.size := by
      rcases Nat.lt_or_ge i l0.size with h' | h'
      · have := h.1.2; omega
      · simp [Array.getElem?_eq_none h'] at hi
    rcases (h.2 i his).1.1 with h1 | h1
    · rw [h1] at hi; cases hi
    · exact h1
def TailL (md : Region.Mode) (ops : Array Oper) (g n : Nat) (K : Act → World → Prop) (listed : Array Bool) (a : Act) (w : World) : Prop := Region.seqB md ops g n listed = true ∧ K a w
def headsB (md : Region.Mode) (ops : Array Oper) (n : Nat) (l0 : Array Bool) : Bool := Region.noSelect ops && decide (n < ops.size) && sinkL md ops n l0 && Region.chainB md ops n
theorem wpHL_take (l0 : Array Bool) (i : Nat) (oi : Oper) (v : Value) {g f : Nat} {K : Act → World → Prop} {listed : Array Bool} {a : Act} {w : World} (hH : headsB md ops n l0 = true) (hi : ops[i]? = some oi)
    (hb : (decide (i < n) && headB md ops n l0 listed && Region.free md ops listed i && (Region.ready md ops listed).contains i) = true)
    (hQ : ∀ c a w, Q (.panic c) (a.put oi.dst v) w → Q (.panic c) a w) (hy : YieldsIf P ops S oi v a) (hS : S w)
    (h : wpHL P md ops Q S n (TailL md ops g n K) f (listed.setIfInBounds i true) (a.put oi.dst v) w) : wpHL P md ops Q S n (TailL md ops g n K) (f + 1) listed a w := by
  simp only [headsB, Bool.and_eq_true, decide_eq_true_eq] at hH hb
  exact wpHL_first hi (Region.noSelect_spec hH.1.1.1) hH.1.2 hH.2 hH.1.1.2 hb.1.1.1 (fun listed a w hL => seqB_ready hL.1) hQ f listed a w (headB_spec hb.1.1.2) (Region.free_spec hi hb.1.2) (by simpa using hb.2) hy hS h
theorem wpHL_takeV (l0 : Array Bool) (i : Nat) (oi : Oper) (v : Value) {g f : Nat} {K : Act → World → Prop} {listed : Array Bool} {a : Act} {w : World} (hH : headsB md ops n l0 = true) (hi : ops[i]? = some oi)
    (hb : (decide (i < n) && headB md ops n l0 listed && Region.free md ops listed i && (Region.ready md ops listed).contains i) = true)
    (hQ : ∀ c a w, Q (.panic c) (a.put oi.dst v) w → Q (.panic c) a w) (hw : Region.wanted oi (yielded ops a.tmps) = true) (hy : ∀ w, S w → (execOp a.eval oi).run P w = .ok (.value v) w) (hS : S w)
    (h : wpHL P md ops Q S n (TailL md ops g n K) f (listed.setIfInBounds i true) (a.put oi.dst v) w) : wpHL P md ops Q S n (TailL md ops g n K) (f + 1) listed a w :=
  wpHL_take l0 i oi v hH hi hb hQ (.inl ⟨hw, hy⟩) hS h
def AllReadyHL (P : Program) (md : Region.Mode) (ops : Array Oper) (Q : Exit → Act → World → Prop) (S : World → Prop) (n : Nat) (L : Array Bool → Act → World → Prop) (fuel : Nat) (listed : Array Bool) (a : Act) (w : World) (rs : List Nat) : Prop :=
  ∀ i ∈ rs, wpOp P ops Q i (fun a' w' => S w' ∧ wpHL P md ops Q S n L fuel (listed.setIfInBounds i true) a' w') a w
theorem AllReadyHL.nil {L : Array Bool → Act → World → Prop} {fuel : Nat} {listed : Array Bool} {a : Act} {w : World} : AllReadyHL P md ops Q S n L fuel listed a w [] := fun _ h => by cases h
theorem AllReadyHL.cons {L : Array Bool → Act → World → Prop} {fuel : Nat} {listed : Array Bool} {a : Act} {w : World} {i : Nat} {o : Oper} {rs : List Nat} (ho : ops[i]? = some o)
    (h : ∀ K' : Act → World → Prop, Shut (∀ a w, S w → (S w → wpHL P md ops Q S n L fuel (listed.setIfInBounds i true) a w) → K' a w) → if Region.wanted o (yielded ops a.tmps) = true then Oper.wp P o a w K' Q else K' (a.put o.dst undef) w)
    (hs : AllReadyHL P md ops Q S n L fuel listed a w rs) : AllReadyHL P md ops Q S n L fuel listed a w (i :: rs) := fun j hj => by
  rcases List.mem_cons.1 hj with rfl | hj
  · exact wpOp_step ho (fun K' hK => h K' (fun a w hS hW => hK a w ⟨hS, hW hS⟩))
  · exact hs j hj
theorem wpHL_ready (rs : List Nat) {L : Array Bool → Act → World → Prop} {fuel : Nat} {listed : Array Bool} {a : Act} {w : World} (hr : (decide (Region.ready md ops listed = rs) && decide (rs ≠ []) && rs.all fun i => decide (i < n)) = true)
    (h : AllReadyHL P md ops Q S n L fuel listed a w rs) : wpHL P md ops Q S n L (fuel + 1) listed a w := by
  simp only [Bool.and_eq_true, decide_eq_true_eq, List.all_eq_true] at hr
  exact ⟨hr.1.1 ▸ hr.1.2, fun i hi => ⟨hr.2 i (hr.1.1 ▸ hi), h i (hr.1.1 ▸ hi)⟩⟩
theorem wpHL_done {g : Nat} {K : Act → World → Prop} {listed : Array Bool} {a : Act} {w : World} (hB : Region.seqB md ops g n listed = true) (h : K a w) : wpHL P md ops Q S n (TailL md ops g n K) 0 listed a w := ⟨hB, h⟩
theorem wp_region_head {id : Nat} {a : Act} {w : World} {l : List Oper} (S : World → Prop) (n : Nat) (hm : P.follows .mixedOrders = true) (hB : decide (n < l.length) = true) (hS : S w.drew)
    (h : S w.drew → wpHL P .any l.toArray Q S n (TailL .any l.toArray (l.length - n) n (wpList P l.toArray Q (l.drop n))) n (Array.replicate l.toArray.size false) a w.drew) : (Code.region id l.toArray true).wp P Q a w := by
  have hn : n < l.length := by simpa using hB
  refine wp_region_any hm ?_
  have := wpAny_of_HL (P := P) (md := .any) (ops := l.toArray) (Q := Q) (S := S) (n := n) (g := l.length - n) (fun listed a' w' (hL : TailL .any l.toArray (l.length - n) n (wpList P l.toArray Q (l.drop n)) listed a' w') => by
    have := wpAny_of_seq (md := .any) (Q' := Q) (l.drop n) n listed a' w' (fun j => by simp [List.getElem?_drop]) (by rw [List.length_drop]; exact hL.1) hL.2
    rwa [List.length_drop] at this) n _ a w.drew (h hS)
  rw [show n + (l.length - n) = l.toArray.size by simp; omega] at this
  exact this
theorem wp_region_head1 {id : Nat} {a : Act} {w : World} {l : List Oper} (S : World → Prop) (n p : Nat) (op : Oper) (v : Value) (hm : P.follows .mixedOrders = true)
    (hB : (decide (n < l.length) && decide (0 < n) && Region.noSelect l.toArray && Region.free .any l.toArray (Array.replicate l.toArray.size false) p && (Region.ready .any l.toArray (Array.replicate l.toArray.size false)).contains p) = true) (hp : l.toArray[p]? = some op)
    (hQ : ∀ c a w, Q (.panic c) (a.put op.dst v) w → Q (.panic c) a w) (hw : Region.wanted op (yielded l.toArray a.tmps) = true) (hy : ∀ w, (execOp a.eval op).run P w = .ok (.value v) w) (hS : S w.drew)
    (h : S w.drew → wpHL P .any l.toArray Q S n (TailL .any l.toArray (l.length - n) n (wpList P l.toArray Q (l.drop n))) (n - 1) ((Array.replicate l.toArray.size false).setIfInBounds p true) (a.put op.dst v) w.drew) : (Code.region id l.toArray true).wp P Q a w := by
  simp only [Bool.and_eq_true, decide_eq_true_eq] at hB
  obtain ⟨⟨⟨⟨hn, hn0⟩, hsel⟩, hf⟩, hr⟩ := hB
  refine wp_region_any hm ?_
  have := wpAny_of_HL (P := P) (md := .any) (ops := l.toArray) (Q := Q) (S := S) (n := n) (g := l.length - n) (fun listed a' w' (hL : TailL .any l.toArray (l.length - n) n (wpList P l.toArray Q (l.drop n)) listed a' w') => by
    have := wpAny_of_seq (md := .any) (Q' := Q) (l.drop n) n listed a' w' (fun j => by simp [List.getElem?_drop]) (by rw [List.length_drop]; exact hL.1) hL.2
    rwa [List.length_drop] at this) (n - 1) _ _ w.drew (h hS)
  rw [show l.toArray.size = (n - 1 + (l.length - n)) + 1 by simp; omega]
  have e : Array.replicate ((n - 1 + (l.length - n)) + 1) false = Array.replicate l.toArray.size false := by
    congr 1; simp; omega
  rw [e]
  exact wpAny_take hp hsel hf hr hQ (.inl ⟨hw, hy⟩) this
end
set_option maxRecDepth 100000 in
set_option maxHeartbeats 8000000 in
theorem newWeave_any (v : Value) (xs : List GRule) (w : World) (h : Sl RuleE w w.heap.size v xs) (hg : gramOk xs = true) :
    Calls Tryd.prog 39 #[.agg #[v]] w (WeavePost xs v w) := by
  have HG := Lib.hid h
  have h4 := (gram_lens hg).1
  obtain ⟨AR, cR, rfl, hcR, hmR, _⟩ := h
  have ba := (Below.refl w.heap.size w).alloc (Nat.le_refl _) (Obj.cells #[.slice AR xs.length cR] 26)
  have HBA := Lib.hid ba
  have HKA := Lib.hid (Blk.new w #[.slice AR xs.length cR] 26)
  clear ba hcR hmR
  go_enter Tryd.func39, Tryd.ntmps39
  go_wp2_with fail
  refine (lengths_any _ xs _ (HG.out.up HBA.out) (by omega)).mono ?_
  rintro e w1 ⟨hb1, hpost⟩
  rcases hpost with ⟨ls, vL, hl, rfl, own⟩ | ⟨hl, rfl⟩
  · have h400 : decide (xs.length ≤ 400) = true := by simpa using h4
    rw [h400]
    have HLS := Lib.hid (lens_length hl)
    have HL := Lib.hid hl
    obtain ⟨AL, cL, rfl, _⟩ := own_nil own
    have HB1 := Lib.hid (Below.tr HBA.out hb1)
    have HK1 := Lib.hid (HKA.out.up hb1)
    have HO1 := Lib.hid (show OwnInts w1 w.heap.size (.slice AL ls.length cL) ls from ownsRow_more own (by simp))
    have xG := Blk.cell (i := 0) (v := .slice AR xs.length cR) HK1.out rfl
    have lG := HK1.out.lt
    have b2 := (Below.refl _ w1).alloc (Nat.le_refl _) (Obj.cells #[.slice AR xs.length cR, .slice AL ls.length cL, .slice none 0 0, .slice none 0 0] 101)
    have HST := Lib.hid (show WvSt w (w1.alloc (Obj.cells #[.slice AR xs.length cR, .slice AL ls.length cL, .slice none 0 0, .slice none 0 0] 101)) w1.heap.size (.slice AR xs.length cR) (.slice AL ls.length cL) xs ls 0 none 0 none 0 from
      ⟨Below.tr HB1.out b2, Blk.new _ _ _, ownsRow_below HO1.out b2, fun g hg => (World.ownsRow.lt HO1.out g hg).2, World.ownsRow_nil _ _ _ _, World.ownsRow_nil _ _ _ _, fun g hg => by simp [Value.ownBlock] at hg⟩)
    have HK2 := Lib.hid (HK1.out.up b2)
    have hzP := HB1.out.size
    clear own hb1 hl h400 b2 xG lG
    have xG := Blk.cell (i := 0) (v := .slice AR xs.length cR) HK1.out rfl
    have lG := HK1.out.lt
    go_upto_region 5 with fail
    revert HST HK2
    generalize (w1.alloc (Obj.cells #[.slice AR xs.length cR, .slice AL ls.length cL, .slice none 0 0, .slice none 0 0] 101)) = w2
    intro HST HK2
    obtain ⟨P, hP⟩ : ∃ P, w1.heap.size = P := ⟨_, rfl⟩
    rw [hP] at HST hzP
    rw [hP]
    clear xG lG
    have xG := Blk.cell (i := 0) (v := .slice AR xs.length cR) HK2.out rfl
    have lG := HK2.out.lt
    go_wp2_with fail
    go_loopw [26] (fun i wx => ∃ (k : Nat) (AM : Option Addr) (cM : Nat) (AS : Option Addr) (cS : Nat), k ≤ xs.length ∧ i = .int .i64 k ∧ Hid (WvSt w wx P (.slice AR xs.length cR) (.slice AL ls.length cL) xs ls k AM cM AS cS)) (fun i _ => xs.length - (intOf i).toNat)
    case atStart => exact ⟨0, none, 0, none, 0, Nat.zero_le _, rfl, HST⟩
    case round =>
      obtain ⟨k, AM, cM, AS, cS, hk, rfl, St⟩ := hrel
      by_cases hlt : k < xs.length
      · have hki : (k : Int) < (xs.length : Int) := by omega
        obtain ⟨_, _, ev, _, _, hrow⟩ := HG.out.up St.out.bel
        injection ev with e1 e2 e3
        subst e1 e3
        obtain ⟨b, o, rfl, hbl, hcell⟩ := hrow.rule (k := k) hlt
        obtain ⟨k0, k1, k2⟩ := hcell k _ (getR_at hlt)
        have HPA := Lib.hid (fun (hp : (getR xs k).pair = true) => lens_pair HL.out hlt hp)
        have HMP := Lib.hid (fun (hp : (getR xs k).pair = true) => mk_pair HL.out hlt hp)
        have HSP := Lib.hid (fun (hp : (getR xs k).pair = true) => st_pair HL.out hlt hp)
        have HLT := Lib.hid (fun (hp : (getR xs k).pair = false) => lens_isLet HL.out hlt hp)
        have HML := Lib.hid (fun (c : UInt8) (hp : (getR xs k).pair = false) (hc : (getR xs k).letter = ⟨#[c]⟩) => mk_let hp hc)
        generalize hR : getR xs k = R at *
        obtain ⟨rs, rl, rr⟩ := R
        have b4 := (Below.refl _ wr).alloc (Nat.le_refl _) (Obj.cells #[.string rs, .int .i64 rl, .int .i64 rr] 42)
        have HKR := Lib.hid (Blk.new wr #[.string rs, .int .i64 rl, .int .i64 rr] 42)
        have St4 := Lib.hid (St.out.up b4)
        clear b4 hcell hrow hR
        go_upto_region 8 with fail
        revert HKR St4
        generalize (wr.alloc (Obj.cells #[.string rs, .int .i64 rl, .int .i64 rr] 42)) = w4
        intro HKR St4
        obtain ⟨Rb, hRb⟩ : ∃ Rb, wr.heap.size = Rb := ⟨_, rfl⟩
        have hPR : P < Rb := by rw [← hRb]; exact St.out.box.lt
        rw [hRb] at HKR
        rw [hRb]
        clear k0 k1 k2 St
        go_wp2_with fail
        refine (bases_any _).mono ?_
        rintro e w5 ⟨hb5, rfl⟩
        have b6 := ((Below.refl _ w5).alloc (Nat.le_refl _) (Obj.cells #[.int .u64 0, .int .u64 0] 103)).alloc (by simp) (Obj.cells #[.int .u64 1234567890123456789, .int .u64 987654321987654321] 103)
        have b46 := Below.tr hb5 b6
        have St5 := Lib.hid (St4.out.up hb5)
        have HB56 := Lib.hid b6
        have HKR6 := Lib.hid (HKR.out.up b46)
        have St6 := Lib.hid (St4.out.up b46)
        have HKM6 := Lib.hid ((Blk.new w5 #[.int .u64 0, .int .u64 0] 103).alloc (Obj.cells #[.int .u64 1234567890123456789, .int .u64 987654321987654321] 103))
        have HKS6 := Lib.hid (show Blk ((w5.alloc (Obj.cells #[.int .u64 0, .int .u64 0] 103)).alloc (Obj.cells #[.int .u64 1234567890123456789, .int .u64 987654321987654321] 103)) (w5.heap.size + 1) #[.int .u64 1234567890123456789, .int .u64 987654321987654321] 103 by have := Blk.new (w5.alloc (Obj.cells #[.int .u64 0, .int .u64 0] 103)) #[.int .u64 1234567890123456789, .int .u64 987654321987654321] 103; simpa using this)
        have HKR5 := Lib.hid (HKR.out.up hb5)
        have hRM : Rb < w5.heap.size := Nat.lt_of_lt_of_le HKR.out.lt hb5.size
        clear hb5 b6 b46 HKR St4
        go_upto_region 9 with fail
        revert HB56 HKR6 St6 HKM6 HKS6
        generalize ((w5.alloc (Obj.cells #[.int .u64 0, .int .u64 0] 103)).alloc (Obj.cells #[.int .u64 1234567890123456789, .int .u64 987654321987654321] 103)) = w6
        intro HB56 HKR6 St6 HKM6 HKS6
        obtain ⟨M0, hM0⟩ : ∃ M0, w5.heap.size = M0 := ⟨_, rfl⟩
        have HM0 := Lib.hid hM0
        rw [hM0] at HKM6 HKS6 hRM HB56
        rw [hM0]
        have r0 := Blk.cell (i := 0) (v := .string rs) HKR6.out rfl
        have r1 := Blk.cell (i := 1) (v := .int .i64 rl) HKR6.out rfl
        have r2 := Blk.cell (i := 2) (v := .int .i64 rr) HKR6.out rfl
        have rL := HKR6.out.lt
        go_wp2_with fail
        refine (isPair_any rs rl rr _).mono ?_
        rintro e w7 ⟨rfl, hw7⟩
        have b7 : Below w6.heap.size w6 w7 := by rw [← hw7]; exact (Below.refl _ _).alloc (Nat.le_refl _) _
        have HB57 := Lib.hid (show Below M0 w5 w7 from HB56.out.trans (b7.mono (by have := HB56.out.size; have := HM0.out; omega)))
        have HKR7 := Lib.hid (HKR6.out.up b7)
        have St7 := Lib.hid (St6.out.up b7)
        have HKM7 := Lib.hid (HKM6.out.up b7)
        have HKS7 := Lib.hid (HKS6.out.up b7)
        clear r0 r1 r2 rL hw7 b7 HKR6 St6 HKM6 HKS6
        obtain ⟨bP, hbP⟩ : ∃ b, rs.toList.isEmpty = b := ⟨_, rfl⟩
        rw [hbP]
        have HBP := Lib.hid hbP
        clear hbP
        go_upto_if 33 with fail
        go_cut [11] from 34 to 84 (fun _ wx => WvSt w wx P (.slice (some ⟨b, o, none⟩) xs.length cR) (.slice AL ls.length cL) xs ls k AM cM AS cS ∧ prB wx M0 (mkOf xs k) ∧ prB wx (M0 + 1) (stOf xs k))
        case first =>
          cases bP with
          | false =>
            have hpf : (⟨rs, rl, rr⟩ : GRule).pair = false := by rw [pair_empty]; exact HBP.out
            obtain ⟨c, hc⟩ : ∃ c, rs = ⟨#[c]⟩ := let_byte (HLT.out hpf)
            obtain ⟨m1, m2⟩ := HML.out c hpf hc
            subst hc
            have HM := Lib.hid m1
            have HS := Lib.hid m2
            have r0 := Blk.cell (i := 0) (v := .string ⟨#[c]⟩) HKR7.out rfl
            have rL := HKR7.out.lt
            have f0 := Blk.frozen HKM7.out 0
            have f1 := Blk.frozen HKM7.out 1
            have g0 := Blk.cell (i := 0) HKM7.out rfl
            have g1 := Blk.cell (i := 1) HKM7.out rfl
            have gL := HKM7.out.lt
            have hcw : IntKind.u64.wrap (((⟨#[c]⟩ : ByteArray)[0]'(by show 0 < 1; omega)).toNat : Int) = (c.toNat : Int) := by
              have h256 : c.toNat < 256 := c.toNat_lt
              exact IntWalk.u64_in _ (by show 0 ≤ (c.toNat : Int) ∧ (c.toNat : Int) ≤ _; omega)
            clear m1 m2 hpf
            go_wp2_with fail
            go_meet
            try rw [hcw]
            have bb : Below M0 w7 ((w7.setCell ⟨M0, 0, none⟩ (.int .u64 (c.toNat : Int))).setCell ⟨M0, 1, none⟩ (.int .u64 (c.toNat : Int))) := ((Below.refl M0 w7).setCell (p := ⟨M0, 0, none⟩) (Nat.le_refl _) _).setCell (p := ⟨M0, 1, none⟩) (Nat.le_refl _) _
            refine ⟨St5.out.up (by rw [HM0.out]; exact HB57.out.trans bb), ?_, ?_⟩
            · rw [HM.out]; exact (HKM7.out.set 0 _).set 1 _
            · rw [HS.out]; exact Blk.other (Blk.other HKS7.out (p := ⟨M0, 0, none⟩) (by show M0 + 1 ≠ M0; omega) _) (p := ⟨M0, 1, none⟩) (by show M0 + 1 ≠ M0; omega) _
          | true =>
            have hpt : (⟨rs, rl, rr⟩ : GRule).pair = true := by rw [pair_empty]; exact HBP.out
            obtain ⟨l0, l1, r0', r1', _⟩ := HPA.out hpt
            obtain ⟨l, rfl⟩ : ∃ l : Nat, rl = (l : Int) := ⟨rl.toNat, (Int.toNat_of_nonneg l0).symm⟩
            obtain ⟨r, rfl⟩ : ∃ r : Nat, rr = (r : Int) := ⟨rr.toNat, (Int.toNat_of_nonneg r0').symm⟩
            have hlk : l < k := l1
            have hrk : r < k := r1'
            have hlI : (l : Int) < (k : Int) := by omega
            have hrI : (r : Int) < (k : Int) := by omega
            obtain ⟨g, rfl, a0, a1, a2, a3⟩ := OwnPr.two St5.out.mrk (mks_at hlk) (mks_at hrk)
            obtain ⟨g', rfl, b0, b1, b2, b3⟩ := OwnPr.two St5.out.stp (sts_at hlk) (sts_at hrk)
            have hM : mkOf xs k = (((mkOf xs l).1 * (stOf xs r).1 % pF + (mkOf xs r).1) % pF, ((mkOf xs l).2 * (stOf xs r).2 % pF + (mkOf xs r).2) % pF) := HMP.out hpt
            have hS : stOf xs k = ((stOf xs l).1 * (stOf xs r).1 % pF, (stOf xs l).2 * (stOf xs r).2 % pF) := HSP.out hpt
            obtain ⟨q1, q2⟩ := mk_lt xs l
            obtain ⟨q3, q4⟩ := mk_lt xs r
            obtain ⟨q5, q6⟩ := st_lt xs l
            obtain ⟨q7, q8⟩ := st_lt xs r
            generalize mkOf xs l = ml at a0 a1 hM q1 q2
            generalize mkOf xs r = mr at a2 a3 hM q3 q4
            generalize stOf xs l = sl at b0 b1 hS q5 q6
            generalize stOf xs r = sr at b2 b3 hM hS q7 q8
            obtain ⟨m1, m2⟩ := ml
            obtain ⟨n1, n2⟩ := mr
            obtain ⟨t1, t2⟩ := sl
            obtain ⟨s1, s2⟩ := sr
            have CT1 := fun W => times_any m1 m2 s1 s2 W q1 q2 q7 q8
            have CT2 := fun W => times_any t1 t2 s1 s2 W q5 q6 q7 q8
            have CP1 := fun W => plus_any (m1 * s1 % pF) (m2 * s2 % pF) n1 n2 W (Nat.mod_lt _ (by decide)) (Nat.mod_lt _ (by decide)) q3 q4
            have hM2 : mkOf xs k = ((m1 * s1 % pF + n1) % pF, (m2 * s2 % pF + n2) % pF) := hM
            have hS2 : stOf xs k = (t1 * s1 % pF, t2 * s2 % pF) := hS
            obtain ⟨x1, hx1⟩ : ∃ x, m1 * s1 % pF = x := ⟨_, rfl⟩
            obtain ⟨x2, hx2⟩ : ∃ x, m2 * s2 % pF = x := ⟨_, rfl⟩
            obtain ⟨y1, hy1⟩ : ∃ x, t1 * s1 % pF = x := ⟨_, rfl⟩
            obtain ⟨y2, hy2⟩ : ∃ x, t2 * s2 % pF = x := ⟨_, rfl⟩
            simp only [hx1, hx2, hy1, hy2] at CT1 CT2 CP1 hM2 hS2
            obtain ⟨z1, hz1⟩ : ∃ x, (x1 + n1) % pF = x := ⟨_, rfl⟩
            obtain ⟨z2, hz2⟩ : ∃ x, (x2 + n2) % pF = x := ⟨_, rfl⟩
            simp only [hz1, hz2] at CP1 hM2
            have HM := Lib.hid hM2
            have HS := Lib.hid hS2
            have CT1 := Lib.hid CT1
            have CT2 := Lib.hid CT2
            have CP1 := Lib.hid CP1
            have k1 := St5.out.box.ci (i := 2) (v := .slice (some ⟨g, 0, none⟩) k cM) rfl
            have k2 := St5.out.box.ci (i := 3) (v := .slice (some ⟨g', 0, none⟩) k cS) rfl
            have k3 := HKR5.out.ci (i := 1) (v := .int .i64 (l : Int)) rfl
            have k4 := HKR5.out.ci (i := 2) (v := .int .i64 (r : Int)) rfl
            have HLE : w5.heap.size ≤ M0 := Nat.le_of_eq HM0.out
            have B7 : Below w5.heap.size w5 w7 := by rw [HM0.out]; exact HB57.out
            have HB7 := Lib.hid B7
            clear hM hS hM2 hS2 hx1 hx2 hy1 hy2 hz1 hz2 q1 q2 q3 q4 q5 q6 q7 q8 l0 l1 r0' r1' hpt B7
            go_upto_region 10 with fail
            go_cut [] from 34 to 60 (fun wx => Below w5.heap.size w5 wx ∧ prB wx M0 (mkOf xs k) ∧ Blk wx (M0 + 1) #[.int .u64 1234567890123456789, .int .u64 987654321987654321] 103)
            case first =>
              have KD := keepN10 k1 k2 k3 k4 a0 a1 a2 a3 b2 b3 (Below.drew HB7.out)
              go_region_held3 (fun w' => Below w5.heap.size w5 w' ∧ w'.cell? ⟨P, 2, none⟩ = some (.slice (some ⟨g, 0, none⟩) k cM) ∧ w'.cell? ⟨P, 3, none⟩ = some (.slice (some ⟨g', 0, none⟩) k cS) ∧ w'.cell? ⟨Rb, 1, none⟩ = some (.int .i64 (l : Int)) ∧ w'.cell? ⟨Rb, 2, none⟩ = some (.int .i64 (r : Int)) ∧ w'.cell? ⟨g, l * 2, none⟩ = some (.int .u64 (m1 : Int)) ∧ w'.cell? ⟨g, l * 2 + 1, none⟩ = some (.int .u64 (m2 : Int)) ∧ w'.cell? ⟨g, r * 2, none⟩ = some (.int .u64 (n1 : Int)) ∧ w'.cell? ⟨g, r * 2 + 1, none⟩ = some (.int .u64 (n2 : Int)) ∧ w'.cell? ⟨g', r * 2, none⟩ = some (.int .u64 (s1 : Int)) ∧ w'.cell? ⟨g', r * 2 + 1, none⟩ = some (.int .u64 (s2 : Int)))
                (first | (with_reducible exact KD) | (with_reducible exact keepN10 k1 k2 k3 k4 a0 a1 a2 a3 b2 b3 B8) | (with_reducible exact keepN10 k1 k2 k3 k4 a0 a1 a2 a3 b2 b3 B9) | (with_reducible exact keepN10 k1 k2 k3 k4 a0 a1 a2 a3 b2 b3 ((B9.setCell (p := ⟨M0, 0, none⟩) HLE _).setCell (p := ⟨M0, 1, none⟩) HLE _)))
                (first
                  | (go_at_call 65; (refine (CT1.out _).mono ?_); rintro e8 w8 ⟨hb8, rfl⟩; have B8 : Below w5.heap.size w5 w8 := Below.tr HB7.out (by first | exact hb8 | exact Below.undrew hb8); have K8 := Lib.hid (HKM7.out.up (by first | exact hb8 | exact Below.undrew hb8)); have S8 := Lib.hid (HKS7.out.up (by first | exact hb8 | exact Below.undrew hb8)))
                  | (go_at_call 66; (refine (CP1.out _).mono ?_); rintro e9 w9 ⟨hb9, rfl⟩; have B9 : Below w5.heap.size w5 w9 := Below.tr B8 (by first | exact hb9 | exact Below.undrew hb9); have K9 := Lib.hid (K8.out.up (by first | exact hb9 | exact Below.undrew hb9)); have S9 := Lib.hid (S8.out.up (by first | exact hb9 | exact Below.undrew hb9)); have g0 := Blk.cell (i := 0) K9.out rfl; have g1 := Blk.cell (i := 1) K9.out rfl; have f0 := Blk.frozen K9.out 0; have f1 := Blk.frozen K9.out 1; have gL := K9.out.lt))
              all_goals
                go_wp2_with fail
                go_meet
                refine ⟨(B9.setCell (p := ⟨M0, 0, none⟩) HLE _).setCell (p := ⟨M0, 1, none⟩) HLE _, ?_, ?_⟩
                · rw [HM.out]; exact (K9.out.set 0 _).set 1 _
                · exact Blk.other (Blk.other S9.out (p := ⟨M0, 0, none⟩) (by show M0 + 1 ≠ M0; omega) _) (p := ⟨M0, 1, none⟩) (by show M0 + 1 ≠ M0; omega) _
            case rest =>
              obtain ⟨bc, hMc, hSc⟩ := hcut
              have HBc := Lib.hid bc
              have HMc := Lib.hid hMc
              have HSc := Lib.hid hSc
              clear bc hMc hSc
              go_upto_region 11 with fail
              have KD := keepN7 k2 k3 k4 b0 b1 b2 b3 (Below.drew HBc.out)
              go_region_held3 (fun w' => Below w5.heap.size w5 w' ∧ w'.cell? ⟨P, 3, none⟩ = some (.slice (some ⟨g', 0, none⟩) k cS) ∧ w'.cell? ⟨Rb, 1, none⟩ = some (.int .i64 (l : Int)) ∧ w'.cell? ⟨Rb, 2, none⟩ = some (.int .i64 (r : Int)) ∧ w'.cell? ⟨g', l * 2, none⟩ = some (.int .u64 (t1 : Int)) ∧ w'.cell? ⟨g', l * 2 + 1, none⟩ = some (.int .u64 (t2 : Int)) ∧ w'.cell? ⟨g', r * 2, none⟩ = some (.int .u64 (s1 : Int)) ∧ w'.cell? ⟨g', r * 2 + 1, none⟩ = some (.int .u64 (s2 : Int)))
                (first | (with_reducible exact KD) | (with_reducible exact keepN7 k2 k3 k4 b0 b1 b2 b3 B8) | (with_reducible exact keepN7 k2 k3 k4 b0 b1 b2 b3 ((B8.setCell (p := ⟨M0 + 1, 0, none⟩) (Nat.le_succ_of_le HLE) _).setCell (p := ⟨M0 + 1, 1, none⟩) (Nat.le_succ_of_le HLE) _)))
                (first
                  | (go_at_call 65; (refine (CT2.out _).mono ?_); rintro e8 w8 ⟨hb8, rfl⟩; have B8 : Below w5.heap.size w5 w8 := Below.tr HBc.out (by first | exact hb8 | exact Below.undrew hb8); have K8 := Lib.hid (Blk.up HMc.out (by first | exact hb8 | exact Below.undrew hb8)); have S8 := Lib.hid (HSc.out.up (by first | exact hb8 | exact Below.undrew hb8)); have g0 := Blk.cell (i := 0) S8.out rfl; have g1 := Blk.cell (i := 1) S8.out rfl; have f0 := Blk.frozen S8.out 0; have f1 := Blk.frozen S8.out 1; have gL := S8.out.lt))
              all_goals
                go_wp2_with fail
                go_meet
                have B9 := (B8.setCell (p := ⟨M0 + 1, 0, none⟩) (Nat.le_succ_of_le HLE) (.int .u64 (y1 : Int))).setCell (p := ⟨M0 + 1, 1, none⟩) (Nat.le_succ_of_le HLE) (.int .u64 (y2 : Int))
                refine ⟨St5.out.up B9, ?_, ?_⟩
                · exact Blk.other (Blk.other K8.out (p := ⟨M0 + 1, 0, none⟩) (by show M0 ≠ M0 + 1; omega) _) (p := ⟨M0 + 1, 1, none⟩) (by show M0 ≠ M0 + 1; omega) _
                · rw [HS.out]; exact (S8.out.set 0 _).set 1 _
        case rest =>
          obtain ⟨Stc, pmc, psc⟩ := hcut
          have hg5 : ∀ g, (Value.slice AM k cM).ownBlock = some g → g < M0 := fun g e => by have := (World.ownsRow.lt St5.out.mrk g e).2; have := HM0.out; omega
          have hg6 : ∀ g, (Value.slice AS k cS).ownBlock = some g → g < M0 := fun g e => by have := (World.ownsRow.lt St5.out.stp g e).2; have := HM0.out; omega
          have hPc : w.heap.size ≤ P := hzP
          have Z0 := Lib.hid (show Psh w wc P M0 #[.slice (some ⟨b, o, none⟩) xs.length cR, .slice AL ls.length cL, .slice AM k cM, .slice AS k cS] (.slice AL ls.length cL) ls (mkOf xs k) (stOf xs k) (.slice AM k cM) (.slice AS k cS) (mksL xs k) (stsL xs k) from
            ⟨Stc.bel, hPc, Stc.box, Stc.len, Stc.low, pmc, psc, Stc.mrk, Stc.stp, Stc.ne, fun g e => by have := hg5 g e; omega, fun g e => by have := hg6 g e; omega⟩)
          have hMc : M0 < wc.heap.size := pmc.lt
          have HG5 := Lib.hid (show ∀ g, (Value.slice AM k cM).ownBlock = some g → g < wc.heap.size from fun g e => Nat.lt_trans (hg5 g e) hMc)
          have HML2 := Lib.hid (mks_len xs k)
          have HSL2 := Lib.hid (sts_len xs k)
          have HKB : k ≤ 1048576 := by omega
          have HMB := Lib.hid (show (mksL xs k).length ≤ 1048576 by rw [mks_len]; exact HKB)
          have HSB := Lib.hid (show (stsL xs k).length ≤ 1048576 by rw [sts_len]; exact HKB)
          have hPlt : P < wc.heap.size := Stc.box.lt
          have HPL := Lib.hid hPlt
          have HMM := Lib.hid (show mkOf xs k = ((mkOf xs k).1, (mkOf xs k).2) from rfl)
          have HDN := Lib.hid (fun (W : World) (AM' AS' : Option Addr) (d d' : Nat) (h : Psh w W P M0 #[.slice (some ⟨b, o, none⟩) xs.length cR, .slice AL ls.length cL, .slice AM k cM, .slice AS k cS] (.slice AL ls.length cL) ls (mkOf xs k) (stOf xs k) (.slice AM' (k + 1) d) (.slice AS' (k + 1) d') (mksL xs k ++ [mkOf xs k]) (stsL xs k ++ [stOf xs k])) => h.done rfl)
          generalize hmk : mkOf xs k = mk at *
          generalize hst : stOf xs k = st at *
          obtain ⟨m1, m2⟩ := mk
          obtain ⟨s1, s2⟩ := st
          clear hmk hst Stc pmc psc hg5 hg6 hM0 hRb hMc HMM hPlt
          have KD := Lib.hid Z0.out.drew.cells
          have HPM : P < M0 := by
            have h1 := HPL.out
            omega
          go_upto_region 14 with fail
          refine wp_region_head1 (fun w' => w'.cell? ⟨P, 2, none⟩ = some (.slice AM k cM) ∧ w'.cell? ⟨P, 3, none⟩ = some (.slice AS k cS) ∧ w'.cell? ⟨M0, 0, none⟩ = some (.int .u64 (m1 : Int)) ∧ w'.cell? ⟨M0, 1, none⟩ = some (.int .u64 (m2 : Int)) ∧ w'.cell? ⟨M0 + 1, 0, none⟩ = some (.int .u64 (s1 : Int)) ∧ w'.cell? ⟨M0 + 1, 1, none⟩ = some (.int .u64 (s2 : Int)))
            16 1 _ ?_ (by kernel_rfl) (by kernel_rfl) rfl (fun _ _ _ h => h) (by rfl) ?_ KD.out (fun hHeld => ?_)
          rotate_left 1
          · intro w8
            go_simp
            try with_reducible rfl
          simp only [Act.put]
          refine wpHL_takeV ((Array.replicate 22 false).setIfInBounds 1 true) 0 _ ?_ (by kernel_rfl) rfl (by kernel_rfl) (fun _ _ _ h => h) (by rfl) ?_ hHeld ?_
          rotate_left 1
          · intro w8 hSw
            obtain ⟨s1, s2, s3, s4, s5, s6⟩ := hSw
            go_simp
            try with_reducible rfl
          simp only [Act.put]
          refine wpHL_takeV ((Array.replicate 22 false).setIfInBounds 1 true) 2 _ ?_ (by kernel_rfl) rfl (by kernel_rfl) (fun _ _ _ h => h) (by rfl) ?_ hHeld ?_
          rotate_left 1
          · intro w8 hSw
            obtain ⟨s1, s2, s3, s4, s5, s6⟩ := hSw
            go_simp
            try with_reducible rfl
          simp only [Act.put]
          refine wpHL_takeV ((Array.replicate 22 false).setIfInBounds 1 true) 3 _ ?_ (by kernel_rfl) rfl (by kernel_rfl) (fun _ _ _ h => h) (by rfl) ?_ hHeld ?_
          rotate_left 1
          · intro w8 hSw
            obtain ⟨s1, s2, s3, s4, s5, s6⟩ := hSw
            go_simp
            try with_reducible rfl
          simp only [Act.put]
          refine wpHL_takeV ((Array.replicate 22 false).setIfInBounds 1 true) 4 _ ?_ (by kernel_rfl) rfl (by kernel_rfl) (fun _ _ _ h => h) (by rfl) ?_ hHeld ?_
          rotate_left 1
          · intro w8 hSw
            obtain ⟨s1, s2, s3, s4, s5, s6⟩ := hSw
            go_simp
            try with_reducible rfl
          simp only [Act.put]
          refine wpHL_takeV ((Array.replicate 22 false).setIfInBounds 1 true) 5 _ ?_ (by kernel_rfl) rfl (by kernel_rfl) (fun _ _ _ h => h) (by rfl) ?_ hHeld ?_
          rotate_left 1
          · intro w8 hSw
            obtain ⟨s1, s2, s3, s4, s5, s6⟩ := hSw
            go_simp
            try with_reducible rfl
          simp only [Act.put]
          refine wpHL_takeV ((Array.replicate 22 false).setIfInBounds 1 true) 6 _ ?_ (by kernel_rfl) rfl (by kernel_rfl) (fun _ _ _ h => h) (by rfl) ?_ hHeld ?_
          rotate_left 1
          · intro w8 hSw
            obtain ⟨s1, s2, s3, s4, s5, s6⟩ := hSw
            go_simp
            try with_reducible rfl
          simp only [Act.put]
          refine wpHL_takeV ((Array.replicate 22 false).setIfInBounds 1 true) 9 _ ?_ (by kernel_rfl) rfl (by kernel_rfl) (fun _ _ _ h => h) (by rfl) ?_ hHeld ?_
          rotate_left 1
          · intro w8 hSw
            obtain ⟨s1, s2, s3, s4, s5, s6⟩ := hSw
            go_simp
            try with_reducible rfl
          simp only [Act.put]
          refine wpHL_takeV ((Array.replicate 22 false).setIfInBounds 1 true) 10 _ ?_ (by kernel_rfl) rfl (by kernel_rfl) (fun _ _ _ h => h) (by rfl) ?_ hHeld ?_
          rotate_left 1
          · intro w8 hSw
            obtain ⟨s1, s2, s3, s4, s5, s6⟩ := hSw
            go_simp
            try with_reducible rfl
          simp only [Act.put]
          refine wpHL_takeV ((Array.replicate 22 false).setIfInBounds 1 true) 11 _ ?_ (by kernel_rfl) rfl (by kernel_rfl) (fun _ _ _ h => h) (by rfl) ?_ hHeld ?_
          rotate_left 1
          · intro w8 hSw
            obtain ⟨s1, s2, s3, s4, s5, s6⟩ := hSw
            go_simp
            try with_reducible rfl
          simp only [Act.put]
          refine wpHL_takeV ((Array.replicate 22 false).setIfInBounds 1 true) 12 _ ?_ (by kernel_rfl) rfl (by kernel_rfl) (fun _ _ _ h => h) (by rfl) ?_ hHeld ?_
          rotate_left 1
          · intro w8 hSw
            obtain ⟨s1, s2, s3, s4, s5, s6⟩ := hSw
            go_simp
            try with_reducible rfl
          simp only [Act.put]
          refine wpHL_takeV ((Array.replicate 22 false).setIfInBounds 1 true) 13 _ ?_ (by kernel_rfl) rfl (by kernel_rfl) (fun _ _ _ h => h) (by rfl) ?_ hHeld ?_
          rotate_left 1
          · intro w8 hSw
            obtain ⟨s1, s2, s3, s4, s5, s6⟩ := hSw
            go_simp
            try with_reducible rfl
          simp only [Act.put]
          refine wpHL_ready [7, 14] (by kernel_rfl) ?_
          refine AllReadyHL.cons (o := _) rfl (fun K hK => ?_) (AllReadyHL.cons (o := _) rfl (fun K hK => ?_) AllReadyHL.nil)
          · -- 7
            go_simp
            have YA := Lib.hid ((Psh.alloc Z0.out (Obj.cells #[.int .u64 (m1 : Int), .int .u64 (m2 : Int)] 103)).drew)
            refine hK.out _ _ (Psh.cells YA.out) (fun hHeld => ?_)
            clear hK K
            refine wpHL_ready [8, 14] (by kernel_rfl) ?_
            refine AllReadyHL.cons (o := _) rfl (fun K hK => ?_) (AllReadyHL.cons (o := _) rfl (fun K hK => ?_) AllReadyHL.nil)
            · -- 8
              refine step_push_pr (base := P + 1) (A := AM) (n := k) (c := cM) (l := mksL xs k) (p := (m1, m2)) (by rfl) _ _ (by rfl) (by rfl) (by rfl) (pn_newD rfl) HML2.out.symm YA.out.mrk HMB.out (by have h1 := HPL.out; simp; omega) ?_
              intro A9 c9 w9 own9 ho9 hg9 hb9
              have Z1 := Psh.push1 YA.out own9 ho9 hg9 hb9
              refine hK.out _ _ (Psh.cells Z1) (fun hHeld => ?_)
              have kp := grown_kp hg9 HG5.out
              have HZ1 := Lib.hid Z1
              clear hK K Z1
              refine wpHL_ready [14] (by kernel_rfl) ?_
              refine AllReadyHL.cons (o := _) rfl (fun K hK => ?_) AllReadyHL.nil
              go_simp
              have YB := Lib.hid (Psh.alloc HZ1.out (Obj.cells #[.int .u64 (s1 : Int), .int .u64 (s2 : Int)] 103))
              refine hK.out _ _ (Psh.cells YB.out) (fun hHeld => ?_)
              clear hK K
              refine wpHL_ready [15] (by kernel_rfl) ?_
              refine AllReadyHL.cons (o := _) rfl (fun K hK => ?_) AllReadyHL.nil
              refine step_push_pr (base := P + 1) (A := AS) (n := k) (c := cS) (l := stsL xs k) (p := (s1, s2)) (by rfl) _ _ (by rfl) (by rfl) (by rfl) (pn_new rfl) HSL2.out.symm YB.out.stp HSB.out (by have h1 := HZ1.out.box.lt; simp; omega) ?_
              intro A10 c10 w10 own10 ho10 hg10 hb10
              have Z2 := Psh.push2 YB.out own10 ho10 hg10 hb10
              refine hK.out _ _ (Psh.cells Z2) (fun _ => ?_)
              clear hK K hHeld
              have HZ2 := Lib.hid Z2
              have K2 := Lib.hid Z2.box
              clear Z2 own10 ho10 hg10 hb10 own9 ho9 hg9 hb9 kp
              have g2 := Blk.cell (i := 2) K2.out rfl
              have g3 := Blk.cell (i := 3) K2.out rfl
              have f2 := Blk.frozen K2.out 2
              have f3 := Blk.frozen K2.out 3
              have gL := K2.out.lt
              refine wpHL_done (by kernel_rfl) ?_
              simp only [List.drop_succ_cons, List.drop_zero]
              go_wp2_with fail
              exact ⟨⟨k + 1, _, _, _, _, by omega, by simp, HDN.out _ _ _ _ _ HZ2.out⟩, by first | (simp [intOf]; done) | (simp [intOf]; omega)⟩
            · -- 14
              go_simp
              have YB := Lib.hid (Psh.alloc YA.out (Obj.cells #[.int .u64 (s1 : Int), .int .u64 (s2 : Int)] 103))
              refine hK.out _ _ (Psh.cells YB.out) (fun hHeld => ?_)
              clear hK K
              refine wpHL_ready [8] (by kernel_rfl) ?_
              refine AllReadyHL.cons (o := _) rfl (fun K hK => ?_) AllReadyHL.nil
              refine step_push_pr (base := P + 1) (A := AM) (n := k) (c := cM) (l := mksL xs k) (p := (m1, m2)) (by rfl) _ _ (by rfl) (by rfl) (by rfl) (pn_up (pn_newD rfl)) HML2.out.symm YB.out.mrk HMB.out (by have h1 := HPL.out; simp; omega) ?_
              intro A9 c9 w9 own9 ho9 hg9 hb9
              have Z1 := Psh.push1 YB.out own9 ho9 hg9 hb9
              refine hK.out _ _ (Psh.cells Z1) (fun hHeld => ?_)
              have kp := grown_kp hg9 HG5.out
              have HZ1 := Lib.hid Z1
              clear hK K Z1
              refine wpHL_ready [15] (by kernel_rfl) ?_
              refine AllReadyHL.cons (o := _) rfl (fun K hK => ?_) AllReadyHL.nil
              refine step_push_pr (base := P + 1) (A := AS) (n := k) (c := cS) (l := stsL xs k) (p := (s1, s2)) (by rfl) _ _ (by rfl) (by rfl) (by rfl) (kp (wc.heap.size + 1) _ (by omega) (pn_new (by simp))) HSL2.out.symm HZ1.out.stp HSB.out (by have h1 := HZ1.out.box.lt; omega) ?_
              intro A10 c10 w10 own10 ho10 hg10 hb10
              have Z2 := Psh.push2 HZ1.out own10 ho10 hg10 hb10
              refine hK.out _ _ (Psh.cells Z2) (fun _ => ?_)
              clear hK K hHeld
              have HZ2 := Lib.hid Z2
              have K2 := Lib.hid Z2.box
              clear Z2 own10 ho10 hg10 hb10 own9 ho9 hg9 hb9 kp
              have g2 := Blk.cell (i := 2) K2.out rfl
              have g3 := Blk.cell (i := 3) K2.out rfl
              have f2 := Blk.frozen K2.out 2
              have f3 := Blk.frozen K2.out 3
              have gL := K2.out.lt
              refine wpHL_done (by kernel_rfl) ?_
              simp only [List.drop_succ_cons, List.drop_zero]
              go_wp2_with fail
              exact ⟨⟨k + 1, _, _, _, _, by omega, by simp, HDN.out _ _ _ _ _ HZ2.out⟩, by first | (simp [intOf]; done) | (simp [intOf]; omega)⟩
          · -- 14
            go_simp
            have YA := Lib.hid ((Psh.alloc Z0.out (Obj.cells #[.int .u64 (s1 : Int), .int .u64 (s2 : Int)] 103)).drew)
            refine hK.out _ _ (Psh.cells YA.out) (fun hHeld => ?_)
            clear hK K
            refine wpHL_ready [7] (by kernel_rfl) ?_
            refine AllReadyHL.cons (o := _) rfl (fun K hK => ?_) AllReadyHL.nil
            go_simp
            have YB := Lib.hid (Psh.alloc YA.out (Obj.cells #[.int .u64 (m1 : Int), .int .u64 (m2 : Int)] 103))
            refine hK.out _ _ (Psh.cells YB.out) (fun hHeld => ?_)
            clear hK K
            refine wpHL_ready [8] (by kernel_rfl) ?_
            refine AllReadyHL.cons (o := _) rfl (fun K hK => ?_) AllReadyHL.nil
            refine step_push_pr (base := P + 1) (A := AM) (n := k) (c := cM) (l := mksL xs k) (p := (m1, m2)) (by rfl) _ _ (by rfl) (by rfl) (by rfl) (pn_new (by simp)) HML2.out.symm YB.out.mrk HMB.out (by have h1 := HPL.out; simp; omega) ?_
            intro A9 c9 w9 own9 ho9 hg9 hb9
            have Z1 := Psh.push1 YB.out own9 ho9 hg9 hb9
            refine hK.out _ _ (Psh.cells Z1) (fun hHeld => ?_)
            have kp := grown_kp hg9 HG5.out
            have HZ1 := Lib.hid Z1
            clear hK K Z1
            refine wpHL_ready [15] (by kernel_rfl) ?_
            refine AllReadyHL.cons (o := _) rfl (fun K hK => ?_) AllReadyHL.nil
            refine step_push_pr (base := P + 1) (A := AS) (n := k) (c := cS) (l := stsL xs k) (p := (s1, s2)) (by rfl) _ _ (by rfl) (by rfl) (by rfl) (kp wc.heap.size _ (by omega) (pn_up (pn_newD rfl))) HSL2.out.symm HZ1.out.stp HSB.out (by have h1 := HZ1.out.box.lt; omega) ?_
            intro A10 c10 w10 own10 ho10 hg10 hb10
            have Z2 := Psh.push2 HZ1.out own10 ho10 hg10 hb10
            refine hK.out _ _ (Psh.cells Z2) (fun _ => ?_)
            clear hK K hHeld
            have HZ2 := Lib.hid Z2
            have K2 := Lib.hid Z2.box
            clear Z2 own10 ho10 hg10 hb10 own9 ho9 hg9 hb9 kp
            have g2 := Blk.cell (i := 2) K2.out rfl
            have g3 := Blk.cell (i := 3) K2.out rfl
            have f2 := Blk.frozen K2.out 2
            have f3 := Blk.frozen K2.out 3
            have gL := K2.out.lt
            refine wpHL_done (by kernel_rfl) ?_
            simp only [List.drop_succ_cons, List.drop_zero]
            go_wp2_with fail
            exact ⟨⟨k + 1, _, _, _, _, by omega, by simp, HDN.out _ _ _ _ _ HZ2.out⟩, by first | (simp [intOf]; done) | (simp [intOf]; omega)⟩
      · have hkn : k = xs.length := by omega
        subst hkn
        go_wp2_with fail
        exact bodyPost_ret (v := .tuple #[.pointer (some ⟨P, 0, none⟩), .bool true]) (by simp [results, Tryd.results39, go_sem]) rfl ⟨P, ls, _, AM, cM, AS, cS, rfl, HL.out, hzP, St.out⟩
  · exfalso
    obtain ⟨_, l2, h2⟩ := gram_lens hg
    rw [hl] at h2; cases h2
theorem pieces_all {xs : List GRule} {ls : List Int} (hl : lens xs = some ls) : piecesL xs ls 0 (lastI ls) = if xs.length = 0 then [] else [xs.length - 1] := by
  have hll := lens_length hl
  unfold piecesL
  by_cases h0 : xs.length = 0
  · rw [if_neg (by omega), if_pos h0]
  · have hp := lens_pos' hl (r := xs.length - 1) (by omega)
    have e : lastI ls = ls.getD (xs.length - 1) 0 := by rw [lastI, hll]
    rw [if_pos ⟨by omega, by rw [e]; omega⟩, if_neg h0]
    obtain ⟨n, hn⟩ : ∃ n, xs.length = n + 1 := ⟨xs.length - 1, by omega⟩
    rw [hn, coverR]
    rw [hn] at e hp
    rw [if_neg (by rw [e]; omega), if_pos (by rw [e]; omega)]
def stepP (xs : List GRule) (s : Nat × Nat) (r : Nat) : Nat × Nat := ((s.1 * (stOf xs r).1 % pF + (mkOf xs r).1) % pF, (s.2 * (stOf xs r).2 % pF + (mkOf xs r).2) % pF)
structure Wv (w : World) (P : Nat) (xs : List GRule) (ls : List Int) (vR vL : Value) (AM : Option Addr) (cM : Nat) (AS : Option Addr) (cS : Nat) : Prop where
  box : Blk w P #[vR, vL, .slice AM xs.length cM, .slice AS xs.length cS] 101
  len : Sl IntE w w.heap.size vL ls
  rul : Sl RuleE w w.heap.size vR xs
  mrk : OwnPr w 0 (.slice AM xs.length cM) (mksL xs xs.length)
  stp : OwnPr w 0 (.slice AS xs.length cS) (stsL xs xs.length)
theorem Wv.up {w w' : World} {P : Nat} {xs : List GRule} {ls : List Int} {vR vL : Value} {AM AS : Option Addr} {cM cS : Nat} (h : Wv w P xs ls vR vL AM cM AS cS) (hb : Below w.heap.size w w') : Wv w' P xs ls vR vL AM cM AS cS :=
  ⟨h.box.up hb, h.len.up hb, h.rul.up hb, ownsRow_below h.mrk hb, ownsRow_below h.stp hb⟩
structure PJ (w0 : World) (bo : Nat) (C : Nat → Prop) (s : Nat × Nat) (w : World) : Prop where
  wk : Wk (fun b => b < w0.heap.size ∧ b ≠ bo) w0 w
  cell : Blk w bo #[.int .u64 (s.1 : Int), .int .u64 (s.2 : Int)] 103
  nc : ¬ C bo
  lt : s.1 < pF ∧ s.2 < pF
theorem PJ.ext {w0 : World} {bo : Nat} (hbs : bo < w0.heap.size) : ∀ C s w w', PJ w0 bo C s w → Below w.heap.size w w' → (∀ b, C b → b < w.heap.size) → PJ w0 bo (ext C w.heap.size w'.heap.size) s w' := by
  intro C s w w' h hb hC
  have hsz := h.wk.size
  refine ⟨h.wk.trans (Wk.of_below hb fun k hk => by have := hk.1; omega), h.cell.up hb, ?_, h.lt⟩
  intro h'
  rcases h' with h' | h'
  · exact h.nc h'
  · omega
theorem Wk.heap {C : Nat → Prop} {w w' : World} {k : Nat} {o : Obj} (h : Wk C w w') (hk : C k) (ho : w.heap[k]? = some o) : w'.heap[k]? = some o := (h.block k hk).trans ho
theorem keepP {w W : World} {p1 p2 p3 p4 p5 p6 p7 p8 p9 : Addr} {v1 v2 v3 v4 v5 v6 v7 v8 v9 : Value} (h1 : CI w p1 v1) (h2 : CI w p2 v2) (h3 : CI w p3 v3) (h4 : CI w p4 v4) (h5 : CI w p5 v5) (h6 : CI w p6 v6) (h7 : CI w p7 v7) (h8 : CI w p8 v8) (h9 : CI w p9 v9) (hb : Below w.heap.size w W) : W.cell? p1 = some v1 ∧ W.cell? p2 = some v2 ∧ W.cell? p3 = some v3 ∧ W.cell? p4 = some v4 ∧ W.cell? p5 = some v5 ∧ W.cell? p6 = some v6 ∧ W.cell? p7 = some v7 ∧ W.cell? p8 = some v8 ∧ W.cell? p9 = some v9 :=
  ⟨h1.up hb, h2.up hb, h3.up hb, h4.up hb, h5.up hb, h6.up hb, h7.up hb, h8.up hb, h9.up hb⟩
set_option maxRecDepth 100000 in
set_option maxHeartbeats 4000000 in
theorem printCl_any (w0 : World) (bo bw P : Nat) (xs : List GRule) (ls : List Int) (vR vL : Value) (AM AS : Option Addr) (cM cS : Nat) (hbo : bo < w0.heap.size) (hbw : bw ≠ bo) (hP : P ≠ bo) (hw : w0.cell? ⟨bw, 0, none⟩ = some (.pointer (some ⟨P, 0, none⟩)))
    (hW : Wv w0 P xs ls vR vL AM cM AS cS) (hM : ∀ g, (Value.slice AM xs.length cM).ownBlock = some g → g ≠ bo) (hS : ∀ g, (Value.slice AS xs.length cS).ownBlock = some g → g ≠ bo) :
    ∀ C s (r : Nat) (w : World), PJ w0 bo C s w → r < xs.length → (∀ b, C b → b < w.heap.size) → Calls Tryd.prog 80 (#[.int .i64 r] ++ #[.pointer (some ⟨bo, 0, none⟩), .pointer (some ⟨bw, 0, none⟩)]) w (TakePost (PJ w0 bo) C (stepP xs s r) w) := by
  intro C s r w hJ hr hC
  have HJ := Lib.hid hJ
  have HC := Lib.hid hC
  have hwl : bw < w0.heap.size := World.block_lt_of_cell? _ _ hw
  obtain ⟨g, capM, eM, _, hgl, m1, m2⟩ := hW.mrk.cells (mks_at (xs := xs) hr)
  obtain ⟨g', capS, eS, _, hgl', n1, n2⟩ := hW.stp.cells (sts_at (xs := xs) hr)
  injection eM with eM1 eM2 eM3
  injection eS with eS1 eS2 eS3
  subst eM1 eS1
  clear eM2 eM3 eS2 eS3
  have hgo := hM g rfl
  have hgo' := hS g' rfl
  have hk := hJ.wk
  have hsz := hk.size
  have up : ∀ {k o : Nat} {v : Value}, k < w0.heap.size → k ≠ bo → w0.cell? ⟨k, o, none⟩ = some v → CI w ⟨k, o, none⟩ v := fun {k o v} a b c => ⟨hk.cell ⟨a, b⟩ c, by show k < _; omega⟩
  have k1 := hJ.cell.ci (i := 0) rfl
  have k2 := hJ.cell.ci (i := 1) rfl
  have k3 := up hwl hbw hw
  have k4 := up hW.box.lt hP (hW.box.cell (i := 2) (v := .slice (some ⟨g, 0, none⟩) xs.length cM) rfl)
  have k5 := up hW.box.lt hP (hW.box.cell (i := 3) (v := .slice (some ⟨g', 0, none⟩) xs.length cS) rfl)
  have k6 := up hgl hgo m1
  have k7 := up hgl hgo m2
  have k8 := up hgl' hgo' n1
  have k9 := up hgl' hgo' n2
  obtain ⟨q1, q2⟩ := hJ.lt
  obtain ⟨q3, q4⟩ := mk_lt xs r
  obtain ⟨q5, q6⟩ := st_lt xs r
  have HST := Lib.hid (show stepP xs s r = ((s.1 * (stOf xs r).1 % pF + (mkOf xs r).1) % pF, (s.2 * (stOf xs r).2 % pF + (mkOf xs r).2) % pF) from rfl)
  clear m1 m2 n1 n2 hM hS hW hw up hJ hC hk
  generalize mkOf xs r = mk at *
  generalize stOf xs r = st at *
  obtain ⟨a1, a2⟩ := s
  obtain ⟨b1, b2⟩ := mk
  obtain ⟨c1, c2⟩ := st
  have CT := fun W => times_any a1 a2 c1 c2 W q1 q2 q5 q6
  have CP := fun W => plus_any (a1 * c1 % pF) (a2 * c2 % pF) b1 b2 W (Nat.mod_lt _ (by decide)) (Nat.mod_lt _ (by decide)) q3 q4
  have HL := Lib.hid (show (a1 * c1 % pF + b1) % pF < pF ∧ (a2 * c2 % pF + b2) % pF < pF from ⟨Nat.mod_lt _ (by decide), Nat.mod_lt _ (by decide)⟩)
  have HS2 := Lib.hid (show stepP xs (a1, a2) r = ((a1 * c1 % pF + b1) % pF, (a2 * c2 % pF + b2) % pF) from HST.out)
  obtain ⟨x1, hx1⟩ : ∃ x, a1 * c1 % pF = x := ⟨_, rfl⟩
  obtain ⟨x2, hx2⟩ : ∃ x, a2 * c2 % pF = x := ⟨_, rfl⟩
  rw [hx1, hx2] at CP HL HS2
  simp only [hx1, hx2] at CT
  obtain ⟨y1, hy1⟩ : ∃ x, (x1 + b1) % pF = x := ⟨_, rfl⟩
  obtain ⟨y2, hy2⟩ : ∃ x, (x2 + b2) % pF = x := ⟨_, rfl⟩
  rw [hy1, hy2] at HL HS2
  simp only [hy1, hy2] at CP
  have HCT := Lib.hid CT
  have HCP := Lib.hid CP
  clear CT CP
  have hri : (r : Int) < (xs.length : Int) := by omega
  have hr0 : (0 : Int) ≤ (r : Int) := by omega
  clear HST hx1 hx2 hy1 hy2 q1 q2 q3 q4 q5 q6 hwl hgl hgl'
  show Calls Tryd.prog 80 #[.int .i64 r, .pointer (some ⟨bo, 0, none⟩), .pointer (some ⟨bw, 0, none⟩)] w _
  go_enter Tryd.func80, Tryd.ntmps80
  refine wp_region_head (fun w' => w'.cell? ⟨bo, 0, none⟩ = some (.int .u64 (a1 : Int)) ∧ w'.cell? ⟨bo, 1, none⟩ = some (.int .u64 (a2 : Int)) ∧ w'.cell? ⟨bw, 0, none⟩ = some (.pointer (some ⟨P, 0, none⟩)) ∧ w'.cell? ⟨P, 2, none⟩ = some (.slice (some ⟨g, 0, none⟩) xs.length cM) ∧ w'.cell? ⟨P, 3, none⟩ = some (.slice (some ⟨g', 0, none⟩) xs.length cS) ∧
    w'.cell? ⟨g, r * 2, none⟩ = some (.int .u64 (b1 : Int)) ∧ w'.cell? ⟨g, r * 2 + 1, none⟩ = some (.int .u64 (b2 : Int)) ∧ w'.cell? ⟨g', r * 2, none⟩ = some (.int .u64 (c1 : Int)) ∧ w'.cell? ⟨g', r * 2 + 1, none⟩ = some (.int .u64 (c2 : Int))) 17 (by kernel_rfl) (by kernel_rfl) (keepP k1 k2 k3 k4 k5 k6 k7 k8 k9 (Below.drew (Below.refl _ _))) (fun hHeld => ?_)
  refine wpHL_takeV (Array.replicate 18 false) 0 _ ?_ (by kernel_rfl) rfl (by kernel_rfl) (fun _ _ _ h => h) (by rfl) ?_ hHeld ?_
  rotate_left 1
  · intro w8 hSw
    obtain ⟨s1, s2, s3, s4, s5, s6, s7, s8, s9⟩ := hSw
    go_simp
    try with_reducible rfl
  simp only [Act.put]
  refine wpHL_takeV (Array.replicate 18 false) 1 _ ?_ (by kernel_rfl) rfl (by kernel_rfl) (fun _ _ _ h => h) (by rfl) ?_ hHeld ?_
  rotate_left 1
  · intro w8 hSw
    obtain ⟨s1, s2, s3, s4, s5, s6, s7, s8, s9⟩ := hSw
    go_simp
    try with_reducible rfl
  simp only [Act.put]
  refine wpHL_takeV (Array.replicate 18 false) 2 _ ?_ (by kernel_rfl) rfl (by kernel_rfl) (fun _ _ _ h => h) (by rfl) ?_ hHeld ?_
  rotate_left 1
  · intro w8 hSw
    obtain ⟨s1, s2, s3, s4, s5, s6, s7, s8, s9⟩ := hSw
    go_simp
    try with_reducible rfl
  simp only [Act.put]
  refine wpHL_takeV (Array.replicate 18 false) 3 _ ?_ (by kernel_rfl) rfl (by kernel_rfl) (fun _ _ _ h => h) (by rfl) ?_ hHeld ?_
  rotate_left 1
  · intro w8 hSw
    obtain ⟨s1, s2, s3, s4, s5, s6, s7, s8, s9⟩ := hSw
    go_simp
    try with_reducible rfl
  simp only [Act.put]
  refine wpHL_takeV (Array.replicate 18 false) 4 _ ?_ (by kernel_rfl) rfl (by kernel_rfl) (fun _ _ _ h => h) (by rfl) ?_ hHeld ?_
  rotate_left 1
  · intro w8 hSw
    obtain ⟨s1, s2, s3, s4, s5, s6, s7, s8, s9⟩ := hSw
    go_simp
    try with_reducible rfl
  simp only [Act.put]
  refine wpHL_takeV (Array.replicate 18 false) 5 _ ?_ (by kernel_rfl) rfl (by kernel_rfl) (fun _ _ _ h => h) (by rfl) ?_ hHeld ?_
  rotate_left 1
  · intro w8 hSw
    obtain ⟨s1, s2, s3, s4, s5, s6, s7, s8, s9⟩ := hSw
    go_simp
    try with_reducible rfl
  simp only [Act.put]
  refine wpHL_takeV (Array.replicate 18 false) 6 _ ?_ (by kernel_rfl) rfl (by kernel_rfl) (fun _ _ _ h => h) (by rfl) ?_ hHeld ?_
  rotate_left 1
  · intro w8 hSw
    obtain ⟨s1, s2, s3, s4, s5, s6, s7, s8, s9⟩ := hSw
    go_simp
    try with_reducible rfl
  simp only [Act.put]
  refine wpHL_takeV (Array.replicate 18 false) 7 _ ?_ (by kernel_rfl) rfl (by kernel_rfl) (fun _ _ _ h => h) (by rfl) ?_ hHeld ?_
  rotate_left 1
  · intro w8 hSw
    obtain ⟨s1, s2, s3, s4, s5, s6, s7, s8, s9⟩ := hSw
    go_simp
    try with_reducible rfl
  simp only [Act.put]
  refine wpHL_takeV (Array.replicate 18 false) 9 _ ?_ (by kernel_rfl) rfl (by kernel_rfl) (fun _ _ _ h => h) (by rfl) ?_ hHeld ?_
  rotate_left 1
  · intro w8 hSw
    obtain ⟨s1, s2, s3, s4, s5, s6, s7, s8, s9⟩ := hSw
    go_simp
    try with_reducible rfl
  simp only [Act.put]
  refine wpHL_takeV (Array.replicate 18 false) 10 _ ?_ (by kernel_rfl) rfl (by kernel_rfl) (fun _ _ _ h => h) (by rfl) ?_ hHeld ?_
  rotate_left 1
  · intro w8 hSw
    obtain ⟨s1, s2, s3, s4, s5, s6, s7, s8, s9⟩ := hSw
    go_simp
    try with_reducible rfl
  simp only [Act.put]
  refine wpHL_takeV (Array.replicate 18 false) 11 _ ?_ (by kernel_rfl) rfl (by kernel_rfl) (fun _ _ _ h => h) (by rfl) ?_ hHeld ?_
  rotate_left 1
  · intro w8 hSw
    obtain ⟨s1, s2, s3, s4, s5, s6, s7, s8, s9⟩ := hSw
    go_simp
    try with_reducible rfl
  simp only [Act.put]
  refine wpHL_takeV (Array.replicate 18 false) 12 _ ?_ (by kernel_rfl) rfl (by kernel_rfl) (fun _ _ _ h => h) (by rfl) ?_ hHeld ?_
  rotate_left 1
  · intro w8 hSw
    obtain ⟨s1, s2, s3, s4, s5, s6, s7, s8, s9⟩ := hSw
    go_simp
    try with_reducible rfl
  simp only [Act.put]
  refine wpHL_takeV (Array.replicate 18 false) 13 _ ?_ (by kernel_rfl) rfl (by kernel_rfl) (fun _ _ _ h => h) (by rfl) ?_ hHeld ?_
  rotate_left 1
  · intro w8 hSw
    obtain ⟨s1, s2, s3, s4, s5, s6, s7, s8, s9⟩ := hSw
    go_simp
    try with_reducible rfl
  simp only [Act.put]
  refine wpHL_takeV (Array.replicate 18 false) 14 _ ?_ (by kernel_rfl) rfl (by kernel_rfl) (fun _ _ _ h => h) (by rfl) ?_ hHeld ?_
  rotate_left 1
  · intro w8 hSw
    obtain ⟨s1, s2, s3, s4, s5, s6, s7, s8, s9⟩ := hSw
    go_simp
    try with_reducible rfl
  simp only [Act.put]
  refine wpHL_takeV (Array.replicate 18 false) 15 _ ?_ (by kernel_rfl) rfl (by kernel_rfl) (fun _ _ _ h => h) (by rfl) ?_ hHeld ?_
  rotate_left 1
  · intro w8 hSw
    obtain ⟨s1, s2, s3, s4, s5, s6, s7, s8, s9⟩ := hSw
    go_simp
    try with_reducible rfl
  simp only [Act.put]
  refine wpHL_ready [8] (by kernel_rfl) ?_
  refine AllReadyHL.cons (o := _) rfl (fun K hK => ?_) AllReadyHL.nil
  go_simp
  go_at_call 65
  refine (HCT.out _).mono ?_
  rintro e8 w8 ⟨hb8, rfl⟩
  have B8 : Below w.heap.size w w8 := Below.undrew hb8
  go_wp2_with fail
  refine hK.out _ _ (keepP k1 k2 k3 k4 k5 k6 k7 k8 k9 B8) (fun hHeld => ?_)
  clear hK K
  refine wpHL_ready [16] (by kernel_rfl) ?_
  refine AllReadyHL.cons (o := _) rfl (fun K hK => ?_) AllReadyHL.nil
  go_simp
  go_at_call 66
  refine (HCP.out _).mono ?_
  rintro e9 w9 ⟨hb9, rfl⟩
  have B9 : Below w.heap.size w w9 := Below.tr B8 hb9
  go_wp2_with fail
  refine hK.out _ _ (keepP k1 k2 k3 k4 k5 k6 k7 k8 k9 B9) (fun hHeld => ?_)
  clear hK K
  refine wpHL_done (by kernel_rfl) ?_
  simp only [List.drop_succ_cons, List.drop_zero]
  have KO := HJ.out.cell.up B9
  have g0 := Blk.cell (i := 0) KO rfl
  have g1 := Blk.cell (i := 1) KO rfl
  have f0 := Blk.frozen KO 0
  have f1 := Blk.frozen KO 1
  have gL := Blk.lt KO
  have HKO := Lib.hid KO
  have HB9 := Lib.hid B9
  clear KO hHeld hb8 hb9 B8 B9 k1 k2 k3 k4 k5 k6 k7 k8 k9
  go_wp2_with fail
  go_end0
  have hwk : Wk C w ((w9.setCell ⟨bo, 0, none⟩ (.int .u64 (y1 : Int))).setCell ⟨bo, 1, none⟩ (.int .u64 (y2 : Int))) :=
    ⟨HB9.out.os, HB9.out.tape, HB9.out.output, by have := HB9.out.size; simpa [World.setCell] using this, fun k hk => (Below.heap_setCell _ ⟨bo, 1, none⟩ _ k (fun e => HJ.out.nc (by subst e; exact hk))).trans ((Below.heap_setCell _ ⟨bo, 0, none⟩ _ k (fun e => HJ.out.nc (by subst e; exact hk))).trans (HB9.out.block k (HC.out k hk)))⟩
  have hw0 : Wk (fun b => b < w0.heap.size ∧ b ≠ bo) w ((w9.setCell ⟨bo, 0, none⟩ (.int .u64 (y1 : Int))).setCell ⟨bo, 1, none⟩ (.int .u64 (y2 : Int))) :=
    ⟨HB9.out.os, HB9.out.tape, HB9.out.output, by have := HB9.out.size; simpa [World.setCell] using this, fun k hk => (Below.heap_setCell _ ⟨bo, 1, none⟩ _ k hk.2).trans ((Below.heap_setCell _ ⟨bo, 0, none⟩ _ k hk.2).trans (HB9.out.block k (by have := hk.1; omega)))⟩
  refine ⟨rfl, C, fun _ h => h, ?_, ⟨HJ.out.wk.trans hw0, ?_, HJ.out.nc, by rw [HS2.out]; exact HL.out⟩, hwk⟩
  · intro b h
    have := HC.out b h
    have := hwk.size
    omega
  · rw [HS2.out]; exact (HKO.out.set 0 _).set 1 _
set_option maxRecDepth 100000 in
set_option maxHeartbeats 4000000 in
theorem print_any (P : Nat) (xs : List GRule) (ls : List Int) (vR vL : Value) (AM AS : Option Addr) (cM cS : Nat) (i j : Int) (w : World) (hW : Wv w P xs ls vR vL AM cM AS cS) (hl : lens xs = some ls) (hn : xs.length ≤ 1048576) :
    Calls Tryd.prog 69 #[.pointer (some ⟨P, 0, none⟩), .int .i64 i, .int .i64 j] w fun e w' => Below w.heap.size w w' ∧ e = .returned (prV ((piecesL xs ls i j).foldl (stepP xs) (0, 0)).1 ((piecesL xs ls i j).foldl (stepP xs) (0, 0)).2) := by
  have HW := Lib.hid hW
  have HL := Lib.hid hl
  obtain ⟨AR, cR, rfl, _⟩ := hW.rul
  obtain ⟨AL, cL, rfl, _⟩ := hW.len
  clear hW hl
  go_enter Tryd.func69, Tryd.ntmps69
  have ba := (((Below.refl w.heap.size w).alloc (Nat.le_refl _) (Obj.cells #[.pointer (some ⟨P, 0, none⟩)] 54)).alloc (by simp) (Obj.cells #[.int .u64 0, .int .u64 0] 103)).alloc (by simp; omega) (Obj.cells #[.int .u64 0, .int .u64 0] 103)
  have kN := ((Blk.new w #[.pointer (some ⟨P, 0, none⟩)] 54).alloc (Obj.cells #[.int .u64 0, .int .u64 0] 103)).alloc (Obj.cells #[.int .u64 0, .int .u64 0] 103)
  have kR := (Blk.new (w.alloc (Obj.cells #[.pointer (some ⟨P, 0, none⟩)] 54)) #[.int .u64 0, .int .u64 0] 103).alloc (Obj.cells #[.int .u64 0, .int .u64 0] 103)
  have kO := Blk.new ((w.alloc (Obj.cells #[.pointer (some ⟨P, 0, none⟩)] 54)).alloc (Obj.cells #[.int .u64 0, .int .u64 0] 103)) #[.int .u64 0, .int .u64 0] 103
  have z1 : (w.alloc (Obj.cells #[.pointer (some ⟨P, 0, none⟩)] 54)).heap.size = w.heap.size + 1 := by simp
  have z2 : ((w.alloc (Obj.cells #[.pointer (some ⟨P, 0, none⟩)] 54)).alloc (Obj.cells #[.int .u64 0, .int .u64 0] 103)).heap.size = w.heap.size + 1 + 1 := by simp
  rw [z1] at kR
  rw [z2] at kO
  have HBA := Lib.hid ba
  have HKN := Lib.hid kN
  have HKR := Lib.hid kR
  have HKO := Lib.hid kO
  clear ba kN kR kO z1 z2
  go_upto_region 2 with fail
  revert HBA HKN HKR HKO
  generalize (((w.alloc (Obj.cells #[.pointer (some ⟨P, 0, none⟩)] 54)).alloc (Obj.cells #[.int .u64 0, .int .u64 0] 103)).alloc (Obj.cells #[.int .u64 0, .int .u64 0] 103)) = W
  intro HBA HKN HKR HKO
  have HWW := Lib.hid (HW.out.up HBA.out)
  have hPl : P < w.heap.size := HW.out.box.lt
  obtain ⟨N, hN⟩ : ∃ N, w.heap.size = N := ⟨_, rfl⟩
  have HN := Lib.hid hN
  rw [hN] at HKN HKR HKO hPl
  rw [hN]
  clear hN
  have c0 := Blk.cell (i := 0) (v := .pointer (some ⟨P, 0, none⟩)) HKN.out rfl
  have c1 := Blk.cell (i := 0) (v := .slice AR xs.length cR) HWW.out.box rfl
  have c2 := Blk.cell (i := 1) (v := .slice AL ls.length cL) HWW.out.box rfl
  have l0 := Blk.lt HKN.out
  have l1 := Blk.lt HWW.out.box
  refine wp_region_still_tail 11 (by kernel_rfl) (by kernel_rfl) ?_
  simp only [List.take_succ_cons, List.take_zero, List.drop_succ_cons, List.drop_zero]
  still_step
  still_step
  still_step
  still_step
  still_step
  still_step
  still_step
  still_step
  still_step
  still_step
  still_step
  refine wpStill_nil ?_
  go_wp2_with fail
  have WD := Lib.hid (HWW.out.up (Below.drew (Below.refl W.heap.size W)))
  have KND := Lib.hid (Blk.drew HKN.out)
  have KRD := Lib.hid (Blk.drew HKR.out)
  have KOD := Lib.hid (Blk.drew HKO.out)
  have HBD := Lib.hid (Below.drew HBA.out)
  have hMg : ∀ g, (Value.slice AM xs.length cM).ownBlock = some g → g ≠ N + 1 + 1 := fun g e => by
    have h1 := (World.ownsRow.lt HW.out.mrk g e).2
    have := HN.out; omega
  have hSg : ∀ g, (Value.slice AS xs.length cS).ownBlock = some g → g ≠ N + 1 + 1 := fun g e => by
    have h1 := (World.ownsRow.lt HW.out.stp g e).2
    have := HN.out; omega
  clear c0 c1 c2 l0 l1 HKN HKR HKO HBA HWW
  generalize W.drew = W0 at *
  have hO : N + 1 + 1 < W0.heap.size := KOD.out.lt
  have hcl := printCl_any W0 (N + 1 + 1) N P xs ls (.slice AR xs.length cR) (.slice AL ls.length cL) AM AS cM cS hO (by omega) (by omega) (KND.out.cell rfl) WD.out hMg hSg
  refine (pieces_any (PJ W0 (N + 1 + 1)) (stepP xs) (fun _ _ => True) 80 #[.pointer (some ⟨N + 1 + 1, 0, none⟩), .pointer (some ⟨N, 0, none⟩)] xs ls i j HL.out (by omega) (enters_of Tryd.func80 (by kernel_rfl) rfl) (fun C s w w' hJ hb _ hC => PJ.ext hO C s w w' hJ hb hC)
    (fun C s r w hJ _ hr hC => hcl C s r w hJ hr hC) _ _ (0, 0) (fun b => b < w.heap.size) W0 ⟨Wk.refl _ _, KOD.out, by have := HN.out; omega, by decide⟩ (Runs.all fun _ _ => trivial) (fun b hb => by have := HN.out; omega) ?_ ?_).mono ?_
  · exact HW.out.len.keep (Keep.of_below HBD.out)
  · exact HW.out.rul.keep (Keep.of_below HBD.out)
  · rintro e w2 ⟨rfl, C2, g1, g2, g3, g4⟩
    obtain ⟨s, hs⟩ : ∃ s, (piecesL xs ls i j).foldl (stepP xs) (0, 0) = s := ⟨_, rfl⟩
    rw [hs] at g3
    have Hs := Lib.hid hs
    have HB2 := Lib.hid (HBD.out.trans (g3.wk.below (B := w.heap.size) fun k hk => ⟨by have := HN.out; omega, by have := HN.out; omega⟩))
    have HG := Lib.hid g3
    have KR2 := Lib.hid (show Blk w2 (N + 1) #[.int .u64 0, .int .u64 0] 103 from g3.wk.heap ⟨by omega, by omega⟩ KRD.out)
    obtain ⟨s1, s2⟩ := s
    have c0 := Blk.cell (i := 0) g3.cell rfl
    have c1 := Blk.cell (i := 1) g3.cell rfl
    have d0 := Blk.frozen KR2.out 0
    have d1 := Blk.frozen KR2.out 1
    have e0 := Blk.cell (i := 0) KR2.out rfl
    have e1 := Blk.cell (i := 1) KR2.out rfl
    have lR := Blk.lt KR2.out
    have lO := Blk.lt g3.cell
    clear g1 g2 g3 g4 hcl hs
    go_wp2_with fail
    refine bodyPost_ret (v := .agg #[.int .u64 (s1 : Int), .int .u64 (s2 : Int)]) (by simp [results, Tryd.results69, go_sem, e0, e1]) rfl ⟨?_, by rw [Hs.out]; rfl⟩
    exact (HB2.out.setCell (p := ⟨N + 1, 0, none⟩) (by show w.heap.size ≤ N + 1; have := HN.out; omega) _).setCell (p := ⟨N + 1, 1, none⟩) (by show w.heap.size ≤ N + 1; have := HN.out; omega) _
end Go.Proofs.YtfhiaifdigefdaaDoor
