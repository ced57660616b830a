import Derived.Test.YtfapnipmgmpgaaaGreatDoorM2
import Derived.Laws.EntriesVeiled
import Derived.Test.YtfapnipmgmpgaaaGreatDoorM1
import Derived.Maps.Keyed
import Derived.DeepKeys4
import Derived.Deep.RegionLaw
import Derived.RangeFuncBox
namespace Go.Proofs.YtfapnipmgmpgaaaGreatDoor
open Go.RowKit

/-- A row of rules of one's own, between two block numbers. -/
def OwnR (w : World) (lo hi : Nat) (v : Value) (l : List GRule) : Prop := OwnRules w lo v l ∧ (∀ g, v.ownBlock = some g → g < hi) ∧ hi ≤ w.heap.size
section
variable {w w' : World} {lo hi : Nat} {v : Value} {l : List GRule} {row : Option Nat}
theorem OwnR.of (h : OwnRules w lo v l) : OwnR w lo w.heap.size v l := ⟨h, fun g hg => (World.ownsRow.lt h g hg).2, Nat.le_refl _⟩
theorem OwnR.up (h : OwnR w lo hi v l) (hb : Below w.heap.size w w') : OwnR w' lo hi v l := ⟨OwnRules.below h.1 hb, h.2.1, Nat.le_trans h.2.2 hb.size⟩
theorem OwnR.rng (h : OwnR w lo hi v l) : ∀ g, v.ownBlock = some g → lo ≤ g ∧ g < hi := fun g hg => ⟨(World.ownsRow.lt h.1 g hg).1, h.2.1 g hg⟩
theorem OwnR.grown (h : OwnR w lo hi v l) (hg : w.grownBy w' row) (hr : ∀ g, row = some g → g < lo ∨ hi ≤ g) : OwnR w' lo hi v l :=
  ⟨OwnRules.keep h.1 hg fun g hgg e => by have h1 := h.rng g hgg; have h2 := hr g e.symm; omega, h.2.1, Nat.le_trans h.2.2 hg.size⟩
theorem OwnR.alloc (h : OwnR w lo hi v l) (o : Obj) : OwnR (w.alloc o) lo hi v l := ⟨World.ownsRow.alloc h.1 o, h.2.1, Nat.le_trans h.2.2 (by simp)⟩
theorem OwnR.sl (h : OwnR w lo hi v l) : Sl RuleE w w.heap.size v l := OwnRules.sl h.1
end
/-- Only blocks between lo and hi have turned (and new ones have come). -/
structure Chg (lo hi : Nat) (w w' : World) : Prop where
  os : w'.os = w.os
  tape : w'.tape = w.tape
  output : w'.output = w.output
  size : w.heap.size ≤ w'.heap.size
  block : ∀ k, k < w.heap.size → k < lo ∨ hi ≤ k → w'.heap[k]? = w.heap[k]?
theorem Chg.refl (lo hi : Nat) (w : World) : Chg lo hi w w := ⟨rfl, rfl, rfl, Nat.le_refl _, fun _ _ _ => rfl⟩
theorem Chg.trans {lo hi : Nat} {x y z : World} (h : Chg lo hi x y) (k : Chg lo hi y z) : Chg lo hi x z :=
  ⟨k.os.trans h.os, k.tape.trans h.tape, k.output.trans h.output, Nat.le_trans h.size k.size, fun i hi1 hne => (k.block i (Nat.lt_of_lt_of_le hi1 h.size) hne).trans (h.block i hi1 hne)⟩
theorem Chg.of_below {lo hi : Nat} {x y : World} (h : Below x.heap.size x y) : Chg lo hi x y := ⟨h.os, h.tape, h.output, h.size, fun k hk _ => h.block k hk⟩
theorem chg_of {w w' : World} {lo hi : Nat} {v : Value} {l : List GRule} (h : OwnR w lo hi v l) (hg : w.grownBy w' v.ownBlock) : Chg lo hi w w' :=
  ⟨hg.os, hg.tape, hg.output, hg.size, fun k hk hne => hg.block k hk fun e => by have := h.rng k e.symm; omega⟩
theorem Chg.mono {lo hi lo' hi' : Nat} {x y : World} (h : Chg lo hi x y) (h1 : lo' ≤ lo) (h2 : hi ≤ hi') : Chg lo' hi' x y := ⟨h.os, h.tape, h.output, h.size, fun k hk hne => h.block k hk (by omega)⟩
theorem Chg.below {lo hi N : Nat} {x y : World} (h : Chg lo hi x y) (h1 : N ≤ lo) (h2 : N ≤ x.heap.size) : Below N x y := ⟨h.os, h.tape, h.output, h.size, fun k hk => h.block k (Nat.lt_of_lt_of_le hk h2) (by omega)⟩
theorem Blk.chg {w w' : World} {b lo hi : Nat} {a : Array Value} {t : TypeId} (h : Blk w b a t) (hc : Chg lo hi w w') (hne : b < lo ∨ hi ≤ b) : Blk w' b a t := (hc.block b h.lt hne).trans h
theorem OwnR.chg {w w' : World} {lo hi lo' hi' : Nat} {v : Value} {l : List GRule} (h : OwnR w lo hi v l) (hc : Chg lo' hi' w w') (hne : hi ≤ lo' ∨ hi' ≤ lo) : OwnR w' lo hi v l :=
  ⟨own_keep h.1 fun g hg => hc.block g (by have := h.rng g hg; have := h.2.2; omega) (by have := h.rng g hg; omega), h.2.1, Nat.le_trans h.2.2 hc.size⟩
theorem OwnR.markedC {w w' : World} {lo hi lo' hi' : Nat} {v : Value} {l l' : List GRule} (h : OwnR w lo hi v l) (h' : OwnRules w' lo v l') (hc : Chg lo' hi' w w') : OwnR w' lo hi v l' := ⟨h', h.2.1, Nat.le_trans h.2.2 hc.size⟩
theorem Below.chg {w0 w w' : World} {N lo hi : Nat} (h : Below N w0 w) (hN : N ≤ w.heap.size) (hc : Chg lo hi w w') (hl : N ≤ lo) : Below N w0 w' := h.trans (hc.below hl hN)
theorem SlS.chgN {α : Type} {E : Enc α} {w w' : World} {N lo hi : Nat} {v : Value} {xs : List α} (h : Sl E w N v xs) (hN : N ≤ w.heap.size) (hc : Chg lo hi w w') (hl : N ≤ lo) : Sl E w' N v xs := h.below (hc.below hl hN)
theorem Blk.grown {w w' : World} {b : Nat} {a : Array Value} {t : TypeId} {row : Option Nat} (h : Blk w b a t) (hg : w.grownBy w' row) (hne : ∀ g, row = some g → g ≠ b) : Blk w' b a t :=
  (hg.block b h.lt (fun e => hne b e.symm rfl)).trans h
theorem Below.grown {w0 w w' : World} {N : Nat} {row : Option Nat} (h : Below N w0 w) (hN : N ≤ w.heap.size) (hg : w.grownBy w' row) (hr : ∀ g, row = some g → N ≤ g) : Below N w0 w' := h.trans (below_of_grown hg hN hr)
theorem keep11 {wr W : World} {a x : Nat} {t t' : TypeId} {v u : Value} (ha : Blk wr a #[v] t) (hx : Blk wr x #[u] t') (h : Below wr.heap.size wr W) :
    Below wr.heap.size wr W ∧ W.cell? ⟨a, 0, none⟩ = some v ∧ W.cell? ⟨x, 0, none⟩ = some u := ⟨h, (ha.up h).cell rfl, (hx.up h).cell rfl⟩
end Go.Proofs.YtfapnipmgmpgaaaGreatDoor

namespace Go.Proofs.YtfapnipmgmpgaaaGreatDoor
open Go.RowKit
section
variable {σ : Type}

set_option maxRecDepth 100000 in
set_option maxHeartbeats 1000000 in
theorem pieces_any (J : (Nat → Prop) → σ → World → Prop) (step : σ → Nat → σ) (Ok : σ → Nat → Prop) (F : FuncId) (cap : Array Value) (xs : List GRule) (ls : List Int) (i j : Int) (hlens : lens xs = some ls) (hxs : xs.length ≤ 1099511627776)
    (eg : ∀ args w, (callFunc F args).run Tryz.prog w = .ok (.enter F args) w)
    (hext : ∀ C s w w', J C s w → Below w.heap.size w w' → NewNoB w.heap.size w' → (∀ b, C b → b < w.heap.size) → J (ext C w.heap.size w'.heap.size) s w')
    (hwith : ∀ C s (r : Nat) (w : World), J C s w → Ok s r → r < xs.length → (∀ b, C b → b < w.heap.size) → Calls Tryz.prog F (#[.int .i64 r] ++ cap) w (TakePost J C (step s r) w))
    (vL vR : Value) (s : σ) (C : Nat → Prop) (w : World) (hJ : J C s w) (hRu : Runs step Ok s (piecesL xs ls i j)) (hlt : ∀ b, C b → b < w.heap.size) (hL : SlS IntE w C vL ls) (hR : SlS RuleE w C vR xs) :
    Calls Tryz.prog 135 #[.agg #[vR], vL, .int .i64 i, .int .i64 j, .func (.func F) #[] cap] w (TakePost J C ((piecesL xs ls i j).foldl step s) w) := by
  have HT := Lib.hid (take_any J step Ok F cap xs ls i j hlens eg hext hwith (w.heap.size + 1) (w.heap.size + 1 + 1) (w.heap.size + 1 + 1 + 1) (w.heap.size + 1 + 1 + 1 + 1) w.heap.size (w.heap.size + 1 + 1 + 1 + 1 + 1) vL vR xs.length)
  have He := Lib.hid hext
  have HJ := Lib.hid hJ
  have HRu := Lib.hid hRu
  clear hRu
  have HL := Lib.hid hL
  have HR := Lib.hid hR
  have Hlt := Lib.hid hlt
  clear hwith hext hJ eg hL
  obtain ⟨AR, cR, rfl, _, _, hrowR⟩ := hR
  clear hrowR
  obtain ⟨AL, cL, rfl, _⟩ := HL.out
  have hB : ∀ o1 o2 o3 o4 o5 o6, Below w.heap.size w ((((((w.alloc o1).alloc o2).alloc o3).alloc o4).alloc o5).alloc o6) := fun o1 o2 o3 o4 o5 o6 => (by repeat (first | exact Below.refl _ _ | (refine Below.alloc ?_ (by first | omega | (simp; done) | (simp; omega)) _) | refine below_drewN ?_ _ | refine Below.drew ?_))
  have hJ6 : ∀ o1 o2 o3 o4 o5 o6, NoB o1 → NoB o2 → NoB o3 → NoB o4 → NoB o5 → NoB o6 → J (ext C w.heap.size (w.heap.size + 6)) s ((((((w.alloc o1).alloc o2).alloc o3).alloc o4).alloc o5).alloc o6) := fun o1 o2 o3 o4 o5 o6 n1 n2 n3 n4 n5 n6 => by
    have := He.out C s w ((((((w.alloc o1).alloc o2).alloc o3).alloc o4).alloc o5).alloc o6) HJ.out (hB _ _ _ _ _ _) ((((((((NewNoB.same w).alloc n1).alloc n2).alloc n3).alloc n4).alloc n5).alloc n6)) Hlt.out
    simpa using this
  have hK6 : ∀ o1 o2 o3 o4 o5 o6, Keep C w ((((((w.alloc o1).alloc o2).alloc o3).alloc o4).alloc o5).alloc o6) := fun o1 o2 o3 o4 o5 o6 => (Wk.of_below (hB _ _ _ _ _ _) Hlt.out).keep
  by_cases h0 : 0 < xs.length ∧ i < j
  · obtain ⟨h1, h2⟩ := h0
    go_enter Tryz.func135, Tryz.ntmps135
    go_wp2_with fail
    rw [show ((xs.length : Int) - 1) = ((xs.length - 1 : Nat) : Int) by omega]
    refine (HT.out (xs.length - 1) 0 s (ext C w.heap.size (w.heap.size + 6)) _ (by omega) (by omega) (by omega) ?_ ?_ ?_ ?_).mono ?_
    · have := lens_pos' hlens (r := xs.length - 1) (by omega); omega
    · exact hJ6 _ _ _ _ _ _ (NoB.cells (by decide)) (NoB.cells (by decide)) (NoB.cells (by decide)) (NoB.cells (by decide)) (NoB.cells (by decide)) (NoB.cells (by decide))
    · have := HRu.out
      rwa [piecesL, if_pos ⟨h1, h2⟩] at this
    · have hk := hK6
      exact ⟨by simp [go_sem], by simp [go_sem], by simp [go_sem], by simp [go_sem], by simp [go_sem], by simp [go_sem], Or.inr (by omega), Or.inr (by omega), Or.inr (by omega), Or.inr (by omega), Or.inr (by omega), Or.inr (by omega), (HL.out.keep (hk _ _ _ _ _ _)).more fun b h => Or.inl h, (HR.out.keep (hk _ _ _ _ _ _)).more fun b h => Or.inl h, fun b h => by
        simp
        rcases h with h | h
        · have := Hlt.out b h; omega
        · exact h.2⟩
    · rintro e w2 ⟨rfl, C2, g1, g2, g3, g4⟩
      go_wp2_with fail
      go_end0
      refine ⟨rfl, C2, fun b h => g1 _ (Or.inl h), g2, ?_, ?_⟩
      · rw [piecesL, if_pos ⟨h1, h2⟩]; exact g3
      · exact (Wk.of_below (hB _ _ _ _ _ _) Hlt.out).trans (g4.mono fun b h => Or.inl h)
  · have hp : piecesL xs ls i j = [] := by rw [piecesL, if_neg h0]
    have Hp := Lib.hid hp
    have hh : ¬ 0 < xs.length ∨ (0 < xs.length ∧ ¬ i < j) := by omega
    clear hp h0
    rcases hh with h1 | ⟨h1, h2⟩
    all_goals
      go_enter Tryz.func135, Tryz.ntmps135
      go_wp2_with fail
      go_end0
      refine ⟨rfl, ext C w.heap.size (w.heap.size + 6), fun b h => Or.inl h, ?_, ?_, Wk.of_below (hB _ _ _ _ _ _) Hlt.out⟩
      · intro b h
        simp
        rcases h with h | h
        · have := Hlt.out b h; omega
        · exact h.2
      · rw [Hp.out]
        exact hJ6 _ _ _ _ _ _ (NoB.cells (by decide)) (NoB.cells (by decide)) (NoB.cells (by decide)) (NoB.cells (by decide)) (NoB.cells (by decide)) (NoB.cells (by decide))
end
end Go.Proofs.YtfapnipmgmpgaaaGreatDoor

namespace Go.Proofs.YtfapnipmgmpgaaaGreatDoor
open Go.RowKit

theorem within_yes (n a b : Int) (w : World) (h : inR n a b = true) : Calls Tryz.prog 63 #[.int .i64 n, .int .i64 a, .int .i64 b] w fun e w' => e = .returned (.bool true) ∧ w = w' :=
  (within_any n a b w).mono fun _ _ ⟨he, hw⟩ => ⟨by rw [he, ← h]; rfl, hw⟩
theorem within_no (n a b : Int) (w : World) (h : inR n a b = false) : Calls Tryz.prog 63 #[.int .i64 n, .int .i64 a, .int .i64 b] w fun e w' => e = .returned (.bool false) ∧ w = w' :=
  (within_any n a b w).mono fun _ _ ⟨he, hw⟩ => ⟨by rw [he, ← h]; rfl, hw⟩

end Go.Proofs.YtfapnipmgmpgaaaGreatDoor

namespace Go.Proofs.YtfapnipmgmpgaaaGreatDoor
open Go.RowKit

/-- The value v reads as the automaton a, below block B. -/
def AutoV (w : World) (B : Nat) (v : Value) (a : GAuto) : Prop := ∃ vF vN, v = .agg #[.int .i64 a.states, .int .i64 a.start, vF, vN] ∧ Sl IntE w B vF a.finals ∧ Sl (SliceE IntE) w B vN a.next
theorem AutoV.below {w w' : World} {B : Nat} {v : Value} {a : GAuto} (h : AutoV w B v a) (hb : Below B w w') : AutoV w' B v a := by
  obtain ⟨vF, vN, rfl, h1, h2⟩ := h
  exact ⟨vF, vN, rfl, h1.below hb, h2.below hb⟩
theorem AutoV.le {w : World} {B B' : Nat} {v : Value} {a : GAuto} (h : AutoV w B v a) (hb : B ≤ B') : AutoV w B' v a := by
  obtain ⟨vF, vN, rfl, h1, h2⟩ := h
  exact ⟨vF, vN, rfl, h1.le hb, h2.le hb⟩
theorem AutoV.up {w0 w : World} {v : Value} {a : GAuto} (h : AutoV w0 w0.heap.size v a) (hb : Below w0.heap.size w0 w) : AutoV w w.heap.size v a := (h.below hb).le hb.size

end Go.Proofs.YtfapnipmgmpgaaaGreatDoor

namespace Go.Proofs.YtfapnipmgmpgaaaGreatDoor
open Go.RowKit

end Go.Proofs.YtfapnipmgmpgaaaGreatDoor

namespace Go.Proofs.YtfapnipmgmpgaaaGreatDoor
open Go.RowKit

end Go.Proofs.YtfapnipmgmpgaaaGreatDoor

namespace Go.Proofs.YtfapnipmgmpgaaaGreatDoor
open Go.RowKit

end Go.Proofs.YtfapnipmgmpgaaaGreatDoor

namespace Go.Proofs.YtfapnipmgmpgaaaGreatDoor
open Go.RowKit

/-- Four cells of a block. -/
def Box4 (w : World) (b : Nat) (c0 c1 c2 c3 : Value) : Prop := w.cell? ⟨b, 0, none⟩ = some c0 ∧ w.cell? ⟨b, 1, none⟩ = some c1 ∧ w.cell? ⟨b, 2, none⟩ = some c2 ∧ w.cell? ⟨b, 3, none⟩ = some c3
theorem Box4.up {w w' : World} {b N : Nat} {c0 c1 c2 c3 : Value} (h : Box4 w b c0 c1 c2 c3) (hb : Below N w w') (hlt : b < N) : Box4 w' b c0 c1 c2 c3 :=
  ⟨(hb.cell (p := ⟨b, 0, none⟩) hlt).trans h.1, (hb.cell (p := ⟨b, 1, none⟩) hlt).trans h.2.1, (hb.cell (p := ⟨b, 2, none⟩) hlt).trans h.2.2.1, (hb.cell (p := ⟨b, 3, none⟩) hlt).trans h.2.2.2⟩
theorem Box4.new {w w' : World} {c0 c1 c2 c3 : Value} {t : TypeId} (hb : Below (w.alloc (.cells #[c0, c1, c2, c3] t)).heap.size (w.alloc (.cells #[c0, c1, c2, c3] t)) w') : Box4 w' w.heap.size c0 c1 c2 c3 :=
  Box4.up (w := w.alloc (.cells #[c0, c1, c2, c3] t)) ⟨by simp [go_sem], by simp [go_sem], by simp [go_sem], by simp [go_sem]⟩ hb (by simp)
end Go.Proofs.YtfapnipmgmpgaaaGreatDoor

namespace Go.Proofs.YtfapnipmgmpgaaaGreatDoor
open Go.RowKit

/-- 'append(s, x)' of one element onto a row of the call's own, with what is known of the block. -/
theorem wpList_push2 {P : Program} {W : World} {ops : Array Oper} {rest : List Oper} {o : Oper} {a : Act} {Q : Exit → Act → World → Prop} (hgd : o.guard = none) (s x : Operand) (t : TypeId)
    (ho : o.op = .call { callee := .builtin .append, args := #[s, x], argTypes := #[t, t] }) {cs : Array Value} {e : TypeId}
    (i : TypeInfo) (z : Value) (size bytes : Nat) (ht : P.underlying t = some (.slice e)) (hi : P.info? e = some i) (hz : i.zero = some z)
    (hsize : i.size = size) (hby : i.bytes = bytes) (hzs : z.cells.size = size) (hsz : 0 < size)
    {base : Nat} {v : Value} {n : Nat} {xs : List Value} (hs : a.eval s = v) (hx : a.eval x = .slice (some ⟨W.heap.size, 0, none⟩) 1 1)
    (hcs : cs.size = size) (h1 : ∀ u ∈ cs.toList, u.oneCell' = true) (hown : W.ownsRow base e size v n xs)
    (hlen : (n + 1) * bytes ≤ 140737488355328) (hn : n + 1 ≤ 140737488355328) (hbase : base ≤ W.heap.size)
    (h : ∀ v' w', w'.ownsRow base e size v' (n + 1) (xs ++ cs.toList) → (W.alloc (.cells cs e)).grownBy w' v.ownBlock → (v'.ownBlock = v.ownBlock ∨ v'.ownBlock = some (W.heap.size + 1)) → wpList P ops Q rest (a.put o.dst v') w') :
    wpList P ops Q (o :: rest) a (W.alloc (.cells cs e)) := by
  refine wpList_plain hgd fun _ hK => ?_
  obtain ⟨v', w', hrun, h2, h3, _, h5⟩ := run_append_own_at (P := P) (W.alloc (.cells cs e)) base t o.type e i z size bytes ht hi hz hsize hby hzs hsz v n xs (hown.alloc _) ⟨W.heap.size, 0, none⟩ 1 1 cs.toList (by simpa using hcs)
    (fun j u hu => by
      have : (W.alloc (.cells cs e)).cell? ⟨W.heap.size, j, none⟩ = cs[j]? := cell_of_row _ _ _ _ e (0, 0) (heap_alloc_new W _)
      have ha : (⟨W.heap.size, 0, none⟩ : Addr).add j = ⟨W.heap.size, j, none⟩ := by unfold Addr.add; split <;> simp_all
      rw [ha, this]; simpa using hu) h1 (by simp only [maxLen]; omega) hlen (by simp; omega)
  unfold Oper.wp execOp
  simp only [ho, resolve, invoke, builtin, Sem.run_bind, Sem.run_pure, Result.andThen_ok, List.map_toArray, List.map_cons, List.map_nil, hs, hx, hrun]
  exact hK _ _ (h v' w' h2 h3 (by simpa using h5))

/-- 'append(s, x)' of one number in a region that draws its order. -/
theorem step_push_int {W : World} {ops : Array Oper} {o : Oper} {a : Act} {K : Act → World → Prop} {Q : Exit → Act → World → Prop} {E : Prop} (hgd : o.guard = none) (s x : Operand)
    (ho : o.op = .call { callee := .builtin .append, args := #[s, x], argTypes := #[112, 112] }) {y : Int} {base : Nat} {v : Value} {l : List Int}
    (hs : a.eval s = v) {N : Nat} (hx : a.eval x = .slice (some ⟨N, 0, none⟩) 1 1) (hc : W.cell? ⟨N, 0, none⟩ = some (.int .i64 y)) (hown : OwnInts W base v l) (hlen : l.length ≤ 1099511627776) (hbase : base ≤ W.heap.size)
    (h : ∀ v' w', OwnInts w' base v' (l ++ [y]) → W.grownBy w' v.ownBlock → (v'.ownBlock = v.ownBlock ∨ v'.ownBlock = some W.heap.size) → K (a.put o.dst v') w') :
    if Region.wanted o (yielded ops a.tmps) = true then Oper.wp Tryz.prog o a W K Q else E := by
  have hw : Region.wanted o (yielded ops a.tmps) = true := by simp [Region.wanted, hgd]
  rw [if_pos hw]
  obtain ⟨i0, hi0, hz0, hz1, hz2⟩ := info_parts Tryz.infoI
  obtain ⟨v', w', hrun, h2, h3, _, h5⟩ := run_append_own_at (P := Tryz.prog) W base 112 o.type 2 i0 (.int .i64 0) 1 8 Tryz.underlying112 hi0 hz0 hz1 hz2 rfl (by decide) v _ _ hown ⟨N, 0, none⟩ 1 1 [.int .i64 y] rfl
    (fun j u hu => by
      cases j with
      | zero => simp at hu; subst hu; simpa [Addr.add] using hc
      | succ j => simp at hu) (by simp [Value.oneCell']) (by simp only [maxLen]; omega) (by omega) hbase
  unfold Oper.wp execOp
  simp only [ho, resolve, invoke, builtin, Sem.run_bind, Sem.run_pure, Result.andThen_ok, List.map_toArray, List.map_cons, List.map_nil, hs, hx, hrun]
  exact h v' w' (by unfold OwnInts; simpa using h2) h3 h5

/-! the plain maps -/
def mapCell (next out : List (List Int)) (r : GRule) (s : Nat) : Int :=
  if r.pair then (out.getD r.right.toNat []).getD ((out.getD r.left.toNat []).getD s 0).toNat 0 else (next.getD s []).getD ((r.letter.data.getD 0 0).toNat - 97) 0
def mapRow (next out : List (List Int)) (r : GRule) : List Int := (List.range next.length).map (mapCell next out r)
def mapsOf (next : List (List Int)) (xs : List GRule) : List (List Int) := xs.foldl (fun out r => out ++ [mapRow next out r]) []
/-- All rows are rows of states. -/
def RowsOk (n : Nat) (l : List (List Int)) : Prop := ∀ t, t < l.length → (l.getD t []).length = n ∧ ∀ d, d < n → 0 ≤ (l.getD t []).getD d 0 ∧ (l.getD t []).getD d 0 < n
theorem RowsOk.snoc {n : Nat} {l : List (List Int)} {row : List Int} (h : RowsOk n l) (h1 : row.length = n) (h2 : ∀ d, d < n → 0 ≤ row.getD d 0 ∧ row.getD d 0 < n) : RowsOk n (l ++ [row]) := by
  intro t ht
  rcases Nat.lt_or_ge t l.length with h3 | h3
  · have e : (l ++ [row]).getD t [] = l.getD t [] := by rw [List.getD_eq_getElem?_getD, List.getElem?_append_left h3, List.getD_eq_getElem?_getD]
    rw [e]; exact h t h3
  · have ht' : t = l.length := by simp at ht; omega
    subst ht'
    have e : (l ++ [row]).getD l.length [] = row := by rw [List.getD_eq_getElem?_getD, List.getElem?_append_right (Nat.le_refl _)]; simp
    rw [e]; exact ⟨h1, h2⟩
end Go.Proofs.YtfapnipmgmpgaaaGreatDoor

namespace Go.Proofs.YtfapnipmgmpgaaaGreatDoor
open Go.RowKit

end Go.Proofs.YtfapnipmgmpgaaaGreatDoor

namespace Go.Proofs.YtfapnipmgmpgaaaGreatDoor
open Go.RowKit

end Go.Proofs.YtfapnipmgmpgaaaGreatDoor

namespace Go.Proofs.YtfapnipmgmpgaaaGreatDoor
open Go.RowKit

/-- The value v reads as a ride: an automaton, a grammar, its lengths, its maps. -/
def RideV (w : World) (B : Nat) (v : Value) (a : GAuto) (xs : List GRule) (ls : List Int) : Prop :=
  ∃ vF vN vR vL vM, v = .agg #[.int .i64 a.states, .int .i64 a.start, vF, vN, vR, vL, vM] ∧ Sl IntE w B vF a.finals ∧ Sl (SliceE IntE) w B vN a.next ∧ Sl RuleE w B vR xs ∧ Sl IntE w B vL ls ∧ Sl (SliceE IntE) w B vM (mapsOf a.next xs)
theorem RideV.below {w w' : World} {B : Nat} {v : Value} {a : GAuto} {xs : List GRule} {ls : List Int} (h : RideV w B v a xs ls) (hb : Below B w w') : RideV w' B v a xs ls := by
  obtain ⟨vF, vN, vR, vL, vM, rfl, h1, h2, h3, h4, h5⟩ := h
  exact ⟨vF, vN, vR, vL, vM, rfl, h1.below hb, h2.below hb, h3.below hb, h4.below hb, h5.below hb⟩
theorem RideV.le {w : World} {B B' : Nat} {v : Value} {a : GAuto} {xs : List GRule} {ls : List Int} (h : RideV w B v a xs ls) (hb : B ≤ B') : RideV w B' v a xs ls := by
  obtain ⟨vF, vN, vR, vL, vM, rfl, h1, h2, h3, h4, h5⟩ := h
  exact ⟨vF, vN, vR, vL, vM, rfl, h1.le hb, h2.le hb, h3.le hb, h4.le hb, h5.le hb⟩
theorem RideV.up {w0 w : World} {v : Value} {a : GAuto} {xs : List GRule} {ls : List Int} (h : RideV w0 w0.heap.size v a xs ls) (hb : Below w0.heap.size w0 w) : RideV w w.heap.size v a xs ls := (h.below hb).le hb.size
end Go.Proofs.YtfapnipmgmpgaaaGreatDoor

namespace Go.Proofs.YtfapnipmgmpgaaaGreatDoor
open Go.RowKit

def lastI (l : List Int) : Int := l.getD (l.length - 1) 0
theorem last_any (v : Value) (l : List Int) (w : World) (h : Sl IntE w w.heap.size v l) :
    Calls Tryz.prog 87 #[v] w fun e w' => e = .returned (.int .i64 (lastI l)) ∧ w = w' := by
  obtain ⟨A, c, rfl, hc, hm, hrow⟩ := h
  unfold maxLen at hm
  by_cases h0 : l.length = 0
  · have hl : l = [] := List.eq_nil_of_length_eq_zero h0
    subst hl
    go_enter Tryz.func87, Tryz.ntmps87
    go_wp2_with fail
    go_ret
    exact ⟨rfl, rfl⟩
  · obtain ⟨b, o, rfl, hbl, hcell⟩ := hrow.int (k := 0) (by omega)
    have hc0 := hcell (l.length - 1) (by omega)
    have g0 : ((l.length : Int) == 0) = false := by rw [beq_eq_false_iff_ne]; omega
    have hk : ((l.length : Int) - 1).toNat = l.length - 1 := by omega
    have hl : 0 ≤ (l.length : Int) - 1 := by omega
    obtain ⟨x, hx⟩ : ∃ x, l.getD (l.length - 1) 0 = x := ⟨_, rfl⟩
    have Hx := Lib.hid hx
    rw [hx] at hc0
    clear hcell hx
    go_enter Tryz.func87, Tryz.ntmps87
    go_wp2_with fail
    go_ret
    exact ⟨ret_int (by rw [lastI, Hx.out]), rfl⟩

theorem Wk.set {C : Nat → Prop} {w : World} {b o : Nat} {v : Value} (h : ¬ C b) : Wk C w (w.setCell ⟨b, o, none⟩ v).drew :=
  ⟨rfl, rfl, rfl, by show w.heap.size ≤ (w.setCell ⟨b, o, none⟩ v).heap.size; simp, fun k hk => heap_setCell_other w ⟨b, o, none⟩ k v (fun e => h (by have e' : k = b := e; exact e' ▸ hk))⟩
/-- What stands behind some rules in the state box bs. -/
structure RJ (w0 : World) (bs n : Nat) (C : Nat → Prop) (s : Nat) (w : World) : Prop where
  wk : Wk (fun b => b < w0.heap.size ∧ b ≠ bs) w0 w
  cell : w.cell? ⟨bs, 0, none⟩ = some (.int .i64 s)
  fr : w.frozen? ⟨bs, 0, none⟩ = false
  nc : ¬ C bs
  lt : s < n
theorem RJ.ext {w0 : World} {bs n : Nat} (hbs : bs < w0.heap.size) : ∀ C s w w', RJ w0 bs n C s w → Below w.heap.size w w' → (∀ b, C b → b < w.heap.size) → RJ w0 bs n (ext C w.heap.size w'.heap.size) s w' := by
  intro C s w w' h hb hC
  have hsz := h.wk.size
  refine ⟨h.wk.trans (Wk.of_below hb fun k hk => by have := hk.1; omega), (hb.cell (p := ⟨bs, 0, none⟩) (by show bs < _; omega)).trans h.cell, (hb.frozen (p := ⟨bs, 0, none⟩) (by show bs < _; omega)).trans h.fr, ?_, h.lt⟩
  intro h'
  rcases h' with h' | h'
  · exact h.nc h'
  · omega

end Go.Proofs.YtfapnipmgmpgaaaGreatDoor

namespace Go.Proofs.YtfapnipmgmpgaaaGreatDoor
open Go.RowKit

/-- The length of the word of a grammar. -/
def gramLen (xs : List GRule) : Int := match lens xs with | some ls => lastI ls | none => 0
theorem gramLen_of {xs : List GRule} {ls : List Int} (h : lens xs = some ls) : gramLen xs = lastI ls := by simp [gramLen, h]
theorem lastI_bounds {xs : List GRule} {ls : List Int} (h : lens xs = some ls) : 0 ≤ lastI ls ∧ lastI ls ≤ 1000000000000000 := by
  have hll := lens_length h
  unfold lastI
  by_cases h0 : xs.length = 0
  · have : ls = [] := List.eq_nil_of_length_eq_zero (by omega)
    subst this; simp
  · have := lens_pos' h (r := ls.length - 1) (by omega)
    omega
theorem gramLen_bounds (xs : List GRule) : 0 ≤ gramLen xs ∧ gramLen xs ≤ 1000000000000000 := by
  unfold gramLen
  split
  · rename_i ls h; exact lastI_bounds h
  · omega

set_option maxRecDepth 100000 in
theorem l02Length_any (b o : Nat) (v : Value) (xs : List GRule) (ls : List Int) (w : World) (hl : lens xs = some ls) (hp : w.cell? ⟨b, o, none⟩ = some v) (hbl : b < w.heap.size) (h : Sl RuleE w w.heap.size v xs) (hsm : SmallL xs) (hn : xs.length ≤ 1099511627776) :
    Calls Tryz.prog 56 #[.pointer (some ⟨b, o, none⟩)] w fun e w' => e = .returned (.int .i64 (lastI ls)) ∧ Below w.heap.size w w' := by
  have Hsl := Lib.hid h
  have Hl := Lib.hid hl
  clear h hl
  go_enter Tryz.func56, Tryz.ntmps56
  go_wp2_with fail
  refine (l02Sizes_any _ _ _ _ _ hp hbl Hsl.out hsm hn).mono ?_
  rintro e w1 ⟨hb, (⟨ls', v1, h1, rfl, h2⟩ | ⟨h1, _⟩)⟩
  · have e1 : ls' = ls := by rw [Hl.out] at h1; injection h1 with h1; exact h1.symm
    subst e1
    have HB := Lib.hid hb
    have hsl := h2.sl
    obtain ⟨A, c, rfl, hc, hm, hrow⟩ := hsl
    unfold maxLen at hm
    clear h1 h2 hb
    by_cases h0 : ls'.length = 0
    · have hl : ls' = [] := List.eq_nil_of_length_eq_zero h0
      subst hl
      clear hrow
      go_wp2_with fail
      go_ret
      exact ⟨rfl, HB.out⟩
    · obtain ⟨b, o, rfl, hbl, hcell⟩ := hrow.int (k := 0) (by omega)
      have hc0 := hcell (ls'.length - 1) (by omega)
      have g0 : ((ls'.length : Int) == 0) = false := by rw [beq_eq_false_iff_ne]; omega
      have hk : ((ls'.length : Int) - 1).toNat = ls'.length - 1 := by omega
      have hl : 0 ≤ (ls'.length : Int) - 1 := by omega
      have hwr : IntKind.i64.wrap ((ls'.length : Int) - 1) = (ls'.length : Int) - 1 := IntWalk.i64_in _ (by omega)
      obtain ⟨x, hx⟩ : ∃ x, ls'.getD (ls'.length - 1) 0 = x := ⟨_, rfl⟩
      have Hx := Lib.hid hx
      rw [hx] at hc0
      clear hcell hx hrow
      go_wp2_with fail
      go_ret
      exact ⟨ret_int (by rw [lastI, Hx.out]), HB.out⟩
  · rw [Hl.out] at h1; cases h1

def lenV (xs : List GRule) : Int := if gramOk xs then gramLen xs else 0
def lenC (xs : List GRule) : Int := if gramOk xs then 0 else 1
set_option maxRecDepth 100000 in
theorem LengthOf_any (v : Value) (xs : List GRule) (w : World) (h : Sl RuleE w w.heap.size v xs) (hn : xs.length ≤ 1099511627776) :
    Calls Tryz.prog 41 #[.agg #[v]] w fun e w' => e = .returned (.tuple #[.int .i64 (lenV xs), .int .i64 (lenC xs)]) ∧ Below w.heap.size w w' := by
  have h1 := fun o => (h.below ((Below.refl w.heap.size w).alloc (Nat.le_refl _) o)).le (B' := (w.alloc o).heap.size) (by simp)
  have H1 := Lib.hid h1
  clear h1 h
  go_enter Tryz.func41, Tryz.ntmps41
  go_wp2_with fail
  refine (lengths_any _ _ _ (H1.out _) hn).mono ?_
  rintro e w1 ⟨hb, (⟨ls, v1, h1, rfl, h2⟩ | ⟨h1, rfl⟩)⟩
  · have HL := Lib.hid h2.sl
    have H1' := Lib.hid h1
    have HB := Lib.hid hb
    obtain ⟨A, c, rfl, _⟩ := h2.sl
    clear h1 h2 hb
    by_cases hc : xs.length ≤ 400
    · have hd : decide (xs.length ≤ 400) = true := by simp [hc]
      have hg : gramOk xs = true := by simp [gramOk, H1'.out, hc]
      have Hg := Lib.hid hg
      rw [hd]
      clear hd hc hg
      go_wp2_with fail
      refine (last_any _ ls _ HL.out).mono ?_
      rintro e w2 ⟨rfl, rfl⟩
      go_wp2_with fail
      go_ret2
      exact ⟨by simp [lenV, lenC, Hg.out, gramLen_of H1'.out], ((Below.refl _ _).alloc (Nat.le_refl _) _).trans (HB.out.mono (by simp))⟩
    · have hd : decide (xs.length ≤ 400) = false := by simp [hc]
      have hg : gramOk xs = false := by simp [gramOk, hc]
      have Hg := Lib.hid hg
      rw [hd]
      clear hd hc hg
      go_wp2_with fail
      go_ret2
      exact ⟨by simp [lenV, lenC, Hg.out], ((Below.refl _ _).alloc (Nat.le_refl _) _).trans (HB.out.mono (by simp))⟩
  · have hg : gramOk xs = false := by simp [gramOk, h1]
    have Hg := Lib.hid hg
    have HB := Lib.hid hb
    clear h1 hg hb
    go_wp2_with fail
    go_ret2
    exact ⟨by simp [lenV, lenC, Hg.out], ((Below.refl _ _).alloc (Nat.le_refl _) _).trans (HB.out.mono (by simp))⟩
end Go.Proofs.YtfapnipmgmpgaaaGreatDoor

namespace Go.Proofs.YtfapnipmgmpgaaaGreatDoor
open Go.RowKit

/-- An edit. -/
structure GEdit where
  kind : Int
  i : Int
  j : Int
  k : Int
  part : List GRule
  map : ByteArray
def usesJ (k : Int) : Bool := decide (2 ≤ k)
def usesK (k : Int) : Bool := k == 3 || k == 4 || k == 6
def EditV (w : World) (B : Nat) (v : Value) (e : GEdit) : Prop := ∃ vR, v = .agg #[.int .i64 e.kind, .int .i64 e.i, .int .i64 e.j, .int .i64 e.k, vR, .string e.map] ∧ Sl RuleE w B vR e.part
theorem EditV.below {w w' : World} {B : Nat} {v : Value} {e : GEdit} (h : EditV w B v e) (hb : Below B w w') : EditV w' B v e := by
  obtain ⟨vR, rfl, h1⟩ := h; exact ⟨vR, rfl, h1.below hb⟩
theorem EditV.le {w : World} {B B' : Nat} {v : Value} {e : GEdit} (h : EditV w B v e) (hb : B ≤ B') : EditV w B' v e := by
  obtain ⟨vR, rfl, h1⟩ := h; exact ⟨vR, rfl, h1.le hb⟩
theorem EditV.up {w0 w : World} {v : Value} {e : GEdit} (h : EditV w0 w0.heap.size v e) (hb : Below w0.heap.size w0 w) : EditV w w.heap.size v e := (h.below hb).le hb.size

def numOk (n : Int) (told : Bool) : Bool := if told then inR n 0 1000000000000000 else n == 0
def editOk (e : GEdit) : Bool :=
  inR e.kind 1 7 && inR e.i 0 1000000000000000 && numOk e.j (usesJ e.kind) && numOk e.k (usesK e.kind) && !(usesJ e.kind && decide (e.j < e.i)) &&
    (decide (0 < e.part.length) == (e.kind == 1)) && gramOk e.part && (if e.kind == 7 then e.map.size == 4 && wordOk e.map else e.map.size == 0)
def editFits (e : GEdit) (n : Int) : Bool :=
  if e.kind = 1 then decide (e.i ≤ n) else if e.kind = 3 then decide (e.j ≤ n) && decide (e.k ≤ n) else if e.kind = 4 then decide (e.j ≤ n) && (decide (e.k ≤ e.i) || (decide (e.j ≤ e.k) && decide (e.k ≤ n))) else decide (e.j ≤ n)
/-- Six cells of a block. -/
def Box6 (w : World) (b : Nat) (c0 c1 c2 c3 c4 c5 : Value) : Prop := w.cell? ⟨b, 0, none⟩ = some c0 ∧ w.cell? ⟨b, 1, none⟩ = some c1 ∧ w.cell? ⟨b, 2, none⟩ = some c2 ∧ w.cell? ⟨b, 3, none⟩ = some c3 ∧ w.cell? ⟨b, 4, none⟩ = some c4 ∧ w.cell? ⟨b, 5, none⟩ = some c5
theorem Box6.up {w w' : World} {b N : Nat} {c0 c1 c2 c3 c4 c5 : Value} (h : Box6 w b c0 c1 c2 c3 c4 c5) (hb : Below N w w') (hlt : b < N) : Box6 w' b c0 c1 c2 c3 c4 c5 := by
  obtain ⟨h0, h1, h2, h3, h4, h5⟩ := h
  have k : ∀ {o : Nat} {v : Value}, w.cell? ⟨b, o, none⟩ = some v → w'.cell? ⟨b, o, none⟩ = some v := fun {o v} hc => (hb.cell (p := ⟨b, o, none⟩) hlt).trans hc
  exact ⟨k h0, k h1, k h2, k h3, k h4, k h5⟩
theorem Box6.new {w w' : World} {c0 c1 c2 c3 c4 c5 : Value} {t : TypeId} (hb : Below (w.alloc (.cells #[c0, c1, c2, c3, c4, c5] t)).heap.size (w.alloc (.cells #[c0, c1, c2, c3, c4, c5] t)) w') : Box6 w' w.heap.size c0 c1 c2 c3 c4 c5 :=
  Box6.up (w := w.alloc (.cells #[c0, c1, c2, c3, c4, c5] t)) ⟨by simp [go_sem], by simp [go_sem], by simp [go_sem], by simp [go_sem], by simp [go_sem], by simp [go_sem]⟩ hb (by simp)
theorem kind7 {k : Int} (h : inR k 1 7 = true) : k = 1 ∨ k = 2 ∨ k = 3 ∨ k = 4 ∨ k = 5 ∨ k = 6 ∨ k = 7 := by
  have : 1 ≤ k ∧ k ≤ 7 := by simpa [inR] using h
  omega
end Go.Proofs.YtfapnipmgmpgaaaGreatDoor

namespace Go.Proofs.YtfapnipmgmpgaaaGreatDoor
open Go.RowKit

def szE (e : GEdit) (left : Int) : Int := if szRs e.part left < 0 then -1 else if szRs e.part left - e.map.size < 0 then -1 else szRs e.part left - e.map.size
set_option maxRecDepth 100000 in
theorem szEdit_any (v : Value) (e : GEdit) (left : Int) (w : World) (h : EditV w w.heap.size v e) (hsm : SmallL e.part) (hm : e.map.size ≤ maxLen) (hl : 0 ≤ left ∧ left ≤ 1048576) :
    Calls Tryz.prog 10 #[v, .int .i64 left] w fun r w' => r = .returned (.int .i64 (szE e left)) ∧ Below w.heap.size w w' := by
  obtain ⟨vR, rfl, hR⟩ := h
  unfold maxLen at hm
  have HR := Lib.hid (fun o => (hR.below ((Below.refl w.heap.size w).alloc (Nat.le_refl _) o)).le (B' := (w.alloc o).heap.size) (by simp))
  obtain ⟨AR, cR, rfl, _⟩ := hR
  go_enter Tryz.func10, Tryz.ntmps10
  go_wp2_with fail
  refine (szGrammar_any _ e.part _ _ (HR.out _) hsm hl).mono ?_
  rintro r w1 ⟨rfl, hb1⟩
  have z1 : w.heap.size < w1.heap.size := Nat.lt_of_lt_of_le (by simp) hb1.size
  have x5 := (hb1.cell (p := ⟨w.heap.size, 5, none⟩) (by simp)).trans (show _ = some (Value.string e.map) by simp [go_sem])
  have B1 := Lib.hid (((Below.refl w.heap.size w).alloc (Nat.le_refl _) _).trans (hb1.mono (by simp)))
  clear hb1
  by_cases c1 : szRs e.part left < 0
  · rw [if_pos c1]
    have C1 := Lib.hid c1
    clear c1
    go_wp2_with fail
    go_ret
    exact ⟨ret_int (by rw [szE, if_pos C1.out]), B1.out⟩
  · rw [if_neg c1]
    obtain ⟨hle, _⟩ := szRs_le e.part left (by omega)
    have C1 := Lib.hid c1
    obtain ⟨X, hX⟩ : ∃ X, szRs e.part left = X := ⟨_, rfl⟩
    rw [hX] at c1 hle
    rw [hX]
    have HX := Lib.hid hX
    have ws : IntKind.i64.wrap (X - (e.map.size : Int)) = X - (e.map.size : Int) := IntWalk.i64_in _ (by omega)
    clear hX
    by_cases c2 : X - (e.map.size : Int) < 0
    · have C2 := Lib.hid c2
      go_wp2_with fail
      go_ret
      exact ⟨ret_int (by rw [szE, if_neg (by have := C1.out; omega), HX.out, if_pos C2.out]), B1.out⟩
    · have C2 := Lib.hid c2
      go_wp2_with fail
      go_ret
      exact ⟨ret_int (by rw [szE, if_neg (by have := C1.out; omega), HX.out, if_neg (by have := C2.out; omega)]), B1.out⟩

theorem eqEdit_any (v v' : Value) (e : GEdit) (w : World) (h : EditV w w.heap.size v e) (h' : EditV w w.heap.size v' e) :
    Calls Tryz.prog 16 #[v, v'] w fun r w' => r = .returned (.bool true) ∧ Below w.heap.size w w' := by
  obtain ⟨vR, rfl, hR⟩ := h
  obtain ⟨vR', rfl, hR'⟩ := h'
  have hB := fun o o' => ((Below.refl w.heap.size w).alloc (Nat.le_refl _) o).alloc (by simp) o'
  have HB := Lib.hid hB
  have HR := Lib.hid hR
  have HR' := Lib.hid hR'
  clear hB
  obtain ⟨AR, cR, rfl, _⟩ := hR
  obtain ⟨AR', cR', rfl, _⟩ := hR'
  have q1 : (e.kind != e.kind) = false := by simp
  have q2 : (e.i != e.i) = false := by simp
  have q3 : (e.j != e.j) = false := by simp
  have q4 : (e.k != e.k) = false := by simp
  go_enter Tryz.func16, Tryz.ntmps16
  go_wp2_with fail
  refine (eqGrammar_any _ _ e.part _ ((HR.out.below (HB.out _ _)).le (by first | omega | (simp; done) | (simp; omega))) ((HR'.out.below (HB.out _ _)).le (by first | omega | (simp; done) | (simp; omega)))).mono ?_
  rintro r w1 ⟨rfl, hb1⟩
  have hz1 : w.heap.size + 2 ≤ w1.heap.size := by have := hb1.size; simp at this; omega
  have x5 := (hb1.cell (p := ⟨w.heap.size, 5, none⟩) (by simp; omega)).trans (show _ = some (Value.string e.map) by simp [go_sem])
  have y5 := (hb1.cell (p := ⟨w.heap.size + 1, 5, none⟩) (by simp)).trans (show _ = some (Value.string e.map) by simp [go_sem])
  have B1 := Lib.hid ((HB.out _ _).trans (hb1.mono (by simp; omega)))
  clear hb1
  go_wp2_with fail
  go_ret
  exact ⟨rfl, B1.out⟩
end Go.Proofs.YtfapnipmgmpgaaaGreatDoor

namespace Go.Proofs.YtfapnipmgmpgaaaGreatDoor

/-- What the reference's cover of a part is. -/
def coverS (xs : List GRule) (ls : List Int) : Nat → Nat → Int → Int → List Nat
  | 0, _, _, _ => []
  | f + 1, r, i, j =>
    if j ≤ i then [] else if i = 0 ∧ j = ls.getD r 0 then [r] else
      coverS xs ls f (getR xs r).left.toNat i (min j (ls.getD (getR xs r).left.toNat 0)) ++ coverS xs ls f (getR xs r).right.toNat (max (i - ls.getD (getR xs r).left.toNat 0) 0) (j - ls.getD (getR xs r).left.toNat 0)
theorem coverS_eq {xs : List GRule} {ls : List Int} (hl : lens xs = some ls) {i j : Int} (hij : i < j) : ∀ (f r : Nat) (p : Int), r < f → r < xs.length →
    coverS xs ls f r (max (i - p) 0) (min (j - p) (ls.getD r 0)) = coverR xs ls i j f r p := by
  intro f
  induction f with
  | zero => intro r p hr; omega
  | succ f ih =>
    intro r p hr hx
    have h1 := lens_pos' hl hx
    rw [coverS, coverR]
    by_cases c1 : p + ls.getD r 0 ≤ i ∨ j ≤ p
    · rw [if_pos c1, if_pos (by omega)]
    rw [if_neg c1, if_neg (by omega)]
    by_cases c2 : i ≤ p ∧ p + ls.getD r 0 ≤ j
    · rw [if_pos c2, if_pos (by omega)]
    rw [if_neg c2, if_neg (by omega)]
    cases hpair : (getR xs r).pair with
    | false => have := lens_letter hl hx hpair; omega
    | true =>
      obtain ⟨q1, q2, q3, q4, q5⟩ := lens_pair hl hx hpair
      have hL := lens_pos' hl (r := (getR xs r).left.toNat) (by omega)
      have hR := lens_pos' hl (r := (getR xs r).right.toNat) (by omega)
      have e1 := ih (getR xs r).left.toNat p (by omega) (by omega)
      have e2 := ih (getR xs r).right.toNat (p + ls.getD (getR xs r).left.toNat 0) (by omega) (by omega)
      rw [← e1, ← e2]
      congr 1
      · congr 1; omega
      · congr 1 <;> omega
theorem pieces_cover {xs : List GRule} {ls : List Int} (hl : lens xs = some ls) {i j : Int} (hi : 0 ≤ i) (hij : i < j) (hj : j ≤ lastI ls) (h0 : 0 < xs.length) : piecesL xs ls i j = coverS xs ls xs.length (xs.length - 1) i j := by
  have hll := lens_length hl
  have e : lastI ls = ls.getD (xs.length - 1) 0 := by rw [lastI, hll]
  have := coverS_eq hl hij xs.length (xs.length - 1) 0 (by omega) (by omega)
  rw [piecesL, if_pos ⟨h0, hij⟩, ← this]
  congr 1 <;> omega
theorem cover_mem {xs : List GRule} {ls : List Int} (hl : lens xs = some ls) {i j : Int} : ∀ (f r : Nat) (p : Int), r < f → r < xs.length → ∀ x ∈ coverR xs ls i j f r p, x < xs.length := by
  intro f
  induction f with
  | zero => intro r p hr; omega
  | succ f ih =>
    intro r p hr hx y hy
    rw [coverR] at hy
    have h1 := lens_pos' hl hx
    split at hy
    · simp at hy
    split at hy
    · simp at hy; omega
    rename_i c1 c2
    cases hpair : (getR xs r).pair with
    | false => have := lens_letter hl hx hpair; omega
    | true =>
      obtain ⟨q1, q2, q3, q4, q5⟩ := lens_pair hl hx hpair
      rcases List.mem_append.1 hy with hy | hy
      · exact ih _ _ (by omega) (by omega) y hy
      · exact ih _ _ (by omega) (by omega) y hy
theorem cover_one {xs : List GRule} {ls : List Int} (hl : lens xs = some ls) {i j : Int} : ∀ (f r : Nat) (p : Int), r < f → r < xs.length → (i ≤ p ∨ p + ls.getD r 0 ≤ j) → (coverR xs ls i j f r p).length ≤ r + 1 := by
  intro f
  induction f with
  | zero => intro r p hr; omega
  | succ f ih =>
    intro r p hr hx ho
    rw [coverR]
    have h1 := lens_pos' hl hx
    split
    · simp
    split
    · simp
    rename_i c1 c2
    cases hpair : (getR xs r).pair with
    | false => have := lens_letter hl hx hpair; omega
    | true =>
      obtain ⟨q1, q2, q3, q4, q5⟩ := lens_pair hl hx hpair
      have hL := lens_pos' hl (r := (getR xs r).left.toNat) (by omega)
      have hR := lens_pos' hl (r := (getR xs r).right.toNat) (by omega)
      obtain ⟨g, rfl⟩ : ∃ g, f = g + 1 := ⟨f - 1, by omega⟩
      rw [List.length_append]
      rcases ho with ho | ho
      · by_cases c3 : p + ls.getD (getR xs r).left.toNat 0 ≤ j
        · have e1 : (coverR xs ls i j (g + 1) (getR xs r).left.toNat p).length = 1 := by rw [coverR, if_neg (by omega), if_pos (by omega)]; rfl
          have e2 := ih (getR xs r).right.toNat (p + ls.getD (getR xs r).left.toNat 0) (by omega) (by omega) (.inl (by omega))
          omega
        · have e2 : (coverR xs ls i j (g + 1) (getR xs r).right.toNat (p + ls.getD (getR xs r).left.toNat 0)).length = 0 := by rw [coverR, if_pos (by omega)]; rfl
          have e1 := ih (getR xs r).left.toNat p (by omega) (by omega) (.inl ho)
          omega
      · by_cases c3 : i ≤ p + ls.getD (getR xs r).left.toNat 0
        · have e2 : (coverR xs ls i j (g + 1) (getR xs r).right.toNat (p + ls.getD (getR xs r).left.toNat 0)).length ≤ 1 := by
            rw [coverR]
            split
            · simp
            rw [if_pos (by omega)]; simp
          have e1 := ih (getR xs r).left.toNat p (by omega) (by omega) (.inr (by omega))
          omega
        · have e1 : (coverR xs ls i j (g + 1) (getR xs r).left.toNat p).length = 0 := by rw [coverR, if_pos (by omega)]; rfl
          have e2 := ih (getR xs r).right.toNat (p + ls.getD (getR xs r).left.toNat 0) (by omega) (by omega) (.inr (by omega))
          omega
theorem cover_two {xs : List GRule} {ls : List Int} (hl : lens xs = some ls) {i j : Int} : ∀ (f r : Nat) (p : Int), r < f → r < xs.length → (coverR xs ls i j f r p).length ≤ 2 * (r + 1) := by
  intro f
  induction f with
  | zero => intro r p hr; omega
  | succ f ih =>
    intro r p hr hx
    rw [coverR]
    have h1 := lens_pos' hl hx
    split
    · simp
    split
    · simp; omega
    rename_i c1 c2
    cases hpair : (getR xs r).pair with
    | false => have := lens_letter hl hx hpair; omega
    | true =>
      obtain ⟨q1, q2, q3, q4, q5⟩ := lens_pair hl hx hpair
      have hL := lens_pos' hl (r := (getR xs r).left.toNat) (by omega)
      have hR := lens_pos' hl (r := (getR xs r).right.toNat) (by omega)
      obtain ⟨g, rfl⟩ : ∃ g, f = g + 1 := ⟨f - 1, by omega⟩
      rw [List.length_append]
      by_cases c3 : j ≤ p + ls.getD (getR xs r).left.toNat 0
      · have e2 : (coverR xs ls i j (g + 1) (getR xs r).right.toNat (p + ls.getD (getR xs r).left.toNat 0)).length = 0 := by rw [coverR, if_pos (by omega)]; rfl
        have e1 := ih (getR xs r).left.toNat p (by omega) (by omega)
        omega
      · by_cases c4 : p + ls.getD (getR xs r).left.toNat 0 ≤ i
        · have e1 : (coverR xs ls i j (g + 1) (getR xs r).left.toNat p).length = 0 := by rw [coverR, if_pos (by omega)]; rfl
          have e2 := ih (getR xs r).right.toNat (p + ls.getD (getR xs r).left.toNat 0) (by omega) (by omega)
          omega
        · have e1 := cover_one hl (i := i) (j := j) (g + 1) (getR xs r).left.toNat p (by omega) (by omega) (.inr (by omega))
          have e2 := cover_one hl (i := i) (j := j) (g + 1) (getR xs r).right.toNat (p + ls.getD (getR xs r).left.toNat 0) (by omega) (by omega) (.inl (by omega))
          omega
theorem cover_pos {xs : List GRule} {ls : List Int} (hl : lens xs = some ls) {i j : Int} (hij : i < j) : ∀ (f r : Nat) (p : Int), r < f → r < xs.length → i < p + ls.getD r 0 → p < j → 0 < (coverR xs ls i j f r p).length := by
  intro f
  induction f with
  | zero => intro r p hr; omega
  | succ f ih =>
    intro r p hr hx ha hb
    rw [coverR, if_neg (by omega)]
    have h1 := lens_pos' hl hx
    split
    · simp
    rename_i c2
    cases hpair : (getR xs r).pair with
    | false => have := lens_letter hl hx hpair; omega
    | true =>
      obtain ⟨q1, q2, q3, q4, q5⟩ := lens_pair hl hx hpair
      have hL := lens_pos' hl (r := (getR xs r).left.toNat) (by omega)
      have hR := lens_pos' hl (r := (getR xs r).right.toNat) (by omega)
      rw [List.length_append]
      by_cases c3 : i < p + ls.getD (getR xs r).left.toNat 0
      · have := ih (getR xs r).left.toNat p (by omega) (by omega) c3 hb
        omega
      · have := ih (getR xs r).right.toNat (p + ls.getD (getR xs r).left.toNat 0) (by omega) (by omega) (by omega) (by omega)
        omega

/-- The rules of a cover joined, behind the rules. -/
def joinStep (p : List GRule × Int) (c : Nat) : List GRule × Int := (p.1 ++ [pairR p.2 c], (p.1.length : Int))
def cutG (xs : List GRule) : List Nat → List GRule
  | [] => []
  | [c] => xs.take (c + 1)
  | c :: d :: cs => ((d :: cs).foldl joinStep (xs, (c : Int))).1
def partG (xs : List GRule) (ls : List Int) (i j : Int) : List GRule := trimG (cutG xs (piecesL xs ls i j))
theorem join_ok {m : Nat} : ∀ (cs : List Nat) (p : List GRule × Int), (∀ c ∈ cs, c < m) → m ≤ p.1.length → OkAll p.1 → 0 ≤ p.2 ∧ p.2 < p.1.length → OkAll (cs.foldl joinStep p).1 ∧ (cs.foldl joinStep p).1.length = p.1.length + cs.length
  | [], p, _, _, h, _ => ⟨h, rfl⟩
  | c :: cs, p, hc, hm, h, hp => by
    have hcm := hc c (by simp)
    have := join_ok cs (joinStep p c) (fun d hd => hc d (by simp [hd])) (by simp [joinStep]; omega) (h.snoc (okRule_pair hp ⟨by omega, by omega⟩)) (by simp [joinStep]; omega)
    refine ⟨this.1, ?_⟩
    rw [List.foldl_cons, this.2]
    simp [joinStep]; omega
theorem okAll_take {xs : List GRule} (h : OkAll xs) (n : Nat) : OkAll (xs.take n) := fun k r hk => by
  rw [List.getElem?_take] at hk
  split at hk
  · exact h k r hk
  · cases hk
theorem cutG_ok {xs : List GRule} (h : OkAll xs) (cs : List Nat) (hc : ∀ c ∈ cs, c < xs.length) : OkAll (cutG xs cs) ∧ (cutG xs cs).length ≤ xs.length + cs.length := by
  match cs with
  | [] => exact ⟨fun k r hk => by simp [cutG] at hk, by simp [cutG]⟩
  | [c] => exact ⟨okAll_take h _, by simp [cutG]; omega⟩
  | c :: d :: cs =>
    have := join_ok (d :: cs) (xs, (c : Int)) (fun x hx => hc x (by simp at hx; simp; exact .inr hx)) (Nat.le_refl _) h (by have := hc c (by simp); simp; omega)
    refine ⟨this.1, ?_⟩
    have e : (cutG xs (c :: d :: cs)).length = xs.length + (d :: cs).length := this.2
    rw [e]; simp
theorem pieces_len {xs : List GRule} {ls : List Int} (hl : lens xs = some ls) (i j : Int) : (piecesL xs ls i j).length ≤ 2 * xs.length := by
  unfold piecesL
  split
  · rename_i h
    have := cover_two hl (i := i) (j := j) xs.length (xs.length - 1) 0 (by omega) (by omega)
    omega
  · simp
theorem pieces_mem {xs : List GRule} {ls : List Int} (hl : lens xs = some ls) (i j : Int) : ∀ x ∈ piecesL xs ls i j, x < xs.length := by
  unfold piecesL
  split
  · rename_i h
    exact cover_mem hl xs.length (xs.length - 1) 0 (by omega) (by omega)
  · simp
theorem pieces_pos {xs : List GRule} {ls : List Int} (hl : lens xs = some ls) {i j : Int} (hi : 0 ≤ i) (hij : i < j) (hj : j ≤ lastI ls) (h0 : 0 < xs.length) : 0 < (piecesL xs ls i j).length := by
  have hll := lens_length hl
  have e : lastI ls = ls.getD (xs.length - 1) 0 := by rw [lastI, hll]
  rw [piecesL, if_pos ⟨h0, hij⟩]
  exact cover_pos hl hij xs.length (xs.length - 1) 0 (by omega) (by omega) (by omega) (by omega)
theorem partG_len {xs : List GRule} {ls : List Int} (hl : lens xs = some ls) (i j : Int) : (partG xs ls i j).length ≤ 3 * xs.length := by
  have h1 := trimG_len (cutG xs (piecesL xs ls i j))
  have h2 := (cutG_ok (okAll_lens hl) _ (pieces_mem hl i j)).2
  have h3 := pieces_len hl i j
  unfold partG; omega
end Go.Proofs.YtfapnipmgmpgaaaGreatDoor

namespace Go.Proofs.YtfapnipmgmpgaaaGreatDoor
open Go.RowKit

def keyV (r : GRule) : Value := .agg #[.string r.letter, .int .i64 r.left, .int .i64 r.right]
def KeyOk (r : GRule) : Prop := r.letter.size ≤ 1 ∧ (-9223372036854775808 ≤ r.left ∧ r.left ≤ 9223372036854775807) ∧ (-9223372036854775808 ≤ r.right ∧ r.right ≤ 9223372036854775807)
theorem keyV_inj {r s : GRule} (h : keyV r = keyV s) : r = s := by
  cases r; cases s
  simp [keyV] at h
  obtain ⟨h1, h2, h3⟩ := h
  subst h1 h2 h3; rfl
theorem laidOutP : laidOutB Tryz.prog = true := by kernel_rfl
theorem rowRule : (123 : TypeId) < Tryz.prog.types.size := of_decide_eq_true (by kernel_rfl)
theorem keyTypeRule : Tryz.prog.keyTypeAt 2 123 = true := by kernel_rfl
theorem ruleKey : WideMaps.KeyLaw Tryz.prog 123 := deep_law_laid laidOutP (m := 2) (by omega) rowRule keyTypeRule (by rw [Tryz.underlying123])
theorem cellsRule : Tryz.prog.cellsOf 123 = 3 := by kernel_rfl
theorem formedRule (l : ByteArray) (a b : Int) : (Value.agg #[.string l, .int .i64 a, .int .i64 b]).formed Tryz.prog 123 = true := by simp [Value.formed, Tryz.underlying123, cellsRule]
theorem litsRule (D : Nat) (l : ByteArray) (a b : Int) (hl : l.size ≤ 1) (ha : (Lit.int .i64 a).wf = true) (hb : (Lit.int .i64 b).wf = true) :
    Tryz.prog.keyLits (D + 2) 123 [.string l, .int .i64 a, .int .i64 b] = some [.string l.data.toList, .int .i64 a, .int .i64 b] := by
  have hm : l.size ≤ maxLen := Nat.le_trans hl (by decide)
  have c9 : Tryz.prog.cellsOf 9 = 1 := by kernel_rfl
  have c2 : Tryz.prog.cellsOf 2 = 1 := by kernel_rfl
  simp [cellsRule, Tryz.underlying123, c9, c2, Program.keyLits, Tryz.underlying9, Tryz.underlying2, hm, ha, hb, List.mapM_cons]
theorem keyOf_rule {r : GRule} (h : KeyOk r) : ∃ l, keyOf Tryz.prog 123 (keyV r) = some l := by
  obtain ⟨h1, h2, h3⟩ := h
  have hw1 : (Lit.int .i64 r.left).wf = true := WalkArith.wf_i64 h2
  have hw2 : (Lit.int .i64 r.right).wf = true := WalkArith.wf_i64 h3
  obtain ⟨D, hD⟩ : ∃ D, Tryz.prog.types.size + 1 = D + 2 := ⟨Tryz.prog.types.size - 1, by have h9 : 1 < Tryz.prog.types.size := Nat.lt_of_le_of_lt (by decide) rowRule; omega⟩
  have hk : Tryz.prog.keyType 123 = true := by kernel_rfl
  have hlits := litsRule D r.letter r.left r.right h1 hw1 hw2
  rw [← hD] at hlits
  refine ⟨.string (keyBytes [.string r.letter.data.toList, .int .i64 r.left, .int .i64 r.right]), ?_⟩
  unfold keyOf keyV
  rw [Tryz.underlying123]
  have hc : (Value.agg #[.string r.letter, .int .i64 r.left, .int .i64 r.right]).cells.toList = [.string r.letter, .int .i64 r.left, .int .i64 r.right] := rfl
  show (if (Tryz.prog.keyType 123 && (Value.agg #[.string r.letter, .int .i64 r.left, .int .i64 r.right]).formed Tryz.prog 123) = true then
    (Tryz.prog.keyLits (Tryz.prog.types.size + 1) 123 (Value.agg #[.string r.letter, .int .i64 r.left, .int .i64 r.right]).cells.toList).map fun ls => Lit.string (keyBytes ls) else none) = _
  rw [hk, formedRule, hc, if_pos (show (true && true) = true from rfl), hlits]
  rfl

/-- A map of rules in block b: the first place of each rule of the list. -/
def RMap (w : World) (b : Nat) (ks : List GRule) : Prop :=
  ∃ es clock, w.heap[b]? = some (.map es clock) ∧ (∀ e ∈ es.toList, ∃ r, KeyOk r ∧ e.key = keyV r ∧ r ∈ ks ∧ e.val = .int .i64 (ks.idxOf r : Nat)) ∧ ∀ r ∈ ks, ∃ e ∈ es.toList, e.key = keyV r
section
variable {w w' : World} {b : Nat} {ks : List GRule} {r : GRule}
theorem RMap.made (w : World) : RMap (w.alloc (.map #[] 0)) w.heap.size [] := ⟨#[], 0, (MapKept.heap_alloc w _).1, by simp, by simp⟩
theorem RMap.lt (h : RMap w b ks) : b < w.heap.size := by
  obtain ⟨es, clock, hb, _⟩ := h
  exact (Array.getElem?_eq_some_iff.1 hb).1
theorem RMap.of_block (h : RMap w b ks) (hb : w'.heap[b]? = w.heap[b]?) : RMap w' b ks := by
  obtain ⟨es, clock, h0, h1, h2⟩ := h
  exact ⟨es, clock, hb.trans h0, h1, h2⟩
theorem RMap.kept {row : Option Nat} (h : RMap w b ks) (hg : w.grownBy w' row) (hne : some b ≠ row) : RMap w' b ks := h.of_block (hg.block b h.lt hne)
theorem RMap.alloc (h : RMap w b ks) (o : Obj) : RMap (w.alloc o) b ks := h.kept (World.grownBy_alloc w o none) (by simp)
theorem RMap.drew (h : RMap w b ks) : RMap w.drew b ks := h
theorem RMap.below {N : Nat} (h : RMap w b ks) (hb : Below N w w') (hlt : b < N) : RMap w' b ks := h.of_block (hb.block b hlt)
theorem RMap.same (h : RMap w b ks) (hr : r ∈ ks) : RMap w b (ks ++ [r]) := by
  obtain ⟨es, clock, h0, h1, h2⟩ := h
  refine ⟨es, clock, h0, fun e he => ?_, fun s hs => ?_⟩
  · obtain ⟨s, a1, a2, a3, a4⟩ := h1 e he
    exact ⟨s, a1, a2, by simp [a3], by rw [List.idxOf_append, if_pos a3]; exact a4⟩
  · rcases List.mem_append.1 hs with hs | hs
    · exact h2 s hs
    · rw [List.mem_singleton] at hs; subst hs; exact h2 s hr
theorem RMap.find (h : RMap w b ks) (hk : KeyOk r) : ∃ es clock, w.heap[b]? = some (.map es clock) ∧ (∀ e ∈ es.toList, ∃ r, KeyOk r ∧ e.key = keyV r ∧ r ∈ ks ∧ e.val = .int .i64 (ks.idxOf r : Nat)) ∧
    ((r ∉ ks ∧ (Instr.findKey 123 (keyV r) es.toList).run Tryz.prog w = .ok none w) ∨ (r ∈ ks ∧ ∃ j, (Instr.findKey 123 (keyV r) es.toList).run Tryz.prog w = .ok (some (j, .int .i64 (ks.idxOf r : Nat))) w)) := by
  obtain ⟨es, clock, h0, h1, h2⟩ := h
  obtain ⟨l, hl⟩ := keyOf_rule hk
  refine ⟨es, clock, h0, h1, ?_⟩
  rcases ruleKey.find w hl es.toList (fun e he => by
    obtain ⟨s, a1, a2, _⟩ := h1 e he
    rw [a2]; exact keyOf_rule a1) with ⟨f1, f2⟩ | ⟨j, e, f1, f2, f3⟩
  · refine .inl ⟨fun hr => ?_, f1⟩
    obtain ⟨e, he, hek⟩ := h2 r hr
    exact f2 e he hek
  · obtain ⟨s, a1, a2, a3, a4⟩ := h1 e (List.mem_of_getElem? f2)
    have : s = r := keyV_inj (a2.symm.trans f3)
    subst this
    exact .inr ⟨a3, j, by rw [← a4]; exact f1⟩
theorem RMap.yes (h : RMap w b ks) (hk : KeyOk r) (hr : r ∈ ks) (c : Bool) :
    (Instr.lookup 157 (.map (some b)) (keyV r) c).run Tryz.prog w = .ok (if c then .tuple #[.int .i64 (ks.idxOf r : Nat), .bool true] else .int .i64 (ks.idxOf r : Nat)) w := by
  obtain ⟨es, clock, h0, h1, h2⟩ := h.find hk
  obtain ⟨l, hl⟩ := keyOf_rule hk
  rcases h2 with ⟨hn, _⟩ | ⟨_, j, hj⟩
  · exact absurd hr hn
  · simp [Instr.lookup, run_underlying Tryz.underlying157, MapKept.run_getObj_map h0, ruleKey.check w _ hl, hj, Result.andThen]
theorem RMap.no (h : RMap w b ks) (hk : KeyOk r) (hr : r ∉ ks) (c : Bool) :
    (Instr.lookup 157 (.map (some b)) (keyV r) c).run Tryz.prog w = .ok (if c then .tuple #[.int .i64 0, .bool false] else .int .i64 0) w := by
  obtain ⟨es, clock, h0, h1, h2⟩ := h.find hk
  obtain ⟨l, hl⟩ := keyOf_rule hk
  have hz : (zeroValue 2).run Tryz.prog w = .ok (.int .i64 0) w := by kernel_rfl
  rcases h2 with ⟨_, hj⟩ | ⟨hy, _⟩
  · simp [Instr.lookup, run_underlying Tryz.underlying157, MapKept.run_getObj_map h0, ruleKey.check w _ hl, hj, hz, Result.andThen]
  · exact absurd hy hr
open Go.ChangeMaps in
theorem RMap.put (h : RMap w b ks) (hk : KeyOk r) (hr : r ∉ ks) :
    ∃ w', (Instr.mapUpdate 157 (.map (some b)) (keyV r) (.int .i64 (ks.length : Nat))).run Tryz.prog w = .ok () w' ∧ RMap w' b (ks ++ [r]) ∧ w.grownBy w' (some b) := by
  have h' := h
  obtain ⟨es0, clock0, g0, g1, g2⟩ := h'
  obtain ⟨es, clock, h0, h1, h2⟩ := h.find hk
  obtain ⟨l, hl⟩ := keyOf_rule hk
  have he : es0 = es ∧ clock0 = clock := by
    rw [g0] at h0
    have := Option.some.inj h0
    exact ⟨by injection this, by injection this⟩
  obtain ⟨rfl, rfl⟩ := he
  rcases h2 with ⟨_, hj⟩ | ⟨hy, _⟩
  · refine ⟨setBlock w b (.map (es0.push ⟨keyV r, .int .i64 (ks.length : Nat), clock0⟩) (clock0 + 1)), ?_, ⟨_, _, heap_setBlock_same g0 _, ?_, ?_⟩, ⟨rfl, rfl, rfl, by simp [setBlock], fun i _ hi => heap_setBlock_other g0 _ (fun e => hi (by rw [e]))⟩⟩
    · simp [Instr.mapUpdate, run_underlying Tryz.underlying157, MapKept.run_getObj_map g0, ruleKey.check w false hl, hj, MapKept.run_setObj_map _ g0, Result.andThen, setBlock]
    · intro e he
      simp only [Array.toList_push, List.mem_append, List.mem_singleton] at he
      rcases he with he | rfl
      · obtain ⟨s, a1, a2, a3, a4⟩ := g1 e he
        exact ⟨s, a1, a2, by simp [a3], by rw [List.idxOf_append, if_pos a3]; exact a4⟩
      · exact ⟨r, hk, rfl, by simp, by rw [List.idxOf_append, if_neg hr]; simp⟩
    · intro s hs
      simp only [Array.toList_push, List.mem_append, List.mem_singleton]
      rcases List.mem_append.1 hs with hs | hs
      · obtain ⟨e, he, hek⟩ := g2 s hs
        exact ⟨e, .inl he, hek⟩
      · rw [List.mem_singleton] at hs; subst hs; exact ⟨_, .inr rfl, rfl⟩
  · exact absurd hy hr
end
end Go.Proofs.YtfapnipmgmpgaaaGreatDoor

namespace Go.Proofs.YtfapnipmgmpgaaaGreatDoor
open Go.RowKit

def limOut (xs : List GRule) : List GRule := if gramOk xs then xs else []
def limCode (xs : List GRule) : Int := if gramOk xs then 0 else 3
def joinOut (xs ys : List GRule) : List GRule := if gramOk xs && gramOk ys then limOut (joinG xs ys) else []
def joinCode (xs ys : List GRule) : Int := if gramOk xs && gramOk ys then limCode (joinG xs ys) else 1

theorem lens_okRule {xs : List GRule} {ls : List Int} (h : lens xs = some ls) : ∀ (k : Nat) r, xs[k]? = some r → okRule k r = true := by
  intro k r hr
  rcases hk : lens (xs.take k) with _ | out
  · have h2 : lens xs = (xs.drop k).foldl lensStep (lens (xs.take k)) := by unfold lens; rw [← List.foldl_append, List.take_append_drop]
    rw [h2, hk, lens_none] at h; cases h
  · by_cases hok : okRule k r = true
    · exact hok
    · have hlen := lens_length hk
      rw [List.length_take, Nat.min_eq_left (Nat.le_of_lt (List.getElem?_eq_some_iff.1 hr).1)] at hlen
      have hb := lens_bad hk hr (lensStep_none (by rw [hlen]; simpa using hok))
      rw [hb] at h; cases h
theorem gram_lens {xs : List GRule} (h : gramOk xs = true) : xs.length ≤ 400 ∧ ∃ ls, lens xs = some ls := by
  simp only [gramOk, Bool.and_eq_true, decide_eq_true_eq] at h
  exact ⟨h.1, Option.isSome_iff_exists.1 h.2⟩
theorem gram_smallP {xs : List GRule} (h : gramOk xs = true) : SmallP xs := by
  obtain ⟨hl, ls, hls⟩ := gram_lens h
  intro r hr hp
  obtain ⟨k, hk, he⟩ := List.getElem_of_mem hr
  have hok := lens_okRule hls k r (by rw [List.getElem?_eq_getElem hk, he])
  simp [okRule, hp] at hok
  omega
theorem joinG_len {xs ys : List GRule} (h : xs.length ≤ 400) (h' : ys.length ≤ 400) : (joinG xs ys).length ≤ 801 := by
  unfold joinG
  split
  · omega
  · split
    · omega
    · simp; omega

def LimPost (base : Nat) (xs : List GRule) (w : World) (e : Ending) (w' : World) : Prop :=
  Below w.heap.size w w' ∧ ∃ v', OwnRules w' base v' (limOut xs) ∧ e = .returned (.tuple #[.agg #[v'], .int .i64 (limCode xs)])

theorem orLimit_any (base : Nat) (v : Value) (xs : List GRule) (w : World) (h : OwnRules w base v xs) (hn : xs.length ≤ 1099511627776) :
    Calls Tryz.prog 104 #[.agg #[v]] w (LimPost base xs w) := by
  have h1 := fun o o' => (h.sl.below (((Below.refl w.heap.size w).alloc (Nat.le_refl _) o).alloc (by simp) o')).le (B' := ((w.alloc o).alloc o').heap.size) (by simp; omega)
  have hv : v.ownBlock ≠ some (w.heap.size + 1) := fun e => by have := (World.ownsRow.lt h _ e).2; omega
  have H1 := Lib.hid h1
  have H := Lib.hid h
  have Hv := Lib.hid hv
  clear h1 hv
  obtain ⟨A, c, rfl, _⟩ := own_nil h
  clear h
  go_enter Tryz.func104, Tryz.ntmps104
  go_wp2_with fail
  refine (ValidGrammar_any _ _ _ (H1.out _ _) hn).mono ?_
  rintro e w1 ⟨rfl, hb1⟩
  obtain ⟨hc1, hf1⟩ := bcell hb1
  have hz1 : w.heap.size + 1 < w1.heap.size := by have := hb1.size; simp at this; omega
  have hc2 : w1.cell? ⟨w.heap.size + 1, 0, none⟩ = some (.slice none 0 0) := by rw [hc1 _ _ (by simp)]; simp [go_sem]
  have hf2 : w1.frozen? ⟨w.heap.size + 1, 0, none⟩ = false := by rw [hf1 _ _ (by simp)]; simp [go_sem]
  have hc3 : w1.cell? ⟨w.heap.size, 0, none⟩ = some (.slice A xs.length c) := by rw [hc1 _ _ (by simp; omega)]; simp [go_sem]
  have Hb1 := Lib.hid (((Below.refl w.heap.size w).alloc (Nat.le_refl _) (Obj.cells #[Value.slice A xs.length c] 31)).alloc (by simp) (Obj.cells #[Value.slice none 0 0] 31) |>.trans (hb1.mono (by simp; omega)))
  clear hc1 hf1 hb1
  by_cases hok : gramOk xs = true
  · have hok2 : (!gramOk xs) = false := by simp [hok]
    have Hok := Lib.hid hok
    clear hok
    go_wp2
    refine bodyPost_ret (v := .tuple #[.agg #[.slice A xs.length c], .int .i64 0]) (by simp [results, Tryz.results104, go_sem, hc2]) rfl ⟨?_, _, ?_, by rw [limCode, if_pos Hok.out]⟩
    · exact Hb1.out.setCell (by show w.heap.size ≤ w.heap.size + 1; omega) _
    · rw [limOut, if_pos Hok.out]
      refine own_keep (OwnRules.below H.out Hb1.out) fun g hg => Below.heap_setCell _ _ _ _ (fun e => Hv.out ?_)
      rw [hg, e]
  · have hok2 : (!gramOk xs) = true := by simp [hok]
    have Hok := Lib.hid hok
    clear hok
    go_wp2
    refine bodyPost_ret (v := .tuple #[.agg #[.slice none 0 0], .int .i64 3]) (by simp [results, Tryz.results104, go_sem, hc2]) rfl ⟨?_, _, ?_, by rw [limCode, if_neg Hok.out]⟩
    · exact Hb1.out.setCell (by show w.heap.size ≤ w.heap.size + 1; omega) _
    · rw [limOut, if_neg Hok.out]; exact World.ownsRow_nil _ _ _ _

end Go.Proofs.YtfapnipmgmpgaaaGreatDoor

namespace Go.Proofs.YtfapnipmgmpgaaaGreatDoor
open Go.RowKit

theorem l02Raised_any (r : GRule) (n : Nat) (w : World) (hn : n ≤ 1099511627776) (hp : r.pair = true → -1099511627776 ≤ r.left ∧ r.left ≤ 1099511627776 ∧ -1099511627776 ≤ r.right ∧ r.right ≤ 1099511627776) :
    Calls Tryz.prog 156 #[.agg #[.string r.letter, .int .i64 r.left, .int .i64 r.right], .int .i64 n] w fun e w' => e = .returned (.agg #[.string (raiseR n r).letter, .int .i64 (raiseR n r).left, .int .i64 (raiseR n r).right]) ∧ Below w.heap.size w w' := by
  by_cases hpr : r.pair = true
  · obtain ⟨p1, p2, p3, p4⟩ := hp hpr
    have hemp : r.letter.toList.isEmpty = true := by rw [isEmpty_size]; exact hpr
    have e : raiseR n r = { letter := r.letter, left := r.left + n, right := r.right + n } := by rw [raiseR, if_pos hpr]
    rw [e]
    clear hpr e hp
    go_enter Tryz.func156, Tryz.ntmps156
    go_wp2
    exact bodyPost_ret (v := .agg #[.string r.letter, .int .i64 (r.left + n), .int .i64 (r.right + n)]) (by simp [results, Tryz.results156, go_sem]) rfl ⟨rfl, (by repeat (first | exact (Below.refl _ _) | (refine Below.alloc ?_ (by first | omega | (simp; done) | (simp; omega)) _) | refine below_drewN ?_ _ | refine Below.drew ?_))⟩
  · have hemp : r.letter.toList.isEmpty = false := by rw [isEmpty_size]; simpa [GRule.pair] using hpr
    have e : raiseR n r = r := by rw [raiseR, if_neg hpr]
    rw [e]
    clear hpr e hp
    go_enter Tryz.func156, Tryz.ntmps156
    go_wp2
    exact bodyPost_ret (v := .agg #[.string r.letter, .int .i64 r.left, .int .i64 r.right]) (by simp [results, Tryz.results156, go_sem]) rfl ⟨rfl, (by repeat (first | exact (Below.refl _ _) | (refine Below.alloc ?_ (by first | omega | (simp; done) | (simp; omega)) _) | refine below_drewN ?_ _ | refine Below.drew ?_))⟩

theorem l02Told_any (base : Nat) (v : Value) (xs : List GRule) (w : World) (h : OwnRules w base v xs) (hsm : SmallL xs) :
    Calls Tryz.prog 134 #[.agg #[v]] w (LimPost base xs w) := by
  have h1 := fun o o' => (h.sl.below (((Below.refl w.heap.size w).alloc (Nat.le_refl _) o).alloc (by simp) o')).le (B' := ((w.alloc o).alloc o').heap.size) (by simp; omega)
  have hv : v.ownBlock ≠ some (w.heap.size + 1) := fun e => by have := (World.ownsRow.lt h _ e).2; omega
  have H1 := Lib.hid h1
  have H := Lib.hid h
  have Hv := Lib.hid hv
  clear h1 hv
  obtain ⟨A, c, rfl, _⟩ := own_nil h
  clear h
  go_enter Tryz.func134, Tryz.ntmps134
  go_wp2_with fail
  refine (l02Ok_any _ _ _ _ _ (by simp [go_sem]) (by first | omega | (simp; done) | (simp; omega)) (H1.out _ _) hsm).mono ?_
  rintro e w1 ⟨rfl, hb1⟩
  obtain ⟨hc1, hf1⟩ := bcell hb1
  have hz1 : w.heap.size + 1 < w1.heap.size := by have := hb1.size; simp at this; omega
  have hc2 : w1.cell? ⟨w.heap.size + 1, 0, none⟩ = some (.slice none 0 0) := by rw [hc1 _ _ (by simp)]; simp [go_sem]
  have hf2 : w1.frozen? ⟨w.heap.size + 1, 0, none⟩ = false := by rw [hf1 _ _ (by simp)]; simp [go_sem]
  have hc3 : w1.cell? ⟨w.heap.size, 0, none⟩ = some (.slice A xs.length c) := by rw [hc1 _ _ (by simp; omega)]; simp [go_sem]
  have Hb1 := Lib.hid (((Below.refl w.heap.size w).alloc (Nat.le_refl _) (Obj.cells #[Value.slice A xs.length c] 31)).alloc (by simp) (Obj.cells #[Value.slice none 0 0] 31) |>.trans (hb1.mono (by simp; omega)))
  clear hc1 hf1 hb1
  by_cases hok : gramOk xs = true
  · have hok2 : (!gramOk xs) = false := by simp [hok]
    have Hok := Lib.hid hok
    clear hok
    go_wp2
    refine bodyPost_ret (v := .tuple #[.agg #[.slice A xs.length c], .int .i64 0]) (by simp [results, Tryz.results134, go_sem, hc2]) rfl ⟨?_, _, ?_, by rw [limCode, if_pos Hok.out]⟩
    · exact Hb1.out.setCell (by show w.heap.size ≤ w.heap.size + 1; omega) _
    · rw [limOut, if_pos Hok.out]
      refine own_keep (OwnRules.below H.out Hb1.out) fun g hg => Below.heap_setCell _ _ _ _ (fun e => Hv.out ?_)
      rw [hg, e]
  · have hok2 : (!gramOk xs) = true := by simp [hok]
    have Hok := Lib.hid hok
    clear hok
    go_wp2
    refine bodyPost_ret (v := .tuple #[.agg #[.slice none 0 0], .int .i64 3]) (by simp [results, Tryz.results134, go_sem, hc2]) rfl ⟨?_, _, ?_, by rw [limCode, if_neg Hok.out]⟩
    · exact Hb1.out.setCell (by show w.heap.size ≤ w.heap.size + 1; omega) _
    · rw [limOut, if_neg Hok.out]; exact World.ownsRow_nil _ _ _ _

theorem step_push_rule {W : World} {ops : Array Oper} {o : Oper} {a : Act} {K : Act → World → Prop} {Q : Exit → Act → World → Prop} {E : Prop} (hgd : o.guard = none) (s x : Operand)
    (ho : o.op = .call { callee := .builtin .append, args := #[s, x], argTypes := #[29, 29] }) {t : ByteArray} {p q : Int} {base : Nat} {v : Value} {l : List GRule}
    (hs : a.eval s = v) {N : Nat} (hx : a.eval x = .slice (some ⟨N, 0, none⟩) 1 1) (hN : N = W.heap.size) (hown : OwnRules W base v l) (hlen : l.length ≤ 1099511627775) (hbase : base ≤ W.heap.size)
    (h : ∀ v' w', OwnRules w' base v' (l ++ [⟨t, p, q⟩]) → (W.alloc (.cells #[.string t, .int .i64 p, .int .i64 q] 123)).grownBy w' v.ownBlock → Below base (W.alloc (.cells #[.string t, .int .i64 p, .int .i64 q] 123)) w' → K (a.put o.dst v') w') :
    if Region.wanted o (yielded ops a.tmps) = true then Oper.wp Tryz.prog o a (W.alloc (.cells #[.string t, .int .i64 p, .int .i64 q] 123)) K Q else E := by
  subst hN
  refine step_append_rules (ys := [⟨t, p, q⟩]) (S := fun b => b = W.heap.size) hgd s x ho hs hx (hown.alloc _) ⟨_, 1, rfl, Nat.le_refl _, by simp [maxLen], fun _ => ⟨W.heap.size, 0, rfl, rfl, fun k r hk => ⟨r.cells, rfl, fun j u hu => ?_⟩⟩⟩ (by simp; omega) (by simp; omega) h
  have hk0 : k = 0 := by
    have := (List.getElem?_eq_some_iff.1 hk).1
    simp at this; exact this
  subst hk0
  simp at hk
  subst hk
  have hc : (W.alloc (.cells #[.string t, .int .i64 p, .int .i64 q] 123)).cell? ⟨W.heap.size, j, none⟩ = (#[Value.string t, .int .i64 p, .int .i64 q] : Array Value)[j]? := cell_of_row _ _ _ _ 123 (0, 0) (heap_alloc_new W _)
  simp only [Nat.zero_mul, Nat.zero_add]
  rw [hc]
  simpa [GRule.cells] using hu

theorem Boxed.mk' {w : World} {B : Nat} {t : TypeId} {v : Value} (h : w.heap[B]? = some (.cells #[v] t (0, 0))) : Boxed w.drew B t v := h
theorem Boxed.up {w w' : World} {B N : Nat} {t : TypeId} {v : Value} (h : Boxed w B t v) (hb : Below N w w') (hlt : B < N) : Boxed w' B t v := (hb.block B hlt).trans h
theorem Boxed.grown {w w' : World} {B base e s n : Nat} {t : TypeId} {v : Value} {xs : List Value} {o : Obj} (h : Boxed w B t v) (hte : t ≠ e) (own : w.ownsRow base e s v n xs) (hg : (w.alloc o).grownBy w' v.ownBlock) : Boxed w' B t v := (h.alloc o).kept hg (h.not_row hte own)

set_option maxRecDepth 100000 in
set_option maxHeartbeats 4000000 in
theorem l02Join_any (b o b' o' : Nat) (v u : Value) (xs ys : List GRule) (w : World) (hpt : w.cell? ⟨b, o, none⟩ = some v) (hpt' : w.cell? ⟨b', o', none⟩ = some u) (hbl : b < w.heap.size) (hbl' : b' < w.heap.size)
    (h : Sl RuleE w w.heap.size v xs) (h' : Sl RuleE w w.heap.size u ys) (hn : xs.length ≤ 1048576) (hn' : ys.length ≤ 1048576) (hp : SmallP ys) :
    Calls Tryz.prog 155 #[.pointer (some ⟨b, o, none⟩), .pointer (some ⟨b', o', none⟩)] w (GOwn (joinG xs ys) w) := by
  have h1 := fun o => (h.below ((Below.refl w.heap.size w).alloc (Nat.le_refl _) o)).le (B' := (w.alloc o).heap.size) (by simp)
  have h2 := fun o => (h'.below ((Below.refl w.heap.size w).alloc (Nat.le_refl _) o)).le (B' := (w.alloc o).heap.size) (by simp)
  have H1 := Lib.hid h1
  have H2 := Lib.hid h2
  clear h1 h2
  obtain ⟨A, c, rfl, hc, hm, hrow⟩ := h
  obtain ⟨A', c', rfl, hc', hm', hrow'⟩ := h'
  clear hm hm' hrow
  by_cases h0 : xs.length = 0
  · have hj : joinG xs ys = ys := by rw [joinG, if_pos h0]
    have Hj := Lib.hid hj
    have hb0 : ((xs.length : Int) == 0) = true := by simp [h0]
    have H0 := Lib.hid h0
    clear hj h0
    go_enter Tryz.func155, Tryz.ntmps155
    go_wp2_with fail
    refine (l02Own_any _ _ _ _ _ (by simpa [go_sem, hbl'] using hpt') (by first | omega | (simp; done) | (simp; omega)) (H2.out _) (by omega)).mono ?_
    rintro e w1 ⟨v1, rfl, own1, hb1⟩
    obtain ⟨A1, c1, rfl, _⟩ := own_nil own1
    obtain ⟨hc1, hf1⟩ := bcell hb1
    have hz1 : w.heap.size + 1 ≤ w1.heap.size := by have := hb1.size; simp at this; omega
    have Hown := Lib.hid own1
    have Hb1 := Lib.hid hb1
    clear own1 hb1
    go_wp2
    refine bodyPost_ret (v := .agg #[.slice A1 ys.length c1]) (by simp [results, Tryz.results155, go_sem, hc1]) rfl ⟨?_, _, ?_, rfl⟩
    · exact (((Below.refl _ _).alloc (Nat.le_refl _) _).trans (Hb1.out.mono (by simp))).setCell (by show w.heap.size ≤ w.heap.size; omega) _
    · rw [Hj.out]
      have h4 : w1.ownsRow (w.heap.size + 1) 123 3 (.slice A1 ys.length c1) ys.length (ys.flatMap GRule.cells) := ownsRow_more Hown.out (by simp)
      exact ownsRow_more (ownsRow_setCell_below h4 (by show w.heap.size < w.heap.size + 1; omega) _) (by omega)
  · have hb0 : ((xs.length : Int) == 0) = false := by rw [beq_eq_false_iff_ne]; omega
    by_cases h0' : ys.length = 0
    · have hj : joinG xs ys = xs := by rw [joinG, if_neg h0, if_pos h0']
      have Hj := Lib.hid hj
      have hb0' : ((ys.length : Int) == 0) = true := by simp [h0']
      have H0 := Lib.hid h0
      have H0' := Lib.hid h0'
      clear hj h0 h0'
      go_enter Tryz.func155, Tryz.ntmps155
      go_wp2_with fail
      refine (l02Own_any _ _ _ _ _ (by simpa [go_sem, hbl] using hpt) (by first | omega | (simp; done) | (simp; omega)) (H1.out _) (by omega)).mono ?_
      rintro e w1 ⟨v1, rfl, own1, hb1⟩
      obtain ⟨A1, c1, rfl, _⟩ := own_nil own1
      obtain ⟨hc1, hf1⟩ := bcell hb1
      have hz1 : w.heap.size + 1 ≤ w1.heap.size := by have := hb1.size; simp at this; omega
      have hpt1 : w1.cell? ⟨b, o, none⟩ = some (.slice A xs.length c) := by rw [hb1.cell (by first | omega | (simp; done) | (simp; omega))]; simpa [go_sem, hbl] using hpt
      have hpt1' : w1.cell? ⟨b', o', none⟩ = some (.slice A' ys.length c') := by rw [hb1.cell (by first | omega | (simp; done) | (simp; omega))]; simpa [go_sem, hbl'] using hpt'
      have hcr1 : w1.cell? ⟨w.heap.size, 0, none⟩ = some (.slice none 0 0) := by rw [hc1 _ _ (by simp)]; simp [go_sem]
      have hfr1 : w1.frozen? ⟨w.heap.size, 0, none⟩ = false := by rw [hf1 _ _ (by simp)]; simp [go_sem]
      have hlb : b < w1.heap.size := by omega
      have hlb' : b' < w1.heap.size := by omega
      have hlr : w.heap.size < w1.heap.size := by omega
      have Hown := Lib.hid own1
      have Hb1 := Lib.hid hb1
      clear own1 hb1 hc1 hf1
      go_wp2
      refine bodyPost_ret (v := .agg #[.slice A1 xs.length c1]) (by simp [results, Tryz.results155, go_sem, hcr1, hlr]) rfl ⟨?_, _, ?_, rfl⟩
      · refine Below.alloc (Below.setCell (((Below.refl _ _).alloc (Nat.le_refl _) _).trans (Hb1.out.mono (by simp))) ?_ _) ?_ _
        · exact Nat.le_refl _
        · simp; omega
      · rw [Hj.out]
        have h4 : w1.ownsRow (w.heap.size + 1) 123 3 (.slice A1 xs.length c1) xs.length (xs.flatMap GRule.cells) := ownsRow_more Hown.out (by simp)
        exact ownsRow_more (World.ownsRow.alloc (ownsRow_setCell_below (a := ⟨w.heap.size, 0, none⟩) h4 (by show w.heap.size < w.heap.size + 1; omega) _) _) (by omega)
    · have hb0' : ((ys.length : Int) == 0) = false := by rw [beq_eq_false_iff_ne]; omega
      have hj : joinG xs ys = xs ++ ys.map (raiseR xs.length) ++ [pairR ((xs.length : Int) - 1) ((xs.length : Int) + ys.length - 1)] := by rw [joinG, if_neg h0, if_neg h0']
      have Hj := Lib.hid hj
      have hx1 : 1 ≤ xs.length := by omega
      have hy1 : 1 ≤ ys.length := by omega
      have Hp := Lib.hid hp
      clear hj h0 h0' hp
      go_enter Tryz.func155, Tryz.ntmps155
      go_wp2_with fail
      refine (l02Own_any _ _ _ _ _ (by simpa [go_sem, hbl] using hpt) (by first | omega | (simp; done) | (simp; omega)) (H1.out _) (by omega)).mono ?_
      rintro e w1 ⟨v1, rfl, own1, hb1⟩
      have z1 : w.heap.size + 1 ≤ w1.heap.size := by have := hb1.size; simp at this; omega
      have Hb1 : Hid (Below (w.heap.size + 1) (w.alloc (Obj.cells #[Value.slice none 0 0] 31)) w1) := hb1.mono (by simp)
      have hpt1 : w1.cell? ⟨b, o, none⟩ = some (.slice A xs.length c) := by rw [hb1.cell (by first | omega | (simp; done) | (simp; omega))]; simpa [go_sem, hbl] using hpt
      have hpt1' : w1.cell? ⟨b', o', none⟩ = some (.slice A' ys.length c') := by rw [hb1.cell (by first | omega | (simp; done) | (simp; omega))]; simpa [go_sem, hbl'] using hpt'
      have own1' : OwnRules w1 (w.heap.size + 1) v1 xs := ownsRow_more own1 (by simp)
      obtain ⟨A1, c1, rfl, _⟩ := own_nil own1'
      have Hown1 := Lib.hid own1'
      have hlb : b < w1.heap.size := by omega
      have hlb' : b' < w1.heap.size := by omega
      have Hrow := Lib.hid hrow'
      clear own1 own1' hb1 hrow'
      go_wp2_with fail
      go_loopw [7] (fun i wr => ∃ (k : Nat) (vo : Value), k ≤ ys.length ∧ i = .int .i64 k ∧ Below (w.heap.size + 1) (w.alloc (Obj.cells #[Value.slice none 0 0] 31)) wr ∧ wr.heap[w1.heap.size]? = some (Obj.cells #[vo] 31 (0, 0)) ∧ OwnRules wr (w.heap.size + 1) vo (xs ++ (ys.take k).map (raiseR xs.length))) (fun i _ => ys.length - (intOf i).toNat)
      case atStart => exact ⟨0, _, Nat.zero_le _, rfl, Hb1.out.alloc (by omega) _, alloc_heap_last _ _, by have := Hown1.out.alloc (Obj.cells #[Value.slice A1 xs.length c1] 31); simpa using this⟩
      case round =>
        obtain ⟨k, vo, hk, rfl, hb, hbox, hown⟩ := hrel
        have hcb : wr.cell? ⟨w1.heap.size, 0, none⟩ = some vo := by simp [World.cell?, hbox]
        have hfb : wr.frozen? ⟨w1.heap.size, 0, none⟩ = false := by simp [World.frozen?, hbox]
        have hszr : w1.heap.size < wr.heap.size := (Array.getElem?_eq_some_iff.1 hbox).1
        have hptr : wr.cell? ⟨b, o, none⟩ = some (.slice A xs.length c) := by rw [hb.cell (p := ⟨b, o, none⟩) (by show b < w.heap.size + 1; omega)]; simpa [go_sem, hbl] using hpt
        have hptr' : wr.cell? ⟨b', o', none⟩ = some (.slice A' ys.length c') := by rw [hb.cell (p := ⟨b', o', none⟩) (by show b' < w.heap.size + 1; omega)]; simpa [go_sem, hbl'] using hpt'
        have Hbox := Lib.hid hbox
        have Hown := Lib.hid hown
        have Hb := Lib.hid hb
        by_cases hlt : k < ys.length
        · obtain ⟨b2, o2, rfl, hbl2, hcell⟩ := Hrow.out.rule hlt
          obtain ⟨r, hr⟩ : ∃ x, ys[k]? = some x := ⟨_, List.getElem?_eq_getElem hlt⟩
          obtain ⟨g0, g1, g2⟩ := hcell k r hr
          have hbw : Below w.heap.size w wr := ((Below.refl _ _).alloc (Nat.le_refl _) _).trans (hb.mono (by omega))
          have hc0 := (hbw.cell (p := ⟨b2, o2 + k * 3, none⟩) hbl2).trans g0
          have hc1 := (hbw.cell (p := ⟨b2, o2 + k * 3 + 1, none⟩) hbl2).trans g1
          have hc2 := (hbw.cell (p := ⟨b2, o2 + k * 3 + 2, none⟩) hbl2).trans g2
          have hi : (k : Int) < (ys.length : Int) := by omega
          have hpr := Hp.out r (List.mem_of_getElem? hr)
          have Hpr := Lib.hid hpr
          have Hr := Lib.hid hr
          have hb2l : b2 < wr.heap.size := by omega
          have hbl3 : b' < wr.heap.size := by omega
          have hbl4 : b < wr.heap.size := by omega
          obtain ⟨L, hL⟩ : ∃ L, L = xs ++ (ys.take k).map (raiseR xs.length) := ⟨_, rfl⟩
          rw [← hL] at hown
          have hlk : L.length = xs.length + k := by rw [hL]; simp; omega
          have Hll : Hid (L.length ≤ 1099511627775) := by rw [Hid]; omega
          have Hnx : Hid (xs ++ (ys.take (k + 1)).map (raiseR xs.length) = L ++ [raiseR xs.length r]) := by rw [Hid, List.take_add_one, hr, List.map_append, ← List.append_assoc, ← hL]; rfl
          have Hown := Lib.hid hown
          clear hbox hown hb hcell g0 g1 g2 hbw hr hpr hpt hpt' hpt1 hpt1' hL hlk
          go_wp2_with fail
          go_region_law (first
            | (refine step_push_rule (base := w.heap.size + 1) (by rfl) _ _ (by rfl) (by rfl) (by first | rfl | simp) rfl (OwnRules.below Hown.out.drew hb2) Hll.out (by omega) ?_; intro v3 w3 own3 hg3 hb3; have bx3 : Boxed w3 w1.heap.size 31 vo := Boxed.grown (Boxed.up (Boxed.mk' Hbox.out) hb2 hszr) (by decide) (OwnRules.below Hown.out.drew hb2) hg3; obtain ⟨A3, c3, rfl, _⟩ := own_nil own3; have hcb3 := bx3.cell; have hfb3 := bx3.frozen)
            | (go_simp; go_at_call 156; refine (l02Raised_any r xs.length _ (by omega) Hpr.out).mono ?_; rintro e w2 ⟨rfl, hb2⟩; obtain ⟨hcc2, hff2⟩ := bcell hb2; have bx2 := Boxed.up (Boxed.mk' Hbox.out) hb2 hszr; have hcb2 := bx2.cell; have hfb2 := bx2.frozen; have hlb2 := bx2.lt; have hlb3 : b < w2.heap.size := (by omega); have hlb3' : b' < w2.heap.size := (by omega); have hlb4 : b2 < w2.heap.size := (by omega)))
          all_goals
            clear hcc2 hff2 hcb2 hfb2
            go_wp2
            go_roundw
            case rel =>
              refine ⟨k + 1, _, by omega, by go_num, ?_, Boxed.set _ bx3, ?_⟩
              · exact (((Below.drew Hb.out).trans (hb2.mono (by show w.heap.size + 1 ≤ wr.heap.size; omega))).alloc (by omega) _ |>.trans hb3).setCell (by show w.heap.size + 1 ≤ w1.heap.size; omega) _
              · have e9 : (L ++ [raiseR xs.length r]).length = L.length + 1 := by simp
                have own9 : OwnRules w3 (w.heap.size + 1) (.slice A3 (L.length + 1) c3) (L ++ [raiseR xs.length r]) := by rw [← e9]; exact own3
                rw [Hnx.out]; exact ownsRow_setCell_other (a := ⟨w1.heap.size, 0, none⟩) own9 (bx3.not_row (by decide) own9).symm _
            case measure => simp [intOf]; omega
        · have hkn : k = ys.length := by omega
          subst hkn
          rw [List.take_length] at hown
          obtain ⟨L, hL⟩ : ∃ L, L = xs ++ ys.map (raiseR xs.length) := ⟨_, rfl⟩
          rw [← hL] at hown
          have hlk : L.length = xs.length + ys.length := by rw [hL]; simp
          have Hll : Hid (L.length ≤ 1099511627775) := by rw [Hid]; omega
          have HL := Lib.hid hL
          have Hown := Lib.hid hown
          have hw1 : IntKind.i64.wrap ((xs.length : Int) - 1) = (xs.length : Int) - 1 := IntWalk.i64_in _ (by omega)
          have hw2 : IntKind.i64.wrap ((xs.length : Int) + ys.length) = (xs.length : Int) + ys.length := IntWalk.i64_in _ (by omega)
          have hw3 : IntKind.i64.wrap ((xs.length : Int) + ys.length - 1) = (xs.length : Int) + ys.length - 1 := IntWalk.i64_in _ (by omega)
          clear hbox hown hb hpt hpt' hpt1 hpt1' hL
          go_wp2_with fail
          go_region_law (first
            | (refine step_push_rule (base := w.heap.size + 1) (by rfl) _ _ (by rfl) (by rfl) (by first | rfl | simp) rfl Hown.out.drew Hll.out (by show w.heap.size + 1 ≤ wr.heap.size; omega) ?_; intro v3 w3 own3 hg3 hb3; have bx3 : Boxed w3 w1.heap.size 31 vo := Boxed.grown (Boxed.mk' Hbox.out) (by decide) Hown.out.drew hg3; obtain ⟨A3, c3, rfl, _⟩ := own_nil own3; have hcb3 := bx3.cell; have hfb3 := bx3.frozen; have hl3 := bx3.lt))
          all_goals
            try rw [hw2] at own3
            try rw [hw1, hw3] at own3
            have hb9 := (((Below.drew Hb.out)).alloc (by show w.heap.size + 1 ≤ wr.heap.size; omega) _).trans hb3
            obtain ⟨hc9, hf9⟩ := bcell hb9
            have hcr : w3.cell? ⟨w.heap.size, 0, none⟩ = some (.slice none 0 0) := by rw [hc9 _ _ (by omega)]; simp [go_sem]
            have hfr : w3.frozen? ⟨w.heap.size, 0, none⟩ = false := by rw [hf9 _ _ (by omega)]; simp [go_sem]
            have e9 : (L ++ [pairR ((xs.length : Int) - 1) ((xs.length : Int) + ys.length - 1)]).length = xs.length + ys.length + 1 := by simp [hlk]
            have Own9 : Hid (OwnRules w3 (w.heap.size + 1) (.slice A3 (xs.length + ys.length + 1) c3) (L ++ [pairR ((xs.length : Int) - 1) ((xs.length : Int) + ys.length - 1)])) := by rw [Hid, ← e9]; exact own3
            have Hb9 := Lib.hid hb9
            have Hbx3 := Lib.hid bx3
            have hne : w.heap.size ≠ w1.heap.size := by omega
            have hl9 : w.heap.size < w3.heap.size := by omega
            clear hc9 hf9 hb9 own3 hg3 hb3 bx3 hlk
            go_wp2
            refine bodyPost_ret (v := .agg #[.slice A3 (xs.length + ys.length + 1) c3]) (by simp [results, Tryz.results155, go_sem, hcr]) rfl ⟨?_, _, ?_, rfl⟩
            · exact ((((Below.refl _ _).alloc (Nat.le_refl _) _).trans (Hb9.out.mono (by omega))).setCell (by show w.heap.size ≤ w1.heap.size; omega) _).setCell (by show w.heap.size ≤ w.heap.size; omega) _
            · rw [Hj.out, ← HL.out]
              unfold OwnRules
              rw [e9]
              have h5 := Own9.out
              unfold OwnRules at h5
              rw [e9] at h5
              have h6 := ownsRow_setCell_other (a := ⟨w1.heap.size, 0, none⟩) h5 (Hbx3.out.not_row (by decide) h5).symm (.slice A3 (xs.length + ys.length + 1) c3)
              have h7 := ownsRow_setCell_below (a := ⟨w.heap.size, 0, none⟩) h6 (by show w.heap.size < w.heap.size + 1; omega) (.slice A3 (xs.length + ys.length + 1) c3)
              exact ownsRow_more h7 (by omega)
end Go.Proofs.YtfapnipmgmpgaaaGreatDoor

namespace Go.Proofs.YtfapnipmgmpgaaaGreatDoor
open Go.RowKit

/-- One rule appended in a region that does not draw. -/
theorem list_push_rule {W : World} {ops : Array Oper} {rest : List Oper} {o : Oper} {a : Act} {Q : Exit → Act → World → Prop} (hgd : o.guard = none) (s x : Operand)
    (ho : o.op = .call { callee := .builtin .append, args := #[s, x], argTypes := #[29, 29] }) {t : ByteArray} {p q : Int} {base : Nat} {v : Value} {l : List GRule}
    (hs : a.eval s = v) {N : Nat} (hx : a.eval x = .slice (some ⟨N, 0, none⟩) 1 1) (hN : N = W.heap.size) (hown : OwnRules W base v l) (hlen : l.length ≤ 1099511627775) (hbase : base ≤ W.heap.size)
    (h : ∀ v' w', OwnRules w' base v' (l ++ [⟨t, p, q⟩]) → (W.alloc (.cells #[.string t, .int .i64 p, .int .i64 q] 123)).grownBy w' v.ownBlock → Below base (W.alloc (.cells #[.string t, .int .i64 p, .int .i64 q] 123)) w' → wpList Tryz.prog ops Q rest (a.put o.dst v') w') :
    wpList Tryz.prog ops Q (o :: rest) a (W.alloc (.cells #[.string t, .int .i64 p, .int .i64 q] 123)) :=
  wpList_plain hgd fun K hK => by
    have := step_push_rule (E := True) (K := K) (ops := ops) (Q := Q) hgd s x ho hs hx hN hown hlen hbase (fun v' w' h1 h2 h3 => hK _ _ (h v' w' h1 h2 h3))
    rwa [if_pos (by simp [Region.wanted, hgd])] at this

theorem own_put {w5 : World} {K base n c5 : Nat} {A5 : Option Addr} {L M : List GRule} {vo : Value} (bx : Boxed w5 K 31 vo) (own : OwnRules w5 base (.slice A5 L.length c5) L) (hM : L = M) (hn : M.length = n) :
    OwnRules (w5.setCell ⟨K, 0, none⟩ (.slice A5 n c5)) base (.slice A5 n c5) M := by
  subst hM; subst hn; exact ownsRow_setCell_other (a := ⟨K, 0, none⟩) own (bx.not_row (by decide) own).symm _

end Go.Proofs.YtfapnipmgmpgaaaGreatDoor

