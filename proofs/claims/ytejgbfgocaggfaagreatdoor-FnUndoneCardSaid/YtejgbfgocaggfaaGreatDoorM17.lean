import Derived.Test.YtejgbfgocaggfaaGreatDoorM16
import Derived.OrdersHeld
import Derived.StillTail
set_option maxRecDepth 100000
set_option maxHeartbeats 8000000
namespace Go.Proofs.YtejgbfgocaggfaaGreatDoor
open Go.RowKit
structure zoH (w wx : World) (P : Nat) (vR vL : Value) (xs : List zaa) (ls : List Int) (k : Nat) (AM : Option Addr) (cM : Nat) (AS : Option Addr) (cS : Nat) : Prop where
 bel : Below w.heap.size w wx
 box : Blk wx P #[vR, vL, .slice AM k cM, .slice AS k cS] 161
 len : zan wx w.heap.size vL ls
 low : ∀ g, vL.ownBlock = some g -> g < P
 mrk : zdP wx (P + 1) (.slice AM k cM) (zjO xs k)
 stp : zdP wx (P + 1) (.slice AS k cS) (zjP xs k)
 ne : ∀ g, (Value.slice AM k cM).ownBlock = some g -> (Value.slice AS k cS).ownBlock ≠ some g
theorem zoH.up {w wx w' : World} {P : Nat} {vR vL : Value} {xs : List zaa} {ls : List Int} {k : Nat} {AM AS : Option Addr} {cM cS : Nat} (h : zoH w wx P vR vL xs ls k AM cM AS cS) (hb : Below wx.heap.size wx w') : zoH w w' P vR vL xs ls k AM cM AS cS :=
 ⟨Below.tr h.bel hb, h.box.up hb, zaI h.len hb, h.low, zaI h.mrk hb, zaI h.stp hb, h.ne⟩
theorem zh4 (rs : ByteArray) (rl rr : Int) : (⟨rs, rl, rr⟩ : zaa).pair = rs.toList.isEmpty := by
 rw [ByteArray.toList_eq]; obtain ⟨⟨l⟩⟩ := rs; cases l with
 | nil => rfl
 | cons x t => rfl
theorem zof {s : ByteArray} (h : zeh s = true) : ∃ c, s = ⟨#[c]⟩ := by
 have h1 := zc7 h; obtain ⟨⟨l⟩⟩ := s; have hl : l.length = 1 := h1; obtain ⟨c, rfl⟩ := List.length_eq_one_iff.1 hl; exact ⟨c, rfl⟩
def prB (w : World) (b : Nat) (p : Nat × Nat) : Prop := Blk w b #[.int .u64 (p.1 : Int), .int .u64 (p.2 : Int)] 163
def znc (xs : List zaa) (vR : Value) (w : World) (e : Ending) (w' : World) : Prop :=
 ∃ P ls vL AM cM AS cS, e = .returned (.tuple #[.pointer (some ⟨P, 0, none⟩), .bool true]) /\ zaW xs = some ls /\ w.heap.size <= P /\ zoH w w' P vR vL xs ls xs.length AM cM AS cS
structure CI (w : World) (p : Addr) (v : Value) : Prop where
 c : w.cell? p = some v
 lt : p.block < w.heap.size
theorem CI.up {w W : World} {p : Addr} {v : Value} (h : CI w p v) (hb : Below w.heap.size w W) : W.cell? p = some v := (hb.cell h.lt).trans h.c
theorem Blk.ci {w : World} {b : Nat} {a : Array Value} {t : TypeId} (h : Blk w b a t) {i : Nat} {v : Value} (hi : a[i]? = some v) : CI w ⟨b, i, none⟩ v := ⟨h.cell hi, h.lt⟩
theorem znd {w W : World} {p1 p2 p3 p4 p5 p6 p7 : Addr} {v1 v2 v3 v4 v5 v6 v7 : Value} (h1 : CI w p1 v1) (h2 : CI w p2 v2) (h3 : CI w p3 v3) (h4 : CI w p4 v4) (h5 : CI w p5 v5) (h6 : CI w p6 v6) (h7 : CI w p7 v7) (hb : Below w.heap.size w W) : Below w.heap.size w W /\ W.cell? p1 = some v1 /\ W.cell? p2 = some v2 /\ W.cell? p3 = some v3 /\ W.cell? p4 = some v4 /\ W.cell? p5 = some v5 /\ W.cell? p6 = some v6 /\ W.cell? p7 = some v7 :=
 ⟨hb, h1.up hb, h2.up hb, h3.up hb, h4.up hb, h5.up hb, h6.up hb, h7.up hb⟩
theorem ziN {w W : World} {p1 p2 p3 p4 p5 p6 p7 p8 p9 p10 : Addr} {v1 v2 v3 v4 v5 v6 v7 v8 v9 v10 : Value} (h1 : CI w p1 v1) (h2 : CI w p2 v2) (h3 : CI w p3 v3) (h4 : CI w p4 v4) (h5 : CI w p5 v5) (h6 : CI w p6 v6) (h7 : CI w p7 v7) (h8 : CI w p8 v8) (h9 : CI w p9 v9) (h10 : CI w p10 v10) (hb : Below w.heap.size w W) : Below w.heap.size w W /\ W.cell? p1 = some v1 /\ W.cell? p2 = some v2 /\ W.cell? p3 = some v3 /\ W.cell? p4 = some v4 /\ W.cell? p5 = some v5 /\ W.cell? p6 = some v6 /\ W.cell? p7 = some v7 /\ W.cell? p8 = some v8 /\ W.cell? p9 = some v9 /\ W.cell? p10 = some v10 :=
 ⟨hb, h1.up hb, h2.up hb, h3.up hb, h4.up hb, h5.up hb, h6.up hb, h7.up hb, h8.up hb, h9.up hb, h10.up hb⟩
theorem zdP.two {w : World} {base n c : Nat} {A : Option Addr} {l : List (Nat × Nat)} (h : zdP w base (.slice A n c) l) {i j : Nat} {p q : Nat × Nat} (hi : l[i]? = some p) (hj : l[j]? = some q) :
  ∃ g, A = some ⟨g, 0, none⟩ /\ CI w ⟨g, i * 2, none⟩ (.int .u64 (p.1 : Int)) /\ CI w ⟨g, i * 2 + 1, none⟩ (.int .u64 (p.2 : Int)) /\ CI w ⟨g, j * 2, none⟩ (.int .u64 (q.1 : Int)) /\ CI w ⟨g, j * 2 + 1, none⟩ (.int .u64 (q.2 : Int)) := by
 obtain ⟨g, cap, e, _, hg, h1, h2⟩ := h.cells hi; obtain ⟨g', cap', e', _, _, h3, h4⟩ := h.cells hj; injection e with e1 _ _; injection e' with e1' _ _; subst e1; injection e1' with e2; injection e2 with e3; subst e3; exact ⟨g, rfl, ⟨h1, hg⟩, ⟨h2, hg⟩, ⟨h3, hg⟩, ⟨h4, hg⟩⟩
structure Psh (w W : World) (P M0 : Nat) (bx : Array Value) (vL : Value) (ls : List Int) (m s : Nat × Nat) (vM vS : Value) (lM lS : List (Nat × Nat)) : Prop where
 bel : Below w.heap.size w W
 hP : w.heap.size <= P
 box : Blk W P bx 161
 len : zan W w.heap.size vL ls
 low : ∀ g, vL.ownBlock = some g -> g < P
 pm : Blk W M0 #[.int .u64 (m.1 : Int), .int .u64 (m.2 : Int)] 163
 ps : Blk W (M0 + 1) #[.int .u64 (s.1 : Int), .int .u64 (s.2 : Int)] 163
 mrk : zdP W (P + 1) vM lM
 stp : zdP W (P + 1) vS lS
 ne : ∀ g, vM.ownBlock = some g -> vS.ownBlock ≠ some g
 nm : ∀ g, vM.ownBlock = some g -> g ≠ M0 /\ g ≠ M0 + 1
 ns : ∀ g, vS.ownBlock = some g -> g ≠ M0 /\ g ≠ M0 + 1
section
variable {w W W' : World} {P M0 : Nat} {bx : Array Value} {vL : Value} {ls : List Int} {m s : Nat × Nat} {vM vS v' : Value} {lM lS l' : List (Nat × Nat)}
theorem Psh.up (h : Psh w W P M0 bx vL ls m s vM vS lM lS) (hb : Below W.heap.size W W') : Psh w W' P M0 bx vL ls m s vM vS lM lS :=
 ⟨Below.tr h.bel hb, h.hP, h.box.up hb, zaI h.len hb, h.low, h.pm.up hb, h.ps.up hb, zaI h.mrk hb, zaI h.stp hb, h.ne, h.nm, h.ns⟩
theorem Psh.drew (h : Psh w W P M0 bx vL ls m s vM vS lM lS) : Psh w W.drew P M0 bx vL ls m s vM vS lM lS := h.up (Below.drew (Below.refl _ _))
theorem Psh.alloc (h : Psh w W P M0 bx vL ls m s vM vS lM lS) (o : Obj) : Psh w (W.alloc o) P M0 bx vL ls m s vM vS lM lS := h.up (Below.alloc (Below.refl _ _) yL o)
theorem Psh.cells {vR : Value} {AM AS : Option Addr} {n c c' : Nat} (h : Psh w W P M0 #[vR, vL, .slice AM n c, .slice AS n c'] vL ls m s vM vS lM lS) : W.cell? ⟨P, 2, none⟩ = some (.slice AM n c) /\ W.cell? ⟨P, 3, none⟩ = some (.slice AS n c') /\ W.cell? ⟨M0, 0, none⟩ = some (.int .u64 (m.1 : Int)) /\ W.cell? ⟨M0, 1, none⟩ = some (.int .u64 (m.2 : Int)) /\ W.cell? ⟨M0 + 1, 0, none⟩ = some (.int .u64 (s.1 : Int)) /\ W.cell? ⟨M0 + 1, 1, none⟩ = some (.int .u64 (s.2 : Int)) :=
 ⟨h.box.cell rfl, h.box.cell rfl, h.pm.cell rfl, h.pm.cell rfl, h.ps.cell rfl, h.ps.cell rfl⟩
theorem Psh.push1 (h : Psh w W P M0 bx vL ls m s vM vS lM lS) (ho : zdP W' (P + 1) v' l') (hv : v'.ownBlock = vM.ownBlock \/ ∃ g, v'.ownBlock = some g /\ W.heap.size <= g) (hg : W.grownBy W' vM.ownBlock) (hb : Below (P + 1) W W') :
  Psh w W' P M0 bx vL ls m s v' vS l' lS := by
 have hM := h.pm.lt; have hS := h.ps.lt; have hb2 : Below w.heap.size W W' := hb.mono (by have := h.hP; omega)
 have hne : ∀ g, v'.ownBlock = some g -> vS.ownBlock ≠ some g := by
  intro g e; rcases hv with hv | ⟨g2, e2, h2⟩
  · rw [hv] at e
    exact h.ne g e
  · rw [e] at e2; cases e2
    intro e3; exact absurd (World.ownsRow.lt h.stp g e3).2 yO
 have hnn : ∀ g, v'.ownBlock = some g -> g ≠ M0 /\ g ≠ M0 + 1 := by
  intro g e; rcases hv with hv | ⟨g2, e2, h2⟩
  · rw [hv] at e; exact h.nm g e
  · rw [e] at e2; cases e2; omega
 have hmm : Blk W' M0 #[.int .u64 (m.1 : Int), .int .u64 (m.2 : Int)] 163 := (hg.block M0 hM (fun e => (h.nm M0 e.symm).1 rfl)).trans h.pm; have hss : Blk W' (M0 + 1) #[.int .u64 (s.1 : Int), .int .u64 (s.2 : Int)] 163 := (hg.block (M0 + 1) hS (fun e => (h.nm (M0 + 1) e.symm).2 rfl)).trans h.ps; have hoo : zdP W' (P + 1) vS lS := za7 h.stp (fun g e => hg.block g (World.ownsRow.lt h.stp g e).2 (fun e3 => h.ne g e3.symm e)); have hl : zan W' w.heap.size vL ls := za7 h.len (fun g e => hb.block g (by have := h.low g e; omega)); exact ⟨h.bel.trans hb2, h.hP, h.box.upB hb (Nat.lt_succ_self _), hl, h.low, hmm, hss, ho, hoo, hne, hnn, h.ns⟩
theorem Psh.push2 (h : Psh w W P M0 bx vL ls m s vM vS lM lS) (ho : zdP W' (P + 1) v' l') (hv : v'.ownBlock = vS.ownBlock \/ ∃ g, v'.ownBlock = some g /\ W.heap.size <= g) (hg : W.grownBy W' vS.ownBlock) (hb : Below (P + 1) W W') :
  Psh w W' P M0 bx vL ls m s vM v' lM l' := by
 have hM := h.pm.lt; have hS := h.ps.lt; have hb2 : Below w.heap.size W W' := hb.mono (by have := h.hP; omega)
 have hne : ∀ g, v'.ownBlock = some g -> vM.ownBlock ≠ some g := by
  intro g e; rcases hv with hv | ⟨g2, e2, h2⟩
  · rw [hv] at e
    exact fun e3 => h.ne g e3 e
  · rw [e] at e2; cases e2
    intro e3; exact absurd (World.ownsRow.lt h.mrk g e3).2 yO
 have hnn : ∀ g, v'.ownBlock = some g -> g ≠ M0 /\ g ≠ M0 + 1 := by
  intro g e; rcases hv with hv | ⟨g2, e2, h2⟩
  · rw [hv] at e; exact h.ns g e
  · rw [e] at e2; cases e2; omega
 have hmm : Blk W' M0 #[.int .u64 (m.1 : Int), .int .u64 (m.2 : Int)] 163 := (hg.block M0 hM (fun e => (h.ns M0 e.symm).1 rfl)).trans h.pm; have hss : Blk W' (M0 + 1) #[.int .u64 (s.1 : Int), .int .u64 (s.2 : Int)] 163 := (hg.block (M0 + 1) hS (fun e => (h.ns (M0 + 1) e.symm).2 rfl)).trans h.ps; have hoo : zdP W' (P + 1) vM lM := za7 h.mrk (fun g e => hg.block g (World.ownsRow.lt h.mrk g e).2 (fun e3 => h.ne g e e3.symm)); have hl : zan W' w.heap.size vL ls := za7 h.len (fun g e => hb.block g (by have := h.low g e; omega)); exact ⟨h.bel.trans hb2, h.hP, h.box.upB hb (Nat.lt_succ_self _), hl, h.low, hmm, hss, hoo, ho, fun g e e3 => hne g e3 e, h.nm, hnn⟩
theorem ziO (hg : W.grownBy W' vM.ownBlock) {N : Nat} (hN : ∀ g, vM.ownBlock = some g -> g < N) : ∀ k o, N <= k -> W.heap[k]? = some o -> W'.heap[k]? = some o := fun k o hNk hk =>
 (hg.block k (Array.getElem?_eq_some_iff.1 hk).1 (fun e => absurd (hN k e.symm) yO)).trans hk
theorem zne {o : Obj} {k : Nat} (hk : k = W.heap.size) : (W.alloc o).heap[k]? = some o := by subst hk; exact heap_alloc_new W o
theorem zks {o : Obj} {k : Nat} (hk : k = W.heap.size) : (W.alloc o).drew.heap[k]? = some o := by subst hk; exact heap_alloc_new W o
theorem zpL {o o' : Obj} {k : Nat} (h : W.heap[k]? = some o) : (W.alloc o').heap[k]? = some o := (Below.heap_alloc W o' k (Array.getElem?_eq_some_iff.1 h).1).trans h
theorem Psh.done {vR : Value} {AM AS AM' AS' : Option Addr} {n n' c c' d d' : Nat} {xs : List zaa} (h : Psh w W P M0 #[vR, vL, .slice AM n c, .slice AS n c'] vL ls (zeg xs n) (zef xs n) (.slice AM' n' d) (.slice AS' n' d') (zjO xs n ++ [zeg xs n]) (zjP xs n ++ [zef xs n])) (hn : n' = n + 1) :
  zoH w ((W.setCell ⟨P, 2, none⟩ (.slice AM' n' d)).setCell ⟨P, 3, none⟩ (.slice AS' n' d')) P vR vL xs ls (n + 1) AM' d AS' d' := by
 subst hn; have hb : Below P W ((W.setCell ⟨P, 2, none⟩ (.slice AM' (n + 1) d)).setCell ⟨P, 3, none⟩ (.slice AS' (n + 1) d')) := ((Below.refl P W).setCell (p := ⟨P, 2, none⟩) yL _).setCell (p := ⟨P, 3, none⟩) yL _
 have hk : ∀ g, g ≠ P -> ((W.setCell ⟨P, 2, none⟩ (.slice AM' (n + 1) d)).setCell ⟨P, 3, none⟩ (.slice AS' (n + 1) d')).heap[g]? = W.heap[g]? := fun g hg =>
  (Below.heap_setCell _ ⟨P, 3, none⟩ _ g hg).trans (Below.heap_setCell _ ⟨P, 2, none⟩ _ g hg)
 refine ⟨h.bel.trans (hb.mono h.hP), (h.box.set 2 _).set 3 _, za7 h.len (fun g e => hk g (by have := h.low g e; omega)), h.low, ?_, ?_, h.ne⟩
 · rw [zod]; exact za7 h.mrk (fun g e => hk g (by have := (World.ownsRow.lt h.mrk g e).1; omega))
 · rw [zoe]; exact za7 h.stp (fun g e => hk g (by have := (World.ownsRow.lt h.stp g e).1; omega))
end
open Go
section
variable {P : Program} {ops : Array Oper} {Q : Exit -> Act -> World -> Prop} {md : Region.Mode} {S : World -> Prop} {n : Nat}
def zk7 (P : Program) (md : Region.Mode) (ops : Array Oper) (Q : Exit -> Act -> World -> Prop) (S : World -> Prop) (n : Nat) (L : Array Bool -> Act -> World -> Prop) : Nat -> Array Bool -> Act -> World -> Prop
 | 0, listed, a, w => L listed a w
 | f + 1, listed, a, w => Region.ready md ops listed ≠ [] /\ ∀ i ∈ Region.ready md ops listed, i < n /\ wpOp P ops Q i (fun a' w' => S w' /\ zk7 P md ops Q S n L f (listed.setIfInBounds i true) a' w') a w
theorem zfh {g : Nat} {L : Array Bool -> Act -> World -> Prop} (hL : ∀ listed a w, L listed a w -> wpAny P md ops Q g listed a w) :
  ∀ (f : Nat) (listed : Array Bool) (a : Act) (w : World), zk7 P md ops Q S n L f listed a w -> wpAny P md ops Q (f + g) listed a w
 | 0, listed, a, w, h => by rw [Nat.zero_add]; exact hL _ _ _ h
 | f + 1, listed, a, w, h => by
   rw [show f + 1 + g = (f + g) + 1 by omega]; exact ⟨fun h0 => absurd h0 h.1, fun i hi => wpOp_mono (fun a' w' h' => zfh hL f _ a' w' h'.2) (h.2 i hi).2⟩
def zpf (md : Region.Mode) (ops : Array Oper) (n : Nat) (l0 : Array Bool) : Bool :=
 (List.range n).all fun i => l0.getD i false || (List.range (n + 1)).any fun j => decide (i < j) && Region.waitsFor md ops j i
structure zps (md : Region.Mode) (ops : Array Oper) (n : Nat) (l0 listed : Array Bool) : Prop where
 inv : HeadInv md ops n listed
 low : ∀ i, l0.getD i false = true -> listed.getD i false = true
theorem zps.set {n i : Nat} {l0 listed : Array Bool} (h : zps md ops n l0 listed) (hi : i ∈ Region.ready md ops listed) (hin : i < n) : zps md ops n l0 (listed.setIfInBounds i true) :=
 ⟨h.inv.set hi hin, fun k hk => getD_set_true (h.low k hk)⟩
theorem zg9 {n : Nat} {l0 listed : Array Bool} (hs : zpf md ops n l0 = true) (hc : Region.chainB md ops n = true) (hn : n < ops.size) (H : zps md ops n l0 listed) :
  ∀ (d i : Nat), n - i = d -> i < n -> listed.getD i true = false -> ∀ t, n <= t -> t ∉ Region.ready md ops listed := by
 have inv := H.inv; intro d
 induction d using Nat.strongRecOn with
 | _ d ih =>
   intro i hd hi hun t ht hr; obtain ⟨_, ot, hot, hall⟩ := mem_ready.1 hr; have htlt : t < ops.size := (Array.getElem?_eq_some_iff.1 hot).1
   by_cases htn : t = n
   · subst htn
     have h1 := List.all_eq_true.1 hs i (List.mem_range.2 hi); rw [Bool.or_eq_true] at h1; rcases h1 with h1 | h1
     · have := H.low i h1
       rw [getD_both hun] at this; cases this
     obtain ⟨j, hj, hj2⟩ := List.any_eq_true.1 h1; simp only [Bool.and_eq_true, decide_eq_true_eq] at hj2
     obtain ⟨oj, hoj, e, he, hb, hon⟩ := Region.waitsFor_spec hj2.2; have hjle : j <= t := by have := List.mem_range.1 hj; omega
     by_cases hjt : j = t
     · subst hjt
       have : oj = ot := Option.some.inj (hoj.symm.trans hot); subst this; have h2 := hall e he hb; rw [hon, getD_both hun] at h2; cases h2
     · cases hl : listed.getD j false with
       | true =>
         have h2 := inv.closed j oj hoj hl e he hb; rw [hon, getD_both hun] at h2; cases h2
       | false =>
         have hjs : j < listed.size := by rw [inv.size]; omega
         exact ih (t - j) yO j rfl yO (getD_in hjs hl) t yL hr
   · have h1 := List.all_eq_true.1 hc t (List.mem_range.2 htlt)
     simp only [Bool.or_eq_true, decide_eq_true_eq] at h1
     rcases h1 with h1 | h1
     · omega
     · obtain ⟨o', ho', e, he, hb, hon⟩ := Region.waitsFor_spec h1
       have : o' = ot := Option.some.inj (ho'.symm.trans hot); subst this; have h2 := hall e he hb; rw [hon, getD_both (inv.tail (t - 1) yO yO)] at h2; cases h2
theorem zlK {i : Nat} {l0 : Array Bool} {oi : Oper} {v : Value} {L : Array Bool -> Act -> World -> Prop} (hi : ops[i]? = some oi) (hsel : ∀ (j : Nat) (o : Oper) cs b, ops[j]? = some o -> o.op ≠ .select cs b)
  (hs : zpf md ops n l0 = true) (hc : Region.chainB md ops n = true) (hn : n < ops.size) (hin : i < n)
  (hdone : ∀ listed a w, L listed a w -> ∀ j ∈ Region.ready md ops listed, n <= j) (hQ : ∀ c a w, Q (.panic c) (a.put oi.dst v) w -> Q (.panic c) a w) :
  ∀ (f : Nat) (listed : Array Bool) (a : Act) (w : World), zps md ops n l0 listed ->
   (∀ j oj, ops[j]? = some oj -> j ≠ i -> listed.getD j true = false -> (∀ e ∈ oj.after, Region.binds md e = true -> e.on ≠ i) -> oi.apart ops oj = true) ->
   i ∈ Region.ready md ops listed -> YieldsIf P ops S oi v a -> S w ->
   zk7 P md ops Q S n L f (listed.setIfInBounds i true) (a.put oi.dst v) w -> zk7 P md ops Q S n L (f + 1) listed a w := by
 intro f
 induction f with
 | zero =>
   intro listed a w inv _ hr hy hS H; have hun := (mem_ready.1 hr).1; refine ⟨fun h => (by rw [h] at hr; cases hr), fun j hj => ?_⟩
   have hjn : j < n := by
    rcases Nat.lt_or_ge j n with h | h
    · exact h
    · exact absurd hj (zg9 hs hc hn inv _ i rfl hin hun j h)
   refine ⟨hjn, ?_⟩
   by_cases hji : j = i
   · subst hji; exact hy.wpOp hi hS ⟨hS, H⟩
   · have := hdone _ _ _ H j (ready_mono hj hji)
     omega
 | succ f ih =>
   intro listed a w inv hfree hr hy hS H; have hun := (mem_ready.1 hr).1; refine ⟨fun h => (by rw [h] at hr; cases hr), fun j hj => ?_⟩
   have hjn : j < n := by
    rcases Nat.lt_or_ge j n with h | h
    · exact h
    · exact absurd hj (zg9 hs hc hn inv _ i rfl hin hun j h)
   refine ⟨hjn, ?_⟩
   by_cases hji : j = i
   · subst hji; exact hy.wpOp hi hS ⟨hS, H⟩
   · have h1 := (H.2 j (ready_mono hj hji)).2
     obtain ⟨hjun, oj, hoj, hall⟩ := mem_ready.1 hj
     have hnot : ∀ e ∈ oj.after, Region.binds md e = true -> e.on ≠ i := fun e he hb heq => by
      have h1 := hall e he hb; rw [heq, getD_both hun] at h1; cases h1
     have h2 := wpOp_putIf hoj (hfree j oj hoj hji hjun hnot) (fun cs b => hsel i oi cs b hi) (fun cs b => hsel j oj cs b hoj) hQ hy h1
     have hfree' : ∀ k ok, ops[k]? = some ok -> k ≠ i -> (listed.setIfInBounds j true).getD k true = false ->
       (∀ e ∈ ok.after, Region.binds md e = true -> e.on ≠ i) -> oi.apart ops ok = true := fun k ok hk hki hun hno => by
      refine hfree k ok hk hki ?_ hno
      by_cases hjk : j = k
      · subst hjk; exact hjun
      · rw [getD_set_ne true hjk] at hun; exact hun
     refine wpOp_mono (fun a' w' h3 => ⟨h3.2.1, ih (listed.setIfInBounds j true) a' w' (inv.set hj hjn) hfree' (ready_mono hr (Ne.symm hji)) h3.1 h3.2.1 ?_⟩) h2
     rw [Array.setIfInBounds_comm _ _ hji]; exact h3.2.2
def zog (md : Region.Mode) (ops : Array Oper) (n : Nat) (l0 listed : Array Bool) : Bool :=
 decide (listed.size = ops.size) && decide (l0.size = ops.size) && (List.range ops.size).all fun j => (!l0.getD j false || listed.getD j false) && (decide (j < n) || !listed.getD j true) && (!listed.getD j false || (match ops[j]? with
  | some o => o.after.all fun e => !Region.binds md e || listed.getD e.on false
  | none => true))
theorem zlL {l0 listed : Array Bool} (h : zog md ops n l0 listed = true) : zps md ops n l0 listed := by
 unfold zog at h; simp only [Bool.and_eq_true, decide_eq_true_eq, List.all_eq_true, List.mem_range, Bool.or_eq_true, Bool.not_eq_true'] at h
 refine ⟨⟨h.1.1, fun j oj hj hl e he hb => ?_, fun t ht hts => ?_⟩, fun i hi => ?_⟩
 · have hjs : j < ops.size := (Array.getElem?_eq_some_iff.1 hj).1
   have h2 := (h.2 j hjs).2; rw [hj] at h2; rcases h2 with h2 | h2
   · rw [h2] at hl; cases hl
   · have h3 := Array.all_eq_true_iff_forall_mem.1 h2 e he
     rw [hb] at h3; simpa using h3
 · rcases (h.2 t hts).1.2 with h1 | h1
   · omega
   · exact h1
 · have his : i < ops.size := by
    rcases Nat.lt_or_ge i l0.size with h' | h'
    · have := h.1.2; omega
    · simp [Array.getElem?_eq_none h'] at hi
   rcases (h.2 i his).1.1 with h1 | h1
   · rw [h1] at hi; cases hi
   · exact h1
def ziP (md : Region.Mode) (ops : Array Oper) (g n : Nat) (K : Act -> World -> Prop) (listed : Array Bool) (a : Act) (w : World) : Prop := Region.seqB md ops g n listed = true /\ K a w
def znf (md : Region.Mode) (ops : Array Oper) (n : Nat) (l0 : Array Bool) : Bool := Region.noSelect ops && decide (n < ops.size) && zpf md ops n l0 && Region.chainB md ops n
theorem zng (l0 : Array Bool) (i : Nat) (oi : Oper) (v : Value) {g f : Nat} {K : Act -> World -> Prop} {listed : Array Bool} {a : Act} {w : World} (hH : znf md ops n l0 = true) (hi : ops[i]? = some oi)
  (hb : (decide (i < n) && zog md ops n l0 listed && Region.free md ops listed i && (Region.ready md ops listed).contains i) = true)
  (hQ : ∀ c a w, Q (.panic c) (a.put oi.dst v) w -> Q (.panic c) a w) (hy : YieldsIf P ops S oi v a) (hS : S w)
  (h : zk7 P md ops Q S n (ziP md ops g n K) f (listed.setIfInBounds i true) (a.put oi.dst v) w) : zk7 P md ops Q S n (ziP md ops g n K) (f + 1) listed a w := by
 simp only [znf, Bool.and_eq_true, decide_eq_true_eq] at hH hb
 exact zlK hi (Region.noSelect_spec hH.1.1.1) hH.1.2 hH.2 hH.1.1.2 hb.1.1.1 (fun listed a w hL => seqB_ready hL.1) hQ f listed a w (zlL hb.1.1.2) (Region.free_spec hi hb.1.2) (by simpa using hb.2) hy hS h
theorem zaL (l0 : Array Bool) (i : Nat) (oi : Oper) (v : Value) {g f : Nat} {K : Act -> World -> Prop} {listed : Array Bool} {a : Act} {w : World} (hH : znf md ops n l0 = true) (hi : ops[i]? = some oi)
  (hb : (decide (i < n) && zog md ops n l0 listed && Region.free md ops listed i && (Region.ready md ops listed).contains i) = true)
  (hQ : ∀ c a w, Q (.panic c) (a.put oi.dst v) w -> Q (.panic c) a w) (hw : Region.wanted oi (yielded ops a.tmps) = true) (hy : ∀ w, S w -> (execOp a.eval oi).run P w = .ok (.value v) w) (hS : S w)
  (h : zk7 P md ops Q S n (ziP md ops g n K) f (listed.setIfInBounds i true) (a.put oi.dst v) w) : zk7 P md ops Q S n (ziP md ops g n K) (f + 1) listed a w :=
 zng l0 i oi v hH hi hb hQ (.inl ⟨hw, hy⟩) hS h
def zaE (P : Program) (md : Region.Mode) (ops : Array Oper) (Q : Exit -> Act -> World -> Prop) (S : World -> Prop) (n : Nat) (L : Array Bool -> Act -> World -> Prop) (fuel : Nat) (listed : Array Bool) (a : Act) (w : World) (rs : List Nat) : Prop :=
 ∀ i ∈ rs, wpOp P ops Q i (fun a' w' => S w' /\ zk7 P md ops Q S n L fuel (listed.setIfInBounds i true) a' w') a w
theorem zaE.nil {L : Array Bool -> Act -> World -> Prop} {fuel : Nat} {listed : Array Bool} {a : Act} {w : World} : zaE P md ops Q S n L fuel listed a w [] := fun _ h => by cases h
theorem zaE.cons {L : Array Bool -> Act -> World -> Prop} {fuel : Nat} {listed : Array Bool} {a : Act} {w : World} {i : Nat} {o : Oper} {rs : List Nat} (ho : ops[i]? = some o)
  (h : ∀ K' : Act -> World -> Prop, Shut (∀ a w, S w -> (S w -> zk7 P md ops Q S n L fuel (listed.setIfInBounds i true) a w) -> K' a w) -> if Region.wanted o (yielded ops a.tmps) = true then Oper.wp P o a w K' Q else K' (a.put o.dst undef) w)
  (hs : zaE P md ops Q S n L fuel listed a w rs) : zaE P md ops Q S n L fuel listed a w (i :: rs) := fun j hj => by
 rcases List.mem_cons.1 hj with rfl | hj
 · exact wpOp_step ho (fun K' hK => h K' (fun a w hS hW => hK a w ⟨hS, hW hS⟩))
 · exact hs j hj
theorem zbS (rs : List Nat) {L : Array Bool -> Act -> World -> Prop} {fuel : Nat} {listed : Array Bool} {a : Act} {w : World} (hr : (decide (Region.ready md ops listed = rs) && decide (rs ≠ []) && rs.all fun i => decide (i < n)) = true)
  (h : zaE P md ops Q S n L fuel listed a w rs) : zk7 P md ops Q S n L (fuel + 1) listed a w := by
 simp only [Bool.and_eq_true, decide_eq_true_eq, List.all_eq_true] at hr
 exact ⟨hr.1.1 ▸ hr.1.2, fun i hi => ⟨hr.2 i (hr.1.1 ▸ hi), h i (hr.1.1 ▸ hi)⟩⟩
theorem zfJ {g : Nat} {K : Act -> World -> Prop} {listed : Array Bool} {a : Act} {w : World} (hB : Region.seqB md ops g n listed = true) (h : K a w) : zk7 P md ops Q S n (ziP md ops g n K) 0 listed a w := ⟨hB, h⟩
theorem zhG {id : Nat} {a : Act} {w : World} {l : List Oper} (S : World -> Prop) (n : Nat) (hm : P.follows .mixedOrders = true) (hB : decide (n < l.length) = true) (hS : S w.drew)
  (h : S w.drew -> zk7 P .any l.toArray Q S n (ziP .any l.toArray (l.length - n) n (wpList P l.toArray Q (l.drop n))) n (Array.replicate l.toArray.size false) a w.drew) : (Code.region id l.toArray true).wp P Q a w := by
 have hn : n < l.length := by simpa using hB
 refine wp_region_any hm ?_
 have := zfh (P := P) (md := .any) (ops := l.toArray) (Q := Q) (S := S) (n := n) (g := l.length - n) (fun listed a' w' (hL : ziP .any l.toArray (l.length - n) n (wpList P l.toArray Q (l.drop n)) listed a' w') => by
  have := wpAny_of_seq (md := .any) (Q' := Q) (l.drop n) n listed a' w' (fun j => by simp [List.getElem?_drop]) (by rw [List.length_drop]; exact hL.1) hL.2
  rwa [List.length_drop] at this) n _ a w.drew (h hS)
 rw [show n + (l.length - n) = l.toArray.size by simp; omega] at this; exact this
theorem zha {id : Nat} {a : Act} {w : World} {l : List Oper} (S : World -> Prop) (n p : Nat) (op : Oper) (v : Value) (hm : P.follows .mixedOrders = true)
  (hB : (decide (n < l.length) && decide (0 < n) && Region.noSelect l.toArray && Region.free .any l.toArray (Array.replicate l.toArray.size false) p && (Region.ready .any l.toArray (Array.replicate l.toArray.size false)).contains p) = true) (hp : l.toArray[p]? = some op)
  (hQ : ∀ c a w, Q (.panic c) (a.put op.dst v) w -> Q (.panic c) a w) (hw : Region.wanted op (yielded l.toArray a.tmps) = true) (hy : ∀ w, (execOp a.eval op).run P w = .ok (.value v) w) (hS : S w.drew)
  (h : S w.drew -> zk7 P .any l.toArray Q S n (ziP .any l.toArray (l.length - n) n (wpList P l.toArray Q (l.drop n))) (n - 1) ((Array.replicate l.toArray.size false).setIfInBounds p true) (a.put op.dst v) w.drew) : (Code.region id l.toArray true).wp P Q a w := by
 simp only [Bool.and_eq_true, decide_eq_true_eq] at hB
 obtain ⟨⟨⟨⟨hn, hn0⟩, hsel⟩, hf⟩, hr⟩ := hB; refine wp_region_any hm ?_
 have := zfh (P := P) (md := .any) (ops := l.toArray) (Q := Q) (S := S) (n := n) (g := l.length - n) (fun listed a' w' (hL : ziP .any l.toArray (l.length - n) n (wpList P l.toArray Q (l.drop n)) listed a' w') => by
  have := wpAny_of_seq (md := .any) (Q' := Q) (l.drop n) n listed a' w' (fun j => by simp [List.getElem?_drop]) (by rw [List.length_drop]; exact hL.1) hL.2
  rwa [List.length_drop] at this) (n - 1) _ _ w.drew (h hS)
 rw [show l.toArray.size = (n - 1 + (l.length - n)) + 1 by simp; omega]
 have e : Array.replicate ((n - 1 + (l.length - n)) + 1) false = Array.replicate l.toArray.size false := by
  congr 1; simp; omega
 rw [e]; exact wpAny_take hp hsel hf hr hQ (.inl ⟨hw, hy⟩) this
end
theorem zjE (v : Value) (xs : List zaa) (w : World) (h : Sl zar w w.heap.size v xs) (hg : zag xs = true) :
  Calls Tryz.prog 80 #[.agg #[v]] w (znc xs v w) := by
 have HG := yq h; have h4 := (zai hg).1; obtain ⟨AR, cR, rfl, hcR, hmR, _⟩ := h; have ba := (Below.refl w.heap.size w).alloc yL (Obj.cells #[.slice AR xs.length cR] 26); have HBA := yq ba; have HKA := yq (Blk.new w #[.slice AR xs.length cR] 26); clear ba hcR hmR; go_enter Tryz.func80, Tryz.ntmps80
 go_wp2_with fail
 refine (zcE _ xs _ (HG.o.up HBA.o) yO).mono ?_
 rintro e w1 ⟨hb1, hpost⟩; rcases hpost with ⟨ls, vL, hl, rfl, own⟩ | ⟨hl, rfl⟩
 · have h400 : decide (xs.length <= 400) = true := by simpa using h4
   rw [h400]; have HLS := yq (zaG hl); have HL := yq hl; obtain ⟨AL, cL, rfl, _⟩ := zae own; have HB1 := yq (Below.tr HBA.o hb1); have HK1 := yq (HKA.o.up hb1); have HO1 := yq (show zan w1 w.heap.size (.slice AL ls.length cL) ls from zad own yS); have xG := Blk.cell (i := 0) (v := .slice AR xs.length cR) HK1.o rfl; have lG := HK1.o.lt; have b2 := (Below.refl _ w1).alloc yL (Obj.cells #[.slice AR xs.length cR, .slice AL ls.length cL, .slice none 0 0, .slice none 0 0] 161)
   have HST := yq (show zoH w (w1.alloc (Obj.cells #[.slice AR xs.length cR, .slice AL ls.length cL, .slice none 0 0, .slice none 0 0] 161)) w1.heap.size (.slice AR xs.length cR) (.slice AL ls.length cL) xs ls 0 none 0 none 0 from
    ⟨Below.tr HB1.o b2, Blk.new _ _ _, zaI HO1.o b2, fun g hg => (World.ownsRow.lt HO1.o g hg).2, World.ownsRow_nil _ _ _ _, World.ownsRow_nil _ _ _ _, fun g hg => by simp [Value.ownBlock] at hg⟩)
   have HK2 := yq (HK1.o.up b2); have hzP := HB1.o.size; clear own hb1 hl h400 b2 xG lG; have xG := Blk.cell (i := 0) (v := .slice AR xs.length cR) HK1.o rfl; have lG := HK1.o.lt; go_upto_region 5 with fail
   revert HST HK2; generalize (w1.alloc (Obj.cells #[.slice AR xs.length cR, .slice AL ls.length cL, .slice none 0 0, .slice none 0 0] 161)) = w2; intro HST HK2; obtain ⟨P, hP⟩ : ∃ P, w1.heap.size = P := ⟨_, rfl⟩
   rw [hP] at HST hzP; rw [hP]; clear xG lG; have xG := Blk.cell (i := 0) (v := .slice AR xs.length cR) HK2.o rfl; have lG := HK2.o.lt; go_wp2_with fail
   go_loopw [26] (fun i wx => ∃ (k : Nat) (AM : Option Addr) (cM : Nat) (AS : Option Addr) (cS : Nat), k <= xs.length /\ i = .int .i64 k /\ yh (zoH w wx P (.slice AR xs.length cR) (.slice AL ls.length cL) xs ls k AM cM AS cS)) (fun i _ => xs.length - (intOf i).toNat)
   case atStart => exact ⟨0, none, 0, none, 0, Nat.zero_le _, rfl, HST⟩
   case round =>
    obtain ⟨k, AM, cM, AS, cS, hk, rfl, St⟩ := hrel; by_cases hlt : k < xs.length
    · have hki : (k : Int) < (xs.length : Int) := by omega
      obtain ⟨_, _, ev, _, _, hrow⟩ := HG.o.up St.o.bel; injection ev with e1 e2 e3; subst e1 e3; obtain ⟨b, o, rfl, hbl, hcell⟩ := hrow.rule (k := k) hlt; obtain ⟨k0, k1, k2⟩ := hcell k _ (zcm hlt); have HPA := yq (fun (hp : (zaA xs k).pair = true) => zbi HL.o hlt hp); have HMP := yq (fun (hp : (zaA xs k).pair = true) => zpc HL.o hlt hp); have HSP := yq (fun (hp : (zaA xs k).pair = true) => zpd HL.o hlt hp); have HLT := yq (fun (hp : (zaA xs k).pair = false) => zc6 HL.o hlt hp); have HML := yq (fun (c : UInt8) (hp : (zaA xs k).pair = false) (hc : (zaA xs k).letter = ⟨#[c]⟩) => zpK hp hc); generalize hR : zaA xs k = R at *; obtain ⟨rs, rl, rr⟩ := R; have b4 := (Below.refl _ wr).alloc yL (Obj.cells #[.string rs, .int .i64 rl, .int .i64 rr] 88); have HKR := yq (Blk.new wr #[.string rs, .int .i64 rl, .int .i64 rr] 88); have St4 := yq (St.o.up b4); clear b4 hcell hrow hR; go_upto_region 8 with fail
      revert HKR St4; generalize (wr.alloc (Obj.cells #[.string rs, .int .i64 rl, .int .i64 rr] 88)) = w4; intro HKR St4; obtain ⟨Rb, hRb⟩ : ∃ Rb, wr.heap.size = Rb := ⟨_, rfl⟩
      have hPR : P < Rb := by rw [<- hRb]; exact St.o.box.lt
      rw [hRb] at HKR; rw [hRb]; clear k0 k1 k2 St; go_wp2_with fail
      refine (znb _).mono ?_
      rintro e w5 ⟨hb5, rfl⟩; have b6 := ((Below.refl _ w5).alloc yL (Obj.cells #[.int .u64 0, .int .u64 0] 163)).alloc yS (Obj.cells #[.int .u64 1234567890123456789, .int .u64 987654321987654321] 163); have b46 := Below.tr hb5 b6; have St5 := yq (St4.o.up hb5); have HB56 := yq b6; have HKR6 := yq (HKR.o.up b46); have St6 := yq (St4.o.up b46); have HKM6 := yq ((Blk.new w5 #[.int .u64 0, .int .u64 0] 163).alloc (Obj.cells #[.int .u64 1234567890123456789, .int .u64 987654321987654321] 163)); have HKS6 := yq (show Blk ((w5.alloc (Obj.cells #[.int .u64 0, .int .u64 0] 163)).alloc (Obj.cells #[.int .u64 1234567890123456789, .int .u64 987654321987654321] 163)) (w5.heap.size + 1) #[.int .u64 1234567890123456789, .int .u64 987654321987654321] 163 by have := Blk.new (w5.alloc (Obj.cells #[.int .u64 0, .int .u64 0] 163)) #[.int .u64 1234567890123456789, .int .u64 987654321987654321] 163; simpa using this); have HKR5 := yq (HKR.o.up hb5); have hRM : Rb < w5.heap.size := Nat.lt_of_lt_of_le HKR.o.lt hb5.size; clear hb5 b6 b46 HKR St4; go_upto_region 9 with fail
      revert HB56 HKR6 St6 HKM6 HKS6; generalize ((w5.alloc (Obj.cells #[.int .u64 0, .int .u64 0] 163)).alloc (Obj.cells #[.int .u64 1234567890123456789, .int .u64 987654321987654321] 163)) = w6; intro HB56 HKR6 St6 HKM6 HKS6; obtain ⟨M0, hM0⟩ : ∃ M0, w5.heap.size = M0 := ⟨_, rfl⟩
      have HM0 := yq hM0; rw [hM0] at HKM6 HKS6 hRM HB56; rw [hM0]; have r0 := Blk.cell (i := 0) (v := .string rs) HKR6.o rfl; have r1 := Blk.cell (i := 1) (v := .int .i64 rl) HKR6.o rfl; have r2 := Blk.cell (i := 2) (v := .int .i64 rr) HKR6.o rfl; have rL := HKR6.o.lt; go_wp2_with fail
      refine (zbF rs rl rr _).mono ?_
      rintro e w7 ⟨rfl, hw7⟩; have b7 : Below w6.heap.size w6 w7 := by rw [<- hw7]; exact (Below.refl _ _).alloc yL _
      have HB57 := yq (show Below M0 w5 w7 from HB56.o.trans (b7.mono (by have := HB56.o.size; have := HM0.o; omega))); have HKR7 := yq (HKR6.o.up b7); have St7 := yq (St6.o.up b7); have HKM7 := yq (HKM6.o.up b7); have HKS7 := yq (HKS6.o.up b7); clear r0 r1 r2 rL hw7 b7 HKR6 St6 HKM6 HKS6; obtain ⟨bP, hbP⟩ : ∃ b, rs.toList.isEmpty = b := ⟨_, rfl⟩
      rw [hbP]; have HBP := yq hbP; clear hbP; go_upto_if 33 with fail
      go_cut [11] from 34 to 84 (fun _ wx => zoH w wx P (.slice (some ⟨b, o, none⟩) xs.length cR) (.slice AL ls.length cL) xs ls k AM cM AS cS /\ prB wx M0 (zeg xs k) /\ prB wx (M0 + 1) (zef xs k))
      case first =>
       cases bP with
       | false =>
         have hpf : (⟨rs, rl, rr⟩ : zaa).pair = false := by rw [zh4]; exact HBP.o
         obtain ⟨c, hc⟩ : ∃ c, rs = ⟨#[c]⟩ := zof (HLT.o hpf); obtain ⟨m1, m2⟩ := HML.o c hpf hc; subst hc; have HM := yq m1; have HS := yq m2; have r0 := Blk.cell (i := 0) (v := .string ⟨#[c]⟩) HKR7.o rfl; have rL := HKR7.o.lt; have f0 := Blk.frozen HKM7.o 0; have f1 := Blk.frozen HKM7.o 1; have g0 := Blk.cell (i := 0) HKM7.o rfl; have g1 := Blk.cell (i := 1) HKM7.o rfl; have gL := HKM7.o.lt
         have hcw : IntKind.u64.wrap (((⟨#[c]⟩ : ByteArray)[0]'(by show 0 < 1; omega)).toNat : Int) = (c.toNat : Int) := by
          have h256 : c.toNat < 256 := c.toNat_lt; exact IntWalk.u64_in _ (by show 0 <= (c.toNat : Int) /\ (c.toNat : Int) <= _; omega)
         clear m1 m2 hpf; go_wp2_with fail
         go_meet
         try rw [hcw]
         have bb : Below M0 w7 ((w7.setCell ⟨M0, 0, none⟩ (.int .u64 (c.toNat : Int))).setCell ⟨M0, 1, none⟩ (.int .u64 (c.toNat : Int))) := ((Below.refl M0 w7).setCell (p := ⟨M0, 0, none⟩) yL _).setCell (p := ⟨M0, 1, none⟩) yL _; refine ⟨St5.o.up (by rw [HM0.o]; exact HB57.o.trans bb), ?_, ?_⟩
         · rw [HM.o]; exact (HKM7.o.set 0 _).set 1 _
         · rw [HS.o]; exact Blk.other (Blk.other HKS7.o (p := ⟨M0, 0, none⟩) (by show M0 + 1 ≠ M0; omega) _) (p := ⟨M0, 1, none⟩) (by show M0 + 1 ≠ M0; omega) _
       | true =>
         have hpt : (⟨rs, rl, rr⟩ : zaa).pair = true := by rw [zh4]; exact HBP.o
         obtain ⟨l0, l1, r0', r1', _⟩ := HPA.o hpt; obtain ⟨l, rfl⟩ : ∃ l : Nat, rl = (l : Int) := ⟨rl.toNat, (Int.toNat_of_nonneg l0).symm⟩
         obtain ⟨r, rfl⟩ : ∃ r : Nat, rr = (r : Int) := ⟨rr.toNat, (Int.toNat_of_nonneg r0').symm⟩
         have hlk : l < k := l1; have hrk : r < k := r1'; have hlI : (l : Int) < (k : Int) := by omega
         have hrI : (r : Int) < (k : Int) := by omega
         obtain ⟨g, rfl, a0, a1, a2, a3⟩ := zdP.two St5.o.mrk (zm8 hlk) (zm8 hrk); obtain ⟨g', rfl, b0, b1, b2, b3⟩ := zdP.two St5.o.stp (zm9 hlk) (zm9 hrk); have hM : zeg xs k = (((zeg xs l).1 * (zef xs r).1 % pF + (zeg xs r).1) % pF, ((zeg xs l).2 * (zef xs r).2 % pF + (zeg xs r).2) % pF) := HMP.o hpt; have hS : zef xs k = ((zef xs l).1 * (zef xs r).1 % pF, (zef xs l).2 * (zef xs r).2 % pF) := HSP.o hpt; obtain ⟨q1, q2⟩ := zna xs l; obtain ⟨q3, q4⟩ := zna xs r; obtain ⟨q5, q6⟩ := zpe xs l; obtain ⟨q7, q8⟩ := zpe xs r; generalize zeg xs l = ml at a0 a1 hM q1 q2; generalize zeg xs r = mr at a2 a3 hM q3 q4; generalize zef xs l = sl at b0 b1 hS q5 q6; generalize zef xs r = sr at b2 b3 hM hS q7 q8; obtain ⟨m1, m2⟩ := ml; obtain ⟨n1, n2⟩ := mr; obtain ⟨t1, t2⟩ := sl; obtain ⟨s1, s2⟩ := sr; have CT1 := fun W => zg8 m1 m2 s1 s2 W q1 q2 q7 q8; have CT2 := fun W => zg8 t1 t2 s1 s2 W q5 q6 q7 q8; have CP1 := fun W => zk3 (m1 * s1 % pF) (m2 * s2 % pF) n1 n2 W (Nat.mod_lt _ (by decide)) (Nat.mod_lt _ (by decide)) q3 q4; have hM2 : zeg xs k = ((m1 * s1 % pF + n1) % pF, (m2 * s2 % pF + n2) % pF) := hM; have hS2 : zef xs k = (t1 * s1 % pF, t2 * s2 % pF) := hS; obtain ⟨x1, hx1⟩ : ∃ x, m1 * s1 % pF = x := ⟨_, rfl⟩
         obtain ⟨x2, hx2⟩ : ∃ x, m2 * s2 % pF = x := ⟨_, rfl⟩
         obtain ⟨y1, hy1⟩ : ∃ x, t1 * s1 % pF = x := ⟨_, rfl⟩
         obtain ⟨y2, hy2⟩ : ∃ x, t2 * s2 % pF = x := ⟨_, rfl⟩
         simp only [hx1, hx2, hy1, hy2] at CT1 CT2 CP1 hM2 hS2
         obtain ⟨z1, hz1⟩ : ∃ x, (x1 + n1) % pF = x := ⟨_, rfl⟩
         obtain ⟨z2, hz2⟩ : ∃ x, (x2 + n2) % pF = x := ⟨_, rfl⟩
         simp only [hz1, hz2] at CP1 hM2
         have HM := yq hM2; have HS := yq hS2; have CT1 := yq CT1; have CT2 := yq CT2; have CP1 := yq CP1; have k1 := St5.o.box.ci (i := 2) (v := .slice (some ⟨g, 0, none⟩) k cM) rfl; have k2 := St5.o.box.ci (i := 3) (v := .slice (some ⟨g', 0, none⟩) k cS) rfl; have k3 := HKR5.o.ci (i := 1) (v := .int .i64 (l : Int)) rfl; have k4 := HKR5.o.ci (i := 2) (v := .int .i64 (r : Int)) rfl; have HLE : w5.heap.size <= M0 := Nat.le_of_eq HM0.o; have B7 : Below w5.heap.size w5 w7 := by rw [HM0.o]; exact HB57.o
         have HB7 := yq B7; clear hM hS hM2 hS2 hx1 hx2 hy1 hy2 hz1 hz2 q1 q2 q3 q4 q5 q6 q7 q8 l0 l1 r0' r1' hpt B7; go_upto_region 10 with fail
         go_cut [] from 34 to 60 (fun wx => Below w5.heap.size w5 wx /\ prB wx M0 (zeg xs k) /\ Blk wx (M0 + 1) #[.int .u64 1234567890123456789, .int .u64 987654321987654321] 163)
         case first =>
          have KD := ziN k1 k2 k3 k4 a0 a1 a2 a3 b2 b3 (Below.drew HB7.o)
          go_region_held3 (fun w' => Below w5.heap.size w5 w' /\ w'.cell? ⟨P, 2, none⟩ = some (.slice (some ⟨g, 0, none⟩) k cM) /\ w'.cell? ⟨P, 3, none⟩ = some (.slice (some ⟨g', 0, none⟩) k cS) /\ w'.cell? ⟨Rb, 1, none⟩ = some (.int .i64 (l : Int)) /\ w'.cell? ⟨Rb, 2, none⟩ = some (.int .i64 (r : Int)) /\ w'.cell? ⟨g, l * 2, none⟩ = some (.int .u64 (m1 : Int)) /\ w'.cell? ⟨g, l * 2 + 1, none⟩ = some (.int .u64 (m2 : Int)) /\ w'.cell? ⟨g, r * 2, none⟩ = some (.int .u64 (n1 : Int)) /\ w'.cell? ⟨g, r * 2 + 1, none⟩ = some (.int .u64 (n2 : Int)) /\ w'.cell? ⟨g', r * 2, none⟩ = some (.int .u64 (s1 : Int)) /\ w'.cell? ⟨g', r * 2 + 1, none⟩ = some (.int .u64 (s2 : Int)))
           (first | (with_reducible exact KD) | (with_reducible exact ziN k1 k2 k3 k4 a0 a1 a2 a3 b2 b3 B8) | (with_reducible exact ziN k1 k2 k3 k4 a0 a1 a2 a3 b2 b3 B9) | (with_reducible exact ziN k1 k2 k3 k4 a0 a1 a2 a3 b2 b3 ((B9.setCell (p := ⟨M0, 0, none⟩) HLE _).setCell (p := ⟨M0, 1, none⟩) HLE _)))
           (first
             | (go_at_call 125; (refine (CT1.o _).mono ?_); rintro e8 w8 ⟨hb8, rfl⟩; have B8 : Below w5.heap.size w5 w8 := Below.tr HB7.o (by first | exact hb8 | exact Below.undrew hb8); have K8 := yq (HKM7.o.up (by first | exact hb8 | exact Below.undrew hb8)); have S8 := yq (HKS7.o.up (by first | exact hb8 | exact Below.undrew hb8)))
             | (go_at_call 126; (refine (CP1.o _).mono ?_); rintro e9 w9 ⟨hb9, rfl⟩; have B9 : Below w5.heap.size w5 w9 := Below.tr B8 (by first | exact hb9 | exact Below.undrew hb9); have K9 := yq (K8.o.up (by first | exact hb9 | exact Below.undrew hb9)); have S9 := yq (S8.o.up (by first | exact hb9 | exact Below.undrew hb9)); have g0 := Blk.cell (i := 0) K9.o rfl; have g1 := Blk.cell (i := 1) K9.o rfl; have f0 := Blk.frozen K9.o 0; have f1 := Blk.frozen K9.o 1; have gL := K9.o.lt))
          all_goals
           go_wp2_with fail
           go_meet
           refine ⟨(B9.setCell (p := ⟨M0, 0, none⟩) HLE _).setCell (p := ⟨M0, 1, none⟩) HLE _, ?_, ?_⟩
           · rw [HM.o]; exact (K9.o.set 0 _).set 1 _
           · exact Blk.other (Blk.other S9.o (p := ⟨M0, 0, none⟩) (by show M0 + 1 ≠ M0; omega) _) (p := ⟨M0, 1, none⟩) (by show M0 + 1 ≠ M0; omega) _
         case rest =>
          obtain ⟨bc, hMc, hSc⟩ := hcut; have HBc := yq bc; have HMc := yq hMc; have HSc := yq hSc; clear bc hMc hSc; go_upto_region 11 with fail
          have KD := znd k2 k3 k4 b0 b1 b2 b3 (Below.drew HBc.o)
          go_region_held3 (fun w' => Below w5.heap.size w5 w' /\ w'.cell? ⟨P, 3, none⟩ = some (.slice (some ⟨g', 0, none⟩) k cS) /\ w'.cell? ⟨Rb, 1, none⟩ = some (.int .i64 (l : Int)) /\ w'.cell? ⟨Rb, 2, none⟩ = some (.int .i64 (r : Int)) /\ w'.cell? ⟨g', l * 2, none⟩ = some (.int .u64 (t1 : Int)) /\ w'.cell? ⟨g', l * 2 + 1, none⟩ = some (.int .u64 (t2 : Int)) /\ w'.cell? ⟨g', r * 2, none⟩ = some (.int .u64 (s1 : Int)) /\ w'.cell? ⟨g', r * 2 + 1, none⟩ = some (.int .u64 (s2 : Int)))
           (first | (with_reducible exact KD) | (with_reducible exact znd k2 k3 k4 b0 b1 b2 b3 B8) | (with_reducible exact znd k2 k3 k4 b0 b1 b2 b3 ((B8.setCell (p := ⟨M0 + 1, 0, none⟩) (Nat.le_succ_of_le HLE) _).setCell (p := ⟨M0 + 1, 1, none⟩) (Nat.le_succ_of_le HLE) _)))
           (first
             | (go_at_call 125; (refine (CT2.o _).mono ?_); rintro e8 w8 ⟨hb8, rfl⟩; have B8 : Below w5.heap.size w5 w8 := Below.tr HBc.o (by first | exact hb8 | exact Below.undrew hb8); have K8 := yq (Blk.up HMc.o (by first | exact hb8 | exact Below.undrew hb8)); have S8 := yq (HSc.o.up (by first | exact hb8 | exact Below.undrew hb8)); have g0 := Blk.cell (i := 0) S8.o rfl; have g1 := Blk.cell (i := 1) S8.o rfl; have f0 := Blk.frozen S8.o 0; have f1 := Blk.frozen S8.o 1; have gL := S8.o.lt))
          all_goals
           go_wp2_with fail
           go_meet
           have B9 := (B8.setCell (p := ⟨M0 + 1, 0, none⟩) (Nat.le_succ_of_le HLE) (.int .u64 (y1 : Int))).setCell (p := ⟨M0 + 1, 1, none⟩) (Nat.le_succ_of_le HLE) (.int .u64 (y2 : Int)); refine ⟨St5.o.up B9, ?_, ?_⟩
           · exact Blk.other (Blk.other K8.o (p := ⟨M0 + 1, 0, none⟩) (by show M0 ≠ M0 + 1; omega) _) (p := ⟨M0 + 1, 1, none⟩) (by show M0 ≠ M0 + 1; omega) _
           · rw [HS.o]; exact (S8.o.set 0 _).set 1 _
      case rest =>
       obtain ⟨Stc, pmc, psc⟩ := hcut; have hg5 : ∀ g, (Value.slice AM k cM).ownBlock = some g -> g < M0 := fun g e => by have := (World.ownsRow.lt St5.o.mrk g e).2; have := HM0.o; omega
       have hg6 : ∀ g, (Value.slice AS k cS).ownBlock = some g -> g < M0 := fun g e => by have := (World.ownsRow.lt St5.o.stp g e).2; have := HM0.o; omega
       have hPc : w.heap.size <= P := hzP
       have Z0 := yq (show Psh w wc P M0 #[.slice (some ⟨b, o, none⟩) xs.length cR, .slice AL ls.length cL, .slice AM k cM, .slice AS k cS] (.slice AL ls.length cL) ls (zeg xs k) (zef xs k) (.slice AM k cM) (.slice AS k cS) (zjO xs k) (zjP xs k) from
        ⟨Stc.bel, hPc, Stc.box, Stc.len, Stc.low, pmc, psc, Stc.mrk, Stc.stp, Stc.ne, fun g e => by have := hg5 g e; omega, fun g e => by have := hg6 g e; omega⟩)
       have hMc : M0 < wc.heap.size := pmc.lt; have HG5 := yq (show ∀ g, (Value.slice AM k cM).ownBlock = some g -> g < wc.heap.size from fun g e => Nat.lt_trans (hg5 g e) hMc); have HML2 := yq (zm6 xs k); have HSL2 := yq (zm7 xs k); have HKB : k <= 1048576 := by omega
       have HMB := yq (show (zjO xs k).length <= 1048576 by rw [zm6]; exact HKB); have HSB := yq (show (zjP xs k).length <= 1048576 by rw [zm7]; exact HKB); have hPlt : P < wc.heap.size := Stc.box.lt; have HPL := yq hPlt; have HMM := yq (show zeg xs k = ((zeg xs k).1, (zeg xs k).2) from rfl); have HDN := yq (fun (W : World) (AM' AS' : Option Addr) (d d' : Nat) (h : Psh w W P M0 #[.slice (some ⟨b, o, none⟩) xs.length cR, .slice AL ls.length cL, .slice AM k cM, .slice AS k cS] (.slice AL ls.length cL) ls (zeg xs k) (zef xs k) (.slice AM' (k + 1) d) (.slice AS' (k + 1) d') (zjO xs k ++ [zeg xs k]) (zjP xs k ++ [zef xs k])) => h.done rfl); generalize hmk : zeg xs k = mk at *; generalize hst : zef xs k = st at *; obtain ⟨m1, m2⟩ := mk; obtain ⟨s1, s2⟩ := st; clear hmk hst Stc pmc psc hg5 hg6 hM0 hRb hMc HMM hPlt; have KD := yq Z0.o.drew.cells
       have HPM : P < M0 := by
        have h1 := HPL.o; omega
       go_upto_region 14 with fail
       refine zha (fun w' => w'.cell? ⟨P, 2, none⟩ = some (.slice AM k cM) /\ w'.cell? ⟨P, 3, none⟩ = some (.slice AS k cS) /\ w'.cell? ⟨M0, 0, none⟩ = some (.int .u64 (m1 : Int)) /\ w'.cell? ⟨M0, 1, none⟩ = some (.int .u64 (m2 : Int)) /\ w'.cell? ⟨M0 + 1, 0, none⟩ = some (.int .u64 (s1 : Int)) /\ w'.cell? ⟨M0 + 1, 1, none⟩ = some (.int .u64 (s2 : Int)))
        16 1 _ ?_ yk yk rfl (fun _ _ _ h => h) yR ?_ KD.o (fun hHeld => ?_)
       rotate_left 1
       · intro w8
         go_simp
         try with_reducible rfl
       simp only [Act.put]
       refine zaL ((Array.replicate 22 false).setIfInBounds 1 true) 0 _ ?_ yk rfl yk (fun _ _ _ h => h) yR ?_ hHeld ?_
       rotate_left 1
       · intro w8 hSw
         obtain ⟨s1, s2, s3, s4, s5, s6⟩ := hSw; go_simp
         try with_reducible rfl
       simp only [Act.put]
       refine zaL ((Array.replicate 22 false).setIfInBounds 1 true) 2 _ ?_ yk rfl yk (fun _ _ _ h => h) yR ?_ hHeld ?_
       rotate_left 1
       · intro w8 hSw
         obtain ⟨s1, s2, s3, s4, s5, s6⟩ := hSw; go_simp
         try with_reducible rfl
       simp only [Act.put]
       refine zaL ((Array.replicate 22 false).setIfInBounds 1 true) 3 _ ?_ yk rfl yk (fun _ _ _ h => h) yR ?_ hHeld ?_
       rotate_left 1
       · intro w8 hSw
         obtain ⟨s1, s2, s3, s4, s5, s6⟩ := hSw; go_simp
         try with_reducible rfl
       simp only [Act.put]
       refine zaL ((Array.replicate 22 false).setIfInBounds 1 true) 4 _ ?_ yk rfl yk (fun _ _ _ h => h) yR ?_ hHeld ?_
       rotate_left 1
       · intro w8 hSw
         obtain ⟨s1, s2, s3, s4, s5, s6⟩ := hSw; go_simp
         try with_reducible rfl
       simp only [Act.put]
       refine zaL ((Array.replicate 22 false).setIfInBounds 1 true) 5 _ ?_ yk rfl yk (fun _ _ _ h => h) yR ?_ hHeld ?_
       rotate_left 1
       · intro w8 hSw
         obtain ⟨s1, s2, s3, s4, s5, s6⟩ := hSw; go_simp
         try with_reducible rfl
       simp only [Act.put]
       refine zaL ((Array.replicate 22 false).setIfInBounds 1 true) 6 _ ?_ yk rfl yk (fun _ _ _ h => h) yR ?_ hHeld ?_
       rotate_left 1
       · intro w8 hSw
         obtain ⟨s1, s2, s3, s4, s5, s6⟩ := hSw; go_simp
         try with_reducible rfl
       simp only [Act.put]
       refine zaL ((Array.replicate 22 false).setIfInBounds 1 true) 9 _ ?_ yk rfl yk (fun _ _ _ h => h) yR ?_ hHeld ?_
       rotate_left 1
       · intro w8 hSw
         obtain ⟨s1, s2, s3, s4, s5, s6⟩ := hSw; go_simp
         try with_reducible rfl
       simp only [Act.put]
       refine zaL ((Array.replicate 22 false).setIfInBounds 1 true) 10 _ ?_ yk rfl yk (fun _ _ _ h => h) yR ?_ hHeld ?_
       rotate_left 1
       · intro w8 hSw
         obtain ⟨s1, s2, s3, s4, s5, s6⟩ := hSw; go_simp
         try with_reducible rfl
       simp only [Act.put]
       refine zaL ((Array.replicate 22 false).setIfInBounds 1 true) 11 _ ?_ yk rfl yk (fun _ _ _ h => h) yR ?_ hHeld ?_
       rotate_left 1
       · intro w8 hSw
         obtain ⟨s1, s2, s3, s4, s5, s6⟩ := hSw; go_simp
         try with_reducible rfl
       simp only [Act.put]
       refine zaL ((Array.replicate 22 false).setIfInBounds 1 true) 12 _ ?_ yk rfl yk (fun _ _ _ h => h) yR ?_ hHeld ?_
       rotate_left 1
       · intro w8 hSw
         obtain ⟨s1, s2, s3, s4, s5, s6⟩ := hSw; go_simp
         try with_reducible rfl
       simp only [Act.put]
       refine zaL ((Array.replicate 22 false).setIfInBounds 1 true) 13 _ ?_ yk rfl yk (fun _ _ _ h => h) yR ?_ hHeld ?_
       rotate_left 1
       · intro w8 hSw
         obtain ⟨s1, s2, s3, s4, s5, s6⟩ := hSw; go_simp
         try with_reducible rfl
       simp only [Act.put]
       refine zbS [7, 14] yk ?_
       refine zaE.cons (o := _) rfl (fun K hK => ?_) (zaE.cons (o := _) rfl (fun K hK => ?_) zaE.nil)
       · -- 7
         go_simp
         have YA := yq ((Psh.alloc Z0.o (Obj.cells #[.int .u64 (m1 : Int), .int .u64 (m2 : Int)] 163)).drew); refine hK.out _ _ (Psh.cells YA.o) (fun hHeld => ?_)
         clear hK K; refine zbS [8, 14] yk ?_
         refine zaE.cons (o := _) rfl (fun K hK => ?_) (zaE.cons (o := _) rfl (fun K hK => ?_) zaE.nil)
         · -- 8
           refine zct (base := P + 1) (A := AM) (n := k) (c := cM) (l := zjO xs k) (p := (m1, m2)) yR _ _ yR yR yR (zks rfl) HML2.o.symm YA.o.mrk HMB.o (by have h1 := HPL.o; simp; omega) ?_
           intro A9 c9 w9 own9 ho9 hg9 hb9; have Z1 := Psh.push1 YA.o own9 ho9 hg9 hb9; refine hK.out _ _ (Psh.cells Z1) (fun hHeld => ?_)
           have kp := ziO hg9 HG5.o; have HZ1 := yq Z1; clear hK K Z1; refine zbS [14] yk ?_
           refine zaE.cons (o := _) rfl (fun K hK => ?_) zaE.nil
           go_simp
           have YB := yq (Psh.alloc HZ1.o (Obj.cells #[.int .u64 (s1 : Int), .int .u64 (s2 : Int)] 163)); refine hK.out _ _ (Psh.cells YB.o) (fun hHeld => ?_)
           clear hK K; refine zbS [15] yk ?_
           refine zaE.cons (o := _) rfl (fun K hK => ?_) zaE.nil
           refine zct (base := P + 1) (A := AS) (n := k) (c := cS) (l := zjP xs k) (p := (s1, s2)) yR _ _ yR yR yR (zne rfl) HSL2.o.symm YB.o.stp HSB.o (by have h1 := HZ1.o.box.lt; simp; omega) ?_
           intro A10 c10 w10 own10 ho10 hg10 hb10; have Z2 := Psh.push2 YB.o own10 ho10 hg10 hb10; refine hK.out _ _ (Psh.cells Z2) (fun _ => ?_)
           clear hK K hHeld; have HZ2 := yq Z2; have K2 := yq Z2.box; clear Z2 own10 ho10 hg10 hb10 own9 ho9 hg9 hb9 kp; have g2 := Blk.cell (i := 2) K2.o rfl; have g3 := Blk.cell (i := 3) K2.o rfl; have f2 := Blk.frozen K2.o 2; have f3 := Blk.frozen K2.o 3; have gL := K2.o.lt; refine zfJ yk ?_
           simp only [List.drop_succ_cons, List.drop_zero]
           go_wp2_with fail
           exact ⟨⟨k + 1, _, _, _, _, by omega, by simp, HDN.o _ _ _ _ _ HZ2.o⟩, by first | (simp [intOf]; done) | (simp [intOf]; omega)⟩
         · -- 14
           go_simp
           have YB := yq (Psh.alloc YA.o (Obj.cells #[.int .u64 (s1 : Int), .int .u64 (s2 : Int)] 163)); refine hK.out _ _ (Psh.cells YB.o) (fun hHeld => ?_)
           clear hK K; refine zbS [8] yk ?_
           refine zaE.cons (o := _) rfl (fun K hK => ?_) zaE.nil
           refine zct (base := P + 1) (A := AM) (n := k) (c := cM) (l := zjO xs k) (p := (m1, m2)) yR _ _ yR yR yR (zpL (zks rfl)) HML2.o.symm YB.o.mrk HMB.o (by have h1 := HPL.o; simp; omega) ?_
           intro A9 c9 w9 own9 ho9 hg9 hb9; have Z1 := Psh.push1 YB.o own9 ho9 hg9 hb9; refine hK.out _ _ (Psh.cells Z1) (fun hHeld => ?_)
           have kp := ziO hg9 HG5.o; have HZ1 := yq Z1; clear hK K Z1; refine zbS [15] yk ?_
           refine zaE.cons (o := _) rfl (fun K hK => ?_) zaE.nil
           refine zct (base := P + 1) (A := AS) (n := k) (c := cS) (l := zjP xs k) (p := (s1, s2)) yR _ _ yR yR yR (kp (wc.heap.size + 1) _ yO (zne yS)) HSL2.o.symm HZ1.o.stp HSB.o (by have h1 := HZ1.o.box.lt; omega) ?_
           intro A10 c10 w10 own10 ho10 hg10 hb10; have Z2 := Psh.push2 HZ1.o own10 ho10 hg10 hb10; refine hK.out _ _ (Psh.cells Z2) (fun _ => ?_)
           clear hK K hHeld; have HZ2 := yq Z2; have K2 := yq Z2.box; clear Z2 own10 ho10 hg10 hb10 own9 ho9 hg9 hb9 kp; have g2 := Blk.cell (i := 2) K2.o rfl; have g3 := Blk.cell (i := 3) K2.o rfl; have f2 := Blk.frozen K2.o 2; have f3 := Blk.frozen K2.o 3; have gL := K2.o.lt; refine zfJ yk ?_
           simp only [List.drop_succ_cons, List.drop_zero]
           go_wp2_with fail
           exact ⟨⟨k + 1, _, _, _, _, by omega, by simp, HDN.o _ _ _ _ _ HZ2.o⟩, by first | (simp [intOf]; done) | (simp [intOf]; omega)⟩
       · -- 14
         go_simp
         have YA := yq ((Psh.alloc Z0.o (Obj.cells #[.int .u64 (s1 : Int), .int .u64 (s2 : Int)] 163)).drew); refine hK.out _ _ (Psh.cells YA.o) (fun hHeld => ?_)
         clear hK K; refine zbS [7] yk ?_
         refine zaE.cons (o := _) rfl (fun K hK => ?_) zaE.nil
         go_simp
         have YB := yq (Psh.alloc YA.o (Obj.cells #[.int .u64 (m1 : Int), .int .u64 (m2 : Int)] 163)); refine hK.out _ _ (Psh.cells YB.o) (fun hHeld => ?_)
         clear hK K; refine zbS [8] yk ?_
         refine zaE.cons (o := _) rfl (fun K hK => ?_) zaE.nil
         refine zct (base := P + 1) (A := AM) (n := k) (c := cM) (l := zjO xs k) (p := (m1, m2)) yR _ _ yR yR yR (zne yS) HML2.o.symm YB.o.mrk HMB.o (by have h1 := HPL.o; simp; omega) ?_
         intro A9 c9 w9 own9 ho9 hg9 hb9; have Z1 := Psh.push1 YB.o own9 ho9 hg9 hb9; refine hK.out _ _ (Psh.cells Z1) (fun hHeld => ?_)
         have kp := ziO hg9 HG5.o; have HZ1 := yq Z1; clear hK K Z1; refine zbS [15] yk ?_
         refine zaE.cons (o := _) rfl (fun K hK => ?_) zaE.nil
         refine zct (base := P + 1) (A := AS) (n := k) (c := cS) (l := zjP xs k) (p := (s1, s2)) yR _ _ yR yR yR (kp wc.heap.size _ yO (zpL (zks rfl))) HSL2.o.symm HZ1.o.stp HSB.o (by have h1 := HZ1.o.box.lt; omega) ?_
         intro A10 c10 w10 own10 ho10 hg10 hb10; have Z2 := Psh.push2 HZ1.o own10 ho10 hg10 hb10; refine hK.out _ _ (Psh.cells Z2) (fun _ => ?_)
         clear hK K hHeld; have HZ2 := yq Z2; have K2 := yq Z2.box; clear Z2 own10 ho10 hg10 hb10 own9 ho9 hg9 hb9 kp; have g2 := Blk.cell (i := 2) K2.o rfl; have g3 := Blk.cell (i := 3) K2.o rfl; have f2 := Blk.frozen K2.o 2; have f3 := Blk.frozen K2.o 3; have gL := K2.o.lt; refine zfJ yk ?_
         simp only [List.drop_succ_cons, List.drop_zero]
         go_wp2_with fail
         exact ⟨⟨k + 1, _, _, _, _, by omega, by simp, HDN.o _ _ _ _ _ HZ2.o⟩, by first | (simp [intOf]; done) | (simp [intOf]; omega)⟩
    · have hkn : k = xs.length := by omega
      subst hkn; go_wp2_with fail
      exact bodyPost_ret (v := .tuple #[.pointer (some ⟨P, 0, none⟩), .bool true]) (by simp [results, Tryz.results80, go_sem]) rfl ⟨P, ls, _, AM, cM, AS, cS, rfl, HL.o, hzP, St.o⟩
 · exfalso
   obtain ⟨_, l2, h2⟩ := zai hg; rw [hl] at h2; cases h2
theorem zlM {xs : List zaa} {ls : List Int} (hl : zaW xs = some ls) : za3 xs ls 0 (zao ls) = if xs.length = 0 then [] else [xs.length - 1] := by
 have hll := zaG hl; unfold za3; by_cases h0 : xs.length = 0
 · rw [if_neg yO, if_pos h0]
 · have hp := zaO hl (r := xs.length - 1) yO
   have e : zao ls = ls.getD (xs.length - 1) 0 := by rw [zao, hll]
   rw [if_pos ⟨by omega, by rw [e]; omega⟩, if_neg h0]; obtain ⟨n, hn⟩ : ∃ n, xs.length = n + 1 := ⟨xs.length - 1, by omega⟩
   rw [hn, zbr]; rw [hn] at e hp; rw [if_neg (by rw [e]; omega), if_pos (by rw [e]; omega)]
end Go.Proofs.YtejgbfgocaggfaaGreatDoor
