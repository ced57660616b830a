import Derived.Test.YtejgbfgocaggfaaGreatDoorM3
import Derived.Maps.Keyed
import Derived.DeepKeys4
import Derived.Deep.RegionLaw
import Derived.RangeFuncBox
import Derived.Deep.CutRange
import Derived.Deep.DeepCutAuto
import Derived.WalkArith
import Derived.Deep.OwnRows
import Derived.IntWalk
set_option maxRecDepth 100000
set_option maxHeartbeats 8000000
namespace Go.Proofs.YtejgbfgocaggfaaGreatDoor
open Go.RowKit
def zkL (r : zaa) : Value := .agg #[.string r.letter, .int .i64 r.left, .int .i64 r.right]
def zid (r : zaa) : Prop := r.letter.size <= 1 /\ (-9223372036854775808 <= r.left /\ r.left <= 9223372036854775807) /\ (-9223372036854775808 <= r.right /\ r.right <= 9223372036854775807)
theorem znR {r s : zaa} (h : zkL r = zkL s) : r = s := by
 cases r; cases s
 simp [zkL] at h
 obtain ⟨h1, h2, h3⟩ := h; subst h1 h2 h3; rfl
theorem znS : laidOutB Tryz.prog = true := by kernel_rfl
theorem zmn : (88 : TypeId) < Tryz.prog.types.size := of_decide_eq_true yk
theorem zjZ : Tryz.prog.keyTypeAt 2 88 = true := by kernel_rfl
theorem zie : WideMaps.KeyLaw Tryz.prog 88 := deep_law_laid znS (m := 2) yO zmn zjZ (by rw [Tryz.underlying88])
theorem zjd : Tryz.prog.cellsOf 88 = 3 := by kernel_rfl
theorem zli (l : ByteArray) (a b : Int) : (Value.agg #[.string l, .int .i64 a, .int .i64 b]).formed Tryz.prog 88 = true := by simp [Value.formed, Tryz.underlying88, zjd]
theorem znT (D : Nat) (l : ByteArray) (a b : Int) (hl : l.size <= 1) (ha : (Lit.int .i64 a).wf = true) (hb : (Lit.int .i64 b).wf = true) :
  Tryz.prog.keyLits (D + 2) 88 [.string l, .int .i64 a, .int .i64 b] = some [.string l.data.toList, .int .i64 a, .int .i64 b] := by
 have hm : l.size <= maxLen := Nat.le_trans hl (by decide); have c9 : Tryz.prog.cellsOf 9 = 1 := by kernel_rfl
 have c2 : Tryz.prog.cellsOf 2 = 1 := by kernel_rfl
 simp [zjd, Tryz.underlying88, c9, c2, Program.keyLits, Tryz.underlying9, Tryz.underlying2, hm, ha, hb, List.mapM_cons]
theorem zdL {r : zaa} (h : zid r) : ∃ l, keyOf Tryz.prog 88 (zkL r) = some l := by
 obtain ⟨h1, h2, h3⟩ := h; have hw1 : (Lit.int .i64 r.left).wf = true := WalkArith.wf_i64 h2; have hw2 : (Lit.int .i64 r.right).wf = true := WalkArith.wf_i64 h3; obtain ⟨D, hD⟩ : ∃ D, Tryz.prog.types.size + 1 = D + 2 := ⟨Tryz.prog.types.size - 1, by have h9 : 1 < Tryz.prog.types.size := Nat.lt_of_le_of_lt (by decide) zmn; omega⟩
 have hk : Tryz.prog.keyType 88 = true := by kernel_rfl
 have hlits := znT D r.letter r.left r.right h1 hw1 hw2; rw [<- hD] at hlits; refine ⟨.string (keyBytes [.string r.letter.data.toList, .int .i64 r.left, .int .i64 r.right]), ?_⟩
 unfold keyOf zkL; rw [Tryz.underlying88]; have hc : (Value.agg #[.string r.letter, .int .i64 r.left, .int .i64 r.right]).cells.toList = [.string r.letter, .int .i64 r.left, .int .i64 r.right] := rfl
 show (if (Tryz.prog.keyType 88 && (Value.agg #[.string r.letter, .int .i64 r.left, .int .i64 r.right]).formed Tryz.prog 88) = true then
  (Tryz.prog.keyLits (Tryz.prog.types.size + 1) 88 (Value.agg #[.string r.letter, .int .i64 r.left, .int .i64 r.right]).cells.toList).map fun ls => Lit.string (keyBytes ls) else none) = _
 rw [hk, zli, hc, if_pos (show (true && true) = true from rfl), hlits]; rfl
def zeO (w : World) (b : Nat) (ks : List zaa) : Prop :=
 ∃ es clock, w.heap[b]? = some (.map es clock) /\ (∀ e ∈ es.toList, ∃ r, zid r /\ e.key = zkL r /\ r ∈ ks /\ e.val = .int .i64 (ks.idxOf r : Nat)) /\ ∀ r ∈ ks, ∃ e ∈ es.toList, e.key = zkL r
section
variable {w w' : World} {b : Nat} {ks : List zaa} {r : zaa}
theorem zeO.made (w : World) : zeO (w.alloc (.map #[] 0)) w.heap.size [] := ⟨#[], 0, (MapKept.heap_alloc w _).1, by simp, by simp⟩
theorem zeO.lt (h : zeO w b ks) : b < w.heap.size := by
 obtain ⟨es, clock, hb, _⟩ := h; exact (Array.getElem?_eq_some_iff.1 hb).1
theorem zeO.of_block (h : zeO w b ks) (hb : w'.heap[b]? = w.heap[b]?) : zeO w' b ks := by
 obtain ⟨es, clock, h0, h1, h2⟩ := h; exact ⟨es, clock, hb.trans h0, h1, h2⟩
theorem zeO.kept {row : Option Nat} (h : zeO w b ks) (hg : w.grownBy w' row) (hne : some b ≠ row) : zeO w' b ks := h.of_block (hg.block b h.lt hne)
theorem zeO.alloc (h : zeO w b ks) (o : Obj) : zeO (w.alloc o) b ks := h.kept (World.grownBy_alloc w o none) yS
theorem zeO.below {N : Nat} (h : zeO w b ks) (hb : Below N w w') (hlt : b < N) : zeO w' b ks := h.of_block (hb.block b hlt)
theorem zeO.same (h : zeO w b ks) (hr : r ∈ ks) : zeO w b (ks ++ [r]) := by
 obtain ⟨es, clock, h0, h1, h2⟩ := h; refine ⟨es, clock, h0, fun e he => ?_, fun s hs => ?_⟩
 · obtain ⟨s, a1, a2, a3, a4⟩ := h1 e he
   exact ⟨s, a1, a2, by simp [a3], by rw [List.idxOf_append, if_pos a3]; exact a4⟩
 · rcases List.mem_append.1 hs with hs | hs
   · exact h2 s hs
   · rw [List.mem_singleton] at hs; subst hs; exact h2 s hr
theorem zeO.find (h : zeO w b ks) (hk : zid r) : ∃ es clock, w.heap[b]? = some (.map es clock) /\ (∀ e ∈ es.toList, ∃ r, zid r /\ e.key = zkL r /\ r ∈ ks /\ e.val = .int .i64 (ks.idxOf r : Nat)) /\
  ((r ∉ ks /\ (Instr.findKey 88 (zkL r) es.toList).run Tryz.prog w = .ok none w) \/ (r ∈ ks /\ ∃ j, (Instr.findKey 88 (zkL r) es.toList).run Tryz.prog w = .ok (some (j, .int .i64 (ks.idxOf r : Nat))) w)) := by
 obtain ⟨es, clock, h0, h1, h2⟩ := h; obtain ⟨l, hl⟩ := zdL hk; refine ⟨es, clock, h0, h1, ?_⟩
 rcases zie.find w hl es.toList (fun e he => by
  obtain ⟨s, a1, a2, _⟩ := h1 e he
  rw [a2]; exact zdL a1) with ⟨f1, f2⟩ | ⟨j, e, f1, f2, f3⟩
 · refine .inl ⟨fun hr => ?_, f1⟩
   obtain ⟨e, he, hek⟩ := h2 r hr; exact f2 e he hek
 · obtain ⟨s, a1, a2, a3, a4⟩ := h1 e (List.mem_of_getElem? f2)
   have : s = r := znR (a2.symm.trans f3); subst this; exact .inr ⟨a3, j, by rw [<- a4]; exact f1⟩
theorem zeO.yes (h : zeO w b ks) (hk : zid r) (hr : r ∈ ks) (c : Bool) :
  (Instr.lookup 176 (.map (some b)) (zkL r) c).run Tryz.prog w = .ok (if c then .tuple #[.int .i64 (ks.idxOf r : Nat), .bool true] else .int .i64 (ks.idxOf r : Nat)) w := by
 obtain ⟨es, clock, h0, h1, h2⟩ := h.find hk; obtain ⟨l, hl⟩ := zdL hk; rcases h2 with ⟨hn, _⟩ | ⟨_, j, hj⟩
 · exact absurd hr hn
 · simp [Instr.lookup, run_underlying Tryz.underlying176, MapKept.run_getObj_map h0, zie.check w _ hl, hj, Result.andThen]
theorem zeO.no (h : zeO w b ks) (hk : zid r) (hr : r ∉ ks) (c : Bool) :
  (Instr.lookup 176 (.map (some b)) (zkL r) c).run Tryz.prog w = .ok (if c then .tuple #[.int .i64 0, .bool false] else .int .i64 0) w := by
 obtain ⟨es, clock, h0, h1, h2⟩ := h.find hk; obtain ⟨l, hl⟩ := zdL hk; have hz : (zeroValue 2).run Tryz.prog w = .ok (.int .i64 0) w := by kernel_rfl
 rcases h2 with ⟨_, hj⟩ | ⟨hy, _⟩
 · simp [Instr.lookup, run_underlying Tryz.underlying176, MapKept.run_getObj_map h0, zie.check w _ hl, hj, hz, Result.andThen]
 · exact absurd hy hr
open Go.ChangeMaps in
theorem zeO.put (h : zeO w b ks) (hk : zid r) (hr : r ∉ ks) :
  ∃ w', (Instr.mapUpdate 176 (.map (some b)) (zkL r) (.int .i64 (ks.length : Nat))).run Tryz.prog w = .ok () w' /\ zeO w' b (ks ++ [r]) /\ w.grownBy w' (some b) := by
 have h' := h; obtain ⟨es0, clock0, g0, g1, g2⟩ := h'; obtain ⟨es, clock, h0, h1, h2⟩ := h.find hk; obtain ⟨l, hl⟩ := zdL hk
 have he : es0 = es /\ clock0 = clock := by
  rw [g0] at h0; have := Option.some.inj h0; exact ⟨by injection this, by injection this⟩
 obtain ⟨rfl, rfl⟩ := he; rcases h2 with ⟨_, hj⟩ | ⟨hy, _⟩
 · refine ⟨setBlock w b (.map (es0.push ⟨zkL r, .int .i64 (ks.length : Nat), clock0⟩) (clock0 + 1)), ?_, ⟨_, _, heap_setBlock_same g0 _, ?_, ?_⟩, ⟨rfl, rfl, rfl, by simp [setBlock], fun i _ hi => heap_setBlock_other g0 _ (fun e => hi (by rw [e]))⟩⟩
   · simp [Instr.mapUpdate, run_underlying Tryz.underlying176, MapKept.run_getObj_map g0, zie.check w false hl, hj, MapKept.run_setObj_map _ g0, Result.andThen, setBlock]
   · intro e he
     simp only [Array.toList_push, List.mem_append, List.mem_singleton] at he
     rcases he with he | rfl
     · obtain ⟨s, a1, a2, a3, a4⟩ := g1 e he
       exact ⟨s, a1, a2, by simp [a3], by rw [List.idxOf_append, if_pos a3]; exact a4⟩
     · exact ⟨r, hk, rfl, by simp, by rw [List.idxOf_append, if_neg hr]; simp⟩
   · intro s hs
     simp only [Array.toList_push, List.mem_append, List.mem_singleton]
     rcases List.mem_append.1 hs with hs | hs
     · obtain ⟨e, he, hek⟩ := g2 s hs
       exact ⟨e, .inl he, hek⟩
     · rw [List.mem_singleton] at hs; subst hs; exact ⟨_, .inr rfl, rfl⟩
 · exact absurd hy hr
end
def zav (xs : List zaa) : List zaa := if zag xs then xs else []
def zas (xs : List zaa) : Int := if zag xs then 0 else 3
def zdw (xs ys : List zaa) : List zaa := if zag xs && zag ys then zav (zbh xs ys) else []
def zdp (xs ys : List zaa) : Int := if zag xs && zag ys then zas (zbh xs ys) else 1
theorem zj0 {xs : List zaa} {ls : List Int} (h : zaW xs = some ls) : ∀ (k : Nat) r, xs[k]? = some r -> zaC k r = true := by
 intro k r hr; rcases hk : zaW (xs.take k) with _ | out
 · have h2 : zaW xs = (xs.drop k).foldl zaR (zaW (xs.take k)) := by unfold zaW; rw [<- List.foldl_append, List.take_append_drop]
   rw [h2, hk, zcT] at h; cases h
 · by_cases hok : zaC k r = true
   · exact hok
   · have hlen := zaG hk
     rw [List.length_take, Nat.min_eq_left (Nat.le_of_lt (List.getElem?_eq_some_iff.1 hr).1)] at hlen
     have hb := zcQ hk hr (zbH (by rw [hlen]; simpa using hok)); rw [hb] at h; cases h
theorem zai {xs : List zaa} (h : zag xs = true) : xs.length <= 400 /\ ∃ ls, zaW xs = some ls := by
 simp only [zag, Bool.and_eq_true, decide_eq_true_eq] at h
 exact ⟨h.1, Option.isSome_iff_exists.1 h.2⟩
theorem zgK {xs : List zaa} (h : zag xs = true) : zi6 xs := by
 obtain ⟨hl, ls, hls⟩ := zai h; intro r hr hp; obtain ⟨k, hk, he⟩ := List.getElem_of_mem hr; have hok := zj0 hls k r (by rw [ye hk, he]); simp [zaC, hp] at hok
 omega
theorem zmo {xs ys : List zaa} (h : xs.length <= 400) (h' : ys.length <= 400) : (zbh xs ys).length <= 801 := by
 unfold zbh; split
 · omega
 · split
   · omega
   · simp; omega
def zmp (base : Nat) (xs : List zaa) (w : World) (e : Ending) (w' : World) : Prop :=
 Below w.heap.size w w' /\ ∃ v', zac w' base v' (zav xs) /\ e = .returned (.tuple #[.agg #[v'], .int .i64 (zas xs)])
theorem zcJ (base : Nat) (v : Value) (xs : List zaa) (w : World) (h : zac w base v xs) (hn : xs.length <= 1099511627776) :
  Calls Tryz.prog 75 #[.agg #[v]] w (zmp base xs w) := by
 have h1 := fun o o' => (h.sl.below (((Below.refl w.heap.size w).alloc yL o).alloc yS o')).le (B' := ((w.alloc o).alloc o').heap.size) (by simp; omega); have hv : v.ownBlock ≠ some (w.heap.size + 1) := fun e => by have := (World.ownsRow.lt h _ e).2; omega
 have H1 := yq h1; have H := yq h; have Hv := yq hv; clear h1 hv; obtain ⟨A, c, rfl, _⟩ := zae h; clear h; go_enter Tryz.func75, Tryz.ntmps75
 go_wp2_with fail
 refine (zbG _ _ _ (H1.o _ _) hn).mono ?_
 rintro e w1 ⟨rfl, hb1⟩; obtain ⟨hc1, hf1⟩ := zdu hb1; have hz1 : w.heap.size + 1 < w1.heap.size := by have := hb1.size; simp at this; omega
 have hc2 : w1.cell? ⟨w.heap.size + 1, 0, none⟩ = some (.slice none 0 0) := by rw [hc1 _ _ yS]; simp [go_sem]
 have hf2 : w1.frozen? ⟨w.heap.size + 1, 0, none⟩ = false := by rw [hf1 _ _ yS]; simp [go_sem]
 have hc3 : w1.cell? ⟨w.heap.size, 0, none⟩ = some (.slice A xs.length c) := by rw [hc1 _ _ (by simp; omega)]; simp [go_sem]
 have Hb1 := yq (((Below.refl w.heap.size w).alloc yL (Obj.cells #[Value.slice A xs.length c] 26)).alloc yS (Obj.cells #[Value.slice none 0 0] 26) |>.trans (hb1.mono (by simp; omega))); clear hc1 hf1 hb1; by_cases hok : zag xs = true
 · have hok2 : (!zag xs) = false := by simp [hok]
   have Hok := yq hok; clear hok; go_wp2
   refine bodyPost_ret (v := .tuple #[.agg #[.slice A xs.length c], .int .i64 0]) (by simp [results, Tryz.results75, go_sem, hc2]) rfl ⟨?_, _, ?_, by rw [zas, if_pos Hok.o]⟩
   · exact Hb1.o.setCell (by show w.heap.size <= w.heap.size + 1; omega) _
   · rw [zav, if_pos Hok.o]
     refine za7 (zac.below H.o Hb1.o) fun g hg => Below.heap_setCell _ _ _ _ (fun e => Hv.o ?_)
     rw [hg, e]
 · have hok2 : (!zag xs) = true := by simp [hok]
   have Hok := yq hok; clear hok; go_wp2
   refine bodyPost_ret (v := .tuple #[.agg #[.slice none 0 0], .int .i64 3]) (by simp [results, Tryz.results75, go_sem, hc2]) rfl ⟨?_, _, ?_, by rw [zas, if_neg Hok.o]⟩
   · exact Hb1.o.setCell (by show w.heap.size <= w.heap.size + 1; omega) _
   · rw [zav, if_neg Hok.o]; exact World.ownsRow_nil _ _ _ _
theorem zfv (r : zaa) (n : Nat) (w : World) (hn : n <= 1099511627776) (hp : r.pair = true -> -1099511627776 <= r.left /\ r.left <= 1099511627776 /\ -1099511627776 <= r.right /\ r.right <= 1099511627776) :
  Calls Tryz.prog 130 #[.agg #[.string r.letter, .int .i64 r.left, .int .i64 r.right], .int .i64 n] w fun e w' => e = .returned (.agg #[.string (zaH n r).letter, .int .i64 (zaH n r).left, .int .i64 (zaH n r).right]) /\ Below w.heap.size w w' := by
 by_cases hpr : r.pair = true
 · obtain ⟨p1, p2, p3, p4⟩ := hp hpr
   have hemp : r.letter.toList.isEmpty = true := by rw [zaq]; exact hpr
   have e : zaH n r = { letter := r.letter, left := r.left + n, right := r.right + n } := by rw [zaH, if_pos hpr]
   rw [e]; clear hpr e hp; go_enter Tryz.func130, Tryz.ntmps130
   go_wp2
   exact bodyPost_ret (v := .agg #[.string r.letter, .int .i64 (r.left + n), .int .i64 (r.right + n)]) (by simp [results, Tryz.results130, go_sem]) rfl ⟨rfl, yb⟩
 · have hemp : r.letter.toList.isEmpty = false := by rw [zaq]; simpa [zaa.pair] using hpr
   have e : zaH n r = r := by rw [zaH, if_neg hpr]
   rw [e]; clear hpr e hp; go_enter Tryz.func130, Tryz.ntmps130
   go_wp2
   exact bodyPost_ret (v := .agg #[.string r.letter, .int .i64 r.left, .int .i64 r.right]) (by simp [results, Tryz.results130, go_sem]) rfl ⟨rfl, yb⟩
theorem zdY (base : Nat) (v : Value) (xs : List zaa) (w : World) (h : zac w base v xs) (hsm : zaY xs) :
  Calls Tryz.prog 92 #[.agg #[v]] w (zmp base xs w) := by
 have h1 := fun o o' => (h.sl.below (((Below.refl w.heap.size w).alloc yL o).alloc yS o')).le (B' := ((w.alloc o).alloc o').heap.size) (by simp; omega); have hv : v.ownBlock ≠ some (w.heap.size + 1) := fun e => by have := (World.ownsRow.lt h _ e).2; omega
 have H1 := yq h1; have H := yq h; have Hv := yq hv; clear h1 hv; obtain ⟨A, c, rfl, _⟩ := zae h; clear h; go_enter Tryz.func92, Tryz.ntmps92
 go_wp2_with fail
 refine (zaZ _ _ _ _ _ (by simp [go_sem]) yo (H1.o _ _) hsm).mono ?_
 rintro e w1 ⟨rfl, hb1⟩; obtain ⟨hc1, hf1⟩ := zdu hb1; have hz1 : w.heap.size + 1 < w1.heap.size := by have := hb1.size; simp at this; omega
 have hc2 : w1.cell? ⟨w.heap.size + 1, 0, none⟩ = some (.slice none 0 0) := by rw [hc1 _ _ yS]; simp [go_sem]
 have hf2 : w1.frozen? ⟨w.heap.size + 1, 0, none⟩ = false := by rw [hf1 _ _ yS]; simp [go_sem]
 have hc3 : w1.cell? ⟨w.heap.size, 0, none⟩ = some (.slice A xs.length c) := by rw [hc1 _ _ (by simp; omega)]; simp [go_sem]
 have Hb1 := yq (((Below.refl w.heap.size w).alloc yL (Obj.cells #[Value.slice A xs.length c] 26)).alloc yS (Obj.cells #[Value.slice none 0 0] 26) |>.trans (hb1.mono (by simp; omega))); clear hc1 hf1 hb1; by_cases hok : zag xs = true
 · have hok2 : (!zag xs) = false := by simp [hok]
   have Hok := yq hok; clear hok; go_wp2
   refine bodyPost_ret (v := .tuple #[.agg #[.slice A xs.length c], .int .i64 0]) (by simp [results, Tryz.results92, go_sem, hc2]) rfl ⟨?_, _, ?_, by rw [zas, if_pos Hok.o]⟩
   · exact Hb1.o.setCell (by show w.heap.size <= w.heap.size + 1; omega) _
   · rw [zav, if_pos Hok.o]
     refine za7 (zac.below H.o Hb1.o) fun g hg => Below.heap_setCell _ _ _ _ (fun e => Hv.o ?_)
     rw [hg, e]
 · have hok2 : (!zag xs) = true := by simp [hok]
   have Hok := yq hok; clear hok; go_wp2
   refine bodyPost_ret (v := .tuple #[.agg #[.slice none 0 0], .int .i64 3]) (by simp [results, Tryz.results92, go_sem, hc2]) rfl ⟨?_, _, ?_, by rw [zas, if_neg Hok.o]⟩
   · exact Hb1.o.setCell (by show w.heap.size <= w.heap.size + 1; omega) _
   · rw [zav, if_neg Hok.o]; exact World.ownsRow_nil _ _ _ _
theorem zbc {W : World} {ops : Array Oper} {o : Oper} {a : Act} {K : Act -> World -> Prop} {Q : Exit -> Act -> World -> Prop} {E : Prop} (hgd : o.guard = none) (s x : Operand)
  (ho : o.op = .call { callee := .builtin .append, args := #[s, x], argTypes := #[24, 24] }) {t : ByteArray} {p q : Int} {base : Nat} {v : Value} {l : List zaa}
  (hs : a.eval s = v) {N : Nat} (hx : a.eval x = .slice (some ⟨N, 0, none⟩) 1 1) (hN : N = W.heap.size) (hown : zac W base v l) (hlen : l.length <= 1099511627775) (hbase : base <= W.heap.size)
  (h : ∀ v' w', zac w' base v' (l ++ [⟨t, p, q⟩]) -> (W.alloc (.cells #[.string t, .int .i64 p, .int .i64 q] 88)).grownBy w' v.ownBlock -> Below base (W.alloc (.cells #[.string t, .int .i64 p, .int .i64 q] 88)) w' -> K (a.put o.dst v') w') :
  if Region.wanted o (yielded ops a.tmps) = true then Oper.wp Tryz.prog o a (W.alloc (.cells #[.string t, .int .i64 p, .int .i64 q] 88)) K Q else E := by
 subst hN; refine zbx (ys := [⟨t, p, q⟩]) (S := fun b => b = W.heap.size) hgd s x ho hs hx (hown.alloc _) ⟨_, 1, rfl, Nat.le_refl _, by simp [maxLen], fun _ => ⟨W.heap.size, 0, rfl, rfl, fun k r hk => ⟨r.cells, rfl, fun j u hu => ?_⟩⟩⟩ (by simp; omega) (by simp; omega) h
 have hk0 : k = 0 := by
  have := (List.getElem?_eq_some_iff.1 hk).1
  simp at this; exact this
 subst hk0; simp at hk
 subst hk; have hc : (W.alloc (.cells #[.string t, .int .i64 p, .int .i64 q] 88)).cell? ⟨W.heap.size, j, none⟩ = (#[Value.string t, .int .i64 p, .int .i64 q] : Array Value)[j]? := cell_of_row _ _ _ _ 88 (0, 0) (heap_alloc_new W _); simp only [Nat.zero_mul, Nat.zero_add]
 rw [hc]; simpa [zaa.cells] using hu
theorem Boxed.mk' {w : World} {B : Nat} {t : TypeId} {v : Value} (h : w.heap[B]? = some (.cells #[v] t (0, 0))) : Boxed w.drew B t v := h
theorem Boxed.up {w w' : World} {B N : Nat} {t : TypeId} {v : Value} (h : Boxed w B t v) (hb : Below N w w') (hlt : B < N) : Boxed w' B t v := (hb.block B hlt).trans h
theorem Boxed.grown {w w' : World} {B base e s n : Nat} {t : TypeId} {v : Value} {xs : List Value} {o : Obj} (h : Boxed w B t v) (hte : t ≠ e) (own : w.ownsRow base e s v n xs) (hg : (w.alloc o).grownBy w' v.ownBlock) : Boxed w' B t v := (h.alloc o).kept hg (h.not_row hte own)
theorem zj1 (b o b' o' : Nat) (v u : Value) (xs ys : List zaa) (w : World) (hpt : w.cell? ⟨b, o, none⟩ = some v) (hpt' : w.cell? ⟨b', o', none⟩ = some u) (hbl : b < w.heap.size) (hbl' : b' < w.heap.size)
  (h : Sl zar w w.heap.size v xs) (h' : Sl zar w w.heap.size u ys) (hn : xs.length <= 1048576) (hn' : ys.length <= 1048576) (hp : zi6 ys) :
  Calls Tryz.prog 128 #[.pointer (some ⟨b, o, none⟩), .pointer (some ⟨b', o', none⟩)] w (znO (zbh xs ys) w) := by
 have h1 := fun o => (h.below ((Below.refl w.heap.size w).alloc yL o)).le (B' := (w.alloc o).heap.size) yS; have h2 := fun o => (h'.below ((Below.refl w.heap.size w).alloc yL o)).le (B' := (w.alloc o).heap.size) yS; have H1 := yq h1; have H2 := yq h2; clear h1 h2; obtain ⟨A, c, rfl, hc, hm, hrow⟩ := h; obtain ⟨A', c', rfl, hc', hm', hrow'⟩ := h'; clear hm hm' hrow; by_cases h0 : xs.length = 0
 · have hj : zbh xs ys = ys := by rw [zbh, if_pos h0]
   have Hj := yq hj; have hb0 : ((xs.length : Int) == 0) = true := by simp [h0]
   have H0 := yq h0; clear hj h0; go_enter Tryz.func128, Tryz.ntmps128
   go_wp2_with fail
   refine (zcd _ _ _ _ _ (by simpa [go_sem, hbl'] using hpt') yo (H2.o _) yO).mono ?_
   rintro e w1 ⟨v1, rfl, own1, hb1⟩; obtain ⟨A1, c1, rfl, _⟩ := zae own1; obtain ⟨hc1, hf1⟩ := zdu hb1; have hz1 : w.heap.size + 1 <= w1.heap.size := by have := hb1.size; simp at this; omega
   have Hown := yq own1; have Hb1 := yq hb1; clear own1 hb1; go_wp2
   refine bodyPost_ret (v := .agg #[.slice A1 ys.length c1]) (by simp [results, Tryz.results128, go_sem, hc1]) rfl ⟨?_, _, ?_, rfl⟩
   · exact (((Below.refl _ _).alloc yL _).trans (Hb1.o.mono yS)).setCell (by show w.heap.size <= w.heap.size; omega) _
   · rw [Hj.o]
     have h4 : w1.ownsRow (w.heap.size + 1) 88 3 (.slice A1 ys.length c1) ys.length (ys.flatMap zaa.cells) := zad Hown.o yS; exact zad (ownsRow_setCell_below h4 (by show w.heap.size < w.heap.size + 1; omega) _) yO
 · have hb0 : ((xs.length : Int) == 0) = false := by rw [beq_eq_false_iff_ne]; omega
   by_cases h0' : ys.length = 0
   · have hj : zbh xs ys = xs := by rw [zbh, if_neg h0, if_pos h0']
     have Hj := yq hj; have hb0' : ((ys.length : Int) == 0) = true := by simp [h0']
     have H0 := yq h0; have H0' := yq h0'; clear hj h0 h0'; go_enter Tryz.func128, Tryz.ntmps128
     go_wp2_with fail
     refine (zcd _ _ _ _ _ (by simpa [go_sem, hbl] using hpt) yo (H1.o _) yO).mono ?_
     rintro e w1 ⟨v1, rfl, own1, hb1⟩; obtain ⟨A1, c1, rfl, _⟩ := zae own1; obtain ⟨hc1, hf1⟩ := zdu hb1; have hz1 : w.heap.size + 1 <= w1.heap.size := by have := hb1.size; simp at this; omega
     have hpt1 : w1.cell? ⟨b, o, none⟩ = some (.slice A xs.length c) := by rw [hb1.cell yo]; simpa [go_sem, hbl] using hpt
     have hpt1' : w1.cell? ⟨b', o', none⟩ = some (.slice A' ys.length c') := by rw [hb1.cell yo]; simpa [go_sem, hbl'] using hpt'
     have hcr1 : w1.cell? ⟨w.heap.size, 0, none⟩ = some (.slice none 0 0) := by rw [hc1 _ _ yS]; simp [go_sem]
     have hfr1 : w1.frozen? ⟨w.heap.size, 0, none⟩ = false := by rw [hf1 _ _ yS]; simp [go_sem]
     have hlb : b < w1.heap.size := by omega
     have hlb' : b' < w1.heap.size := by omega
     have hlr : w.heap.size < w1.heap.size := by omega
     have Hown := yq own1; have Hb1 := yq hb1; clear own1 hb1 hc1 hf1; go_wp2
     refine bodyPost_ret (v := .agg #[.slice A1 xs.length c1]) (by simp [results, Tryz.results128, go_sem, hcr1, hlr]) rfl ⟨?_, _, ?_, rfl⟩
     · refine Below.alloc (Below.setCell (((Below.refl _ _).alloc yL _).trans (Hb1.o.mono yS)) ?_ _) ?_ _
       · exact Nat.le_refl _
       · simp; omega
     · rw [Hj.o]
       have h4 : w1.ownsRow (w.heap.size + 1) 88 3 (.slice A1 xs.length c1) xs.length (xs.flatMap zaa.cells) := zad Hown.o yS; exact zad (World.ownsRow.alloc (ownsRow_setCell_below (a := ⟨w.heap.size, 0, none⟩) h4 (by show w.heap.size < w.heap.size + 1; omega) _) _) yO
   · have hb0' : ((ys.length : Int) == 0) = false := by rw [beq_eq_false_iff_ne]; omega
     have hj : zbh xs ys = xs ++ ys.map (zaH xs.length) ++ [zaP ((xs.length : Int) - 1) ((xs.length : Int) + ys.length - 1)] := by rw [zbh, if_neg h0, if_neg h0']
     have Hj := yq hj; have hx1 : 1 <= xs.length := by omega
     have hy1 : 1 <= ys.length := by omega
     have Hp := yq hp; clear hj h0 h0' hp; go_enter Tryz.func128, Tryz.ntmps128
     go_wp2_with fail
     refine (zcd _ _ _ _ _ (by simpa [go_sem, hbl] using hpt) yo (H1.o _) yO).mono ?_
     rintro e w1 ⟨v1, rfl, own1, hb1⟩; have z1 : w.heap.size + 1 <= w1.heap.size := by have := hb1.size; simp at this; omega
     have Hb1 : yh (Below (w.heap.size + 1) (w.alloc (Obj.cells #[Value.slice none 0 0] 26)) w1) := hb1.mono yS; have hpt1 : w1.cell? ⟨b, o, none⟩ = some (.slice A xs.length c) := by rw [hb1.cell yo]; simpa [go_sem, hbl] using hpt
     have hpt1' : w1.cell? ⟨b', o', none⟩ = some (.slice A' ys.length c') := by rw [hb1.cell yo]; simpa [go_sem, hbl'] using hpt'
     have own1' : zac w1 (w.heap.size + 1) v1 xs := zad own1 yS; obtain ⟨A1, c1, rfl, _⟩ := zae own1'; have Hown1 := yq own1'; have hlb : b < w1.heap.size := by omega
     have hlb' : b' < w1.heap.size := by omega
     have Hrow := yq hrow'; clear own1 own1' hb1 hrow'; go_wp2_with fail
     go_loopw [7] (fun i wr => ∃ (k : Nat) (vo : Value), k <= ys.length /\ i = .int .i64 k /\ Below (w.heap.size + 1) (w.alloc (Obj.cells #[Value.slice none 0 0] 26)) wr /\ wr.heap[w1.heap.size]? = some (Obj.cells #[vo] 26 (0, 0)) /\ zac wr (w.heap.size + 1) vo (xs ++ (ys.take k).map (zaH xs.length))) (fun i _ => ys.length - (intOf i).toNat)
     case atStart => exact ⟨0, _, Nat.zero_le _, rfl, Hb1.o.alloc yO _, zbe _ _, by have := Hown1.o.alloc (Obj.cells #[Value.slice A1 xs.length c1] 26); simpa using this⟩
     case round =>
      obtain ⟨k, vo, hk, rfl, hb, hbox, hown⟩ := hrel; have hcb : wr.cell? ⟨w1.heap.size, 0, none⟩ = some vo := by simp [World.cell?, hbox]
      have hfb : wr.frozen? ⟨w1.heap.size, 0, none⟩ = false := by simp [World.frozen?, hbox]
      have hszr : w1.heap.size < wr.heap.size := (Array.getElem?_eq_some_iff.1 hbox).1
      have hptr : wr.cell? ⟨b, o, none⟩ = some (.slice A xs.length c) := by rw [hb.cell (p := ⟨b, o, none⟩) (by show b < w.heap.size + 1; omega)]; simpa [go_sem, hbl] using hpt
      have hptr' : wr.cell? ⟨b', o', none⟩ = some (.slice A' ys.length c') := by rw [hb.cell (p := ⟨b', o', none⟩) (by show b' < w.heap.size + 1; omega)]; simpa [go_sem, hbl'] using hpt'
      have Hbox := yq hbox; have Hown := yq hown; have Hb := yq hb; by_cases hlt : k < ys.length
      · obtain ⟨b2, o2, rfl, hbl2, hcell⟩ := Hrow.o.rule hlt
        obtain ⟨r, hr⟩ : ∃ x, ys[k]? = some x := ⟨_, ye hlt⟩
        obtain ⟨g0, g1, g2⟩ := hcell k r hr; have hbw : Below w.heap.size w wr := ((Below.refl _ _).alloc yL _).trans (hb.mono yO); have hc0 := (hbw.cell (p := ⟨b2, o2 + k * 3, none⟩) hbl2).trans g0; have hc1 := (hbw.cell (p := ⟨b2, o2 + k * 3 + 1, none⟩) hbl2).trans g1; have hc2 := (hbw.cell (p := ⟨b2, o2 + k * 3 + 2, none⟩) hbl2).trans g2; have hi : (k : Int) < (ys.length : Int) := by omega
        have hpr := Hp.o r (List.mem_of_getElem? hr); have Hpr := yq hpr; have Hr := yq hr; have hb2l : b2 < wr.heap.size := by omega
        have hbl3 : b' < wr.heap.size := by omega
        have hbl4 : b < wr.heap.size := by omega
        obtain ⟨L, hL⟩ : ∃ L, L = xs ++ (ys.take k).map (zaH xs.length) := ⟨_, rfl⟩
        rw [<- hL] at hown; have hlk : L.length = xs.length + k := by rw [hL]; simp; omega
        have Hll : yh (L.length <= 1099511627775) := by rw [yh]; omega
        have Hnx : yh (xs ++ (ys.take (k + 1)).map (zaH xs.length) = L ++ [zaH xs.length r]) := by rw [yh, List.take_add_one, hr, List.map_append, <- List.append_assoc, <- hL]; rfl
        have Hown := yq hown; clear hbox hown hb hcell g0 g1 g2 hbw hr hpr hpt hpt' hpt1 hpt1' hL hlk; go_wp2_with fail
        go_region_law (first
         | (refine zbc (base := w.heap.size + 1) yR _ _ yR yR (by first | rfl | simp) rfl (zac.below Hown.o.drew hb2) Hll.o yO ?_; intro v3 w3 own3 hg3 hb3; have bx3 : Boxed w3 w1.heap.size 26 vo := Boxed.grown (Boxed.up (Boxed.mk' Hbox.o) hb2 hszr) (by decide) (zac.below Hown.o.drew hb2) hg3; obtain ⟨A3, c3, rfl, _⟩ := zae own3; have hcb3 := bx3.cell; have hfb3 := bx3.frozen)
         | (go_simp; go_at_call 130; refine (zfv r xs.length _ yO Hpr.o).mono ?_; rintro e w2 ⟨rfl, hb2⟩; obtain ⟨hcc2, hff2⟩ := zdu hb2; have bx2 := Boxed.up (Boxed.mk' Hbox.o) hb2 hszr; have hcb2 := bx2.cell; have hfb2 := bx2.frozen; have hlb2 := bx2.lt; have hlb3 : b < w2.heap.size := yO; have hlb3' : b' < w2.heap.size := yO; have hlb4 : b2 < w2.heap.size := yO))
        all_goals
         clear hcc2 hff2 hcb2 hfb2; go_wp2
         go_roundw
         case rel =>
          refine ⟨k + 1, _, by omega, by go_num, ?_, Boxed.set _ bx3, ?_⟩
          · exact (((Below.drew Hb.o).trans (hb2.mono (by show w.heap.size + 1 <= wr.heap.size; omega))).alloc yO _ |>.trans hb3).setCell (by show w.heap.size + 1 <= w1.heap.size; omega) _
          · have e9 : (L ++ [zaH xs.length r]).length = L.length + 1 := by simp
            have own9 : zac w3 (w.heap.size + 1) (.slice A3 (L.length + 1) c3) (L ++ [zaH xs.length r]) := by rw [<- e9]; exact own3
            rw [Hnx.o]; exact ownsRow_setCell_other (a := ⟨w1.heap.size, 0, none⟩) own9 (bx3.not_row (by decide) own9).symm _
         case measure => simp [intOf]; omega
      · have hkn : k = ys.length := by omega
        subst hkn; rw [List.take_length] at hown; obtain ⟨L, hL⟩ : ∃ L, L = xs ++ ys.map (zaH xs.length) := ⟨_, rfl⟩
        rw [<- hL] at hown; have hlk : L.length = xs.length + ys.length := by rw [hL]; simp
        have Hll : yh (L.length <= 1099511627775) := by rw [yh]; omega
        have HL := yq hL; have Hown := yq hown; have hw1 : IntKind.i64.wrap ((xs.length : Int) - 1) = (xs.length : Int) - 1 := IntWalk.i64_in _ yO; have hw2 : IntKind.i64.wrap ((xs.length : Int) + ys.length) = (xs.length : Int) + ys.length := IntWalk.i64_in _ yO; have hw3 : IntKind.i64.wrap ((xs.length : Int) + ys.length - 1) = (xs.length : Int) + ys.length - 1 := IntWalk.i64_in _ yO; clear hbox hown hb hpt hpt' hpt1 hpt1' hL; go_wp2_with fail
        go_region_law (first
         | (refine zbc (base := w.heap.size + 1) yR _ _ yR yR (by first | rfl | simp) rfl Hown.o.drew Hll.o (by show w.heap.size + 1 <= wr.heap.size; omega) ?_; intro v3 w3 own3 hg3 hb3; have bx3 : Boxed w3 w1.heap.size 26 vo := Boxed.grown (Boxed.mk' Hbox.o) (by decide) Hown.o.drew hg3; obtain ⟨A3, c3, rfl, _⟩ := zae own3; have hcb3 := bx3.cell; have hfb3 := bx3.frozen; have hl3 := bx3.lt))
        all_goals
         try rw [hw2] at own3
         try rw [hw1, hw3] at own3
         have hb9 := (((Below.drew Hb.o)).alloc (by show w.heap.size + 1 <= wr.heap.size; omega) _).trans hb3; obtain ⟨hc9, hf9⟩ := zdu hb9; have hcr : w3.cell? ⟨w.heap.size, 0, none⟩ = some (.slice none 0 0) := by rw [hc9 _ _ yO]; simp [go_sem]
         have hfr : w3.frozen? ⟨w.heap.size, 0, none⟩ = false := by rw [hf9 _ _ yO]; simp [go_sem]
         have e9 : (L ++ [zaP ((xs.length : Int) - 1) ((xs.length : Int) + ys.length - 1)]).length = xs.length + ys.length + 1 := by simp [hlk]
         have Own9 : yh (zac w3 (w.heap.size + 1) (.slice A3 (xs.length + ys.length + 1) c3) (L ++ [zaP ((xs.length : Int) - 1) ((xs.length : Int) + ys.length - 1)])) := by rw [yh, <- e9]; exact own3
         have Hb9 := yq hb9; have Hbx3 := yq bx3; have hne : w.heap.size ≠ w1.heap.size := by omega
         have hl9 : w.heap.size < w3.heap.size := by omega
         clear hc9 hf9 hb9 own3 hg3 hb3 bx3 hlk; go_wp2
         refine bodyPost_ret (v := .agg #[.slice A3 (xs.length + ys.length + 1) c3]) (by simp [results, Tryz.results128, go_sem, hcr]) rfl ⟨?_, _, ?_, rfl⟩
         · exact ((((Below.refl _ _).alloc yL _).trans (Hb9.o.mono yO)).setCell (by show w.heap.size <= w1.heap.size; omega) _).setCell (by show w.heap.size <= w.heap.size; omega) _
         · rw [Hj.o, <- HL.o]
           unfold zac; rw [e9]; have h5 := Own9.o; unfold zac at h5; rw [e9] at h5; have h6 := ownsRow_setCell_other (a := ⟨w1.heap.size, 0, none⟩) h5 (Hbx3.o.not_row (by decide) h5).symm (.slice A3 (xs.length + ys.length + 1) c3); have h7 := ownsRow_setCell_below (a := ⟨w.heap.size, 0, none⟩) h6 (by show w.heap.size < w.heap.size + 1; omega) (.slice A3 (xs.length + ys.length + 1) c3); exact zad h7 yO
theorem za5 {W : World} {ops : Array Oper} {rest : List Oper} {o : Oper} {a : Act} {Q : Exit -> Act -> World -> Prop} (hgd : o.guard = none) (s x : Operand)
  (ho : o.op = .call { callee := .builtin .append, args := #[s, x], argTypes := #[24, 24] }) {t : ByteArray} {p q : Int} {base : Nat} {v : Value} {l : List zaa}
  (hs : a.eval s = v) {N : Nat} (hx : a.eval x = .slice (some ⟨N, 0, none⟩) 1 1) (hN : N = W.heap.size) (hown : zac W base v l) (hlen : l.length <= 1099511627775) (hbase : base <= W.heap.size)
  (h : ∀ v' w', zac w' base v' (l ++ [⟨t, p, q⟩]) -> (W.alloc (.cells #[.string t, .int .i64 p, .int .i64 q] 88)).grownBy w' v.ownBlock -> Below base (W.alloc (.cells #[.string t, .int .i64 p, .int .i64 q] 88)) w' -> wpList Tryz.prog ops Q rest (a.put o.dst v') w') :
  wpList Tryz.prog ops Q (o :: rest) a (W.alloc (.cells #[.string t, .int .i64 p, .int .i64 q] 88)) :=
 wpList_plain hgd fun K hK => by
  have := zbc (E := True) (K := K) (ops := ops) (Q := Q) hgd s x ho hs hx hN hown hlen hbase (fun v' w' h1 h2 h3 => hK _ _ (h v' w' h1 h2 h3)); rwa [if_pos (by simp [Region.wanted, hgd])] at this
theorem zcK {w5 : World} {K base n c5 : Nat} {A5 : Option Addr} {L M : List zaa} {vo : Value} (bx : Boxed w5 K 26 vo) (own : zac w5 base (.slice A5 L.length c5) L) (hM : L = M) (hn : M.length = n) :
  zac (w5.setCell ⟨K, 0, none⟩ (.slice A5 n c5)) base (.slice A5 n c5) M := by
 subst hM; subst hn; exact ownsRow_setCell_other (a := ⟨K, 0, none⟩) own (bx.not_row (by decide) own).symm _
theorem zdZ (a b : Int) (w : World) :
  Calls Tryz.prog 138 #[.int .i64 a, .int .i64 b] w fun e w' => e = .returned (.agg #[.string ⟨#[]⟩, .int .i64 a, .int .i64 b]) /\ Below w.heap.size w w' := by
 go_enter Tryz.func138, Tryz.ntmps138
 go_wp2
 exact bodyPost_ret (v := .agg #[.string ⟨#[]⟩, .int .i64 a, .int .i64 b]) (by simp [results, Tryz.results138, go_sem]) rfl ⟨rfl, yb⟩
def zbB (w : World) (B : Nat) (r : zaa) : Prop := w.cell? ⟨B, 0, none⟩ = some (.string r.letter) /\ w.cell? ⟨B, 1, none⟩ = some (.int .i64 r.left) /\ w.cell? ⟨B, 2, none⟩ = some (.int .i64 r.right) /\ B < w.heap.size
theorem zbB.below {w w' : World} {B N : Nat} {r : zaa} (h : zbB w B r) (hb : Below N w w') (hlt : B < N) : zbB w' B r :=
 ⟨(hb.cell (p := ⟨B, 0, none⟩) hlt).trans h.1, (hb.cell (p := ⟨B, 1, none⟩) hlt).trans h.2.1, (hb.cell (p := ⟨B, 2, none⟩) hlt).trans h.2.2.1, Nat.lt_of_lt_of_le h.2.2.2 hb.size⟩
theorem zbB.kept {w w' : World} {B : Nat} {r : zaa} {row : Option Nat} (h : zbB w B r) (hg : w.grownBy w' row) (hne : some B ≠ row) : zbB w' B r :=
 ⟨(World.cell?_of_block (a := ⟨B, 0, none⟩) (hg.block B h.2.2.2 hne)).trans h.1, (World.cell?_of_block (a := ⟨B, 1, none⟩) (hg.block B h.2.2.2 hne)).trans h.2.1, (World.cell?_of_block (a := ⟨B, 2, none⟩) (hg.block B h.2.2.2 hne)).trans h.2.2.1, Nat.lt_of_lt_of_le h.2.2.2 hg.size⟩
theorem zlj {k : Nat} {r : zaa} (h : zaC k r = true) (hk : k <= 1099511627776) : zid r := by
 cases hp : r.pair with
 | true =>
   have := zbs h hp; exact ⟨zek h, by omega, by omega⟩
 | false =>
   obtain ⟨h1, h2, h3⟩ := zce h hp; exact ⟨zek h, by omega, by omega⟩
theorem zgL {W : World} {ops : Array Oper} {o : Oper} {a : Act} {K : Act -> World -> Prop} {Q : Exit -> Act -> World -> Prop} {E : Prop} (hgd : o.guard = none) (s x : Operand)
  (ho : o.op = .call { callee := .builtin .append, args := #[s, x], argTypes := #[24, 24] }) {r : zaa} {base : Nat} {v : Value} {l : List zaa}
  (hs : a.eval s = v) {N : Nat} (hx : a.eval x = .slice (some ⟨N, 0, none⟩) 1 1) (hc : zbB W N r) (hown : zac W base v l) (hlen : l.length <= 1099511627775) (hbase : base <= W.heap.size)
  (h : ∀ v' w', zac w' base v' (l ++ [r]) -> W.grownBy w' v.ownBlock -> (v'.ownBlock = v.ownBlock \/ v'.ownBlock = some W.heap.size) -> K (a.put o.dst v') w') :
  if Region.wanted o (yielded ops a.tmps) = true then Oper.wp Tryz.prog o a W K Q else E := by
 have hw : Region.wanted o (yielded ops a.tmps) = true := by simp [Region.wanted, hgd]
 rw [if_pos hw]; obtain ⟨i0, hi0, hz0, hz1, hz2⟩ := info_parts Tryz.infoR
 obtain ⟨v', w', hrun, h2, h3, _, h5⟩ := run_append_own_at (P := Tryz.prog) W base 24 o.type 88 i0 _ 3 32 Tryz.underlying24 hi0 hz0 hz1 hz2 rfl (by decide) v _ _ hown ⟨N, 0, none⟩ 1 1 r.cells rfl
  (fun j u hu => by
    obtain ⟨c0, c1, c2, _⟩ := hc
    match j, hu with
    | 0, hu => simp [zaa.cells] at hu; subst hu; simpa [Addr.add] using c0
    | 1, hu => simp [zaa.cells] at hu; subst hu; simpa [Addr.add] using c1
    | 2, hu => simp [zaa.cells] at hu; subst hu; simpa [Addr.add] using c2
    | j + 3, hu => simp [zaa.cells] at hu) (by simp [zaa.cells, Value.oneCell']) (by simp only [maxLen]; omega) yO hbase
 unfold Oper.wp execOp; simp only [ho, resolve, invoke, builtin, Sem.run_bind, Sem.run_pure, Result.andThen_ok, List.map_toArray, List.map_cons, List.map_nil, hs, hx, hrun]
 exact h v' w' (by unfold zac; simpa using h2) h3 h5
theorem zp1 {W w' : World} {row : Option Nat} {N o : Nat} {u : Value} (hg : W.grownBy w' row) (hc : W.cell? ⟨N, o, none⟩ = some u) (hlt : N < W.heap.size) (hne : some N ≠ row) : w'.cell? ⟨N, o, none⟩ = some u :=
 (World.cell?_of_block (a := ⟨N, o, none⟩) (hg.block N hlt hne)).trans hc
theorem zfw {w : World} {base e s n : Nat} {v : Value} {xs : List Value} (h : w.ownsRow base e s v n xs) {g : Nat} (hg : v.ownBlock = some g) : ∃ cur, w.heap[g]? = some (.cells cur e (0, 0)) := by
 rcases h.2 with ⟨rfl, _⟩ | ⟨g', cap, cur, rfl, _, hb, _⟩
 · cases hg
 · have : g' = g := by simpa [Value.ownBlock] using hg
   subst this; exact ⟨cur, hb⟩
theorem zfx {w : World} {base base' e e' s s' n n' : Nat} {v v' : Value} {xs xs' : List Value} (h : w.ownsRow base e s v n xs) (h' : w.ownsRow base' e' s' v' n' xs') (hne : e ≠ e') : ∀ g, v.ownBlock = some g -> some g ≠ v'.ownBlock := fun g hg hg' => by
 obtain ⟨c1, h1⟩ := zfw h hg; obtain ⟨c2, h2⟩ := zfw h' hg'.symm; rw [h1] at h2; have := Option.some.inj h2; injection this with _ h3; exact hne h3
theorem zeP {w : World} {b base e s n : Nat} {v : Value} {xs : List Value} {ks : List zaa} (h : zeO w b ks) (h' : w.ownsRow base e s v n xs) : some b ≠ v.ownBlock := fun hb => by
 obtain ⟨c, h1⟩ := zfw h' hb.symm; obtain ⟨es, clock, h2, _⟩ := h; rw [h1] at h2; cases h2
structure T3 (w0 : World) (base bm bx : Nat) (X : zaa) (ks : List zaa) (W : World) (v4 : Value) (K : List zaa) (v6 : Value) (S : List Int) : Prop where
 below : Below base w0 W
 rows : zac W base v4 K
 ints : zan W base v6 S
 mp : zeO W bm ks
 box : zbB W bx X
 bxR : some bx ≠ v4.ownBlock
 bxI : some bx ≠ v6.ownBlock
 lb : base <= W.heap.size
section
variable {w0 W : World} {base bm bx : Nat} {X : zaa} {ks K : List zaa} {v4 v6 : Value} {S : List Int}
theorem T3.alloc (h : T3 w0 base bm bx X ks W v4 K v6 S) (o : Obj) : T3 w0 base bm bx X ks (W.alloc o) v4 K v6 S :=
 ⟨h.below.alloc h.lb _, h.rows.alloc _, h.ints.alloc _, h.mp.alloc _, h.box.below ((Below.refl W.heap.size W).alloc yL o) h.box.2.2.2, h.bxR, h.bxI, by have := h.lb; simp; omega⟩
theorem T3.drew (h : T3 w0 base bm bx X ks W v4 K v6 S) : T3 w0 base bm bx X ks W.drew v4 K v6 S :=
 ⟨Below.drew h.below, h.rows, h.ints, h.mp, h.box, h.bxR, h.bxI, h.lb⟩
theorem T3.pushR (h : T3 w0 base bm bx X ks W v4 K v6 S) {w' : World} {v' : Value} {L : List zaa} (h1 : zac w' base v' L) (hg : W.grownBy w' v4.ownBlock) (hv : v'.ownBlock = v4.ownBlock \/ v'.ownBlock = some W.heap.size) : T3 w0 base bm bx X ks w' v' L v6 S :=
 ⟨h.below.grown hg h.lb (fun g hgg => (World.ownsRow.lt h.rows g hgg).1), h1, za7 h.ints fun g hgg => hg.block g (World.ownsRow.lt h.ints g hgg).2 (zfx h.ints h.rows (by decide) g hgg), h.mp.kept hg (zeP h.mp h.rows), h.box.kept hg h.bxR,
  by
   rcases hv with e | e
   · rw [e]; exact h.bxR
   · rw [e]; intro e'; have := h.box.2.2.2; have : bx = W.heap.size := Option.some.inj e'; omega, h.bxI, Nat.le_trans h.lb hg.size⟩
theorem T3.pushI (h : T3 w0 base bm bx X ks W v4 K v6 S) {w' : World} {v' : Value} {L : List Int} (h1 : zan w' base v' L) (hg : W.grownBy w' v6.ownBlock) (hv : v'.ownBlock = v6.ownBlock \/ v'.ownBlock = some W.heap.size) : T3 w0 base bm bx X ks w' v4 K v' L :=
 ⟨h.below.grown hg h.lb (fun g hgg => (World.ownsRow.lt h.ints g hgg).1), za7 h.rows fun g hgg => hg.block g (World.ownsRow.lt h.rows g hgg).2 (zfx h.rows h.ints (by decide) g hgg), h1, h.mp.kept hg (zeP h.mp h.ints), h.box.kept hg h.bxI, h.bxR,
  by
   rcases hv with e | e
   · rw [e]; exact h.bxI
   · rw [e]; intro e'; have := h.box.2.2.2; have : bx = W.heap.size := Option.some.inj e'; omega, Nat.le_trans h.lb hg.size⟩
theorem znU {ops : Array Oper} {o : Oper} {a : Act} {KK : Act -> World -> Prop} {Q : Exit -> Act -> World -> Prop} {E : Prop} (hgd : o.guard = none) (s x : Operand)
  (ho : o.op = .call { callee := .builtin .append, args := #[s, x], argTypes := #[24, 24] }) {r : zaa} {N : Nat}
  (hs : a.eval s = v4) (hx : a.eval x = .slice (some ⟨N, 0, none⟩) 1 1) (T : T3 w0 base bm bx X ks W v4 K v6 S) (hc : zbB W N r) (hlen : K.length <= 1099511627775)
  (h : ∀ v' w', T3 w0 base bm bx X ks w' v' (K ++ [r]) v6 S -> W.grownBy w' v4.ownBlock -> KK (a.put o.dst v') w') :
  if Region.wanted o (yielded ops a.tmps) = true then Oper.wp Tryz.prog o a W KK Q else E :=
 zgL hgd s x ho hs hx hc T.rows hlen T.lb fun v' w' h1 h2 h3 => h v' w' (T.pushR h1 h2 h3) h2
theorem znV {ops : Array Oper} {o : Oper} {a : Act} {KK : Act -> World -> Prop} {Q : Exit -> Act -> World -> Prop} {E : Prop} (hgd : o.guard = none) (s x : Operand)
  (ho : o.op = .call { callee := .builtin .append, args := #[s, x], argTypes := #[94, 94] }) {y : Int} {N : Nat}
  (hs : a.eval s = v6) (hx : a.eval x = .slice (some ⟨N, 0, none⟩) 1 1) (T : T3 w0 base bm bx X ks W v4 K v6 S) (hc : W.cell? ⟨N, 0, none⟩ = some (.int .i64 y)) (hlen : S.length <= 1099511627775)
  (h : ∀ v' w', T3 w0 base bm bx X ks w' v4 K v' (S ++ [y]) -> W.grownBy w' v6.ownBlock -> KK (a.put o.dst v') w') :
  if Region.wanted o (yielded ops a.tmps) = true then Oper.wp Tryz.prog o a W KK Q else E :=
 zfu hgd s x ho hs hx hc T.ints yO T.lb fun v' w' h1 h2 h3 => h v' w' (T.pushI h1 h2 h3) h2
end
theorem zbB.new {W : World} {N : Nat} {r : zaa} (hN : N = W.heap.size) : zbB (W.alloc (.cells #[.string r.letter, .int .i64 r.left, .int .i64 r.right] 88)) N r := by
 subst hN; refine ⟨?_, ?_, ?_, by simp⟩ <;> simp [go_sem]
theorem zbB.alloc {W : World} {N : Nat} {r : zaa} (h : zbB W N r) (o : Obj) : zbB (W.alloc o) N r := h.below ((Below.refl W.heap.size W).alloc yL o) h.2.2.2
theorem zbB.drew {W : World} {N : Nat} {r : zaa} (h : zbB W N r) : zbB W.drew N r := h
def zep (w : World) (B : Nat) (q : Int) : Prop := w.cell? ⟨B, 0, none⟩ = some (.int .i64 q) /\ B < w.heap.size
theorem zep.new {W : World} {N : Nat} {q : Int} (hN : N = W.heap.size) : zep (W.alloc (.cells #[.int .i64 q] 2)) N q := by
 subst hN; exact ⟨by simp [go_sem], by simp⟩
theorem zep.alloc {W : World} {N : Nat} {q : Int} (h : zep W N q) (o : Obj) : zep (W.alloc o) N q :=
 ⟨(((Below.refl W.heap.size W).alloc yL o).cell (p := ⟨N, 0, none⟩) h.2).trans h.1, by have := h.2; simp; omega⟩
theorem zep.drew {W : World} {N : Nat} {q : Int} (h : zep W N q) : zep W.drew N q := h
theorem zep.kept {w w' : World} {B : Nat} {q : Int} {row : Option Nat} (h : zep w B q) (hg : w.grownBy w' row) (hne : some B ≠ row) : zep w' B q := ⟨zp1 hg h.1 h.2 hne, Nat.lt_of_lt_of_le h.2 hg.size⟩
theorem zgM {w : World} {base e s n : Nat} {v : Value} {xs : List Value} (h : w.ownsRow base e s v n xs) {N : Nat} (hN : w.heap.size <= N) : some N ≠ v.ownBlock := fun e => by
 have := (World.ownsRow.lt h N e.symm).2; omega
theorem T3.look {w0 W : World} {base bm bx : Nat} {X : zaa} {ks K : List zaa} {v4 v6 : Value} {S : List Int} (h : T3 w0 base bm bx X ks W v4 K v6 S) {r : zaa} (hk : zid r) (hr : r ∈ ks) :
  (Instr.lookup 176 (.map (some bm)) (.agg #[.string r.letter, .int .i64 r.left, .int .i64 r.right]) false).run Tryz.prog W = .ok (.int .i64 (ks.idxOf r : Nat)) W := h.mp.yes hk hr false
def zfV (w : World) (b : Nat) (N : List Bool) : Prop := w.rowIs b 4 N.length fun i => .bool (N.getD i false)
def zea (w : World) (b : Nat) (l : List Int) : Prop := w.rowIs b 2 l.length fun i => .int .i64 (l.getD i 0)
theorem zfV.made (w : World) (n : Nat) : zfV (w.alloc (.cells (madeCells #[.bool false] n) 4)) w.heap.size (List.replicate n false) := by
 have h := World.rowIs_made w (.bool false) n 4; unfold zfV; rw [List.length_replicate]; exact h.congr fun i hi => by simp [hi]
theorem zea.made (w : World) (n : Nat) : zea (w.alloc (.cells (madeCells #[.int .i64 0] n) 2)) w.heap.size (List.replicate n 0) := by
 have h := World.rowIs_made w (.int .i64 0) n 2; unfold zea; rw [List.length_replicate]; exact h.congr fun i hi => by simp [hi]
section
variable {w w' : World} {b : Nat} {N : List Bool} {l : List Int}
theorem zfV.set (h : zfV w b N) (i : Nat) (x : Bool) : zfV (w.setCell ⟨b, i, none⟩ (.bool x)) b (N.set i x) := by
 have h2 := World.rowIs.set h i (.bool x); unfold zfV; rw [List.length_set]
 exact h2.congr fun j hj => by
  by_cases e : j = i
  · subst e; simp [hj]
  · simp [e, Ne.symm e]
theorem zea.set (h : zea w b l) (i : Nat) (x : Int) : zea (w.setCell ⟨b, i, none⟩ (.int .i64 x)) b (l.set i x) := by
 have h2 := World.rowIs.set h i (.int .i64 x); unfold zea; rw [List.length_set]
 exact h2.congr fun j hj => by
  by_cases e : j = i
  · subst e; simp [hj]
  · simp [e, Ne.symm e]
theorem zfV.lt (h : zfV w b N) : b < w.heap.size := World.rowIs.lt h
theorem zea.lt (h : zea w b l) : b < w.heap.size := World.rowIs.lt h
theorem zfV.cell (h : zfV w b N) {i : Nat} (hi : i < N.length) : w.cell? ⟨b, i, none⟩ = some (.bool (N.getD i false)) := World.rowIs.cell h hi
theorem zea.cell (h : zea w b l) {i : Nat} (hi : i < l.length) : w.cell? ⟨b, i, none⟩ = some (.int .i64 (l.getD i 0)) := World.rowIs.cell h hi
theorem zfV.frozen (h : zfV w b N) (i : Nat) : w.frozen? ⟨b, i, none⟩ = false := World.rowIs.frozen h i
theorem zea.frozen (h : zea w b l) (i : Nat) : w.frozen? ⟨b, i, none⟩ = false := World.rowIs.frozen h i
theorem zfV.alloc (h : zfV w b N) (o : Obj) : zfV (w.alloc o) b N := World.rowIs.alloc h o
theorem zea.alloc (h : zea w b l) (o : Obj) : zea (w.alloc o) b l := World.rowIs.alloc h o
theorem zfV.drew (h : zfV w b N) : zfV w.drew b N := h
theorem zfV.below {M : Nat} (h : zfV w b N) (hb : Below M w w') (hlt : b < M) : zfV w' b N := World.rowIs.of_block h (hb.block b hlt)
theorem zea.below {M : Nat} (h : zea w b l) (hb : Below M w w') (hlt : b < M) : zea w' b l := World.rowIs.of_block h (hb.block b hlt)
theorem zea.kept {row : Option Nat} (h : zea w b l) (hg : w.grownBy w' row) (hne : some b ≠ row) : zea w' b l := World.rowIs.of_block h (hg.block b h.lt hne)
theorem zea.other (h : zea w b l) {c o : Nat} (hne : b ≠ c) (u : Value) : zea (w.setCell ⟨c, o, none⟩ u) b l := World.rowIs.setOther h hne u
theorem zea.not_row {base e s n : Nat} {v : Value} {xs : List Value} (h : zea w b l) (h' : w.ownsRow base e s v n xs) (hne : 2 ≠ e) : some b ≠ v.ownBlock := fun hb => by
 obtain ⟨c, h1⟩ := zfw h' hb.symm; obtain ⟨c2, h2, _⟩ := h; rw [h1] at h2; have := Option.some.inj h2; injection this with _ h3; exact hne h3.symm
end
theorem zgN {W : World} {B B' o : Nat} {t : TypeId} {v : Value} (h : Boxed W B t v) (hne : B ≠ B') (u : Value) : Boxed (W.setCell ⟨B', o, none⟩ u) B t v := (Below.heap_setCell _ _ _ _ hne).trans h
theorem Boxed.of1 (w : World) (o : Obj) (t : TypeId) (v : Value) : Boxed ((w.alloc o).alloc (.cells #[v] t)).drew (w.heap.size + 1) t v := by
 have := Boxed.new (w.alloc o) t v; rw [show (w.alloc o).heap.size = w.heap.size + 1 by simp] at this; exact this
theorem zea.of1 (w : World) (o : Obj) (n : Nat) : zea ((w.alloc o).alloc (.cells (madeCells #[.int .i64 0] n) 2)).drew (w.heap.size + 1) (List.replicate n 0) := by
 have := zea.made (w.alloc o) n; rw [show (w.alloc o).heap.size = w.heap.size + 1 by simp] at this; exact this
theorem zhS (a b : Int) (w : World) : Calls Tryz.prog 162 #[.int .i64 a, .int .i64 b] w fun e w' => e = .returned (.int .i64 (min a b)) /\ w = w' := by
 by_cases h : a < b
 · have e : min a b = a := by omega
   rw [e]; go_enter Tryz.func162, Tryz.ntmps162
   go_wp2
   go_ret
   exact ⟨rfl, rfl⟩
 · have e : min a b = b := by omega
   rw [e]; go_enter Tryz.func162, Tryz.ntmps162
   go_wp2
   go_ret
   exact ⟨rfl, rfl⟩
theorem zhT (a b : Int) (w : World) : Calls Tryz.prog 163 #[.int .i64 a, .int .i64 b] w fun e w' => e = .returned (.int .i64 (max a b)) /\ w = w' := by
 by_cases h : a > b
 · have e : max a b = a := by omega
   rw [e]; go_enter Tryz.func163, Tryz.ntmps163
   go_wp2
   go_ret
   exact ⟨rfl, rfl⟩
 · have e : max a b = b := by omega
   rw [e]; go_enter Tryz.func163, Tryz.ntmps163
   go_wp2
   go_ret
   exact ⟨rfl, rfl⟩
def nI (l : List Nat) : List Int := l.map Int.ofNat
theorem zgO (a b : List Nat) : nI (a ++ b) = nI a ++ nI b := by simp [nI]
theorem zoB (a : List Nat) : (nI a).length = a.length := by simp [nI]
theorem zje (base bg og : Nat) (vL vR : Value) (xs : List zaa) (ls : List Int) (hl : zaW xs = some ls) (_hn : xs.length <= 4194304) (hbg : bg < base) : ∀ (f r : Nat) (i j : Int) (vO : Value) (out : List Int) (w : World),
  r < f -> r < xs.length -> 0 <= i /\ i <= 1000000000000000 -> -1000000000000000 <= j /\ j <= ls.getD r 0 -> w.cell? ⟨bg, og, none⟩ = some vR -> Sl zgt w base vL ls -> Sl zar w base vR xs -> base <= w.heap.size -> zan w base vO out ->
  out.length + (zcy xs ls f r i j).length <= 1099511627776 ->
  Calls Tryz.prog 131 #[.pointer (some ⟨bg, og, none⟩), vL, .int .i64 r, .int .i64 i, .int .i64 j, vO] w fun e w' => ∃ v', e = .returned v' /\ zan w' base v' (out ++ nI (zcy xs ls f r i j)) /\ Below base w w' := by
 intro f
 induction f with
 | zero => intro r i j vO out w hr; omega
 | succ f ih =>
   intro r i j vO out w hr hx hi hj hp hL hR hbs hown hlen; have hll := zaG hl; have hL' := hL; have hR' := hR; obtain ⟨AL, cL, rfl, _, hmL, hrowL⟩ := hL; obtain ⟨AR, cR, rfl, _, hmR, hrowR⟩ := hR; unfold maxLen at hmL hmR; have hr1 := zaO hl hx; by_cases c1 : j <= i
   · have e : zcy xs ls (f + 1) r i j = [] := by rw [zcy, if_pos c1]
     have He := yq e; have Hown := yq hown; clear e hrowL hrowR ih hL' hR' hown hlen; go_enter Tryz.func131, Tryz.ntmps131
     go_wp2_with fail
     go_ret
     exact ⟨_, rfl, by rw [He.o]; simpa [nI] using Hown.o, Below.refl _ _⟩
   obtain ⟨b1, o1, rfl, hb1, hcellL⟩ := hrowL.int (k := r) yO; obtain ⟨b2, o2, rfl, hb2', hcellR⟩ := hrowR.rule (k := r) hx; have hcl := hcellL r yO; have hri : (r : Int) < (xs.length : Int) := by omega
   have hri2 : (r : Int) < (ls.length : Int) := by omega
   obtain ⟨LR, hLR⟩ : ∃ x, ls.getD r 0 = x := ⟨_, rfl⟩
   rw [hLR] at hcl hr1 hj; by_cases c2 : i = 0 /\ j = ls.getD r 0
   · obtain ⟨rfl, c2⟩ := c2
     rw [hLR] at c2; subst c2; have e : zcy xs ls (f + 1) r 0 j = [r] := by rw [zcy, if_neg c1, if_pos ⟨rfl, hLR.symm⟩]
     rw [e] at hlen; have He := yq e; have Hown := yq hown; have hl2 : out.length <= 1099511627776 := by simp at hlen; omega
     have Hl2 := yq hl2; obtain ⟨AO, cO, rfl, _⟩ := zae hown; clear e hrowL hrowR ih hL' hR' hown hlen hcellL hcellR hl2 hll; go_enter Tryz.func131, Tryz.ntmps131
     go_wp2_with (first | (at_builtin; go_must (refine zdD (base := base) (v := .slice AO out.length cO) (l := out) rfl _ _ rfl rfl rfl rfl Hown.o Hl2.o hbs ?_); intro v' w' h1 h2 h3))
     go_ret
     exact ⟨_, rfl, by rw [He.o]; exact h1, h3⟩
   cases hpair : (zaA xs r).pair with
   | false => have := zbL hl hx hpair; omega
   | true =>
     obtain ⟨q1, q2, q3, q4, q5⟩ := zbi hl hx hpair; obtain ⟨k0, k1, k2⟩ := hcellR r _ (zcm hx); obtain ⟨la, hla⟩ := Int.eq_ofNat_of_zero_le q1; obtain ⟨ra, hra⟩ := Int.eq_ofNat_of_zero_le q3
     have e : zcy xs ls (f + 1) r i j = zcy xs ls f la i (min j (ls.getD la 0)) ++ zcy xs ls f ra (max (i - ls.getD la 0) 0) (j - ls.getD la 0) := by
      rw [zcy, if_neg c1, if_neg c2, hla, hra]; rfl
     rw [hla] at k1 q2 q5; rw [hra] at k2 q4 q5; simp only [Int.toNat_natCast] at q2 q4 q5
     have hA := zaO hl (r := la) yO; have hB := zaO hl (r := ra) yO; rw [e, List.length_append] at hlen; have IH1 := yq (fun w' hp' hL'' hR'' hb' ho' => ih la i (min j (ls.getD la 0)) vO out w' yO yO hi yO hp' hL'' hR'' hb' ho' yO); have IH2 := yq (fun v' w' hp' hL'' hR'' hb' ho' => ih ra (max (i - ls.getD la 0) 0) (j - ls.getD la 0) v' (out ++ nI (zcy xs ls f la i (min j (ls.getD la 0)))) w' yO yO yO yO hp' hL'' hR'' hb' ho' (by rw [List.length_append, zoB]; omega)); have hca := hcellL la yO; obtain ⟨LA, hLA⟩ : ∃ x, ls.getD la 0 = x := ⟨_, rfl⟩
     rw [hLA] at IH1 IH2 hca hA e; have He := yq e; have Hown := yq hown; have HL := yq hL'; have HR := yq hR'
     have d1 : (j == LR) = false \/ ¬ i = 0 := by
      by_cases h : i = 0
      · exact .inl (by rw [beq_eq_false_iff_ne]; exact fun h2 => c2 ⟨h, by rw [hLR]; exact h2⟩)
      · exact .inr h
     have d2 : ¬ (i = 0) \/ ¬ (j = LR) := by
      rcases d1 with d | d
      · exact .inr (by simpa using d)
      · exact .inl d
     have hlai : (la : Int) < (ls.length : Int) := by omega
     have hij : i < j := by omega
     clear e hrowL hrowR ih hL' hR' hown hlen hcellL hcellR hLR hLA q5 hB c1 c2 d1 hll; go_enter Tryz.func131, Tryz.ntmps131
     have HLd : yh (Sl zgt w.drew base (.slice (some ⟨b1, o1, none⟩) ls.length cL) ls) := HL.o.keep fun _ _ => rfl; have HRd : yh (Sl zar w.drew base (.slice (some ⟨b2, o2, none⟩) xs.length cR) xs) := HR.o.keep fun _ _ => rfl; have Hod : yh (zan w.drew base vO out) := Hown.o.drew; have hpd : w.drew.cell? ⟨bg, og, none⟩ = some (.slice (some ⟨b2, o2, none⟩) xs.length cR) := hp; have hbd : base <= w.drew.heap.size := hbs; have I1 := yq (IH1.o w.drew hpd HLd.o HRd.o hbd Hod.o); by_cases hi0 : i = 0
     · subst hi0
       have hjL : ¬ (j = LR) := by
        rcases d2 with d | d
        · exact absurd rfl d
        · exact d
       have hm0 : max (0 - LA) 0 = 0 := by omega
       rw [hm0] at IH2 He; clear hm0; go_upto_region 7 with fail
       go_cut [5] from 15 to 57 (fun q wx => zan wx base q (out ++ nI (zcy xs ls f la 0 (min j LA))) /\ Below base w wx)
       case first =>
        go_region_law (first
         | (go_simp; go_at_call 162; refine (zhS _ _ _).mono ?_; rintro e w1 ⟨rfl, rfl⟩)
         | (go_simp; go_at_call 131; (with_reducible refine I1.o.mono ?_); rintro e w2 ⟨v2, rfl, own2, hb2⟩))
        all_goals
         go_wp2_with fail
         go_meet
         exact ⟨own2, (Below.drew (Below.refl _ _)).trans hb2⟩
       case rest =>
        revert hcut; generalize wc = w2; intro hcut; obtain ⟨own2, hb2⟩ := hcut; have p2 : w2.cell? ⟨bg, og, none⟩ = some (.slice (some ⟨b2, o2, none⟩) xs.length cR) := (hb2.cell (p := ⟨bg, og, none⟩) hbg).trans hp; have I2 := yq (IH2.o _ w2.drew p2 (SlS.below HL.o (Below.drew hb2)) (SlS.below HR.o (Below.drew hb2)) (Nat.le_trans hbs hb2.size) own2.drew); have m1 : w2.cell? ⟨b2, o2 + r * 3 + 2, none⟩ = some (.int .i64 (ra : Int)) := (hb2.cell (p := ⟨b2, o2 + r * 3 + 2, none⟩) hb2').trans k2; have HB2 := yq hb2; clear own2 hb2; have hwj : IntKind.i64.wrap (j - LA) = j - LA := IntWalk.i64_in _ yO; have hwn : IntKind.i64.wrap (-LA) = -LA := IntWalk.i64_in _ yO; have hmx : max (-LA) 0 = 0 := by omega
        go_wp2_with fail
        go_region_law (first
         | (go_simp; go_at_call 163; refine (zhT _ _ _).mono ?_; rintro e w1 ⟨rfl, rfl⟩)
         | (go_simp; go_at_call 131; (with_reducible refine I2.o.mono ?_); rintro e w3 ⟨v3, rfl, own3, hb3⟩))
        all_goals
         go_wp2_with fail
         go_ret
         exact ⟨_, rfl, by rw [He.o, zgO, <- List.append_assoc]; exact own3, (HB2.o.trans (Below.drew (Below.refl _ _))).trans hb3⟩
     · go_upto_region 7 with fail
       go_cut [5] from 15 to 57 (fun q wx => zan wx base q (out ++ nI (zcy xs ls f la i (min j LA))) /\ Below base w wx)
       case first =>
        go_region_law (first
         | (go_simp; go_at_call 162; refine (zhS _ _ _).mono ?_; rintro e w1 ⟨rfl, rfl⟩)
         | (go_simp; go_at_call 131; (with_reducible refine I1.o.mono ?_); rintro e w2 ⟨v2, rfl, own2, hb2⟩))
        all_goals
         go_wp2_with fail
         go_meet
         exact ⟨own2, (Below.drew (Below.refl _ _)).trans hb2⟩
       case rest =>
        revert hcut; generalize wc = w2; intro hcut; obtain ⟨own2, hb2⟩ := hcut; have p2 : w2.cell? ⟨bg, og, none⟩ = some (.slice (some ⟨b2, o2, none⟩) xs.length cR) := (hb2.cell (p := ⟨bg, og, none⟩) hbg).trans hp; have I2 := yq (IH2.o _ w2.drew p2 (SlS.below HL.o (Below.drew hb2)) (SlS.below HR.o (Below.drew hb2)) (Nat.le_trans hbs hb2.size) own2.drew); have m1 : w2.cell? ⟨b2, o2 + r * 3 + 2, none⟩ = some (.int .i64 (ra : Int)) := (hb2.cell (p := ⟨b2, o2 + r * 3 + 2, none⟩) hb2').trans k2; have HB2 := yq hb2; clear own2 hb2; have hwj : IntKind.i64.wrap (j - LA) = j - LA := IntWalk.i64_in _ yO; have hwi : IntKind.i64.wrap (i - LA) = i - LA := IntWalk.i64_in _ yO; go_wp2_with fail
        go_region_law (first
         | (go_simp; go_at_call 163; refine (zhT _ _ _).mono ?_; rintro e w1 ⟨rfl, rfl⟩)
         | (go_simp; go_at_call 131; (with_reducible refine I2.o.mono ?_); rintro e w3 ⟨v3, rfl, own3, hb3⟩))
        all_goals
         go_wp2_with fail
         go_ret
         exact ⟨_, rfl, by rw [He.o, zgO, <- List.append_assoc]; exact own3, (HB2.o.trans (Below.drew (Below.refl _ _))).trans hb3⟩
end Go.Proofs.YtejgbfgocaggfaaGreatDoor
