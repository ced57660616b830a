import Derived.Test.YtagpjommhoedlaaDoorM2
import Derived.Deep.RegionLaw
import Derived.RangeFuncBox
import Derived.Shelf.Strconv.Itoa0
import Derived.Shelf.Strconv.Itoa1
import Derived.Shelf.LaysM
import Derived.Shelf.Strconv.Itoa2
import Derived.Shelf.Strconv.Itoa3
import Derived.Shelf.Strconv.Itoa4
import Derived.Test.YtagpjommhoedlaaDoorProg
import Derived.Test.YtagpjommhoedlaaDoorM1
import Derived.Lib.LaidTab
import Derived.WalkSmall
import Derived.Lib.OthersKept
import Derived.Deep.CutRange
import Derived.Deep.DeepCutAuto
import Derived.Maps.Keyed
import Derived.DeepKeys4
namespace Go.Proofs.YtagpjommhoedlaaDoor
open Go.RowKit

theorem l02Raised_any (r : GRule) (n : Nat) (w : World) (hn : n ≤ 1099511627776) (hp : r.pair = true → -1099511627776 ≤ r.left ∧ r.left ≤ 1099511627776 ∧ -1099511627776 ≤ r.right ∧ r.right ≤ 1099511627776) :
    Calls Tryd.prog 66 #[.agg #[.string r.letter, .int .i64 r.left, .int .i64 r.right], .int .i64 n] w fun e w' => e = .returned (.agg #[.string (raiseR n r).letter, .int .i64 (raiseR n r).left, .int .i64 (raiseR n r).right]) ∧ Below w.heap.size w w' := by
  by_cases hpr : r.pair = true
  · obtain ⟨p1, p2, p3, p4⟩ := hp hpr
    have hemp : r.letter.toList.isEmpty = true := by rw [isEmpty_size]; exact hpr
    have e : raiseR n r = { letter := r.letter, left := r.left + n, right := r.right + n } := by rw [raiseR, if_pos hpr]
    rw [e]
    clear hpr e hp
    go_enter Tryd.func66, Tryd.ntmps66
    go_wp2
    exact bodyPost_ret (v := .agg #[.string r.letter, .int .i64 (r.left + n), .int .i64 (r.right + n)]) (by simp [results, Tryd.results66, go_sem]) rfl ⟨rfl, (by repeat (first | exact (Below.refl _ _) | (refine Below.alloc ?_ (by first | omega | (simp; done) | (simp; omega)) _) | refine below_drewN ?_ _ | refine Below.drew ?_))⟩
  · have hemp : r.letter.toList.isEmpty = false := by rw [isEmpty_size]; simpa [GRule.pair] using hpr
    have e : raiseR n r = r := by rw [raiseR, if_neg hpr]
    rw [e]
    clear hpr e hp
    go_enter Tryd.func66, Tryd.ntmps66
    go_wp2
    exact bodyPost_ret (v := .agg #[.string r.letter, .int .i64 r.left, .int .i64 r.right]) (by simp [results, Tryd.results66, go_sem]) rfl ⟨rfl, (by repeat (first | exact (Below.refl _ _) | (refine Below.alloc ?_ (by first | omega | (simp; done) | (simp; omega)) _) | refine below_drewN ?_ _ | refine Below.drew ?_))⟩

theorem l02Told_any (base : Nat) (v : Value) (xs : List GRule) (w : World) (h : OwnRules w base v xs) (hsm : SmallL xs) :
    Calls Tryd.prog 64 #[.agg #[v]] w (LimPost base xs w) := by
  have h1 := fun o o' => (h.sl.below (((Below.refl w.heap.size w).alloc (Nat.le_refl _) o).alloc (by simp) o')).le (B' := ((w.alloc o).alloc o').heap.size) (by simp; omega)
  have hv : v.ownBlock ≠ some (w.heap.size + 1) := fun e => by have := (World.ownsRow.lt h _ e).2; omega
  have H1 := Lib.hid h1
  have H := Lib.hid h
  have Hv := Lib.hid hv
  clear h1 hv
  obtain ⟨A, c, rfl, _⟩ := own_nil h
  clear h
  go_enter Tryd.func64, Tryd.ntmps64
  go_wp2_with fail
  refine (l02Ok_any _ _ _ _ _ (by simp [go_sem]) (by first | omega | (simp; done) | (simp; omega)) (H1.out _ _) hsm).mono ?_
  rintro e w1 ⟨rfl, hb1⟩
  obtain ⟨hc1, hf1⟩ := bcell hb1
  have hz1 : w.heap.size + 1 < w1.heap.size := by have := hb1.size; simp at this; omega
  have hc2 : w1.cell? ⟨w.heap.size + 1, 0, none⟩ = some (.slice none 0 0) := by rw [hc1 _ _ (by simp)]; simp [go_sem]
  have hf2 : w1.frozen? ⟨w.heap.size + 1, 0, none⟩ = false := by rw [hf1 _ _ (by simp)]; simp [go_sem]
  have hc3 : w1.cell? ⟨w.heap.size, 0, none⟩ = some (.slice A xs.length c) := by rw [hc1 _ _ (by simp; omega)]; simp [go_sem]
  have Hb1 := Lib.hid (((Below.refl w.heap.size w).alloc (Nat.le_refl _) (Obj.cells #[Value.slice A xs.length c] 26)).alloc (by simp) (Obj.cells #[Value.slice none 0 0] 26) |>.trans (hb1.mono (by simp; omega)))
  clear hc1 hf1 hb1
  by_cases hok : gramOk xs = true
  · have hok2 : (!gramOk xs) = false := by simp [hok]
    have Hok := Lib.hid hok
    clear hok
    go_wp2
    refine bodyPost_ret (v := .tuple #[.agg #[.slice A xs.length c], .int .i64 0]) (by simp [results, Tryd.results64, go_sem, hc2]) rfl ⟨?_, _, ?_, by rw [limCode, if_pos Hok.out]⟩
    · exact Hb1.out.setCell (by show w.heap.size ≤ w.heap.size + 1; omega) _
    · rw [limOut, if_pos Hok.out]
      refine own_keep (OwnRules.below H.out Hb1.out) fun g hg => Below.heap_setCell _ _ _ _ (fun e => Hv.out ?_)
      rw [hg, e]
  · have hok2 : (!gramOk xs) = true := by simp [hok]
    have Hok := Lib.hid hok
    clear hok
    go_wp2
    refine bodyPost_ret (v := .tuple #[.agg #[.slice none 0 0], .int .i64 3]) (by simp [results, Tryd.results64, go_sem, hc2]) rfl ⟨?_, _, ?_, by rw [limCode, if_neg Hok.out]⟩
    · exact Hb1.out.setCell (by show w.heap.size ≤ w.heap.size + 1; omega) _
    · rw [limOut, if_neg Hok.out]; exact World.ownsRow_nil _ _ _ _

theorem step_push_rule {W : World} {ops : Array Oper} {o : Oper} {a : Act} {K : Act → World → Prop} {Q : Exit → Act → World → Prop} {E : Prop} (hgd : o.guard = none) (s x : Operand)
    (ho : o.op = .call { callee := .builtin .append, args := #[s, x], argTypes := #[24, 24] }) {t : ByteArray} {p q : Int} {base : Nat} {v : Value} {l : List GRule}
    (hs : a.eval s = v) {N : Nat} (hx : a.eval x = .slice (some ⟨N, 0, none⟩) 1 1) (hN : N = W.heap.size) (hown : OwnRules W base v l) (hlen : l.length ≤ 1099511627775) (hbase : base ≤ W.heap.size)
    (h : ∀ v' w', OwnRules w' base v' (l ++ [⟨t, p, q⟩]) → (W.alloc (.cells #[.string t, .int .i64 p, .int .i64 q] 70)).grownBy w' v.ownBlock → Below base (W.alloc (.cells #[.string t, .int .i64 p, .int .i64 q] 70)) w' → K (a.put o.dst v') w') :
    if Region.wanted o (yielded ops a.tmps) = true then Oper.wp Tryd.prog o a (W.alloc (.cells #[.string t, .int .i64 p, .int .i64 q] 70)) K Q else E := by
  subst hN
  refine step_append_rules (ys := [⟨t, p, q⟩]) (S := fun b => b = W.heap.size) hgd s x ho hs hx (hown.alloc _) ⟨_, 1, rfl, Nat.le_refl _, by simp [maxLen], fun _ => ⟨W.heap.size, 0, rfl, rfl, fun k r hk => ⟨r.cells, rfl, fun j u hu => ?_⟩⟩⟩ (by simp; omega) (by simp; omega) h
  have hk0 : k = 0 := by
    have := (List.getElem?_eq_some_iff.1 hk).1
    simp at this; exact this
  subst hk0
  simp at hk
  subst hk
  have hc : (W.alloc (.cells #[.string t, .int .i64 p, .int .i64 q] 70)).cell? ⟨W.heap.size, j, none⟩ = (#[Value.string t, .int .i64 p, .int .i64 q] : Array Value)[j]? := cell_of_row _ _ _ _ 70 (0, 0) (heap_alloc_new W _)
  simp only [Nat.zero_mul, Nat.zero_add]
  rw [hc]
  simpa [GRule.cells] using hu

theorem Boxed.mk' {w : World} {B : Nat} {t : TypeId} {v : Value} (h : w.heap[B]? = some (.cells #[v] t (0, 0))) : Boxed w.drew B t v := h
theorem Boxed.up {w w' : World} {B N : Nat} {t : TypeId} {v : Value} (h : Boxed w B t v) (hb : Below N w w') (hlt : B < N) : Boxed w' B t v := (hb.block B hlt).trans h
theorem Boxed.grown {w w' : World} {B base e s n : Nat} {t : TypeId} {v : Value} {xs : List Value} {o : Obj} (h : Boxed w B t v) (hte : t ≠ e) (own : w.ownsRow base e s v n xs) (hg : (w.alloc o).grownBy w' v.ownBlock) : Boxed w' B t v := (h.alloc o).kept hg (h.not_row hte own)

set_option maxRecDepth 100000 in
set_option maxHeartbeats 4000000 in
theorem l02Join_any (b o b' o' : Nat) (v u : Value) (xs ys : List GRule) (w : World) (hpt : w.cell? ⟨b, o, none⟩ = some v) (hpt' : w.cell? ⟨b', o', none⟩ = some u) (hbl : b < w.heap.size) (hbl' : b' < w.heap.size)
    (h : Sl RuleE w w.heap.size v xs) (h' : Sl RuleE w w.heap.size u ys) (hn : xs.length ≤ 1048576) (hn' : ys.length ≤ 1048576) (hp : SmallP ys) :
    Calls Tryd.prog 38 #[.pointer (some ⟨b, o, none⟩), .pointer (some ⟨b', o', none⟩)] w (GOwn (joinG xs ys) w) := by
  have h1 := fun o => (h.below ((Below.refl w.heap.size w).alloc (Nat.le_refl _) o)).le (B' := (w.alloc o).heap.size) (by simp)
  have h2 := fun o => (h'.below ((Below.refl w.heap.size w).alloc (Nat.le_refl _) o)).le (B' := (w.alloc o).heap.size) (by simp)
  have H1 := Lib.hid h1
  have H2 := Lib.hid h2
  clear h1 h2
  obtain ⟨A, c, rfl, hc, hm, hrow⟩ := h
  obtain ⟨A', c', rfl, hc', hm', hrow'⟩ := h'
  clear hm hm' hrow
  by_cases h0 : xs.length = 0
  · have hj : joinG xs ys = ys := by rw [joinG, if_pos h0]
    have Hj := Lib.hid hj
    have hb0 : ((xs.length : Int) == 0) = true := by simp [h0]
    have H0 := Lib.hid h0
    clear hj h0
    go_enter Tryd.func38, Tryd.ntmps38
    go_wp2_with fail
    refine (l02Own_any _ _ _ _ _ (by simpa [go_sem, hbl'] using hpt') (by first | omega | (simp; done) | (simp; omega)) (H2.out _) (by omega)).mono ?_
    rintro e w1 ⟨v1, rfl, own1, hb1⟩
    obtain ⟨A1, c1, rfl, _⟩ := own_nil own1
    obtain ⟨hc1, hf1⟩ := bcell hb1
    have hz1 : w.heap.size + 1 ≤ w1.heap.size := by have := hb1.size; simp at this; omega
    have Hown := Lib.hid own1
    have Hb1 := Lib.hid hb1
    clear own1 hb1
    go_wp2
    refine bodyPost_ret (v := .agg #[.slice A1 ys.length c1]) (by simp [results, Tryd.results38, go_sem, hc1]) rfl ⟨?_, _, ?_, rfl⟩
    · exact (((Below.refl _ _).alloc (Nat.le_refl _) _).trans (Hb1.out.mono (by simp))).setCell (by show w.heap.size ≤ w.heap.size; omega) _
    · rw [Hj.out]
      have h4 : w1.ownsRow (w.heap.size + 1) 70 3 (.slice A1 ys.length c1) ys.length (ys.flatMap GRule.cells) := ownsRow_more Hown.out (by simp)
      exact ownsRow_more (ownsRow_setCell_below h4 (by show w.heap.size < w.heap.size + 1; omega) _) (by omega)
  · have hb0 : ((xs.length : Int) == 0) = false := by rw [beq_eq_false_iff_ne]; omega
    by_cases h0' : ys.length = 0
    · have hj : joinG xs ys = xs := by rw [joinG, if_neg h0, if_pos h0']
      have Hj := Lib.hid hj
      have hb0' : ((ys.length : Int) == 0) = true := by simp [h0']
      have H0 := Lib.hid h0
      have H0' := Lib.hid h0'
      clear hj h0 h0'
      go_enter Tryd.func38, Tryd.ntmps38
      go_wp2_with fail
      refine (l02Own_any _ _ _ _ _ (by simpa [go_sem, hbl] using hpt) (by first | omega | (simp; done) | (simp; omega)) (H1.out _) (by omega)).mono ?_
      rintro e w1 ⟨v1, rfl, own1, hb1⟩
      obtain ⟨A1, c1, rfl, _⟩ := own_nil own1
      obtain ⟨hc1, hf1⟩ := bcell hb1
      have hz1 : w.heap.size + 1 ≤ w1.heap.size := by have := hb1.size; simp at this; omega
      have hpt1 : w1.cell? ⟨b, o, none⟩ = some (.slice A xs.length c) := by rw [hb1.cell (by first | omega | (simp; done) | (simp; omega))]; simpa [go_sem, hbl] using hpt
      have hpt1' : w1.cell? ⟨b', o', none⟩ = some (.slice A' ys.length c') := by rw [hb1.cell (by first | omega | (simp; done) | (simp; omega))]; simpa [go_sem, hbl'] using hpt'
      have hcr1 : w1.cell? ⟨w.heap.size, 0, none⟩ = some (.slice none 0 0) := by rw [hc1 _ _ (by simp)]; simp [go_sem]
      have hfr1 : w1.frozen? ⟨w.heap.size, 0, none⟩ = false := by rw [hf1 _ _ (by simp)]; simp [go_sem]
      have hlb : b < w1.heap.size := by omega
      have hlb' : b' < w1.heap.size := by omega
      have hlr : w.heap.size < w1.heap.size := by omega
      have Hown := Lib.hid own1
      have Hb1 := Lib.hid hb1
      clear own1 hb1 hc1 hf1
      go_wp2
      refine bodyPost_ret (v := .agg #[.slice A1 xs.length c1]) (by simp [results, Tryd.results38, go_sem, hcr1, hlr]) rfl ⟨?_, _, ?_, rfl⟩
      · refine Below.alloc (Below.setCell (((Below.refl _ _).alloc (Nat.le_refl _) _).trans (Hb1.out.mono (by simp))) ?_ _) ?_ _
        · exact Nat.le_refl _
        · simp; omega
      · rw [Hj.out]
        have h4 : w1.ownsRow (w.heap.size + 1) 70 3 (.slice A1 xs.length c1) xs.length (xs.flatMap GRule.cells) := ownsRow_more Hown.out (by simp)
        exact ownsRow_more (World.ownsRow.alloc (ownsRow_setCell_below (a := ⟨w.heap.size, 0, none⟩) h4 (by show w.heap.size < w.heap.size + 1; omega) _) _) (by omega)
    · have hb0' : ((ys.length : Int) == 0) = false := by rw [beq_eq_false_iff_ne]; omega
      have hj : joinG xs ys = xs ++ ys.map (raiseR xs.length) ++ [pairR ((xs.length : Int) - 1) ((xs.length : Int) + ys.length - 1)] := by rw [joinG, if_neg h0, if_neg h0']
      have Hj := Lib.hid hj
      have hx1 : 1 ≤ xs.length := by omega
      have hy1 : 1 ≤ ys.length := by omega
      have Hp := Lib.hid hp
      clear hj h0 h0' hp
      go_enter Tryd.func38, Tryd.ntmps38
      go_wp2_with fail
      refine (l02Own_any _ _ _ _ _ (by simpa [go_sem, hbl] using hpt) (by first | omega | (simp; done) | (simp; omega)) (H1.out _) (by omega)).mono ?_
      rintro e w1 ⟨v1, rfl, own1, hb1⟩
      have z1 : w.heap.size + 1 ≤ w1.heap.size := by have := hb1.size; simp at this; omega
      have Hb1 : Hid (Below (w.heap.size + 1) (w.alloc (Obj.cells #[Value.slice none 0 0] 26)) w1) := hb1.mono (by simp)
      have hpt1 : w1.cell? ⟨b, o, none⟩ = some (.slice A xs.length c) := by rw [hb1.cell (by first | omega | (simp; done) | (simp; omega))]; simpa [go_sem, hbl] using hpt
      have hpt1' : w1.cell? ⟨b', o', none⟩ = some (.slice A' ys.length c') := by rw [hb1.cell (by first | omega | (simp; done) | (simp; omega))]; simpa [go_sem, hbl'] using hpt'
      have own1' : OwnRules w1 (w.heap.size + 1) v1 xs := ownsRow_more own1 (by simp)
      obtain ⟨A1, c1, rfl, _⟩ := own_nil own1'
      have Hown1 := Lib.hid own1'
      have hlb : b < w1.heap.size := by omega
      have hlb' : b' < w1.heap.size := by omega
      have Hrow := Lib.hid hrow'
      clear own1 own1' hb1 hrow'
      go_wp2_with fail
      go_loopw [7] (fun i wr => ∃ (k : Nat) (vo : Value), k ≤ ys.length ∧ i = .int .i64 k ∧ Below (w.heap.size + 1) (w.alloc (Obj.cells #[Value.slice none 0 0] 26)) wr ∧ wr.heap[w1.heap.size]? = some (Obj.cells #[vo] 26 (0, 0)) ∧ OwnRules wr (w.heap.size + 1) vo (xs ++ (ys.take k).map (raiseR xs.length))) (fun i _ => ys.length - (intOf i).toNat)
      case atStart => exact ⟨0, _, Nat.zero_le _, rfl, Hb1.out.alloc (by omega) _, alloc_heap_last _ _, by have := Hown1.out.alloc (Obj.cells #[Value.slice A1 xs.length c1] 26); simpa using this⟩
      case round =>
        obtain ⟨k, vo, hk, rfl, hb, hbox, hown⟩ := hrel
        have hcb : wr.cell? ⟨w1.heap.size, 0, none⟩ = some vo := by simp [World.cell?, hbox]
        have hfb : wr.frozen? ⟨w1.heap.size, 0, none⟩ = false := by simp [World.frozen?, hbox]
        have hszr : w1.heap.size < wr.heap.size := (Array.getElem?_eq_some_iff.1 hbox).1
        have hptr : wr.cell? ⟨b, o, none⟩ = some (.slice A xs.length c) := by rw [hb.cell (p := ⟨b, o, none⟩) (by show b < w.heap.size + 1; omega)]; simpa [go_sem, hbl] using hpt
        have hptr' : wr.cell? ⟨b', o', none⟩ = some (.slice A' ys.length c') := by rw [hb.cell (p := ⟨b', o', none⟩) (by show b' < w.heap.size + 1; omega)]; simpa [go_sem, hbl'] using hpt'
        have Hbox := Lib.hid hbox
        have Hown := Lib.hid hown
        have Hb := Lib.hid hb
        by_cases hlt : k < ys.length
        · obtain ⟨b2, o2, rfl, hbl2, hcell⟩ := Hrow.out.rule hlt
          obtain ⟨r, hr⟩ : ∃ x, ys[k]? = some x := ⟨_, List.getElem?_eq_getElem hlt⟩
          obtain ⟨g0, g1, g2⟩ := hcell k r hr
          have hbw : Below w.heap.size w wr := ((Below.refl _ _).alloc (Nat.le_refl _) _).trans (hb.mono (by omega))
          have hc0 := (hbw.cell (p := ⟨b2, o2 + k * 3, none⟩) hbl2).trans g0
          have hc1 := (hbw.cell (p := ⟨b2, o2 + k * 3 + 1, none⟩) hbl2).trans g1
          have hc2 := (hbw.cell (p := ⟨b2, o2 + k * 3 + 2, none⟩) hbl2).trans g2
          have hi : (k : Int) < (ys.length : Int) := by omega
          have hpr := Hp.out r (List.mem_of_getElem? hr)
          have Hpr := Lib.hid hpr
          have Hr := Lib.hid hr
          have hb2l : b2 < wr.heap.size := by omega
          have hbl3 : b' < wr.heap.size := by omega
          have hbl4 : b < wr.heap.size := by omega
          obtain ⟨L, hL⟩ : ∃ L, L = xs ++ (ys.take k).map (raiseR xs.length) := ⟨_, rfl⟩
          rw [← hL] at hown
          have hlk : L.length = xs.length + k := by rw [hL]; simp; omega
          have Hll : Hid (L.length ≤ 1099511627775) := by rw [Hid]; omega
          have Hnx : Hid (xs ++ (ys.take (k + 1)).map (raiseR xs.length) = L ++ [raiseR xs.length r]) := by rw [Hid, List.take_add_one, hr, List.map_append, ← List.append_assoc, ← hL]; rfl
          have Hown := Lib.hid hown
          clear hbox hown hb hcell g0 g1 g2 hbw hr hpr hpt hpt' hpt1 hpt1' hL hlk
          go_wp2_with fail
          go_region_law (first
            | (refine step_push_rule (base := w.heap.size + 1) (by rfl) _ _ (by rfl) (by rfl) (by first | rfl | simp) rfl (OwnRules.below Hown.out.drew hb2) Hll.out (by omega) ?_; intro v3 w3 own3 hg3 hb3; have bx3 : Boxed w3 w1.heap.size 26 vo := Boxed.grown (Boxed.up (Boxed.mk' Hbox.out) hb2 hszr) (by decide) (OwnRules.below Hown.out.drew hb2) hg3; obtain ⟨A3, c3, rfl, _⟩ := own_nil own3; have hcb3 := bx3.cell; have hfb3 := bx3.frozen)
            | (go_simp; go_at_call 66; refine (l02Raised_any r xs.length _ (by omega) Hpr.out).mono ?_; rintro e w2 ⟨rfl, hb2⟩; obtain ⟨hcc2, hff2⟩ := bcell hb2; have bx2 := Boxed.up (Boxed.mk' Hbox.out) hb2 hszr; have hcb2 := bx2.cell; have hfb2 := bx2.frozen; have hlb2 := bx2.lt; have hlb3 : b < w2.heap.size := (by omega); have hlb3' : b' < w2.heap.size := (by omega); have hlb4 : b2 < w2.heap.size := (by omega)))
          all_goals
            clear hcc2 hff2 hcb2 hfb2
            go_wp2
            go_roundw
            case rel =>
              refine ⟨k + 1, _, by omega, by go_num, ?_, Boxed.set _ bx3, ?_⟩
              · exact (((Below.drew Hb.out).trans (hb2.mono (by show w.heap.size + 1 ≤ wr.heap.size; omega))).alloc (by omega) _ |>.trans hb3).setCell (by show w.heap.size + 1 ≤ w1.heap.size; omega) _
              · have e9 : (L ++ [raiseR xs.length r]).length = L.length + 1 := by simp
                have own9 : OwnRules w3 (w.heap.size + 1) (.slice A3 (L.length + 1) c3) (L ++ [raiseR xs.length r]) := by rw [← e9]; exact own3
                rw [Hnx.out]; exact ownsRow_setCell_other (a := ⟨w1.heap.size, 0, none⟩) own9 (bx3.not_row (by decide) own9).symm _
            case measure => simp [intOf]; omega
        · have hkn : k = ys.length := by omega
          subst hkn
          rw [List.take_length] at hown
          obtain ⟨L, hL⟩ : ∃ L, L = xs ++ ys.map (raiseR xs.length) := ⟨_, rfl⟩
          rw [← hL] at hown
          have hlk : L.length = xs.length + ys.length := by rw [hL]; simp
          have Hll : Hid (L.length ≤ 1099511627775) := by rw [Hid]; omega
          have HL := Lib.hid hL
          have Hown := Lib.hid hown
          have hw1 : IntKind.i64.wrap ((xs.length : Int) - 1) = (xs.length : Int) - 1 := IntWalk.i64_in _ (by omega)
          have hw2 : IntKind.i64.wrap ((xs.length : Int) + ys.length) = (xs.length : Int) + ys.length := IntWalk.i64_in _ (by omega)
          have hw3 : IntKind.i64.wrap ((xs.length : Int) + ys.length - 1) = (xs.length : Int) + ys.length - 1 := IntWalk.i64_in _ (by omega)
          clear hbox hown hb hpt hpt' hpt1 hpt1' hL
          go_wp2_with fail
          go_region_law (first
            | (refine step_push_rule (base := w.heap.size + 1) (by rfl) _ _ (by rfl) (by rfl) (by first | rfl | simp) rfl Hown.out.drew Hll.out (by show w.heap.size + 1 ≤ wr.heap.size; omega) ?_; intro v3 w3 own3 hg3 hb3; have bx3 : Boxed w3 w1.heap.size 26 vo := Boxed.grown (Boxed.mk' Hbox.out) (by decide) Hown.out.drew hg3; obtain ⟨A3, c3, rfl, _⟩ := own_nil own3; have hcb3 := bx3.cell; have hfb3 := bx3.frozen; have hl3 := bx3.lt))
          all_goals
            try rw [hw2] at own3
            try rw [hw1, hw3] at own3
            have hb9 := (((Below.drew Hb.out)).alloc (by show w.heap.size + 1 ≤ wr.heap.size; omega) _).trans hb3
            obtain ⟨hc9, hf9⟩ := bcell hb9
            have hcr : w3.cell? ⟨w.heap.size, 0, none⟩ = some (.slice none 0 0) := by rw [hc9 _ _ (by omega)]; simp [go_sem]
            have hfr : w3.frozen? ⟨w.heap.size, 0, none⟩ = false := by rw [hf9 _ _ (by omega)]; simp [go_sem]
            have e9 : (L ++ [pairR ((xs.length : Int) - 1) ((xs.length : Int) + ys.length - 1)]).length = xs.length + ys.length + 1 := by simp [hlk]
            have Own9 : Hid (OwnRules w3 (w.heap.size + 1) (.slice A3 (xs.length + ys.length + 1) c3) (L ++ [pairR ((xs.length : Int) - 1) ((xs.length : Int) + ys.length - 1)])) := by rw [Hid, ← e9]; exact own3
            have Hb9 := Lib.hid hb9
            have Hbx3 := Lib.hid bx3
            have hne : w.heap.size ≠ w1.heap.size := by omega
            have hl9 : w.heap.size < w3.heap.size := by omega
            clear hc9 hf9 hb9 own3 hg3 hb3 bx3 hlk
            go_wp2
            refine bodyPost_ret (v := .agg #[.slice A3 (xs.length + ys.length + 1) c3]) (by simp [results, Tryd.results38, go_sem, hcr]) rfl ⟨?_, _, ?_, rfl⟩
            · exact ((((Below.refl _ _).alloc (Nat.le_refl _) _).trans (Hb9.out.mono (by omega))).setCell (by show w.heap.size ≤ w1.heap.size; omega) _).setCell (by show w.heap.size ≤ w.heap.size; omega) _
            · rw [Hj.out, ← HL.out]
              unfold OwnRules
              rw [e9]
              have h5 := Own9.out
              unfold OwnRules at h5
              rw [e9] at h5
              have h6 := ownsRow_setCell_other (a := ⟨w1.heap.size, 0, none⟩) h5 (Hbx3.out.not_row (by decide) h5).symm (.slice A3 (xs.length + ys.length + 1) c3)
              have h7 := ownsRow_setCell_below (a := ⟨w.heap.size, 0, none⟩) h6 (by show w.heap.size < w.heap.size + 1; omega) (.slice A3 (xs.length + ys.length + 1) c3)
              exact ownsRow_more h7 (by omega)
end Go.Proofs.YtagpjommhoedlaaDoor

namespace Go.Proofs
open Go.Shelf Go.RowKit
def Tryd.laysM173_ren : Go.Shelf.Ren := ⟨fun | 173 => 55 | 246 => 78 | 283 => 82 | 284 => 83 | 285 => 84 | 286 => 85 | 129 => 88 | 317 => 87 | 318 => 89 | 319 => 90 | 320 => 91 | 337 => 92 | 338 => 93 | n => n, fun | 2 => 2 | 3 => 3 | 9 => 9 | 4 => 4 | 171 => 105 | 0 => 0 | 53 => 74 | 37 => 22 | 5 => 5 | 173 => 108 | 212 => 111 | 51 => 112 | 20 => 20 | 213 => 113 | 46 => 87 | 232 => 117 | 233 => 118 | n => n, fun | 17 => 0 | 18 => 2 | 19 => 3 | n => n⟩
theorem Tryd.laysM173 : Go.Proofs.LaysM.n173 Tryd.prog Tryd.laysM173_ren := {
  mixed := by kernel_rfl
  f129 := Tryd.func88.trans (congrArg some (by kernel_rfl))
  f173 := Tryd.func55.trans (congrArg some (by kernel_rfl))
  f246 := Tryd.func78.trans (congrArg some (by kernel_rfl))
  f283 := Tryd.func82.trans (congrArg some (by kernel_rfl))
  f284 := Tryd.func83.trans (congrArg some (by kernel_rfl))
  f285 := Tryd.func84.trans (congrArg some (by kernel_rfl))
  f286 := Tryd.func85.trans (congrArg some (by kernel_rfl))
  f317 := Tryd.func87.trans (congrArg some (by kernel_rfl))
  f318 := Tryd.func89.trans (congrArg some (by kernel_rfl))
  f319 := Tryd.func90.trans (congrArg some (by kernel_rfl))
  f320 := Tryd.func91.trans (congrArg some (by kernel_rfl))
  f337 := Tryd.func92.trans (congrArg some (by kernel_rfl))
  f338 := Tryd.func93.trans (congrArg some (by kernel_rfl))
  t0 := Tryd.underlying0
  a0 := Tryd.isAgg0
  z0 := Tryd.sizeOf0
  v0 := Tryd.zeroValue0
  t2 := Tryd.underlying2
  a2 := Tryd.isAgg2
  z2 := Tryd.sizeOf2
  v2 := Tryd.zeroValue2
  t3 := Tryd.underlying3
  a3 := Tryd.isAgg3
  z3 := Tryd.sizeOf3
  v3 := Tryd.zeroValue3
  t4 := Tryd.underlying4
  a4 := Tryd.isAgg4
  z4 := Tryd.sizeOf4
  v4 := Tryd.zeroValue4
  t5 := Tryd.underlying5
  a5 := Tryd.isAgg5
  z5 := Tryd.sizeOf5
  v5 := Tryd.zeroValue5
  t9 := Tryd.underlying9
  a9 := Tryd.isAgg9
  z9 := Tryd.sizeOf9
  v9 := Tryd.zeroValue9
  t20 := Tryd.underlying20
  a20 := Tryd.isAgg20
  z20 := Tryd.sizeOf20
  v20 := Tryd.zeroValue20
  t37 := Tryd.underlying22
  a37 := Tryd.isAgg22
  z37 := Tryd.sizeOf22
  v37 := Tryd.zeroValue22
  t46 := Tryd.underlying87
  a46 := Tryd.isAgg87
  z46 := Tryd.sizeOf87
  v46 := Tryd.zeroValue87
  t51 := Tryd.underlying112
  a51 := Tryd.isAgg112
  z51 := Tryd.sizeOf112
  v51 := Tryd.zeroValue112
  t53 := Tryd.underlying74
  a53 := Tryd.isAgg74
  z53 := Tryd.sizeOf74
  v53 := Tryd.zeroValue74
  t171 := Tryd.underlying105
  a171 := Tryd.isAgg105
  z171 := Tryd.sizeOf105
  v171 := Tryd.zeroValue105
  t173 := Tryd.underlying108
  a173 := Tryd.isAgg108
  z173 := Tryd.sizeOf108
  v173 := Tryd.zeroValue108
  t212 := Tryd.underlying111
  a212 := Tryd.isAgg111
  z212 := Tryd.sizeOf111
  v212 := Tryd.zeroValue111
  t213 := Tryd.underlying113
  a213 := Tryd.isAgg113
  z213 := Tryd.sizeOf113
  t232 := Tryd.underlying117
  a232 := Tryd.isAgg117
  z232 := Tryd.sizeOf117
  v232 := Tryd.zeroValue117
  t233 := Tryd.underlying118
  a233 := Tryd.isAgg118
  z233 := Tryd.sizeOf118
  v233 := Tryd.zeroValue118
  g17 := by kernel_rfl
  g18 := by kernel_rfl
  g19 := by kernel_rfl
  i0 := by kernel_rfl
  i2 := by kernel_rfl
  i3 := by kernel_rfl
  i4 := by kernel_rfl
  i5 := by kernel_rfl
  i9 := by kernel_rfl
  i20 := by kernel_rfl
  i37 := by kernel_rfl
  i46 := by kernel_rfl
  i51 := by kernel_rfl
  i53 := by kernel_rfl
  i171 := by kernel_rfl
  i173 := by kernel_rfl
  i212 := by kernel_rfl
  i232 := by kernel_rfl
  i233 := by kernel_rfl
  m17 := by kernel_rfl
  m18 := by kernel_rfl
  m19 := by kernel_rfl }
open Go.RowKit Go.Sort Go.Lib in
/-- strconv.FormatInt: "FormatInt returns the string representation of i in the given base": AT BASE 10: i's decimal numeral, for every int64. (LAID: no walk: one application.) -/
theorem Tryd.strconv_FormatInt_10 (n : Int) (h0 : -9223372036854775808 ≤ n) (h1 : n ≤ 9223372036854775807) (w : World) (htab : Lib.TabIs Tryd.prog w "internal/strconv.uint64pow10" .u64 Lib.pow10Tab) :
    Calls Tryd.prog 55 #[.int .i64 n, .int .i64 10] w fun e w' => e = .returned (.string ⟨(Lib.itoa n).toArray⟩) ∧ ∃ k os, w' = grow (w.drewN k) os := Any.strconv_FormatInt_10 Tryd.laysM173 n h0 h1 w htab
end Go.Proofs

namespace Go.Proofs.YtagpjommhoedlaaDoor
open Go.RowKit

theorem tab_below {P : Program} {w w' : World} {nm : String} {k : IntKind} {zs : List Int} (h : Lib.TabIs P w nm k zs) (hb : Below w.heap.size w w') : Lib.TabIs P w' nm k zs := by
  unfold Lib.TabIs World.var? at h ⊢
  obtain ⟨g, hg, h2⟩ := Option.bind_eq_some_iff.1 h
  rw [hg]
  simp only [Option.bind_some]
  have hlt : g < w.heap.size := by
    rcases Nat.lt_or_ge g w.heap.size with h' | h'
    · exact h'
    · rw [Array.getElem?_eq_none h'] at h2; cases h2
  rw [hb.block g hlt]; exact h2
end Go.Proofs.YtagpjommhoedlaaDoor

namespace Go.Proofs.YtagpjommhoedlaaDoor
open Go.RowKit

/-- The binary digits of a number. -/
def binL (n : Nat) : List UInt8 := if h : n < 2 then [UInt8.ofNat (48 + n)] else binL (n / 2) ++ [UInt8.ofNat (48 + n % 2)]
termination_by n
decreasing_by omega
theorem binL_lt {n : Nat} (h : n < 2) : binL n = [UInt8.ofNat (48 + n)] := by rw [binL, dif_pos h]
theorem binL_ge {n : Nat} (h : ¬ n < 2) : binL n = binL (n / 2) ++ [UInt8.ofNat (48 + n % 2)] := by rw [binL, dif_neg h]

def deB64 : List Int := [0, 1, 56, 2, 57, 49, 28, 3, 61, 58, 42, 50, 38, 29, 17, 4, 62, 47, 59, 36, 45, 43, 51, 22, 53, 39, 33, 30, 24, 18, 12, 5, 63, 55, 48, 27, 60, 41, 37, 16, 46, 35, 44, 21, 52, 32, 23, 11, 54, 26, 40, 15, 34, 20, 31, 10, 25, 14, 19, 9, 13, 8, 7, 6]
theorem tz_two (w : World) (htab : Lib.TabIs Tryd.prog w "math/bits.deBruijn64tab" .u8 deB64) :
    Calls Tryd.prog 91 #[.int .u64 2] w fun e w' => e = .returned (.int .i64 1) ∧ w = w' := by
  have hc0 := htab.cell (g := 3) (by kernel_rfl) 1 (by decide)
  have hc : w.cell? ⟨3, 1, none⟩ = some (.int .u8 1) := hc0
  clear hc0
  have e1 : IntKind.u64.wrap (-2) = 18446744073709551614 := by decide
  have e2 : bits BinOp.and IntKind.u64 2 18446744073709551614 = 2 := by decide
  have e3 : IntKind.u64.wrap (2 * 285870213051353865) = 571740426102707730 := by decide
  clear htab
  go_enter Tryd.func91, Tryd.ntmps91
  go_wp2
  go_ret
  exact ⟨rfl, rfl⟩

theorem pow2_two (w : World) : Calls Tryd.prog 90 #[.int .i64 2] w fun e w' => e = .returned (.bool true) ∧ w = w' := by
  have e2 : bits BinOp.and IntKind.i64 2 1 = 0 := by decide
  go_enter Tryd.func90, Tryd.ntmps90
  go_wp2
  go_ret
  exact ⟨rfl, rfl⟩

theorem convL (L : List UInt8) (b p n c : Nat) (W : World) (hn : n = L.length) (h : ∀ t (ht : t < L.length), W.cell? ⟨b, p + t, none⟩ = some (.int .u8 (L[t].toNat : Int))) :
    (convert 22 9 (.slice (some ⟨b, p, none⟩) n c)).run Tryd.prog W = .ok (.string ⟨L.toArray⟩) W := by
  subst hn
  exact run_convert_bytes_back (P := Tryd.prog) W 22 9 5 ⟨b, p, none⟩ c L Tryd.underlying22 Tryd.underlying5 Tryd.underlying9 (fun j hj => by
    have e : (⟨b, p, none⟩ : Addr).add j = ⟨b, p + j, none⟩ := by unfold Addr.add; split <;> simp_all
    rw [e]; exact h j hj)
set_option maxRecDepth 100000 in
set_option maxHeartbeats 1000000 in
theorem formatBits_two (n : Nat) (hn : n < 1152921504606846976) (w : World) (htab : Lib.TabIs Tryd.prog w "math/bits.deBruijn64tab" .u8 deB64) :
    Calls Tryd.prog 85 #[.slice none 0 0, .int .u64 n, .int .i64 2, .bool false, .bool false] w fun e w' => e = .returned (.tuple #[.slice none 0 0, .string ⟨(binL n).toArray⟩]) ∧ Below w.heap.size w w' := by
  have HT := Lib.hid htab
  clear htab
  go_enter Tryd.func85, Tryd.ntmps85
  go_wp2_with fail
  refine (pow2_two _).mono ?_
  rintro e w' ⟨rfl, rfl⟩
  go_wp2_with fail
  refine (tz_two _ (tab_below HT.out ((Below.refl _ _).alloc (Nat.le_refl _) _))).mono ?_
  rintro e w' ⟨rfl, rfl⟩
  go_wp2_with fail
  go_loopw [1, 13] (fun u i wr => ∃ (m : Nat) (S : List UInt8) (arr : Array Value), u = .int .u64 m ∧ i = .int .i64 (65 - (S.length : Int)) ∧ m < 2 ^ (60 - S.length) ∧ S.length ≤ 60 ∧ Hid (binL n = binL m ++ S) ∧ arr.size = 65 ∧ Hid (∀ t (h : t < S.length), arr[65 - S.length + t]? = some (.int .u8 (S[t].toNat : Int))) ∧ wr = w.alloc (.cells arr 113)) (fun u _ _ => (intOf u).toNat)
  case atStart => exact ⟨n, [], Tryd.zeroCells113, rfl, rfl, hn, by simp, by simp [Hid], by kernel_rfl, fun t h => absurd h (by simp), rfl⟩
  case round =>
    obtain ⟨m, S, arr, rfl, rfl, hm, hS, hbin, hsz, harr, rfl⟩ := hrel
    by_cases c : 2 ≤ m
    · have c' : (2 : Int) ≤ m := by omega
      have hS58 : S.length ≤ 58 := by
        rcases Nat.lt_or_ge S.length 59 with h | h
        · omega
        · have : 60 - S.length ≤ 1 := by omega
          have := Nat.pow_le_pow_right (show 0 < 2 by omega) this
          omega
      obtain ⟨p, hp⟩ : ∃ p : Nat, 65 - (S.length : Int) - 1 = (p : Int) := ⟨64 - S.length, by omega⟩
      have hwi : IntKind.i64.wrap (65 - (S.length : Int) - 1) = (p : Int) := by rw [hp]; exact IntWalk.i64_in _ (by omega)
      have hp65 : p < 65 := by omega
      have hpa : p < arr.size := by omega
      have hpi : (p : Int) < 65 := by omega
      have HP := Lib.hid hp
      obtain ⟨d, hd⟩ : ∃ d : Nat, m % 2 = d := ⟨_, rfl⟩
      have hd2 : d = 0 ∨ d = 1 := by omega
      have hand : bits BinOp.and IntKind.u64 (m : Int) 1 = (d : Int) := by rw [and_one_u64 _ (by omega) (by have := Nat.pow_le_pow_right (show 0 < 2 by omega) (show 60 - S.length ≤ 60 by omega); omega)]; omega
      have Hd := Lib.hid hd
      clear hp hd
      have hmp : m < 2 ^ (60 - S.length - 1) * 2 := by
        have e : 60 - S.length = (60 - S.length - 1) + 1 := by omega
        rw [e, Nat.pow_succ] at hm; exact hm
      have Hmp := Lib.hid hmp
      have Hsz := Lib.hid hsz
      have HS58 := Lib.hid hS58
      clear hmp hm
      rcases hd2 with rfl | rfl
      all_goals
        go_wp2_with fail
        have hp' := HP.out
        have hL := HS58.out
        have hz := Hsz.out
        refine ⟨⟨m / 2, UInt8.ofNat (48 + m % 2) :: S, arr.setIfInBounds p (.int .u8 ((UInt8.ofNat (48 + m % 2)).toNat : Int)), ?_, ?_, ?_, ?_, ?_, ?_, ?_, ?_⟩, ?_⟩
        · rw [show ((m / 2 : Nat) : Int) = (m : Int) / 2 by omega]
        · simp only [List.length_cons]; congr 1; omega
        · have := Hmp.out
          simp only [List.length_cons]
          rw [show 60 - (S.length + 1) = 60 - S.length - 1 by omega]; omega
        · simp only [List.length_cons]; omega
        · show binL n = _
          rw [hbin.out, binL_ge (show ¬ m < 2 by omega)]; simp
        · simp [hz]
        · intro t ht
          simp only [List.length_cons] at ht ⊢
          cases t with
          | zero =>
            rw [show 65 - (S.length + 1) + 0 = p by omega, Array.getElem?_setIfInBounds_self_of_lt (by omega)]
            simp
          | succ t =>
            rw [show 65 - (S.length + 1) + (t + 1) = 65 - S.length + t by omega, Array.getElem?_setIfInBounds_ne (by omega), harr.out t (by omega)]
            simp
        · rw [Hd.out]; rfl
        · simp [intOf]; omega
    · have hbm : binL m = [UInt8.ofNat (48 + m)] := binL_lt (by omega)
      have c' : ¬ ((2 : Int) ≤ m) := by omega
      obtain ⟨p, hp⟩ : ∃ p : Nat, 65 - (S.length : Int) - 1 = (p : Int) := ⟨64 - S.length, by omega⟩
      have hwi : IntKind.i64.wrap (65 - (S.length : Int) - 1) = (p : Int) := by rw [hp]; exact IntWalk.i64_in _ (by omega)
      have hp65 : p < 65 := by omega
      have hp65' : p ≤ 65 := by omega
      have hpa : p < arr.size := by omega
      have hpi : (p : Int) < 65 := by omega
      have hpi' : (p : Int) ≤ 65 := by omega
      have HP := Lib.hid hp
      have Hsz := Lib.hid hsz
      have Hbm := Lib.hid hbm
      have hm2 : m = 0 ∨ m = 1 := by omega
      clear hp hm hbm
      rcases hm2 with rfl | rfl
      all_goals
        go_wp2_with fail
        have hp' := HP.out
        have hz := Hsz.out
      · rw [convL (UInt8.ofNat (48 + 0) :: S) w.heap.size p _ _ _ (by simp only [List.length_cons]; omega) ?_]
        · go_wp2_with fail
          go_ret2
          refine ⟨?_, (by repeat (first | exact Below.refl _ _ | (refine Below.alloc ?_ (by first | omega | (simp; done) | (simp; omega)) _) | refine below_drewN ?_ _ | refine Below.drew ?_))⟩
          rw [hbin.out, Hbm.out]; rfl
        · intro t ht
          simp only [List.length_cons] at ht
          rw [World.cell?_alloc_mark]
          cases t with
          | zero => exact Array.getElem?_setIfInBounds_self_of_lt (by omega)
          | succ t => rw [Array.getElem?_setIfInBounds_ne (by omega), show p + (t + 1) = 65 - S.length + t by omega, harr.out t (by omega)]; rfl
      · rw [convL (UInt8.ofNat (48 + 1) :: S) w.heap.size p _ _ _ (by simp only [List.length_cons]; omega) ?_]
        · go_wp2_with fail
          go_ret2
          refine ⟨?_, (by repeat (first | exact Below.refl _ _ | (refine Below.alloc ?_ (by first | omega | (simp; done) | (simp; omega)) _) | refine below_drewN ?_ _ | refine Below.drew ?_))⟩
          rw [hbin.out, Hbm.out]; rfl
        · intro t ht
          simp only [List.length_cons] at ht
          rw [World.cell?_alloc_mark]
          cases t with
          | zero => exact Array.getElem?_setIfInBounds_self_of_lt (by omega)
          | succ t => rw [Array.getElem?_setIfInBounds_ne (by omega), show p + (t + 1) = 65 - S.length + t by omega, harr.out t (by omega)]; rfl

set_option maxRecDepth 100000 in
theorem formatIntI_two (n : Nat) (hn : n < 1152921504606846976) (w : World) (htab : Lib.TabIs Tryd.prog w "math/bits.deBruijn64tab" .u8 deB64) :
    Calls Tryd.prog 78 #[.int .i64 n, .int .i64 2] w fun e w' => e = .returned (.string ⟨(binL n).toArray⟩) ∧ Below w.heap.size w w' := by
  have HT := Lib.hid htab
  have hw : IntKind.u64.wrap (n : Int) = (n : Int) := IntWalk.u64_in _ (by omega)
  have h0 : ¬ ((n : Int) < 0) := by omega
  clear htab
  go_enter Tryd.func78, Tryd.ntmps78
  go_wp2_with fail
  refine (formatBits_two n hn _ HT.out).mono ?_
  rintro e w1 ⟨rfl, hb1⟩
  go_wp2_with fail
  go_ret
  exact ⟨rfl, hb1⟩
theorem formatInt_two (n : Nat) (hn : n < 1152921504606846976) (w : World) (htab : Lib.TabIs Tryd.prog w "math/bits.deBruijn64tab" .u8 deB64) :
    Calls Tryd.prog 55 #[.int .i64 n, .int .i64 2] w fun e w' => e = .returned (.string ⟨(binL n).toArray⟩) ∧ Below w.heap.size w w' := by
  have HT := Lib.hid htab
  clear htab
  go_enter Tryd.func55, Tryd.ntmps55
  go_wp2_with fail
  refine (formatIntI_two n hn _ HT.out).mono ?_
  rintro e w1 ⟨rfl, hb1⟩
  go_wp2_with fail
  go_ret
  exact ⟨rfl, hb1⟩
end Go.Proofs.YtagpjommhoedlaaDoor

namespace Go.Proofs.YtagpjommhoedlaaDoor
open Go.RowKit

/-- An iterator over a string lies in a block. -/
def Iter (W : World) (K : Nat) (s : ByteArray) (pos : Nat) : Prop := W.heap[K]? = some (.stringIter s pos)
theorem Iter.lt {W : World} {K : Nat} {s : ByteArray} {pos : Nat} (h : Iter W K s pos) : K < W.heap.size := (Array.getElem?_eq_some_iff.1 h).1
theorem Iter.up {w w' : World} {K N : Nat} {s : ByteArray} {pos : Nat} (h : Iter w K s pos) (hb : Below N w w') (hlt : K < N) : Iter w' K s pos := (hb.block K hlt).trans h
theorem Iter.not_row {w : World} {K : Nat} {s : ByteArray} {pos : Nat} (h : Iter w K s pos) {base e sz n : Nat} {v : Value} {xs : List Value} (own : w.ownsRow base e sz v n xs) : some K ≠ v.ownBlock := by
  intro he
  rcases own.2 with ⟨hn, _⟩ | ⟨g, cap, cur, rfl, hb, hgg, rest⟩
  · rw [hn] at he; cases he
  · have : g = K := by
      have : some g = some K := he.symm ▸ rfl
      injection this
    subst this
    rw [h] at hgg; cases hgg
theorem Iter.grown {w w' : World} {K base e sz n : Nat} {s : ByteArray} {pos : Nat} {v : Value} {xs : List Value} {o : Obj} (h : Iter w K s pos) (own : w.ownsRow base e sz v n xs) (hg : (w.alloc o).grownBy w' v.ownBlock) : Iter w' K s pos := by
  have h1 : Iter (w.alloc o) K s pos := h.up ((Below.refl w.heap.size w).alloc (Nat.le_refl _) o) h.lt
  exact (hg.block K h1.lt (h.not_row own)).trans h1
theorem Iter.set {w : World} {K B : Nat} {s : ByteArray} {pos : Nat} (h : Iter w K s pos) (hne : K ≠ B) (v : Value) : Iter (w.setCell ⟨B, 0, none⟩ v) K s pos := (heap_setCell_other w ⟨B, 0, none⟩ K v hne).trans h

/-- One digit of the number of times. -/
def powStep (root : Int) (L : List GRule) (d : UInt8) : List GRule := L ++ [pairR ((L.length : Int) - 1) ((L.length : Int) - 1)] ++ (if d = 49 then [pairR (L.length : Int) root] else [])
def powG (xs : List GRule) (n : Nat) : List GRule := if n = 0 ∨ xs.length = 0 then [] else (binL n).tail.foldl (powStep ((xs.length : Int) - 1)) xs
theorem binL_len (n : Nat) : ∀ k, n < 2 ^ k → 1 ≤ k → (binL n).length ≤ k := by
  induction n using Nat.strongRecOn with
  | ind n ih =>
    intro k hk h1
    by_cases c : n < 2
    · rw [binL_lt c]; simpa using h1
    · rw [binL_ge c, List.length_append]
      have hk2 : 2 ≤ k := by
        rcases Nat.lt_or_ge k 2 with h | h
        · have : k = 1 := by omega
          subst this; simp at hk; omega
        · exact h
      obtain ⟨j, rfl⟩ : ∃ j, k = j + 1 := ⟨k - 1, by omega⟩
      rw [Nat.pow_succ] at hk
      have := ih (n / 2) (by omega) j (by omega) (by omega)
      simp; omega
theorem binL_dig (n : Nat) : ∀ d ∈ binL n, d = 48 ∨ d = 49 := by
  induction n using Nat.strongRecOn with
  | ind n ih =>
    by_cases c : n < 2
    · rw [binL_lt c]
      intro d hd
      have : d = UInt8.ofNat (48 + n) := by simpa using hd
      have h2 : n = 0 ∨ n = 1 := by omega
      rcases h2 with rfl | rfl
      · left; rw [this]; rfl
      · right; rw [this]; rfl
    · rw [binL_ge c]
      intro d hd
      rcases List.mem_append.1 hd with h | h
      · exact ih (n / 2) (by omega) d h
      · have : d = UInt8.ofNat (48 + n % 2) := by simpa using h
        have h2 : n % 2 = 0 ∨ n % 2 = 1 := by omega
        rcases h2 with e | e
        · left; rw [this, e]; rfl
        · right; rw [this, e]; rfl
theorem binL_pos (n : Nat) : 1 ≤ (binL n).length := by
  by_cases c : n < 2
  · rw [binL_lt c]; simp
  · rw [binL_ge c]; simp
theorem powStep_len (root : Int) (L : List GRule) (d : UInt8) : (powStep root L d).length ≤ L.length + 2 := by
  unfold powStep; split <;> simp
theorem powFold_len (root : Int) : ∀ (ds : List UInt8) (L : List GRule), (ds.foldl (powStep root) L).length ≤ L.length + 2 * ds.length := by
  intro ds
  induction ds with
  | nil => intro L; simp
  | cons d ds ih =>
    intro L
    have h1 := ih (powStep root L d)
    have h2 := powStep_len root L d
    simp only [List.foldl_cons, List.length_cons]
    omega

theorem SlS.drew1 {α : Type} {E : Enc α} {w : World} {v : Value} {xs : List α} (h : Sl E w w.heap.size v xs) : Sl E w.drew w.drew.heap.size v xs := h.keep fun _ _ => rfl
set_option maxRecDepth 100000 in
set_option maxHeartbeats 4000000 in
theorem power_any (v : Value) (xs : List GRule) (n : Nat) (w : World) (h : Sl RuleE w w.heap.size v xs) (hn : xs.length ≤ 1048576) (ht : n < 1152921504606846976) (htab : Lib.TabIs Tryd.prog w "math/bits.deBruijn64tab" .u8 deB64) :
    Calls Tryd.prog 27 #[.agg #[v], .int .i64 n] w (GOwn (powG xs n) w) := by
  have h1 := fun o o' => (h.below (((Below.refl w.heap.size w).alloc (Nat.le_refl _) o).alloc (by simp) o')).le (B' := ((w.alloc o).alloc o').heap.size) (by simp; omega)
  have H1 := Lib.hid h1
  have HT := Lib.hid htab
  clear h1 htab
  obtain ⟨A, c, rfl, hc, hm, hrow⟩ := h
  clear hm hrow
  by_cases h0 : n = 0 ∨ xs.length = 0
  · have hg : powG xs n = [] := by rw [powG, if_pos h0]
    have Hg := Lib.hid hg
    clear hg
    by_cases hz : n = 0
    · subst hz
      clear h0
      go_enter Tryd.func27, Tryd.ntmps27
      go_wp2_with fail
      refine bodyPost_ret (v := .agg #[.slice none 0 0]) (by simp [results, Tryd.results27, go_sem]) rfl ⟨(by repeat (first | exact Below.refl _ _ | (refine Below.alloc ?_ (by first | omega | (simp; done) | (simp; omega)) _) | refine below_drewN ?_ _ | refine Below.drew ?_)), _, by rw [Hg.out]; exact World.ownsRow_nil _ _ _ _, rfl⟩
    · have hx : xs.length = 0 := by omega
      have g0 : ((n : Int) == 0) = false := by rw [beq_eq_false_iff_ne]; omega
      have g1 : ((xs.length : Int) == 0) = true := by simp [hx]
      clear h0 hx
      go_enter Tryd.func27, Tryd.ntmps27
      go_wp2_with fail
      refine bodyPost_ret (v := .agg #[.slice none 0 0]) (by simp [results, Tryd.results27, go_sem]) rfl ⟨(by repeat (first | exact Below.refl _ _ | (refine Below.alloc ?_ (by first | omega | (simp; done) | (simp; omega)) _) | refine below_drewN ?_ _ | refine Below.drew ?_)), _, by rw [Hg.out]; exact World.ownsRow_nil _ _ _ _, rfl⟩
  · have hg : powG xs n = (binL n).tail.foldl (powStep ((xs.length : Int) - 1)) xs := by rw [powG, if_neg h0]
    have Hg := Lib.hid hg
    have g0 : ((n : Int) == 0) = false := by rw [beq_eq_false_iff_ne]; omega
    have g1 : ((xs.length : Int) == 0) = false := by rw [beq_eq_false_iff_ne]; omega
    have hwx : IntKind.i64.wrap ((xs.length : Int) - 1) = (xs.length : Int) - 1 := IntWalk.i64_in _ (by omega)
    clear hg
    go_enter Tryd.func27, Tryd.ntmps27
    have hW0 : ∃ w0, w0 = (w.alloc (Obj.cells #[Value.slice A xs.length c] 26)).alloc (Obj.cells #[Value.slice none 0 0] 26) := ⟨_, rfl⟩
    obtain ⟨w0, hw0⟩ := hW0
    have HW0 := Lib.hid hw0
    have hs0 : w0.heap.size = w.heap.size + 2 := by rw [hw0]; simp
    have hB0 : Below w.heap.size w w0 := by rw [hw0]; exact (by repeat (first | exact Below.refl _ _ | (refine Below.alloc ?_ (by first | omega | (simp; done) | (simp; omega)) _) | refine below_drewN ?_ _ | refine Below.drew ?_))
    have hS0 : Sl RuleE w0 w0.heap.size (Value.slice A xs.length c) xs := by rw [hw0]; exact H1.out _ _
    have x0 : w0.cell? ⟨w.heap.size, 0, none⟩ = some (.slice A xs.length c) := by rw [hw0]; simp [go_sem]
    have y0 : w0.cell? ⟨w.heap.size + 1, 0, none⟩ = some (.slice none 0 0) := by rw [hw0]; simp [go_sem]
    have f0 : w0.frozen? ⟨w.heap.size + 1, 0, none⟩ = false := by rw [hw0]; simp [go_sem]
    have X0 := Lib.hid x0
    have Y0 := Lib.hid y0
    have F0 := Lib.hid f0
    have HB0 := Lib.hid hB0
    have cB : Calls Tryd.prog 51 #[.agg #[.slice A xs.length c]] w0.drew fun e w' => ∃ A1 c1, e = .returned (.agg #[.slice A1 xs.length c1]) ∧ OwnRules w' w0.heap.size (.slice A1 xs.length c1) xs ∧ Below w0.heap.size w0 w' :=
      (copied_any _ xs w0.drew (hS0.up (Below.drew (Below.refl _ _))) (by omega)).mono fun e w' ⟨v', h1, h2, h3⟩ => by
        obtain ⟨A1, c1, rfl, _⟩ := own_nil h2
        exact ⟨A1, c1, h1, h2, (Below.drew (Below.refl w0.heap.size w0)).trans h3⟩
    have cA : ∀ o, Calls Tryd.prog 51 #[.agg #[.slice A xs.length c]] (w0.alloc o).drew fun e w' => (∃ A1 c1, e = .returned (.agg #[.slice A1 xs.length c1]) ∧ OwnRules w' w0.heap.size (.slice A1 xs.length c1) xs ∧ Below w0.heap.size w0 w') ∧ w'.heap[w0.heap.size]? = some o :=
      fun o => (copied_any _ xs (w0.alloc o).drew ((hS0.up ((Below.refl _ _).alloc (Nat.le_refl _) o)).drew1) (by omega)).mono fun e w' ⟨v', h1, h2, h3⟩ => by
        obtain ⟨A1, c1, rfl, _⟩ := own_nil h2
        have hsz : w0.heap.size < (w0.alloc o).drew.heap.size := by show w0.heap.size < (w0.alloc o).heap.size; simp
        exact ⟨⟨A1, c1, h1, ownsRow_more h2 (Nat.le_of_lt hsz), (Below.drew ((Below.refl w0.heap.size w0).alloc (Nat.le_refl _) o)).trans (h3.mono (Nat.le_of_lt hsz))⟩, (h3.block w0.heap.size hsz).trans (alloc_heap_last _ _)⟩
    have CA := Lib.hid cA
    have CB := Lib.hid cB
    have Hs0 := Lib.hid hs0
    clear cA cB hB0 hS0 hw0 x0 y0 f0 hs0
    go_upto_region 3 with fail
    rw [← HW0.out]
    clear HW0
    go_cut [5, 6] (fun p q wx => ∃ (K : Nat) (vo : Value), p = .pointer (some ⟨K, 0, none⟩) ∧ q = .int .i64 ((xs.length : Int) - 1) ∧ w0.heap.size ≤ K ∧ Boxed wx K 26 vo ∧ OwnRules wx w0.heap.size vo xs ∧ Below w0.heap.size w0 wx)
    case first =>
      have x0 := X0.out
      have z0 : w.heap.size < w0.heap.size := by have := Hs0.out; omega
      go_region_law (go_simp; go_at_call 51; first
          | ((with_reducible refine (CA.out _).mono ?_); rintro e w1 ⟨⟨A1, c1, rfl, own1, hb1⟩, bx1⟩; have bxB : Boxed w1 w0.heap.size 26 (.slice none 0 0) := bx1; have hcb := bxB.cell; have hfb := bxB.frozen; have hlb := bxB.lt; have xx1 := (hb1.cell (p := ⟨w.heap.size, 0, none⟩) z0).trans X0.out; have zz1 := Nat.lt_of_lt_of_le z0 hb1.size)
          | ((with_reducible refine CB.out.mono ?_); rintro e w1 ⟨A1, c1, rfl, own1, hb1⟩; have xx1 := (hb1.cell (p := ⟨w.heap.size, 0, none⟩) z0).trans X0.out; have zz1 := Nat.lt_of_lt_of_le z0 hb1.size))
      all_goals
        go_wp2_with fail
        go_meet
        first
          | exact ⟨_, _, rfl, rfl, hb1.size, Boxed.new _ _ _, own1.alloc _, hb1.alloc hb1.size _⟩
          | exact ⟨_, _, rfl, rfl, Nat.le_refl _, Boxed.set _ bxB, ownsRow_setCell_other (a := ⟨w0.heap.size, 0, none⟩) own1 (bxB.not_row (by decide) own1).symm _, hb1.setCell (Nat.le_refl _) _⟩
    case rest =>
      revert hcut
      generalize wc = w1
      intro hcut
      obtain ⟨K, vo, rfl, rfl, hK, bx1, own1, hb1⟩ := hcut
      have hKl := bx1.lt
      have hxt := binL_len n 60 ht (by omega)
      have HT1 := Lib.hid (tab_below HT.out (HB0.out.trans (hb1.mono HB0.out.size)))
      go_wp2_with fail
      refine (formatInt_two n ht _ HT1.out).mono ?_
      rintro e w2 ⟨rfl, hb2⟩
      have bx2 := Boxed.up bx1 hb2 hKl
      have own2 : OwnRules w2 w0.heap.size vo xs := OwnRules.below own1 hb2
      have B2 := Lib.hid (hb1.trans (hb2.mono hb1.size))
      clear hb1 hb2 bx1 own1
      obtain ⟨BL, hBL⟩ : ∃ BL, binL n = BL := ⟨_, rfl⟩
      have hB1 : 1 ≤ BL.length := by rw [← hBL]; exact binL_pos n
      have hB60 : BL.length ≤ 60 := by rw [← hBL]; exact hxt
      have hdig : ∀ d ∈ BL, d = 48 ∨ d = 49 := by rw [← hBL]; exact binL_dig n
      have HBL := Lib.hid hBL
      rw [hBL]
      clear hBL
      obtain ⟨d0, ds, rfl⟩ : ∃ d0 ds, BL = d0 :: ds := by
        cases BL with
        | nil => simp at hB1
        | cons a l => exact ⟨a, l, rfl⟩
      have Hdig := Lib.hid hdig
      clear hdig hxt
      go_wp2_with fail
      have hex : (⟨(d0 :: ds).toArray⟩ : ByteArray).extract 1 (ds.length + 1) = ⟨ds.toArray⟩ := by
        apply ByteArray.ext
        simp [ByteArray.data_extract]
      rw [hex]
      clear hex
      have hit : Iter (w2.iter ⟨ds.toArray⟩ 0) w2.heap.size ⟨ds.toArray⟩ 0 := World.iter_heap _ _ _
      have hb3 : Below w2.heap.size w2 (w2.iter ⟨ds.toArray⟩ 0) := (Below.refl _ _).alloc (Nat.le_refl _) _
      have bx3 := Boxed.up bx2 hb3 bx2.lt
      have own3 : OwnRules (w2.iter ⟨ds.toArray⟩ 0) w0.heap.size vo xs := OwnRules.below own2 hb3
      have hK2 : K < w2.heap.size := bx2.lt
      have B3 := Lib.hid (B2.out.trans (hb3.mono B2.out.size))
      have hw02 : w0.heap.size ≤ w2.heap.size := B2.out.size
      clear hb3 bx2 own2
      revert hit bx3 own3 B3
      generalize w2.iter ⟨ds.toArray⟩ 0 = w3
      intro hit bx3 own3 B3
      obtain ⟨I, hI⟩ : ∃ I, w2.heap.size = I := ⟨_, rfl⟩
      rw [hI] at hit hK2 hw02
      rw [hI]
      clear hI
      have hdl : ds.length ≤ 60 := by simp at hB60; omega
      go_loopw [9] (fun q wr => ∃ (k : Nat) (vo : Value), k ≤ ds.length ∧ Iter wr I ⟨ds.toArray⟩ k ∧ Boxed wr K 26 vo ∧ OwnRules wr w0.heap.size vo ((ds.take k).foldl (powStep ((xs.length : Int) - 1)) xs) ∧ Below w0.heap.size w0 wr) (fun _ wr => ds.length - (match wr.heap[I]? with | some (.stringIter _ p) => p | _ => 0))
      case atStart => exact ⟨0, vo, Nat.zero_le _, hit, bx3, by simpa using own3, B3.out⟩
      case round =>
        obtain ⟨k, vo, hk, hit, hbox, hown, hb⟩ := hrel
        have Hb := Lib.hid hb
        have Hown := Lib.hid hown
        have Hbox := Lib.hid hbox
        have Hit := Lib.hid hit
        have hll := powFold_len ((xs.length : Int) - 1) (ds.take k) xs
        obtain ⟨L, hL⟩ : ∃ L, (ds.take k).foldl (powStep ((xs.length : Int) - 1)) xs = L := ⟨_, rfl⟩
        have HL := Lib.hid hL
        have hlen : L.length ≤ 2000000 := by rw [← hL]; simp at hll; omega
        rw [hL] at Hown
        clear hb hown hbox hit hll hL
        by_cases hlt : k < ds.length
        · have Hlt := Lib.hid hlt
          have hsz : k < (⟨ds.toArray⟩ : ByteArray).size := by show k < ds.toArray.size; simpa using hlt
          have hdk : (⟨ds.toArray⟩ : ByteArray)[k]'hsz = ds[k] := rfl
          have hd := Hdig.out ds[k] (by simp)
          have hnx := fun ty => Lib.run_next_ascii_at (P := Tryd.prog) wr I ⟨ds.toArray⟩ k ty Hit.out hsz (by rw [hdk]; rcases hd with h | h <;> rw [h] <;> decide)
          rw [hdk] at hnx
          have hii := Lib.iterAt_heap wr I ⟨ds.toArray⟩ k (k + 1) Hit.out
          have hio := fun j hj => Lib.iterAt_other wr I j ⟨ds.toArray⟩ (k + 1) hj
          have his := Lib.iterAt_size wr I ⟨ds.toArray⟩ (k + 1)
          have hbi := Lib.below_iterAt Hb.out (k := I) hw02 ⟨ds.toArray⟩ (k + 1)
          obtain ⟨wi, hwi⟩ : ∃ wi, wr.iterAt I ⟨ds.toArray⟩ (k + 1) = wi := ⟨_, rfl⟩
          simp only [hwi] at hnx hii hio his hbi
          have Bi := Lib.hid hbi
          have Iti := Lib.hid (show Iter wi I ⟨ds.toArray⟩ (k + 1) from hii)
          have Bxi := Lib.hid (show Boxed wi K 26 vo from (hio K (by omega)).trans Hbox.out)
          have Owi := Lib.hid (show OwnRules wi w0.heap.size vo L from own_keep Hown.out fun g hg => hio g fun e => by
            have := Hit.out.not_row Hown.out
            rw [hg, e] at this; exact this rfl)
          obtain ⟨D, hD⟩ : ∃ D, ds[k] = D := ⟨_, rfl⟩
          rw [hD] at hnx hd
          have HD := Lib.hid hD
          obtain ⟨Ao, co, rfl, _⟩ := own_nil Owi.out
          have bxc := Bxi.out.cell
          have bxf := Bxi.out.frozen
          clear hwi hii hio his hbi hdk hD
          have hw1 : IntKind.i64.wrap ((L.length : Int) - 1) = (L.length : Int) - 1 := IntWalk.i64_in _ (by omega)
          have Hll : Hid (L.length ≤ 1099511627775) := by rw [Hid]; omega
          have Hw0 := Lib.hid (show w0.heap.size ≤ wi.heap.size from Bi.out.size)
          have HKw := Lib.hid (show K < wi.heap.size from Bxi.out.lt)
          have HIw := Lib.hid (show I < wi.heap.size from Iti.out.lt)
          have Hlen := Lib.hid hlen
          clear hlen
          go_upto_region 8 with fail
          go_cut [9] from 29 to 54 (fun q wx => q = .int .i64 L.length ∧ ∃ vo : Value, Iter wx I ⟨ds.toArray⟩ (k + 1) ∧ Boxed wx K 26 vo ∧ OwnRules wx w0.heap.size vo (L ++ [pairR ((L.length : Int) - 1) ((L.length : Int) - 1)]) ∧ Below w0.heap.size w0 wx)
          case first =>
            go_region_law (first
              | (refine step_push_rule (base := w0.heap.size) (by rfl) _ _ (by rfl) (by rfl) (by first | rfl | simp) rfl (OwnRules.below Owi.out.drew hb2) Hll hs2 ?_; intro v3 w3 own3 hg3 hb3; have bx4 : Boxed w3 K 26 _ := Boxed.grown (Boxed.up (Boxed.mk' Bxi.out) hb2 HKw.out) (by decide) (OwnRules.below Owi.out.drew hb2) hg3; have it4 : Iter w3 I ⟨ds.toArray⟩ (k + 1) := Iter.grown (Iter.up (w := wi.drew) Iti.out hb2 HIw.out) (OwnRules.below Owi.out.drew hb2) hg3; obtain ⟨A3, c3, rfl, _⟩ := own_nil own3; have hcb3 := bx4.cell; have hfb3 := bx4.frozen; have hlb3 := bx4.lt)
              | (go_simp; go_at_call 54; refine (pairInt_any _ _ _).mono ?_; rintro e w4 ⟨rfl, hb2⟩; have bx2 := Boxed.up (Boxed.mk' Bxi.out) hb2 HKw.out; have hcb2 := bx2.cell; have hfb2 := bx2.frozen; have hlb2 := bx2.lt; have hs2 : w0.heap.size ≤ w4.heap.size := Nat.le_trans Hw0.out hb2.size))
            all_goals
              go_wp2_with fail
              go_meet
              try rw [hw1] at own3
              have e9 : (L ++ [pairR ((L.length : Int) - 1) ((L.length : Int) - 1)]).length = L.length + 1 := by simp
              have own9 : OwnRules w3 w0.heap.size (.slice A3 (L.length + 1) c3) (L ++ [pairR ((L.length : Int) - 1) ((L.length : Int) - 1)]) := by rw [← e9]; exact own3
              refine ⟨rfl, _, it4.set (by omega) _, Boxed.set _ bx4, ownsRow_setCell_other (a := ⟨K, 0, none⟩) own9 (bx4.not_row (by decide) own9).symm _, ?_⟩
              exact ((((Below.drew Bi.out).trans (hb2.mono Hw0.out)).alloc hs2 _).trans hb3).setCell hK _
          case rest =>
            revert hcut
            generalize wc = w5
            intro hcut
            obtain ⟨rfl, vo5, it5, bx5, own5, b5⟩ := hcut
            have It5 := Lib.hid it5
            have Bx5 := Lib.hid bx5
            have B5 := Lib.hid b5
            obtain ⟨M, hM⟩ : ∃ M, L ++ [pairR ((L.length : Int) - 1) ((L.length : Int) - 1)] = M := ⟨_, rfl⟩
            rw [hM] at own5
            have hMl : M.length = L.length + 1 := by rw [← hM]; simp
            have HM := Lib.hid hM
            have Ow5 := Lib.hid own5
            obtain ⟨A5, c5, rfl, _⟩ := own_nil own5
            have bxc5 := bx5.cell
            have bxf5 := bx5.frozen
            clear hM it5 bx5 b5 own5
            have Hstep : Hid ((ds.take (k + 1)).foldl (powStep ((xs.length : Int) - 1)) xs = powStep ((xs.length : Int) - 1) L D) := by
              rw [Hid, List.take_add_one, List.getElem?_eq_getElem hlt, List.foldl_append, HL.out, HD.out]; rfl
            rcases hd with rfl | rfl
            · go_wp2_with fail
              have e : powStep ((xs.length : Int) - 1) L 48 = M := by rw [← HM.out]; simp [powStep]
              refine ⟨⟨k + 1, _, by omega, It5.out, Bx5.out, ?_, B5.out⟩, ?_⟩
              · rw [Hstep.out, e]; exact Ow5.out
              · have i1 : w5.heap[I]? = some (.stringIter ⟨ds.toArray⟩ (k + 1)) := It5.out
                have i2 : wr.heap[I]? = some (.stringIter ⟨ds.toArray⟩ k) := Hit.out
                rw [i1, i2]
                show ds.length - (k + 1) < ds.length - k
                have := Hlt.out; omega
            · have Hw5 := Lib.hid (show w0.heap.size ≤ w5.heap.size from B5.out.size)
              have HK5 := Lib.hid (show K < w5.heap.size from Bx5.out.lt)
              have HI5 := Lib.hid (show I < w5.heap.size from It5.out.lt)
              have Hml : Hid (M.length ≤ 1099511627775) := by rw [Hid]; have := Hlen.out; omega
              have HMl := Lib.hid hMl
              clear hMl
              go_wp2_with fail
              go_region_law (first
                | (refine step_push_rule (base := w0.heap.size) (by rfl) _ _ (by rfl) (by rfl) (by first | rfl | simp) rfl (OwnRules.below Ow5.out.drew hb6) Hml hs6 ?_; intro v7 w7 own7 hg7 hb7; have bx7 : Boxed w7 K 26 _ := Boxed.grown (Boxed.up (Boxed.mk' Bx5.out) hb6 HK5.out) (by decide) (OwnRules.below Ow5.out.drew hb6) hg7; have it7 : Iter w7 I ⟨ds.toArray⟩ (k + 1) := Iter.grown (Iter.up (w := w5.drew) It5.out hb6 HI5.out) (OwnRules.below Ow5.out.drew hb6) hg7; obtain ⟨A7, c7, rfl, _⟩ := own_nil own7; have hcb7 := bx7.cell; have hfb7 := bx7.frozen; have hlb7 := bx7.lt)
                | (go_simp; go_at_call 54; refine (pairInt_any _ _ _).mono ?_; rintro e w6 ⟨rfl, hb6⟩; have bx6 := Boxed.up (Boxed.mk' Bx5.out) hb6 HK5.out; have hcb6 := bx6.cell; have hfb6 := bx6.frozen; have hlb6 := bx6.lt; have hs6 : w0.heap.size ≤ w6.heap.size := Nat.le_trans Hw5.out hb6.size))
              all_goals
                go_wp2_with fail
                have e : powStep ((xs.length : Int) - 1) L 49 = M ++ [pairR (L.length : Int) ((xs.length : Int) - 1)] := by rw [← HM.out]; simp [powStep]
                have e9 : (M ++ [pairR (L.length : Int) ((xs.length : Int) - 1)]).length = M.length + 1 := by simp
                have own9 : OwnRules w7 w0.heap.size (.slice A7 (M.length + 1) c7) (M ++ [pairR (L.length : Int) ((xs.length : Int) - 1)]) := by rw [← e9]; exact own7
                have it9 := it7.set (B := K) (by omega) (.slice A7 (M.length + 1) c7)
                refine ⟨⟨k + 1, _, by have := Hlt.out; omega, it9, Boxed.set _ bx7, ?_, ?_⟩, ?_⟩
                · rw [Hstep.out, e]; exact ownsRow_setCell_other (a := ⟨K, 0, none⟩) own9 (bx7.not_row (by decide) own9).symm _
                · exact ((((Below.drew B5.out).trans (hb6.mono Hw5.out)).alloc hs6 _).trans hb7).setCell hK _
                · have i1 : (w7.setCell ⟨K, 0, none⟩ (.slice A7 (M.length + 1) c7)).heap[I]? = some (.stringIter ⟨ds.toArray⟩ (k + 1)) := it9
                  have i2 : wr.heap[I]? = some (.stringIter ⟨ds.toArray⟩ k) := Hit.out
                  rw [i1, i2]
                  show ds.length - (k + 1) < ds.length - k
                  have := Hlt.out; omega
        · have hkn : k = ds.length := by omega
          subst hkn
          have hsz : ¬ ds.length < (⟨ds.toArray⟩ : ByteArray).size := by show ¬ ds.length < ds.toArray.size; simp
          have hnx := fun ty => Lib.run_next_end_at (P := Tryd.prog) wr I ⟨ds.toArray⟩ ds.length ty Hit.out hsz
          obtain ⟨Ao, co, rfl, _⟩ := own_nil Hown.out
          have bxc := Hbox.out.cell
          have y0 := (Hb.out.cell (p := ⟨w.heap.size + 1, 0, none⟩) (by have := Hs0.out; show w.heap.size + 1 < _; omega)).trans Y0.out
          have f0 := (Hb.out.frozen (p := ⟨w.heap.size + 1, 0, none⟩) (by have := Hs0.out; show w.heap.size + 1 < _; omega)).trans F0.out
          have HL' : Hid (powG xs n = L) := by rw [Hid, Hg.out, HBL.out, List.tail_cons, ← HL.out, List.take_length]
          clear hlen hlt hsz
          go_wp2_with fail
          refine bodyPost_ret (v := .agg #[.slice Ao L.length co]) (by simp [results, Tryd.results27, go_sem, y0]) rfl ⟨?_, _, ?_, rfl⟩
          · exact (HB0.out.trans (Hb.out.mono HB0.out.size)).setCell (by show w.heap.size ≤ w.heap.size + 1; omega) _
          · rw [HL'.out]
            have h6 := ownsRow_setCell_below (a := ⟨w.heap.size + 1, 0, none⟩) Hown.out (by have := Hs0.out; show w.heap.size + 1 < w0.heap.size; omega) (.slice Ao L.length co)
            exact ownsRow_more h6 HB0.out.size
end Go.Proofs.YtagpjommhoedlaaDoor

namespace Go.Proofs.YtagpjommhoedlaaDoor
open Go.RowKit

/-- The length of the word of a grammar. -/
def gramLen (xs : List GRule) : Int := match lens xs with | some ls => lastI ls | none => 0
theorem gramLen_of {xs : List GRule} {ls : List Int} (h : lens xs = some ls) : gramLen xs = lastI ls := by simp [gramLen, h]
end Go.Proofs.YtagpjommhoedlaaDoor

namespace Go.Proofs.YtagpjommhoedlaaDoor

theorem lens_app (xs ys : List GRule) : lens (xs ++ ys) = ys.foldl lensStep (lens xs) := by simp [lens, List.foldl_append]
/-- Rules that are right are right up to each place. -/
theorem lens_pre {xs ys : List GRule} {l : List Int} (h : lens (xs ++ ys) = some l) : ∃ l1 t, lens xs = some l1 ∧ l = l1 ++ t := by
  rw [lens_app] at h
  cases hx : lens xs with
  | none => rw [hx, lens_none] at h; cases h
  | some l1 =>
    rw [hx] at h
    suffices H : ∀ (ys : List GRule) (a o : List Int), ys.foldl lensStep (some a) = some o → ∃ t, o = a ++ t by
      obtain ⟨t, ht⟩ := H ys l1 l h
      exact ⟨l1, t, rfl, ht⟩
    intro ys
    induction ys with
    | nil => intro a o h; simp at h; exact ⟨[], by simp [h]⟩
    | cons y ys ih =>
      intro a o h
      rw [List.foldl_cons] at h
      cases hs : lensStep (some a) y with
      | none => rw [hs, lens_none] at h; cases h
      | some b =>
        rw [hs] at h
        obtain ⟨t, rfl⟩ := ih b o h
        simp only [lensStep, Option.bind_some] at hs
        split at hs
        · cases hs; exact ⟨_, by rw [List.append_assoc]⟩
        · cases hs
theorem getR_app {xs ys : List GRule} {r : Nat} (h : r < xs.length) : getR (xs ++ ys) r = getR xs r := by
  unfold getR; rw [List.getD_eq_getElem?_getD, List.getElem?_append_left h, List.getD_eq_getElem?_getD]
theorem wordR_app {xs ys : List GRule} {ls : List Int} (h : lens xs = some ls) : ∀ (f r : Nat), r < xs.length → wordR (xs ++ ys) f r = wordR xs f r := by
  intro f
  induction f with
  | zero => intro r _; rfl
  | succ f ih =>
    intro r hr
    rw [wordR, wordR, getR_app hr]
    cases hp : (getR xs r).pair with
    | false => rfl
    | true =>
      obtain ⟨q1, q2, q3, q4, q5⟩ := lens_pair h hr hp
      rw [if_pos rfl, if_pos rfl, ih _ (by omega), ih _ (by omega)]
theorem W1_appL {xs ys : List GRule} {ls : List Int} (h : lens xs = some ls) {r : Nat} (hr : r < xs.length) : W1 (xs ++ ys) r = W1 xs r := wordR_app h _ _ hr
theorem getR_new (xs : List GRule) (x : GRule) : getR (xs ++ [x]) xs.length = x := by
  unfold getR; rw [List.getD_eq_getElem?_getD, List.getElem?_append_right (Nat.le_refl _), Nat.sub_self]; rfl
theorem W1_snoc {xs : List GRule} {l : List Int} {a b : Nat} (h : lens (xs ++ [pairR a b]) = some l) (ha : a < xs.length) (hb : b < xs.length) : W1 (xs ++ [pairR a b]) xs.length = W1 xs a ++ W1 xs b := by
  obtain ⟨l1, t, h1, _⟩ := lens_pre h
  have hp : (getR (xs ++ [pairR a b]) xs.length).pair = true := by rw [getR_new]; exact pairR_pair _ _
  rw [W1_pair h (by simp) hp, getR_new]
  show W1 (xs ++ [pairR a b]) (Int.toNat (a : Int)) ++ W1 (xs ++ [pairR a b]) (Int.toNat (b : Int)) = _
  rw [Int.toNat_natCast, Int.toNat_natCast, W1_appL h1 ha, W1_appL h1 hb]
theorem lens_snoc {xs : List GRule} {ls : List Int} {a b : Nat} (h : lens xs = some ls) (ha : a < xs.length) (hb : b < xs.length) (hm : ls.getD a 0 + ls.getD b 0 ≤ maxL) : lens (xs ++ [pairR a b]) = some (ls ++ [ls.getD a 0 + ls.getD b 0]) := by
  rw [lens_app, h]
  have hl := lens_length h
  have hr : ruleLen ls (pairR a b) = ls.getD a 0 + ls.getD b 0 := by
    unfold ruleLen
    rw [if_pos (pairR_pair _ _)]
    show ls.getD (Int.toNat (a : Int)) 0 + ls.getD (Int.toNat (b : Int)) 0 = _
    rw [Int.toNat_natCast, Int.toNat_natCast]
  simp only [List.foldl_cons, List.foldl_nil, lensStep, Option.bind_some]
  rw [hr, if_pos ⟨okRule_pair ⟨by omega, by omega⟩ ⟨by omega, by omega⟩, hm⟩]
theorem wordG_snoc {xs : List GRule} {x : GRule} : wordG (xs ++ [x]) = W1 (xs ++ [x]) xs.length := by
  rw [wordG_pos (by simp)]; simp
/-! powers -/
def repW (w : List UInt8) (n : Nat) : List UInt8 := (List.replicate n w).flatten
theorem repW_add (w : List UInt8) (m n : Nat) : repW w (m + n) = repW w m ++ repW w n := by
  unfold repW; rw [← List.replicate_append_replicate, List.flatten_append]
theorem repW_one (w : List UInt8) : repW w 1 = w := by simp [repW]
theorem repW_len (w : List UInt8) (n : Nat) : (repW w n).length = n * w.length := by simp [repW]
def digV (m : Nat) (d : UInt8) : Nat := 2 * m + (if d = 49 then 1 else 0)
theorem powStep_pre (root : Int) (L : List GRule) (ds : List UInt8) : ∃ t, ds.foldl (powStep root) L = L ++ t := by
  induction ds generalizing L with
  | nil => exact ⟨[], by simp⟩
  | cons d ds ih =>
    obtain ⟨t, ht⟩ := ih (powStep root L d)
    rw [List.foldl_cons, ht]
    unfold powStep
    exact ⟨_, by simp only [List.append_assoc]; rfl⟩
theorem powFold_word {w : List UInt8} {root : Nat} : ∀ (ds : List UInt8) (L : List GRule) (l : List Int) (m : Nat), lens (ds.foldl (powStep (root : Int)) L) = some l → 0 < L.length → root < L.length → W1 L root = w → wordG L = repW w m →
    wordG (ds.foldl (powStep (root : Int)) L) = repW w (ds.foldl digV m) := by
  intro ds
  induction ds with
  | nil => intro L l m _ _ _ _ h; exact h
  | cons d ds ih =>
    intro L l m hl h0 hr hw hm
    rw [List.foldl_cons] at hl ⊢
    rw [List.foldl_cons]
    obtain ⟨t, ht⟩ := powStep_pre root (powStep root L d) ds
    obtain ⟨l1, _, h1, _⟩ := lens_pre (by rw [← ht]; exact hl)
    have e0 : ((L.length : Int) - 1) = ((L.length - 1 : Nat) : Int) := by omega
    have hS : powStep root L d = (L ++ [pairR ((L.length - 1 : Nat) : Int) ((L.length - 1 : Nat) : Int)]) ++ (if d = 49 then [pairR (L.length : Int) root] else []) := by
      unfold powStep; rw [e0]
    rw [hS] at h1
    obtain ⟨l2, _, h2, _⟩ := lens_pre h1
    obtain ⟨l3, _, h3, _⟩ := lens_pre h2
    have w2 := W1_snoc h2 (by omega) (by omega)
    have hlast : W1 L (L.length - 1) = repW w m := by rw [← hm, wordG_pos h0]
    rw [hlast] at w2
    refine ih _ l _ hl ?_ ?_ ?_ ?_
    · rw [hS]; simp only [List.length_append]; omega
    · rw [hS]; simp only [List.length_append]; omega
    · rw [hS, List.append_assoc, W1_appL h3 hr, hw]
    · rw [hS]
      by_cases hd : d = 49
      · rw [if_pos hd] at h1 ⊢
        have hl2 : (L ++ [pairR ((L.length - 1 : Nat) : Int) ((L.length - 1 : Nat) : Int)]).length = L.length + 1 := by simp
        have w3 := W1_snoc (a := L.length) (b := root) h1 (by omega) (by omega)
        rw [wordG_snoc, w3, w2, W1_appL h3 hr, hw]
        unfold digV
        rw [if_pos hd, Nat.two_mul, repW_add, repW_add, repW_one]
      · rw [if_neg hd, List.append_nil, wordG_snoc, w2]
        unfold digV
        rw [if_neg hd, Nat.two_mul, Nat.add_zero, repW_add]
theorem binL_val (n : Nat) : (binL n).foldl digV 0 = n := by
  induction n using Nat.strongRecOn with
  | ind n ih =>
    by_cases c : n < 2
    · rw [binL_lt c]
      rcases (by omega : n = 0 ∨ n = 1) with rfl | rfl <;> rfl
    · rw [binL_ge c, List.foldl_append, ih (n / 2) (by omega)]
      simp only [List.foldl_cons, List.foldl_nil, digV]
      rcases (by omega : n % 2 = 0 ∨ n % 2 = 1) with h | h
      · rw [h]; simp; omega
      · rw [h]; simp; omega
theorem binL_head (n : Nat) (h : 0 < n) : ∃ t, binL n = 49 :: t := by
  induction n using Nat.strongRecOn with
  | ind n ih =>
    by_cases c : n < 2
    · rw [binL_lt c, show n = 1 by omega]; exact ⟨[], rfl⟩
    · obtain ⟨t, ht⟩ := ih (n / 2) (by omega) (by omega)
      rw [binL_ge c, ht]; exact ⟨_, rfl⟩
/-- The word of a power. -/
theorem powG_word {xs : List GRule} {ls l : List Int} (h : lens xs = some ls) {n : Nat} (hp : lens (powG xs n) = some l) : wordG (powG xs n) = repW (wordG xs) n := by
  unfold powG at hp ⊢
  split
  · rename_i hc
    rcases hc with rfl | hc
    · rfl
    · have : xs = [] := List.eq_nil_of_length_eq_zero hc
      subst this
      simp [repW, wordG]
  · rename_i hc
    rw [if_neg hc] at hp
    have h0 : 0 < xs.length := by omega
    obtain ⟨t, ht⟩ := binL_head n (by omega)
    have hv := binL_val n
    rw [ht] at hp hv ⊢
    rw [List.tail_cons] at hp ⊢
    have e0 : ((xs.length : Int) - 1) = ((xs.length - 1 : Nat) : Int) := by omega
    rw [e0] at hp ⊢
    have := powFold_word (w := wordG xs) t xs l 1 hp h0 (by omega) (by rw [wordG_pos h0]) (repW_one _).symm
    rw [this]
    rw [List.foldl_cons] at hv
    have e1 : digV 0 49 = 1 := rfl
    rw [e1] at hv
    rw [hv]
end Go.Proofs.YtagpjommhoedlaaDoor

namespace Go.Proofs.YtagpjommhoedlaaDoor

def ltr (k : Nat) : UInt8 := UInt8.ofNat (97 + k)
def letR (c : UInt8) : GRule := ⟨⟨#[c]⟩, 0, 0⟩
def hasC (w : ByteArray) (c : UInt8) : Bool := w.data.toList.contains c
/-- The letters of a word, in their order. -/
def letsG (w : ByteArray) (k : Nat) : List GRule := ((List.range k).filter (fun j => hasC w (ltr j))).map fun j => letR (ltr j)
def idxG (w : ByteArray) (c : UInt8) : Nat := (letsG w 4).idxOf (letR c)
def pairAt (w : ByteArray) (i : Nat) : GRule :=
  pairR (if i = 0 then (idxG w (w.data.getD 0 0) : Nat) else (((letsG w 4).length + i - 1 : Nat) : Int)) (idxG w (w.data.getD (i + 1) 0) : Nat)
/-- The grammar of a plain word, up to some pairs. -/
def plainK (w : ByteArray) (m : Nat) : List GRule := letsG w 4 ++ (List.range m).map (pairAt w)
def plainG (w : ByteArray) : List GRule := plainK w (w.size - 1)

theorem letsG_succ (w : ByteArray) (k : Nat) : letsG w (k + 1) = if hasC w (ltr k) then letsG w k ++ [letR (ltr k)] else letsG w k := by
  unfold letsG
  rw [List.range_succ, List.filter_append, List.map_append]
  by_cases h : hasC w (ltr k) = true
  · rw [if_pos h]; simp [h]
  · rw [if_neg h]; simp [h]
theorem letsG_len (w : ByteArray) (k : Nat) : (letsG w k).length ≤ k := by
  unfold letsG
  rw [List.length_map]
  exact Nat.le_trans (List.length_filter_le _ _) (by simp)
theorem let_ltr {c : UInt8} (h : letOk c = true) : ∃ k, k < 4 ∧ c = ltr k := by
  simp [letOk] at h
  refine ⟨c.toNat - 97, by omega, ?_⟩
  unfold ltr
  rw [show 97 + (c.toNat - 97) = c.toNat by omega]; simp
theorem mem_letsG {w : ByteArray} {c : UInt8} (h : letOk c = true) (hw : hasC w c = true) : letR c ∈ letsG w 4 := by
  obtain ⟨k, hk, rfl⟩ := let_ltr h
  unfold letsG
  exact List.mem_map.2 ⟨k, List.mem_filter.2 ⟨List.mem_range.2 hk, hw⟩, rfl⟩
theorem hasC_at {w : ByteArray} {i : Nat} (h : i < w.size) : hasC w w[i] = true := by
  unfold hasC
  rw [List.contains_iff_mem]
  exact List.mem_of_getElem? (toList_getElem? w i h)
theorem letOk_at {w : ByteArray} (hw : wordOk w = true) {i : Nat} (h : i < w.size) : letOk w[i] = true := by
  unfold wordOk at hw
  simp only [Bool.and_eq_true] at hw
  exact List.all_eq_true.1 hw.2 _ (List.mem_of_getElem? (toList_getElem? w i h))
theorem idxG_lt {w : ByteArray} (hw : wordOk w = true) {i : Nat} (h : i < w.size) : idxG w w[i] < (letsG w 4).length :=
  List.idxOf_lt_length_iff.2 (mem_letsG (letOk_at hw h) (hasC_at h))
theorem getD_data {w : ByteArray} {i : Nat} (h : i < w.size) : w.data.getD i 0 = w[i] := by
  show w.data.getD i 0 = w.data[i]
  simp [Array.getD, h]
theorem plainK_len (w : ByteArray) (m : Nat) : (plainK w m).length = (letsG w 4).length + m := by simp [plainK]
theorem plainG_len (w : ByteArray) : (plainG w).length ≤ 4 + w.size := by
  rw [plainG, plainK_len]
  have := letsG_len w 4
  omega
theorem plainK_succ (w : ByteArray) (m : Nat) : plainK w (m + 1) = plainK w m ++ [pairAt w m] := by
  unfold plainK; rw [List.range_succ, List.map_append, List.append_assoc]; rfl
theorem plainK_zero (w : ByteArray) : plainK w 0 = letsG w 4 := by simp [plainK]
theorem letsG_ok (w : ByteArray) : ∀ r ∈ letsG w 4, ∃ k, k < 4 ∧ r = letR (ltr k) := by
  intro r hr
  unfold letsG at hr
  obtain ⟨k, h1, h2⟩ := List.mem_map.1 hr
  exact ⟨k, List.mem_range.1 (List.mem_filter.1 h1).1, h2.symm⟩
theorem okRule_letR {k i : Nat} (h : k < 4) : okRule i (letR (ltr k)) = true := by
  have : k = 0 ∨ k = 1 ∨ k = 2 ∨ k = 3 := by omega
  rcases this with rfl | rfl | rfl | rfl <;> rfl
theorem okAll_letsG (w : ByteArray) : OkAll (letsG w 4) := by
  intro i r hi
  obtain ⟨k, hk, rfl⟩ := letsG_ok w r (List.mem_of_getElem? hi)
  exact okRule_letR hk
theorem okAll_plainK {w : ByteArray} (hw : wordOk w = true) : ∀ m, m + 1 ≤ w.size ∨ m = 0 → OkAll (plainK w m) := by
  intro m
  induction m with
  | zero => intro _; rw [plainK_zero]; exact okAll_letsG w
  | succ m ih =>
    intro h
    have hm : m + 1 < w.size := by omega
    rw [plainK_succ]
    refine (ih (by omega)).snoc ?_
    rw [plainK_len]
    have h0 := idxG_lt hw (i := 0) (by omega)
    have h1 := idxG_lt hw (i := m + 1) hm
    unfold pairAt
    rw [getD_data hm, getD_data (show 0 < w.size by omega)]
    refine okRule_pair ?_ (by omega)
    split <;> omega
theorem okAll_plainG {w : ByteArray} (hw : wordOk w = true) : OkAll (plainG w) := okAll_plainK hw _ (by omega)

end Go.Proofs.YtagpjommhoedlaaDoor

namespace Go.Proofs.YtagpjommhoedlaaDoor

theorem raiseR_ok {n k : Nat} {r : GRule} (h : okRule k r = true) : okRule (n + k) (raiseR n r) = true := by
  unfold raiseR
  cases hp : r.pair with
  | true =>
    obtain ⟨q1, q2, q3, q4⟩ := okRule_at h hp
    rw [if_pos rfl]
    have hl : r.letter.size = 0 := by simpa [GRule.pair] using hp
    unfold okRule
    rw [if_pos (show (GRule.pair ⟨r.letter, r.left + n, r.right + n⟩) = true by simpa [GRule.pair] using hl)]
    show (decide (0 ≤ r.left + n) && decide (r.left + n ≤ ((n + k : Nat) : Int) - 1) && decide (0 ≤ r.right + n) && decide (r.right + n ≤ ((n + k : Nat) : Int) - 1)) = true
    rw [decide_eq_true (by omega), decide_eq_true (by omega), decide_eq_true (by omega), decide_eq_true (by omega)]; rfl
  | false =>
    rw [if_neg (by simp)]
    unfold okRule at h ⊢
    rw [if_neg (by simp [hp])] at h ⊢
    exact h
theorem okAll_smallP {xs : List GRule} (h : OkAll xs) (hl : xs.length ≤ 1099511627776) : SmallP xs := by
  intro r hr hp
  obtain ⟨k, hk⟩ := List.mem_iff_getElem?.1 hr
  have h1 := okRule_at (h k r hk) hp
  have h2 := (List.getElem?_eq_some_iff.1 hk).1
  omega
theorem ints_cell {S : List Int} {i : Nat} (h : i < S.length) : ((S.map (Value.int .i64)).toArray)[i]? = some (.int .i64 (S.getD i 0)) := by
  rw [List.getElem?_toArray, List.getElem?_map, List.getD_eq_getElem?_getD, List.getElem?_eq_getElem h]; rfl
theorem ints_set (S : List Int) (i : Nat) (v : Int) : ((S.map (Value.int .i64)).toArray).setIfInBounds i (.int .i64 v) = ((S.set i v).map (Value.int .i64)).toArray := by
  rw [List.map_set]; simp
structure BaseOk (k : Nat) (p : List GRule × List Int) : Prop where
  ok : OkAll p.1
  len : p.1.length ≤ 2004 * k
  l4 : p.2.length = 4
  low : ∀ i, i < 4 → -1 ≤ p.2.getD i 0 ∧ p.2.getD i 0 < p.1.length
theorem getD_set {l : List Int} {i j : Nat} {v : Int} (hi : i < l.length) : (l.set i v).getD j 0 = if i = j then v else l.getD j 0 := by
  by_cases h : i = j
  · subst h; rw [if_pos rfl, List.getD_eq_getElem?_getD, List.getElem?_set, if_pos rfl, if_pos hi]; rfl
  · rw [if_neg h]; exact set_ne h
structure StandOk (B k : Nat) (p : List GRule × List Int) : Prop where
  ok : OkAll p.1
  len : p.1.length ≤ B + k
  ls : p.2.length = k
  low : ∀ i, i < k → -1 ≤ p.2.getD i 0 ∧ p.2.getD i 0 < p.1.length
end Go.Proofs.YtagpjommhoedlaaDoor

namespace Go.Proofs.YtagpjommhoedlaaDoor
open Go.RowKit

def keyV (r : GRule) : Value := .agg #[.string r.letter, .int .i64 r.left, .int .i64 r.right]
def KeyOk (r : GRule) : Prop := r.letter.size ≤ 1 ∧ (-9223372036854775808 ≤ r.left ∧ r.left ≤ 9223372036854775807) ∧ (-9223372036854775808 ≤ r.right ∧ r.right ≤ 9223372036854775807)
theorem keyV_inj {r s : GRule} (h : keyV r = keyV s) : r = s := by
  cases r; cases s
  simp [keyV] at h
  obtain ⟨h1, h2, h3⟩ := h
  subst h1 h2 h3; rfl
theorem laidOutP : laidOutB Tryd.prog = true := by kernel_rfl
theorem rowRule : (70 : TypeId) < Tryd.prog.types.size := of_decide_eq_true (by kernel_rfl)
theorem keyTypeRule : Tryd.prog.keyTypeAt 2 70 = true := by kernel_rfl
theorem ruleKey : WideMaps.KeyLaw Tryd.prog 70 := deep_law_laid laidOutP (m := 2) (by omega) rowRule keyTypeRule (by rw [Tryd.underlying70])
theorem cellsRule : Tryd.prog.cellsOf 70 = 3 := by kernel_rfl
theorem formedRule (l : ByteArray) (a b : Int) : (Value.agg #[.string l, .int .i64 a, .int .i64 b]).formed Tryd.prog 70 = true := by simp [Value.formed, Tryd.underlying70, cellsRule]
theorem litsRule (D : Nat) (l : ByteArray) (a b : Int) (hl : l.size ≤ 1) (ha : (Lit.int .i64 a).wf = true) (hb : (Lit.int .i64 b).wf = true) :
    Tryd.prog.keyLits (D + 2) 70 [.string l, .int .i64 a, .int .i64 b] = some [.string l.data.toList, .int .i64 a, .int .i64 b] := by
  have hm : l.size ≤ maxLen := Nat.le_trans hl (by decide)
  have c9 : Tryd.prog.cellsOf 9 = 1 := by kernel_rfl
  have c2 : Tryd.prog.cellsOf 2 = 1 := by kernel_rfl
  simp [cellsRule, Tryd.underlying70, c9, c2, Program.keyLits, Tryd.underlying9, Tryd.underlying2, hm, ha, hb, List.mapM_cons]
theorem keyOf_rule {r : GRule} (h : KeyOk r) : ∃ l, keyOf Tryd.prog 70 (keyV r) = some l := by
  obtain ⟨h1, h2, h3⟩ := h
  have hw1 : (Lit.int .i64 r.left).wf = true := WalkArith.wf_i64 h2
  have hw2 : (Lit.int .i64 r.right).wf = true := WalkArith.wf_i64 h3
  obtain ⟨D, hD⟩ : ∃ D, Tryd.prog.types.size + 1 = D + 2 := ⟨Tryd.prog.types.size - 1, by have h9 : 1 < Tryd.prog.types.size := Nat.lt_of_le_of_lt (by decide) rowRule; omega⟩
  have hk : Tryd.prog.keyType 70 = true := by kernel_rfl
  have hlits := litsRule D r.letter r.left r.right h1 hw1 hw2
  rw [← hD] at hlits
  refine ⟨.string (keyBytes [.string r.letter.data.toList, .int .i64 r.left, .int .i64 r.right]), ?_⟩
  unfold keyOf keyV
  rw [Tryd.underlying70]
  have hc : (Value.agg #[.string r.letter, .int .i64 r.left, .int .i64 r.right]).cells.toList = [.string r.letter, .int .i64 r.left, .int .i64 r.right] := rfl
  show (if (Tryd.prog.keyType 70 && (Value.agg #[.string r.letter, .int .i64 r.left, .int .i64 r.right]).formed Tryd.prog 70) = true then
    (Tryd.prog.keyLits (Tryd.prog.types.size + 1) 70 (Value.agg #[.string r.letter, .int .i64 r.left, .int .i64 r.right]).cells.toList).map fun ls => Lit.string (keyBytes ls) else none) = _
  rw [hk, formedRule, hc, if_pos (show (true && true) = true from rfl), hlits]
  rfl

/-- A map of rules in block b: the first place of each rule of the list. -/
def RMap (w : World) (b : Nat) (ks : List GRule) : Prop :=
  ∃ es clock, w.heap[b]? = some (.map es clock) ∧ (∀ e ∈ es.toList, ∃ r, KeyOk r ∧ e.key = keyV r ∧ r ∈ ks ∧ e.val = .int .i64 (ks.idxOf r : Nat)) ∧ ∀ r ∈ ks, ∃ e ∈ es.toList, e.key = keyV r
section
variable {w w' : World} {b : Nat} {ks : List GRule} {r : GRule}
theorem RMap.made (w : World) : RMap (w.alloc (.map #[] 0)) w.heap.size [] := ⟨#[], 0, (MapKept.heap_alloc w _).1, by simp, by simp⟩
theorem RMap.lt (h : RMap w b ks) : b < w.heap.size := by
  obtain ⟨es, clock, hb, _⟩ := h
  exact (Array.getElem?_eq_some_iff.1 hb).1
theorem RMap.of_block (h : RMap w b ks) (hb : w'.heap[b]? = w.heap[b]?) : RMap w' b ks := by
  obtain ⟨es, clock, h0, h1, h2⟩ := h
  exact ⟨es, clock, hb.trans h0, h1, h2⟩
theorem RMap.kept {row : Option Nat} (h : RMap w b ks) (hg : w.grownBy w' row) (hne : some b ≠ row) : RMap w' b ks := h.of_block (hg.block b h.lt hne)
theorem RMap.alloc (h : RMap w b ks) (o : Obj) : RMap (w.alloc o) b ks := h.kept (World.grownBy_alloc w o none) (by simp)
theorem RMap.drew (h : RMap w b ks) : RMap w.drew b ks := h
theorem RMap.below {N : Nat} (h : RMap w b ks) (hb : Below N w w') (hlt : b < N) : RMap w' b ks := h.of_block (hb.block b hlt)
theorem RMap.same (h : RMap w b ks) (hr : r ∈ ks) : RMap w b (ks ++ [r]) := by
  obtain ⟨es, clock, h0, h1, h2⟩ := h
  refine ⟨es, clock, h0, fun e he => ?_, fun s hs => ?_⟩
  · obtain ⟨s, a1, a2, a3, a4⟩ := h1 e he
    exact ⟨s, a1, a2, by simp [a3], by rw [List.idxOf_append, if_pos a3]; exact a4⟩
  · rcases List.mem_append.1 hs with hs | hs
    · exact h2 s hs
    · rw [List.mem_singleton] at hs; subst hs; exact h2 s hr
theorem RMap.find (h : RMap w b ks) (hk : KeyOk r) : ∃ es clock, w.heap[b]? = some (.map es clock) ∧ (∀ e ∈ es.toList, ∃ r, KeyOk r ∧ e.key = keyV r ∧ r ∈ ks ∧ e.val = .int .i64 (ks.idxOf r : Nat)) ∧
    ((r ∉ ks ∧ (Instr.findKey 70 (keyV r) es.toList).run Tryd.prog w = .ok none w) ∨ (r ∈ ks ∧ ∃ j, (Instr.findKey 70 (keyV r) es.toList).run Tryd.prog w = .ok (some (j, .int .i64 (ks.idxOf r : Nat))) w)) := by
  obtain ⟨es, clock, h0, h1, h2⟩ := h
  obtain ⟨l, hl⟩ := keyOf_rule hk
  refine ⟨es, clock, h0, h1, ?_⟩
  rcases ruleKey.find w hl es.toList (fun e he => by
    obtain ⟨s, a1, a2, _⟩ := h1 e he
    rw [a2]; exact keyOf_rule a1) with ⟨f1, f2⟩ | ⟨j, e, f1, f2, f3⟩
  · refine .inl ⟨fun hr => ?_, f1⟩
    obtain ⟨e, he, hek⟩ := h2 r hr
    exact f2 e he hek
  · obtain ⟨s, a1, a2, a3, a4⟩ := h1 e (List.mem_of_getElem? f2)
    have : s = r := keyV_inj (a2.symm.trans f3)
    subst this
    exact .inr ⟨a3, j, by rw [← a4]; exact f1⟩
theorem RMap.yes (h : RMap w b ks) (hk : KeyOk r) (hr : r ∈ ks) (c : Bool) :
    (Instr.lookup 101 (.map (some b)) (keyV r) c).run Tryd.prog w = .ok (if c then .tuple #[.int .i64 (ks.idxOf r : Nat), .bool true] else .int .i64 (ks.idxOf r : Nat)) w := by
  obtain ⟨es, clock, h0, h1, h2⟩ := h.find hk
  obtain ⟨l, hl⟩ := keyOf_rule hk
  rcases h2 with ⟨hn, _⟩ | ⟨_, j, hj⟩
  · exact absurd hr hn
  · simp [Instr.lookup, run_underlying Tryd.underlying101, MapKept.run_getObj_map h0, ruleKey.check w _ hl, hj, Result.andThen]
theorem RMap.no (h : RMap w b ks) (hk : KeyOk r) (hr : r ∉ ks) (c : Bool) :
    (Instr.lookup 101 (.map (some b)) (keyV r) c).run Tryd.prog w = .ok (if c then .tuple #[.int .i64 0, .bool false] else .int .i64 0) w := by
  obtain ⟨es, clock, h0, h1, h2⟩ := h.find hk
  obtain ⟨l, hl⟩ := keyOf_rule hk
  have hz : (zeroValue 2).run Tryd.prog w = .ok (.int .i64 0) w := by kernel_rfl
  rcases h2 with ⟨_, hj⟩ | ⟨hy, _⟩
  · simp [Instr.lookup, run_underlying Tryd.underlying101, MapKept.run_getObj_map h0, ruleKey.check w _ hl, hj, hz, Result.andThen]
  · exact absurd hy hr
open Go.ChangeMaps in
theorem RMap.put (h : RMap w b ks) (hk : KeyOk r) (hr : r ∉ ks) :
    ∃ w', (Instr.mapUpdate 101 (.map (some b)) (keyV r) (.int .i64 (ks.length : Nat))).run Tryd.prog w = .ok () w' ∧ RMap w' b (ks ++ [r]) ∧ w.grownBy w' (some b) := by
  have h' := h
  obtain ⟨es0, clock0, g0, g1, g2⟩ := h'
  obtain ⟨es, clock, h0, h1, h2⟩ := h.find hk
  obtain ⟨l, hl⟩ := keyOf_rule hk
  have he : es0 = es ∧ clock0 = clock := by
    rw [g0] at h0
    have := Option.some.inj h0
    exact ⟨by injection this, by injection this⟩
  obtain ⟨rfl, rfl⟩ := he
  rcases h2 with ⟨_, hj⟩ | ⟨hy, _⟩
  · refine ⟨setBlock w b (.map (es0.push ⟨keyV r, .int .i64 (ks.length : Nat), clock0⟩) (clock0 + 1)), ?_, ⟨_, _, heap_setBlock_same g0 _, ?_, ?_⟩, ⟨rfl, rfl, rfl, by simp [setBlock], fun i _ hi => heap_setBlock_other g0 _ (fun e => hi (by rw [e]))⟩⟩
    · simp [Instr.mapUpdate, run_underlying Tryd.underlying101, MapKept.run_getObj_map g0, ruleKey.check w false hl, hj, MapKept.run_setObj_map _ g0, Result.andThen, setBlock]
    · intro e he
      simp only [Array.toList_push, List.mem_append, List.mem_singleton] at he
      rcases he with he | rfl
      · obtain ⟨s, a1, a2, a3, a4⟩ := g1 e he
        exact ⟨s, a1, a2, by simp [a3], by rw [List.idxOf_append, if_pos a3]; exact a4⟩
      · exact ⟨r, hk, rfl, by simp, by rw [List.idxOf_append, if_neg hr]; simp⟩
    · intro s hs
      simp only [Array.toList_push, List.mem_append, List.mem_singleton]
      rcases List.mem_append.1 hs with hs | hs
      · obtain ⟨e, he, hek⟩ := g2 s hs
        exact ⟨e, .inl he, hek⟩
      · rw [List.mem_singleton] at hs; subst hs; exact ⟨_, .inr rfl, rfl⟩
  · exact absurd hy hr
end
end Go.Proofs.YtagpjommhoedlaaDoor

namespace Go.Proofs.YtagpjommhoedlaaDoor
open Go.RowKit

/-- One rule appended in a region that does not draw. -/
theorem list_push_rule {W : World} {ops : Array Oper} {rest : List Oper} {o : Oper} {a : Act} {Q : Exit → Act → World → Prop} (hgd : o.guard = none) (s x : Operand)
    (ho : o.op = .call { callee := .builtin .append, args := #[s, x], argTypes := #[24, 24] }) {t : ByteArray} {p q : Int} {base : Nat} {v : Value} {l : List GRule}
    (hs : a.eval s = v) {N : Nat} (hx : a.eval x = .slice (some ⟨N, 0, none⟩) 1 1) (hN : N = W.heap.size) (hown : OwnRules W base v l) (hlen : l.length ≤ 1099511627775) (hbase : base ≤ W.heap.size)
    (h : ∀ v' w', OwnRules w' base v' (l ++ [⟨t, p, q⟩]) → (W.alloc (.cells #[.string t, .int .i64 p, .int .i64 q] 70)).grownBy w' v.ownBlock → Below base (W.alloc (.cells #[.string t, .int .i64 p, .int .i64 q] 70)) w' → wpList Tryd.prog ops Q rest (a.put o.dst v') w') :
    wpList Tryd.prog ops Q (o :: rest) a (W.alloc (.cells #[.string t, .int .i64 p, .int .i64 q] 70)) :=
  wpList_plain hgd fun K hK => by
    have := step_push_rule (E := True) (K := K) (ops := ops) (Q := Q) hgd s x ho hs hx hN hown hlen hbase (fun v' w' h1 h2 h3 => hK _ _ (h v' w' h1 h2 h3))
    rwa [if_pos (by simp [Region.wanted, hgd])] at this

theorem own_put {w5 : World} {K base n c5 : Nat} {A5 : Option Addr} {L M : List GRule} {vo : Value} (bx : Boxed w5 K 26 vo) (own : OwnRules w5 base (.slice A5 L.length c5) L) (hM : L = M) (hn : M.length = n) :
    OwnRules (w5.setCell ⟨K, 0, none⟩ (.slice A5 n c5)) base (.slice A5 n c5) M := by
  subst hM; subst hn; exact ownsRow_setCell_other (a := ⟨K, 0, none⟩) own (bx.not_row (by decide) own).symm _

end Go.Proofs.YtagpjommhoedlaaDoor

