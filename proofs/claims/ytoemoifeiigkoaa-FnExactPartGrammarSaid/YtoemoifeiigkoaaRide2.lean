import Derived.Test.YtoemoifeiigkoaaRide
namespace Go.Proofs.Ytoemoifeiigkoaa
open Go.RowKit

def lastI (l : List Int) : Int := l.getD (l.length - 1) 0
theorem last_any (v : Value) (l : List Int) (w : World) (h : Sl IntE w w.heap.size v l) :
    Calls Try.prog 79 #[v] w fun e w' => e = .returned (.int .i64 (lastI l)) ∧ w = w' := by
  obtain ⟨A, c, rfl, hc, hm, hrow⟩ := h
  unfold maxLen at hm
  by_cases h0 : l.length = 0
  · have hl : l = [] := List.eq_nil_of_length_eq_zero h0
    subst hl
    go_enter Try.func79, Try.ntmps79
    go_wp2_with fail
    go_ret
    exact ⟨rfl, rfl⟩
  · obtain ⟨b, o, rfl, hbl, hcell⟩ := hrow.int (k := 0) (by omega)
    have hc0 := hcell (l.length - 1) (by omega)
    have g0 : ((l.length : Int) == 0) = false := by rw [beq_eq_false_iff_ne]; omega
    have hk : ((l.length : Int) - 1).toNat = l.length - 1 := by omega
    have hl : 0 ≤ (l.length : Int) - 1 := by omega
    obtain ⟨x, hx⟩ : ∃ x, l.getD (l.length - 1) 0 = x := ⟨_, rfl⟩
    have Hx := Lib.hid hx
    rw [hx] at hc0
    clear hcell hx
    go_enter Try.func79, Try.ntmps79
    go_wp2_with fail
    go_ret
    exact ⟨ret_int (by rw [lastI, Hx.out]), rfl⟩

theorem rideLength_any (v : Value) (a : GAuto) (xs : List GRule) (ls : List Int) (w : World) (h : RideV w w.heap.size v a xs ls) :
    Calls Try.prog 106 #[v] w fun e w' => e = .returned (.int .i64 (lastI ls)) ∧ Below w.heap.size w w' := by
  obtain ⟨vF, vN, vR, vL, vM, rfl, h1, h2, h3, h4, h5⟩ := h
  have H4 := Lib.hid h4
  obtain ⟨_, _, rfl, _⟩ := h1
  obtain ⟨_, _, rfl, _⟩ := h2
  obtain ⟨_, _, rfl, _⟩ := h3
  obtain ⟨_, _, rfl, _⟩ := h4
  obtain ⟨_, _, rfl, _⟩ := h5
  go_enter Try.func106, Try.ntmps106
  go_wp2_with fail
  refine (last_any _ ls _ ((H4.out.below ((Below.refl _ _).alloc (Nat.le_refl _) _)).le (by first | omega | (simp; done) | (simp; omega)))).mono ?_
  rintro e w' ⟨rfl, rfl⟩
  go_wp2_with fail
  go_ret
  exact ⟨rfl, (by repeat (first | exact Below.refl _ _ | (refine Below.alloc ?_ (by first | omega | (simp; done) | (simp; omega)) _) | refine below_drewN ?_ _ | refine Below.drew ?_))⟩

theorem Wk.set {C : Nat → Prop} {w : World} {b o : Nat} {v : Value} (h : ¬ C b) : Wk C w (w.setCell ⟨b, o, none⟩ v).drew :=
  ⟨rfl, rfl, rfl, by show w.heap.size ≤ (w.setCell ⟨b, o, none⟩ v).heap.size; simp, fun k hk => heap_setCell_other w ⟨b, o, none⟩ k v (fun e => h (by have e' : k = b := e; exact e' ▸ hk))⟩
/-- One step of a ride. -/
def stepM (maps : List (List Int)) (s r : Nat) : Nat := ((maps.getD r []).getD s 0).toNat
/-- What stands behind some rules in the state box bs. -/
structure RJ (w0 : World) (bs n : Nat) (C : Nat → Prop) (s : Nat) (w : World) : Prop where
  wk : Wk (fun b => b < w0.heap.size ∧ b ≠ bs) w0 w
  cell : w.cell? ⟨bs, 0, none⟩ = some (.int .i64 s)
  fr : w.frozen? ⟨bs, 0, none⟩ = false
  nc : ¬ C bs
  lt : s < n
theorem RJ.ext {w0 : World} {bs n : Nat} (hbs : bs < w0.heap.size) : ∀ C s w w', RJ w0 bs n C s w → Below w.heap.size w w' → (∀ b, C b → b < w.heap.size) → RJ w0 bs n (ext C w.heap.size w'.heap.size) s w' := by
  intro C s w w' h hb hC
  have hsz := h.wk.size
  refine ⟨h.wk.trans (Wk.of_below hb fun k hk => by have := hk.1; omega), (hb.cell (p := ⟨bs, 0, none⟩) (by show bs < _; omega)).trans h.cell, (hb.frozen (p := ⟨bs, 0, none⟩) (by show bs < _; omega)).trans h.fr, ?_, h.lt⟩
  intro h'
  rcases h' with h' | h'
  · exact h.nc h'
  · omega

set_option maxRecDepth 100000 in
set_option maxHeartbeats 1000000 in
theorem afterCl_any (w0 : World) (br bs : Nat) (vM : Value) (maps : List (List Int)) (n : Nat) (hbr : br < w0.heap.size) (hne : br ≠ bs) (hbs : bs < w0.heap.size) (hm : w0.cell? ⟨br, 6, none⟩ = some vM) (hM : SlS (SliceE IntE) w0 (fun b => b < w0.heap.size ∧ b ≠ bs) vM maps) (hok : RowsOk n maps) :
    ∀ C s (r : Nat) (w : World), RJ w0 bs n C s w → r < maps.length → (∀ b, C b → b < w.heap.size) → Calls Try.prog 191 (#[.int .i64 r] ++ #[.pointer (some ⟨br, 0, none⟩), .pointer (some ⟨bs, 0, none⟩)]) w (TakePost (RJ w0 bs n) C (stepM maps s r) w) := by
  intro C s r w hJ hr hC
  have HJ := Lib.hid hJ
  have HC := Lib.hid hC
  obtain ⟨A, c, rfl, _, hmx, hrow⟩ := (hM.keep hJ.wk.keep)
  obtain ⟨b, o, rfl, hbb, hcells⟩ := cells2 hrow (by omega)
  have r1 := hok r hr
  have hlt := hJ.lt
  obtain ⟨b', o', c', d1, d2, d3⟩ := hcells r s hr (by rw [r1.1]; exact hlt)
  rw [r1.1] at d1
  obtain ⟨m, hm1⟩ : ∃ m : Nat, (maps.getD r []).getD s 0 = m := ⟨((maps.getD r []).getD s 0).toNat, by have := (r1.2 s hlt).1; omega⟩
  have hmn : m < n := by have := (r1.2 s hlt).2; omega
  rw [hm1] at d3
  have hst : stepM maps s r = m := by rw [stepM, hm1]; rfl
  have Hst := Lib.hid hst
  have x6 := hJ.wk.cell (k := br) (o := 6) ⟨hbr, hne⟩ hm
  have xs := hJ.cell
  have xf := hJ.fr
  have hsz := hJ.wk.size
  have y1 : bs < w.heap.size := by omega
  have i1 : (r : Int) < (maps.length : Int) := by omega
  have i2 : (s : Int) < (n : Int) := by omega
  unfold maxLen at hmx
  clear hcells r1 hm1 hst hrow hM hm hJ hok hC
  show Calls Try.prog 191 #[.int .i64 r, .pointer (some ⟨br, 0, none⟩), .pointer (some ⟨bs, 0, none⟩)] w _
  go_enter Try.func191, Try.ntmps191
  go_wp2_with fail
  go_still_tail 8, (by kernel_rfl)
  change wpList _ _ _ _ _ w.drew
  go_wp2_with fail
  go_end0
  refine ⟨rfl, C, fun _ h => h, ?_, ⟨?_, ?_, ?_, HJ.out.nc, by rw [Hst.out]; exact hmn⟩, ?_⟩
  · intro b h
    have := HC.out b h
    simpa [World.setCell] using this
  · exact HJ.out.wk.trans (Wk.set fun h => h.2 rfl)
  · rw [Hst.out]; simp [go_sem, xs]
  · simp [go_sem, xf]
  · exact Wk.set HJ.out.nc

theorem foldl_stepM_lt {maps : List (List Int)} {n : Nat} (hok : RowsOk n maps) : ∀ (l : List Nat) (s : Nat), (∀ r ∈ l, r < maps.length) → s < n → l.foldl (stepM maps) s < n := by
  intro l
  induction l with
  | nil => intro s _ h; exact h
  | cons r l ih =>
    intro s hl hs
    refine ih _ (fun x hx => hl x (by simp [hx])) ?_
    have := (hok r (hl r (by simp))).2 s hs
    unfold stepM; omega

set_option maxRecDepth 100000 in
set_option maxHeartbeats 1000000 in
theorem after_any (v : Value) (a : GAuto) (xs : List GRule) (ls : List Int) (s : Nat) (i j : Int) (w : World) (h : RideV w w.heap.size v a xs ls) (ha : autoOk a = true) (hl : lens xs = some ls) (hn : xs.length ≤ 1099511627776) (hs : s < a.next.length) :
    Calls Try.prog 107 #[v, .int .i64 s, .int .i64 i, .int .i64 j] w fun e w' => e = .returned (.int .i64 (((piecesL xs ls i j).foldl (stepM (mapsOf a.next xs)) s : Nat) : Int)) ∧ Below w.heap.size w w' := by
  obtain ⟨vF, vN, vR, vL, vM, rfl, h1, h2, h3, h4, h5⟩ := h
  have H3 := Lib.hid h3
  have H4 := Lib.hid h4
  have H5 := Lib.hid h5
  have Ha := Lib.hid ha
  have Hl := Lib.hid hl
  clear ha hl
  obtain ⟨AF, cF, rfl, _⟩ := h1
  obtain ⟨AN, cN, rfl, _⟩ := h2
  obtain ⟨AR, cR, rfl, _⟩ := h3
  obtain ⟨AL, cL, rfl, _⟩ := h4
  obtain ⟨AM, cM, rfl, _⟩ := h5
  go_enter Try.func107, Try.ntmps107
  go_wp2_with fail
  have hB : ∀ o o', Below w.heap.size w ((w.alloc o).alloc o') := fun o o' => ((Below.refl _ _).alloc (Nat.le_refl _) _).alloc (by simp) _
  have hx6 : ((w.alloc (Obj.cells #[.int .i64 a.states, .int .i64 a.start, .slice AF a.finals.length cF, .slice AN a.next.length cN, .slice AR xs.length cR, .slice AL ls.length cL, .slice AM (mapsOf a.next xs).length cM] 127)).alloc (Obj.cells #[.int .i64 (s : Int)] 2)).cell? ⟨w.heap.size, 6, none⟩ = some (.slice AM (mapsOf a.next xs).length cM) := by simp [go_sem]
  have hxs : ((w.alloc (Obj.cells #[.int .i64 a.states, .int .i64 a.start, .slice AF a.finals.length cF, .slice AN a.next.length cN, .slice AR xs.length cR, .slice AL ls.length cL, .slice AM (mapsOf a.next xs).length cM] 127)).alloc (Obj.cells #[.int .i64 (s : Int)] 2)).cell? ⟨w.heap.size + 1, 0, none⟩ = some (.int .i64 (s : Int)) := by simp [go_sem]
  have hxf : ((w.alloc (Obj.cells #[.int .i64 a.states, .int .i64 a.start, .slice AF a.finals.length cF, .slice AN a.next.length cN, .slice AR xs.length cR, .slice AL ls.length cL, .slice AM (mapsOf a.next xs).length cM] 127)).alloc (Obj.cells #[.int .i64 (s : Int)] 2)).frozen? ⟨w.heap.size + 1, 0, none⟩ = false := by simp [go_sem]
  have hzz : ((w.alloc (Obj.cells #[.int .i64 a.states, .int .i64 a.start, .slice AF a.finals.length cF, .slice AN a.next.length cN, .slice AR xs.length cR, .slice AL ls.length cL, .slice AM (mapsOf a.next xs).length cM] 127)).alloc (Obj.cells #[.int .i64 (s : Int)] 2)).heap.size = w.heap.size + 2 := by simp
  have hb0 := hB (Obj.cells #[.int .i64 a.states, .int .i64 a.start, .slice AF a.finals.length cF, .slice AN a.next.length cN, .slice AR xs.length cR, .slice AL ls.length cL, .slice AM (mapsOf a.next xs).length cM] 127) (Obj.cells #[.int .i64 (s : Int)] 2)
  generalize (w.alloc (Obj.cells #[.int .i64 a.states, .int .i64 a.start, .slice AF a.finals.length cF, .slice AN a.next.length cN, .slice AR xs.length cR, .slice AL ls.length cL, .slice AM (mapsOf a.next xs).length cM] 127)).alloc (Obj.cells #[.int .i64 (s : Int)] 2) = w0 at *
  have HZ := Lib.hid hzz
  have HB0 := Lib.hid hb0
  clear hB hzz hb0
  have hok := mapsOf_ok Ha.out Hl.out xs.length (Nat.le_refl _)
  rw [List.take_length] at hok
  refine (pieces_any (RJ w0 (w.heap.size + 1) a.next.length) (stepM (mapsOf a.next xs)) (fun _ _ => True) 191 #[.pointer (some ⟨w.heap.size, 0, none⟩), .pointer (some ⟨w.heap.size + 1, 0, none⟩)] xs ls i j Hl.out hn (enters_of Try.func191 (by kernel_rfl) rfl) (RJ.ext (by have := HZ.out; omega)) ?_ _ _ s (fun b => b < w.heap.size) w0 ?_ (Runs.all fun _ _ => trivial) ?_ ?_ ?_).mono ?_
  · intro C s r w' hJ _ hr hC
    exact afterCl_any w0 w.heap.size (w.heap.size + 1) _ (mapsOf a.next xs) a.next.length (by have := HZ.out; omega) (by omega) (by have := HZ.out; omega) hx6
      ((H5.out.keep (Keep.of_below HB0.out)).more fun b hb => ⟨by have := HZ.out; omega, by omega⟩) hok C s r w' hJ (by rw [mapsOf_len]; exact hr) hC
  · exact ⟨Wk.refl _ _, hxs, hxf, by omega, hs⟩
  · intro b hb
    have := HZ.out
    omega
  · exact (H4.out.keep (Keep.of_below HB0.out))
  · exact (H3.out.keep (Keep.of_below HB0.out))
  · rintro e w2 ⟨rfl, C2, g1, g2, g3, g4⟩
    have hc := g3.cell
    have Hw := Lib.hid (HB0.out.trans (g3.wk.below (B := w.heap.size) fun k hk => ⟨by have := HZ.out; omega, by omega⟩))
    clear g1 g2 g3 g4 hx6 hxs hxf hok
    obtain ⟨r, hr⟩ : ∃ r, (piecesL xs ls i j).foldl (stepM (mapsOf a.next xs)) s = r := ⟨_, rfl⟩
    rw [hr] at hc
    have Hr := Lib.hid hr
    clear hr
    go_wp2_with fail
    go_ret
    exact ⟨ret_int (by rw [Hr.out]), Hw.out⟩
end Go.Proofs.Ytoemoifeiigkoaa
