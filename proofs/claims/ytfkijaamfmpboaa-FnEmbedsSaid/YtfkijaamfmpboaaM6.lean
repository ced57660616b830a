import Derived.Test.YtfkijaamfmpboaaM5
import Derived.Test.YtfkijaamfmpboaaM3
import Derived.Test.YtfkijaamfmpboaaM2
import Derived.Test.YtfkijaamfmpboaaM4
namespace Go.Proofs.Ytfkijaamfmpboaa
open Go.RowKit
theorem run_index_a4u (xs : List GRule) {l : Nat} (hl : l < 4) (w : World) : (Instr.index 128 (.agg #[.int .i64 (topc xs 0), .int .i64 (topc xs 1), .int .i64 (topc xs 2), .int .i64 (topc xs 3)]) (.int .u8 (l : Int))).run Try.prog w = .ok (.int .i64 (topc xs l)) w := by
  have h9 : l = 0 ∨ l = 1 ∨ l = 2 ∨ l = 3 := by omega
  rcases h9 with rfl | rfl | rfl | rfl <;> simp [Instr.index, asIntOf, run_underlying Try.underlying128, part, Try.isAgg2, Try.sizeOf2, Result.andThen]
def selR (xs : List GRule) (l k : Nat) : Value := if k < cntW (ltr l) (wordG xs) then .tuple #[.int .i64 (selW (ltr l) k (wordG xs) : Nat), .bool true] else .tuple #[.int .i64 0, .bool false]
set_option maxRecDepth 100000 in
set_option maxHeartbeats 8000000 in
theorem sel_any (v : Value) (xs : List GRule) (ls : List Int) (l k0 : Nat) (w : World) (h : CenV w w.heap.size v xs ls) (hl : lens xs = some ls) (hn : xs.length ≤ 1048576) (hl4 : l < 4) :
    Calls Try.prog 89 #[v, .int .u8 (l : Int), .int .i64 (k0 : Int)] w fun e w' => e = .returned (selR xs l k0) ∧ Below w.heap.size w w' := by
  have HV := Lib.hid h
  obtain ⟨vR, vL, vM, rfl, hR, hL, hM⟩ := h
  have HR := Lib.hid hR
  have HL := Lib.hid hL
  have HM := Lib.hid hM
  have Hl := Lib.hid hl
  have Hll := Lib.hid (lens_length hl)
  obtain ⟨AR, cR, rfl, _⟩ := hR
  obtain ⟨AL, cL, rfl, _⟩ := hL
  obtain ⟨AM, cM, rfl, _⟩ := hM
  have hk63 : (k0 : Int) < 0 ∨ 0 ≤ (k0 : Int) := by omega
  go_enter Try.func89, Try.ntmps89
  go_upto_region 1 with fail
  have ka := (Below.refl w.heap.size w).alloc (Nat.le_refl _) (Obj.cells #[.slice AR xs.length cR, .slice AL ls.length cL, .slice AM (manyL xs).length cM] 99)
  have kx := Blk.new w #[.slice AR xs.length cR, .slice AL ls.length cL, .slice AM (manyL xs).length cM] 99
  generalize w.alloc (Obj.cells #[.slice AR xs.length cR, .slice AL ls.length cL, .slice AM (manyL xs).length cM] 99) = w1 at *
  have B1 := Lib.hid ka
  have K1 := Lib.hid kx
  have HM1 := Lib.hid (HM.out.up ka)
  have x2 := Blk.cell (i := 2) (v := .slice AM (manyL xs).length cM) kx rfl
  have lx := Blk.lt kx
  have hidx := run_index_a4u xs hl4
  have hnz : ¬ (k0 : Int) < 0 := by omega
  clear ka kx hl hk63
  go_wp2_with fail
  refine (top_any _ xs _ HM1.out hn).mono ?_
  rintro e w2 ⟨rfl, hb2⟩
  have B2 := Lib.hid (Below.tr B1.out hb2)
  have K2 := Lib.hid (K1.out.up hb2)
  clear hb2 x2 lx
  by_cases hk : k0 < cntW (ltr l) (wordG xs)
  · have hkI : ¬ topc xs l ≤ (k0 : Int) := by unfold topc; omega
    have h0 : 0 < xs.length := by
      refine Nat.pos_of_ne_zero fun h => ?_
      have hx : xs = [] := List.eq_nil_of_length_eq_zero h
      subst hx
      exact absurd hk (by simp [wordG, cntW])
    have Hsel := Lib.hid (show selR xs l k0 = .tuple #[.int .i64 (selW (ltr l) k0 (wordG xs) : Nat), .bool true] by rw [selR, if_pos hk])
    rw [wordG_pos h0] at hk Hsel
    obtain ⟨r0, hr0⟩ : ∃ r0, xs.length - 1 = r0 := ⟨_, rfl⟩
    rw [hr0] at hk Hsel
    have hr0x : r0 < xs.length := by omega
    obtain ⟨RES, hRES⟩ : ∃ RES, selW (ltr l) k0 (W1 xs r0) = RES := ⟨_, rfl⟩
    have Hst := Lib.hid (show 0 + selW (ltr l) k0 (W1 xs r0) = RES by omega)
    rw [hRES] at Hsel
    have hw0 : IntKind.i64.wrap ((xs.length : Int) - 1) = (r0 : Int) := by rw [IntWalk.i64_in _ (by omega)]; omega
    have hlz := lens_pos' Hl.out hr0x
    have x0 := Blk.cell (i := 0) (v := .slice AR xs.length cR) K2.out rfl
    have lx := Blk.lt K2.out
    clear hRES hr0
    go_wp2_with fail
    go_quiet (fail)
    go_wp2_with fail
    go_loopw [2, 8, 9] (fun vk va vr wx => ∃ (k at' r : Nat), vk = .int .i64 (k : Int) ∧ va = .int .i64 (at' : Int) ∧ vr = .int .i64 (r : Int) ∧ r < xs.length ∧ k < cntW (ltr l) (W1 xs r) ∧ Hid (at' + selW (ltr l) k (W1 xs r) = RES) ∧ (at' : Int) + ls.getD r 0 ≤ 1000000000000000 ∧ Below w2.heap.size w2 wx) (fun _ _ vr _ => (intOf vr).toNat)
    case atStart => exact ⟨k0, 0, r0, rfl, rfl, rfl, hr0x, hk, Hst, by omega, below_drewN (Below.refl _ _) _⟩
    case round =>
      obtain ⟨k, at', r, rfl, rfl, rfl, hrx, hkc, HI, hs9, hb⟩ := hrel
      have HB := Lib.hid hb
      have HBw := Lib.hid (Below.tr B2.out hb)
      have Kx := Lib.hid (K2.out.up hb)
      have x0 := Blk.cell (i := 0) (v := .slice AR xs.length cR) Kx.out rfl
      have x1 := Blk.cell (i := 1) (v := .slice AL ls.length cL) Kx.out rfl
      have x2 := Blk.cell (i := 2) (v := .slice AM (manyL xs).length cM) Kx.out rfl
      have lx := Blk.lt Kx.out
      have HRw := Lib.hid (HR.out.below HBw.out)
      have HLw := Lib.hid (HL.out.below HBw.out)
      have HMw := Lib.hid (HM.out.below HBw.out)
      have hwz := HBw.out.size
      have hri : (r : Int) < (xs.length : Int) := by omega
      have hlen := W1_len Hl.out r hrx
      obtain ⟨bR, oR, e6, e7, kk0, kk1, kk2⟩ := rule_cell HRw.out hrx
      subst e6
      clear hb
      obtain ⟨letr, hletr⟩ : ∃ x, (getR xs r).letter = x := ⟨_, rfl⟩
      obtain ⟨rl, hrl⟩ : ∃ x, (getR xs r).left = x := ⟨_, rfl⟩
      obtain ⟨rr, hrr⟩ : ∃ x, (getR xs r).right = x := ⟨_, rfl⟩
      have hpe : (getR xs r).pair = letr.toList.isEmpty := by rw [← hletr, isEmpty_size]; rfl
      rw [hletr] at kk0
      rw [hrl] at kk1
      rw [hrr] at kk2
      have HRLo := Lib.hid (And.intro hrl hrr)
      have HLet := Lib.hid hletr
      clear hletr hrl hrr
      go_wp2_with fail
      refine (isPair_b letr rl rr wr).mono ?_
      rintro e w4 ⟨rfl, hb4⟩
      have HB4 := Lib.hid (Below.tr HB.out hb4)
      have HBw4 := Lib.hid (Below.tr HBw.out hb4)
      have K4 := Lib.hid (Kx.out.up hb4)
      have kk0' := (hb4.cell (p := ⟨bR, oR + r * 3, none⟩) (by show bR < _; have : bR < w.heap.size := e7; omega)).trans kk0
      have kk1' := (hb4.cell (p := ⟨bR, oR + r * 3 + 1, none⟩) (by show bR < _; have : bR < w.heap.size := e7; omega)).trans kk1
      have kk2' := (hb4.cell (p := ⟨bR, oR + r * 3 + 2, none⟩) (by show bR < _; have : bR < w.heap.size := e7; omega)).trans kk2
      have hz4 := hb4.size
      clear hb4 kk0 kk1 kk2 x0 x1 x2 lx
      have x0 := Blk.cell (i := 0) (v := .slice (some ⟨bR, oR, none⟩) xs.length cR) K4.out rfl
      have x1 := Blk.cell (i := 1) (v := .slice AL ls.length cL) K4.out rfl
      have x2 := Blk.cell (i := 2) (v := .slice AM (manyL xs).length cM) K4.out rfl
      have lx := Blk.lt K4.out
      cases hpr : letr.toList.isEmpty with
      | false =>
        -- @V a
        rw [hpr] at hpe
        have h1 := selW_lt hkc
        have h2 := lens_letter Hl.out hrx hpe
        have hR9 : at' = RES := by have := HI.out; omega
        have HR9 := Lib.hid hR9
        clear hpr hpe h1 h2 hR9 hlen hkc
        go_wp2_with fail
        go_ret2
        exact ⟨by rw [Hsel.out, HR9.out]; rfl, HBw4.out⟩
      | true =>
        rw [hpr] at hpe
        obtain ⟨q1, q2, q3, q4, q5⟩ := lens_pair Hl.out hrx hpe
        have hW := W1_pair Hl.out hrx hpe
        rw [HRLo.out.1] at q1 q2 q5 hW
        rw [HRLo.out.2] at q3 q4 q5 hW
        obtain ⟨a, rfl⟩ := Int.eq_ofNat_of_zero_le q1
        obtain ⟨q, rfl⟩ := Int.eq_ofNat_of_zero_le q3
        simp only [Int.toNat_natCast] at q2 q4 q5 hW
        have hax : a < xs.length := by omega
        have hqx : q < xs.length := by omega
        have hla := W1_len Hl.out a hax
        have hza := lens_pos' Hl.out hax
        have hzq := lens_pos' Hl.out hqx
        have HLw4 := Lib.hid (HL.out.below HBw4.out)
        have HMw4 := Lib.hid (HM.out.below HBw4.out)
        obtain ⟨bl, ol, e1, e2, hcL⟩ := row_cell HLw4.out (by rw [Hll.out]; omega)
        have gL := hcL a _ (by rw [Hll.out]; exact hax) rfl
        subst e1
        obtain ⟨bm, om, f1, f2, hcM⟩ := arr_cell HMw4.out (many_len xs)
        have gM := hcM a l _ (many_at hax) hl4
        rw [cntR_get _ _ hl4] at gM
        have hML := many_len2 (show 0 < xs.length by omega)
        subst f1
        have hcl := cntW_le (ltr l) (W1 xs a)
        have hE := HI.out
        rw [hW] at hE hkc
        rw [cntW_app] at hkc
        have hsl := selW_app (ltr l) (W1 xs q) (W1 xs a) k
        have hP1 : k < cntW (ltr l) (W1 xs a) → at' + selW (ltr l) k (W1 xs a) = RES := fun h => by rw [hsl.1 h] at hE; exact hE
        have hP2 : cntW (ltr l) (W1 xs a) ≤ k → at' + (W1 xs a).length + selW (ltr l) (k - cntW (ltr l) (W1 xs a)) (W1 xs q) = RES ∧ k - cntW (ltr l) (W1 xs a) < cntW (ltr l) (W1 xs q) := fun h => by rw [hsl.2 h] at hE; omega
        have HP1 := Lib.hid hP1
        have HP2 := Lib.hid hP2
        obtain ⟨za, hzae⟩ : ∃ z : Nat, (W1 xs a).length = z := ⟨_, rfl⟩
        rw [hzae] at HP2 hla hcl
        rw [← hla] at gL hza q5
        have Hla := Lib.hid hla
        have Q5 := Lib.hid q5
        have i1 : (a : Int) < (xs.length : Int) := by omega
        have i3 : (a : Int) < (ls.length : Int) := by rw [Hll.out]; exact i1
        have i4 : (l : Int) < 4 := by omega
        have i5 : (a : Int) < ((manyL xs).length : Int) := by rw [hML]; exact i1
        have hkc9 : k < 2000000000000000 := by
          have h1 := cntW_le (ltr l) (W1 xs q)
          have h2 := W1_len Hl.out q hqx
          omega
        have hnn : (at' : Int) + za ≤ 1000000000000000 := by omega
        clear hcL hcM hzae hpr hW hE hsl hP1 hP2 q5 hkc hlen hla hML q1 q3
        go_upto_region 6 with fail
        have kB := (Below.refl w4.heap.size w4).alloc (Nat.le_refl _) (Obj.cells #[.string letr, .int .i64 (a : Int), .int .i64 (q : Int)] 111)
        have kN := Blk.new w4 #[.string letr, .int .i64 (a : Int), .int .i64 (q : Int)] 111
        generalize w4.alloc (Obj.cells #[.string letr, .int .i64 (a : Int), .int .i64 (q : Int)] 111) = w5 at *
        have d1 := Blk.cell (i := 1) (v := .int .i64 (a : Int)) kN rfl
        have d2 := Blk.cell (i := 2) (v := .int .i64 (q : Int)) kN rfl
        have ln := Blk.lt kN
        have KB := Lib.hid kB
        have y1 := (kB.cell (p := ⟨w.heap.size, 1, none⟩) lx).trans x1
        have y2 := (kB.cell (p := ⟨w.heap.size, 2, none⟩) lx).trans x2
        have h1 := (kB.cell (p := ⟨bm, om + a * 4 + l, none⟩) (by show bm < _; have : bm < w.heap.size := f2; omega)).trans gM
        have h3 := (kB.cell (p := ⟨bl, ol + a, none⟩) (by show bl < _; have : bl < w.heap.size := e2; omega)).trans gL
        clear gM gL kk0' kk1' kk2' kB kN x0 x1 x2
        obtain ⟨y, hy⟩ : ∃ y, cntW (ltr l) (W1 xs a) = y := ⟨_, rfl⟩
        rw [hy] at HP1 HP2 h1 hcl
        have Hy := Lib.hid hy
        clear hy
        by_cases hc : k < y
        · -- @V b
          have hcI : (k : Int) < (y : Int) := by omega
          go_wp2_with fail
          go_roundw
          case rel => exact ⟨k, at', a, rfl, rfl, rfl, hax, by rw [Hy.out]; exact hc, HP1.out hc, by rw [← Hla.out]; omega, (by repeat (first | exact Below.tr HB4.out KB.out | (refine Below.alloc ?_ (by first | omega | (simp; done) | (simp; omega)) _) | refine below_drewN ?_ _ | refine Below.drew ?_))⟩
          case measure => simp [intOf]; omega
        · -- @V c
          have hcI : ¬ (k : Int) < (y : Int) := by omega
          have hw1 : IntKind.i64.wrap ((k : Int) - (y : Int)) = ((k - y : Nat) : Int) := by rw [IntWalk.i64_in _ (by omega)]; omega
          have hw2 : IntKind.i64.wrap ((at' : Int) + (za : Int)) = ((at' + za : Nat) : Int) := by rw [IntWalk.i64_in _ (by omega)]; omega
          obtain ⟨m, hm⟩ : ∃ m : Nat, k - y = m := ⟨_, rfl⟩
          rw [hm] at hw1 HP2
          have hPP := HP2.out (by omega)
          have HPP := Lib.hid hPP
          clear hm hPP HP2
          go_wp2_with fail
          go_quiet (fail)
          go_wp2_with fail
          go_roundw
          case rel => exact ⟨m, at' + za, q, rfl, rfl, rfl, hqx, HPP.out.2, HPP.out.1, by have := Q5.out; omega, (by repeat (first | exact Below.tr HB4.out KB.out | (refine Below.alloc ?_ (by first | omega | (simp; done) | (simp; omega)) _) | refine below_drewN ?_ _ | refine Below.drew ?_))⟩
          case measure => simp [intOf]; omega
  · -- @V d
    have hkI : topc xs l ≤ (k0 : Int) := by unfold topc; omega
    have Hsel := Lib.hid (show selR xs l k0 = .tuple #[.int .i64 0, .bool false] by rw [selR, if_neg hk])
    clear hk
    go_wp2_with fail
    go_ret2
    exact ⟨by rw [Hsel.out]; rfl, B2.out⟩
structure KJ (w0 : World) (bs : Nat) (C : Nat → Prop) (s : Nat) (w : World) : Prop where
  wk : Wk (fun b => b < w0.heap.size ∧ b ≠ bs) w0 w
  cell : w.cell? ⟨bs, 0, none⟩ = some (.int .i64 (s : Int))
  fr : w.frozen? ⟨bs, 0, none⟩ = false
  nc : ¬ C bs
theorem KJ.ext {w0 : World} {bs : Nat} (hbs : bs < w0.heap.size) : ∀ C s w w', KJ w0 bs C s w → Below w.heap.size w w' → (∀ b, C b → b < w.heap.size) → KJ w0 bs (ext C w.heap.size w'.heap.size) s w' := by
  intro C s w w' h hb hC
  have hsz := h.wk.size
  refine ⟨h.wk.trans (Wk.of_below hb fun k hk => by have := hk.1; omega), (hb.cell (p := ⟨bs, 0, none⟩) (by show bs < _; omega)).trans h.cell, (hb.frozen (p := ⟨bs, 0, none⟩) (by show bs < _; omega)).trans h.fr, ?_⟩
  intro h'
  rcases h' with h' | h'
  · exact h.nc h'
  · omega
def stepC (xs : List GRule) (l s r : Nat) : Nat := s + cntW (ltr l) (W1 xs r)
set_option maxRecDepth 100000 in
set_option maxHeartbeats 2000000 in
theorem rankCl_any (w0 : World) (bc bs bl l : Nat) (vM v0 v1 : Value) (t t2 : TypeId) (xs : List GRule) (hl4 : l < 4) (h1 : bc ≠ bs) (h2 : bl ≠ bs) (hbs : bs < w0.heap.size) (hc : Blk w0 bc #[v0, v1, vM] t) (hl : Blk w0 bl #[.int .u8 (l : Int)] t2) (hM : SlS ArrE w0 (fun b => b < w0.heap.size ∧ b ≠ bs) vM (manyL xs)) :
    ∀ C s (r : Nat) (w : World), KJ w0 bs C s w → s + cntW (ltr l) (W1 xs r) ≤ 1000000000000000 → r < xs.length → (∀ b, C b → b < w.heap.size) → Calls Try.prog 107 (#[.int .i64 r] ++ #[.pointer (some ⟨bs, 0, none⟩), .pointer (some ⟨bc, 0, none⟩), .pointer (some ⟨bl, 0, none⟩)]) w (TakePost (KJ w0 bs) C (stepC xs l s r) w) := by
  intro C s r w hJ hbd hr hC
  have HJ := Lib.hid hJ
  have HC := Lib.hid hC
  obtain ⟨AM, c, rfl, _, hmx, hrow⟩ := (hM.keep hJ.wk.keep)
  obtain ⟨b, o, rfl, hbb, hcells⟩ := arr_cell (n := (manyL xs).length) (c := c) ⟨AM, c, rfl, ‹_›, hmx, hrow⟩ (many_len xs)
  have d3 := hcells r l _ (many_at hr) hl4
  rw [cntR_get _ _ hl4] at d3
  obtain ⟨y, hy⟩ : ∃ y, cntW (ltr l) (W1 xs r) = y := ⟨_, rfl⟩
  rw [hy] at d3 hbd
  have hst : stepC xs l s r = s + y := by unfold stepC; rw [hy]
  have Hst := Lib.hid hst
  have x2 := hJ.wk.cell (k := bc) (o := 2) ⟨Blk.lt hc, h1⟩ (Blk.cell (i := 2) (v := .slice (some ⟨b, o, none⟩) (manyL xs).length c) hc rfl)
  have y2 := hJ.wk.cell (k := bl) (o := 0) ⟨Blk.lt hl, h2⟩ (Blk.cell (i := 0) (v := .int .u8 (l : Int)) hl rfl)
  have xs' := hJ.cell
  have xf := hJ.fr
  have hsz := hJ.wk.size
  have y1 : bs < w.heap.size := by omega
  have i1 : (r : Int) < ((manyL xs).length : Int) := by rw [many_len2 (by omega)]; omega
  have i2 : (l : Int) < 4 := by omega
  have hw : IntKind.i64.wrap ((s : Int) + (y : Int)) = (s : Int) + (y : Int) := IntWalk.i64_in _ (by omega)
  unfold maxLen at hmx
  clear hcells hst hrow hM hJ hC hy
  show Calls Try.prog 107 #[.int .i64 r, .pointer (some ⟨bs, 0, none⟩), .pointer (some ⟨bc, 0, none⟩), .pointer (some ⟨bl, 0, none⟩)] w _
  go_enter Try.func107, Try.ntmps107
  go_wp2_with fail
  go_still_tail 9, (by kernel_rfl)
  change wpList _ _ _ _ _ w.drew
  go_wp2_with fail
  go_end0
  refine ⟨rfl, C, fun _ h => h, ?_, ⟨?_, ?_, ?_, HJ.out.nc⟩, ?_⟩
  · intro b h
    have := HC.out b h
    simpa [World.setCell] using this
  · exact HJ.out.wk.trans (Wk.set fun h => h.2 rfl)
  · rw [Hst.out]; simp [go_sem, xs']
  · simp [go_sem, xf]
  · exact Wk.set HJ.out.nc
theorem foldC (xs : List GRule) (l : Nat) : ∀ (L : List Nat) (s : Nat), L.foldl (stepC xs l) s = s + (L.map (fun r => cntW (ltr l) (W1 xs r))).sum := by
  intro L
  induction L with
  | nil => intro s; simp
  | cons r L ih => intro s; rw [List.foldl_cons, ih, List.map_cons, List.sum_cons]; unfold stepC; omega
set_option maxRecDepth 100000 in
set_option maxHeartbeats 4000000 in
theorem rank_any (v : Value) (xs : List GRule) (ls : List Int) (l : Nat) (j : Int) (w : World) (h : CenV w w.heap.size v xs ls) (hl : lens xs = some ls) (hn : xs.length ≤ 1048576) (hl4 : l < 4) :
    Calls Try.prog 90 #[v, .int .u8 (l : Int), .int .i64 j] w fun e w' => e = .returned (.int .i64 (cntW (ltr l) ((wordG xs).take j.toNat) : Nat)) ∧ Below w.heap.size w w' := by
  obtain ⟨vR, vL, vM, rfl, hR, hL, hM⟩ := h
  have HR := Lib.hid hR
  have HL := Lib.hid hL
  have HM := Lib.hid hM
  have Hl := Lib.hid hl
  obtain ⟨AR, cR, rfl, _⟩ := hR
  obtain ⟨AL, cL, rfl, _⟩ := hL
  obtain ⟨AM, cM, rfl, _⟩ := hM
  go_enter Try.func90, Try.ntmps90
  go_upto_region 2 with fail
  have hb0 := (((Below.refl w.heap.size w).alloc (Nat.le_refl _) (Obj.cells #[.slice AR xs.length cR, .slice AL ls.length cL, .slice AM (manyL xs).length cM] 99)).alloc (by simp) (Obj.cells #[.int .u8 (l : Int)] 5)).alloc (by simp; omega) (Obj.cells #[.int .i64 0] 2)
  have kc := ((Blk.new w #[.slice AR xs.length cR, .slice AL ls.length cL, .slice AM (manyL xs).length cM] 99).alloc (Obj.cells #[.int .u8 (l : Int)] 5)).alloc (Obj.cells #[.int .i64 0] 2)
  have kl := (Blk.new (w.alloc (Obj.cells #[.slice AR xs.length cR, .slice AL ls.length cL, .slice AM (manyL xs).length cM] 99)) #[.int .u8 (l : Int)] 5).alloc (Obj.cells #[.int .i64 0] 2)
  have ko := Blk.new ((w.alloc (Obj.cells #[.slice AR xs.length cR, .slice AL ls.length cL, .slice AM (manyL xs).length cM] 99)).alloc (Obj.cells #[.int .u8 (l : Int)] 5)) #[.int .i64 0] 2
  rw [show (w.alloc (Obj.cells #[.slice AR xs.length cR, .slice AL ls.length cL, .slice AM (manyL xs).length cM] 99)).heap.size = w.heap.size + 1 by simp] at kl
  rw [show ((w.alloc (Obj.cells #[.slice AR xs.length cR, .slice AL ls.length cL, .slice AM (manyL xs).length cM] 99)).alloc (Obj.cells #[.int .u8 (l : Int)] 5)).heap.size = w.heap.size + 1 + 1 by simp] at ko
  have hzz : (((w.alloc (Obj.cells #[.slice AR xs.length cR, .slice AL ls.length cL, .slice AM (manyL xs).length cM] 99)).alloc (Obj.cells #[.int .u8 (l : Int)] 5)).alloc (Obj.cells #[.int .i64 0] 2)).heap.size = w.heap.size + 3 := by simp
  generalize ((w.alloc (Obj.cells #[.slice AR xs.length cR, .slice AL ls.length cL, .slice AM (manyL xs).length cM] 99)).alloc (Obj.cells #[.int .u8 (l : Int)] 5)).alloc (Obj.cells #[.int .i64 0] 2) = w0 at *
  have HZ := Lib.hid hzz
  have HB0 := Lib.hid hb0
  have KC := Lib.hid kc
  have KL := Lib.hid kl
  have x0 := Blk.cell (i := 0) (v := .slice AR xs.length cR) kc rfl
  have x1 := Blk.cell (i := 1) (v := .slice AL ls.length cL) kc rfl
  have lc := Blk.lt kc
  have hxs := Blk.cell (i := 0) (v := .int .i64 0) ko rfl
  have hxf := Blk.frozen ko 0
  have lo := Blk.lt ko
  have Hxs := Lib.hid hxs
  have hpw := cnt_pieces (c := ltr l) Hl.out (i := 0) (j := j)
  have hpl : cntW (ltr l) (cutL (wordG xs) 0 j) ≤ 1000000000000000 := by
    have h1 := cntW_le (ltr l) (cutL (wordG xs) 0 j)
    have h2 := wordG_len Hl.out
    have h3 := (lastI_bounds Hl.out).2
    have h4 : (cutL (wordG xs) 0 j).length ≤ (wordG xs).length := by unfold cutL; rw [List.length_drop, List.length_take]; omega
    omega
  have hruns : Runs (stepC xs l) (fun s r => s + cntW (ltr l) (W1 xs r) ≤ 1000000000000000) 0 (piecesL xs ls 0 j) := fun l1 r l2 e => by
    rw [foldC, Nat.zero_add]
    rw [e, List.map_append, List.sum_append, List.map_cons, List.sum_cons] at hpw
    omega
  have hfold : (piecesL xs ls 0 j).foldl (stepC xs l) 0 = cntW (ltr l) ((wordG xs).take j.toNat) := by
    rw [foldC, Nat.zero_add, hpw]
    unfold cutL; simp
  have Hfold := Lib.hid hfold
  have Hruns := Lib.hid hruns
  clear hl hb0 kc kl ko hzz hpw hpl hruns hfold
  go_wp2_with fail
  refine (pieces_any (KJ w0 (w.heap.size + 1 + 1)) (stepC xs l) (fun s r => s + cntW (ltr l) (W1 xs r) ≤ 1000000000000000) 107 #[.pointer (some ⟨w.heap.size + 1 + 1, 0, none⟩), .pointer (some ⟨w.heap.size, 0, none⟩), .pointer (some ⟨w.heap.size + 1, 0, none⟩)] xs ls 0 j Hl.out (by omega) (enters_of Try.func107 (by kernel_rfl) rfl) (fun C s w w' hJ hb _ hC => KJ.ext lo C s w w' hJ hb hC) ?_ _ _ 0 (fun b => b < w.heap.size) w0 ?_ Hruns.out ?_ ?_ ?_).mono ?_
  · intro C s r w' hJ hok hr hC
    exact rankCl_any w0 w.heap.size (w.heap.size + 1 + 1) (w.heap.size + 1) l _ _ _ _ _ xs hl4 (by omega) (by omega) lo KC.out KL.out ((HM.out.keep (Keep.of_below HB0.out)).more fun b hb => ⟨by have := HZ.out; omega, by omega⟩) C s r w' hJ hok hr hC
  · exact ⟨Wk.refl _ _, Hxs.out, hxf, by omega⟩
  · intro b hb
    have := HZ.out
    omega
  · exact (HL.out.keep (Keep.of_below HB0.out))
  · exact (HR.out.keep (Keep.of_below HB0.out))
  · rintro e w2 ⟨rfl, C2, g1, g2, g3, g4⟩
    have hc := g3.cell
    have Hw := Lib.hid (HB0.out.trans (g3.wk.below (B := w.heap.size) fun k hk => ⟨by have := HZ.out; omega, by omega⟩))
    rw [Hfold.out] at hc
    have hsz := g3.wk.size
    have l2 : w.heap.size + 1 + 1 < w2.heap.size := by omega
    clear g1 g2 g3 g4 hxs hxf x0 x1
    obtain ⟨R, hR⟩ : ∃ R, cntW (ltr l) ((wordG xs).take j.toNat) = R := ⟨_, rfl⟩
    rw [hR] at hc
    have HRR := Lib.hid hR
    clear hR
    go_wp2_with fail
    go_ret
    exact ⟨ret_int (by rw [HRR.out]), Hw.out⟩
def elO (xs : List GRule) (p : ByteArray) : Option (List Nat) := embL (wordG xs) p.data.toList.reverse (wordG xs).length
def elV (xs : List GRule) (p : ByteArray) : List Int := if gramOk xs && wordOk p then ((elO xs p).getD []).reverse.map Int.ofNat else []
def elC (xs : List GRule) (p : ByteArray) : Int := if gramOk xs && wordOk p then (if (elO xs p).isNone then 6 else 0) else 1
def EmbPost (xs : List GRule) (p : ByteArray) (w : World) (e : Ending) (w' : World) : Prop := ∃ v, e = .returned (.tuple #[v, .int .i64 (elC xs p)]) ∧ OwnInts w' w.heap.size v (elV xs p) ∧ Below w.heap.size w w'
theorem letter_ok {p : ByteArray} (h : wordOk p = true) {i : Nat} (hi : i < p.size) : 97 ≤ p[i].toNat ∧ p[i].toNat ≤ 100 := by
  unfold wordOk at h
  rw [Bool.and_eq_true] at h
  have := List.all_eq_true.1 h.2 p[i] (by show p.data[i] ∈ p.data.toList; simp)
  simp only [letOk, Bool.and_eq_true, decide_eq_true_eq] at this
  omega
theorem rev_drop {p : ByteArray} {j : Nat} (hj : j + 1 ≤ p.size) : p.data.toList.reverse.drop (p.size - (j + 1)) = p[j] :: p.data.toList.reverse.drop (p.size - j) := by
  have hl : p.data.toList.reverse.length = p.size := by rw [List.length_reverse, Array.length_toList]; rfl
  have h1 := List.drop_eq_getElem_cons (l := p.data.toList.reverse) (i := p.size - (j + 1)) (by omega)
  rw [h1, show p.size - (j + 1) + 1 = p.size - j by omega]
  congr 1
  rw [List.getElem_reverse]
  have e : p.data.toList.length - 1 - (p.size - (j + 1)) = j := by
    have : p.data.toList.length = p.size := by rw [Array.length_toList]; rfl
    omega
  simp only [e]
  show _ = p.data[j]
  simp
theorem rep_set (j : Nat) (D : List Int) (x : Int) : (List.replicate (j + 1) 0 ++ D).set j x = List.replicate j 0 ++ (x :: D) := by
  rw [List.replicate_succ', List.append_assoc, List.set_append_right _ _ (by simp)]
  simp
set_option maxRecDepth 100000 in
set_option maxHeartbeats 8000000 in
theorem specEmbedLast_any (vR : Value) (xs : List GRule) (p : ByteArray) (w : World) (hR : Sl RuleE w w.heap.size vR xs) (hsm : SmallL xs) (hn : xs.length ≤ 1048576) (hps : p.size ≤ maxLen) :
    Calls Try.prog 11 #[.agg #[vR], .string p] w (EmbPost xs p w) := by
  have HR := Lib.hid hR
  have HSm := Lib.hid hsm
  obtain ⟨AR, cR, rfl, _⟩ := hR
  go_enter Try.func11, Try.ntmps11
  go_upto_region 1 with fail
  have ka := (Below.refl w.heap.size w).alloc (Nat.le_refl _) (Obj.cells #[.slice AR xs.length cR] 30)
  have kg := Blk.new w #[.slice AR xs.length cR] 30
  generalize w.alloc (Obj.cells #[.slice AR xs.length cR] 30) = w1 at *
  have B1 := Lib.hid ka
  have HR1 := Lib.hid (HR.out.up ka)
  have KG := Lib.hid kg
  have g0 := Blk.cell (i := 0) (v := .slice AR xs.length cR) kg rfl
  have gl := Blk.lt kg
  clear ka kg hsm
  go_wp2_with fail
  refine (l02Ok_any w.heap.size 0 _ xs w1 g0 gl HR1.out HSm.out).mono ?_
  rintro r w2 ⟨rfl, hb2⟩
  have B2 := Lib.hid (Below.tr B1.out hb2)
  have HR2 := Lib.hid (HR1.out.up hb2)
  have K2 := Lib.hid (KG.out.up hb2)
  clear hb2 g0 gl
  have hbad : elC xs p = 1 → elV xs p = [] → ∀ wx : World, Below w.heap.size w wx → EmbPost xs p w (.returned (.tuple #[.slice (some ⟨wx.heap.size, 0, none⟩) 0 0, .int .i64 1])) (wx.alloc (Obj.cells #[] 2)) := fun h1 h2 wx hb => by
    refine ⟨_, by rw [h1], ?_, hb.alloc hb.size _⟩
    rw [h2]; exact OwnInts.empty rfl hb.size
  have Hbad := Lib.hid hbad
  clear hbad
  cases hg : gramOk xs with
  | false =>
    have Hc := Lib.hid (show elC xs p = 1 ∧ elV xs p = [] by unfold elC elV; rw [hg]; exact ⟨rfl, rfl⟩)
    clear hg
    go_wp2_with fail
    go_ret2
    exact Hbad.out Hc.out.1 Hc.out.2 _ B2.out
  | true =>
    have Hg := Lib.hid hg
    clear hg
    go_wp2_with fail
    refine (l01Ok_any p _ hps).mono ?_
    rintro r w3 ⟨rfl, rfl⟩
    cases hw : wordOk p with
    | false =>
      have Hc := Lib.hid (show elC xs p = 1 ∧ elV xs p = [] by unfold elC elV; rw [Hg.out, hw]; exact ⟨rfl, rfl⟩)
      clear hw
      go_wp2_with fail
      go_ret2
      exact Hbad.out Hc.out.1 Hc.out.2 _ B2.out
    | true =>
      obtain ⟨h4, ls, hl⟩ := gram_lens Hg.out
      have Hl := Lib.hid hl
      have Hw := Lib.hid hw
      have Hc := Lib.hid (show elC xs p = (if (elO xs p).isNone then 6 else 0) ∧ elV xs p = ((elO xs p).getD []).reverse.map Int.ofNat by unfold elC elV; rw [Hg.out, hw]; exact ⟨rfl, rfl⟩)
      have h2000 : p.size ≤ 2000 := by
        unfold wordOk at hw
        rw [Bool.and_eq_true] at hw
        have := of_decide_eq_true hw.1
        omega
      clear hw hl
      have g0 := Blk.cell (i := 0) (v := .slice AR xs.length cR) K2.out rfl
      have gl := Blk.lt K2.out
      go_wp2_with fail
      refine (l02Lengths_any w.heap.size 0 _ xs _ g0 gl HR2.out HSm.out).mono ?_
      rintro e w6 ⟨hb6, vL, ls', rfl, own6, hls⟩
      have els : ls' = ls := hls h4 ls Hl.out
      subst els
      have HL6 := Lib.hid own6.sl
      have HR6 := Lib.hid (HR2.out.up hb6)
      have B6 := Lib.hid (Below.tr B2.out hb6)
      have K6 := Lib.hid (K2.out.up hb6)
      obtain ⟨AL, cL, rfl, _⟩ := own_nil own6
      have h4I : (decide (xs.length ≤ 400) && (lens xs).isSome) = true := by rw [Hl.out]; simp [h4]
      rw [h4I]
      clear hb6 hls own6 g0 gl h4I
      have g0 := Blk.cell (i := 0) (v := .slice AR xs.length cR) K6.out rfl
      have gl := Blk.lt K6.out
      go_wp2_with fail
      refine (l05Counts_any _ w.heap.size xs ls' _ HR6.out Hl.out (by omega) g0 gl).mono ?_
      rintro e w7 ⟨vC, rfl, hC, hb7⟩
      have HC7 := Lib.hid (hC.more (S' := fun b => b < w7.heap.size) fun _ h => h.2)
      obtain ⟨AC, cC, rfl, _⟩ := hC
      have HR7 := Lib.hid (HR6.out.up hb7)
      have HL7 := Lib.hid (HL6.out.up hb7)
      have B7 := Lib.hid (Below.tr B6.out hb7)
      have K7 := Lib.hid (K6.out.up hb7)
      clear hb7 g0 gl
      have g0 := Blk.cell (i := 0) (v := .slice AR xs.length cR) K7.out rfl
      have gl := Blk.lt K7.out
      go_wp2_with fail
      refine (l02Length_any w.heap.size 0 _ xs ls' _ Hl.out g0 gl HR7.out HSm.out (by omega)).mono ?_
      rintro e w8 ⟨rfl, hb8⟩
      have HR8 := Lib.hid (HR7.out.up hb8)
      have HL8 := Lib.hid (HL7.out.up hb8)
      have HC8 := Lib.hid (HC7.out.up hb8)
      have B8 := Lib.hid (Below.tr B7.out hb8)
      have K8 := Lib.hid (K7.out.up hb8)
      have hwl := wordG_len Hl.out
      have hbl := lastI_bounds Hl.out
      obtain ⟨N, hN⟩ : ∃ N, (wordG xs).length = N := ⟨_, rfl⟩
      rw [hN] at hwl
      rw [← hwl]
      have HN := Lib.hid hN
      have HwL := Lib.hid hwl
      have hN9 : N ≤ 1000000000000000 := by omega
      have hmk : ∀ W : World, (Instr.makeSlice 34 (.int .i64 (p.size : Int)) (.int .i64 (p.size : Int))).run Try.prog W = .ok (.slice (some ⟨W.heap.size, 0, none⟩) p.size p.size) (W.alloc (.cells (madeCells #[.int .i64 0] p.size) 2)) :=
        fun W => run_make_row' _ _ _ 8 Try.underlying34 Try.infoI rfl .i64 .i64 p.size (by omega) (by omega) W
      clear hb8 g0 gl hN hwl hbl
      go_upto_region 7 with fail
      have kb := (Below.refl w8.heap.size w8).alloc (Nat.le_refl _) (Obj.cells (madeCells #[.int .i64 0] p.size) 2)
      have kO : OwnInts (w8.alloc (Obj.cells (madeCells #[.int .i64 0] p.size) 2)) w8.heap.size (.slice (some ⟨w8.heap.size, 0, none⟩) p.size p.size) (List.replicate p.size 0) := by
        have h1 : (madeCells #[Value.int .i64 0] p.size).toList = (List.replicate p.size (0 : Int)).map (Value.int .i64) := by rw [toList_madeCells_one, List.map_replicate]
        have := World.ownsRow_lit (base := w8.heap.size) (e := 2) (size := 1) w8 (madeCells #[.int .i64 0] p.size) p.size (Nat.le_refl _) (by unfold maxLen; omega) (by rw [← Array.length_toList, h1]; simp)
        rw [h1] at this
        unfold OwnInts
        rw [List.length_replicate]
        exact this
      generalize w8.alloc (Obj.cells (madeCells #[.int .i64 0] p.size) 2) = w9 at *
      have HR9 := Lib.hid (HR8.out.up kb)
      have HL9 := Lib.hid (HL8.out.up kb)
      have HC9 := Lib.hid (HC8.out.up kb)
      have B9 := Lib.hid (Below.tr B8.out kb)
      have K9 := Lib.hid (K8.out.up kb)
      have KO := Lib.hid kO
      have KB := Lib.hid kb
      have kz := kb.size
      have kw := B8.out.size
      have kl : w8.heap.size < w9.heap.size := (World.ownsRow.lt kO _ rfl).2
      have hw0 : IntKind.i64.wrap ((p.size : Int) - 1) = (p.size : Int) - 1 := IntWalk.i64_in _ (by omega)
      clear kb kO hmk
      rw [cntsL_len]
      go_wp2_with fail
      go_loopw [9, 11] (fun vt vi wx => ∃ (iv : Int) (j t : Nat) (D : List Nat), vi = .int .i64 iv ∧ iv = (j : Int) - 1 ∧ vt = .int .i64 (t : Int) ∧ j ≤ p.size ∧ t ≤ N ∧ Below w8.heap.size w8 wx ∧ OwnInts wx w8.heap.size (.slice (some ⟨w8.heap.size, 0, none⟩) p.size p.size) (List.replicate j 0 ++ D.reverse.map Int.ofNat) ∧ D.length + j = p.size ∧
        Hid (elO xs p = (embL (wordG xs) (p.data.toList.reverse.drop (p.size - j)) t).map (D ++ ·))) (fun _ vi _ => (intOf vi + 1).toNat)
      case atStart =>
        refine ⟨_, p.size, N, [], rfl, rfl, rfl, Nat.le_refl _, Nat.le_refl _, KB.out, by simpa using KO.out, by simp, ?_⟩
        show elO xs p = _
        unfold elO
        rw [HN.out, Nat.sub_self, List.drop_zero]
        simp
      case round =>
        obtain ⟨iv, j, t, D, rfl, hiv, rfl, hj, ht, hb, hown, hDl, HE⟩ := hrel
        have HB := Lib.hid hb
        have hbw : Below w8.heap.size w8 wr := hb
        have HBw := Lib.hid hbw
        have hzw : w8.heap.size < wr.heap.size := (World.ownsRow.lt hown _ rfl).2
        have Hown := Lib.hid hown
        have HDl := Lib.hid hDl
        have hlen0 : (List.replicate j (0 : Int) ++ D.reverse.map Int.ofNat).length = p.size := by simp; omega
        have Hlen0 := Lib.hid hlen0
        clear hb hown hlen0 hDl
        by_cases hj0 : j = 0
        · -- @V a
          subst hj0
          have hv : iv = -1 := by omega
          subst hv
          have hE := HE.out
          rw [Nat.sub_zero, List.drop_of_length_le (by rw [List.length_reverse, Array.length_toList]; exact Nat.le_refl _), embL] at hE
          have hE2 : elO xs p = some D := by rw [hE]; simp
          have Hv := Lib.hid (show elC xs p = 0 ∧ elV xs p = D.reverse.map Int.ofNat by rw [Hc.out.1, Hc.out.2, hE2]; exact ⟨rfl, rfl⟩)
          clear hE hE2 hiv
          go_wp2_with fail
          go_ret2
          refine ⟨.slice (some ⟨w8.heap.size, 0, none⟩) p.size p.size, by rw [Hv.out.1]; rfl, ?_, B8.out.trans (HBw.out.mono kw)⟩
          rw [Hv.out.2]
          have h9 := Hown.out
          rw [List.replicate_zero, List.nil_append] at h9
          exact ownsRow_more h9 kw
        · obtain ⟨m, rfl⟩ : ∃ m, j = m + 1 := ⟨j - 1, by omega⟩
          have hv : iv = (m : Int) := by omega
          subst hv
          have hmp : m < p.size := by omega
          obtain ⟨c1, c2⟩ := letter_ok Hw.out hmp
          obtain ⟨l, hl⟩ : ∃ l, p[m].toNat = 97 + l := ⟨p[m].toNat - 97, by omega⟩
          have hl4 : l < 4 := by omega
          have hlc : ltr l = p[m] := by have := ltr_of c1 c2; rwa [show p[m].toNat - 97 = l by omega] at this
          have hlet : ∀ W, Calls Try.prog 46 #[.int .u8 p[m].toNat] W fun e w' => e = .returned (.int .i64 (l : Int)) ∧ W = w' := fun W => by
            have := l04Letter_any p[m] W c1 c2
            rwa [show p[m].toNat - 97 = l by omega] at this
          have HlE := Lib.hid hlet
          have hE := HE.out
          rw [rev_drop (by omega), embL, ← hlc] at hE
          have HE2 := Lib.hid hE
          have Hlc := Lib.hid hlc
          have hmI : (m : Int) < (p.size : Int) := by omega
          have HRw := Lib.hid ((HR8.out.below HBw.out).le (B' := wr.heap.size) (by omega))
          have HLw := Lib.hid ((HL8.out.below HBw.out).le (B' := wr.heap.size) (by omega))
          have HCw := Lib.hid ((HC8.out.below HBw.out).le (B' := wr.heap.size) (by omega))
          have hgs := Blk.lt K8.out
          have K10 := Lib.hid (K8.out.upB HBw.out hgs)
          have g0 := Blk.cell (i := 0) (v := .slice AR xs.length cR) K10.out rfl
          have gl := Blk.lt K10.out
          clear hE hlc hlet hiv hj0 c1 c2 hl hbw
          go_wp2_with fail
          refine (HlE.out _).mono ?_
          rintro e w10 ⟨rfl, rfl⟩
          go_wp2_with fail
          have hrk := l05Rank_any w.heap.size l (t : Int) _ _ _ xs ls' wr HRw.out HLw.out HCw.out Hl.out (by omega) g0 gl hl4 (by rw [← HwL.out]; omega)
          rw [cntsL_len] at hrk
          refine hrk.mono ?_
          rintro e w11 ⟨rfl, hb11⟩
          rw [Int.toNat_natCast]
          obtain ⟨K, hK⟩ : ∃ K, cntW (ltr l) ((wordG xs).take t) = K := ⟨_, rfl⟩
          rw [hK] at HE2 ⊢
          have hKc := cnt_take_all (ltr l) (wordG xs) t
          have hKb := cntW_le (ltr l) ((wordG xs).take t)
          rw [List.length_take] at hKb
          rw [hK] at hKc hKb
          have HB11 := Lib.hid (HBw.out.trans (hb11.mono (by omega)))
          have Hown11 := Lib.hid (ownsRow_below Hown.out hb11)
          have hz11 := hb11.size
          have K11 := Lib.hid (K10.out.up hb11)
          have HR11 := Lib.hid (HRw.out.up hb11)
          have HL11 := Lib.hid (HLw.out.up hb11)
          have HC11 := Lib.hid (HCw.out.up hb11)
          clear hb11 hrk hK g0 gl
          by_cases hK0 : K = 0
          · -- @V b
            subst hK0
            have hE3 : elO xs p = none := by rw [HE2.out, if_pos rfl]; rfl
            have Hv := Lib.hid (show elC xs p = 6 ∧ elV xs p = [] by rw [Hc.out.1, Hc.out.2, hE3]; exact ⟨rfl, rfl⟩)
            clear hE3 hKc hKb
            go_wp2_with fail
            go_ret2
            refine ⟨.slice (some ⟨w11.heap.size, 0, none⟩) 0 0, by rw [Hv.out.1]; rfl, ?_, (B8.out.trans (HB11.out.mono kw)).alloc (by omega) _⟩
            rw [Hv.out.2]; exact OwnInts.empty rfl (by omega)
          · have hK1 : ¬ (K : Int) = 0 := by omega
            have hKb2 : ((K : Int) == 0) = false := by rw [beq_eq_false_iff_ne]; omega
            have hw1 : IntKind.i64.wrap ((K : Int) - 1) = ((K - 1 : Nat) : Int) := by rw [IntWalk.i64_in _ (by omega)]; omega
            obtain ⟨k, hk⟩ : ∃ k : Nat, K - 1 = k := ⟨_, rfl⟩
            rw [hk] at hw1
            have hE3 := HE2.out
            rw [if_neg hK0, hk] at hE3
            have hsl : selW (ltr l) k (wordG xs) < N := by rw [← HN.out]; exact selW_lt (by omega)
            have hsel := fun (g0 : _) (gl : _) => l05Select_any w.heap.size l k (.slice AR xs.length cR) (.slice AL ls'.length cL) (.slice AC (cntsL xs xs.length).length cC) xs ls' w11 HR11.out HL11.out HC11.out Hl.out (by omega) g0 gl hl4 (by omega)
            have g0 := Blk.cell (i := 0) (v := .slice AR xs.length cR) K11.out rfl
            have gl := Blk.lt K11.out
            have hsel2 := hsel g0 gl
            rw [cntsL_len] at hsel2
            obtain ⟨S, hS⟩ : ∃ S, selW (ltr l) k (wordG xs) = S := ⟨_, rfl⟩
            rw [hS] at hE3 hsl hsel2
            have HE3 := Lib.hid hE3
            have HSel := Lib.hid hsel2
            clear hsel hsel2 hE3 hk hK0 hKc hKb hS HE2 HE
            go_wp2_with fail
            refine HSel.out.mono ?_
            rintro e w12 ⟨rfl, hb12⟩
            have HB12 := Lib.hid (HB11.out.trans (hb12.mono (by omega)))
            have Hown12 := Lib.hid (ownsRow_below Hown11.out hb12)
            have hz12 := hb12.size
            have hx12 : OwnInts w12 w8.heap.size (.slice (some ⟨w8.heap.size, 0, none⟩) p.size p.size) (List.replicate (m + 1) 0 ++ D.reverse.map Int.ofNat) := by
              have h := Hown12.out
              unfold OwnInts
              rw [Hlen0.out] at h ⊢
              exact h
            have Hx12 := Lib.hid hx12
            have fz : w12.frozen? ⟨w8.heap.size, m, none⟩ = false := by
              have h := hx12
              unfold OwnInts at h
              rw [Hlen0.out] at h
              exact World.ownsRow.frozenAt h m
            have ce : ∃ u, w12.cell? ⟨w8.heap.size, m, none⟩ = some u := by
              have h := hx12
              unfold OwnInts at h
              rw [Hlen0.out] at h
              have h2 := World.ownsRow.cellAt h m (by omega)
              rw [List.getElem?_eq_getElem (by rw [List.length_map, Hlen0.out]; exact hmp)] at h2
              exact ⟨_, h2⟩
            obtain ⟨u0, ce⟩ := ce
            have lO : w8.heap.size < w12.heap.size := by omega
            have hwm : IntKind.i64.wrap ((m : Int) - 1) = (m : Int) - 1 := IntWalk.i64_in _ (by omega)
            clear hb12 hx12 g0 gl
            go_wp2_with fail
            go_roundw
            case rel =>
              refine ⟨_, m, S, D ++ [S], rfl, by omega, rfl, by omega, by omega, ?_, ?_, by rw [List.length_append]; have := HDl.out; simp; omega, ?_⟩
              · exact (by repeat (first | exact HB12.out | (refine Below.alloc ?_ (by first | omega | (simp; done) | (simp; omega)) _) | (refine Below.setCell ?_ (by first | exact Nat.le_refl _ | (show _ ≤ _; omega) | (simp; done) | (simp; omega)) _) | refine below_drewN ?_ _ | refine Below.drew ?_))
              · have h := OwnInts.stored Hx12.out Hlen0.out m (S : Int)
                rw [rep_set] at h
                simpa using h
              · show elO xs p = _
                rw [HE3.out, Option.map_map]
                congr 1
                funext L
                simp
            case measure => simp [intOf]
theorem keepR3 {wr W : World} {x : Nat} {t : TypeId} {c0 c1 c2 : Value} (hx : Blk wr x #[c0, c1, c2] t) (h : Below wr.heap.size wr W) :
    Below wr.heap.size wr W ∧ W.cell? ⟨x, 0, none⟩ = some c0 ∧ W.cell? ⟨x, 1, none⟩ = some c1 ∧ W.cell? ⟨x, 2, none⟩ = some c2 := by
  have h2 := hx.up h
  exact ⟨h, h2.cell rfl, h2.cell rfl, h2.cell rfl⟩
theorem drop_cons {p : ByteArray} {i : Nat} (h : i < p.size) : p.data.toList.drop i = p[i] :: p.data.toList.drop (i + 1) := by
  have hl : p.data.toList.length = p.size := by rw [Array.length_toList]; rfl
  rw [List.drop_eq_getElem_cons (by omega)]
  congr 1
set_option maxRecDepth 100000 in
set_option maxHeartbeats 8000000 in
theorem embed_any (v : Value) (xs : List GRule) (ls : List Int) (p : ByteArray) (w : World) (h : CenV w w.heap.size v xs ls) (hl : lens xs = some ls) (hn : xs.length ≤ 1048576) (hp : wordOk p = true) (hp2 : p.size ≤ 2000) :
    Calls Try.prog 65 #[v, .string p] w fun e w' => ∃ v', e = .returned v' ∧ OwnInts w' w.heap.size v' ((embF (wordG xs) p.data.toList 0).map Int.ofNat) ∧ Below w.heap.size w w' := by
  have HV := Lib.hid h
  obtain ⟨vR, vL, vM, rfl, hR, hL, hM⟩ := h
  have Hl := Lib.hid hl
  have Hp := Lib.hid hp
  obtain ⟨AR, cR, rfl, _⟩ := hR
  obtain ⟨AL, cL, rfl, _⟩ := hL
  obtain ⟨AM, cM, rfl, _⟩ := hM
  have hwl := wordG_len hl
  have hbl := lastI_bounds hl
  obtain ⟨N, hN⟩ : ∃ N, (wordG xs).length = N := ⟨_, rfl⟩
  have HN := Lib.hid hN
  have hN9 : N ≤ 1000000000000000 := by omega
  clear hl hp hwl hbl hN
  go_enter Try.func65, Try.ntmps65
  go_upto_region 1 with fail
  have ka := (Below.refl w.heap.size w).alloc (Nat.le_refl _) (Obj.cells #[.slice AR xs.length cR, .slice AL ls.length cL, .slice AM (manyL xs).length cM] 99)
  have kx := Blk.new w #[.slice AR xs.length cR, .slice AL ls.length cL, .slice AM (manyL xs).length cM] 99
  generalize w.alloc (Obj.cells #[.slice AR xs.length cR, .slice AL ls.length cL, .slice AM (manyL xs).length cM] 99) = w1 at *
  have B1 := Lib.hid ka
  have K1 := Lib.hid kx
  have HV1 := Lib.hid (HV.out.up ka)
  clear ka kx
  go_wp2_with fail
  go_loopw [5, 6, 14] (fun out vn vi wx => ∃ (i nx : Nat) (D : List Nat), vi = .int .i64 (i : Int) ∧ vn = .int .i64 (nx : Int) ∧ i ≤ p.size ∧ nx ≤ N ∧ D.length = i ∧ Below w1.heap.size w1 wx ∧ OwnInts wx w1.heap.size out (D.map Int.ofNat) ∧ Hid (embF (wordG xs) p.data.toList 0 = D ++ embF (wordG xs) (p.data.toList.drop i) nx)) (fun _ _ vi _ => p.size - (intOf vi).toNat)
  case atStart => exact ⟨0, 0, [], rfl, rfl, Nat.zero_le _, Nat.zero_le _, rfl, (Below.refl _ _).alloc (Nat.le_refl _) _, OwnInts.empty rfl (Nat.le_refl _), by show _ = _; simp⟩
  case round =>
    obtain ⟨i, nx, D, rfl, rfl, hi, hnx, hD, hb, hown, HE⟩ := hrel
    obtain ⟨Ao, co, rfl, _⟩ := own_nil hown
    have hml : (D.map Int.ofNat).length = i := by rw [List.length_map]; exact hD
    have Hown := Lib.hid hown
    have HB := Lib.hid hb
    have HBw := Lib.hid (Below.tr B1.out hb)
    have hz := hb.size
    have hz0 := B1.out.size
    have HVr := Lib.hid (HV1.out.up hb)
    have Kr := Lib.hid (K1.out.up hb)
    have HD := Lib.hid hD
    have Hml := Lib.hid hml
    rw [hml]
    have Hownk := Lib.hid (show OwnInts wr w1.heap.size (.slice Ao i co) (D.map Int.ofNat) by have := Hown.out; rwa [Hml.out] at this)
    clear hb hown hD hml
    by_cases hip : i < p.size
    · have hiI : (i : Int) < (p.size : Int) := by omega
      obtain ⟨c1, c2⟩ := letter_ok Hp.out hip
      obtain ⟨l, hl⟩ : ∃ l, p[i].toNat = 97 + l := ⟨p[i].toNat - 97, by omega⟩
      have hl4 : l < 4 := by omega
      have hlc : ltr l = p[i] := by have := ltr_of c1 c2; rwa [show p[i].toNat - 97 = l by omega] at this
      have h8 : IntKind.u8.wrap ((p[i].toNat : Int) - 97) = (l : Int) := by rw [hl, IntWalk.u8_in _ (by omega)]; omega
      have hE := HE.out
      rw [drop_cons hip, embF, ← hlc] at hE
      have HE2 := Lib.hid hE
      have m0 := Blk.cell (i := 0) (v := .slice AR xs.length cR) Kr.out rfl
      have m1 := Blk.cell (i := 1) (v := .slice AL ls.length cL) Kr.out rfl
      have m2 := Blk.cell (i := 2) (v := .slice AM (manyL xs).length cM) Kr.out rfl
      have lx := Blk.lt Kr.out
      have z9 : Below wr.heap.size wr wr.drew := Below.drew (Below.refl _ _)
      clear c1 c2 hl hlc hE
      by_cases hc : cntW (ltr l) ((wordG xs).take nx) < cntW (ltr l) (wordG xs)
      · -- @V a
        have Hsel := Lib.hid (show selR xs l (cntW (ltr l) ((wordG xs).take nx)) = .tuple #[.int .i64 (selW (ltr l) (cntW (ltr l) ((wordG xs).take nx)) (wordG xs) : Nat), .bool true] by rw [selR, if_pos hc])
        have hE3 := HE2.out
        rw [if_pos hc] at hE3
        have hsl : selW (ltr l) (cntW (ltr l) ((wordG xs).take nx)) (wordG xs) < N := by rw [← HN.out]; exact selW_lt hc
        obtain ⟨S, hS⟩ : ∃ S, selW (ltr l) (cntW (ltr l) ((wordG xs).take nx)) (wordG xs) = S := ⟨_, rfl⟩
        rw [hS] at hE3 hsl Hsel
        have HE3 := Lib.hid hE3
        have hLle : (D.map Int.ofNat).length ≤ 1099511627776 := by rw [Hml.out]; omega
        have hws : IntKind.i64.wrap ((S : Int) + 1) = ((S + 1 : Nat) : Int) := by rw [IntWalk.i64_in _ (by omega)]; omega
        clear hc hE3 hS HE2
        go_wp2_with fail
        go_region_held3 (fun w' => Below wr.heap.size wr w' ∧ w'.cell? ⟨w.heap.size, 0, none⟩ = some (.slice AR xs.length cR) ∧ w'.cell? ⟨w.heap.size, 1, none⟩ = some (.slice AL ls.length cL) ∧ w'.cell? ⟨w.heap.size, 2, none⟩ = some (.slice AM (manyL xs).length cM))
            (first | (with_reducible exact keepR3 Kr.out z9) | (with_reducible exact keepR3 Kr.out (Below.tr z9 hb3)) | (with_reducible exact keepR3 Kr.out (Below.tr (Below.tr z9 hb3) hb4)))
            (first
              | (go_at_call 90; refine (rank_any _ xs ls l (nx : Int) _ (HVr.out.up z9) Hl.out hn hl4).mono ?_; rintro e w3 ⟨rfl, hb3⟩)
              | (go_at_call 89; refine (sel_any _ xs ls l _ _ (HVr.out.up (Below.tr z9 hb3)) Hl.out hn hl4).mono ?_; rintro e w4 ⟨rfl, hb4⟩; rw [Hsel.out]))
        have b4 := Below.tr (Below.tr z9 hb3) hb4
        have Hown4 := Lib.hid (ownsRow_below Hownk.out b4)
        have HB4 := Lib.hid (Below.tr HB.out b4)
        have hz4 : w1.heap.size ≤ w4.heap.size := Nat.le_trans hz b4.size
        clear b4 hb3 hb4 z9 m0 m1 m2 lx
        go_wp2_with (first | (at_builtin; refine push_ints (base := w1.heap.size) (v := .slice Ao i co) (l := D.map Int.ofNat) (y := (S : Int)) rfl _ _ rfl rfl rfl rfl Hown4.out hLle hz4 ?_; intro v6 w6 own6 hg6 hb6))
        go_roundw
        case rel =>
          refine ⟨i + 1, S + 1, D ++ [S], by go_num, rfl, by omega, by omega, by rw [List.length_append, HD.out]; rfl, HB4.out.trans hb6, by rw [List.map_append]; exact own6, ?_⟩
          show _ = _
          rw [HE3.out]; simp
        case measure => simp [intOf]; omega
      · -- @V b
        have Hsel := Lib.hid (show selR xs l (cntW (ltr l) ((wordG xs).take nx)) = .tuple #[.int .i64 0, .bool false] by rw [selR, if_neg hc])
        have hE3 := HE2.out
        rw [if_neg hc, List.append_nil] at hE3
        have HE3 := Lib.hid hE3
        clear hc hE3 HE2
        go_wp2_with fail
        go_region_held3 (fun w' => Below wr.heap.size wr w' ∧ w'.cell? ⟨w.heap.size, 0, none⟩ = some (.slice AR xs.length cR) ∧ w'.cell? ⟨w.heap.size, 1, none⟩ = some (.slice AL ls.length cL) ∧ w'.cell? ⟨w.heap.size, 2, none⟩ = some (.slice AM (manyL xs).length cM))
            (first | (with_reducible exact keepR3 Kr.out z9) | (with_reducible exact keepR3 Kr.out (Below.tr z9 hb3)) | (with_reducible exact keepR3 Kr.out (Below.tr (Below.tr z9 hb3) hb4)))
            (first
              | (go_at_call 90; refine (rank_any _ xs ls l (nx : Int) _ (HVr.out.up z9) Hl.out hn hl4).mono ?_; rintro e w3 ⟨rfl, hb3⟩)
              | (go_at_call 89; refine (sel_any _ xs ls l _ _ (HVr.out.up (Below.tr z9 hb3)) Hl.out hn hl4).mono ?_; rintro e w4 ⟨rfl, hb4⟩; rw [Hsel.out]))
        have b4 := Below.tr (Below.tr z9 hb3) hb4
        have Hown4 := Lib.hid (ownsRow_below Hownk.out b4)
        have HB4 := Lib.hid (Below.tr HBw.out b4)
        clear b4 hb3 hb4 z9 m0 m1 m2 lx
        go_wp2_with fail
        go_ret
        exact ⟨_, rfl, by rw [HE3.out]; exact ownsRow_more Hown4.out hz0, HB4.out⟩
    · -- @V c
      have hin : i = p.size := by omega
      have hE := HE.out
      rw [hin, List.drop_of_length_le (by rw [Array.length_toList]; exact Nat.le_refl _), embF, List.append_nil] at hE
      have HE3 := Lib.hid hE
      subst hin
      clear hE hip
      go_wp2_with fail
      go_ret
      exact ⟨_, rfl, by rw [HE3.out]; exact ownsRow_more Hownk.out hz0, HBw.out⟩
theorem turnR_pairE (r : GRule) : (turnR r).pair = r.pair := rfl
theorem okRule_turnE (i : Nat) (r : GRule) : okRule i (turnR r) = okRule i r := by
  unfold okRule
  rw [turnR_pairE]
  split
  · show (decide (0 ≤ r.right) && decide (r.right ≤ (i : Int) - 1) && decide (0 ≤ r.left) && decide (r.left ≤ (i : Int) - 1)) = _
    rw [Bool.and_comm, Bool.and_left_comm, ← Bool.and_assoc]
    cases decide (0 ≤ r.right) <;> cases decide (r.right ≤ (i : Int) - 1) <;> cases decide (0 ≤ r.left) <;> cases decide (r.left ≤ (i : Int) - 1) <;> rfl
  · show (isLet r.letter && r.right == 0 && r.left == 0) = _
    cases isLet r.letter <;> cases (r.right == 0) <;> cases (r.left == 0) <;> rfl
theorem ruleLen_turnE (out : List Int) (r : GRule) : ruleLen out (turnR r) = ruleLen out r := by
  unfold ruleLen
  rw [turnR_pairE]
  split
  · show out.getD r.right.toNat 0 + out.getD r.left.toNat 0 = _
    omega
  · rfl
theorem lens_turnE (xs : List GRule) : lens (xs.map turnR) = lens xs := by
  unfold lens
  generalize some ([] : List Int) = o
  induction xs generalizing o with
  | nil => rfl
  | cons x xs ih =>
    simp only [List.map_cons, List.foldl_cons]
    have : lensStep o (turnR x) = lensStep o x := by
      unfold lensStep
      cases o with
      | none => rfl
      | some out => simp only [Option.bind_some, okRule_turnE, ruleLen_turnE]
    rw [this, ih]
theorem gramOk_turnE {xs : List GRule} (h : gramOk xs = true) : gramOk (xs.map turnR) = true := by
  unfold gramOk at *
  rw [lens_turnE, List.length_map]; exact h
theorem getR_turnE {xs : List GRule} {r : Nat} (hr : r < xs.length) : getR (xs.map turnR) r = turnR (getR xs r) := by
  unfold getR
  rw [List.getD_eq_getElem?_getD, List.getD_eq_getElem?_getD, List.getElem?_map, List.getElem?_eq_getElem hr]
  rfl
theorem wordR_turnE {xs : List GRule} {ls : List Int} (h : lens xs = some ls) : ∀ (f r : Nat), r < xs.length → wordR (xs.map turnR) f r = (wordR xs f r).reverse := by
  intro f
  induction f with
  | zero => intro r _; rfl
  | succ f ih =>
    intro r hr
    rw [wordR, wordR, getR_turnE hr, show (turnR (getR xs r)).pair = (getR xs r).pair from rfl]
    cases hp : (getR xs r).pair with
    | false =>
      have h1 := isLet_size (lens_isLet h hr hp)
      have h2 : (getR xs r).letter.data.toList.length = 1 := by rw [Array.length_toList]; exact h1
      obtain ⟨x, hx⟩ := List.length_eq_one_iff.1 h2
      simp [turnR, hx]
    | true =>
      obtain ⟨q1, q2, q3, q4, q5⟩ := lens_pair h hr hp
      simp only [if_true]
      rw [List.reverse_append, ← ih _ (show (getR xs r).left.toNat < xs.length by omega), ← ih _ (show (getR xs r).right.toNat < xs.length by omega)]
      rfl
theorem wordG_turnE {xs : List GRule} {ls : List Int} (h : lens xs = some ls) : wordG (xs.map turnR) = (wordG xs).reverse := by
  by_cases h0 : xs.length = 0
  · have : xs = [] := List.eq_nil_of_length_eq_zero h0
    subst this; rfl
  · rw [wordG_pos (by simp; omega), wordG_pos (by omega), List.length_map]
    exact wordR_turnE h _ _ (by omega)
end Go.Proofs.Ytfkijaamfmpboaa
namespace Go.Proofs
open Go.Shelf
def Ytfkijaamfmpboaa.laysRI_ren : Go.Shelf.Ren := ⟨fun | 35 => 54 | n => n, fun | 0 => 0 | 3 => 3 | 4 => 4 | 22 => 34 | 23 => 2 | n => n, fun | n => n⟩
theorem Ytfkijaamfmpboaa.laysRI : SlLaysE.n35 Try.prog Ytfkijaamfmpboaa.laysRI_ren := {
  mixed := by kernel_rfl
  f35 := ⟨"slices.Reverse[[]int64,int64]", by decide, Try.func54.trans (congrArg some (by kernel_rfl))⟩
  t0 := Try.underlying0
  a0 := Try.isAgg0
  z0 := Try.sizeOf0
  v0 := Try.zeroValue0
  t3 := Try.underlying3
  a3 := Try.isAgg3
  z3 := Try.sizeOf3
  v3 := Try.zeroValue3
  t4 := Try.underlying4
  a4 := Try.isAgg4
  z4 := Try.sizeOf4
  v4 := Try.zeroValue4
  t22 := Try.underlying34
  a22 := Try.isAgg34
  z22 := Try.sizeOf34
  v22 := Try.zeroValue34
  a23 := Try.isAgg2
  z23 := Try.sizeOf2 }
end Go.Proofs
namespace Go.Proofs.Ytfkijaamfmpboaa
open Go.RowKit
theorem OwnInts.storedAll {base g n c : Nat} : ∀ (vs : List Int) (o : Nat) (w : World) (L : List Int), OwnInts w base (.slice (some ⟨g, 0, none⟩) n c) L → L.length = n → o + vs.length ≤ n →
    OwnInts (w.setCells g o (vs.map (Value.int .i64))) base (.slice (some ⟨g, 0, none⟩) n c) (L.take o ++ vs ++ L.drop (o + vs.length)) := by
  intro vs
  induction vs with
  | nil => intro o w L h hn ho; simpa [World.setCells] using h
  | cons v r ih =>
    intro o w L h hn ho
    rw [List.length_cons] at ho
    have h1 := OwnInts.stored h hn o v
    have h2 := ih (o + 1) _ _ h1 (by rw [List.length_set]; exact hn) (by omega)
    rw [List.map_cons, World.setCells]
    have e : (L.set o v).take (o + 1) ++ r ++ (L.set o v).drop (o + 1 + r.length) = L.take o ++ (v :: r) ++ L.drop (o + (v :: r).length) := by
      rw [List.set_eq_take_append_cons_drop, if_pos (by omega)]
      have ht : (L.take o).length = o := by rw [List.length_take]; omega
      rw [List.take_append, List.take_of_length_le (l := L.take o) (by omega), ht, show o + 1 - o = 1 by omega]
      rw [List.drop_append, List.drop_of_length_le (l := L.take o) (by omega), ht, show o + 1 + r.length - o = r.length + 1 by omega]
      simp [List.drop_drop]
      congr 1
      omega
    rw [e] at h2
    exact h2
theorem reverse_ints {base : Nat} (v : Value) (L : List Int) (w : World) (h : OwnInts w base v L) (hL : L.length ≤ 1000000) :
    Calls Try.prog 54 #[v] w fun e w' => e = .returned (.tuple #[]) ∧ OwnInts w' base v L.reverse ∧ Below base w w' := by
  by_cases h0 : L.length = 0
  · have hx : L = [] := List.eq_nil_of_length_eq_zero h0
    subst hx
    obtain ⟨A, c, rfl, _⟩ := own_nil h
    refine (AnyE.slices_Reverse_empty Ytfkijaamfmpboaa.laysRI A c w).mono ?_
    rintro e w' ⟨rfl, rfl⟩
    exact ⟨rfl, h, Below.refl _ _⟩
  · obtain ⟨g, c, rfl, hb, hg, _, hc⟩ := OwnInts.at_ h (j := 0) (by omega)
    have hH : Sort.Holds (Value.int .i64) w g 0 L.toArray := by
      intro j hj
      have hj' : j < L.length := by simpa using hj
      rw [Nat.zero_add]
      refine ⟨(hc j hj').trans ?_, World.ownsRow.frozenAt h j⟩
      rw [getElem!_pos _ j hj, List.getD_eq_getElem?_getD, List.getElem?_eq_getElem hj']; simp
    refine (AnyE.slices_Reverse Ytfkijaamfmpboaa.laysRI (Value.int .i64) (fun _ => rfl) g 0 c L w hH (by omega)).mono ?_
    rintro e w' ⟨rfl, q, rfl⟩
    rw [Lib.putRow_eq_setCells _ w g 0 _ _ q hH (by simp)]
    have h2 := OwnInts.storedAll L.reverse 0 (w.drewN q) L (OwnInts.drewN h q) rfl (by simp)
    refine ⟨rfl, ?_, Go.below_setCells hb _ 0 _ ⟨rfl, rfl, rfl, Nat.le_refl _, fun _ _ => rfl⟩⟩
    rw [List.take_zero, List.nil_append, List.length_reverse, Nat.zero_add, List.drop_length, List.append_nil] at h2
    unfold OwnInts at h2 ⊢
    exact h2
def efL (xs : List GRule) (p : ByteArray) : List Int := (embF (wordG xs) p.data.toList 0).map Int.ofNat
def efC (xs : List GRule) (p : ByteArray) : Int := if gramOk xs && wordOk p then (if (efL xs p).length < p.size then 6 else 0) else 1
def efV (xs : List GRule) (p : ByteArray) : List Int := if efC xs p = 0 then efL xs p else []
def EfPost (xs : List GRule) (p : ByteArray) (w : World) (e : Ending) (w' : World) : Prop := ∃ v, e = .returned (.tuple #[v, .int .i64 (efC xs p)]) ∧ OwnInts w' w.heap.size v (efV xs p) ∧ Below w.heap.size w w'
theorem OwnInts.nil (w : World) (base : Nat) : OwnInts w base (.slice none 0 0) [] := World.ownsRow_nil _ _ _ _
theorem word_2000 {p : ByteArray} (h : wordOk p = true) : p.size ≤ 2000 := by
  unfold wordOk at h
  rw [Bool.and_eq_true] at h
  have := of_decide_eq_true h.1
  omega
set_option maxRecDepth 100000 in
set_option maxHeartbeats 4000000 in
theorem embedFirst_any (vR : Value) (xs : List GRule) (p : ByteArray) (w : World) (hR : Sl RuleE w w.heap.size vR xs) (hn : xs.length ≤ 1048576) (hps : p.size ≤ maxLen) :
    Calls Try.prog 20 #[.agg #[vR], .string p] w (EfPost xs p w) := by
  have HR := Lib.hid hR
  obtain ⟨AR, cR, rfl, _⟩ := hR
  have hbad : efC xs p = 1 → ∀ wx : World, Below w.heap.size w wx → EfPost xs p w (.returned (.tuple #[.slice none 0 0, .int .i64 1])) wx := fun h1 wx hb => by
    refine ⟨_, by rw [h1], ?_, hb⟩
    rw [efV, h1, if_neg (by decide)]; exact OwnInts.nil _ _
  have Hbad := Lib.hid hbad
  clear hbad
  go_enter Try.func20, Try.ntmps20
  go_upto_region 1 with fail
  have ka := (Below.refl w.heap.size w).alloc (Nat.le_refl _) (Obj.cells #[.slice AR xs.length cR] 30)
  have kg := Blk.new w #[.slice AR xs.length cR] 30
  generalize w.alloc (Obj.cells #[.slice AR xs.length cR] 30) = w1 at *
  have B1 := Lib.hid ka
  have HR1 := Lib.hid (HR.out.up ka)
  have g0 := Blk.cell (i := 0) (v := .slice AR xs.length cR) kg rfl
  have gl := Blk.lt kg
  clear ka kg
  go_wp2_with fail
  refine (newCensus_any _ xs _ HR1.out hn).mono ?_
  rintro e w2 ⟨hb2, hpost⟩
  have B2 := Lib.hid (Below.tr B1.out hb2)
  clear hb2 g0 gl
  rcases hpost with ⟨hg, v, ls, hl, rfl, hv⟩ | ⟨hg, rfl⟩
  · have Hl := Lib.hid hl
    have Hg := Lib.hid hg
    have hv0 := hv
    obtain ⟨vR', vL, vM, rfl, h1, h2, h3⟩ := hv
    obtain ⟨A1', c1, rfl, _⟩ := h1
    obtain ⟨A2', c2, rfl, _⟩ := h2
    obtain ⟨A3', c3, rfl, _⟩ := h3
    have ka := (Below.refl w2.heap.size w2).alloc (Nat.le_refl _) (Obj.cells #[.slice A1' xs.length c1, .slice A2' ls.length c2, .slice A3' (manyL xs).length c3] 99)
    have kx := Blk.new w2 #[.slice A1' xs.length c1, .slice A2' ls.length c2, .slice A3' (manyL xs).length c3] 99
    go_upto_region 2 with fail
    generalize w2.alloc (Obj.cells #[.slice A1' xs.length c1, .slice A2' ls.length c2, .slice A3' (manyL xs).length c3] 99) = w3 at *
    have B3 := Lib.hid (Below.tr B2.out ka)
    have HV3 := Lib.hid (hv0.up ka)
    have m0 := Blk.cell (i := 0) (v := .slice A1' xs.length c1) kx rfl
    have m1 := Blk.cell (i := 1) (v := .slice A2' ls.length c2) kx rfl
    have m2 := Blk.cell (i := 2) (v := .slice A3' (manyL xs).length c3) kx rfl
    have lx := Blk.lt kx
    clear ka kx hv0 hg hl
    go_wp2_with fail
    refine (ValidWord_any p _ hps).mono ?_
    rintro r w4 ⟨rfl, rfl⟩
    cases hw : wordOk p with
    | false =>
      have Hc := Lib.hid (show efC xs p = 1 by rw [efC, Hg.out, hw]; rfl)
      clear hw
      go_wp2_with fail
      go_ret2
      exact Hbad.out Hc.out _ B3.out
    | true =>
      have Hw := Lib.hid hw
      have h2000 := word_2000 hw
      have Hc := Lib.hid (show efC xs p = if (efL xs p).length < p.size then 6 else 0 by rw [efC, Hg.out, hw]; rfl)
      clear hw
      go_wp2_with fail
      refine (embed_any _ xs ls p _ HV3.out Hl.out hn Hw.out h2000).mono ?_
      rintro e w5 ⟨v5, rfl, own5, hb5⟩
      have B5 := Lib.hid (Below.tr B3.out hb5)
      have own5' : OwnInts w5 w3.heap.size v5 (efL xs p) := own5
      have hz := B3.out.size
      obtain ⟨L, hL⟩ : ∃ L, efL xs p = L := ⟨_, rfl⟩
      rw [hL] at own5' Hc
      have HL := Lib.hid hL
      obtain ⟨A5, c5, rfl, _⟩ := own_nil own5'
      have Own5 := Lib.hid (ownsRow_more own5' hz)
      have hLb : L.length ≤ p.size := by rw [← hL, efL, List.length_map]; have := embF_le (wordG xs) p.data.toList 0; rw [Array.length_toList] at this; exact this
      clear hb5 own5 own5' hL m0 m1 m2 lx
      by_cases hlt : L.length < p.size
      · have hI : (L.length : Int) < (p.size : Int) := by omega
        have Hc2 := Lib.hid (show efC xs p = 6 by rw [Hc.out, if_pos hlt])
        clear hlt
        go_wp2_with fail
        go_ret2
        refine ⟨.slice none 0 0, by rw [Hc2.out]; rfl, ?_, B5.out⟩
        rw [efV, Hc2.out, if_neg (by decide)]; exact OwnInts.nil _ _
      · have hI : ¬ (L.length : Int) < (p.size : Int) := by omega
        have Hc2 := Lib.hid (show efC xs p = 0 by rw [Hc.out, if_neg hlt])
        clear hlt
        go_wp2_with fail
        go_ret2
        refine ⟨.slice A5 L.length c5, by rw [Hc2.out]; rfl, ?_, B5.out⟩
        rw [efV, Hc2.out, if_pos rfl, HL.out]; exact Own5.out
  · have Hc := Lib.hid (show efC xs p = 1 by rw [efC, hg]; rfl)
    clear hg
    go_wp2_with fail
    go_ret2
    exact Hbad.out Hc.out _ (B2.out.alloc B2.out.size _)
set_option maxRecDepth 100000 in
set_option maxHeartbeats 8000000 in
theorem l05Embed_any (bg : Nat) (vR : Value) (xs : List GRule) (ls : List Int) (p : ByteArray) (w : World) (hR : Sl RuleE w w.heap.size vR xs) (hsm : SmallL xs) (hg : w.cell? ⟨bg, 0, none⟩ = some vR) (hbg : bg < w.heap.size) (hl : lens xs = some ls) (h4 : xs.length ≤ 400) (hp : wordOk p = true) (hp2 : p.size ≤ 2000) :
    Calls Try.prog 66 #[.pointer (some ⟨bg, 0, none⟩), .string p] w fun e w' => ∃ v', e = .returned v' ∧ OwnInts w' w.heap.size v' (efL xs p) ∧ Below w.heap.size w w' := by
  have HR := Lib.hid hR
  have HSm := Lib.hid hsm
  have Hl := Lib.hid hl
  have Hp := Lib.hid hp
  have Hg := Lib.hid hg
  obtain ⟨AR, cR, rfl, _⟩ := hR
  have hwl := wordG_len hl
  have hbl := lastI_bounds hl
  obtain ⟨N, hN⟩ : ∃ N, (wordG xs).length = N := ⟨_, rfl⟩
  rw [hN] at hwl
  have HN := Lib.hid hN
  have HwL := Lib.hid hwl
  have hN9 : N ≤ 1000000000000000 := by omega
  have g0 := hg
  clear hl hp hwl hbl hN hsm hg
  go_enter Try.func66, Try.ntmps66
  go_upto_region 2 with fail
  have ka := (Below.refl w.heap.size w).alloc (Nat.le_refl _) (Obj.cells #[] 2)
  have ko : OwnInts (w.alloc (Obj.cells #[] 2)) w.heap.size (.slice (some ⟨w.heap.size, 0, none⟩) 0 0) [] := OwnInts.empty rfl (Nat.le_refl _)
  generalize w.alloc (Obj.cells #[] 2) = w1 at *
  have B1 := Lib.hid ka
  have O1 := Lib.hid ko
  have HR1 := Lib.hid (HR.out.up ka)
  have g1 := (ka.cell (p := ⟨bg, 0, none⟩) hbg).trans Hg.out
  have gl1 : bg < w1.heap.size := Nat.lt_of_lt_of_le hbg ka.size
  clear ka ko g0
  go_wp2_with fail
  refine (l02Lengths_any bg 0 _ xs w1 g1 gl1 HR1.out HSm.out).mono ?_
  rintro e w2 ⟨hb2, vL, ls', rfl, own2, hls⟩
  have els : ls' = ls := hls h4 ls Hl.out
  subst els
  have z1 := (World.ownsRow.lt O1.out w.heap.size rfl).2
  have HL2 := Lib.hid own2.sl
  have HLs2 := Lib.hid (own2.slS (S := fun k => w1.heap.size ≤ k ∧ k < w2.heap.size) fun g hg => own2.lt g hg)
  have HR2 := Lib.hid (HR1.out.up hb2)
  have B2 := Lib.hid (Below.tr B1.out hb2)
  have O2 := Lib.hid (ownsRow_below O1.out hb2)
  have g2 := (hb2.cell (p := ⟨bg, 0, none⟩) gl1).trans g1
  have gl2 : bg < w2.heap.size := Nat.lt_of_lt_of_le gl1 hb2.size
  obtain ⟨AL, cL, rfl, _⟩ := own_nil own2
  have z12 := hb2.size
  clear hb2 hls own2 g1 gl1
  go_wp2_with fail
  refine (l05Counts_any _ bg xs ls' _ HR2.out Hl.out (by omega) g2 gl2).mono ?_
  rintro e w3 ⟨vC, rfl, hC, hb3⟩
  obtain ⟨S3, hS3⟩ : ∃ S : Nat → Prop, S = fun k => k < w3.heap.size ∧ k ≠ w.heap.size := ⟨_, rfl⟩
  have z23 := hb3.size
  have HSd := Lib.hid hS3
  have HRs := Lib.hid ((HR.out.below (Below.tr B2.out hb3)).more (S' := S3) fun k (hk : k < w.heap.size) => by rw [hS3]; exact ⟨by omega, by omega⟩)
  have HLs := Lib.hid ((HLs2.out.keep fun k (hk : w1.heap.size ≤ k ∧ k < w2.heap.size) => hb3.block k hk.2).more (S' := S3) fun k hk => by rw [hS3]; exact ⟨by omega, by omega⟩)
  have HCs := Lib.hid (hC.more (S' := S3) fun k (hk : w2.heap.size ≤ k ∧ k < w3.heap.size) => by rw [hS3]; exact ⟨by omega, by omega⟩)
  obtain ⟨AC, cC, rfl, _⟩ := hC
  have B3 := Lib.hid (Below.tr B2.out hb3)
  have O3 := Lib.hid (ownsRow_below O2.out hb3)
  have G3 := Lib.hid ((hb3.cell (p := ⟨bg, 0, none⟩) gl2).trans g2)
  have z3 : w.heap.size < w3.heap.size := by omega
  have hbgS : S3 bg := by rw [hS3]; exact ⟨by omega, by omega⟩
  have HbgS := Lib.hid hbgS
  clear hb3 g2 gl2 hS3 hbgS z1 z12 z23
  rw [cntsL_len] at HCs ⊢
  go_wp2_with fail
  go_loopw [5, 9, 10] (fun out vn vi wx => ∃ (i nx : Nat) (D : List Nat), vi = .int .i64 (i : Int) ∧ vn = .int .i64 (nx : Int) ∧ i ≤ p.size ∧ nx ≤ N ∧ D.length = i ∧ Below w.heap.size w wx ∧ w3.heap.size ≤ wx.heap.size ∧ Keep S3 w3 wx ∧ OwnInts wx w.heap.size out (D.map Int.ofNat) ∧ Hid (∀ g, out.ownBlock = some g → g = w.heap.size ∨ w3.heap.size ≤ g) ∧ Hid (embF (wordG xs) p.data.toList 0 = D ++ embF (wordG xs) (p.data.toList.drop i) nx)) (fun _ _ vi _ => p.size - (intOf vi).toNat)
  case atStart => exact ⟨0, 0, [], rfl, rfl, Nat.zero_le _, Nat.zero_le _, rfl, B3.out, Nat.le_refl _, Keep.refl _ _, O3.out, fun g hg => .inl (Option.some.inj hg).symm, by show _ = _; simp⟩
  case round =>
    obtain ⟨i, nx, D, rfl, rfl, hi, hnx, hD, hb, hz, hk, hown, HG, HE⟩ := hrel
    obtain ⟨Ao, co, rfl, _⟩ := own_nil hown
    have hml : (D.map Int.ofNat).length = i := by rw [List.length_map]; exact hD
    have Hown := Lib.hid hown
    have HBw := Lib.hid hb
    have hzw := hb.size
    have HK := Lib.hid hk
    have HD := Lib.hid hD
    have Hml := Lib.hid hml
    rw [hml] at HG ⊢
    have Hownk := Lib.hid (show OwnInts wr w.heap.size (.slice Ao i co) (D.map Int.ofNat) by have := Hown.out; rwa [Hml.out] at this)
    have HRw := Lib.hid ((HRs.out.keep hk).more (S' := fun k => k < wr.heap.size) fun k hh => by rw [HSd.out] at hh; exact Nat.lt_of_lt_of_le hh.1 hz)
    have HLw := Lib.hid ((HLs.out.keep hk).more (S' := fun k => k < wr.heap.size) fun k hh => by rw [HSd.out] at hh; exact Nat.lt_of_lt_of_le hh.1 hz)
    have HCw := Lib.hid ((HCs.out.keep hk).more (S' := fun k => k < wr.heap.size) fun k hh => by rw [HSd.out] at hh; exact Nat.lt_of_lt_of_le hh.1 hz)
    have g0 := (hk.cell (o := 0) HbgS.out).trans G3.out
    have gl : bg < wr.heap.size := by omega
    clear hb hk hown hD hml
    by_cases hip : i < p.size
    · have hiI : (i : Int) < (p.size : Int) := by omega
      obtain ⟨c1, c2⟩ := letter_ok Hp.out hip
      obtain ⟨l, hl⟩ : ∃ l, p[i].toNat = 97 + l := ⟨p[i].toNat - 97, by omega⟩
      have hl4 : l < 4 := by omega
      have hlc : ltr l = p[i] := by have := ltr_of c1 c2; rwa [show p[i].toNat - 97 = l by omega] at this
      have hlet : ∀ W, Calls Try.prog 46 #[.int .u8 p[i].toNat] W fun e w' => e = .returned (.int .i64 (l : Int)) ∧ W = w' := fun W => by
        have := l04Letter_any p[i] W c1 c2
        rwa [show p[i].toNat - 97 = l by omega] at this
      have HlE := Lib.hid hlet
      have hE := HE.out
      rw [drop_cons hip, embF, ← hlc] at hE
      have HE2 := Lib.hid hE
      clear c1 c2 hl hlc hE hlet
      go_wp2_with fail
      refine (HlE.out _).mono ?_
      rintro e w10 ⟨rfl, rfl⟩
      go_wp2_with fail
      have hrk := l05Rank_any bg l (nx : Int) (.slice AR xs.length cR) (.slice AL ls'.length cL) (.slice AC xs.length cC) xs ls' wr HRw.out HLw.out HCw.out Hl.out (by omega) g0 gl hl4 (by rw [← HwL.out]; omega)
      refine hrk.mono ?_
      rintro e w11 ⟨rfl, hb11⟩
      rw [Int.toNat_natCast]
      obtain ⟨K, hK⟩ : ∃ K, cntW (ltr l) ((wordG xs).take nx) = K := ⟨_, rfl⟩
      rw [hK] at HE2 ⊢
      have hKb := cntW_le (ltr l) ((wordG xs).take nx)
      rw [List.length_take, hK] at hKb
      have HK11 := Lib.hid (HK.out.trans ((Keep.of_below hb11).mono fun k hh => Nat.lt_of_lt_of_le (by rw [HSd.out] at hh; exact hh.1) hz))
      have HBw11 := Lib.hid (HBw.out.trans (hb11.mono hzw))
      have Hown11 := Lib.hid (ownsRow_below Hownk.out hb11)
      have hz11 := hb11.size
      have HR11 := Lib.hid (HRw.out.up hb11)
      have HL11 := Lib.hid (HLw.out.up hb11)
      have HC11 := Lib.hid (HCw.out.up hb11)
      have g11 := (hb11.cell (p := ⟨bg, 0, none⟩) gl).trans g0
      have gl11 : bg < w11.heap.size := Nat.lt_of_lt_of_le gl hz11
      clear hb11 hrk g0 gl
      go_wp2_with fail
      have htot := l05Total_any l (.slice AC xs.length cC) xs ls' w11 HC11.out Hl.out (by omega) hl4
      refine htot.mono ?_
      rintro e w12 ⟨rfl, rfl⟩
      clear htot
      by_cases hc : K < cntW (ltr l) (wordG xs)
      · -- @V a
        have hE3 := HE2.out
        rw [if_pos hc] at hE3
        have hcI : ¬ ((cntW (ltr l) (wordG xs) : Nat) : Int) ≤ (K : Int) := by omega
        have hsl : selW (ltr l) K (wordG xs) < N := by rw [← HN.out]; exact selW_lt hc
        have hsel := l05Select_any bg l K (.slice AR xs.length cR) (.slice AL ls'.length cL) (.slice AC xs.length cC) xs ls' w11 HR11.out HL11.out HC11.out Hl.out (by omega) g11 gl11 hl4 hc
        obtain ⟨S, hS⟩ : ∃ S, selW (ltr l) K (wordG xs) = S := ⟨_, rfl⟩
        rw [hS] at hE3 hsl hsel
        have HE3 := Lib.hid hE3
        have HSel := Lib.hid hsel
        obtain ⟨TT, hTT⟩ : ∃ TT, cntW (ltr l) (wordG xs) = TT := ⟨_, rfl⟩
        rw [hTT] at hcI ⊢
        clear hsel hE3 hS HE2 HE hc hTT hK
        go_wp2_with fail
        refine HSel.out.mono ?_
        rintro e w13 ⟨rfl, hb13⟩
        have HK13 := Lib.hid (HK11.out.trans ((Keep.of_below hb13).mono fun k hh => Nat.lt_of_lt_of_le (by rw [HSd.out] at hh; exact hh.1) (Nat.le_trans hz hz11)))
        have HBw13 := Lib.hid (HBw11.out.trans (hb13.mono (by omega)))
        have Hown13 := Lib.hid (ownsRow_below Hown11.out hb13)
        have hz13 : w.heap.size ≤ w13.heap.size := by have := hb13.size; omega
        have hz133 : w3.heap.size ≤ w13.heap.size := by have := hb13.size; omega
        have hLle : (D.map Int.ofNat).length ≤ 1099511627776 := by rw [Hml.out]; omega
        have hws : IntKind.i64.wrap ((S : Int) + 1) = ((S + 1 : Nat) : Int) := by rw [IntWalk.i64_in _ (by omega)]; omega
        clear hb13 g11 gl11
        go_wp2_with (first | (at_builtin; refine push_int2 (base := w.heap.size) (v := .slice Ao i co) (l := D.map Int.ofNat) (y := (S : Int)) rfl _ _ rfl rfl rfl rfl Hown13.out hLle hz13 ?_; intro v6 w6 own6 hg6 hv6))
        have hk6 : Keep S3 w3 w6 := HK13.out.trans fun k hh => by
          rw [HSd.out] at hh
          have h1 : k < w13.heap.size := Nat.lt_of_lt_of_le hh.1 hz133
          refine (hg6.block k (Nat.lt_of_lt_of_le h1 (by simp)) fun e => ?_).trans (Below.heap_alloc w13 _ k h1)
          rcases HG.out k e.symm with h | h
          · exact hh.2 h
          · exact absurd hh.1 (by omega)
        have hz6 : w3.heap.size ≤ w6.heap.size := Nat.le_trans hz133 (Nat.le_trans (by simp) hg6.size)
        have hb6 : Below w.heap.size w w6 := (HBw13.out.alloc hz13 (.cells #[.int .i64 (S : Int)] 2)).grown hg6 (by simp; omega) fun g hgg => (World.ownsRow.lt Hown13.out g hgg).1
        have hgo6 : ∀ g, v6.ownBlock = some g → g = w.heap.size ∨ w3.heap.size ≤ g := fun g hgg => by
          rcases hv6 with h | h
          · exact HG.out g (h.symm.trans hgg)
          · rw [h] at hgg; have := Option.some.inj hgg; omega
        have HK6 := Lib.hid hk6
        have HB6 := Lib.hid hb6
        have HG6 := Lib.hid hgo6
        have HO6 := Lib.hid own6
        clear hk6 hb6 hgo6 own6 hg6 hv6
        go_roundw
        case rel =>
          refine ⟨i + 1, S + 1, D ++ [S], by go_num, rfl, by omega, by omega, by rw [List.length_append, HD.out]; rfl, HB6.out, hz6, HK6.out, by rw [List.map_append]; exact HO6.out, HG6.out, ?_⟩
          show _ = _
          rw [HE3.out]; simp
        case measure => simp [intOf]; omega
      · -- @V b
        have hE3 := HE2.out
        rw [if_neg hc, List.append_nil] at hE3
        have HE3 := Lib.hid hE3
        have hcI : ((cntW (ltr l) (wordG xs) : Nat) : Int) ≤ (K : Int) := by omega
        obtain ⟨TT, hTT⟩ : ∃ TT, cntW (ltr l) (wordG xs) = TT := ⟨_, rfl⟩
        rw [hTT] at hcI ⊢
        clear hc hE3 HE2 HE hTT hK
        go_wp2_with fail
        go_ret
        exact ⟨_, rfl, by unfold efL; rw [HE3.out]; exact Hown11.out, HBw11.out⟩
    · -- @V c
      have hin : i = p.size := by omega
      have hE := HE.out
      rw [hin, List.drop_of_length_le (by rw [Array.length_toList]; exact Nat.le_refl _), embF, List.append_nil] at hE
      have HE3 := Lib.hid hE
      subst hin
      clear hE hip
      go_wp2_with fail
      go_ret
      exact ⟨_, rfl, by unfold efL; rw [HE3.out]; exact Hownk.out, HBw.out⟩
theorem embF_lt (W : List UInt8) : ∀ (p : List UInt8) (i : Nat), ∀ a ∈ embF W p i, a < W.length := by
  intro p
  induction p with
  | nil => intro i a h; simp [embF] at h
  | cons c p ih =>
    intro i a h
    rw [embF] at h
    split at h
    · rename_i hc
      rcases List.mem_cons.1 h with h | h
      · subst h; exact selW_lt hc
      · exact ih _ a h
    · simp at h
def revB (p : ByteArray) : ByteArray := ⟨p.data.toList.reverse.toArray⟩
theorem revB_size (p : ByteArray) : (revB p).size = p.size := by
  show (p.data.toList.reverse.toArray).size = p.data.size
  simp
theorem revB_ok {p : ByteArray} (h : wordOk p = true) : wordOk (revB p) = true := by
  unfold wordOk at h ⊢
  rw [revB_size]
  rw [Bool.and_eq_true] at h ⊢
  refine ⟨h.1, ?_⟩
  show (p.data.toList.reverse.toArray.toList).all letOk = true
  rw [List.toList_toArray, List.all_reverse]
  exact h.2
def backI (N : Nat) (a : Nat) : Int := (N : Int) - 1 - a
def mixE (N : Nat) (F : List Nat) (i : Nat) : List Int := (F.take i).map (backI N) ++ (F.drop i).map Int.ofNat
theorem mixE_len (N : Nat) (F : List Nat) (i : Nat) : (mixE N F i).length = F.length := by unfold mixE; simp; omega
theorem mixE_get (N : Nat) (F : List Nat) {i : Nat} (h : i < F.length) : (mixE N F i).getD i 0 = (F.getD i 0 : Nat) := by
  unfold mixE
  rw [List.getD_eq_getElem?_getD, List.getElem?_append_right (by simp; omega), List.getD_eq_getElem?_getD]
  have e : i - ((F.take i).map (backI N)).length = 0 := by simp; omega
  rw [e, List.getElem?_map, List.getElem?_drop, Nat.add_zero, List.getElem?_eq_getElem h]; rfl
theorem mixE_set (N : Nat) (F : List Nat) {i : Nat} (h : i < F.length) : (mixE N F i).set i (backI N (F.getD i 0)) = mixE N F (i + 1) := by
  unfold mixE
  rw [List.set_append_right _ _ (by simp; omega)]
  have e : i - ((F.take i).map (backI N)).length = 0 := by simp; omega
  rw [e, List.drop_eq_getElem_cons h, List.map_cons, List.set_cons_zero, List.take_add_one, List.getElem?_eq_getElem h, Option.toList_some, List.map_append, List.append_assoc, List.getD_eq_getElem?_getD, List.getElem?_eq_getElem h]
  rfl
set_option maxRecDepth 100000 in
set_option maxHeartbeats 8000000 in
theorem implEmbedLast_any (vR : Value) (xs : List GRule) (p : ByteArray) (w : World) (hR : Sl RuleE w w.heap.size vR xs) (hn : xs.length ≤ 1048576) (hps : p.size ≤ maxLen) :
    Calls Try.prog 12 #[.agg #[vR], .string p] w (EmbPost xs p w) := by
  have HR := Lib.hid hR
  obtain ⟨AR, cR, rfl, _⟩ := hR
  have hbad : elC xs p = 1 → elV xs p = [] → ∀ wx : World, Below w.heap.size w wx → EmbPost xs p w (.returned (.tuple #[.slice none 0 0, .int .i64 1])) wx := fun h1 h2 wx hb => by
    refine ⟨_, by rw [h1], ?_, hb⟩
    rw [h2]; exact OwnInts.nil _ _
  have Hbad := Lib.hid hbad
  clear hbad
  go_enter Try.func12, Try.ntmps12
  go_upto_region 1 with fail
  have ka := (Below.refl w.heap.size w).alloc (Nat.le_refl _) (Obj.cells #[.slice AR xs.length cR] 30)
  have kg := Blk.new w #[.slice AR xs.length cR] 30
  generalize w.alloc (Obj.cells #[.slice AR xs.length cR] 30) = w1 at *
  have B1 := Lib.hid ka
  have HR1 := Lib.hid (HR.out.up ka)
  have G1 := Lib.hid kg
  have g0 := Blk.cell (i := 0) (v := .slice AR xs.length cR) kg rfl
  have gl := Blk.lt kg
  clear ka kg
  go_wp2_with fail
  refine (ValidGrammar_any _ xs _ HR1.out (by omega)).mono ?_
  rintro r w2 ⟨rfl, hb2⟩
  have B2 := Lib.hid (Below.tr B1.out hb2)
  have HR2 := Lib.hid (HR1.out.up hb2)
  have G2 := Lib.hid (G1.out.up hb2)
  clear hb2 g0 gl
  cases hg : gramOk xs with
  | false =>
    have Hc := Lib.hid (show elC xs p = 1 ∧ elV xs p = [] by unfold elC elV; rw [hg]; exact ⟨rfl, rfl⟩)
    clear hg
    go_wp2_with fail
    go_ret2
    exact Hbad.out Hc.out.1 Hc.out.2 _ B2.out
  | true =>
    have Hg := Lib.hid hg
    clear hg
    go_wp2_with fail
    refine (ValidWord_any p _ hps).mono ?_
    rintro r w3 ⟨rfl, rfl⟩
    cases hw : wordOk p with
    | false =>
      have Hc := Lib.hid (show elC xs p = 1 ∧ elV xs p = [] by unfold elC elV; rw [Hg.out, hw]; exact ⟨rfl, rfl⟩)
      clear hw
      go_wp2_with fail
      go_ret2
      exact Hbad.out Hc.out.1 Hc.out.2 _ B2.out
    | true =>
      obtain ⟨h4, ls, hl⟩ := gram_lens Hg.out
      have Hl := Lib.hid hl
      have h2000 := word_2000 hw
      have hwt := wordG_turnE hl
      have hgt := gramOk_turnE Hg.out
      have hwr := revB_ok hw
      obtain ⟨N, hN⟩ : ∃ N, (wordG xs).length = N := ⟨_, rfl⟩
      have hwl := wordG_len hl
      have hbl := lastI_bounds hl
      have hN9 : N ≤ 1000000000000000 := by omega
      obtain ⟨F, hF⟩ : ∃ F, embF (wordG xs).reverse p.data.toList.reverse 0 = F := ⟨_, rfl⟩
      have hef : efL (xs.map turnR) (revB p) = F.map Int.ofNat := by
        unfold efL revB
        rw [hwt, List.toList_toArray, hF]
      have hFl : ∀ a ∈ F, a < N := fun a ha => by
        rw [← hF] at ha
        have := embF_lt _ _ _ a ha
        rw [List.length_reverse] at this
        omega
      have hefc : efC (xs.map turnR) (revB p) = if F.length < p.size then 6 else 0 := by
        unfold efC
        rw [hgt, hwr, hef, List.length_map, revB_size]; rfl
      have hel : elO xs p = if F.length < p.size then none else some (F.map fun a => N - 1 - a) := by
        unfold elO
        rw [emb_last0, hF, List.length_reverse, Array.length_toList, hN]; rfl
      have Hc := Lib.hid (show elC xs p = (if (elO xs p).isNone then 6 else 0) ∧ elV xs p = ((elO xs p).getD []).reverse.map Int.ofNat by unfold elC elV; rw [Hg.out, hw]; exact ⟨rfl, rfl⟩)
      have Hel := Lib.hid hel
      have Hefc := Lib.hid hefc
      have Hef := Lib.hid hef
      have HFl := Lib.hid hFl
      have hFp : F.length ≤ p.size := by rw [← hF]; have := embF_le (wordG xs).reverse p.data.toList.reverse 0; rw [List.length_reverse, Array.length_toList] at this; exact this
      have Hlen := Lib.hid (show lenV xs = (N : Int) ∧ lenC xs = 0 by unfold lenV lenC; rw [Hg.out, if_pos rfl, if_pos rfl, gramLen_of hl, ← hwl, hN]; exact ⟨rfl, rfl⟩)
      have g0 := Blk.cell (i := 0) (v := .slice AR xs.length cR) G2.out rfl
      have gl := Blk.lt G2.out
      clear hl hw hwt hgt hwr hN hwl hbl hF hef hefc hel hFl
      go_wp2_with fail
      -- @V s
      refine (turnedOver_any _ xs _ HR2.out (by omega)).mono ?_
      rintro e w4 ⟨v4, rfl, own4, hb4⟩
      have HT4 := Lib.hid own4.sl
      have B4 := Lib.hid (Below.tr B2.out hb4)
      have HR4 := Lib.hid (HR2.out.up hb4)
      have G4 := Lib.hid (G2.out.up hb4)
      obtain ⟨A4, c4, rfl, _⟩ := own_nil own4
      clear hb4 own4 g0 gl
      go_wp2_with fail
      -- @V s.s
      refine (turned_any p _ (by omega)).mono ?_
      rintro e w5 ⟨rfl, hb5⟩
      have B5 := Lib.hid (Below.tr B4.out hb5)
      have HR5 := Lib.hid (HR4.out.up hb5)
      have HT5 := Lib.hid (HT4.out.up hb5)
      have G5 := Lib.hid (G4.out.up hb5)
      clear hb5
      go_wp2_with fail
      -- @V s.s.s
      have hfirst : Calls Try.prog 20 #[.agg #[.slice A4 xs.length c4], .string ⟨p.data.toList.reverse.toArray⟩] w5 (EfPost (xs.map turnR) (revB p) w5) := by
        have h := embedFirst_any (.slice A4 (xs.map turnR).length c4) (xs.map turnR) (revB p) w5 HT5.out (by rw [List.length_map]; exact hn) (by rw [revB_size]; exact hps)
        rw [List.length_map] at h
        exact h
      -- @V s.s.s.s
      refine hfirst.mono ?_
      rintro e w6 ⟨v6, rfl, own6, hb6⟩
      have B6 := Lib.hid (Below.tr B5.out hb6)
      have HR6 := Lib.hid (HR5.out.up hb6)
      have G6 := Lib.hid (G5.out.up hb6)
      have hz6 := B5.out.size
      rw [Hefc.out]
      clear hb6 hfirst
      -- @V s.s.s.s.s
      by_cases hlt : F.length < p.size
      · rw [if_pos hlt]
        have hel2 : elO xs p = none := by rw [Hel.out, if_pos hlt]
        have Hv := Lib.hid (show elC xs p = 6 ∧ elV xs p = [] by rw [Hc.out.1, Hc.out.2, hel2]; exact ⟨rfl, rfl⟩)
        clear hlt own6 hel2
        go_wp2_with fail
        go_ret2
        refine ⟨.slice none 0 0, by rw [Hv.out.1]; rfl, ?_, B6.out⟩
        rw [Hv.out.2]; exact OwnInts.nil _ _
      · rw [if_neg hlt]
        have hel2 : elO xs p = some (F.map fun a => N - 1 - a) := by rw [Hel.out, if_neg hlt]
        have hev : efV (xs.map turnR) (revB p) = F.map Int.ofNat := by rw [efV, Hefc.out, if_neg hlt, if_pos rfl, Hef.out]
        rw [hev] at own6
        have Hv := Lib.hid (show elC xs p = 0 ∧ elV xs p = (F.map (backI N)).reverse by
          rw [Hc.out.1, Hc.out.2, hel2]
          refine ⟨rfl, ?_⟩
          show ((F.map fun a => N - 1 - a).reverse).map Int.ofNat = _
          rw [List.map_reverse, List.map_map]
          congr 1
          refine List.map_congr_left fun a ha => ?_
          have := HFl.out a ha
          show ((N - 1 - a : Nat) : Int) = (N : Int) - 1 - a
          omega)
        obtain ⟨A6, c6, rfl, _⟩ := own_nil own6
        rw [List.length_map]
        have Own6 := Lib.hid (show OwnInts w6 w5.heap.size (.slice A6 F.length c6) (mixE N F 0) by
          rw [List.length_map] at own6
          unfold mixE; simpa using own6)
        have g0 := Blk.cell (i := 0) (v := .slice AR xs.length cR) G6.out rfl
        have gl := Blk.lt G6.out
        clear hlt own6 hel2 hev
        go_wp2_with fail
        refine (LengthOf_any _ xs _ HR6.out (by omega)).mono ?_
        rintro e w7 ⟨rfl, hb7⟩
        have B7 := Lib.hid (Below.tr B6.out hb7)
        have Own7 := Lib.hid (ownsRow_below Own6.out hb7)
        have hz7 := hb7.size
        rw [Hlen.out.1, Hlen.out.2]
        clear hb7 g0 gl
        go_wp2_with fail
        go_loopw [38] (fun vi wx => ∃ i : Nat, i ≤ F.length ∧ vi = .int .i64 (i : Int) ∧ Below w5.heap.size w7 wx ∧ OwnInts wx w5.heap.size (.slice A6 F.length c6) (mixE N F i)) (fun vi _ => F.length - (intOf vi).toNat)
        case atStart => exact ⟨0, Nat.zero_le _, rfl, Below.refl _ _, by have := Own7.out; unfold OwnInts at this ⊢; exact this⟩
        case round =>
          obtain ⟨i, hi, rfl, hb, hown⟩ := hrel
          have HB := Lib.hid hb
          have Hown := Lib.hid hown
          have hml := mixE_len N F i
          clear hb hown
          by_cases hil : i < F.length
          · have hiI : (i : Int) < (F.length : Int) := by omega
            obtain ⟨g, c, hv, hgb, hgl, _, hc⟩ := OwnInts.at_ Hown.out (j := i) (by omega)
            injection hv with hv1 _ hv3
            subst hv1
            have hci := hc i (by omega)
            rw [mixE_get N F hil] at hci
            have ha := HFl.out (F.getD i 0) (by rw [List.getD_eq_getElem?_getD, List.getElem?_eq_getElem hil]; exact List.getElem_mem hil)
            have hset := mixE_set N F hil
            obtain ⟨a, hae⟩ : ∃ a, F.getD i 0 = a := ⟨_, rfl⟩
            rw [hae] at hci ha hset
            have Hset := Lib.hid hset
            have Hml := Lib.hid hml
            have hfz : wr.frozen? ⟨g, i, none⟩ = false := by
              have h := Hown.out
              unfold OwnInts at h
              rw [hml] at h
              exact World.ownsRow.frozenAt h i
            have hw1 : IntKind.i64.wrap ((N : Int) - 1) = (N : Int) - 1 := IntWalk.i64_in _ (by omega)
            have hw2 : IntKind.i64.wrap ((N : Int) - 1 - (a : Int)) = (N : Int) - 1 - (a : Int) := IntWalk.i64_in _ (by omega)
            clear hc hae hset hml hv3
            go_wp2_with fail
            go_roundw
            case rel =>
              refine ⟨i + 1, by omega, by go_num, (by repeat (first | exact HB.out | (refine Below.alloc ?_ (by first | omega | (simp; done) | (simp; omega)) _) | (refine Below.setCell ?_ (by first | exact Nat.le_refl _ | (show _ ≤ _; omega) | (simp; done) | (simp; omega)) _) | refine below_drewN ?_ _ | refine Below.drew ?_)), ?_⟩
              rw [← Hset.out]
              exact OwnInts.stored Hown.out Hml.out i _
            case measure => simp [intOf]; omega
          · have hin : i = F.length := by omega
            subst hin
            have hown2 : OwnInts wr w5.heap.size (.slice A6 F.length c6) (F.map (backI N)) := by
              have h := Hown.out
              unfold mixE at h
              rw [List.take_length, List.drop_length, List.map_nil, List.append_nil] at h
              exact h
            have Hown2 := Lib.hid hown2
            clear hown2 hml
            go_wp2_with fail
            refine (reverse_ints _ _ _ Hown2.out (by rw [List.length_map]; omega)).mono ?_
            rintro e w8 ⟨rfl, own8, hb8⟩
            have Own8 := Lib.hid own8
            have HB8 := Lib.hid hb8
            clear own8 hb8
            go_wp2_with fail
            go_ret2
            refine ⟨.slice A6 F.length c6, by rw [Hv.out.1]; rfl, ?_, (B7.out.trans (HB.out.mono hz6)).trans (HB8.out.mono hz6)⟩
            rw [Hv.out.2]
            exact ownsRow_more Own8.out hz6
end Go.Proofs.Ytfkijaamfmpboaa
