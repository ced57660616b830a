import Derived.Test.YtejgbfgocaggfaaM3
import Derived.Test.YtejgbfgocaggfaaM2
namespace Go.Proofs.Ytejgbfgocaggfaa
open Go.RowKit
theorem keepN {W W2 : World} {row : Option Nat} {p0 p1 p2 p3 p4 p5 : Addr} {v0 v1 v2 v3 v4 v5 : Value}
    (h : W.cell? p0 = some v0 ∧ W.cell? p1 = some v1 ∧ W.cell? p2 = some v2 ∧ W.cell? p3 = some v3 ∧ W.cell? p4 = some v4 ∧ W.cell? p5 = some v5) (hg : W.grownBy W2 row)
    (h0 : some p0.block ≠ row) (h1 : some p1.block ≠ row) (h2 : some p2.block ≠ row) (h3 : some p3.block ≠ row) (h4 : some p4.block ≠ row) (h5 : some p5.block ≠ row) :
    W2.cell? p0 = some v0 ∧ W2.cell? p1 = some v1 ∧ W2.cell? p2 = some v2 ∧ W2.cell? p3 = some v3 ∧ W2.cell? p4 = some v4 ∧ W2.cell? p5 = some v5 :=
  ⟨hg.cell h.1 h0, hg.cell h.2.1 h1, hg.cell h.2.2.1 h2, hg.cell h.2.2.2.1 h3, hg.cell h.2.2.2.2.1 h4, hg.cell h.2.2.2.2.2 h5⟩
theorem keepN3 {W W2 : World} {row : Option Nat} {p0 p1 p2 : Addr} {v0 v1 v2 : Value}
    (h : W.cell? p0 = some v0 ∧ W.cell? p1 = some v1 ∧ W.cell? p2 = some v2) (hg : W.grownBy W2 row) (h0 : some p0.block ≠ row) (h1 : some p1.block ≠ row) (h2 : some p2.block ≠ row) :
    W2.cell? p0 = some v0 ∧ W2.cell? p1 = some v1 ∧ W2.cell? p2 = some v2 :=
  ⟨hg.cell h.1 h0, hg.cell h.2.1 h1, hg.cell h.2.2 h2⟩
set_option maxRecDepth 100000 in
set_option maxHeartbeats 4000000 in
theorem l04Maps_any (vN vR : Value) (bg og : Nat) (a : GAuto) (xs : List GRule) (ls : List Int) (w : World) (hN : Sl (SliceE IntE) w w.heap.size vN a.next) (hR : Sl RuleE w w.heap.size vR xs) (ha : autoOk a = true) (hl : lens xs = some ls) (hn : xs.length ≤ 1099511627776) (hp : w.cell? ⟨bg, og, none⟩ = some vR) (hbg : bg < w.heap.size) :
    Calls Try.prog 65 #[vN, .pointer (some ⟨bg, og, none⟩)] w (MapsPost w (mapsOf a.next xs)) := by
  obtain ⟨AN, cN, rfl, _, hmN, hrowN⟩ := hN
  obtain ⟨AR, cR, rfl, _, _, hrowR⟩ := hR
  obtain ⟨n1, n2, n3, n4⟩ := autoOk_get ha
  have hnext : a.next.length ≤ 24 := by omega
  have hnext0 : 1 ≤ a.next.length := by omega
  have Hl := Lib.hid hl
  have Ha := Lib.hid ha
  have N3 := Lib.hid n3
  have N4 := Lib.hid n4
  have HN := Lib.hid hrowN
  have HR := Lib.hid hrowR
  clear n3 n4 hl ha hrowN hrowR
  go_enter Try.func65, Try.ntmps65
  go_wp2_with fail
  go_loopw [5, 6] (fun out i wr => ∃ (k : Nat) (vs : List Value), k ≤ xs.length ∧ i = .int .i64 k ∧ Below w.heap.size w wr ∧ wr.ownsRow (w.heap.size) 26 1 out k vs ∧
    Each IntE wr (fun b => w.heap.size ≤ b ∧ b < wr.heap.size ∧ some b ≠ out.ownBlock) vs (mapsOf a.next (xs.take k))) (fun _ i _ => xs.length - (intOf i).toNat)
  case atStart => exact ⟨0, [], Nat.zero_le _, rfl, (Below.refl _ _).alloc (Nat.le_refl _) _, ownSl_empty rfl (Nat.le_refl _), Each.nil⟩
  case round =>
    obtain ⟨k, vs, hk, rfl, hb, hown, hea⟩ := hrel
    obtain ⟨wo, rfl⟩ : ∃ wo : World, wo = wr := ⟨_, rfl⟩
    have hsz : w.heap.size ≤ wo.heap.size := hb.size
    have hB : Below w.heap.size w wo := hb
    have hpg := (hb.cell (p := ⟨bg, og, none⟩) hbg).trans hp
    have hbg2 : bg < wo.heap.size := by omega
    have HB := Lib.hid hb
    have HBB := Lib.hid hB
    have Hown := Lib.hid hown
    have Hea := Lib.hid hea
    clear hb hB hown hea
    by_cases hlt : k < xs.length
    · obtain ⟨b2, o2, rfl, hb2, hcellR⟩ := HR.out.rule (k := k) hlt
      have hrk := getR_at hlt
      obtain ⟨k0, k1, k2⟩ := hcellR k _ hrk
      have hc0 := (HBB.out.cell (p := ⟨b2, o2 + k * 3, none⟩) hb2).trans k0
      have hc1 := (HBB.out.cell (p := ⟨b2, o2 + k * 3 + 1, none⟩) hb2).trans k1
      have hc2 := (HBB.out.cell (p := ⟨b2, o2 + k * 3 + 2, none⟩) hb2).trans k2
      have hok := (lens_steps Hl.out k _ hrk).1
      have hki : (k : Int) < (xs.length : Int) := by omega
      have Hok := Lib.hid hok
      have Hrk := Lib.hid hrk
      have hmo := mapsOf_ok Ha.out Hl.out k hk
      have Hmo := Lib.hid hmo
      have hml : (mapsOf a.next (xs.take k)).length = k := by rw [mapsOf_len, List.length_take]; omega
      have Hml := Lib.hid hml
      have hsl : SlS (SliceE IntE) wo (fun b => b < wo.heap.size) u5 (mapsOf a.next (xs.take k)) :=
        (Hea.out.more (S' := fun b => b < wo.heap.size) fun b h => h.2.1).sl (by rw [hml]; exact Hown.out) fun g hg => (World.ownsRow.lt Hown.out g hg).2
      have Hsl := Lib.hid hsl
      obtain ⟨Ao, co, hvo, _⟩ := hsl
      rw [hml] at hvo
      subst hvo
      clear hok hrk hmo hml k0 k1 k2 hcellR
      obtain ⟨R, hR⟩ : ∃ R, getR xs k = R := ⟨_, rfl⟩
      rw [hR] at hc0 hc1 hc2 Hok Hrk
      clear hR
      have Hsn : Hid (mapsOf a.next (xs.take (k + 1)) = mapsOf a.next (xs.take k) ++ [mapRow a.next (mapsOf a.next (xs.take k)) R]) := mapsOf_snoc Hrk.out
      obtain ⟨M, hM⟩ : ∃ M, mapsOf a.next (xs.take k) = M := ⟨_, rfl⟩
      rw [hM] at Hmo Hml Hsl Hea Hsn
      clear hM
      obtain ⟨rs, rl, rr⟩ := R
      simp only at hc0 hc1 hc2
      have hmc : ∀ s, s < a.next.length → 0 ≤ mapCell a.next M ⟨rs, rl, rr⟩ s ∧ mapCell a.next M ⟨rs, rl, rr⟩ s < a.next.length := fun s hs => mapCell_ok Ha.out Hmo.out (r := ⟨rs, rl, rr⟩) (by rw [Hml.out]; exact Hok.out) hs
      have Hmc := Lib.hid hmc
      clear hmc
      go_wp2_with fail
      go_loopw [7, 8] (fun row i wi => ∃ j : Nat, j ≤ a.next.length ∧ i = .int .i64 j ∧ Below wo.heap.size wo wi ∧ wo.heap.size ≤ wi.heap.size ∧
        OwnInts wi wo.heap.size row ((List.range j).map (mapCell a.next M ⟨rs, rl, rr⟩))) (fun _ i _ => a.next.length - (intOf i).toNat)
      case atStart => exact ⟨0, Nat.zero_le _, rfl, (by repeat (first | exact Below.refl _ _ | (refine Below.alloc ?_ (by first | omega | (simp; done) | (simp; omega)) _) | refine below_drewN ?_ _ | refine Below.drew ?_)), by simp, OwnInts.empty rfl (Nat.le_refl _)⟩
      case round =>
        obtain ⟨j, hj, rfl, hbi, hzi, howni⟩ := hrel
        have Hbi := Lib.hid hbi
        have Howni := Lib.hid howni
        clear hbi howni
        have hlen : ((List.range j).map (mapCell a.next M ⟨rs, rl, rr⟩)).length ≤ 1099511627776 := by simp; omega
        have hsi : wo.heap.size ≤ wr.heap.size := hzi
        have hpg2 := (Hbi.out.cell (p := ⟨bg, og, none⟩) hbg2).trans hpg
        have hb2o : b2 < wo.heap.size := by omega
        have hd0 := (Hbi.out.cell (p := ⟨b2, o2 + k * 3, none⟩) hb2o).trans hc0
        have hd1 := (Hbi.out.cell (p := ⟨b2, o2 + k * 3 + 1, none⟩) hb2o).trans hc1
        have hd2 := (Hbi.out.cell (p := ⟨b2, o2 + k * 3 + 2, none⟩) hb2o).trans hc2
        by_cases hjl : j < a.next.length
        · have Hnx : Hid ((List.range (j + 1)).map (mapCell a.next M ⟨rs, rl, rr⟩) = (List.range j).map (mapCell a.next M ⟨rs, rl, rr⟩) ++ [mapCell a.next M ⟨rs, rl, rr⟩ j]) := by rw [Hid, List.range_succ, List.map_append]; rfl
          have hce := Hmc.out j hjl
          obtain ⟨m2, hm2⟩ : ∃ m2 : Nat, mapCell a.next M ⟨rs, rl, rr⟩ j = m2 := ⟨(mapCell a.next M ⟨rs, rl, rr⟩ j).toNat, by omega⟩
          have Hm2 := Lib.hid hm2
          clear hce hm2
          have i3 : (j : Int) < (a.next.length : Int) := by omega
          by_cases hp : (⟨rs, rl, rr⟩ : GRule).pair = true
          · obtain ⟨p1, p2, p3, p4⟩ := pair_of_ok Hok.out hp
            have Hp := Lib.hid hp
            have hemp : rs.toList.isEmpty = true := by rw [isEmpty_size]; exact hp
            obtain ⟨l, hl⟩ := Int.eq_ofNat_of_zero_le p1
            obtain ⟨q, hq⟩ := Int.eq_ofNat_of_zero_le p3
            simp only at hl hq p2 p4
            rw [hl, Int.toNat_natCast] at p2
            rw [hq, Int.toNat_natCast] at p4
            have Hl1 := Lib.hid hl
            have Hq1 := Lib.hid hq
            clear hp p1 p3 hl hq
            have hM0 := Hml.out
            obtain ⟨Ao2, co2, hv2, _, _, hrow2⟩ := (Hsl.out.keep (Keep.of_below Hbi.out))
            have ea : Ao = Ao2 := by injection hv2
            subst ea
            clear hv2
            obtain ⟨b, o, rfl, hbb, hcells⟩ := cells2 hrow2 (by omega)
            have r1 := Hmo.out l (by omega)
            have r2 := Hmo.out q (by omega)
            obtain ⟨m1, hm1⟩ : ∃ m1 : Nat, (M.getD l []).getD j 0 = m1 := ⟨((M.getD l []).getD j 0).toNat, by have := (r1.2 j hjl).1; omega⟩
            have hm1l : m1 < a.next.length := by have := (r1.2 j hjl).2; omega
            obtain ⟨b1, o1, c1, d1, d2, d3⟩ := hcells l j (by omega) (by rw [r1.1]; exact hjl)
            obtain ⟨b3, o3, c3, f1, f2, f3⟩ := hcells q m1 (by omega) (by rw [r2.1]; exact hm1l)
            rw [r1.1] at d1
            rw [r2.1] at f1
            rw [hm1] at d3
            have hcellv : (M.getD q []).getD m1 0 = m2 := by
              have := Hm2.out
              rw [mapCell, if_pos Hp.out] at this
              simp only [Hl1.out, Hq1.out, Int.toNat_natCast, hm1] at this
              exact this
            rw [hcellv] at f3
            have y0 : b < wo.heap.size := hbb
            have y2 : b1 < wo.heap.size := d2
            have y3 : b3 < wo.heap.size := f2
            have i1 : (l : Int) < (k : Int) := by omega
            have i2 : (q : Int) < (k : Int) := by omega
            have i4 : (m1 : Int) < (a.next.length : Int) := by omega
            clear hrow2 hcells r1 r2 hm1 hcellv hM0
            go_wp2_with fail
            have hb1 : Below wr.heap.size wr (wr.alloc (Obj.cells #[.string rs, .int .i64 rl, .int .i64 rr] 138)) := (Below.refl _ _).alloc (Nat.le_refl _) _
            have g0 : (wr.alloc (Obj.cells #[.string rs, .int .i64 rl, .int .i64 rr] 138)).cell? ⟨wr.heap.size, 0, none⟩ = some (.string rs) := by simp [go_sem]
            have g1 : (wr.alloc (Obj.cells #[.string rs, .int .i64 rl, .int .i64 rr] 138)).cell? ⟨wr.heap.size, 1, none⟩ = some (.int .i64 rl) := by simp [go_sem]
            have g2 : (wr.alloc (Obj.cells #[.string rs, .int .i64 rl, .int .i64 rr] 138)).cell? ⟨wr.heap.size, 2, none⟩ = some (.int .i64 rr) := by simp [go_sem]
            have hzn : (wr.alloc (Obj.cells #[.string rs, .int .i64 rl, .int .i64 rr] 138)).heap.size = wr.heap.size + 1 := by simp
            generalize wr.alloc (Obj.cells #[.string rs, .int .i64 rl, .int .i64 rr] 138) = w1 at *
            have hzb : wr.heap.size < w1.heap.size := by omega
            clear hzn
            rw [Hl1.out] at g1
            rw [Hq1.out] at g2
            have g3 := (hb1.cell (p := ⟨b, o + l, none⟩) (by show b < _; omega)).trans d1
            have g4 := (hb1.cell (p := ⟨b1, o1 + j, none⟩) (by show b1 < _; omega)).trans d3
            have g5 := (hb1.cell (p := ⟨b, o + q, none⟩) (by show b < _; omega)).trans f1
            have g6 := (hb1.cell (p := ⟨b3, o3 + m1, none⟩) (by show b3 < _; omega)).trans f3
            have hz1 : wo.heap.size < w1.heap.size := by omega
            have z0 : b < w1.heap.size := by omega
            have z2 : b1 < w1.heap.size := by omega
            have z3 : b3 < w1.heap.size := by omega
            have Hb1 := Lib.hid (Hbi.out.trans (hb1.mono hsi))
            have Hown1 := Lib.hid (ownsRow_below Howni.out hb1)
            have hne : some wr.heap.size ≠ u7.ownBlock := fun e => by have := (World.ownsRow.lt Howni.out _ e.symm).2; omega
            have Hne := Lib.hid hne
            have hbl : ∀ b, b < wo.heap.size → some b ≠ u7.ownBlock := fun b hb e => by have := (World.ownsRow.lt Howni.out _ e.symm).1; omega
            have Hbl := Lib.hid hbl
            clear hb1 d1 d3 f1 f3 d2 f2 hbb g0 hne hbl
            go_region_held3 (fun w' => w'.cell? ⟨wr.heap.size, 1, none⟩ = some (.int .i64 (l : Int)) ∧ w'.cell? ⟨wr.heap.size, 2, none⟩ = some (.int .i64 (q : Int)) ∧ w'.cell? ⟨b, o + l, none⟩ = some (.slice (some ⟨b1, o1, none⟩) a.next.length c1) ∧ w'.cell? ⟨b1, o1 + j, none⟩ = some (.int .i64 (m1 : Int)) ∧ w'.cell? ⟨b, o + q, none⟩ = some (.slice (some ⟨b3, o3, none⟩) a.next.length c3) ∧ w'.cell? ⟨b3, o3 + m1, none⟩ = some (.int .i64 (m2 : Int)))
              (first | go_keep | exact keepN (by assumption) hgrow Hne.out Hne.out (Hbl.out _ y0) (Hbl.out _ y2) (Hbl.out _ y0) (Hbl.out _ y3))
              ((refine step_push_int (y := (m2 : Int)) (N := w1.heap.size) (base := wo.heap.size) (by rfl) _ _ (by rfl) (by rfl) (by rfl) (by simp [go_sem]) (OwnInts.drew (OwnInts.alloc Hown1.out _)) hlen (Nat.le_trans (Nat.le_of_lt hz1) (leDA _ _)) ?_; intro v' w2 hown2 hgrow hblk))
            have B2 : Below wo.heap.size w1 w2 := (((Below.refl _ _).alloc (Nat.le_of_lt hz1) _).drew).grown hgrow (Nat.le_trans (Nat.le_of_lt hz1) (leDA _ _)) (fun g hg => (World.ownsRow.lt Hown1.out g hg).1)
            have hz2 : wo.heap.size ≤ w2.heap.size := by have := B2.size; omega
            have HB2 := Lib.hid (Hb1.out.trans B2)
            have Hown2 := Lib.hid hown2
            clear B2 hown2 hgrow hblk
            go_wp2_with fail
            go_roundw
            case rel => exact ⟨j + 1, by omega, by go_num, HB2.out, hz2, by rw [Hnx.out, Hm2.out]; exact Hown2.out⟩
            case measure => simp [intOf]; omega
          · obtain ⟨p1, p2, p3⟩ := letter_of_ok Hok.out (by simpa using hp)
            have hp' : (⟨rs, rl, rr⟩ : GRule).pair = false := by simpa using hp
            have Hp := Lib.hid hp'
            have hemp : rs.toList.isEmpty = false := by rw [isEmpty_size]; simpa [GRule.pair] using hp'
            simp only at p1 p2 p3
            have hs0 : 0 < rs.size := by omega
            rw [getD0 rs hs0] at p2 p3
            obtain ⟨d, hd⟩ : ∃ d, rs[0].toNat = 97 + d := ⟨rs[0].toNat - 97, by omega⟩
            have hd4 : d < 4 := by omega
            have r1 := N4.out j hjl
            have hcellv : (a.next.getD j []).getD d 0 = m2 := by
              have := Hm2.out
              rw [mapCell, Hp.out] at this
              simp only [Bool.false_eq_true, if_false, getD0 rs hs0, hd] at this
              rw [← this]; congr 1; omega
            have hBr := HBB.out.trans (Hbi.out.mono (by omega))
            obtain ⟨b, o, rfl, hbb, hcells⟩ := cells2 (HN.out.keep (Keep.of_below hBr)) (by omega)
            obtain ⟨b1, o1, c1, d1, d2, d3⟩ := hcells j d hjl (by rw [r1.1]; exact hd4)
            rw [r1.1] at d1
            rw [hcellv] at d3
            have y0 : b < wo.heap.size := by have : b < w.heap.size := hbb; omega
            have y2 : b1 < wo.heap.size := by have : b1 < w.heap.size := d2; omega
            have i4 : (d : Int) < 4 := by omega
            have h8 : IntKind.u8.wrap ((rs[0].toNat : Int) - 97) = (d : Int) := by rw [hd, IntWalk.u8_in _ (by omega)]; omega
            have his : (0 : Int) < (rs.size : Int) := by omega
            have H8 := Lib.hid h8
            have hlet : ∀ W, Calls Try.prog 50 #[.int .u8 rs[0].toNat] W fun e w' => e = .returned (.int .i64 (d : Int)) ∧ W = w' := fun W => by
              have := l04Letter_any rs[0] W (by omega) (by omega)
              rwa [show rs[0].toNat - 97 = d by omega] at this
            have Hlet := Lib.hid hlet
            clear hp hp' r1 hcellv hcells hd h8 hBr p1 p2 p3 hlet H8
            go_wp2_with fail
            have hb1 : Below wr.heap.size wr (wr.alloc (Obj.cells #[.string rs, .int .i64 rl, .int .i64 rr] 138)) := (Below.refl _ _).alloc (Nat.le_refl _) _
            have g0 : (wr.alloc (Obj.cells #[.string rs, .int .i64 rl, .int .i64 rr] 138)).cell? ⟨wr.heap.size, 0, none⟩ = some (.string rs) := by simp [go_sem]
            have g1 : (wr.alloc (Obj.cells #[.string rs, .int .i64 rl, .int .i64 rr] 138)).cell? ⟨wr.heap.size, 1, none⟩ = some (.int .i64 rl) := by simp [go_sem]
            have g2 : (wr.alloc (Obj.cells #[.string rs, .int .i64 rl, .int .i64 rr] 138)).cell? ⟨wr.heap.size, 2, none⟩ = some (.int .i64 rr) := by simp [go_sem]
            have hzn : (wr.alloc (Obj.cells #[.string rs, .int .i64 rl, .int .i64 rr] 138)).heap.size = wr.heap.size + 1 := by simp
            generalize wr.alloc (Obj.cells #[.string rs, .int .i64 rl, .int .i64 rr] 138) = w1 at *
            have hzb : wr.heap.size < w1.heap.size := by omega
            clear hzn
            have g3 := (hb1.cell (p := ⟨b, o + j, none⟩) (by show b < _; omega)).trans d1
            have g4 := (hb1.cell (p := ⟨b1, o1 + d, none⟩) (by show b1 < _; omega)).trans d3
            have hz1 : wo.heap.size < w1.heap.size := by omega
            have z0 : b < w1.heap.size := by omega
            have z2 : b1 < w1.heap.size := by omega
            have Hb1 := Lib.hid (Hbi.out.trans (hb1.mono hsi))
            have Hown1 := Lib.hid (ownsRow_below Howni.out hb1)
            have hne : some wr.heap.size ≠ u7.ownBlock := fun e => by have := (World.ownsRow.lt Howni.out _ e.symm).2; omega
            have Hne := Lib.hid hne
            have hbl : ∀ b, b < wo.heap.size → some b ≠ u7.ownBlock := fun b hb e => by have := (World.ownsRow.lt Howni.out _ e.symm).1; omega
            have Hbl := Lib.hid hbl
            clear hb1 d1 d3 d2 hbb g1 g2 hne hbl
            go_region_held3 (fun w' => w'.cell? ⟨wr.heap.size, 0, none⟩ = some (.string rs) ∧ w'.cell? ⟨b, o + j, none⟩ = some (.slice (some ⟨b1, o1, none⟩) 4 c1) ∧ w'.cell? ⟨b1, o1 + d, none⟩ = some (.int .i64 (m2 : Int)))
              (first | go_keep | exact keepN3 (by assumption) hgrow Hne.out (Hbl.out _ y0) (Hbl.out _ y2))
              (first
                | (go_at_call 50; refine (Hlet.out _).mono ?_; rintro e w' ⟨rfl, rfl⟩)
                | (refine step_push_int (y := (m2 : Int)) (N := w1.heap.size) (base := wo.heap.size) (by rfl) _ _ (by rfl) (by rfl) (by rfl) (by simp [go_sem]) (OwnInts.drew (OwnInts.alloc Hown1.out _)) hlen (Nat.le_trans (Nat.le_of_lt hz1) (leDA _ _)) ?_; intro v' w2 hown2 hgrow hblk))
            have B2 : Below wo.heap.size w1 w2 := (((Below.refl _ _).alloc (Nat.le_of_lt hz1) _).drew).grown hgrow (Nat.le_trans (Nat.le_of_lt hz1) (leDA _ _)) (fun g hg => (World.ownsRow.lt Hown1.out g hg).1)
            have hz2 : wo.heap.size ≤ w2.heap.size := by have := B2.size; omega
            have HB2 := Lib.hid (Hb1.out.trans B2)
            have Hown2 := Lib.hid hown2
            clear B2 hown2 hgrow hblk
            go_wp2_with fail
            go_roundw
            case rel => exact ⟨j + 1, by omega, by go_num, HB2.out, hz2, by rw [Hnx.out, Hm2.out]; exact Hown2.out⟩
            case measure => simp [intOf]; omega
        · have hjn : j = a.next.length := by omega
          have hown3 := ownsRow_below Hown.out Hbi.out
          have Hown3 := Lib.hid hown3
          obtain ⟨Ar, cr, hvr, _⟩ := own_nil Howni.out
          subst hvr
          have Hrow : Hid ((List.range j).map (mapCell a.next M ⟨rs, rl, rr⟩) = mapRow a.next M ⟨rs, rl, rr⟩) := by rw [Hid, mapRow, hjn]
          clear hown3
          go_wp2_with (at_builtin; go_must (refine push_sl (W := wr) (N := wr.heap.size) (base := w.heap.size) rfl _ _ rfl rfl rfl rfl rfl (by exact Hown3.out) (by omega) (by omega) ?_); intro v' w2 hown2 hgrow hblk)
          have Hea2 := Lib.hid (maps_push (B := wo.heap.size) (by omega) (Nat.le_refl _) Hown.out Hea.out Hbi.out Howni.out hgrow hblk)
          have Hown2 := Lib.hid hown2
          have B2 := Lib.hid (HB.out.trans (((Hbi.out.mono (by omega)).alloc (by omega) _).grown hgrow (by simp; omega) (fun g hg => (World.ownsRow.lt Hown.out g hg).1)))
          clear hown2 hgrow hblk
          go_roundw
          case rel => exact ⟨k + 1, _, by omega, by go_num, B2.out, Hown2.out, by rw [Hsn.out, ← Hrow.out]; have := Hea2.out; simp only [List.length_map, List.length_range, hjn] at this ⊢; exact this⟩
          case measure => simp [intOf]; omega
    · have hkn : k = xs.length := by omega
      subst hkn
      rw [List.take_length] at Hea
      have Hsl : Hid (SlS (SliceE IntE) wo (fun b => w.heap.size ≤ b ∧ b < wo.heap.size) u5 (mapsOf a.next xs)) :=
        (Hea.out.more (S' := fun b => w.heap.size ≤ b ∧ b < wo.heap.size) fun b h => ⟨h.1, h.2.1⟩).sl (by rw [mapsOf_len]; exact Hown.out) fun g hg => World.ownsRow.lt Hown.out g hg
      go_wp2_with fail
      go_ret
      exact ⟨_, rfl, Hsl.out, HBB.out⟩
def RideV (w : World) (B : Nat) (v : Value) (a : GAuto) (xs : List GRule) (ls : List Int) : Prop :=
  ∃ vF vN vR vL vM, v = .agg #[.int .i64 a.states, .int .i64 a.start, vF, vN, vR, vL, vM] ∧ Sl IntE w B vF a.finals ∧ Sl (SliceE IntE) w B vN a.next ∧ Sl RuleE w B vR xs ∧ Sl IntE w B vL ls ∧ Sl (SliceE IntE) w B vM (mapsOf a.next xs)
theorem RideV.below {w w' : World} {B : Nat} {v : Value} {a : GAuto} {xs : List GRule} {ls : List Int} (h : RideV w B v a xs ls) (hb : Below B w w') : RideV w' B v a xs ls := by
  obtain ⟨vF, vN, vR, vL, vM, rfl, h1, h2, h3, h4, h5⟩ := h
  exact ⟨vF, vN, vR, vL, vM, rfl, h1.below hb, h2.below hb, h3.below hb, h4.below hb, h5.below hb⟩
theorem RideV.le {w : World} {B B' : Nat} {v : Value} {a : GAuto} {xs : List GRule} {ls : List Int} (h : RideV w B v a xs ls) (hb : B ≤ B') : RideV w B' v a xs ls := by
  obtain ⟨vF, vN, vR, vL, vM, rfl, h1, h2, h3, h4, h5⟩ := h
  exact ⟨vF, vN, vR, vL, vM, rfl, h1.le hb, h2.le hb, h3.le hb, h4.le hb, h5.le hb⟩
theorem RideV.up {w0 w : World} {v : Value} {a : GAuto} {xs : List GRule} {ls : List Int} (h : RideV w0 w0.heap.size v a xs ls) (hb : Below w0.heap.size w0 w) : RideV w w.heap.size v a xs ls := (h.below hb).le hb.size
def RidePost (a : GAuto) (xs : List GRule) (w : World) (e : Ending) (w' : World) : Prop :=
  Below w.heap.size w w' ∧ ((∃ ls v, lens xs = some ls ∧ gramOk xs = true ∧ autoOk a = true ∧ e = .returned (.tuple #[v, .bool true]) ∧ RideV w' w'.heap.size v a xs ls) ∨
    ((autoOk a && gramOk xs) = false ∧ e = .returned (.tuple #[.agg #[.int .i64 0, .int .i64 0, .slice none 0 0, .slice none 0 0, .slice none 0 0, .slice none 0 0, .slice none 0 0], .bool false])))
theorem keepR {N : Nat} {wr W W2 : World} {p q : Nat} {a0 a1 a2 a3 b0 : Value}
    (h : Below N wr W ∧ W.cell? ⟨p, 0, none⟩ = some a0 ∧ W.cell? ⟨p, 1, none⟩ = some a1 ∧ W.cell? ⟨p, 2, none⟩ = some a2 ∧ W.cell? ⟨p, 3, none⟩ = some a3 ∧ W.cell? ⟨q, 0, none⟩ = some b0)
    (h2 : Below W.heap.size W W2) (hN : N ≤ wr.heap.size) (hp : p < N) (hq : q < N) :
    Below N wr W2 ∧ W2.cell? ⟨p, 0, none⟩ = some a0 ∧ W2.cell? ⟨p, 1, none⟩ = some a1 ∧ W2.cell? ⟨p, 2, none⟩ = some a2 ∧ W2.cell? ⟨p, 3, none⟩ = some a3 ∧ W2.cell? ⟨q, 0, none⟩ = some b0 := by
  obtain ⟨h1, x0, x1, x2, x3, y0⟩ := h
  have hs := h1.size
  have A := Box4.up ⟨x0, x1, x2, x3⟩ h2 (by omega)
  exact ⟨h1.trans (h2.mono (by omega)), A.1, A.2.1, A.2.2.1, A.2.2.2, (h2.cell (p := ⟨q, 0, none⟩) (by show q < _; omega)).trans y0⟩
theorem keepRD {N : Nat} {W : World} {p q : Nat} {a0 a1 a2 a3 b0 : Value} (x0 : W.cell? ⟨p, 0, none⟩ = some a0) (x1 : W.cell? ⟨p, 1, none⟩ = some a1) (x2 : W.cell? ⟨p, 2, none⟩ = some a2) (x3 : W.cell? ⟨p, 3, none⟩ = some a3) (y0 : W.cell? ⟨q, 0, none⟩ = some b0) :
    Below N W W.drew ∧ W.drew.cell? ⟨p, 0, none⟩ = some a0 ∧ W.drew.cell? ⟨p, 1, none⟩ = some a1 ∧ W.drew.cell? ⟨p, 2, none⟩ = some a2 ∧ W.drew.cell? ⟨p, 3, none⟩ = some a3 ∧ W.drew.cell? ⟨q, 0, none⟩ = some b0 :=
  ⟨(Below.refl _ _).drew, x0, x1, x2, x3, y0⟩
theorem keepRS {N : Nat} {wr W : World} {p q b o : Nat} {a0 a1 a2 a3 b0 u : Value}
    (h : Below N wr W ∧ W.cell? ⟨p, 0, none⟩ = some a0 ∧ W.cell? ⟨p, 1, none⟩ = some a1 ∧ W.cell? ⟨p, 2, none⟩ = some a2 ∧ W.cell? ⟨p, 3, none⟩ = some a3 ∧ W.cell? ⟨q, 0, none⟩ = some b0)
    (hb : N ≤ b) (hp : p < N) (hq : q < N) :
    Below N wr (W.setCell ⟨b, o, none⟩ u) ∧ (W.setCell ⟨b, o, none⟩ u).cell? ⟨p, 0, none⟩ = some a0 ∧ (W.setCell ⟨b, o, none⟩ u).cell? ⟨p, 1, none⟩ = some a1 ∧ (W.setCell ⟨b, o, none⟩ u).cell? ⟨p, 2, none⟩ = some a2 ∧ (W.setCell ⟨b, o, none⟩ u).cell? ⟨p, 3, none⟩ = some a3 ∧ (W.setCell ⟨b, o, none⟩ u).cell? ⟨q, 0, none⟩ = some b0 := by
  obtain ⟨h1, x0, x1, x2, x3, y0⟩ := h
  have h2 : Below N W (W.setCell ⟨b, o, none⟩ u) := (Below.refl _ _).setCell hb _
  have A := Box4.up ⟨x0, x1, x2, x3⟩ h2 hp
  exact ⟨h1.trans h2, A.1, A.2.1, A.2.2.1, A.2.2.2, (h2.cell (p := ⟨q, 0, none⟩) hq).trans y0⟩
set_option maxRecDepth 100000 in
set_option maxHeartbeats 2000000 in
theorem newRide_any (v vR : Value) (a : GAuto) (xs : List GRule) (w : World) (h : AutoV w w.heap.size v a) (hR : Sl RuleE w w.heap.size vR xs) (hn : xs.length ≤ 1099511627776) :
    Calls Try.prog 83 #[v, .agg #[vR]] w (RidePost a xs w) := by
  have hB := fun o o' o'' => (((Below.refl w.heap.size w).alloc (Nat.le_refl _) o).alloc (by simp) o').alloc (by simp; omega) o''
  have HB := Lib.hid hB
  have HA := Lib.hid h
  have HR := Lib.hid hR
  clear hB
  obtain ⟨vF, vN, rfl, hF, hN⟩ := h
  have HF := Lib.hid hF
  have HN := Lib.hid hN
  obtain ⟨AF, cF, rfl, _⟩ := hF
  obtain ⟨AN, cN, rfl, _⟩ := hN
  obtain ⟨AR, cR, rfl, _⟩ := hR
  go_enter Try.func83, Try.ntmps83
  go_wp2_with fail
  refine (lengths_any _ xs _ ((HR.out.below (HB.out _ _ _)).le (by first | omega | (simp; done) | (simp; omega))) hn).mono ?_
  rintro e w1 ⟨hb1, hpost⟩
  have z1 : w.heap.size + 2 < w1.heap.size := Nat.lt_of_lt_of_le (by simp) hb1.size
  have z2 : w.heap.size + 1 + 1 < w1.heap.size := z1
  have z3 : w.heap.size + 1 < w1.heap.size := by omega
  have z4 : w.heap.size < w1.heap.size := by omega
  have x0 : w1.cell? ⟨w.heap.size, 0, none⟩ = some (.int .i64 a.states) := (hb1.cell (p := ⟨w.heap.size, 0, none⟩) (by simp; omega)).trans (by simp [go_sem])
  have x1 : w1.cell? ⟨w.heap.size, 1, none⟩ = some (.int .i64 a.start) := (hb1.cell (p := ⟨w.heap.size, 1, none⟩) (by simp; omega)).trans (by simp [go_sem])
  have x2 : w1.cell? ⟨w.heap.size, 2, none⟩ = some (.slice AF a.finals.length cF) := (hb1.cell (p := ⟨w.heap.size, 2, none⟩) (by simp; omega)).trans (by simp [go_sem])
  have x3 : w1.cell? ⟨w.heap.size, 3, none⟩ = some (.slice AN a.next.length cN) := (hb1.cell (p := ⟨w.heap.size, 3, none⟩) (by simp; omega)).trans (by simp [go_sem])
  have y0 : w1.cell? ⟨w.heap.size + 1, 0, none⟩ = some (.slice AR xs.length cR) := (hb1.cell (p := ⟨w.heap.size + 1, 0, none⟩) (by simp)).trans (by simp [go_sem])
  obtain ⟨hc1, hf1⟩ := bcell hb1
  have rz : ∀ j, j < 7 → ∃ u, w1.cell? ⟨w.heap.size + 1 + 1, j, none⟩ = some u := fun j hj => by
    rw [hc1 _ _ (by simp)]
    match j, hj with
    | 0, _ => exact ⟨.int .i64 0, by simp [go_sem]⟩
    | 1, _ => exact ⟨.int .i64 0, by simp [go_sem]⟩
    | 2, _ => exact ⟨.slice none 0 0, by simp [go_sem]⟩
    | 3, _ => exact ⟨.slice none 0 0, by simp [go_sem]⟩
    | 4, _ => exact ⟨.slice none 0 0, by simp [go_sem]⟩
    | 5, _ => exact ⟨.slice none 0 0, by simp [go_sem]⟩
    | 6, _ => exact ⟨.slice none 0 0, by simp [go_sem]⟩
  have fz : ∀ j, w1.frozen? ⟨w.heap.size + 1 + 1, j, none⟩ = false := fun j => by rw [hf1 _ _ (by simp)]; simp [go_sem]
  have HA1 := Lib.hid ((HA.out.below ((HB.out _ _ _).trans (hb1.mono (by simp; omega)))).le (B' := w1.heap.size) (by omega))
  have HR1 := Lib.hid ((HR.out.below ((HB.out _ _ _).trans (hb1.mono (by simp; omega)))).le (B' := w1.heap.size) (by omega))
  have B1 := Lib.hid ((HB.out _ _ _).trans (hb1.mono (by simp; omega)))
  have RZ := Lib.hid rz
  have FZ := Lib.hid fz
  clear hb1 hc1 hf1 rz fz
  rcases hpost with ⟨ls, vL, hl, rfl, hown⟩ | ⟨hl, rfl⟩
  · by_cases h4 : xs.length ≤ 400
    · have g4 : decide (xs.length ≤ 400) = true := by simpa using h4
      have H4 := Lib.hid h4
      have Hl := Lib.hid hl
      have Hgr : Hid (gramOk xs = true) := by simp [Hid, gramOk, hl, h4]
      have Hown := Lib.hid hown
      obtain ⟨AL, cL, rfl, _⟩ := own_nil hown
      clear hl hown
      go_wp2_with fail
      refine (ValidAuto_any _ a _ HA1.out).mono ?_
      rintro e w2 ⟨rfl, hb2⟩
      have u0 := (hb2.cell (p := ⟨w.heap.size, 0, none⟩) z4).trans x0
      have u1 := (hb2.cell (p := ⟨w.heap.size, 1, none⟩) z4).trans x1
      have u2 := (hb2.cell (p := ⟨w.heap.size, 2, none⟩) z4).trans x2
      have u3 := (hb2.cell (p := ⟨w.heap.size, 3, none⟩) z4).trans x3
      have t0 := (hb2.cell (p := ⟨w.heap.size + 1, 0, none⟩) z3).trans y0
      have q4 : w.heap.size < w2.heap.size := by have := hb2.size; omega
      have q3 : w.heap.size + 1 < w2.heap.size := by have := hb2.size; omega
      have q2 : w.heap.size + 1 + 1 < w2.heap.size := by have := hb2.size; omega
      have RZ2 := Lib.hid (fun j (hj : j < 7) => (RZ.out j hj).imp fun u hu => (hb2.cell (p := ⟨w.heap.size + 1 + 1, j, none⟩) z2).trans hu)
      have FZ2 := Lib.hid (fun j => (hb2.frozen (p := ⟨w.heap.size + 1 + 1, j, none⟩) z2).trans (FZ.out j))
      have HA2 := Lib.hid (HA1.out.up hb2)
      have HR2 := Lib.hid (HR1.out.up hb2)
      have HN2 : Hid (Sl (SliceE IntE) w2 w2.heap.size (.slice AN a.next.length cN) a.next) := by
        obtain ⟨vF', vN', hv', hF', hN'⟩ := HA2.out
        injection hv' with hv'
        simp at hv'
        obtain ⟨_, rfl⟩ := hv'
        exact hN'
      have B2 := Lib.hid (B1.out.trans (hb2.mono (by omega)))
      have Hown2 := Lib.hid (ownsRow_below Hown.out hb2)
      clear hb2 x0 x1 x2 x3 y0
      by_cases c1 : autoOk a = true
      · have C1 := Lib.hid c1
        have g1 : (!autoOk a) = false := by simp [c1]
        clear c1
        go_wp2_with fail
        have e1 : w.heap.size + 1 + 1 ≤ w2.heap.size := by omega
        have e2 : w.heap.size < w.heap.size + 1 + 1 := by omega
        have e3 : w.heap.size + 1 < w.heap.size + 1 + 1 := by omega
        have e4 : w.heap.size + 1 + 1 ≤ w.heap.size + 1 + 1 := by omega
        go_region_held3 (fun w' => Below (w.heap.size + 1 + 1) w2 w' ∧ w'.cell? ⟨w.heap.size, 0, none⟩ = some (.int .i64 a.states) ∧ w'.cell? ⟨w.heap.size, 1, none⟩ = some (.int .i64 a.start) ∧ w'.cell? ⟨w.heap.size, 2, none⟩ = some (.slice AF a.finals.length cF) ∧ w'.cell? ⟨w.heap.size, 3, none⟩ = some (.slice AN a.next.length cN) ∧ w'.cell? ⟨w.heap.size + 1, 0, none⟩ = some (.slice AR xs.length cR))
          (first | (with_reducible exact keepRD u0 u1 u2 u3 t0) | (with_reducible exact keepR (keepRD u0 u1 u2 u3 t0) hb3 e1 e2 e3) | (with_reducible exact keepRS (keepRS (keepRS (keepRS (keepRS (keepRS (keepRS (keepR (keepRD u0 u1 u2 u3 t0) hb3 e1 e2 e3) e4 e2 e3) e4 e2 e3) e4 e2 e3) e4 e2 e3) e4 e2 e3) e4 e2 e3) e4 e2 e3))
          (first
            | (go_at_call 120; refine (stateMaps_any _ _ a xs ls _ (HN2.out.up (Below.drew (Below.refl _ _))) (HR2.out.up (Below.drew (Below.refl _ _))) C1.out Hl.out hn).mono ?_; rintro e w3 ⟨vM, rfl, hM, hb3⟩; have HM := Lib.hid hM; obtain ⟨AM, cM, rfl, _⟩ := hM; have b3 : Below w2.heap.size w2 w3 := (Below.drew (Below.refl _ _)).trans hb3; have hfz := (fun j => (b3.frozen (p := ⟨w.heap.size + 1 + 1, j, none⟩) q2).trans (FZ2.out j)); have hz3 : w.heap.size + 1 + 1 < w3.heap.size := Nat.lt_of_lt_of_le q2 b3.size; obtain ⟨l0, k0⟩ := RZ2.out 0 (by omega); obtain ⟨l1, k1⟩ := RZ2.out 1 (by omega); obtain ⟨l2, k2⟩ := RZ2.out 2 (by omega); obtain ⟨l3, k3⟩ := RZ2.out 3 (by omega); obtain ⟨l4, k4⟩ := RZ2.out 4 (by omega); obtain ⟨l5, k5⟩ := RZ2.out 5 (by omega); obtain ⟨l6, k6⟩ := RZ2.out 6 (by omega); have m0 := (b3.cell (p := ⟨w.heap.size + 1 + 1, 0, none⟩) q2).trans k0; have m1 := (b3.cell (p := ⟨w.heap.size + 1 + 1, 1, none⟩) q2).trans k1; have m2 := (b3.cell (p := ⟨w.heap.size + 1 + 1, 2, none⟩) q2).trans k2; have m3 := (b3.cell (p := ⟨w.heap.size + 1 + 1, 3, none⟩) q2).trans k3; have m4 := (b3.cell (p := ⟨w.heap.size + 1 + 1, 4, none⟩) q2).trans k4; have m5 := (b3.cell (p := ⟨w.heap.size + 1 + 1, 5, none⟩) q2).trans k5; have m6 := (b3.cell (p := ⟨w.heap.size + 1 + 1, 6, none⟩) q2).trans k6))
        have B3 := Lib.hid b3
        have hz23 : w.heap.size + 3 ≤ w2.heap.size := by omega
        clear u0 u1 u2 u3 t0 b3 hb3 k0 k1 k2 k3 k4 k5 k6
        go_wp2_with fail
        refine bodyPost_ret (v := .tuple #[.agg #[.int .i64 a.states, .int .i64 a.start, .slice AF a.finals.length cF, .slice AN a.next.length cN, .slice AR xs.length cR, .slice AL ls.length cL, .slice AM (mapsOf a.next xs).length cM], .bool true]) (by simp [results, Try.results83, go_sem, m0, m1, m2, m3, m4, m5, m6]) rfl ?_
        have hW : Below w.heap.size w (((((((w3.setCell ⟨w.heap.size + 1 + 1, 0, none⟩ (.int .i64 a.states)).setCell ⟨w.heap.size + 1 + 1, 1, none⟩ (.int .i64 a.start)).setCell ⟨w.heap.size + 1 + 1, 2, none⟩ (.slice AF a.finals.length cF)).setCell ⟨w.heap.size + 1 + 1, 3, none⟩ (.slice AN a.next.length cN)).setCell ⟨w.heap.size + 1 + 1, 4, none⟩ (.slice AR xs.length cR)).setCell ⟨w.heap.size + 1 + 1, 5, none⟩ (.slice AL ls.length cL)).setCell ⟨w.heap.size + 1 + 1, 6, none⟩ (.slice AM (mapsOf a.next xs).length cM)) := by
          have h1 := B2.out.trans (B3.out.mono (by omega))
          have hle : w.heap.size ≤ w.heap.size + 1 + 1 := by omega
          exact ((((((h1.setCell hle _).setCell hle _).setCell hle _).setCell hle _).setCell hle _).setCell hle _).setCell hle _
        refine ⟨hW, .inl ⟨ls, _, Hl.out, Hgr.out, C1.out, rfl, _, _, _, _, _, rfl, (HF.out.below hW).le hW.size, (HN.out.below hW).le hW.size, (HR.out.below hW).le hW.size, ?_, ?_⟩⟩
        · have h1 : SlS IntE w2 (fun b => w.heap.size + 3 ≤ b ∧ b < w2.heap.size) (.slice AL ls.length cL) ls := OwnInts.slS Hown2.out fun g hg => by have := World.ownsRow.lt Hown2.out g hg; simp at this; omega
          have h2 := (h1.keep ((Keep.of_below B3.out).mono fun b h => h.2)).more (S' := fun b => w.heap.size + 3 ≤ b ∧ b < w3.heap.size) fun b h => ⟨h.1, Nat.lt_of_lt_of_le h.2 B3.out.size⟩
          exact (((((((h2.keep (Keep.of_set2 (by omega) _)).keep (Keep.of_set2 (by omega) _)).keep (Keep.of_set2 (by omega) _)).keep (Keep.of_set2 (by omega) _)).keep (Keep.of_set2 (by omega) _)).keep (Keep.of_set2 (by omega) _)).keep (Keep.of_set2 (by omega) _)).more fun b h => by simp [World.setCell]; exact h.2
        · have h2 := HM.out.more (S' := fun b => w.heap.size + 3 ≤ b ∧ b < w3.heap.size) fun b h => ⟨Nat.le_trans hz23 h.1, h.2⟩
          exact (((((((h2.keep (Keep.of_set2 (by omega) _)).keep (Keep.of_set2 (by omega) _)).keep (Keep.of_set2 (by omega) _)).keep (Keep.of_set2 (by omega) _)).keep (Keep.of_set2 (by omega) _)).keep (Keep.of_set2 (by omega) _)).keep (Keep.of_set2 (by omega) _)).more fun b h => by simp [World.setCell]; exact h.2
      · have c1' : autoOk a = false := by simpa using c1
        have C1 := Lib.hid c1'
        have g1 : (!autoOk a) = true := by simp [c1]
        have hno : (autoOk a && gramOk xs) = false := by simp [c1']
        have Hno := Lib.hid hno
        clear c1 c1' hno
        obtain ⟨l0, m0⟩ := RZ2.out 0 (by omega)
        obtain ⟨l1, m1⟩ := RZ2.out 1 (by omega)
        obtain ⟨l2, m2⟩ := RZ2.out 2 (by omega)
        obtain ⟨l3, m3⟩ := RZ2.out 3 (by omega)
        obtain ⟨l4, m4⟩ := RZ2.out 4 (by omega)
        obtain ⟨l5, m5⟩ := RZ2.out 5 (by omega)
        obtain ⟨l6, m6⟩ := RZ2.out 6 (by omega)
        have hfz := FZ2.out
        go_wp2_with fail
        refine bodyPost_ret (v := .tuple #[.agg #[.int .i64 0, .int .i64 0, .slice none 0 0, .slice none 0 0, .slice none 0 0, .slice none 0 0, .slice none 0 0], .bool false]) (by simp [results, Try.results83, go_sem, m0, m1, m2, m3, m4, m5, m6]) rfl ⟨?_, .inr ⟨Hno.out, rfl⟩⟩
        have hle : w.heap.size ≤ w.heap.size + 1 + 1 := by omega
        exact ((((((B2.out.setCell hle _).setCell hle _).setCell hle _).setCell hle _).setCell hle _).setCell hle _).setCell hle _
    · have g4 : decide (xs.length ≤ 400) = false := by simpa using h4
      have hno : (autoOk a && gramOk xs) = false := by simp [gramOk, h4]
      have Hno := Lib.hid hno
      obtain ⟨AL, cL, rfl, _⟩ := own_nil hown
      clear hl hown hno
      obtain ⟨l0, m0⟩ := RZ.out 0 (by omega)
      obtain ⟨l1, m1⟩ := RZ.out 1 (by omega)
      obtain ⟨l2, m2⟩ := RZ.out 2 (by omega)
      obtain ⟨l3, m3⟩ := RZ.out 3 (by omega)
      obtain ⟨l4, m4⟩ := RZ.out 4 (by omega)
      obtain ⟨l5, m5⟩ := RZ.out 5 (by omega)
      obtain ⟨l6, m6⟩ := RZ.out 6 (by omega)
      have hfz := FZ.out
      go_wp2_with fail
      refine bodyPost_ret (v := .tuple #[.agg #[.int .i64 0, .int .i64 0, .slice none 0 0, .slice none 0 0, .slice none 0 0, .slice none 0 0, .slice none 0 0], .bool false]) (by simp [results, Try.results83, go_sem, m0, m1, m2, m3, m4, m5, m6]) rfl ⟨?_, .inr ⟨Hno.out, rfl⟩⟩
      have hle : w.heap.size ≤ w.heap.size + 1 + 1 := by omega
      exact ((((((B1.out.setCell hle _).setCell hle _).setCell hle _).setCell hle _).setCell hle _).setCell hle _).setCell hle _
  · have hno : (autoOk a && gramOk xs) = false := by simp [gramOk, hl]
    have Hno := Lib.hid hno
    clear hl hno
    obtain ⟨l0, m0⟩ := RZ.out 0 (by omega)
    obtain ⟨l1, m1⟩ := RZ.out 1 (by omega)
    obtain ⟨l2, m2⟩ := RZ.out 2 (by omega)
    obtain ⟨l3, m3⟩ := RZ.out 3 (by omega)
    obtain ⟨l4, m4⟩ := RZ.out 4 (by omega)
    obtain ⟨l5, m5⟩ := RZ.out 5 (by omega)
    obtain ⟨l6, m6⟩ := RZ.out 6 (by omega)
    have hfz := FZ.out
    go_wp2_with fail
    refine bodyPost_ret (v := .tuple #[.agg #[.int .i64 0, .int .i64 0, .slice none 0 0, .slice none 0 0, .slice none 0 0, .slice none 0 0, .slice none 0 0], .bool false]) (by simp [results, Try.results83, go_sem, m0, m1, m2, m3, m4, m5, m6]) rfl ⟨?_, .inr ⟨Hno.out, rfl⟩⟩
    have hle : w.heap.size ≤ w.heap.size + 1 + 1 := by omega
    exact ((((((B1.out.setCell hle _).setCell hle _).setCell hle _).setCell hle _).setCell hle _).setCell hle _).setCell hle _
def lastI (l : List Int) : Int := l.getD (l.length - 1) 0
theorem last_any (v : Value) (l : List Int) (w : World) (h : Sl IntE w w.heap.size v l) :
    Calls Try.prog 102 #[v] w fun e w' => e = .returned (.int .i64 (lastI l)) ∧ w = w' := by
  obtain ⟨A, c, rfl, hc, hm, hrow⟩ := h
  unfold maxLen at hm
  by_cases h0 : l.length = 0
  · have hl : l = [] := List.eq_nil_of_length_eq_zero h0
    subst hl
    go_enter Try.func102, Try.ntmps102
    go_wp2_with fail
    go_ret
    exact ⟨rfl, rfl⟩
  · obtain ⟨b, o, rfl, hbl, hcell⟩ := hrow.int (k := 0) (by omega)
    have hc0 := hcell (l.length - 1) (by omega)
    have g0 : ((l.length : Int) == 0) = false := by rw [beq_eq_false_iff_ne]; omega
    have hk : ((l.length : Int) - 1).toNat = l.length - 1 := by omega
    have hl : 0 ≤ (l.length : Int) - 1 := by omega
    obtain ⟨x, hx⟩ : ∃ x, l.getD (l.length - 1) 0 = x := ⟨_, rfl⟩
    have Hx := Lib.hid hx
    rw [hx] at hc0
    clear hcell hx
    go_enter Try.func102, Try.ntmps102
    go_wp2_with fail
    go_ret
    exact ⟨ret_int (by rw [lastI, Hx.out]), rfl⟩
theorem rideLength_any (v : Value) (a : GAuto) (xs : List GRule) (ls : List Int) (w : World) (h : RideV w w.heap.size v a xs ls) :
    Calls Try.prog 70 #[v] w fun e w' => e = .returned (.int .i64 (lastI ls)) ∧ Below w.heap.size w w' := by
  obtain ⟨vF, vN, vR, vL, vM, rfl, h1, h2, h3, h4, h5⟩ := h
  have H4 := Lib.hid h4
  obtain ⟨_, _, rfl, _⟩ := h1
  obtain ⟨_, _, rfl, _⟩ := h2
  obtain ⟨_, _, rfl, _⟩ := h3
  obtain ⟨_, _, rfl, _⟩ := h4
  obtain ⟨_, _, rfl, _⟩ := h5
  go_enter Try.func70, Try.ntmps70
  go_wp2_with fail
  refine (last_any _ ls _ ((H4.out.below ((Below.refl _ _).alloc (Nat.le_refl _) _)).le (by first | omega | (simp; done) | (simp; omega)))).mono ?_
  rintro e w' ⟨rfl, rfl⟩
  go_wp2_with fail
  go_ret
  exact ⟨rfl, (by repeat (first | exact Below.refl _ _ | (refine Below.alloc ?_ (by first | omega | (simp; done) | (simp; omega)) _) | refine below_drewN ?_ _ | refine Below.drew ?_))⟩
theorem Wk.set {C : Nat → Prop} {w : World} {b o : Nat} {v : Value} (h : ¬ C b) : Wk C w (w.setCell ⟨b, o, none⟩ v).drew :=
  ⟨rfl, rfl, rfl, by show w.heap.size ≤ (w.setCell ⟨b, o, none⟩ v).heap.size; simp, fun k hk => heap_setCell_other w ⟨b, o, none⟩ k v (fun e => h (by have e' : k = b := e; exact e' ▸ hk))⟩
def stepM (maps : List (List Int)) (s r : Nat) : Nat := ((maps.getD r []).getD s 0).toNat
structure RJ (w0 : World) (bs n : Nat) (C : Nat → Prop) (s : Nat) (w : World) : Prop where
  wk : Wk (fun b => b < w0.heap.size ∧ b ≠ bs) w0 w
  cell : w.cell? ⟨bs, 0, none⟩ = some (.int .i64 s)
  fr : w.frozen? ⟨bs, 0, none⟩ = false
  nc : ¬ C bs
  lt : s < n
theorem RJ.ext {w0 : World} {bs n : Nat} (hbs : bs < w0.heap.size) : ∀ C s w w', RJ w0 bs n C s w → Below w.heap.size w w' → (∀ b, C b → b < w.heap.size) → RJ w0 bs n (ext C w.heap.size w'.heap.size) s w' := by
  intro C s w w' h hb hC
  have hsz := h.wk.size
  refine ⟨h.wk.trans (Wk.of_below hb fun k hk => by have := hk.1; omega), (hb.cell (p := ⟨bs, 0, none⟩) (by show bs < _; omega)).trans h.cell, (hb.frozen (p := ⟨bs, 0, none⟩) (by show bs < _; omega)).trans h.fr, ?_, h.lt⟩
  intro h'
  rcases h' with h' | h'
  · exact h.nc h'
  · omega
set_option maxRecDepth 100000 in
set_option maxHeartbeats 1000000 in
theorem afterCl_any (w0 : World) (br bs : Nat) (vM : Value) (maps : List (List Int)) (n : Nat) (hbr : br < w0.heap.size) (hne : br ≠ bs) (hbs : bs < w0.heap.size) (hm : w0.cell? ⟨br, 6, none⟩ = some vM) (hM : SlS (SliceE IntE) w0 (fun b => b < w0.heap.size ∧ b ≠ bs) vM maps) (hok : RowsOk n maps) :
    ∀ C s (r : Nat) (w : World), RJ w0 bs n C s w → r < maps.length → (∀ b, C b → b < w.heap.size) → Calls Try.prog 122 (#[.int .i64 r] ++ #[.pointer (some ⟨br, 0, none⟩), .pointer (some ⟨bs, 0, none⟩)]) w (TakePost (RJ w0 bs n) C (stepM maps s r) w) := by
  intro C s r w hJ hr hC
  have HJ := Lib.hid hJ
  have HC := Lib.hid hC
  obtain ⟨A, c, rfl, _, hmx, hrow⟩ := (hM.keep hJ.wk.keep)
  obtain ⟨b, o, rfl, hbb, hcells⟩ := cells2 hrow (by omega)
  have r1 := hok r hr
  have hlt := hJ.lt
  obtain ⟨b', o', c', d1, d2, d3⟩ := hcells r s hr (by rw [r1.1]; exact hlt)
  rw [r1.1] at d1
  obtain ⟨m, hm1⟩ : ∃ m : Nat, (maps.getD r []).getD s 0 = m := ⟨((maps.getD r []).getD s 0).toNat, by have := (r1.2 s hlt).1; omega⟩
  have hmn : m < n := by have := (r1.2 s hlt).2; omega
  rw [hm1] at d3
  have hst : stepM maps s r = m := by rw [stepM, hm1]; rfl
  have Hst := Lib.hid hst
  have x6 := hJ.wk.cell (k := br) (o := 6) ⟨hbr, hne⟩ hm
  have xs := hJ.cell
  have xf := hJ.fr
  have hsz := hJ.wk.size
  have y1 : bs < w.heap.size := by omega
  have i1 : (r : Int) < (maps.length : Int) := by omega
  have i2 : (s : Int) < (n : Int) := by omega
  unfold maxLen at hmx
  clear hcells r1 hm1 hst hrow hM hm hJ hok hC
  show Calls Try.prog 122 #[.int .i64 r, .pointer (some ⟨br, 0, none⟩), .pointer (some ⟨bs, 0, none⟩)] w _
  go_enter Try.func122, Try.ntmps122
  go_wp2_with fail
  go_still_tail 8, (by kernel_rfl)
  change wpList _ _ _ _ _ w.drew
  go_wp2_with fail
  go_end0
  refine ⟨rfl, C, fun _ h => h, ?_, ⟨?_, ?_, ?_, HJ.out.nc, by rw [Hst.out]; exact hmn⟩, ?_⟩
  · intro b h
    have := HC.out b h
    simpa [World.setCell] using this
  · exact HJ.out.wk.trans (Wk.set fun h => h.2 rfl)
  · rw [Hst.out]; simp [go_sem, xs]
  · simp [go_sem, xf]
  · exact Wk.set HJ.out.nc
set_option maxRecDepth 100000 in
set_option maxHeartbeats 1000000 in
theorem after_any (v : Value) (a : GAuto) (xs : List GRule) (ls : List Int) (s : Nat) (i j : Int) (w : World) (h : RideV w w.heap.size v a xs ls) (ha : autoOk a = true) (hl : lens xs = some ls) (hn : xs.length ≤ 1099511627776) (hs : s < a.next.length) :
    Calls Try.prog 84 #[v, .int .i64 s, .int .i64 i, .int .i64 j] w fun e w' => e = .returned (.int .i64 (((piecesL xs ls i j).foldl (stepM (mapsOf a.next xs)) s : Nat) : Int)) ∧ Below w.heap.size w w' := by
  obtain ⟨vF, vN, vR, vL, vM, rfl, h1, h2, h3, h4, h5⟩ := h
  have H3 := Lib.hid h3
  have H4 := Lib.hid h4
  have H5 := Lib.hid h5
  have Ha := Lib.hid ha
  have Hl := Lib.hid hl
  clear ha hl
  obtain ⟨AF, cF, rfl, _⟩ := h1
  obtain ⟨AN, cN, rfl, _⟩ := h2
  obtain ⟨AR, cR, rfl, _⟩ := h3
  obtain ⟨AL, cL, rfl, _⟩ := h4
  obtain ⟨AM, cM, rfl, _⟩ := h5
  go_enter Try.func84, Try.ntmps84
  go_wp2_with fail
  have hB : ∀ o o', Below w.heap.size w ((w.alloc o).alloc o') := fun o o' => ((Below.refl _ _).alloc (Nat.le_refl _) _).alloc (by simp) _
  have hx6 : ((w.alloc (Obj.cells #[.int .i64 a.states, .int .i64 a.start, .slice AF a.finals.length cF, .slice AN a.next.length cN, .slice AR xs.length cR, .slice AL ls.length cL, .slice AM (mapsOf a.next xs).length cM] 94)).alloc (Obj.cells #[.int .i64 (s : Int)] 2)).cell? ⟨w.heap.size, 6, none⟩ = some (.slice AM (mapsOf a.next xs).length cM) := by simp [go_sem]
  have hxs : ((w.alloc (Obj.cells #[.int .i64 a.states, .int .i64 a.start, .slice AF a.finals.length cF, .slice AN a.next.length cN, .slice AR xs.length cR, .slice AL ls.length cL, .slice AM (mapsOf a.next xs).length cM] 94)).alloc (Obj.cells #[.int .i64 (s : Int)] 2)).cell? ⟨w.heap.size + 1, 0, none⟩ = some (.int .i64 (s : Int)) := by simp [go_sem]
  have hxf : ((w.alloc (Obj.cells #[.int .i64 a.states, .int .i64 a.start, .slice AF a.finals.length cF, .slice AN a.next.length cN, .slice AR xs.length cR, .slice AL ls.length cL, .slice AM (mapsOf a.next xs).length cM] 94)).alloc (Obj.cells #[.int .i64 (s : Int)] 2)).frozen? ⟨w.heap.size + 1, 0, none⟩ = false := by simp [go_sem]
  have hzz : ((w.alloc (Obj.cells #[.int .i64 a.states, .int .i64 a.start, .slice AF a.finals.length cF, .slice AN a.next.length cN, .slice AR xs.length cR, .slice AL ls.length cL, .slice AM (mapsOf a.next xs).length cM] 94)).alloc (Obj.cells #[.int .i64 (s : Int)] 2)).heap.size = w.heap.size + 2 := by simp
  have hb0 := hB (Obj.cells #[.int .i64 a.states, .int .i64 a.start, .slice AF a.finals.length cF, .slice AN a.next.length cN, .slice AR xs.length cR, .slice AL ls.length cL, .slice AM (mapsOf a.next xs).length cM] 94) (Obj.cells #[.int .i64 (s : Int)] 2)
  generalize (w.alloc (Obj.cells #[.int .i64 a.states, .int .i64 a.start, .slice AF a.finals.length cF, .slice AN a.next.length cN, .slice AR xs.length cR, .slice AL ls.length cL, .slice AM (mapsOf a.next xs).length cM] 94)).alloc (Obj.cells #[.int .i64 (s : Int)] 2) = w0 at *
  have HZ := Lib.hid hzz
  have HB0 := Lib.hid hb0
  clear hB hzz hb0
  have hok := mapsOf_ok Ha.out Hl.out xs.length (Nat.le_refl _)
  rw [List.take_length] at hok
  refine (pieces_any (RJ w0 (w.heap.size + 1) a.next.length) (stepM (mapsOf a.next xs)) (fun _ _ => True) 122 #[.pointer (some ⟨w.heap.size, 0, none⟩), .pointer (some ⟨w.heap.size + 1, 0, none⟩)] xs ls i j Hl.out hn (enters_of Try.func122 (by kernel_rfl) rfl) (fun C s w w' hJ hb _ hC => RJ.ext (by have := HZ.out; omega) C s w w' hJ hb hC) ?_ _ _ s (fun b => b < w.heap.size) w0 ?_ (Runs.all fun _ _ => trivial) ?_ ?_ ?_).mono ?_
  · intro C s r w' hJ _ hr hC
    exact afterCl_any w0 w.heap.size (w.heap.size + 1) _ (mapsOf a.next xs) a.next.length (by have := HZ.out; omega) (by omega) (by have := HZ.out; omega) hx6
      ((H5.out.keep (Keep.of_below HB0.out)).more fun b hb => ⟨by have := HZ.out; omega, by omega⟩) hok C s r w' hJ (by rw [mapsOf_len]; exact hr) hC
  · exact ⟨Wk.refl _ _, hxs, hxf, by omega, hs⟩
  · intro b hb
    have := HZ.out
    omega
  · exact (H4.out.keep (Keep.of_below HB0.out))
  · exact (H3.out.keep (Keep.of_below HB0.out))
  · rintro e w2 ⟨rfl, C2, g1, g2, g3, g4⟩
    have hc := g3.cell
    have Hw := Lib.hid (HB0.out.trans (g3.wk.below (B := w.heap.size) fun k hk => ⟨by have := HZ.out; omega, by omega⟩))
    clear g1 g2 g3 g4 hx6 hxs hxf hok
    obtain ⟨r, hr⟩ : ∃ r, (piecesL xs ls i j).foldl (stepM (mapsOf a.next xs)) s = r := ⟨_, rfl⟩
    rw [hr] at hc
    have Hr := Lib.hid hr
    clear hr
    go_wp2_with fail
    go_ret
    exact ⟨ret_int (by rw [Hr.out]), Hw.out⟩
theorem step_append_rules {W : World} {ops : Array Oper} {o : Oper} {a : Act} {K : Act → World → Prop} {Q : Exit → Act → World → Prop} {E : Prop} (hgd : o.guard = none) (s x : Operand)
    (ho : o.op = .call { callee := .builtin .append, args := #[s, x], argTypes := #[29, 29] }) {ys : List GRule} {base : Nat} {v sv : Value} {l : List GRule} {S : Nat → Prop}
    (hs : a.eval s = v) (hx : a.eval x = sv) (hown : OwnRules W base v l) (hsl : SlS RuleE W S sv ys) (hlen : l.length + ys.length ≤ 1099511627776) (hbase : base ≤ W.heap.size)
    (h : ∀ v' w', OwnRules w' base v' (l ++ ys) → W.grownBy w' v.ownBlock → Below base W w' → K (a.put o.dst v') w') :
    if Region.wanted o (yielded ops a.tmps) = true then Oper.wp Try.prog o a W K Q else E := by
  have hw : Region.wanted o (yielded ops a.tmps) = true := by simp [Region.wanted, hgd]
  rw [if_pos hw]
  obtain ⟨i0, hi0, hz0, hz1, hz2⟩ := info_parts Try.infoR
  obtain ⟨A, c, rfl, hc, hm, hrow⟩ := hsl
  have H : ∃ v' w', (Builtin.append_ #[29, 29] o.type #[v, .slice A ys.length c]).run Try.prog W = .ok v' w' ∧ OwnRules w' base v' (l ++ ys) ∧ W.grownBy w' v.ownBlock := by
    rcases A with _ | ad
    · have h0 : ys = [] := by
        rcases Nat.eq_zero_or_pos ys.length with h0 | h0
        · exact List.eq_nil_of_length_eq_zero h0
        · obtain ⟨b, o, h, _⟩ := hrow h0; cases h
      subst h0
      exact ⟨v, W, run_append_of_nil W base _ _ 138 i0 3 Try.underlying29 hi0 v _ _ hown c, by simpa using hown, World.grownBy.refl W _⟩
    · obtain ⟨v', w', hrun, h2, h3, _⟩ := run_append_own_at (P := Try.prog) W base 29 o.type 138 i0 _ 3 32 Try.underlying29 hi0 hz0 hz1 hz2 rfl (by decide) v _ _ hown ad ys.length c (ys.flatMap GRule.cells)
        (cells_len ys) (rules_cells hrow) (rules_one ys) (by simp only [maxLen]; omega) (by omega) hbase
      exact ⟨v', w', hrun, by unfold OwnRules; simpa using h2, h3⟩
  obtain ⟨v', w', hrun, h2, h3⟩ := H
  unfold Oper.wp execOp
  simp only [ho, resolve, invoke, builtin, Sem.run_bind, Sem.run_pure, Result.andThen_ok, List.map_toArray, List.map_cons, List.map_nil, hs, hx, hrun]
  exact h v' w' h2 h3 ((Below.refl base W).grown h3 hbase (fun k hk => (World.ownsRow.lt hown k hk).1))
theorem gram_lens {xs : List GRule} (h : gramOk xs = true) : xs.length ≤ 400 ∧ ∃ ls, lens xs = some ls := by
  simp only [gramOk, Bool.and_eq_true, decide_eq_true_eq] at h
  exact ⟨h.1, Option.isSome_iff_exists.1 h.2⟩
def endS (next : List (List Int)) (xs : List GRule) (s : Nat) : Nat := if xs.length = 0 then s else stepM (mapsOf next xs) s (xs.length - 1)
theorem pieces_all {xs : List GRule} {ls : List Int} (hl : lens xs = some ls) : piecesL xs ls 0 (lastI ls) = if xs.length = 0 then [] else [xs.length - 1] := by
  have hll := lens_length hl
  unfold piecesL
  by_cases h0 : xs.length = 0
  · rw [if_neg (by omega), if_pos h0]
  · have hp := lens_pos' hl (r := xs.length - 1) (by omega)
    have e : lastI ls = ls.getD (xs.length - 1) 0 := by rw [lastI, hll]
    rw [if_pos ⟨by omega, by rw [e]; omega⟩, if_neg h0]
    obtain ⟨n, hn⟩ : ∃ n, xs.length = n + 1 := ⟨xs.length - 1, by omega⟩
    rw [hn, coverR]
    rw [hn] at e hp
    rw [if_neg (by rw [e]; omega), if_pos (by rw [e]; omega)]
theorem fold_all {next : List (List Int)} {xs : List GRule} {ls : List Int} (hl : lens xs = some ls) (s : Nat) : (piecesL xs ls 0 (lastI ls)).foldl (stepM (mapsOf next xs)) s = endS next xs s := by
  rw [pieces_all hl, endS]
  split <;> rfl
def Box7 (w : World) (b : Nat) (c0 c1 c2 c3 c4 c5 c6 : Value) : Prop := w.cell? ⟨b, 0, none⟩ = some c0 ∧ w.cell? ⟨b, 1, none⟩ = some c1 ∧ w.cell? ⟨b, 2, none⟩ = some c2 ∧ w.cell? ⟨b, 3, none⟩ = some c3 ∧ w.cell? ⟨b, 4, none⟩ = some c4 ∧ w.cell? ⟨b, 5, none⟩ = some c5 ∧ w.cell? ⟨b, 6, none⟩ = some c6
theorem Box7.up {w w' : World} {b N : Nat} {c0 c1 c2 c3 c4 c5 c6 : Value} (h : Box7 w b c0 c1 c2 c3 c4 c5 c6) (hb : Below N w w') (hlt : b < N) : Box7 w' b c0 c1 c2 c3 c4 c5 c6 := by
  obtain ⟨h0, h1, h2, h3, h4, h5, h6⟩ := h
  have k : ∀ {o : Nat} {v : Value}, w.cell? ⟨b, o, none⟩ = some v → w'.cell? ⟨b, o, none⟩ = some v := fun {o v} hc => (hb.cell (p := ⟨b, o, none⟩) hlt).trans hc
  exact ⟨k h0, k h1, k h2, k h3, k h4, k h5, k h6⟩
theorem Box7.new {w w' : World} {c0 c1 c2 c3 c4 c5 c6 : Value} {t : TypeId} (hb : Below (w.alloc (.cells #[c0, c1, c2, c3, c4, c5, c6] t)).heap.size (w.alloc (.cells #[c0, c1, c2, c3, c4, c5, c6] t)) w') : Box7 w' w.heap.size c0 c1 c2 c3 c4 c5 c6 :=
  Box7.up (w := w.alloc (.cells #[c0, c1, c2, c3, c4, c5, c6] t)) ⟨by simp [go_sem], by simp [go_sem], by simp [go_sem], by simp [go_sem], by simp [go_sem], by simp [go_sem], by simp [go_sem]⟩ hb (by simp)
theorem keep7D {N : Nat} {W : World} {p : Nat} {c0 c1 c2 c3 c4 c5 c6 : Value} (h : Box7 W p c0 c1 c2 c3 c4 c5 c6) :
    Below N W W.drew ∧ W.drew.cell? ⟨p, 0, none⟩ = some c0 ∧ W.drew.cell? ⟨p, 1, none⟩ = some c1 ∧ W.drew.cell? ⟨p, 2, none⟩ = some c2 ∧ W.drew.cell? ⟨p, 3, none⟩ = some c3 ∧ W.drew.cell? ⟨p, 4, none⟩ = some c4 ∧ W.drew.cell? ⟨p, 5, none⟩ = some c5 ∧ W.drew.cell? ⟨p, 6, none⟩ = some c6 :=
  ⟨(Below.refl _ _).drew, h.1, h.2.1, h.2.2.1, h.2.2.2.1, h.2.2.2.2.1, h.2.2.2.2.2.1, h.2.2.2.2.2.2⟩
theorem keep7 {N : Nat} {wr W W2 : World} {p : Nat} {c0 c1 c2 c3 c4 c5 c6 : Value}
    (h : Below N wr W ∧ W.cell? ⟨p, 0, none⟩ = some c0 ∧ W.cell? ⟨p, 1, none⟩ = some c1 ∧ W.cell? ⟨p, 2, none⟩ = some c2 ∧ W.cell? ⟨p, 3, none⟩ = some c3 ∧ W.cell? ⟨p, 4, none⟩ = some c4 ∧ W.cell? ⟨p, 5, none⟩ = some c5 ∧ W.cell? ⟨p, 6, none⟩ = some c6)
    (h2 : Below W.heap.size W W2) (hN : N ≤ wr.heap.size) (hp : p < N) :
    Below N wr W2 ∧ W2.cell? ⟨p, 0, none⟩ = some c0 ∧ W2.cell? ⟨p, 1, none⟩ = some c1 ∧ W2.cell? ⟨p, 2, none⟩ = some c2 ∧ W2.cell? ⟨p, 3, none⟩ = some c3 ∧ W2.cell? ⟨p, 4, none⟩ = some c4 ∧ W2.cell? ⟨p, 5, none⟩ = some c5 ∧ W2.cell? ⟨p, 6, none⟩ = some c6 := by
  obtain ⟨h1, hb⟩ := h
  have hs := h1.size
  have k := Box7.up hb h2 (by omega)
  exact ⟨h1.trans (h2.mono (by omega)), k⟩
def rgV (a : GAuto) (s : Int) (xs : List GRule) : Int := if autoOk a && gramOk xs && inR s 0 (a.states - 1) then endS a.next xs s.toNat else 0
def rgC (a : GAuto) (s : Int) (xs : List GRule) : Int := if autoOk a && gramOk xs then if inR s 0 (a.states - 1) then 0 else 2 else 1
set_option maxRecDepth 100000 in
set_option maxHeartbeats 2000000 in
theorem implRunGrammar_any (v vR : Value) (a : GAuto) (s : Int) (xs : List GRule) (w : World) (h : AutoV w w.heap.size v a) (hR : Sl RuleE w w.heap.size vR xs) (hn : xs.length ≤ 1099511627776) :
    Calls Try.prog 26 #[v, .int .i64 s, .agg #[vR]] w fun e w' => e = .returned (.tuple #[.int .i64 (rgV a s xs), .int .i64 (rgC a s xs)]) ∧ Below w.heap.size w w' := by
  have hB := fun o o' => ((Below.refl w.heap.size w).alloc (Nat.le_refl _) o).alloc (by simp) o'
  have HB := Lib.hid hB
  have HA := Lib.hid h
  have HR := Lib.hid hR
  clear hB
  obtain ⟨vF, vN, rfl, hF, hN⟩ := h
  obtain ⟨AF, cF, rfl, _⟩ := hF
  obtain ⟨AN, cN, rfl, _⟩ := hN
  obtain ⟨AR, cR, rfl, _⟩ := hR
  go_enter Try.func26, Try.ntmps26
  go_wp2_with fail
  refine (newRide_any _ _ a xs _ ((HA.out.below (HB.out _ _)).le (by first | omega | (simp; done) | (simp; omega))) ((HR.out.below (HB.out _ _)).le (by first | omega | (simp; done) | (simp; omega))) hn).mono ?_
  rintro e w1 ⟨hb1, hpost⟩
  have z1 : w.heap.size + 1 < w1.heap.size := Nat.lt_of_lt_of_le (by simp) hb1.size
  have A1 := Lib.hid (Box4.up (w := (w.alloc (Obj.cells #[.int .i64 a.states, .int .i64 a.start, .slice AF a.finals.length cF, .slice AN a.next.length cN] 45)).alloc (Obj.cells #[.slice AR xs.length cR] 31)) (b := w.heap.size) (c0 := .int .i64 a.states) (c1 := .int .i64 a.start) (c2 := .slice AF a.finals.length cF) (c3 := .slice AN a.next.length cN) ⟨by simp [go_sem], by simp [go_sem], by simp [go_sem], by simp [go_sem]⟩ hb1 (by simp; omega))
  have B1 := Lib.hid ((HB.out _ _).trans (hb1.mono (by simp; omega)))
  have HA1 := Lib.hid ((HA.out.below B1.out).le (B' := w1.heap.size) (by omega))
  clear hb1
  rcases hpost with ⟨ls, vr, hl, hg, ha, rfl, hr⟩ | ⟨hno, rfl⟩
  · have Hl := Lib.hid hl
    have Hg := Lib.hid hg
    have Ha := Lib.hid ha
    have Hr := Lib.hid hr
    obtain ⟨uF, uN, uR, uL, uM, rfl, k1, k2, k3, k4, k5⟩ := hr
    obtain ⟨B0, e0, rfl, _⟩ := k1
    obtain ⟨B1', e1, rfl, _⟩ := k2
    obtain ⟨B2', e2, rfl, _⟩ := k3
    obtain ⟨B3, e3, rfl, _⟩ := k4
    obtain ⟨B4, e4, rfl, _⟩ := k5
    obtain ⟨a0, a1, a2, a3⟩ := A1.out
    have z0 : w.heap.size < w1.heap.size := by omega
    clear hl hg ha
    go_wp2_with fail
    refine (isState_any _ a _ _ ((HA1.out.below ((Below.refl _ _).alloc (Nat.le_refl _) _)).le (by first | omega | (simp; done) | (simp; omega))) Ha.out).mono ?_
    rintro e w2 ⟨rfl, hb2⟩
    have R2 := Lib.hid (Box7.new hb2)
    have z2 : w1.heap.size < w2.heap.size := Nat.lt_of_lt_of_le (by simp) hb2.size
    have b12 := ((Below.refl w1.heap.size w1).alloc (Nat.le_refl _) _).trans (hb2.mono (by simp))
    have Hr2 := Lib.hid (Hr.out.up b12)
    have B2 := Lib.hid (B1.out.trans (b12.mono (by omega)))
    clear hb2 b12 a0 a1 a2 a3
    by_cases c3 : inR s 0 (a.states - 1) = true
    · have C3 := Lib.hid c3
      have g3 : (!inR s 0 (a.states - 1)) = false := by simp [c3]
      have hs0 : 0 ≤ s ∧ s ≤ a.states - 1 := by simpa [inR] using c3
      have hs1 : s.toNat < a.next.length := by have := (autoOk_get Ha.out).2.2.1; omega
      obtain ⟨t, rfl⟩ := Int.eq_ofNat_of_zero_le hs0.1
      rw [Int.toNat_natCast] at hs1
      clear c3 hs0
      obtain ⟨r0, r1, r2, r3, r4, r5, r6⟩ := R2.out
      have KB := R2.out
      have q1 : w2.heap.size ≤ w2.heap.size := Nat.le_refl _
      go_wp2_with fail
      go_region_held3 (fun w' => Below w2.heap.size w2 w' ∧ w'.cell? ⟨w1.heap.size, 0, none⟩ = some (.int .i64 a.states) ∧ w'.cell? ⟨w1.heap.size, 1, none⟩ = some (.int .i64 a.start) ∧ w'.cell? ⟨w1.heap.size, 2, none⟩ = some (.slice B0 a.finals.length e0) ∧ w'.cell? ⟨w1.heap.size, 3, none⟩ = some (.slice B1' a.next.length e1) ∧ w'.cell? ⟨w1.heap.size, 4, none⟩ = some (.slice B2' xs.length e2) ∧ w'.cell? ⟨w1.heap.size, 5, none⟩ = some (.slice B3 ls.length e3) ∧ w'.cell? ⟨w1.heap.size, 6, none⟩ = some (.slice B4 (mapsOf a.next xs).length e4))
        (first | (with_reducible exact keep7D KB) | (with_reducible exact keep7 (keep7D KB) hb3 q1 z2) | (with_reducible exact keep7 (keep7 (keep7D KB) hb3 q1 z2) hb4 q1 z2))
        (first
          | (go_at_call 70; refine (rideLength_any _ a xs ls _ (Hr2.out.up (Below.drew (Below.refl _ _)))).mono ?_; rintro e w3 ⟨rfl, hb3⟩)
          | (go_at_call 84; refine (after_any _ a xs ls t _ _ _ ((Hr2.out.up (Below.drew (Below.refl _ _))).up hb3) Ha.out Hl.out hn hs1).mono ?_; rintro e w4 ⟨rfl, hb4⟩))
      have B4 := Lib.hid (B2.out.trans (((Below.drew (Below.refl w2.heap.size w2)).trans (hb3.trans (hb4.mono hb3.size))).mono B2.out.size))
      clear hb3 hb4 KB r0 r1 r2 r3 r4 r5 r6
      go_wp2_with fail
      go_ret2
      exact ⟨by rw [fold_all Hl.out]; simp [rgV, rgC, Ha.out, Hg.out, C3.out], B4.out⟩
    · have c3' : inR s 0 (a.states - 1) = false := by simpa using c3
      have C3 := Lib.hid c3'
      have g3 : (!inR s 0 (a.states - 1)) = true := by simp [c3]
      clear c3 c3'
      go_wp2_with fail
      go_ret2
      exact ⟨by simp [rgV, rgC, Ha.out, Hg.out, C3.out], B2.out⟩
  · have Hno := Lib.hid hno
    clear hno
    go_wp2_with fail
    go_ret2
    exact ⟨by simp only [rgV, rgC, Hno.out]; simp, (by repeat (first | exact B1.out | (refine Below.alloc ?_ (by first | omega | (simp; done) | (simp; omega)) _) | refine below_drewN ?_ _ | refine Below.drew ?_))⟩
end Go.Proofs.Ytejgbfgocaggfaa
