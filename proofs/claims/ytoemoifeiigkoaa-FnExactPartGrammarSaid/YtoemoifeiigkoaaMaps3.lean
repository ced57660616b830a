import Derived.Test.YtoemoifeiigkoaaMaps2
namespace Go.Proofs.Ytoemoifeiigkoaa
open Go.RowKit

theorem keepN {W W2 : World} {row : Option Nat} {p0 p1 p2 p3 p4 p5 : Addr} {v0 v1 v2 v3 v4 v5 : Value}
    (h : W.cell? p0 = some v0 ∧ W.cell? p1 = some v1 ∧ W.cell? p2 = some v2 ∧ W.cell? p3 = some v3 ∧ W.cell? p4 = some v4 ∧ W.cell? p5 = some v5) (hg : W.grownBy W2 row)
    (h0 : some p0.block ≠ row) (h1 : some p1.block ≠ row) (h2 : some p2.block ≠ row) (h3 : some p3.block ≠ row) (h4 : some p4.block ≠ row) (h5 : some p5.block ≠ row) :
    W2.cell? p0 = some v0 ∧ W2.cell? p1 = some v1 ∧ W2.cell? p2 = some v2 ∧ W2.cell? p3 = some v3 ∧ W2.cell? p4 = some v4 ∧ W2.cell? p5 = some v5 :=
  ⟨hg.cell h.1 h0, hg.cell h.2.1 h1, hg.cell h.2.2.1 h2, hg.cell h.2.2.2.1 h3, hg.cell h.2.2.2.2.1 h4, hg.cell h.2.2.2.2.2 h5⟩
theorem keepN3 {W W2 : World} {row : Option Nat} {p0 p1 p2 : Addr} {v0 v1 v2 : Value}
    (h : W.cell? p0 = some v0 ∧ W.cell? p1 = some v1 ∧ W.cell? p2 = some v2) (hg : W.grownBy W2 row) (h0 : some p0.block ≠ row) (h1 : some p1.block ≠ row) (h2 : some p2.block ≠ row) :
    W2.cell? p0 = some v0 ∧ W2.cell? p1 = some v1 ∧ W2.cell? p2 = some v2 :=
  ⟨hg.cell h.1 h0, hg.cell h.2.1 h1, hg.cell h.2.2 h2⟩

set_option maxRecDepth 100000 in
set_option maxHeartbeats 4000000 in
theorem l04Maps_any (vN vR : Value) (bg og : Nat) (a : GAuto) (xs : List GRule) (ls : List Int) (w : World) (hN : Sl (SliceE IntE) w w.heap.size vN a.next) (hR : Sl RuleE w w.heap.size vR xs) (ha : autoOk a = true) (hl : lens xs = some ls) (hn : xs.length ≤ 1099511627776) (hp : w.cell? ⟨bg, og, none⟩ = some vR) (hbg : bg < w.heap.size) :
    Calls Try.prog 114 #[vN, .pointer (some ⟨bg, og, none⟩)] w (MapsPost w (mapsOf a.next xs)) := by
  obtain ⟨AN, cN, rfl, _, hmN, hrowN⟩ := hN
  obtain ⟨AR, cR, rfl, _, _, hrowR⟩ := hR
  obtain ⟨n1, n2, n3, n4⟩ := autoOk_get ha
  have hnext : a.next.length ≤ 24 := by omega
  have hnext0 : 1 ≤ a.next.length := by omega
  have Hl := Lib.hid hl
  have Ha := Lib.hid ha
  have N3 := Lib.hid n3
  have N4 := Lib.hid n4
  have HN := Lib.hid hrowN
  have HR := Lib.hid hrowR
  clear n3 n4 hl ha hrowN hrowR
  go_enter Try.func114, Try.ntmps114
  go_wp2_with fail
  go_loopw [5, 6] (fun out i wr => ∃ (k : Nat) (vs : List Value), k ≤ xs.length ∧ i = .int .i64 k ∧ Below w.heap.size w wr ∧ wr.ownsRow (w.heap.size) 35 1 out k vs ∧
    Each IntE wr (fun b => w.heap.size ≤ b ∧ b < wr.heap.size ∧ some b ≠ out.ownBlock) vs (mapsOf a.next (xs.take k))) (fun _ i _ => xs.length - (intOf i).toNat)
  case atStart => exact ⟨0, [], Nat.zero_le _, rfl, (Below.refl _ _).alloc (Nat.le_refl _) _, ownSl_empty rfl (Nat.le_refl _), Each.nil⟩
  case round =>
    obtain ⟨k, vs, hk, rfl, hb, hown, hea⟩ := hrel
    obtain ⟨wo, rfl⟩ : ∃ wo : World, wo = wr := ⟨_, rfl⟩
    have hsz : w.heap.size ≤ wo.heap.size := hb.size
    have hB : Below w.heap.size w wo := hb
    have hpg := (hb.cell (p := ⟨bg, og, none⟩) hbg).trans hp
    have hbg2 : bg < wo.heap.size := by omega
    have HB := Lib.hid hb
    have HBB := Lib.hid hB
    have Hown := Lib.hid hown
    have Hea := Lib.hid hea
    clear hb hB hown hea
    by_cases hlt : k < xs.length
    · obtain ⟨b2, o2, rfl, hb2, hcellR⟩ := HR.out.rule (k := k) hlt
      have hrk := getR_at hlt
      obtain ⟨k0, k1, k2⟩ := hcellR k _ hrk
      have hc0 := (HBB.out.cell (p := ⟨b2, o2 + k * 3, none⟩) hb2).trans k0
      have hc1 := (HBB.out.cell (p := ⟨b2, o2 + k * 3 + 1, none⟩) hb2).trans k1
      have hc2 := (HBB.out.cell (p := ⟨b2, o2 + k * 3 + 2, none⟩) hb2).trans k2
      have hok := (lens_steps Hl.out k _ hrk).1
      have hki : (k : Int) < (xs.length : Int) := by omega
      have Hok := Lib.hid hok
      have Hrk := Lib.hid hrk
      have hmo := mapsOf_ok Ha.out Hl.out k hk
      have Hmo := Lib.hid hmo
      have hml : (mapsOf a.next (xs.take k)).length = k := by rw [mapsOf_len, List.length_take]; omega
      have Hml := Lib.hid hml
      have hsl : SlS (SliceE IntE) wo (fun b => b < wo.heap.size) u5 (mapsOf a.next (xs.take k)) :=
        (Hea.out.more (S' := fun b => b < wo.heap.size) fun b h => h.2.1).sl (by rw [hml]; exact Hown.out) fun g hg => (World.ownsRow.lt Hown.out g hg).2
      have Hsl := Lib.hid hsl
      obtain ⟨Ao, co, hvo, _⟩ := hsl
      rw [hml] at hvo
      subst hvo
      clear hok hrk hmo hml k0 k1 k2 hcellR
      obtain ⟨R, hR⟩ : ∃ R, getR xs k = R := ⟨_, rfl⟩
      rw [hR] at hc0 hc1 hc2 Hok Hrk
      clear hR
      have Hsn : Hid (mapsOf a.next (xs.take (k + 1)) = mapsOf a.next (xs.take k) ++ [mapRow a.next (mapsOf a.next (xs.take k)) R]) := mapsOf_snoc Hrk.out
      obtain ⟨M, hM⟩ : ∃ M, mapsOf a.next (xs.take k) = M := ⟨_, rfl⟩
      rw [hM] at Hmo Hml Hsl Hea Hsn
      clear hM
      obtain ⟨rs, rl, rr⟩ := R
      simp only at hc0 hc1 hc2
      have hmc : ∀ s, s < a.next.length → 0 ≤ mapCell a.next M ⟨rs, rl, rr⟩ s ∧ mapCell a.next M ⟨rs, rl, rr⟩ s < a.next.length := fun s hs => mapCell_ok Ha.out Hmo.out (r := ⟨rs, rl, rr⟩) (by rw [Hml.out]; exact Hok.out) hs
      have Hmc := Lib.hid hmc
      clear hmc
      go_wp2_with fail
      go_loopw [7, 8] (fun row i wi => ∃ j : Nat, j ≤ a.next.length ∧ i = .int .i64 j ∧ Below wo.heap.size wo wi ∧ wo.heap.size ≤ wi.heap.size ∧
        OwnInts wi wo.heap.size row ((List.range j).map (mapCell a.next M ⟨rs, rl, rr⟩))) (fun _ i _ => a.next.length - (intOf i).toNat)
      case atStart => exact ⟨0, Nat.zero_le _, rfl, (by repeat (first | exact Below.refl _ _ | (refine Below.alloc ?_ (by first | omega | (simp; done) | (simp; omega)) _) | refine below_drewN ?_ _ | refine Below.drew ?_)), by simp, OwnInts.empty rfl (Nat.le_refl _)⟩
      case round =>
        obtain ⟨j, hj, rfl, hbi, hzi, howni⟩ := hrel
        have Hbi := Lib.hid hbi
        have Howni := Lib.hid howni
        clear hbi howni
        have hlen : ((List.range j).map (mapCell a.next M ⟨rs, rl, rr⟩)).length ≤ 1099511627776 := by simp; omega
        have hsi : wo.heap.size ≤ wr.heap.size := hzi
        have hpg2 := (Hbi.out.cell (p := ⟨bg, og, none⟩) hbg2).trans hpg
        have hb2o : b2 < wo.heap.size := by omega
        have hd0 := (Hbi.out.cell (p := ⟨b2, o2 + k * 3, none⟩) hb2o).trans hc0
        have hd1 := (Hbi.out.cell (p := ⟨b2, o2 + k * 3 + 1, none⟩) hb2o).trans hc1
        have hd2 := (Hbi.out.cell (p := ⟨b2, o2 + k * 3 + 2, none⟩) hb2o).trans hc2
        by_cases hjl : j < a.next.length
        · have Hnx : Hid ((List.range (j + 1)).map (mapCell a.next M ⟨rs, rl, rr⟩) = (List.range j).map (mapCell a.next M ⟨rs, rl, rr⟩) ++ [mapCell a.next M ⟨rs, rl, rr⟩ j]) := by rw [Hid, List.range_succ, List.map_append]; rfl
          have hce := Hmc.out j hjl
          obtain ⟨m2, hm2⟩ : ∃ m2 : Nat, mapCell a.next M ⟨rs, rl, rr⟩ j = m2 := ⟨(mapCell a.next M ⟨rs, rl, rr⟩ j).toNat, by omega⟩
          have Hm2 := Lib.hid hm2
          clear hce hm2
          have i3 : (j : Int) < (a.next.length : Int) := by omega
          by_cases hp : (⟨rs, rl, rr⟩ : GRule).pair = true
          · obtain ⟨p1, p2, p3, p4⟩ := pair_of_ok Hok.out hp
            have Hp := Lib.hid hp
            have hemp : rs.toList.isEmpty = true := by rw [isEmpty_size]; exact hp
            obtain ⟨l, hl⟩ := Int.eq_ofNat_of_zero_le p1
            obtain ⟨q, hq⟩ := Int.eq_ofNat_of_zero_le p3
            simp only at hl hq p2 p4
            rw [hl, Int.toNat_natCast] at p2
            rw [hq, Int.toNat_natCast] at p4
            have Hl1 := Lib.hid hl
            have Hq1 := Lib.hid hq
            clear hp p1 p3 hl hq
            have hM0 := Hml.out
            obtain ⟨Ao2, co2, hv2, _, _, hrow2⟩ := (Hsl.out.keep (Keep.of_below Hbi.out))
            have ea : Ao = Ao2 := by injection hv2
            subst ea
            clear hv2
            obtain ⟨b, o, rfl, hbb, hcells⟩ := cells2 hrow2 (by omega)
            have r1 := Hmo.out l (by omega)
            have r2 := Hmo.out q (by omega)
            obtain ⟨m1, hm1⟩ : ∃ m1 : Nat, (M.getD l []).getD j 0 = m1 := ⟨((M.getD l []).getD j 0).toNat, by have := (r1.2 j hjl).1; omega⟩
            have hm1l : m1 < a.next.length := by have := (r1.2 j hjl).2; omega
            obtain ⟨b1, o1, c1, d1, d2, d3⟩ := hcells l j (by omega) (by rw [r1.1]; exact hjl)
            obtain ⟨b3, o3, c3, f1, f2, f3⟩ := hcells q m1 (by omega) (by rw [r2.1]; exact hm1l)
            rw [r1.1] at d1
            rw [r2.1] at f1
            rw [hm1] at d3
            have hcellv : (M.getD q []).getD m1 0 = m2 := by
              have := Hm2.out
              rw [mapCell, if_pos Hp.out] at this
              simp only [Hl1.out, Hq1.out, Int.toNat_natCast, hm1] at this
              exact this
            rw [hcellv] at f3
            have y0 : b < wo.heap.size := hbb
            have y2 : b1 < wo.heap.size := d2
            have y3 : b3 < wo.heap.size := f2
            have i1 : (l : Int) < (k : Int) := by omega
            have i2 : (q : Int) < (k : Int) := by omega
            have i4 : (m1 : Int) < (a.next.length : Int) := by omega
            clear hrow2 hcells r1 r2 hm1 hcellv hM0
            go_wp2_with fail
            have hb1 : Below wr.heap.size wr (wr.alloc (Obj.cells #[.string rs, .int .i64 rl, .int .i64 rr] 171)) := (Below.refl _ _).alloc (Nat.le_refl _) _
            have g0 : (wr.alloc (Obj.cells #[.string rs, .int .i64 rl, .int .i64 rr] 171)).cell? ⟨wr.heap.size, 0, none⟩ = some (.string rs) := by simp [go_sem]
            have g1 : (wr.alloc (Obj.cells #[.string rs, .int .i64 rl, .int .i64 rr] 171)).cell? ⟨wr.heap.size, 1, none⟩ = some (.int .i64 rl) := by simp [go_sem]
            have g2 : (wr.alloc (Obj.cells #[.string rs, .int .i64 rl, .int .i64 rr] 171)).cell? ⟨wr.heap.size, 2, none⟩ = some (.int .i64 rr) := by simp [go_sem]
            have hzn : (wr.alloc (Obj.cells #[.string rs, .int .i64 rl, .int .i64 rr] 171)).heap.size = wr.heap.size + 1 := by simp
            generalize wr.alloc (Obj.cells #[.string rs, .int .i64 rl, .int .i64 rr] 171) = w1 at *
            have hzb : wr.heap.size < w1.heap.size := by omega
            clear hzn
            rw [Hl1.out] at g1
            rw [Hq1.out] at g2
            have g3 := (hb1.cell (p := ⟨b, o + l, none⟩) (by show b < _; omega)).trans d1
            have g4 := (hb1.cell (p := ⟨b1, o1 + j, none⟩) (by show b1 < _; omega)).trans d3
            have g5 := (hb1.cell (p := ⟨b, o + q, none⟩) (by show b < _; omega)).trans f1
            have g6 := (hb1.cell (p := ⟨b3, o3 + m1, none⟩) (by show b3 < _; omega)).trans f3
            have hz1 : wo.heap.size < w1.heap.size := by omega
            have z0 : b < w1.heap.size := by omega
            have z2 : b1 < w1.heap.size := by omega
            have z3 : b3 < w1.heap.size := by omega
            have Hb1 := Lib.hid (Hbi.out.trans (hb1.mono hsi))
            have Hown1 := Lib.hid (ownsRow_below Howni.out hb1)
            have hne : some wr.heap.size ≠ u7.ownBlock := fun e => by have := (World.ownsRow.lt Howni.out _ e.symm).2; omega
            have Hne := Lib.hid hne
            have hbl : ∀ b, b < wo.heap.size → some b ≠ u7.ownBlock := fun b hb e => by have := (World.ownsRow.lt Howni.out _ e.symm).1; omega
            have Hbl := Lib.hid hbl
            clear hb1 d1 d3 f1 f3 d2 f2 hbb g0 hne hbl
            go_region_held3 (fun w' => w'.cell? ⟨wr.heap.size, 1, none⟩ = some (.int .i64 (l : Int)) ∧ w'.cell? ⟨wr.heap.size, 2, none⟩ = some (.int .i64 (q : Int)) ∧ w'.cell? ⟨b, o + l, none⟩ = some (.slice (some ⟨b1, o1, none⟩) a.next.length c1) ∧ w'.cell? ⟨b1, o1 + j, none⟩ = some (.int .i64 (m1 : Int)) ∧ w'.cell? ⟨b, o + q, none⟩ = some (.slice (some ⟨b3, o3, none⟩) a.next.length c3) ∧ w'.cell? ⟨b3, o3 + m1, none⟩ = some (.int .i64 (m2 : Int)))
              (first | go_keep | exact keepN (by assumption) hgrow Hne.out Hne.out (Hbl.out _ y0) (Hbl.out _ y2) (Hbl.out _ y0) (Hbl.out _ y3))
              ((refine step_push_int (y := (m2 : Int)) (N := w1.heap.size) (base := wo.heap.size) (by rfl) _ _ (by rfl) (by rfl) (by rfl) (by simp [go_sem]) (OwnInts.drew (OwnInts.alloc Hown1.out _)) hlen (Nat.le_trans (Nat.le_of_lt hz1) (leDA _ _)) ?_; intro v' w2 hown2 hgrow hblk))
            have B2 : Below wo.heap.size w1 w2 := (((Below.refl _ _).alloc (Nat.le_of_lt hz1) _).drew).grown hgrow (Nat.le_trans (Nat.le_of_lt hz1) (leDA _ _)) (fun g hg => (World.ownsRow.lt Hown1.out g hg).1)
            have hz2 : wo.heap.size ≤ w2.heap.size := by have := B2.size; omega
            have HB2 := Lib.hid (Hb1.out.trans B2)
            have Hown2 := Lib.hid hown2
            clear B2 hown2 hgrow hblk
            go_wp2_with fail
            go_roundw
            case rel => exact ⟨j + 1, by omega, by go_num, HB2.out, hz2, by rw [Hnx.out, Hm2.out]; exact Hown2.out⟩
            case measure => simp [intOf]; omega
          · obtain ⟨p1, p2, p3⟩ := letter_of_ok Hok.out (by simpa using hp)
            have hp' : (⟨rs, rl, rr⟩ : GRule).pair = false := by simpa using hp
            have Hp := Lib.hid hp'
            have hemp : rs.toList.isEmpty = false := by rw [isEmpty_size]; simpa [GRule.pair] using hp'
            simp only at p1 p2 p3
            have hs0 : 0 < rs.size := by omega
            rw [getD0 rs hs0] at p2 p3
            obtain ⟨d, hd⟩ : ∃ d, rs[0].toNat = 97 + d := ⟨rs[0].toNat - 97, by omega⟩
            have hd4 : d < 4 := by omega
            have r1 := N4.out j hjl
            have hcellv : (a.next.getD j []).getD d 0 = m2 := by
              have := Hm2.out
              rw [mapCell, Hp.out] at this
              simp only [Bool.false_eq_true, if_false, getD0 rs hs0, hd] at this
              rw [← this]; congr 1; omega
            have hBr := HBB.out.trans (Hbi.out.mono (by omega))
            obtain ⟨b, o, rfl, hbb, hcells⟩ := cells2 (HN.out.keep (Keep.of_below hBr)) (by omega)
            obtain ⟨b1, o1, c1, d1, d2, d3⟩ := hcells j d hjl (by rw [r1.1]; exact hd4)
            rw [r1.1] at d1
            rw [hcellv] at d3
            have y0 : b < wo.heap.size := by have : b < w.heap.size := hbb; omega
            have y2 : b1 < wo.heap.size := by have : b1 < w.heap.size := d2; omega
            have i4 : (d : Int) < 4 := by omega
            have h8 : IntKind.u8.wrap ((rs[0].toNat : Int) - 97) = (d : Int) := by rw [hd, IntWalk.u8_in _ (by omega)]; omega
            have his : (0 : Int) < (rs.size : Int) := by omega
            have H8 := Lib.hid h8
            have hlet : ∀ W, Calls Try.prog 90 #[.int .u8 rs[0].toNat] W fun e w' => e = .returned (.int .i64 (d : Int)) ∧ W = w' := fun W => by
              have := l04Letter_any rs[0] W (by omega) (by omega)
              rwa [show rs[0].toNat - 97 = d by omega] at this
            have Hlet := Lib.hid hlet
            clear hp hp' r1 hcellv hcells hd h8 hBr p1 p2 p3 hlet H8
            go_wp2_with fail
            have hb1 : Below wr.heap.size wr (wr.alloc (Obj.cells #[.string rs, .int .i64 rl, .int .i64 rr] 171)) := (Below.refl _ _).alloc (Nat.le_refl _) _
            have g0 : (wr.alloc (Obj.cells #[.string rs, .int .i64 rl, .int .i64 rr] 171)).cell? ⟨wr.heap.size, 0, none⟩ = some (.string rs) := by simp [go_sem]
            have g1 : (wr.alloc (Obj.cells #[.string rs, .int .i64 rl, .int .i64 rr] 171)).cell? ⟨wr.heap.size, 1, none⟩ = some (.int .i64 rl) := by simp [go_sem]
            have g2 : (wr.alloc (Obj.cells #[.string rs, .int .i64 rl, .int .i64 rr] 171)).cell? ⟨wr.heap.size, 2, none⟩ = some (.int .i64 rr) := by simp [go_sem]
            have hzn : (wr.alloc (Obj.cells #[.string rs, .int .i64 rl, .int .i64 rr] 171)).heap.size = wr.heap.size + 1 := by simp
            generalize wr.alloc (Obj.cells #[.string rs, .int .i64 rl, .int .i64 rr] 171) = w1 at *
            have hzb : wr.heap.size < w1.heap.size := by omega
            clear hzn
            have g3 := (hb1.cell (p := ⟨b, o + j, none⟩) (by show b < _; omega)).trans d1
            have g4 := (hb1.cell (p := ⟨b1, o1 + d, none⟩) (by show b1 < _; omega)).trans d3
            have hz1 : wo.heap.size < w1.heap.size := by omega
            have z0 : b < w1.heap.size := by omega
            have z2 : b1 < w1.heap.size := by omega
            have Hb1 := Lib.hid (Hbi.out.trans (hb1.mono hsi))
            have Hown1 := Lib.hid (ownsRow_below Howni.out hb1)
            have hne : some wr.heap.size ≠ u7.ownBlock := fun e => by have := (World.ownsRow.lt Howni.out _ e.symm).2; omega
            have Hne := Lib.hid hne
            have hbl : ∀ b, b < wo.heap.size → some b ≠ u7.ownBlock := fun b hb e => by have := (World.ownsRow.lt Howni.out _ e.symm).1; omega
            have Hbl := Lib.hid hbl
            clear hb1 d1 d3 d2 hbb g1 g2 hne hbl
            go_region_held3 (fun w' => w'.cell? ⟨wr.heap.size, 0, none⟩ = some (.string rs) ∧ w'.cell? ⟨b, o + j, none⟩ = some (.slice (some ⟨b1, o1, none⟩) 4 c1) ∧ w'.cell? ⟨b1, o1 + d, none⟩ = some (.int .i64 (m2 : Int)))
              (first | go_keep | exact keepN3 (by assumption) hgrow Hne.out (Hbl.out _ y0) (Hbl.out _ y2))
              (first
                | (go_at_call 90; refine (Hlet.out _).mono ?_; rintro e w' ⟨rfl, rfl⟩)
                | (refine step_push_int (y := (m2 : Int)) (N := w1.heap.size) (base := wo.heap.size) (by rfl) _ _ (by rfl) (by rfl) (by rfl) (by simp [go_sem]) (OwnInts.drew (OwnInts.alloc Hown1.out _)) hlen (Nat.le_trans (Nat.le_of_lt hz1) (leDA _ _)) ?_; intro v' w2 hown2 hgrow hblk))
            have B2 : Below wo.heap.size w1 w2 := (((Below.refl _ _).alloc (Nat.le_of_lt hz1) _).drew).grown hgrow (Nat.le_trans (Nat.le_of_lt hz1) (leDA _ _)) (fun g hg => (World.ownsRow.lt Hown1.out g hg).1)
            have hz2 : wo.heap.size ≤ w2.heap.size := by have := B2.size; omega
            have HB2 := Lib.hid (Hb1.out.trans B2)
            have Hown2 := Lib.hid hown2
            clear B2 hown2 hgrow hblk
            go_wp2_with fail
            go_roundw
            case rel => exact ⟨j + 1, by omega, by go_num, HB2.out, hz2, by rw [Hnx.out, Hm2.out]; exact Hown2.out⟩
            case measure => simp [intOf]; omega
        · have hjn : j = a.next.length := by omega
          have hown3 := ownsRow_below Hown.out Hbi.out
          have Hown3 := Lib.hid hown3
          obtain ⟨Ar, cr, hvr, _⟩ := own_nil Howni.out
          subst hvr
          have Hrow : Hid ((List.range j).map (mapCell a.next M ⟨rs, rl, rr⟩) = mapRow a.next M ⟨rs, rl, rr⟩) := by rw [Hid, mapRow, hjn]
          clear hown3
          go_wp2_with (at_builtin; go_must (refine push_sl (W := wr) (N := wr.heap.size) (base := w.heap.size) rfl _ _ rfl rfl rfl rfl rfl (by exact Hown3.out) (by omega) (by omega) ?_); intro v' w2 hown2 hgrow hblk)
          have Hea2 := Lib.hid (maps_push (B := wo.heap.size) (by omega) (Nat.le_refl _) Hown.out Hea.out Hbi.out Howni.out hgrow hblk)
          have Hown2 := Lib.hid hown2
          have B2 := Lib.hid (HB.out.trans (((Hbi.out.mono (by omega)).alloc (by omega) _).grown hgrow (by simp; omega) (fun g hg => (World.ownsRow.lt Hown.out g hg).1)))
          clear hown2 hgrow hblk
          go_roundw
          case rel => exact ⟨k + 1, _, by omega, by go_num, B2.out, Hown2.out, by rw [Hsn.out, ← Hrow.out]; have := Hea2.out; simp only [List.length_map, List.length_range, hjn] at this ⊢; exact this⟩
          case measure => simp [intOf]; omega
    · have hkn : k = xs.length := by omega
      subst hkn
      rw [List.take_length] at Hea
      have Hsl : Hid (SlS (SliceE IntE) wo (fun b => w.heap.size ≤ b ∧ b < wo.heap.size) u5 (mapsOf a.next xs)) :=
        (Hea.out.more (S' := fun b => w.heap.size ≤ b ∧ b < wo.heap.size) fun b h => ⟨h.1, h.2.1⟩).sl (by rw [mapsOf_len]; exact Hown.out) fun g hg => World.ownsRow.lt Hown.out g hg
      go_wp2_with fail
      go_ret
      exact ⟨_, rfl, Hsl.out, HBB.out⟩
end Go.Proofs.Ytoemoifeiigkoaa
