import Derived.Test.YtfkijaamfmpboaaM2
import Derived.Test.YtfkijaamfmpboaaM1
import Derived.Deep.DeepCutAuto
import Derived.Deep.CutBlock
import Derived.Maps.Keyed
import Derived.DeepKeys4
import Derived.Deep.CutRange
import Derived.WalkArith
import Derived.Deep.OwnRows
import Derived.IntWalk
import Derived.Shelf.SlicesE.Reverse
import Derived.Lib.ConvBytes
import Derived.Lib.RowBridge
import Derived.Laws.IdiomCopy
import Derived.Lib.LazyBuf
import Derived.Shelf.Strings.BuilderK
import Derived.Shelf.Bits.Mul64
import Derived.Shelf.Strings.BuilderF
import Derived.Shelf.Strings.Builder2
import Derived.Lib.RepeatB
import Derived.Deep.LoopGhost
import Derived.Deep.DeepFit
import Derived.Laws.EntriesVeiled
import Derived.Shelf.Strconv.Itoa0
import Derived.Shelf.Strconv.Itoa1
import Derived.Shelf.LaysM
import Derived.Shelf.Strconv.Itoa2
import Derived.Shelf.Strconv.Itoa3
import Derived.Shelf.Strconv.Itoa4
import Derived.Test.YtfkijaamfmpboaaProg
import Derived.Lib.LaidTab
namespace Go.Proofs.Ytfkijaamfmpboaa
open Go.RowKit
theorem keepN {W W2 : World} {row : Option Nat} {p0 p1 p2 p3 p4 p5 : Addr} {v0 v1 v2 v3 v4 v5 : Value}
    (h : W.cell? p0 = some v0 ∧ W.cell? p1 = some v1 ∧ W.cell? p2 = some v2 ∧ W.cell? p3 = some v3 ∧ W.cell? p4 = some v4 ∧ W.cell? p5 = some v5) (hg : W.grownBy W2 row)
    (h0 : some p0.block ≠ row) (h1 : some p1.block ≠ row) (h2 : some p2.block ≠ row) (h3 : some p3.block ≠ row) (h4 : some p4.block ≠ row) (h5 : some p5.block ≠ row) :
    W2.cell? p0 = some v0 ∧ W2.cell? p1 = some v1 ∧ W2.cell? p2 = some v2 ∧ W2.cell? p3 = some v3 ∧ W2.cell? p4 = some v4 ∧ W2.cell? p5 = some v5 :=
  ⟨hg.cell h.1 h0, hg.cell h.2.1 h1, hg.cell h.2.2.1 h2, hg.cell h.2.2.2.1 h3, hg.cell h.2.2.2.2.1 h4, hg.cell h.2.2.2.2.2 h5⟩
theorem keepN3 {W W2 : World} {row : Option Nat} {p0 p1 p2 : Addr} {v0 v1 v2 : Value}
    (h : W.cell? p0 = some v0 ∧ W.cell? p1 = some v1 ∧ W.cell? p2 = some v2) (hg : W.grownBy W2 row) (h0 : some p0.block ≠ row) (h1 : some p1.block ≠ row) (h2 : some p2.block ≠ row) :
    W2.cell? p0 = some v0 ∧ W2.cell? p1 = some v1 ∧ W2.cell? p2 = some v2 :=
  ⟨hg.cell h.1 h0, hg.cell h.2.1 h1, hg.cell h.2.2 h2⟩
set_option maxRecDepth 100000 in
set_option maxHeartbeats 4000000 in
theorem l04Maps_any (vN vR : Value) (bg og : Nat) (a : GAuto) (xs : List GRule) (ls : List Int) (w : World) (hN : Sl (SliceE IntE) w w.heap.size vN a.next) (hR : Sl RuleE w w.heap.size vR xs) (ha : autoOk a = true) (hl : lens xs = some ls) (hn : xs.length ≤ 1099511627776) (hp : w.cell? ⟨bg, og, none⟩ = some vR) (hbg : bg < w.heap.size) :
    Calls Try.prog 32 #[vN, .pointer (some ⟨bg, og, none⟩)] w (MapsPost w (mapsOf a.next xs)) := by
  obtain ⟨AN, cN, rfl, _, hmN, hrowN⟩ := hN
  obtain ⟨AR, cR, rfl, _, _, hrowR⟩ := hR
  obtain ⟨n1, n2, n3, n4⟩ := autoOk_get ha
  have hnext : a.next.length ≤ 24 := by omega
  have hnext0 : 1 ≤ a.next.length := by omega
  have Hl := Lib.hid hl
  have Ha := Lib.hid ha
  have N3 := Lib.hid n3
  have N4 := Lib.hid n4
  have HN := Lib.hid hrowN
  have HR := Lib.hid hrowR
  clear n3 n4 hl ha hrowN hrowR
  go_enter Try.func32, Try.ntmps32
  go_wp2_with fail
  go_loopw [5, 6] (fun out i wr => ∃ (k : Nat) (vs : List Value), k ≤ xs.length ∧ i = .int .i64 k ∧ Below w.heap.size w wr ∧ wr.ownsRow (w.heap.size) 34 1 out k vs ∧
    Each IntE wr (fun b => w.heap.size ≤ b ∧ b < wr.heap.size ∧ some b ≠ out.ownBlock) vs (mapsOf a.next (xs.take k))) (fun _ i _ => xs.length - (intOf i).toNat)
  case atStart => exact ⟨0, [], Nat.zero_le _, rfl, (Below.refl _ _).alloc (Nat.le_refl _) _, ownSl_empty rfl (Nat.le_refl _), Each.nil⟩
  case round =>
    obtain ⟨k, vs, hk, rfl, hb, hown, hea⟩ := hrel
    obtain ⟨wo, rfl⟩ : ∃ wo : World, wo = wr := ⟨_, rfl⟩
    have hsz : w.heap.size ≤ wo.heap.size := hb.size
    have hB : Below w.heap.size w wo := hb
    have hpg := (hb.cell (p := ⟨bg, og, none⟩) hbg).trans hp
    have hbg2 : bg < wo.heap.size := by omega
    have HB := Lib.hid hb
    have HBB := Lib.hid hB
    have Hown := Lib.hid hown
    have Hea := Lib.hid hea
    clear hb hB hown hea
    by_cases hlt : k < xs.length
    · obtain ⟨b2, o2, rfl, hb2, hcellR⟩ := HR.out.rule (k := k) hlt
      have hrk := getR_at hlt
      obtain ⟨k0, k1, k2⟩ := hcellR k _ hrk
      have hc0 := (HBB.out.cell (p := ⟨b2, o2 + k * 3, none⟩) hb2).trans k0
      have hc1 := (HBB.out.cell (p := ⟨b2, o2 + k * 3 + 1, none⟩) hb2).trans k1
      have hc2 := (HBB.out.cell (p := ⟨b2, o2 + k * 3 + 2, none⟩) hb2).trans k2
      have hok := (lens_steps Hl.out k _ hrk).1
      have hki : (k : Int) < (xs.length : Int) := by omega
      have Hok := Lib.hid hok
      have Hrk := Lib.hid hrk
      have hmo := mapsOf_ok Ha.out Hl.out k hk
      have Hmo := Lib.hid hmo
      have hml : (mapsOf a.next (xs.take k)).length = k := by rw [mapsOf_len, List.length_take]; omega
      have Hml := Lib.hid hml
      have hsl : SlS (SliceE IntE) wo (fun b => b < wo.heap.size) u5 (mapsOf a.next (xs.take k)) :=
        (Hea.out.more (S' := fun b => b < wo.heap.size) fun b h => h.2.1).sl (by rw [hml]; exact Hown.out) fun g hg => (World.ownsRow.lt Hown.out g hg).2
      have Hsl := Lib.hid hsl
      obtain ⟨Ao, co, hvo, _⟩ := hsl
      rw [hml] at hvo
      subst hvo
      clear hok hrk hmo hml k0 k1 k2 hcellR
      obtain ⟨R, hR⟩ : ∃ R, getR xs k = R := ⟨_, rfl⟩
      rw [hR] at hc0 hc1 hc2 Hok Hrk
      clear hR
      have Hsn : Hid (mapsOf a.next (xs.take (k + 1)) = mapsOf a.next (xs.take k) ++ [mapRow a.next (mapsOf a.next (xs.take k)) R]) := mapsOf_snoc Hrk.out
      obtain ⟨M, hM⟩ : ∃ M, mapsOf a.next (xs.take k) = M := ⟨_, rfl⟩
      rw [hM] at Hmo Hml Hsl Hea Hsn
      clear hM
      obtain ⟨rs, rl, rr⟩ := R
      simp only at hc0 hc1 hc2
      have hmc : ∀ s, s < a.next.length → 0 ≤ mapCell a.next M ⟨rs, rl, rr⟩ s ∧ mapCell a.next M ⟨rs, rl, rr⟩ s < a.next.length := fun s hs => mapCell_ok Ha.out Hmo.out (r := ⟨rs, rl, rr⟩) (by rw [Hml.out]; exact Hok.out) hs
      have Hmc := Lib.hid hmc
      clear hmc
      go_wp2_with fail
      go_loopw [7, 8] (fun row i wi => ∃ j : Nat, j ≤ a.next.length ∧ i = .int .i64 j ∧ Below wo.heap.size wo wi ∧ wo.heap.size ≤ wi.heap.size ∧
        OwnInts wi wo.heap.size row ((List.range j).map (mapCell a.next M ⟨rs, rl, rr⟩))) (fun _ i _ => a.next.length - (intOf i).toNat)
      case atStart => exact ⟨0, Nat.zero_le _, rfl, (by repeat (first | exact Below.refl _ _ | (refine Below.alloc ?_ (by first | omega | (simp; done) | (simp; omega)) _) | refine below_drewN ?_ _ | refine Below.drew ?_)), by simp, OwnInts.empty rfl (Nat.le_refl _)⟩
      case round =>
        obtain ⟨j, hj, rfl, hbi, hzi, howni⟩ := hrel
        have Hbi := Lib.hid hbi
        have Howni := Lib.hid howni
        clear hbi howni
        have hlen : ((List.range j).map (mapCell a.next M ⟨rs, rl, rr⟩)).length ≤ 1099511627776 := by simp; omega
        have hsi : wo.heap.size ≤ wr.heap.size := hzi
        have hpg2 := (Hbi.out.cell (p := ⟨bg, og, none⟩) hbg2).trans hpg
        have hb2o : b2 < wo.heap.size := by omega
        have hd0 := (Hbi.out.cell (p := ⟨b2, o2 + k * 3, none⟩) hb2o).trans hc0
        have hd1 := (Hbi.out.cell (p := ⟨b2, o2 + k * 3 + 1, none⟩) hb2o).trans hc1
        have hd2 := (Hbi.out.cell (p := ⟨b2, o2 + k * 3 + 2, none⟩) hb2o).trans hc2
        by_cases hjl : j < a.next.length
        · have Hnx : Hid ((List.range (j + 1)).map (mapCell a.next M ⟨rs, rl, rr⟩) = (List.range j).map (mapCell a.next M ⟨rs, rl, rr⟩) ++ [mapCell a.next M ⟨rs, rl, rr⟩ j]) := by rw [Hid, List.range_succ, List.map_append]; rfl
          have hce := Hmc.out j hjl
          obtain ⟨m2, hm2⟩ : ∃ m2 : Nat, mapCell a.next M ⟨rs, rl, rr⟩ j = m2 := ⟨(mapCell a.next M ⟨rs, rl, rr⟩ j).toNat, by omega⟩
          have Hm2 := Lib.hid hm2
          clear hce hm2
          have i3 : (j : Int) < (a.next.length : Int) := by omega
          by_cases hp : (⟨rs, rl, rr⟩ : GRule).pair = true
          · obtain ⟨p1, p2, p3, p4⟩ := pair_of_ok Hok.out hp
            have Hp := Lib.hid hp
            have hemp : rs.toList.isEmpty = true := by rw [isEmpty_size]; exact hp
            obtain ⟨l, hl⟩ := Int.eq_ofNat_of_zero_le p1
            obtain ⟨q, hq⟩ := Int.eq_ofNat_of_zero_le p3
            simp only at hl hq p2 p4
            rw [hl, Int.toNat_natCast] at p2
            rw [hq, Int.toNat_natCast] at p4
            have Hl1 := Lib.hid hl
            have Hq1 := Lib.hid hq
            clear hp p1 p3 hl hq
            have hM0 := Hml.out
            obtain ⟨Ao2, co2, hv2, _, _, hrow2⟩ := (Hsl.out.keep (Keep.of_below Hbi.out))
            have ea : Ao = Ao2 := by injection hv2
            subst ea
            clear hv2
            obtain ⟨b, o, rfl, hbb, hcells⟩ := cells2 hrow2 (by omega)
            have r1 := Hmo.out l (by omega)
            have r2 := Hmo.out q (by omega)
            obtain ⟨m1, hm1⟩ : ∃ m1 : Nat, (M.getD l []).getD j 0 = m1 := ⟨((M.getD l []).getD j 0).toNat, by have := (r1.2 j hjl).1; omega⟩
            have hm1l : m1 < a.next.length := by have := (r1.2 j hjl).2; omega
            obtain ⟨b1, o1, c1, d1, d2, d3⟩ := hcells l j (by omega) (by rw [r1.1]; exact hjl)
            obtain ⟨b3, o3, c3, f1, f2, f3⟩ := hcells q m1 (by omega) (by rw [r2.1]; exact hm1l)
            rw [r1.1] at d1
            rw [r2.1] at f1
            rw [hm1] at d3
            have hcellv : (M.getD q []).getD m1 0 = m2 := by
              have := Hm2.out
              rw [mapCell, if_pos Hp.out] at this
              simp only [Hl1.out, Hq1.out, Int.toNat_natCast, hm1] at this
              exact this
            rw [hcellv] at f3
            have y0 : b < wo.heap.size := hbb
            have y2 : b1 < wo.heap.size := d2
            have y3 : b3 < wo.heap.size := f2
            have i1 : (l : Int) < (k : Int) := by omega
            have i2 : (q : Int) < (k : Int) := by omega
            have i4 : (m1 : Int) < (a.next.length : Int) := by omega
            clear hrow2 hcells r1 r2 hm1 hcellv hM0
            go_wp2_with fail
            have hb1 : Below wr.heap.size wr (wr.alloc (Obj.cells #[.string rs, .int .i64 rl, .int .i64 rr] 111)) := (Below.refl _ _).alloc (Nat.le_refl _) _
            have g0 : (wr.alloc (Obj.cells #[.string rs, .int .i64 rl, .int .i64 rr] 111)).cell? ⟨wr.heap.size, 0, none⟩ = some (.string rs) := by simp [go_sem]
            have g1 : (wr.alloc (Obj.cells #[.string rs, .int .i64 rl, .int .i64 rr] 111)).cell? ⟨wr.heap.size, 1, none⟩ = some (.int .i64 rl) := by simp [go_sem]
            have g2 : (wr.alloc (Obj.cells #[.string rs, .int .i64 rl, .int .i64 rr] 111)).cell? ⟨wr.heap.size, 2, none⟩ = some (.int .i64 rr) := by simp [go_sem]
            have hzn : (wr.alloc (Obj.cells #[.string rs, .int .i64 rl, .int .i64 rr] 111)).heap.size = wr.heap.size + 1 := by simp
            generalize wr.alloc (Obj.cells #[.string rs, .int .i64 rl, .int .i64 rr] 111) = w1 at *
            have hzb : wr.heap.size < w1.heap.size := by omega
            clear hzn
            rw [Hl1.out] at g1
            rw [Hq1.out] at g2
            have g3 := (hb1.cell (p := ⟨b, o + l, none⟩) (by show b < _; omega)).trans d1
            have g4 := (hb1.cell (p := ⟨b1, o1 + j, none⟩) (by show b1 < _; omega)).trans d3
            have g5 := (hb1.cell (p := ⟨b, o + q, none⟩) (by show b < _; omega)).trans f1
            have g6 := (hb1.cell (p := ⟨b3, o3 + m1, none⟩) (by show b3 < _; omega)).trans f3
            have hz1 : wo.heap.size < w1.heap.size := by omega
            have z0 : b < w1.heap.size := by omega
            have z2 : b1 < w1.heap.size := by omega
            have z3 : b3 < w1.heap.size := by omega
            have Hb1 := Lib.hid (Hbi.out.trans (hb1.mono hsi))
            have Hown1 := Lib.hid (ownsRow_below Howni.out hb1)
            have hne : some wr.heap.size ≠ u7.ownBlock := fun e => by have := (World.ownsRow.lt Howni.out _ e.symm).2; omega
            have Hne := Lib.hid hne
            have hbl : ∀ b, b < wo.heap.size → some b ≠ u7.ownBlock := fun b hb e => by have := (World.ownsRow.lt Howni.out _ e.symm).1; omega
            have Hbl := Lib.hid hbl
            clear hb1 d1 d3 f1 f3 d2 f2 hbb g0 hne hbl
            go_region_held3 (fun w' => w'.cell? ⟨wr.heap.size, 1, none⟩ = some (.int .i64 (l : Int)) ∧ w'.cell? ⟨wr.heap.size, 2, none⟩ = some (.int .i64 (q : Int)) ∧ w'.cell? ⟨b, o + l, none⟩ = some (.slice (some ⟨b1, o1, none⟩) a.next.length c1) ∧ w'.cell? ⟨b1, o1 + j, none⟩ = some (.int .i64 (m1 : Int)) ∧ w'.cell? ⟨b, o + q, none⟩ = some (.slice (some ⟨b3, o3, none⟩) a.next.length c3) ∧ w'.cell? ⟨b3, o3 + m1, none⟩ = some (.int .i64 (m2 : Int)))
              (first | go_keep | exact keepN (by assumption) hgrow Hne.out Hne.out (Hbl.out _ y0) (Hbl.out _ y2) (Hbl.out _ y0) (Hbl.out _ y3))
              ((refine step_push_int (y := (m2 : Int)) (N := w1.heap.size) (base := wo.heap.size) (by rfl) _ _ (by rfl) (by rfl) (by rfl) (by simp [go_sem]) (OwnInts.drew (OwnInts.alloc Hown1.out _)) hlen (Nat.le_trans (Nat.le_of_lt hz1) (leDA _ _)) ?_; intro v' w2 hown2 hgrow hblk))
            have B2 : Below wo.heap.size w1 w2 := (((Below.refl _ _).alloc (Nat.le_of_lt hz1) _).drew).grown hgrow (Nat.le_trans (Nat.le_of_lt hz1) (leDA _ _)) (fun g hg => (World.ownsRow.lt Hown1.out g hg).1)
            have hz2 : wo.heap.size ≤ w2.heap.size := by have := B2.size; omega
            have HB2 := Lib.hid (Hb1.out.trans B2)
            have Hown2 := Lib.hid hown2
            clear B2 hown2 hgrow hblk
            go_wp2_with fail
            go_roundw
            case rel => exact ⟨j + 1, by omega, by go_num, HB2.out, hz2, by rw [Hnx.out, Hm2.out]; exact Hown2.out⟩
            case measure => simp [intOf]; omega
          · obtain ⟨p1, p2, p3⟩ := letter_of_ok Hok.out (by simpa using hp)
            have hp' : (⟨rs, rl, rr⟩ : GRule).pair = false := by simpa using hp
            have Hp := Lib.hid hp'
            have hemp : rs.toList.isEmpty = false := by rw [isEmpty_size]; simpa [GRule.pair] using hp'
            simp only at p1 p2 p3
            have hs0 : 0 < rs.size := by omega
            rw [getD0 rs hs0] at p2 p3
            obtain ⟨d, hd⟩ : ∃ d, rs[0].toNat = 97 + d := ⟨rs[0].toNat - 97, by omega⟩
            have hd4 : d < 4 := by omega
            have r1 := N4.out j hjl
            have hcellv : (a.next.getD j []).getD d 0 = m2 := by
              have := Hm2.out
              rw [mapCell, Hp.out] at this
              simp only [Bool.false_eq_true, if_false, getD0 rs hs0, hd] at this
              rw [← this]; congr 1; omega
            have hBr := HBB.out.trans (Hbi.out.mono (by omega))
            obtain ⟨b, o, rfl, hbb, hcells⟩ := cells2 (HN.out.keep (Keep.of_below hBr)) (by omega)
            obtain ⟨b1, o1, c1, d1, d2, d3⟩ := hcells j d hjl (by rw [r1.1]; exact hd4)
            rw [r1.1] at d1
            rw [hcellv] at d3
            have y0 : b < wo.heap.size := by have : b < w.heap.size := hbb; omega
            have y2 : b1 < wo.heap.size := by have : b1 < w.heap.size := d2; omega
            have i4 : (d : Int) < 4 := by omega
            have h8 : IntKind.u8.wrap ((rs[0].toNat : Int) - 97) = (d : Int) := by rw [hd, IntWalk.u8_in _ (by omega)]; omega
            have his : (0 : Int) < (rs.size : Int) := by omega
            have H8 := Lib.hid h8
            have hlet : ∀ W, Calls Try.prog 46 #[.int .u8 rs[0].toNat] W fun e w' => e = .returned (.int .i64 (d : Int)) ∧ W = w' := fun W => by
              have := l04Letter_any rs[0] W (by omega) (by omega)
              rwa [show rs[0].toNat - 97 = d by omega] at this
            have Hlet := Lib.hid hlet
            clear hp hp' r1 hcellv hcells hd h8 hBr p1 p2 p3 hlet H8
            go_wp2_with fail
            have hb1 : Below wr.heap.size wr (wr.alloc (Obj.cells #[.string rs, .int .i64 rl, .int .i64 rr] 111)) := (Below.refl _ _).alloc (Nat.le_refl _) _
            have g0 : (wr.alloc (Obj.cells #[.string rs, .int .i64 rl, .int .i64 rr] 111)).cell? ⟨wr.heap.size, 0, none⟩ = some (.string rs) := by simp [go_sem]
            have g1 : (wr.alloc (Obj.cells #[.string rs, .int .i64 rl, .int .i64 rr] 111)).cell? ⟨wr.heap.size, 1, none⟩ = some (.int .i64 rl) := by simp [go_sem]
            have g2 : (wr.alloc (Obj.cells #[.string rs, .int .i64 rl, .int .i64 rr] 111)).cell? ⟨wr.heap.size, 2, none⟩ = some (.int .i64 rr) := by simp [go_sem]
            have hzn : (wr.alloc (Obj.cells #[.string rs, .int .i64 rl, .int .i64 rr] 111)).heap.size = wr.heap.size + 1 := by simp
            generalize wr.alloc (Obj.cells #[.string rs, .int .i64 rl, .int .i64 rr] 111) = w1 at *
            have hzb : wr.heap.size < w1.heap.size := by omega
            clear hzn
            have g3 := (hb1.cell (p := ⟨b, o + j, none⟩) (by show b < _; omega)).trans d1
            have g4 := (hb1.cell (p := ⟨b1, o1 + d, none⟩) (by show b1 < _; omega)).trans d3
            have hz1 : wo.heap.size < w1.heap.size := by omega
            have z0 : b < w1.heap.size := by omega
            have z2 : b1 < w1.heap.size := by omega
            have Hb1 := Lib.hid (Hbi.out.trans (hb1.mono hsi))
            have Hown1 := Lib.hid (ownsRow_below Howni.out hb1)
            have hne : some wr.heap.size ≠ u7.ownBlock := fun e => by have := (World.ownsRow.lt Howni.out _ e.symm).2; omega
            have Hne := Lib.hid hne
            have hbl : ∀ b, b < wo.heap.size → some b ≠ u7.ownBlock := fun b hb e => by have := (World.ownsRow.lt Howni.out _ e.symm).1; omega
            have Hbl := Lib.hid hbl
            clear hb1 d1 d3 d2 hbb g1 g2 hne hbl
            go_region_held3 (fun w' => w'.cell? ⟨wr.heap.size, 0, none⟩ = some (.string rs) ∧ w'.cell? ⟨b, o + j, none⟩ = some (.slice (some ⟨b1, o1, none⟩) 4 c1) ∧ w'.cell? ⟨b1, o1 + d, none⟩ = some (.int .i64 (m2 : Int)))
              (first | go_keep | exact keepN3 (by assumption) hgrow Hne.out (Hbl.out _ y0) (Hbl.out _ y2))
              (first
                | (go_at_call 46; refine (Hlet.out _).mono ?_; rintro e w' ⟨rfl, rfl⟩)
                | (refine step_push_int (y := (m2 : Int)) (N := w1.heap.size) (base := wo.heap.size) (by rfl) _ _ (by rfl) (by rfl) (by rfl) (by simp [go_sem]) (OwnInts.drew (OwnInts.alloc Hown1.out _)) hlen (Nat.le_trans (Nat.le_of_lt hz1) (leDA _ _)) ?_; intro v' w2 hown2 hgrow hblk))
            have B2 : Below wo.heap.size w1 w2 := (((Below.refl _ _).alloc (Nat.le_of_lt hz1) _).drew).grown hgrow (Nat.le_trans (Nat.le_of_lt hz1) (leDA _ _)) (fun g hg => (World.ownsRow.lt Hown1.out g hg).1)
            have hz2 : wo.heap.size ≤ w2.heap.size := by have := B2.size; omega
            have HB2 := Lib.hid (Hb1.out.trans B2)
            have Hown2 := Lib.hid hown2
            clear B2 hown2 hgrow hblk
            go_wp2_with fail
            go_roundw
            case rel => exact ⟨j + 1, by omega, by go_num, HB2.out, hz2, by rw [Hnx.out, Hm2.out]; exact Hown2.out⟩
            case measure => simp [intOf]; omega
        · have hjn : j = a.next.length := by omega
          have hown3 := ownsRow_below Hown.out Hbi.out
          have Hown3 := Lib.hid hown3
          obtain ⟨Ar, cr, hvr, _⟩ := own_nil Howni.out
          subst hvr
          have Hrow : Hid ((List.range j).map (mapCell a.next M ⟨rs, rl, rr⟩) = mapRow a.next M ⟨rs, rl, rr⟩) := by rw [Hid, mapRow, hjn]
          clear hown3
          go_wp2_with (at_builtin; go_must (refine push_sl (W := wr) (N := wr.heap.size) (base := w.heap.size) rfl _ _ rfl rfl rfl rfl rfl (by exact Hown3.out) (by omega) (by omega) ?_); intro v' w2 hown2 hgrow hblk)
          have Hea2 := Lib.hid (maps_push (B := wo.heap.size) (by omega) (Nat.le_refl _) Hown.out Hea.out Hbi.out Howni.out hgrow hblk)
          have Hown2 := Lib.hid hown2
          have B2 := Lib.hid (HB.out.trans (((Hbi.out.mono (by omega)).alloc (by omega) _).grown hgrow (by simp; omega) (fun g hg => (World.ownsRow.lt Hown.out g hg).1)))
          clear hown2 hgrow hblk
          go_roundw
          case rel => exact ⟨k + 1, _, by omega, by go_num, B2.out, Hown2.out, by rw [Hsn.out, ← Hrow.out]; have := Hea2.out; simp only [List.length_map, List.length_range, hjn] at this ⊢; exact this⟩
          case measure => simp [intOf]; omega
    · have hkn : k = xs.length := by omega
      subst hkn
      rw [List.take_length] at Hea
      have Hsl : Hid (SlS (SliceE IntE) wo (fun b => w.heap.size ≤ b ∧ b < wo.heap.size) u5 (mapsOf a.next xs)) :=
        (Hea.out.more (S' := fun b => w.heap.size ≤ b ∧ b < wo.heap.size) fun b h => ⟨h.1, h.2.1⟩).sl (by rw [mapsOf_len]; exact Hown.out) fun g hg => World.ownsRow.lt Hown.out g hg
      go_wp2_with fail
      go_ret
      exact ⟨_, rfl, Hsl.out, HBB.out⟩
def RideV (w : World) (B : Nat) (v : Value) (a : GAuto) (xs : List GRule) (ls : List Int) : Prop :=
  ∃ vF vN vR vL vM, v = .agg #[.int .i64 a.states, .int .i64 a.start, vF, vN, vR, vL, vM] ∧ Sl IntE w B vF a.finals ∧ Sl (SliceE IntE) w B vN a.next ∧ Sl RuleE w B vR xs ∧ Sl IntE w B vL ls ∧ Sl (SliceE IntE) w B vM (mapsOf a.next xs)
theorem RideV.below {w w' : World} {B : Nat} {v : Value} {a : GAuto} {xs : List GRule} {ls : List Int} (h : RideV w B v a xs ls) (hb : Below B w w') : RideV w' B v a xs ls := by
  obtain ⟨vF, vN, vR, vL, vM, rfl, h1, h2, h3, h4, h5⟩ := h
  exact ⟨vF, vN, vR, vL, vM, rfl, h1.below hb, h2.below hb, h3.below hb, h4.below hb, h5.below hb⟩
theorem RideV.le {w : World} {B B' : Nat} {v : Value} {a : GAuto} {xs : List GRule} {ls : List Int} (h : RideV w B v a xs ls) (hb : B ≤ B') : RideV w B' v a xs ls := by
  obtain ⟨vF, vN, vR, vL, vM, rfl, h1, h2, h3, h4, h5⟩ := h
  exact ⟨vF, vN, vR, vL, vM, rfl, h1.le hb, h2.le hb, h3.le hb, h4.le hb, h5.le hb⟩
theorem RideV.up {w0 w : World} {v : Value} {a : GAuto} {xs : List GRule} {ls : List Int} (h : RideV w0 w0.heap.size v a xs ls) (hb : Below w0.heap.size w0 w) : RideV w w.heap.size v a xs ls := (h.below hb).le hb.size
theorem keepR {N : Nat} {wr W W2 : World} {p q : Nat} {a0 a1 a2 a3 b0 : Value}
    (h : Below N wr W ∧ W.cell? ⟨p, 0, none⟩ = some a0 ∧ W.cell? ⟨p, 1, none⟩ = some a1 ∧ W.cell? ⟨p, 2, none⟩ = some a2 ∧ W.cell? ⟨p, 3, none⟩ = some a3 ∧ W.cell? ⟨q, 0, none⟩ = some b0)
    (h2 : Below W.heap.size W W2) (hN : N ≤ wr.heap.size) (hp : p < N) (hq : q < N) :
    Below N wr W2 ∧ W2.cell? ⟨p, 0, none⟩ = some a0 ∧ W2.cell? ⟨p, 1, none⟩ = some a1 ∧ W2.cell? ⟨p, 2, none⟩ = some a2 ∧ W2.cell? ⟨p, 3, none⟩ = some a3 ∧ W2.cell? ⟨q, 0, none⟩ = some b0 := by
  obtain ⟨h1, x0, x1, x2, x3, y0⟩ := h
  have hs := h1.size
  have A := Box4.up ⟨x0, x1, x2, x3⟩ h2 (by omega)
  exact ⟨h1.trans (h2.mono (by omega)), A.1, A.2.1, A.2.2.1, A.2.2.2, (h2.cell (p := ⟨q, 0, none⟩) (by show q < _; omega)).trans y0⟩
theorem keepRD {N : Nat} {W : World} {p q : Nat} {a0 a1 a2 a3 b0 : Value} (x0 : W.cell? ⟨p, 0, none⟩ = some a0) (x1 : W.cell? ⟨p, 1, none⟩ = some a1) (x2 : W.cell? ⟨p, 2, none⟩ = some a2) (x3 : W.cell? ⟨p, 3, none⟩ = some a3) (y0 : W.cell? ⟨q, 0, none⟩ = some b0) :
    Below N W W.drew ∧ W.drew.cell? ⟨p, 0, none⟩ = some a0 ∧ W.drew.cell? ⟨p, 1, none⟩ = some a1 ∧ W.drew.cell? ⟨p, 2, none⟩ = some a2 ∧ W.drew.cell? ⟨p, 3, none⟩ = some a3 ∧ W.drew.cell? ⟨q, 0, none⟩ = some b0 :=
  ⟨(Below.refl _ _).drew, x0, x1, x2, x3, y0⟩
theorem keepRS {N : Nat} {wr W : World} {p q b o : Nat} {a0 a1 a2 a3 b0 u : Value}
    (h : Below N wr W ∧ W.cell? ⟨p, 0, none⟩ = some a0 ∧ W.cell? ⟨p, 1, none⟩ = some a1 ∧ W.cell? ⟨p, 2, none⟩ = some a2 ∧ W.cell? ⟨p, 3, none⟩ = some a3 ∧ W.cell? ⟨q, 0, none⟩ = some b0)
    (hb : N ≤ b) (hp : p < N) (hq : q < N) :
    Below N wr (W.setCell ⟨b, o, none⟩ u) ∧ (W.setCell ⟨b, o, none⟩ u).cell? ⟨p, 0, none⟩ = some a0 ∧ (W.setCell ⟨b, o, none⟩ u).cell? ⟨p, 1, none⟩ = some a1 ∧ (W.setCell ⟨b, o, none⟩ u).cell? ⟨p, 2, none⟩ = some a2 ∧ (W.setCell ⟨b, o, none⟩ u).cell? ⟨p, 3, none⟩ = some a3 ∧ (W.setCell ⟨b, o, none⟩ u).cell? ⟨q, 0, none⟩ = some b0 := by
  obtain ⟨h1, x0, x1, x2, x3, y0⟩ := h
  have h2 : Below N W (W.setCell ⟨b, o, none⟩ u) := (Below.refl _ _).setCell hb _
  have A := Box4.up ⟨x0, x1, x2, x3⟩ h2 hp
  exact ⟨h1.trans h2, A.1, A.2.1, A.2.2.1, A.2.2.2, (h2.cell (p := ⟨q, 0, none⟩) hq).trans y0⟩
def lastI (l : List Int) : Int := l.getD (l.length - 1) 0
theorem last_any (v : Value) (l : List Int) (w : World) (h : Sl IntE w w.heap.size v l) :
    Calls Try.prog 68 #[v] w fun e w' => e = .returned (.int .i64 (lastI l)) ∧ w = w' := by
  obtain ⟨A, c, rfl, hc, hm, hrow⟩ := h
  unfold maxLen at hm
  by_cases h0 : l.length = 0
  · have hl : l = [] := List.eq_nil_of_length_eq_zero h0
    subst hl
    go_enter Try.func68, Try.ntmps68
    go_wp2_with fail
    go_ret
    exact ⟨rfl, rfl⟩
  · obtain ⟨b, o, rfl, hbl, hcell⟩ := hrow.int (k := 0) (by omega)
    have hc0 := hcell (l.length - 1) (by omega)
    have g0 : ((l.length : Int) == 0) = false := by rw [beq_eq_false_iff_ne]; omega
    have hk : ((l.length : Int) - 1).toNat = l.length - 1 := by omega
    have hl : 0 ≤ (l.length : Int) - 1 := by omega
    obtain ⟨x, hx⟩ : ∃ x, l.getD (l.length - 1) 0 = x := ⟨_, rfl⟩
    have Hx := Lib.hid hx
    rw [hx] at hc0
    clear hcell hx
    go_enter Try.func68, Try.ntmps68
    go_wp2_with fail
    go_ret
    exact ⟨ret_int (by rw [lastI, Hx.out]), rfl⟩
theorem rideLength_any (v : Value) (a : GAuto) (xs : List GRule) (ls : List Int) (w : World) (h : RideV w w.heap.size v a xs ls) :
    Calls Try.prog 38 #[v] w fun e w' => e = .returned (.int .i64 (lastI ls)) ∧ Below w.heap.size w w' := by
  obtain ⟨vF, vN, vR, vL, vM, rfl, h1, h2, h3, h4, h5⟩ := h
  have H4 := Lib.hid h4
  obtain ⟨_, _, rfl, _⟩ := h1
  obtain ⟨_, _, rfl, _⟩ := h2
  obtain ⟨_, _, rfl, _⟩ := h3
  obtain ⟨_, _, rfl, _⟩ := h4
  obtain ⟨_, _, rfl, _⟩ := h5
  go_enter Try.func38, Try.ntmps38
  go_wp2_with fail
  refine (last_any _ ls _ ((H4.out.below ((Below.refl _ _).alloc (Nat.le_refl _) _)).le (by first | omega | (simp; done) | (simp; omega)))).mono ?_
  rintro e w' ⟨rfl, rfl⟩
  go_wp2_with fail
  go_ret
  exact ⟨rfl, (by repeat (first | exact Below.refl _ _ | (refine Below.alloc ?_ (by first | omega | (simp; done) | (simp; omega)) _) | refine below_drewN ?_ _ | refine Below.drew ?_))⟩
theorem Wk.set {C : Nat → Prop} {w : World} {b o : Nat} {v : Value} (h : ¬ C b) : Wk C w (w.setCell ⟨b, o, none⟩ v).drew :=
  ⟨rfl, rfl, rfl, by show w.heap.size ≤ (w.setCell ⟨b, o, none⟩ v).heap.size; simp, fun k hk => heap_setCell_other w ⟨b, o, none⟩ k v (fun e => h (by have e' : k = b := e; exact e' ▸ hk))⟩
def stepM (maps : List (List Int)) (s r : Nat) : Nat := ((maps.getD r []).getD s 0).toNat
def gramLen (xs : List GRule) : Int := match lens xs with | some ls => lastI ls | none => 0
theorem gramLen_of {xs : List GRule} {ls : List Int} (h : lens xs = some ls) : gramLen xs = lastI ls := by simp [gramLen, h]
theorem lastI_bounds {xs : List GRule} {ls : List Int} (h : lens xs = some ls) : 0 ≤ lastI ls ∧ lastI ls ≤ 1000000000000000 := by
  have hll := lens_length h
  unfold lastI
  by_cases h0 : xs.length = 0
  · have : ls = [] := List.eq_nil_of_length_eq_zero (by omega)
    subst this; simp
  · have := lens_pos' h (r := ls.length - 1) (by omega)
    omega
set_option maxRecDepth 100000 in
theorem l02Length_any (b o : Nat) (v : Value) (xs : List GRule) (ls : List Int) (w : World) (hl : lens xs = some ls) (hp : w.cell? ⟨b, o, none⟩ = some v) (hbl : b < w.heap.size) (h : Sl RuleE w w.heap.size v xs) (hsm : SmallL xs) (hn : xs.length ≤ 1099511627776) :
    Calls Try.prog 29 #[.pointer (some ⟨b, o, none⟩)] w fun e w' => e = .returned (.int .i64 (lastI ls)) ∧ Below w.heap.size w w' := by
  have Hsl := Lib.hid h
  have Hl := Lib.hid hl
  clear h hl
  go_enter Try.func29, Try.ntmps29
  go_wp2_with fail
  refine (l02Sizes_any _ _ _ _ _ hp hbl Hsl.out hsm hn).mono ?_
  rintro e w1 ⟨hb, (⟨ls', v1, h1, rfl, h2⟩ | ⟨h1, _⟩)⟩
  · have e1 : ls' = ls := by rw [Hl.out] at h1; injection h1 with h1; exact h1.symm
    subst e1
    have HB := Lib.hid hb
    have hsl := h2.sl
    obtain ⟨A, c, rfl, hc, hm, hrow⟩ := hsl
    unfold maxLen at hm
    clear h1 h2 hb
    by_cases h0 : ls'.length = 0
    · have hl : ls' = [] := List.eq_nil_of_length_eq_zero h0
      subst hl
      clear hrow
      go_wp2_with fail
      go_ret
      exact ⟨rfl, HB.out⟩
    · obtain ⟨b, o, rfl, hbl, hcell⟩ := hrow.int (k := 0) (by omega)
      have hc0 := hcell (ls'.length - 1) (by omega)
      have g0 : ((ls'.length : Int) == 0) = false := by rw [beq_eq_false_iff_ne]; omega
      have hk : ((ls'.length : Int) - 1).toNat = ls'.length - 1 := by omega
      have hl : 0 ≤ (ls'.length : Int) - 1 := by omega
      have hwr : IntKind.i64.wrap ((ls'.length : Int) - 1) = (ls'.length : Int) - 1 := IntWalk.i64_in _ (by omega)
      obtain ⟨x, hx⟩ : ∃ x, ls'.getD (ls'.length - 1) 0 = x := ⟨_, rfl⟩
      have Hx := Lib.hid hx
      rw [hx] at hc0
      clear hcell hx hrow
      go_wp2_with fail
      go_ret
      exact ⟨ret_int (by rw [lastI, Hx.out]), HB.out⟩
  · rw [Hl.out] at h1; cases h1
theorem But.up {b B : Nat} {w w1 w2 : World} (h : But b w w1) (hb : Below B w1 w2) (hB : w.heap.size ≤ B) : But b w w2 :=
  ⟨hb.os.trans h.os, hb.tape.trans h.tape, hb.output.trans h.output, Nat.le_trans h.size hb.size, fun k hk hne => (hb.block k (Nat.lt_of_lt_of_le hk hB)).trans (h.block k hk hne)⟩
theorem Boxed.but {b B : Nat} {w w' : World} {t : TypeId} {v : Value} (h : Boxed w B t v) (hb : But b w w') (hne : B ≠ b) : Boxed w' B t v := (hb.block B (Array.getElem?_eq_some_iff.1 h).1 hne).trans h
theorem OwnRules.but {b base : Nat} {w w' : World} {v : Value} {l : List GRule} (h : OwnRules w base v l) (hb : But b w w') (hne : b < base) : OwnRules w' base v l := by
  unfold OwnRules at *
  obtain ⟨h1, h2⟩ := h
  refine ⟨h1, ?_⟩
  rcases h2 with h2 | ⟨g, cap, cur, h3, h4, h5, r⟩
  · exact .inl h2
  · exact .inr ⟨g, cap, cur, h3, h4, (hb.block g (Array.getElem?_eq_some_iff.1 h5).1 (by omega)).trans h5, r⟩
theorem hkk {w w9 : World} {k g : Nat} {o : Obj} (hk : ∀ k o, w.heap[k]? = some o → k ≠ g → w9.heap[k]? = some o) (hne : k ≠ g) (h : w.heap[k]? = some o) : w9.heap[k]? = some o := hk k o h hne
def Blk (w : World) (b : Nat) (a : Array Value) (t : TypeId) : Prop := w.heap[b]? = some (.cells a t (0, 0))
section
variable {w w' : World} {b N : Nat} {a : Array Value} {t : TypeId}
theorem Blk.lt (h : Blk w b a t) : b < w.heap.size := (Array.getElem?_eq_some_iff.1 h).1
theorem Blk.up (h : Blk w b a t) (hb : Below w.heap.size w w') : Blk w' b a t := (hb.block b h.lt).trans h
theorem Blk.cell (h : Blk w b a t) {i : Nat} {v : Value} (hi : a[i]? = some v) : w.cell? ⟨b, i, none⟩ = some v := by
  rw [cell_of_row w b i a t (0, 0) h, hi]
theorem Blk.frozen (h : Blk w b a t) (i : Nat) : w.frozen? ⟨b, i, none⟩ = false := by
  simp [World.frozen?, show w.heap[b]? = _ from h]
theorem Blk.set (h : Blk w b a t) (i : Nat) (v : Value) : Blk (w.setCell ⟨b, i, none⟩ v) b (a.setIfInBounds i v) t := by
  obtain ⟨hlt, hk⟩ := Array.getElem?_eq_some_iff.1 h
  show (w.heap.modify b _)[b]? = _
  rw [Array.getElem?_eq_getElem (by rw [Array.size_modify]; exact hlt), Array.getElem_modify_self, hk]
  rfl
theorem Blk.other (h : Blk w b a t) {p : Addr} (hne : b ≠ p.block) (v : Value) : Blk (w.setCell p v) b a t := (Below.heap_setCell w p v b hne).trans h
theorem Blk.alloc (h : Blk w b a t) (o : Obj) : Blk (w.alloc o) b a t := (Below.heap_alloc w o b h.lt).trans h
theorem Blk.drew (h : Blk w b a t) : Blk w.drew b a t := h
theorem Blk.new (w : World) (a : Array Value) (t : TypeId) : Blk (w.alloc (.cells a t)) w.heap.size a t := heap_alloc_new w _
end
theorem Blk.but {w w' : World} {b c : Nat} {a : Array Value} {t : TypeId} (h : Blk w c a t) (hb : But b w w') (hne : c ≠ b) : Blk w' c a t := (hb.block c h.lt hne).trans h
theorem Below.up {w0 w w' : World} {N : Nat} (h : Below N w0 w) (hb : Below w.heap.size w w') (hN : N ≤ w0.heap.size) : Below N w0 w' := h.trans (hb.mono (Nat.le_trans hN h.size))
theorem Below.tr {w0 w w' : World} (h : Below w0.heap.size w0 w) (hb : Below w.heap.size w w') : Below w0.heap.size w0 w' := h.trans (hb.mono h.size)
section
variable {w w' : World} {b : Nat} {ks : List GRule} {r : GRule}
end
section
variable {w0 W : World} {base bm bx : Nat} {X : GRule} {ks K : List GRule} {v4 v6 : Value} {S : List Int}
end
section
variable {w w' : World} {b : Nat} {N : List Bool} {l : List Int}
end
theorem boxed_other {W : World} {B B' o : Nat} {t : TypeId} {v : Value} (h : Boxed W B t v) (hne : B ≠ B') (u : Value) : Boxed (W.setCell ⟨B', o, none⟩ u) B t v := (Below.heap_setCell _ _ _ _ hne).trans h
theorem own_same {base e s n : Nat} {w w' : World} {v : Value} {xs : List Value} (h : w.ownsRow base e s v n xs) (hb : ∀ g, v.ownBlock = some g → w'.heap[g]? = w.heap[g]?) : w'.ownsRow base e s v n xs := by
  obtain ⟨h1, h2⟩ := h
  refine ⟨h1, ?_⟩
  rcases h2 with h2 | ⟨g, cap, cur, h3, h4, h5, r⟩
  · exact .inl h2
  · exact .inr ⟨g, cap, cur, h3, h4, (hb g (by rw [h3]; rfl)).trans h5, r⟩
section
variable {w wx w' : World} {b M M' P : Nat} {S st : Int} {vF : Value} {F : List Int} {vN : Value} {k : Nat} {vs : List Value} {N : List (List Int)}
end
def FinR (k : Nat) (F : List Int) : Prop := ∀ i, i < F.length → 0 ≤ F.getD i 0 ∧ F.getD i 0 < k ∧ (0 < i → F.getD (i - 1) 0 < F.getD i 0)
theorem FinR.nil (k : Nat) : FinR k [] := fun i hi => absurd hi (by simp)
theorem FinR.more {k : Nat} {F : List Int} (h : FinR k F) : FinR (k + 1) F := fun i hi => by have := h i hi; omega
theorem FinR.push {k : Nat} {F : List Int} (h : FinR k F) : FinR (k + 1) (F ++ [(k : Int)]) := by
  intro i hi
  rw [List.length_append, List.length_singleton] at hi
  by_cases e : i < F.length
  · have e1 : (F ++ [(k : Int)]).getD i 0 = F.getD i 0 := by rw [List.getD_eq_getElem?_getD, List.getElem?_append_left e, ← List.getD_eq_getElem?_getD]
    have e2 : (F ++ [(k : Int)]).getD (i - 1) 0 = F.getD (i - 1) 0 := by rw [List.getD_eq_getElem?_getD, List.getElem?_append_left (by omega), ← List.getD_eq_getElem?_getD]
    rw [e1, e2]; have := h i e; omega
  · have ei : i = F.length := by omega
    have e1 : (F ++ [(k : Int)]).getD i 0 = k := by rw [List.getD_eq_getElem?_getD, List.getElem?_append_right (by omega), ei, Nat.sub_self]; rfl
    rw [e1]
    refine ⟨by omega, by omega, fun h0 => ?_⟩
    have e2 : (F ++ [(k : Int)]).getD (i - 1) 0 = F.getD (i - 1) 0 := by rw [List.getD_eq_getElem?_getD, List.getElem?_append_left (by omega), ← List.getD_eq_getElem?_getD]
    rw [e2]; exact (h (i - 1) (by omega)).2.1
def NxtR (S : Nat) (N : List (List Int)) : Prop := ∀ i, i < N.length → (N.getD i []).length = 4 ∧ ∀ d, d < 4 → 0 ≤ (N.getD i []).getD d 0 ∧ (N.getD i []).getD d 0 < S
theorem NxtR.nil (S : Nat) : NxtR S [] := fun i hi => absurd hi (by simp)
theorem NxtR.push {S : Nat} {N : List (List Int)} {L : List Int} (h : NxtR S N) (h1 : L.length = 4) (h2 : ∀ d, d < 4 → 0 ≤ L.getD d 0 ∧ L.getD d 0 < S) : NxtR S (N ++ [L]) := by
  intro i hi
  rw [List.length_append, List.length_singleton] at hi
  by_cases e : i < N.length
  · have e1 : (N ++ [L]).getD i [] = N.getD i [] := by rw [List.getD_eq_getElem?_getD, List.getElem?_append_left e, ← List.getD_eq_getElem?_getD]
    rw [e1]; exact h i e
  · have e1 : (N ++ [L]).getD i [] = L := by rw [List.getD_eq_getElem?_getD, List.getElem?_append_right (by omega), show i = N.length by omega, Nat.sub_self]; rfl
    rw [e1]; exact ⟨h1, h2⟩
theorem auto_made {S : Nat} {st : Nat} {F : List Int} {N : List (List Int)} (h1 : 1 ≤ S) (h2 : S ≤ 24) (h3 : st < S) (hF : FinR S F) (hN : NxtR S N) (hl : N.length = S) : autoOk ⟨S, st, F, N⟩ = true := by
  have e1 : inR (S : Int) 1 24 = true := by simp [inR]; omega
  have e2 : inR (st : Int) 0 ((S : Int) - 1) = true := by simp [inR]; omega
  have e3 : risesOk ((S : Int) - 1) F = true := allB_true fun i hi => by
    have := hF i hi
    by_cases h0 : i = 0
    · subst h0
      simp only [inR, Bool.and_eq_true, decide_eq_true_eq, Bool.or_eq_true, beq_self_eq_true, true_or, and_true]; omega
    · have h4 := this.2.2 (by omega)
      simp only [inR, Bool.and_eq_true, decide_eq_true_eq, Bool.or_eq_true]; omega
  have e4 : nextOk (S : Int) N = true := by
    rw [nextOk_of fun i hi => rowOk_yes (hN i hi).1 fun d hd => ?_]
    · simp [hl]
    · have := (hN i hi).2 d hd
      simp only [inR, Bool.and_eq_true, decide_eq_true_eq]; omega
  unfold autoOk
  simp [e1, e2, e3, e4]
def AutoS (w : World) (S : Nat → Prop) (v : Value) (a : GAuto) : Prop := ∃ vF vN, v = .agg #[.int .i64 a.states, .int .i64 a.start, vF, vN] ∧ SlS IntE w S vF a.finals ∧ SlS (SliceE IntE) w S vN a.next
theorem AutoS.keep {w w' : World} {S : Nat → Prop} {v : Value} {a : GAuto} (h : AutoS w S v a) (hk : Keep S w w') : AutoS w' S v a := by
  obtain ⟨vF, vN, e, h1, h2⟩ := h
  exact ⟨vF, vN, e, h1.keep hk, h2.keep hk⟩
theorem AutoS.more {w : World} {S S' : Nat → Prop} {v : Value} {a : GAuto} (h : AutoS w S v a) (hk : ∀ b, S b → S' b) : AutoS w S' v a := by
  obtain ⟨vF, vN, e, h1, h2⟩ := h
  exact ⟨vF, vN, e, h1.more hk, h2.more hk⟩
theorem AutoS.v {w : World} {B : Nat} {v : Value} {a : GAuto} (h : AutoS w (· < B) v a) : AutoV w B v a := h
theorem cover_mem {xs : List GRule} {ls : List Int} (hl : lens xs = some ls) {i j : Int} : ∀ (f r : Nat) (p : Int), r < f → r < xs.length → ∀ x ∈ coverR xs ls i j f r p, x < xs.length := by
  intro f
  induction f with
  | zero => intro r p hr; omega
  | succ f ih =>
    intro r p hr hx y hy
    rw [coverR] at hy
    have h1 := lens_pos' hl hx
    split at hy
    · simp at hy
    split at hy
    · simp at hy; omega
    rename_i c1 c2
    cases hpair : (getR xs r).pair with
    | false => have := lens_letter hl hx hpair; omega
    | true =>
      obtain ⟨q1, q2, q3, q4, q5⟩ := lens_pair hl hx hpair
      rcases List.mem_append.1 hy with hy | hy
      · exact ih _ _ (by omega) (by omega) y hy
      · exact ih _ _ (by omega) (by omega) y hy
theorem pieces_mem {xs : List GRule} {ls : List Int} (hl : lens xs = some ls) (i j : Int) : ∀ x ∈ piecesL xs ls i j, x < xs.length := by
  unfold piecesL
  split
  · rename_i h
    exact cover_mem hl xs.length (xs.length - 1) 0 (by omega) (by omega)
  · simp
theorem l00Min_any (a b : Int) (w : World) : Calls Try.prog 60 #[.int .i64 a, .int .i64 b] w fun e w' => e = .returned (.int .i64 (min a b)) ∧ w = w' := by
  by_cases h : a < b
  · have e : min a b = a := by omega
    rw [e]
    go_enter Try.func60, Try.ntmps60
    go_wp2
    go_ret
    exact ⟨rfl, rfl⟩
  · have e : min a b = b := by omega
    rw [e]
    go_enter Try.func60, Try.ntmps60
    go_wp2
    go_ret
    exact ⟨rfl, rfl⟩
def endsB (p w : ByteArray) (n : Nat) : Bool := (w.extract (w.size - n) w.size).toList == (p.extract 0 n).toList
def fitB (p w : ByteArray) : Nat → Nat
  | 0 => 0
  | n + 1 => if endsB p w (n + 1) then n + 1 else fitB p w n
theorem endsB_zero (p w : ByteArray) : endsB p w 0 = true := by
  unfold endsB
  rw [beq_iff_eq]
  have e1 : w.extract (w.size - 0) w.size = ByteArray.empty := by
    apply ByteArray.ext
    simp
  have e2 : p.extract 0 0 = ByteArray.empty := by
    apply ByteArray.ext
    simp
  rw [e1, e2]
theorem fitB_le (p w : ByteArray) : ∀ n, fitB p w n ≤ n := by
  intro n
  induction n with
  | zero => exact Nat.le_refl _
  | succ n ih => rw [fitB]; split <;> omega
set_option maxRecDepth 100000 in
theorem hasSuffix0_any (s t : ByteArray) (w : World) (hs : s.size ≤ 9223372036854775807) (ht : t.size ≤ 9223372036854775807) :
    Calls Try.prog 111 #[.string s, .string t] w fun e w' => e = .returned (.bool (decide (t.size ≤ s.size) && ((s.extract (s.size - t.size) s.size).toList == t.toList))) ∧ w = w' := by
  go_enter Try.func111, Try.ntmps111
  by_cases h : t.size ≤ s.size
  · have hI : (t.size : Int) ≤ (s.size : Int) := by omega
    have hw1 : IntKind.i64.wrap ((s.size : Int) - (t.size : Int)) = ((s.size - t.size : Nat) : Int) := by rw [IntWalk.i64_in _ (by omega)]; omega
    have d1 : decide ((t.size : Int) ≤ (s.size : Int)) = true := decide_eq_true hI
    have d2 : decide (t.size ≤ s.size) = true := decide_eq_true h
    rw [d2]
    go_wp2
    go_ret
    exact ⟨by simp, rfl⟩
  · have hI : ¬ (t.size : Int) ≤ (s.size : Int) := by omega
    have d1 : decide ((t.size : Int) ≤ (s.size : Int)) = false := decide_eq_false hI
    have d2 : decide (t.size ≤ s.size) = false := decide_eq_false h
    rw [d2]
    go_wp2
    go_ret
    exact ⟨by simp, rfl⟩
set_option maxRecDepth 100000 in
theorem hasSuffix_any (s t : ByteArray) (w : World) (hs : s.size ≤ 9223372036854775807) (ht : t.size ≤ 9223372036854775807) :
    Calls Try.prog 100 #[.string s, .string t] w fun e w' => e = .returned (.bool (decide (t.size ≤ s.size) && ((s.extract (s.size - t.size) s.size).toList == t.toList))) ∧ w = w' := by
  have HC := Lib.hid (hasSuffix0_any s t w hs ht)
  go_enter Try.func100, Try.ntmps100
  go_wp2_with fail
  refine HC.out.mono ?_
  rintro e w1 ⟨rfl, rfl⟩
  go_wp2_with fail
  go_ret
  exact ⟨rfl, rfl⟩
theorem fitB_pos (p w : ByteArray) {k : Nat} (h : 0 < k) : fitB p w k = if endsB p w k then k else fitB p w (k - 1) := by
  obtain ⟨n, rfl⟩ : ∃ n, k = n + 1 := ⟨k - 1, by omega⟩
  rfl
set_option maxRecDepth 100000 in
theorem l04Fit_any (p s : ByteArray) (w : World) (hp : p.size ≤ 1000) (hs : s.size ≤ 1000) :
    Calls Try.prog 72 #[.string p, .string s] w fun e w' => e = .returned (.int .i64 (fitB p s (min p.size s.size) : Nat)) ∧ Below w.heap.size w w' := by
  have hm : min (p.size : Int) (s.size : Int) = ((min p.size s.size : Nat) : Int) := by omega
  obtain ⟨M, hM⟩ : ∃ M, min p.size s.size = M := ⟨_, rfl⟩
  have hMp : M ≤ p.size := by omega
  have hMs : M ≤ s.size := by omega
  rw [hM] at hm ⊢
  have Hm := Lib.hid hm
  clear hm hM
  go_enter Try.func72, Try.ntmps72
  go_wp2_with fail
  refine (l00Min_any _ _ _).mono ?_
  rintro e w1 ⟨rfl, rfl⟩
  rw [Hm.out]
  go_wp2_with fail
  go_loopw [5] (fun n wx => ∃ k : Nat, k ≤ M ∧ n = .int .i64 k ∧ Hid (fitB p s M = fitB p s k) ∧ Below w.heap.size w wx) (fun n _ => (intOf n).toNat)
  case atStart => exact ⟨M, Nat.le_refl _, rfl, rfl, Below.refl _ _⟩
  case round =>
    obtain ⟨k, hk, rfl, HF, hb⟩ := hrel
    by_cases h0 : 0 < k
    · have h0I : (0 : Int) < (k : Int) := by omega
      have hks : ((s.size - k : Nat) : Int) ≤ (s.size : Int) := by omega
      have hkp : (k : Int) ≤ (p.size : Int) := by omega
      have hw1 : IntKind.i64.wrap ((s.size : Int) - (k : Int)) = ((s.size - k : Nat) : Int) := by rw [IntWalk.i64_in _ (by omega)]; omega
      have hw2 : IntKind.i64.wrap ((k : Int) - 1) = ((k - 1 : Nat) : Int) := by rw [IntWalk.i64_in _ (by omega)]; omega
      have hf := fitB_pos p s h0
      cases hE : endsB p s k with
      | true =>
        rw [hE, if_pos rfl] at hf
        have Hf := Lib.hid hf
        have hE2 := hE
        unfold endsB at hE2
        clear hf hE
        go_wp2_with fail
        go_quiet (fail)
        go_wp2_with fail
        go_ret
        exact ⟨by rw [HF.out, Hf.out]; rfl, below_drewN hb _⟩
      | false =>
        rw [hE, if_neg (by simp)] at hf
        have Hf := Lib.hid hf
        have hE2 := hE
        unfold endsB at hE2
        clear hf hE
        go_wp2_with fail
        go_quiet (fail)
        go_wp2_with fail
        go_roundw
        case rel => exact ⟨k - 1, by omega, rfl, by rw [← Hf.out]; exact HF, below_drewN hb _⟩
        case measure => simp [intOf]; omega
    · have h0I : ¬ (0 : Int) < (k : Int) := by omega
      have hk0 : k = 0 := by omega
      subst hk0
      go_wp2_with fail
      go_ret
      exact ⟨by rw [HF.out]; rfl, hb⟩
def letB (p : ByteArray) (n d : Nat) : ByteArray := p.extract 0 n ++ ⟨#[UInt8.ofNat (97 + d)]⟩
theorem suffix_is (p s : ByteArray) {m : Nat} (h : m ≤ p.size) (h2 : m ≤ s.size) : (decide ((p.extract 0 m).size ≤ s.size) && ((s.extract (s.size - (p.extract 0 m).size) s.size).toList == (p.extract 0 m).toList)) = endsB p s m := by
  have e : (p.extract 0 m).size = m := by rw [ByteArray.size_extract]; omega
  rw [e, decide_eq_true h2, Bool.true_and]; rfl
theorem letB_size (p : ByteArray) {n : Nat} (d : Nat) (h : n ≤ p.size) : (letB p n d).size = n + 1 := by
  unfold letB
  rw [ByteArray.size_append, ByteArray.size_extract]
  show min n p.size - 0 + 1 = n + 1
  omega
def fitN (p : ByteArray) (n d : Nat) : Nat := fitB p (letB p n d) (min p.size (n + 1))
def rowP (p : ByteArray) (n : Nat) : List Int := (List.range 4).map fun d => (fitN p n d : Int)
def patA (p : ByteArray) : GAuto := ⟨(p.size : Int) + 1, 0, [(p.size : Int)], (List.range (p.size + 1)).map (rowP p)⟩
theorem rowP_len (p : ByteArray) (n : Nat) : (rowP p n).length = 4 := by simp [rowP]
theorem rowP_take (p : ByteArray) (n : Nat) {d : Nat} (h : d < 4) : (rowP p n).take (d + 1) = (rowP p n).take d ++ [(fitN p n d : Int)] := by
  rw [List.take_add_one, rowP, List.getElem?_map, List.getElem?_range h]; rfl
theorem patA_ok {p : ByteArray} (h : p.size ≤ 20) : autoOk (patA p) = true := by
  refine auto_made (S := p.size + 1) (st := 0) (F := [(p.size : Int)]) (by omega) (by omega) (by omega) ?_ ?_ (by simp)
  · intro i hi
    have : i = 0 := by simp at hi; exact hi
    subst this
    exact ⟨by show (0 : Int) ≤ (p.size : Int); omega, by show (p.size : Int) < ((p.size + 1 : Nat) : Int); omega, fun h => absurd h (by omega)⟩
  · intro i hi
    have hi2 : i < p.size + 1 := by simpa using hi
    have e : ((List.range (p.size + 1)).map (rowP p)).getD i [] = rowP p i := by rw [List.getD_eq_getElem?_getD, List.getElem?_map, List.getElem?_range hi2]; rfl
    rw [e]
    refine ⟨rowP_len p i, fun d hd => ?_⟩
    have e2 : (rowP p i).getD d 0 = (fitN p i d : Int) := by rw [rowP, List.getD_eq_getElem?_getD, List.getElem?_map, List.getElem?_range hd]; rfl
    rw [e2]
    have := fitB_le p (letB p i d) (min p.size (i + 1))
    unfold fitN
    omega
structure PaSt (w wx : World) (F P : Nat) (n : Nat) (vN : Value) (k : Nat) (vs : List Value) (N : List (List Int)) : Prop where
  low : Below w.heap.size w wx
  b0 : Blk wx w.heap.size #[.int .i64 0, .int .i64 0, .slice none 0 0, .slice none 0 0] 56
  hF : w.heap.size < F
  hP : F < P
  fin : Blk wx F #[.int .i64 (n : Int)] 2
  box : Blk wx P #[.int .i64 ((n : Int) + 1), .int .i64 0, .slice (some ⟨F, 0, none⟩) 1 1, vN] 56
  nx : wx.ownsRow (P + 1) 34 1 vN k vs
  ea : Each IntE wx (fun b => P + 1 ≤ b ∧ b < wx.heap.size ∧ some b ≠ vN.ownBlock) vs N
section
variable {w wx w' : World} {F P n : Nat} {vN : Value} {k : Nat} {vs : List Value} {N : List (List Int)}
theorem PaSt.up (h : PaSt w wx F P n vN k vs N) (hb : Below wx.heap.size wx w') : PaSt w w' F P n vN k vs N :=
  ⟨Below.tr h.low hb, h.b0.up hb, h.hF, h.hP, h.fin.up hb, h.box.up hb, ownsRow_below h.nx hb,
    (h.ea.keep fun j hj => hb.block j hj.2.1).more fun _ hj => ⟨hj.1, Nat.lt_of_lt_of_le hj.2.1 hb.size, hj.2.2⟩⟩
theorem PaSt.grN (h : PaSt w wx F P n vN k vs N) {o : Obj} (hg : (wx.alloc o).grownBy w' vN.ownBlock) : Blk w' P #[.int .i64 ((n : Int) + 1), .int .i64 0, .slice (some ⟨F, 0, none⟩) 1 1, vN] 56 :=
  (hg.block P (Nat.lt_of_lt_of_le h.box.lt (by simp)) (fun e => by have := (World.ownsRow.lt h.nx P e.symm).1; omega)).trans ((Below.heap_alloc wx o P h.box.lt).trans h.box)
theorem PaSt.pushN (h : PaSt w wx F P n vN k vs N) {B : Nat} {rowv v' : Value} {L : List Int} (hrow : OwnInts wx B rowv L) (hB : P + 1 ≤ B) (hBN : ∀ g, vN.ownBlock = some g → g < B)
    {o : Obj} (hg : (wx.alloc o).grownBy w' vN.ownBlock) (hv : v'.ownBlock = vN.ownBlock ∨ v'.ownBlock = some (wx.heap.size + 1)) (own : w'.ownsRow (P + 1) 34 1 v' (k + 1) (vs ++ [rowv])) :
    PaSt w (w'.setCell ⟨P, 3, none⟩ v') F P n v' (k + 1) (vs ++ [rowv]) (N ++ [L]) := by
  have hP := h.hP
  have hF := h.hF
  have hz : wx.heap.size < w'.heap.size := Nat.lt_of_lt_of_le (by simp) hg.size
  have hNlow : ∀ g, vN.ownBlock = some g → P + 1 ≤ g := fun g hg => (World.ownsRow.lt h.nx g hg).1
  have hk1 : ∀ j, j < wx.heap.size → some j ≠ vN.ownBlock → w'.heap[j]? = wx.heap[j]? := fun j hj hne => (hg.block j (Nat.lt_of_lt_of_le hj (by simp)) hne).trans (Below.heap_alloc wx o j hj)
  have hk2 : ∀ j, j ≠ P → (w'.setCell ⟨P, 3, none⟩ v').heap[j]? = w'.heap[j]? := fun j hj => Below.heap_setCell w' ⟨P, 3, none⟩ v' j hj
  have hb2 : Below w.heap.size wx (w'.setCell ⟨P, 3, none⟩ v') := by
    have h1 : Below w.heap.size wx w' := ((Below.refl w.heap.size wx).alloc (by have := h.box.lt; omega) o).grown hg (by have := h.box.lt; simp; omega) (fun g hgg => by have := hNlow g hgg; omega)
    exact h1.setCell (p := ⟨P, 3, none⟩) (by show w.heap.size ≤ P; omega) _
  have hsz : (w'.setCell ⟨P, 3, none⟩ v').heap.size = w'.heap.size := by simp
  have hne0 : ∀ j, j < wx.heap.size → some j ≠ vN.ownBlock → some j ≠ v'.ownBlock := fun j hj hne e => by
    rcases hv with hv | hv
    · exact hne (e.trans hv)
    · rw [hv] at e; have := Option.some.inj e; omega
  refine ⟨h.low.trans hb2, (hk2 _ (by omega)).trans ((hk1 _ h.b0.lt (fun e => by have := hNlow _ e.symm; omega)).trans h.b0), hF, hP,
    (hk2 _ (by omega)).trans ((hk1 _ h.fin.lt (fun e => by have := hNlow _ e.symm; omega)).trans h.fin), ?_, ?_, ?_⟩
  · have hbx : Blk w' P #[.int .i64 ((n : Int) + 1), .int .i64 0, .slice (some ⟨F, 0, none⟩) 1 1, vN] 56 := (hk1 P h.box.lt (fun e => by have := hNlow _ e.symm; omega)).trans h.box
    exact hbx.set 3 v'
  · exact own_same own fun g hgg => hk2 g (by have := (World.ownsRow.lt own g hgg).1; omega)
  · refine Each.snoc ?_ ?_
    · exact (h.ea.keep fun j hj => (hk2 j (by omega)).trans (hk1 j hj.2.1 hj.2.2)).more fun j hj => ⟨hj.1, by rw [hsz]; omega, hne0 j hj.2.1 hj.2.2⟩
    · have h1 : OwnInts (w'.setCell ⟨P, 3, none⟩ v') B rowv L := own_same hrow fun g hgg => (hk2 g (by have := (World.ownsRow.lt hrow g hgg).1; omega)).trans (hk1 g (World.ownsRow.lt hrow g hgg).2 (fun e => by
        have h1 := hBN g e.symm; have h2 := (World.ownsRow.lt hrow g hgg).1; omega))
      refine h1.slS fun g hgg => ?_
      have h2 := World.ownsRow.lt hrow g hgg
      exact ⟨by omega, by rw [hsz]; omega, hne0 g h2.2 (fun e => by have h1 := hBN g e.symm; omega)⟩
theorem PaSt.cells (h : PaSt w wx F P n vN k vs N) : wx.cell? ⟨P, 0, none⟩ = some (.int .i64 ((n : Int) + 1)) ∧ wx.cell? ⟨P, 1, none⟩ = some (.int .i64 0) ∧ wx.cell? ⟨P, 2, none⟩ = some (.slice (some ⟨F, 0, none⟩) 1 1) ∧ wx.cell? ⟨P, 3, none⟩ = some vN ∧ P < wx.heap.size ∧ ∀ i, wx.frozen? ⟨P, i, none⟩ = false :=
  ⟨h.box.cell rfl, h.box.cell rfl, h.box.cell rfl, h.box.cell rfl, h.box.lt, h.box.frozen⟩
def PatPost (p : ByteArray) (w : World) (r : Ending) (w' : World) : Prop := ∃ v, r = .returned v ∧ AutoS w' (fun g => w.heap.size < g ∧ g < w'.heap.size) v (patA p) ∧ Below w.heap.size w w'
theorem PaSt.done {p : ByteArray} (h : PaSt w wx F P p.size vN (p.size + 1) vs ((List.range (p.size + 1)).map (rowP p))) :
    PatPost p w (.returned (.agg #[.int .i64 ((p.size : Int) + 1), .int .i64 0, .slice (some ⟨F, 0, none⟩) 1 1, vN])) ((((wx.setCell ⟨w.heap.size, 0, none⟩ (.int .i64 ((p.size : Int) + 1))).setCell ⟨w.heap.size, 1, none⟩ (.int .i64 0)).setCell ⟨w.heap.size, 2, none⟩ (.slice (some ⟨F, 0, none⟩) 1 1)).setCell ⟨w.heap.size, 3, none⟩ vN) := by
  have hP := h.hP
  have hF := h.hF
  have hF0 : SlS IntE wx (fun g => g = F) (.slice (some ⟨F, 0, none⟩) 1 1) [(p.size : Int)] := by
    refine ⟨some ⟨F, 0, none⟩, 1, by simp, by simp, by unfold maxLen; decide, fun _ => ⟨F, 0, rfl, rfl, fun k x hx => ⟨[.int .i64 x], rfl, fun j u hu => ?_⟩⟩⟩
    match k, hx with
    | 0, hx =>
      match j, hu with
      | 0, hu =>
        cases hx
        cases hu
        exact h.fin.cell rfl
  have hF1 : SlS IntE wx (fun g => w.heap.size < g ∧ g < wx.heap.size) (.slice (some ⟨F, 0, none⟩) 1 1) [(p.size : Int)] := hF0.more fun g hg => by subst hg; exact ⟨hF, h.fin.lt⟩
  have hN1 : SlS (SliceE IntE) wx (fun g => w.heap.size < g ∧ g < wx.heap.size) vN ((List.range (p.size + 1)).map (rowP p)) := by
    refine Each.sl (base := P + 1) (e := 34) (vs := vs) (h.ea.more fun _ h => ⟨by have := h.1; omega, h.2.1⟩) ?_ fun g hg => ⟨by have := (World.ownsRow.lt h.nx g hg).1; omega, (World.ownsRow.lt h.nx g hg).2⟩
    rw [List.length_map, List.length_range]; exact h.nx
  have hW : Below w.heap.size wx ((((wx.setCell ⟨w.heap.size, 0, none⟩ (.int .i64 ((p.size : Int) + 1))).setCell ⟨w.heap.size, 1, none⟩ (.int .i64 0)).setCell ⟨w.heap.size, 2, none⟩ (.slice (some ⟨F, 0, none⟩) 1 1)).setCell ⟨w.heap.size, 3, none⟩ vN) :=
    ((((Below.refl _ _).setCell (p := ⟨w.heap.size, 0, none⟩) (Nat.le_refl _) _).setCell (p := ⟨w.heap.size, 1, none⟩) (Nat.le_refl _) _).setCell (p := ⟨w.heap.size, 2, none⟩) (Nat.le_refl _) _).setCell (p := ⟨w.heap.size, 3, none⟩) (Nat.le_refl _) _
  refine ⟨_, rfl, ⟨_, _, rfl, ?_, ?_⟩, h.low.trans hW⟩
  · exact ((((hF1.keep (Keep.of_set2 (by omega) _)).keep (Keep.of_set2 (by omega) _)).keep (Keep.of_set2 (by omega) _)).keep (Keep.of_set2 (by omega) _)).more fun g hg => ⟨by omega, by simp [World.setCell]; exact hg.2⟩
  · exact ((((hN1.keep (Keep.of_set2 (by omega) _)).keep (Keep.of_set2 (by omega) _)).keep (Keep.of_set2 (by omega) _)).keep (Keep.of_set2 (by omega) _)).more fun g hg => ⟨by omega, by simp [World.setCell]; exact hg.2⟩
end
end Go.Proofs.Ytfkijaamfmpboaa
namespace Go.Proofs
open Go.Shelf
end Go.Proofs
namespace Go.Proofs.Ytfkijaamfmpboaa
open Go.RowKit
def wordR (xs : List GRule) : Nat → Nat → List UInt8
  | 0, _ => []
  | f + 1, r => if (getR xs r).pair then wordR xs f (getR xs r).left.toNat ++ wordR xs f (getR xs r).right.toNat else (getR xs r).letter.data.toList
def W1 (xs : List GRule) (r : Nat) : List UInt8 := wordR xs (r + 1) r
def wordG (xs : List GRule) : List UInt8 := if xs = [] then [] else W1 xs (xs.length - 1)
def cutL {α : Type} (l : List α) (i j : Int) : List α := (l.take j.toNat).drop i.toNat
theorem wordR_fuel {xs : List GRule} {ls : List Int} (h : lens xs = some ls) : ∀ (f r : Nat), r < f → r < xs.length → wordR xs f r = W1 xs r := by
  intro f
  induction f using Nat.strongRecOn with
  | _ f ih =>
    intro r hr hx
    obtain ⟨g, rfl⟩ : ∃ g, f = g + 1 := ⟨f - 1, by omega⟩
    unfold W1
    rw [wordR, wordR]
    cases hp : (getR xs r).pair with
    | false => rfl
    | true =>
      obtain ⟨q1, q2, q3, q4, q5⟩ := lens_pair h hx hp
      rw [if_pos rfl, if_pos rfl, ih g (by omega) _ (by omega) (by omega), ih g (by omega) _ (by omega) (by omega)]
      by_cases e : r = g
      · subst e
        rw [ih r (by omega) _ (by omega) (by omega), ih r (by omega) _ (by omega) (by omega)]
      · rw [ih r (by omega) _ q2 (by omega), ih r (by omega) _ q4 (by omega)]
theorem W1_pair {xs : List GRule} {ls : List Int} (h : lens xs = some ls) {r : Nat} (hx : r < xs.length) (hp : (getR xs r).pair = true) : W1 xs r = W1 xs (getR xs r).left.toNat ++ W1 xs (getR xs r).right.toNat := by
  obtain ⟨q1, q2, q3, q4, q5⟩ := lens_pair h hx hp
  rw [W1, wordR, if_pos hp, wordR_fuel h r _ q2 (by omega), wordR_fuel h r _ q4 (by omega)]
theorem W1_let {xs : List GRule} {r : Nat} (hp : (getR xs r).pair = false) : W1 xs r = (getR xs r).letter.data.toList := by
  rw [W1, wordR, if_neg (by simp [hp])]
theorem lens_isLet {xs : List GRule} {ls : List Int} (h : lens xs = some ls) {r : Nat} (hx : r < xs.length) (hp : (getR xs r).pair = false) : isLet (getR xs r).letter = true := by
  have h1 := (lens_steps h r _ (getR_at hx)).1
  unfold okRule at h1
  rw [if_neg (by simp [hp])] at h1
  simp at h1; exact h1.1.1
theorem isLet_size {s : ByteArray} (h : isLet s = true) : s.size = 1 := by unfold isLet at h; simp at h; exact h.1.1
theorem W1_len {xs : List GRule} {ls : List Int} (h : lens xs = some ls) : ∀ (r : Nat), r < xs.length → ((W1 xs r).length : Int) = ls.getD r 0 := by
  intro r
  induction r using Nat.strongRecOn with
  | _ r ih =>
    intro hx
    cases hp : (getR xs r).pair with
    | false =>
      rw [W1_let hp, lens_letter h hx hp]
      have := isLet_size (lens_isLet h hx hp)
      show (((getR xs r).letter.data.toList.length : Nat) : Int) = 1
      rw [Array.length_toList]
      exact congrArg _ this
    | true =>
      obtain ⟨q1, q2, q3, q4, q5⟩ := lens_pair h hx hp
      rw [W1_pair h hx hp, List.length_append, q5, ← ih _ q2 (by omega), ← ih _ q4 (by omega)]
      omega
theorem cutL_append {α : Type} (a b : List α) (i j : Int) : cutL (a ++ b) i j = cutL a i j ++ cutL b (i - a.length) (j - a.length) := by
  unfold cutL
  rw [List.take_append, List.drop_append]
  have e1 : (j - (a.length : Int)).toNat = j.toNat - a.length := by omega
  have e2 : (i - (a.length : Int)).toNat = i.toNat - a.length := by omega
  rw [e1, e2, List.length_take]
  congr 1
  by_cases hj : j.toNat ≤ a.length
  · have : List.take (j.toNat - a.length) b = [] := by rw [show j.toNat - a.length = 0 by omega]; rfl
    rw [this]; simp
  · rw [show min j.toNat a.length = a.length by omega]
theorem cutL_nil {α : Type} {l : List α} {i j : Int} (h : (l.length : Int) ≤ i ∨ j ≤ 0 ∨ j ≤ i) : cutL l i j = [] := by
  unfold cutL
  apply List.drop_eq_nil_of_le
  rw [List.length_take]; omega
theorem cutL_all {α : Type} {l : List α} {i j : Int} (hi : i ≤ 0) (hj : (l.length : Int) ≤ j) : cutL l i j = l := by
  unfold cutL
  rw [show i.toNat = 0 by omega, List.drop_zero, List.take_of_length_le (by omega)]
theorem cover_word {xs : List GRule} {ls : List Int} (h : lens xs = some ls) {i j : Int} : ∀ (f r : Nat) (p : Int), r < f → r < xs.length →
    (coverR xs ls i j f r p).flatMap (W1 xs) = cutL (W1 xs r) (i - p) (j - p) := by
  intro f
  induction f with
  | zero => intro r p hr; omega
  | succ f ih =>
    intro r p hr hx
    have hw := W1_len h r hx
    have h1 := lens_pos' h hx
    rw [coverR]
    split
    · rename_i c; rw [cutL_nil (by omega)]; rfl
    split
    · rename_i c; rw [cutL_all (by omega) (by omega)]; simp
    rename_i c1 c2
    cases hp : (getR xs r).pair with
    | false => have := lens_letter h hx hp; omega
    | true =>
      obtain ⟨q1, q2, q3, q4, q5⟩ := lens_pair h hx hp
      rw [List.flatMap_append, ih _ _ (by omega) (by omega), ih _ _ (by omega) (by omega), W1_pair h hx hp, cutL_append, W1_len h _ (by omega)]
      congr 2 <;> omega
theorem wordG_pos {xs : List GRule} (h : 0 < xs.length) : wordG xs = W1 xs (xs.length - 1) := by
  rw [wordG, if_neg (by intro e; subst e; simp at h)]
theorem lastI_at {xs : List GRule} {ls : List Int} (h : lens xs = some ls) (_h0 : 0 < xs.length) : lastI ls = ls.getD (xs.length - 1) 0 := by
  rw [lastI, lens_length h]
theorem wordG_len {xs : List GRule} {ls : List Int} (h : lens xs = some ls) : ((wordG xs).length : Int) = lastI ls := by
  by_cases h0 : 0 < xs.length
  · rw [wordG_pos h0, W1_len h _ (by omega), lastI_at h h0]
  · have hx : xs = [] := List.eq_nil_of_length_eq_zero (by omega)
    subst hx
    have : ls = [] := List.eq_nil_of_length_eq_zero (by rw [lens_length h]; rfl)
    subst this; rfl
theorem pieces_word {xs : List GRule} {ls : List Int} (h : lens xs = some ls) {i j : Int} : (piecesL xs ls i j).flatMap (W1 xs) = cutL (wordG xs) i j := by
  unfold piecesL
  split
  · rename_i c
    rw [cover_word h _ _ _ (by omega) (by omega), wordG_pos c.1, Int.sub_zero, Int.sub_zero]
  · rename_i c
    by_cases h0 : 0 < xs.length
    · rw [cutL_nil (by omega)]; rfl
    · have hx : xs = [] := List.eq_nil_of_length_eq_zero (by omega)
      subst hx
      simp [wordG, cutL]
def Box7 (w : World) (b : Nat) (c0 c1 c2 c3 c4 c5 c6 : Value) : Prop := w.cell? ⟨b, 0, none⟩ = some c0 ∧ w.cell? ⟨b, 1, none⟩ = some c1 ∧ w.cell? ⟨b, 2, none⟩ = some c2 ∧ w.cell? ⟨b, 3, none⟩ = some c3 ∧ w.cell? ⟨b, 4, none⟩ = some c4 ∧ w.cell? ⟨b, 5, none⟩ = some c5 ∧ w.cell? ⟨b, 6, none⟩ = some c6
theorem Box7.up {w w' : World} {b N : Nat} {c0 c1 c2 c3 c4 c5 c6 : Value} (h : Box7 w b c0 c1 c2 c3 c4 c5 c6) (hb : Below N w w') (hlt : b < N) : Box7 w' b c0 c1 c2 c3 c4 c5 c6 := by
  obtain ⟨h0, h1, h2, h3, h4, h5, h6⟩ := h
  have k : ∀ {o : Nat} {v : Value}, w.cell? ⟨b, o, none⟩ = some v → w'.cell? ⟨b, o, none⟩ = some v := fun {o v} hc => (hb.cell (p := ⟨b, o, none⟩) hlt).trans hc
  exact ⟨k h0, k h1, k h2, k h3, k h4, k h5, k h6⟩
theorem Box7.new {w w' : World} {c0 c1 c2 c3 c4 c5 c6 : Value} {t : TypeId} (hb : Below (w.alloc (.cells #[c0, c1, c2, c3, c4, c5, c6] t)).heap.size (w.alloc (.cells #[c0, c1, c2, c3, c4, c5, c6] t)) w') : Box7 w' w.heap.size c0 c1 c2 c3 c4 c5 c6 :=
  Box7.up (w := w.alloc (.cells #[c0, c1, c2, c3, c4, c5, c6] t)) ⟨by simp [go_sem], by simp [go_sem], by simp [go_sem], by simp [go_sem], by simp [go_sem], by simp [go_sem], by simp [go_sem]⟩ hb (by simp)
section
variable {α : Type} {E : Enc α} {w w1 w2 : World} {o : Obj} {v : Value} {xs : List α}
end
theorem autoOk_start {a : GAuto} (h : autoOk a = true) : 0 ≤ a.start ∧ a.start < a.next.length := by
  have h1 := (autoOk_get h).2.2.1
  unfold autoOk at h
  simp only [Bool.and_eq_true] at h
  have h2 := h.1.1.2
  simp only [inR, Bool.and_eq_true, decide_eq_true_eq] at h2
  omega
end Go.Proofs.Ytfkijaamfmpboaa
namespace Go.Proofs
open Go.Shelf
end Go.Proofs
namespace Go.Proofs.Ytfkijaamfmpboaa
open Go.RowKit
end Go.Proofs.Ytfkijaamfmpboaa
namespace Go.Proofs
open Go.Shelf
end Go.Proofs
namespace Go.Proofs.Ytfkijaamfmpboaa
open Go.RowKit
section
variable {xs : List GRule} {vR : Value} {bg bs b B : Nat}
end
theorem size_any (s : ByteArray) (w : World) : Calls Try.prog 40 #[.string s] w fun r w' => r = .returned (.int .i64 s.size) ∧ w' = w := by
  go_enter Try.func40, Try.ntmps40
  go_wp2
  go_ret
  exact ⟨rfl, rfl⟩
end Go.Proofs.Ytfkijaamfmpboaa
namespace Go.Proofs
open Go.Shelf Go.RowKit
end Go.Proofs
namespace Go.Proofs.Ytfkijaamfmpboaa
open Go.RowKit
theorem convOne (x : Nat) (hx : x < 256) (W : World) (b : Nat) (h : W.cell? ⟨b, 0, none⟩ = some (.int .u8 (x : Int))) :
    (convert 41 9 (.slice (some ⟨b, 0, none⟩) 1 1)).run Try.prog W = .ok (.string ⟨#[UInt8.ofNat x]⟩) W :=
  run_convert_bytes_back (P := Try.prog) W 41 9 5 ⟨b, 0, none⟩ 1 [UInt8.ofNat x] Try.underlying41 Try.underlying5 Try.underlying9 (fun j hj => by
    have : j = 0 := by simp at hj; omega
    subst this
    have e : ((UInt8.ofNat x).toNat : Int) = x := by rw [UInt8.toNat_ofNat']; omega
    simp only [List.getElem_cons_zero, e]
    simpa [Addr.add] using h)
set_option maxRecDepth 100000 in
set_option maxHeartbeats 8000000 in
theorem patternAuto_any (p : ByteArray) (w : World) (hp : p.size ≤ 20) : Calls Try.prog 76 #[.string p] w (PatPost p w) := by
  go_enter Try.func76, Try.ntmps76
  go_wp2_with fail
  have ka : Below w.heap.size w (w.alloc (Obj.cells #[.int .i64 0, .int .i64 0, .slice none 0 0, .slice none 0 0] 56)) := (Below.refl _ _).alloc (Nat.le_refl _) _
  have kb : Blk (w.alloc (Obj.cells #[.int .i64 0, .int .i64 0, .slice none 0 0, .slice none 0 0] 56)) w.heap.size #[.int .i64 0, .int .i64 0, .slice none 0 0, .slice none 0 0] 56 := Blk.new _ _ _
  have kz : (w.alloc (Obj.cells #[.int .i64 0, .int .i64 0, .slice none 0 0, .slice none 0 0] 56)).heap.size = w.heap.size + 1 := by simp
  generalize w.alloc (Obj.cells #[.int .i64 0, .int .i64 0, .slice none 0 0, .slice none 0 0] 56) = w1 at *
  refine (size_any p _).mono ?_
  rintro r w2 ⟨rfl, rfl⟩
  have hwn : IntKind.i64.wrap ((p.size : Int) + 1) = (p.size : Int) + 1 := IntWalk.i64_in _ (by omega)
  have hkz := Lib.hid kz
  clear kz
  go_upto_region 3 with fail
  have kc := (Below.refl w2.heap.size w2).alloc (Nat.le_refl _) (Obj.cells #[.int .i64 (p.size : Int)] 2)
  have kd := kc.alloc (by simp) (Obj.cells #[.int .i64 ((p.size : Int) + 1), .int .i64 0, .slice (some ⟨w2.heap.size, 0, none⟩) 1 1, .slice none 0 0] 56)
  have H0 : PaSt w ((w2.alloc (Obj.cells #[.int .i64 (p.size : Int)] 2)).alloc (Obj.cells #[.int .i64 ((p.size : Int) + 1), .int .i64 0, .slice (some ⟨w2.heap.size, 0, none⟩) 1 1, .slice none 0 0] 56)) w2.heap.size (w2.heap.size + 1) p.size (.slice none 0 0) 0 [] [] :=
    ⟨Below.tr ka kd, kb.up kd, by have := hkz.out; omega, by omega, (Blk.new w2 _ _).up ((Below.refl _ _).alloc (Nat.le_refl _) _), by have := Blk.new (w2.alloc (Obj.cells #[.int .i64 (p.size : Int)] 2)) #[.int .i64 ((p.size : Int) + 1), .int .i64 0, .slice (some ⟨w2.heap.size, 0, none⟩) 1 1, .slice none 0 0] 56; simpa using this, World.ownsRow_nil _ _ _ _, Each.nil⟩
  obtain ⟨F, hF⟩ : ∃ F, w2.heap.size = F := ⟨_, rfl⟩
  rw [hF] at H0
  rw [hF]
  obtain ⟨P, hP⟩ : ∃ P, F + 1 = P := ⟨_, rfl⟩
  rw [hP] at H0
  try rw [hP]
  have H0h := Lib.hid H0
  generalize ((w2.alloc (Obj.cells #[.int .i64 (p.size : Int)] 2)).alloc (Obj.cells #[.int .i64 ((p.size : Int) + 1), .int .i64 0, .slice (some ⟨F, 0, none⟩) 1 1, .slice none 0 0] 56)) = w3 at *
  clear kc kd ka kb hkz H0 hF hP
  go_wp2_with fail
  go_loopw [19] (fun i wx => ∃ (k : Nat) (vN : Value) (vs : List Value), k ≤ p.size + 1 ∧ i = .int .i64 k ∧ PaSt w wx F P p.size vN k vs ((List.range k).map (rowP p))) (fun i _ => p.size + 1 - (intOf i).toNat)
  case atStart => exact ⟨0, _, [], Nat.zero_le _, rfl, H0h.out⟩
  case round =>
    obtain ⟨k, vN, vs, hk, rfl, hA⟩ := hrel
    have HA := Lib.hid hA
    obtain ⟨wo, rfl⟩ : ∃ wo : World, wo = wr := ⟨_, rfl⟩
    obtain ⟨c0, c1, c2, c3, zP, fP⟩ := hA.cells
    clear hA
    by_cases hkn : k < p.size + 1
    · have hkn2 : (k : Int) < (p.size : Int) + 1 := by omega
      clear c0 c1 c2 c3
      go_wp2_with fail
      have ka := (Below.refl wo.heap.size wo).alloc (Nat.le_refl _) (Obj.cells #[] 2)
      go_loopw [6, 7] (fun row c wi => ∃ d : Nat, d ≤ 4 ∧ c = .int .u8 (97 + (d : Int)) ∧ OwnInts wi wo.heap.size row ((rowP p k).take d) ∧ Below wo.heap.size wo wi) (fun _ c _ => 101 - (intOf c).toNat)
      case atStart => exact ⟨0, by omega, rfl, OwnInts.empty rfl (Nat.le_refl _), ka⟩
      case round =>
        obtain ⟨d, hd, rfl, hrow, hbm⟩ := hrel
        obtain ⟨wm, rfl⟩ : ∃ wm : World, wm = wr := ⟨_, rfl⟩
        have HBm := Lib.hid hbm
        obtain ⟨Lr, hLr⟩ : ∃ Lr, (rowP p k).take d = Lr := ⟨_, rfl⟩
        rw [hLr] at hrow
        have HLl := Lib.hid (show Lr.length = d by rw [← hLr, List.length_take, rowP_len]; omega)
        have HLr := Lib.hid hLr
        clear hLr
        obtain ⟨Ar, cr, rfl, _⟩ := own_nil hrow
        have HR := Lib.hid hrow
        have hzm := hbm.size
        clear hbm hrow ka
        by_cases hd4 : d < 4
        · have hd42 : 97 + (d : Int) ≤ 100 := by omega
          obtain ⟨c, hc⟩ : ∃ c, UInt8.ofNat (97 + d) = c := ⟨_, rfl⟩
          have hcv : ∀ W : World, (convert 41 9 (.slice (some ⟨W.heap.size, 0, none⟩) 1 1)).run Try.prog (W.alloc (.cells #[.int .u8 (97 + (d : Int))] 5)) = .ok (.string ⟨#[c]⟩) (W.alloc (.cells #[.int .u8 (97 + (d : Int))] 5)) := fun W => by rw [← hc]; exact convOne (97 + d) (by omega) _ _ (by simp [go_sem])
          have hcv2 : ∀ W : World, (convert 41 9 (.slice (some ⟨W.heap.size, 0, none⟩) 1 1)).run Try.prog (W.alloc (.cells #[.int .u8 (97 + (d : Int))] 5)).drew = .ok (.string ⟨#[c]⟩) (W.alloc (.cells #[.int .u8 (97 + (d : Int))] 5)).drew := fun W => by rw [← hc]; exact convOne (97 + d) (by omega) _ _ (by show (W.alloc (.cells #[.int .u8 (97 + (d : Int))] 5)).cell? _ = _; simp [go_sem])
          obtain ⟨s, hs⟩ : ∃ s, letB p k d = s := ⟨_, rfl⟩
          have hs2 : p.extract 0 k ++ ⟨#[c]⟩ = s := by rw [← hs, ← hc]; rfl
          have Hs2 := Lib.hid hs2
          clear hs2 hc
          have hkp : (k : Int) ≤ (p.size : Int) := by omega
          have hmin : min (p.size : Int) ((k : Int) + 1) = ((min p.size (k + 1) : Nat) : Int) := by omega
          have hfit : fitN p k d = fitB p (letB p k d) (min p.size (k + 1)) := rfl
          have hsz := letB_size p d (n := k) (by omega)
          rw [hs] at hfit hsz
          have htk := rowP_take p k hd4
          rw [hfit, HLr.out] at htk
          have HTK := Lib.hid htk
          obtain ⟨M, hM⟩ : ∃ M, min p.size (k + 1) = M := ⟨_, rfl⟩
          have hMp : M ≤ p.size := by omega
          have hMs : M ≤ k + 1 := by omega
          rw [hM] at hmin HTK
          have hwk : IntKind.i64.wrap ((k : Int) + 1) = (k : Int) + 1 := IntWalk.i64_in _ (by omega)
          clear hfit htk hM hs
          go_wp2_with fail
          go_region
          rw [Hs2.out]
          have HB5 := Lib.hid (HBm.out.alloc hzm (Obj.cells #[.int .u8 (97 + (d : Int))] 5)).drew
          have HR5 := Lib.hid (show OwnInts (wm.alloc (Obj.cells #[.int .u8 (97 + (d : Int))] 5)).drew wo.heap.size _ _ from ownsRow_below HR.out ((Below.refl wm.heap.size wm).alloc (Nat.le_refl _) (Obj.cells #[.int .u8 (97 + (d : Int))] 5)).drew)
          generalize (wm.alloc (Obj.cells #[.int .u8 (97 + (d : Int))] 5)).drew = w5 at HB5 HR5 ⊢
          have hz5 := HB5.out.size
          have hL9 : Lr.length ≤ 1099511627776 := by have := HLl.out; omega
          have hw8 : IntKind.u8.wrap (97 + (d : Int) + 1) = 97 + ((d : Int) + 1) := by rw [IntWalk.u8_in _ (by omega)]; omega
          clear hcv hcv2 hkp hmin hwk HR HBm Hs2 hzm
          go_wp2_with fail
          go_loopw [9] (fun t wx => ∃ m : Nat, m ≤ M ∧ t = .int .i64 m ∧ Hid (fitB p s M = fitB p s m) ∧ wx = w5) (fun t _ => (intOf t).toNat)
          case atStart => exact ⟨M, Nat.le_refl _, rfl, rfl, rfl⟩
          case round =>
            obtain ⟨m, hm, rfl, HF, rfl⟩ := hrel
            have hmp : (m : Int) ≤ (p.size : Int) := by omega
            go_wp2_with fail
            refine (hasSuffix_any s (p.extract 0 m) _ (by omega) (by rw [ByteArray.size_extract]; omega)).mono ?_
            rintro r w6 ⟨rfl, rfl⟩
            rw [suffix_is p s (by omega) (by omega)]
            cases hE : endsB p s m with
            | true =>
              have hfin : fitB p s m = m := by
                rcases Nat.eq_zero_or_pos m with h | h
                · subst h; rfl
                · rw [fitB_pos p s h, hE, if_pos rfl]
              have hy : (rowP p k).take (d + 1) = Lr ++ [(m : Int)] := by rw [HTK.out, HF.out, hfin]
              have HY := Lib.hid hy
              clear hfin hy hE
              go_wp2_with (first | (at_builtin; refine push_ints (base := wo.heap.size) (v := .slice Ar Lr.length cr) (l := Lr) (y := (m : Int)) rfl _ _ rfl rfl rfl rfl HR5.out hL9 hz5 ?_; intro v6 w6 own6 hg6 hb6))
              go_roundw
              case rel => exact ⟨d + 1, by omega, by go_num, by rw [HY.out]; exact own6, HB5.out.trans hb6⟩
              case measure => simp [intOf]; omega
            | false =>
              have hm0 : 0 < m := by
                rcases Nat.eq_zero_or_pos m with h | h
                · subst h; rw [endsB_zero] at hE; exact absurd hE (by simp)
                · exact h
              have hf := fitB_pos p s hm0
              rw [hE, if_neg (by simp)] at hf
              have Hf := Lib.hid hf
              have hw2 : IntKind.i64.wrap ((m : Int) - 1) = ((m - 1 : Nat) : Int) := by rw [IntWalk.i64_in _ (by omega)]; omega
              clear hf hE
              go_wp2_with fail
              go_roundw
              case rel => exact ⟨m - 1, by omega, rfl, by rw [← Hf.out]; exact HF, trivial⟩
              case measure => simp [intOf]; omega
        · have hd5 : d = 4 := by omega
          subst hd5
          have ht4 : (rowP p k).take 4 = rowP p k := List.take_of_length_le (by rw [rowP_len]; omega)
          have hLe : Lr = rowP p k := by rw [← HLr.out, ht4]
          have HA6 := Lib.hid (HA.out.up HBm.out)
          obtain ⟨e1, e2, e3, e4, zP6, fP2⟩ := HA6.out.cells
          obtain ⟨AN, cN, rfl, _⟩ := own_nil HA6.out.nx
          have hk9 : k ≤ 1099511627776 := by omega
          have hPz : P + 1 ≤ wm.heap.size := zP6
          have hbN : ∀ g, (Value.slice AN k cN).ownBlock = some g → g < wo.heap.size := fun g hg => (World.ownsRow.lt HA.out.nx g hg).2
          have HbN := Lib.hid hbN
          have hkr : (List.range (k + 1)).map (rowP p) = (List.range k).map (rowP p) ++ [rowP p k] := by rw [List.range_succ, List.map_append]; rfl
          have HKR := Lib.hid hkr
          have hwk : IntKind.i64.wrap ((k : Int) + 1) = (k : Int) + 1 := IntWalk.i64_in _ (by omega)
          rw [← hLe] at HKR
          clear e1 e2 e3 hbN ht4 hkr hLe
          go_wp2_with (first | (at_builtin; refine push_sl (W := wm) (N := wm.heap.size) (base := P + 1) rfl _ _ rfl rfl rfl rfl rfl HA6.out.nx hk9 hPz ?_; intro v7 w7 own7 hg7 hv7'; have hv7 := Lib.hid hv7'; clear hv7'; obtain ⟨A7, c7, rfl, _⟩ := own_nil own7; have hbx7 := HA6.out.grN hg7; have cP7 := Blk.cell (i := 3) (v := .slice AN k cN) hbx7 rfl; have fP7 := Blk.frozen hbx7 3; have zP7 := Blk.lt hbx7))
          have HA7 := Lib.hid (HA6.out.pushN HR.out (Nat.succ_le_of_lt zP) HbN.out hg7 hv7.out own7)
          rw [← HKR.out] at HA7
          clear hbx7 cP7 fP7 zP7 hg7 hv7 own7
          generalize w7.setCell ⟨P, 3, none⟩ (.slice A7 (k + 1) c7) = w8 at *
          go_roundw
          case rel => exact ⟨k + 1, _, _, by omega, by go_num, HA7.out⟩
          case measure => simp [intOf]; omega
    · have hkk : k = p.size + 1 := by omega
      subst hkk
      have cb0 := Blk.cell (i := 0) (v := .int .i64 0) HA.out.b0 rfl
      have cb1 := Blk.cell (i := 1) (v := .int .i64 0) HA.out.b0 rfl
      have cb2 := Blk.cell (i := 2) (v := .slice none 0 0) HA.out.b0 rfl
      have cb3 := Blk.cell (i := 3) (v := .slice none 0 0) HA.out.b0 rfl
      have fb := Blk.frozen HA.out.b0
      have zb := Blk.lt HA.out.b0
      obtain ⟨AN, cN, rfl, _⟩ := own_nil HA.out.nx
      clear fP
      go_wp2_with fail
      refine bodyPost_ret (v := .agg #[.int .i64 ((p.size : Int) + 1), .int .i64 0, .slice (some ⟨F, 0, none⟩) 1 1, .slice AN (p.size + 1) cN]) (by simp [results, Try.results76, go_sem, cb0, cb1, cb2, cb3]) rfl ?_
      exact HA.out.done
end Go.Proofs.Ytfkijaamfmpboaa
