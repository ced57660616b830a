import Derived.Test.YtfapnipmgmpgaaaM5
import Derived.Test.YtfapnipmgmpgaaaM3
import Derived.Test.YtfapnipmgmpgaaaM2
import Derived.Test.YtfapnipmgmpgaaaM4
import Derived.Test.YtfapnipmgmpgaaaRows
import Derived.WalkKit
import Derived.ProofKit
import Derived.Below
import Derived.ChangeSame
import Derived.Lib.SmallJoins
import Derived.Carry
import Derived.WideKeyArgs
import Derived.OpenShut
import Derived.Test.YtfapnipmgmpgaaaM1
import Derived.Deep.Slices
import Derived.Deep.Fields
namespace Go.Proofs.Ytfapnipmgmpgaaa
open Go.RowKit

theorem pas_bad {e f : GEdit} {first : Bool} {c : Int} (h : pasCode e f first = c) (hc : c ≠ 0) : pasOut e f first = [] ∧ pasCode e f first = c := ⟨by unfold pasOut; rw [if_neg (by omega)], h⟩
theorem pass_sm {e f : GEdit} {first : Bool} (h : SmallL e.part) : ∀ x ∈ passE e f first, SmallL x.part := by
  have hn : SmallL [] := fun r hr => by cases hr
  unfold passE remE
  repeat' split
  all_goals
    simp [insE, delE]
    try (first | exact h | exact hn | exact ⟨hn, hn⟩)
set_option maxRecDepth 100000 in
set_option maxHeartbeats 4000000 in
theorem specPassEdit_any (vE vF : Value) (e f : GEdit) (first : Bool) (w : World) (hE : EditV w w.heap.size vE e) (hF : EditV w w.heap.size vF f) (hn : e.part.length ≤ 1048576) (hn2 : f.part.length ≤ 1048576) (hsmE : SmallL e.part) (hsmF : SmallL f.part) (hm : e.map.size ≤ maxLen) (hm2 : f.map.size ≤ maxLen) :
    Calls Try.prog 13 #[vE, vF, .bool first] w (ERes (pasOut e f first) (pasCode e f first) w) := by
  obtain ⟨vR, rfl, hR⟩ := hE
  obtain ⟨vQ, rfl, hQ⟩ := hF
  have HSE := Lib.hid hR
  have HSF := Lib.hid hQ
  obtain ⟨AE, cE, rfl, _⟩ := hR
  obtain ⟨AF, cF, rfl, _⟩ := hQ
  have b1 := (Below.refl w.heap.size w).alloc (Nat.le_refl _) (.cells (editCells e (.slice AE e.part.length cE)) 34)
  have b2 := b1.alloc b1.size (.cells (editCells f (.slice AF f.part.length cF)) 34)
  have KE : Blk ((w.alloc (.cells (editCells e (.slice AE e.part.length cE)) 34)).alloc (.cells (editCells f (.slice AF f.part.length cF)) 34)) w.heap.size (editCells e (.slice AE e.part.length cE)) 34 := (Blk.new w _ _).alloc _
  have KF : Blk ((w.alloc (.cells (editCells e (.slice AE e.part.length cE)) 34)).alloc (.cells (editCells f (.slice AF f.part.length cF)) 34)) (w.heap.size + 1) (editCells f (.slice AF f.part.length cF)) 34 := by
    have := (Blk.new (w.alloc (.cells (editCells e (.slice AE e.part.length cE)) 34)) (editCells f (.slice AF f.part.length cF)) 34)
    simpa [Blk] using this
  go_enter Try.func13, Try.ntmps13
  unfold editCells at b2 KE KF
  go_upto_region 1 with fail
  generalize ((w.alloc (.cells #[.int .i64 e.kind, .int .i64 e.i, .int .i64 e.j, .int .i64 e.k, .slice AE e.part.length cE, .string e.map] 34)).alloc (.cells #[.int .i64 f.kind, .int .i64 f.i, .int .i64 f.j, .int .i64 f.k, .slice AF f.part.length cF, .string f.map] 34)) = w0 at *
  have KB := Lib.hid b2
  clear b1 b2
  go_wp2_with fail
  refine (l07Ok_any w.heap.size _ e _ (EC.at_ (EC.of KE) (HSE.out.up KB.out)) hsmE (by omega) hm).mono ?_
  rintro e w1 ⟨rfl, hb_1⟩
  have z_w1 : w0.heap.size ≤ w1.heap.size := hb_1.size
  have KB_2 := Lib.hid (Below.tr KB.out hb_1)
  have KE_3 := Blk.up KE hb_1
  have KF_4 := Blk.up KF hb_1
  clear KB KE KF
  cases he : editOk e with
  | false =>
    have HX := Lib.hid (pas_bad (e := e) (f := f) (first := first) (c := 1) (by simp [pasCode, he]) (by decide))
    clear he
    go_wp2_with fail
    refine bodyPost_ret (v := .tuple #[.slice (some ⟨w1.heap.size, 0, none⟩) 0 0, .int .i64 1]) (by simp [results, Try.results13, go_sem]) rfl ?_
    rw [HX.out.1, HX.out.2]
    exact ERes.mk1 (lo := w1.heap.size) (Below.alloc KB_2.out (Below.size KB_2.out) _) (oeds_empty rfl (Nat.le_refl _)) (Below.size KB_2.out)
  | true =>
    have HEO := Lib.hid he
    clear he
    go_wp2_with fail
    refine (l07Ok_any (w.heap.size + 1) _ f _ (EC.at_ (EC.of KF_4) (HSF.out.up KB_2.out)) hsmF (by omega) hm2).mono ?_
    rintro e w2 ⟨rfl, hb_5⟩
    have z_w2 : w1.heap.size ≤ w2.heap.size := hb_5.size
    have KB_6 := Lib.hid (Below.tr KB_2.out hb_5)
    have KE_7 := Blk.up KE_3 hb_5
    have KF_8 := Blk.up KF_4 hb_5
    clear hb_1 KB_2 KE_3 KF_4
    cases hf : editOk f with
    | false =>
      have HX := Lib.hid (pas_bad (e := e) (f := f) (first := first) (c := 1) (by simp [pasCode, hf]) (by decide))
      clear hf
      go_wp2_with fail
      refine bodyPost_ret (v := .tuple #[.slice (some ⟨w2.heap.size, 0, none⟩) 0 0, .int .i64 1]) (by simp [results, Try.results13, go_sem]) rfl ?_
      rw [HX.out.1, HX.out.2]
      exact ERes.mk1 (lo := w2.heap.size) (Below.alloc KB_6.out (Below.size KB_6.out) _) (oeds_empty rfl (Nat.le_refl _)) (Below.size KB_6.out)
    | true =>
      have HFO := Lib.hid hf
      clear hf
      go_wp2_with fail
      refine (l07Simple_any w.heap.size _ e _ (EC.of KE_7)).mono ?_
      rintro e w3 ⟨rfl, hb_9⟩
      have z_w3 : w2.heap.size ≤ w3.heap.size := hb_9.size
      have KB_10 := Lib.hid (Below.tr KB_6.out hb_9)
      have KE_11 := Blk.up KE_7 hb_9
      have KF_12 := Blk.up KF_8 hb_9
      clear hb_5 KB_6 KE_7 KF_8
      cases se : simE e with
      | false =>
        have HX := Lib.hid (pas_bad (e := e) (f := f) (first := first) (c := 2) (by simp [pasCode, se, HEO.out, HFO.out]) (by decide))
        clear se
        go_wp2_with fail
        refine bodyPost_ret (v := .tuple #[.slice (some ⟨w3.heap.size, 0, none⟩) 0 0, .int .i64 2]) (by simp [results, Try.results13, go_sem]) rfl ?_
        rw [HX.out.1, HX.out.2]
        exact ERes.mk1 (lo := w3.heap.size) (Below.alloc KB_10.out (Below.size KB_10.out) _) (oeds_empty rfl (Nat.le_refl _)) (Below.size KB_10.out)
      | true =>
        have HSIE := Lib.hid se
        clear se
        go_wp2_with fail
        refine (l07Simple_any (w.heap.size + 1) _ f _ (EC.of KF_12)).mono ?_
        rintro e w4 ⟨rfl, hb_13⟩
        have z_w4 : w3.heap.size ≤ w4.heap.size := hb_13.size
        have KB_14 := Lib.hid (Below.tr KB_10.out hb_13)
        have KE_15 := Blk.up KE_11 hb_13
        have KF_16 := Blk.up KF_12 hb_13
        clear hb_9 KB_10 KE_11 KF_12
        cases sf : simE f with
        | false =>
          have HX := Lib.hid (pas_bad (e := e) (f := f) (first := first) (c := 2) (by simp [pasCode, sf, HEO.out, HFO.out]) (by decide))
          clear sf
          go_wp2_with fail
          refine bodyPost_ret (v := .tuple #[.slice (some ⟨w4.heap.size, 0, none⟩) 0 0, .int .i64 2]) (by simp [results, Try.results13, go_sem]) rfl ?_
          rw [HX.out.1, HX.out.2]
          exact ERes.mk1 (lo := w4.heap.size) (Below.alloc KB_14.out (Below.size KB_14.out) _) (oeds_empty rfl (Nat.le_refl _)) (Below.size KB_14.out)
        | true =>
          have HSIF := Lib.hid sf
          clear sf
          go_wp2_with fail
          have hsz4 : w.heap.size ≤ w4.heap.size := Below.size KB_14.out
          refine (l07Pass_any w.heap.size (w.heap.size + 1) _ _ e f first _ (EC.of KE_15) (EC.of KF_16) (HSE.out.up KB_14.out) (HSF.out.up KB_14.out) HEO.out HFO.out HSIE.out HSIF.out).mono ?_
          rintro e w5 ⟨hb_17, v5, rfl, own5⟩
          have z_w5 : w4.heap.size ≤ w5.heap.size := hb_17.size
          have KB_18 := Lib.hid (Below.tr KB_14.out hb_17)
          have KE_19 := Blk.up KE_15 hb_17
          have KF_20 := Blk.up KF_16 hb_17
          clear hb_13 KB_14 KE_15 KF_16
          have HPC := Lib.hid (show pasCode e f first = if (passE e f first).all editOk then 0 else 3 by simp only [pasCode, HEO.out, HFO.out, HSIE.out, HSIF.out]; rfl)
          have hsz := Below.size KB_18.out
          have hsm2 := (pass_small (f := f) (first := first) HEO.out).2
          have hss2 := pass_sm (f := f) (first := first) hsmE
          obtain ⟨es, hes⟩ : ∃ es, passE e f first = es := ⟨_, rfl⟩
          have HPO := Lib.hid (show pasCode e f first = 0 → pasOut e f first = es by intro h; unfold pasOut; rw [if_pos h, hes])
          have HPC2 := Lib.hid (show pasCode e f first = if es.all editOk then 0 else 3 by rw [HPC.out, hes])
          rw [hes] at own5 hsm2 hss2
          have HSM := Lib.hid hsm2
          have HSS := Lib.hid hss2
          clear hes hsm2 hss2 HPC
          obtain ⟨A1, c1, rfl, hc1, hm1, _⟩ := OEds.sl own5
          unfold maxLen at hm1
          have HOE := Lib.hid own5
          clear own5
          go_wp2_with fail
          go_loopw [9] (fun i wx => ∃ (k : Nat), k ≤ es.length ∧ i = .int .i64 k ∧ (es.take k).all editOk = true ∧ Hid (Below w.heap.size w wx) ∧ Hid (OEds wx w4.heap.size w5.heap.size (.slice A1 es.length c1) es)) (fun i _ => es.length - (intOf i).toNat)
          case atStart => exact ⟨0, Nat.zero_le _, rfl, rfl, Lib.hid KB_18.out, HOE⟩
          case round =>
            obtain ⟨k, hk, rfl, hall, HB, HP⟩ := hrel
            have HALL := Lib.hid hall
            clear hall
            have hbz := HB.out.size
            by_cases hlt : k < es.length
            · obtain ⟨_, _, hAE, _, _, hrow⟩ := OEds.sl HP.out
              injection hAE with hA1 hA2 hA3
              subst hA1 hA3
              obtain ⟨b, o, rfl, hbl, hcell⟩ := hrow.edit (fun _ h => h) hlt
              obtain ⟨x, hx⟩ : ∃ x, es[k]? = some x := ⟨_, List.getElem?_eq_getElem hlt⟩
              obtain ⟨vX, hec, hRX⟩ := hcell k x hx
              have hmem := List.mem_of_getElem? hx
              have hsx := HSM.out x hmem
              have hss := HSS.out x hmem
              have htk : (es.take (k + 1)).all editOk = editOk x := by rw [List.take_add_one, hx]; simp [HALL.out]
              have HTK := Lib.hid htk
              have HXM := Lib.hid hmem
              have HEC := Lib.hid hec
              have HRR := Lib.hid hRX
              have hi : (k : Int) < (es.length : Int) := by omega
              clear hcell hx hmem htk hec hRX
              go_wp2_with fail
              refine (l07OkO_any b (o + k * 6) _ x _ ⟨HEC.out, HEC.out.lt, HRR.out⟩ hss (by omega) (by have := hsx.2; omega)).mono ?_
              rintro r w6 ⟨rfl, hb6⟩
              have HB6 := Lib.hid (Below.tr HB.out hb6)
              have HP6 := Lib.hid (OEds.up HP.out hb6)
              clear hb6
              cases hxo : editOk x with
              | false =>
                have hno : es.all editOk = false := by
                  rw [← Bool.not_eq_true]; intro h; have := List.all_eq_true.1 h x HXM.out; rw [hxo] at this; cases this
                have HX := Lib.hid (pas_bad (e := e) (f := f) (first := first) (c := 3) (by rw [HPC2.out, hno]; rfl) (by decide))
                clear hno hxo
                go_wp2_with fail
                refine bodyPost_ret (v := .tuple #[.slice (some ⟨w6.heap.size, 0, none⟩) 0 0, .int .i64 3]) (by simp [results, Try.results13, go_sem]) rfl ?_
                rw [HX.out.1, HX.out.2]
                exact ERes.mk1 (lo := w6.heap.size) (HB6.out.alloc HB6.out.size _) (oeds_empty rfl (Nat.le_refl _)) HB6.out.size
              | true =>
                have HTK2 := Lib.hid (show (es.take (k + 1)).all editOk = true by rw [HTK.out, hxo])
                clear hxo
                go_wp2_with fail
                go_roundw
                case rel => exact ⟨k + 1, by omega, by go_num, HTK2.out, HB6, HP6⟩
                case measure => simp [intOf]; omega
            · have hkn : k = es.length := by omega
              subst hkn
              have h0 : pasCode e f first = 0 := by have := HALL.out; rw [List.take_length] at this; rw [HPC2.out, this]; rfl
              have HX := Lib.hid (show pasOut e f first = es ∧ pasCode e f first = 0 from ⟨HPO.out h0, h0⟩)
              clear h0
              go_wp2_with fail
              refine bodyPost_ret (v := .tuple #[.slice A1 es.length c1, .int .i64 0]) (by simp [results, Try.results13, go_sem]) rfl ?_
              rw [HX.out.1, HX.out.2]
              exact ERes.mk1 (lo := w4.heap.size) HB.out HP.out hsz4
end Go.Proofs.Ytfapnipmgmpgaaa

namespace Go.Proofs.Ytfapnipmgmpgaaa
open Go.RowKit

theorem pas_small (e f : GEdit) (first : Bool) : (pasOut e f first).length ≤ 2 ∧ ∀ x ∈ pasOut e f first, x.part.length ≤ 400 := by
  unfold pasOut
  split
  · rename_i h
    have he : editOk e = true := by
      cases he : editOk e with
      | true => rfl
      | false => simp [pasCode, he] at h
    exact ⟨(pass_small he).1, fun x hx => ((pass_small he).2 x hx).1⟩
  · exact ⟨by simp, by simp⟩
set_option maxRecDepth 100000 in
set_option maxHeartbeats 4000000 in
theorem lawPass_any (v v' : Value) (e f : GEdit) (first : Bool) (w : World) (hE : EditV w w.heap.size v e) (hsmE : SmallL e.part) (hm : e.map.size ≤ maxLen) (hF : EditV w w.heap.size v' f) (hsmF : SmallL f.part) (hm2 : f.map.size ≤ maxLen) :
    Calls Try.prog 4 #[v, v', .bool first] w fun r w' => r = .returned (.bool true) ∧ Below w.heap.size w w' := by
  obtain ⟨vR, rfl, hR⟩ := hE
  obtain ⟨vQ, rfl, hQ⟩ := hF
  have HR := Lib.hid hR
  have HQ := Lib.hid hQ
  obtain ⟨AR, cR, rfl, _⟩ := hR
  obtain ⟨AQ, cQ, rfl, _⟩ := hQ
  go_enter Try.func4, Try.ntmps4
  go_wp2_with fail
  refine (szEdit_any _ e _ _ ⟨_, rfl, HR.out.up (by repeat (first | exact Below.refl _ _ | (refine Below.alloc ?_ (by first | omega | (simp; done) | (simp; omega)) _) | (refine Below.setCell ?_ (by first | exact Nat.le_refl _ | (show _ ≤ _; omega) | (simp; done) | (simp; omega)) _) | refine below_drewN ?_ _ | refine Below.drew ?_))⟩ hsmE hm (by omega)).mono ?_
  rintro e w1 ⟨rfl, hb_1⟩
  have Ky_2 : Blk w1 (w.heap.size + 1) #[.int .i64 f.kind, .int .i64 f.i, .int .i64 f.j, .int .i64 f.k, .slice AQ f.part.length cQ, .string f.map] 26 := by have := (Below.unalloc hb_1).2; simpa [Blk] using this
  replace hb_1 := (Below.unalloc hb_1).1
  have Kx_3 : Blk w1 (w.heap.size) #[.int .i64 e.kind, .int .i64 e.i, .int .i64 e.j, .int .i64 e.k, .slice AR e.part.length cR, .string e.map] 26 := by have := (Below.unalloc hb_1).2; simpa [Blk] using this
  replace hb_1 := (Below.unalloc hb_1).1
  have z_w1 : w.heap.size ≤ w1.heap.size := hb_1.size
  have KB_4 := Lib.hid hb_1
  have lx1 := Blk.lt Ky_2
  by_cases hneg : szE e 1048576 < 0
  · skip
    go_wp2_with fail
    go_ret
    exact ⟨rfl, KB_4.out⟩
  have hn2 : e.part.length ≤ 1048576 := szE_le2 (left := 1048576) (by omega) (by omega)
  have hle : szE e 1048576 ≤ 1048576 := (szE_le3 (e := e) (left := 1048576) (by omega)).1
  obtain ⟨X, hX⟩ : ∃ X, szE e 1048576 = X := ⟨_, rfl⟩
  rw [hX] at hneg hle ⊢
  clear hX
  have cx0_5 := Blk.cell (i := 0) (v := .int .i64 e.kind) Kx_3 rfl
  have cx1_6 := Blk.cell (i := 1) (v := .int .i64 e.i) Kx_3 rfl
  have cx2_7 := Blk.cell (i := 2) (v := .int .i64 e.j) Kx_3 rfl
  have cx3_8 := Blk.cell (i := 3) (v := .int .i64 e.k) Kx_3 rfl
  have cx4_9 := Blk.cell (i := 4) (v := .slice AR e.part.length cR) Kx_3 rfl
  have cx5_10 := Blk.cell (i := 5) (v := .string e.map) Kx_3 rfl
  have lx_11 := Blk.lt Kx_3
  have cy0_12 := Blk.cell (i := 0) (v := .int .i64 f.kind) Ky_2 rfl
  have cy1_13 := Blk.cell (i := 1) (v := .int .i64 f.i) Ky_2 rfl
  have cy2_14 := Blk.cell (i := 2) (v := .int .i64 f.j) Ky_2 rfl
  have cy3_15 := Blk.cell (i := 3) (v := .int .i64 f.k) Ky_2 rfl
  have cy4_16 := Blk.cell (i := 4) (v := .slice AQ f.part.length cQ) Ky_2 rfl
  have cy5_17 := Blk.cell (i := 5) (v := .string f.map) Ky_2 rfl
  have ly_18 := Blk.lt Ky_2
  go_wp2_with fail
  refine (szEdit_any _ f _ _ ⟨_, rfl, HQ.out.up KB_4.out⟩ hsmF hm2 (by omega)).mono ?_
  rintro e w2 ⟨rfl, hb_19⟩
  have z_w2 : w1.heap.size ≤ w2.heap.size := hb_19.size
  have Ky_20 := Blk.up Ky_2 hb_19
  have Kx_21 := Blk.up Kx_3 hb_19
  have KB_22 := Lib.hid (Below.tr KB_4.out hb_19)
  clear hb_1 cx0_5 cx1_6 cx2_7 cx3_8 cx4_9 cx5_10 lx_11 cy0_12 cy1_13 cy2_14 cy3_15 cy4_16 cy5_17 ly_18 Ky_2 Kx_3 KB_4
  by_cases hneg2 : szE f X < 0
  · skip
    go_wp2_with fail
    go_ret
    exact ⟨rfl, KB_22.out⟩
  have hn3 : f.part.length ≤ 1048576 := szE_le2 (left := X) (by omega) (by omega)
  have HN := Lib.hid hneg2
  obtain ⟨es, hes⟩ : ∃ es, pasOut e f first = es := ⟨_, rfl⟩
  have hsml := pas_small e f first
  rw [hes] at hsml
  have hml := markEnd_small es 1 hsml.2
  have hmk : markEnd 1 es ≤ 1099511627776 := by omega
  have hel : es.length ≤ 1099511627776 := by omega
  have HES := Lib.hid hes
  obtain ⟨cd, hcd⟩ : ∃ cd, pasCode e f first = cd := ⟨_, rfl⟩
  have HCD := Lib.hid hcd
  clear hneg hle hes hsml hml hcd
  clear hb_19
  have cx0_23 := Blk.cell (i := 0) (v := .int .i64 e.kind) Kx_21 rfl
  have cx1_24 := Blk.cell (i := 1) (v := .int .i64 e.i) Kx_21 rfl
  have cx2_25 := Blk.cell (i := 2) (v := .int .i64 e.j) Kx_21 rfl
  have cx3_26 := Blk.cell (i := 3) (v := .int .i64 e.k) Kx_21 rfl
  have cx4_27 := Blk.cell (i := 4) (v := .slice AR e.part.length cR) Kx_21 rfl
  have cx5_28 := Blk.cell (i := 5) (v := .string e.map) Kx_21 rfl
  have lx_29 := Blk.lt Kx_21
  have cy0_30 := Blk.cell (i := 0) (v := .int .i64 f.kind) Ky_20 rfl
  have cy1_31 := Blk.cell (i := 1) (v := .int .i64 f.i) Ky_20 rfl
  have cy2_32 := Blk.cell (i := 2) (v := .int .i64 f.j) Ky_20 rfl
  have cy3_33 := Blk.cell (i := 3) (v := .int .i64 f.k) Ky_20 rfl
  have cy4_34 := Blk.cell (i := 4) (v := .slice AQ f.part.length cQ) Ky_20 rfl
  have cy5_35 := Blk.cell (i := 5) (v := .string f.map) Ky_20 rfl
  have ly_36 := Blk.lt Ky_20
  go_wp2_with fail
  have KD := keep66 Kx_21 Ky_20 (Below.drew (Below.refl w2.heap.size w2))
  have HBS := Lib.hid KB_22.out
  have HKX := Lib.hid Kx_21
  have HKY := Lib.hid Ky_20
  go_region_held3 (fun w' => Below w2.heap.size w2 w' ∧ w'.cell? ⟨w.heap.size, 0, none⟩ = some (.int .i64 e.kind) ∧ w'.cell? ⟨w.heap.size, 1, none⟩ = some (.int .i64 e.i) ∧ w'.cell? ⟨w.heap.size, 2, none⟩ = some (.int .i64 e.j) ∧ w'.cell? ⟨w.heap.size, 3, none⟩ = some (.int .i64 e.k) ∧ w'.cell? ⟨w.heap.size, 4, none⟩ = some (.slice AR e.part.length cR) ∧ w'.cell? ⟨w.heap.size, 5, none⟩ = some (.string e.map) ∧ w'.cell? ⟨w.heap.size + 1, 0, none⟩ = some (.int .i64 f.kind) ∧ w'.cell? ⟨w.heap.size + 1, 1, none⟩ = some (.int .i64 f.i) ∧ w'.cell? ⟨w.heap.size + 1, 2, none⟩ = some (.int .i64 f.j) ∧ w'.cell? ⟨w.heap.size + 1, 3, none⟩ = some (.int .i64 f.k) ∧ w'.cell? ⟨w.heap.size + 1, 4, none⟩ = some (.slice AQ f.part.length cQ) ∧ w'.cell? ⟨w.heap.size + 1, 5, none⟩ = some (.string f.map))
    (first | (with_reducible exact KD) | (with_reducible exact keep66 HKX.out HKY.out b1) | (with_reducible exact keep66 HKX.out HKY.out b2) | (with_reducible exact keep66 HKX.out HKY.out b3))
    (first
      | ((fail_if_success (have hx1 := b1)); go_at_call 10; (refine (toEditO_any _ e _ ⟨_, rfl, HR.out.up (by repeat (first | exact HBS.out | (refine Below.alloc ?_ (by first | omega | (simp; done) | (simp; omega)) _) | (refine Below.setCell ?_ (by first | exact Nat.le_refl _ | (show _ ≤ _; omega) | (simp; done) | (simp; omega)) _) | refine below_drewN ?_ _ | refine Below.drew ?_))⟩ hn2).mono ?_); rintro r u1 ⟨v1, rfl, own1, hb1⟩; have b1 : Below w2.heap.size w2 u1 := Below.undrew hb1)
      | ((fail_if_success (have hx1 := b2)); go_at_call 10; (refine (toEditO_any _ f _ ⟨_, rfl, HQ.out.up (by repeat (first | exact Below.tr HBS.out b1 | (refine Below.alloc ?_ (by first | omega | (simp; done) | (simp; omega)) _) | (refine Below.setCell ?_ (by first | exact Nat.le_refl _ | (show _ ≤ _; omega) | (simp; done) | (simp; omega)) _) | refine below_drewN ?_ _ | refine Below.drew ?_))⟩ hn3).mono ?_); rintro r u2 ⟨v2, rfl, own2, hb2⟩; have b2 := Below.tr b1 hb2)
      | (go_at_call 13; (refine (specPassEdit_any _ _ e f first _ ⟨_, rfl, OwnRules.sl1 own1 (by repeat (first | exact hb2 | (refine Below.alloc ?_ (by first | omega | (simp; done) | (simp; omega)) _) | (refine Below.setCell ?_ (by first | exact Nat.le_refl _ | (show _ ≤ _; omega) | (simp; done) | (simp; omega)) _) | refine below_drewN ?_ _ | refine Below.drew ?_))⟩ ⟨_, rfl, OwnRules.sl1 own2 (by repeat (first | exact Below.refl _ _ | (refine Below.alloc ?_ (by first | omega | (simp; done) | (simp; omega)) _) | (refine Below.setCell ?_ (by first | exact Nat.le_refl _ | (show _ ≤ _; omega) | (simp; done) | (simp; omega)) _) | refine below_drewN ?_ _ | refine Below.drew ?_))⟩ hn2 hn3 hsmE hsmF hm hm2).mono ?_); rintro r u3 ⟨hb3, v3, rfl, own3⟩; have b3 := Below.tr b2 hb3))
  rw [HES.out] at own3
  have hbR := b3
  have KV := Lib.hid (OEds.sl own3)
  clear KD HBS HKX HKY b1 b2 b3 hb1 hb2 hb3 own1 own2 own3
  have hb_37 := hbR
  have z_u3 : w2.heap.size ≤ u3.heap.size := hb_37.size
  have Ky_38 := Blk.up Ky_20 hb_37
  have Kx_39 := Blk.up Kx_21 hb_37
  have KB_40 := Lib.hid (Below.tr KB_22.out hb_37)
  clear cx0_23 cx1_24 cx2_25 cx3_26 cx4_27 cx5_28 lx_29 cy0_30 cy1_31 cy2_32 cy3_33 cy4_34 cy5_35 ly_36 Ky_20 Kx_21 KB_22
  clear hneg2
  have KW := Lib.hid KV.out
  have cx0_41 := Blk.cell (i := 0) (v := .int .i64 e.kind) Kx_39 rfl
  have cx1_42 := Blk.cell (i := 1) (v := .int .i64 e.i) Kx_39 rfl
  have cx2_43 := Blk.cell (i := 2) (v := .int .i64 e.j) Kx_39 rfl
  have cx3_44 := Blk.cell (i := 3) (v := .int .i64 e.k) Kx_39 rfl
  have cx4_45 := Blk.cell (i := 4) (v := .slice AR e.part.length cR) Kx_39 rfl
  have cx5_46 := Blk.cell (i := 5) (v := .string e.map) Kx_39 rfl
  have lx_47 := Blk.lt Kx_39
  go_wp2_with fail
  refine (toEditO_any _ e _ ⟨_, rfl, HR.out.up (by repeat (first | exact KB_40.out | (refine Below.alloc ?_ (by first | omega | (simp; done) | (simp; omega)) _) | (refine Below.setCell ?_ (by first | exact Nat.le_refl _ | (show _ ≤ _; omega) | (simp; done) | (simp; omega)) _) | refine below_drewN ?_ _ | refine Below.drew ?_))⟩ hn2).mono ?_
  rintro e w5 ⟨vE, rfl, own5, hb_48⟩
  have z_w5 : u3.heap.size ≤ w5.heap.size := hb_48.size
  have Ky_49 := Blk.up Ky_38 hb_48
  have Kx_50 := Blk.up Kx_39 hb_48
  have KB_51 := Lib.hid (Below.tr KB_40.out hb_48)
  have KW_52 := Lib.hid (SlS.upN KW.out (by omega) hb_48)
  clear hb_37 cx0_41 cx1_42 cx2_43 cx3_44 cx4_45 cx5_46 lx_47 Ky_38 Kx_39 KB_40 KW
  obtain ⟨A5, c5, rfl, _⟩ := own_nil own5
  have KE := Lib.hid (OwnR.of own5)
  clear own5
  have cy0_53 := Blk.cell (i := 0) (v := .int .i64 f.kind) Ky_49 rfl
  have cy1_54 := Blk.cell (i := 1) (v := .int .i64 f.i) Ky_49 rfl
  have cy2_55 := Blk.cell (i := 2) (v := .int .i64 f.j) Ky_49 rfl
  have cy3_56 := Blk.cell (i := 3) (v := .int .i64 f.k) Ky_49 rfl
  have cy4_57 := Blk.cell (i := 4) (v := .slice AQ f.part.length cQ) Ky_49 rfl
  have cy5_58 := Blk.cell (i := 5) (v := .string f.map) Ky_49 rfl
  have ly_59 := Blk.lt Ky_49
  go_wp2_with fail
  refine (toEditO_any _ f _ ⟨_, rfl, HQ.out.up (by repeat (first | exact KB_51.out | (refine Below.alloc ?_ (by first | omega | (simp; done) | (simp; omega)) _) | (refine Below.setCell ?_ (by first | exact Nat.le_refl _ | (show _ ≤ _; omega) | (simp; done) | (simp; omega)) _) | refine below_drewN ?_ _ | refine Below.drew ?_))⟩ hn3).mono ?_
  rintro e w6 ⟨vF, rfl, own6, hb_60⟩
  have Kp_61 : Blk w6 (w5.heap.size) #[.int .i64 e.kind, .int .i64 e.i, .int .i64 e.j, .int .i64 e.k, .slice A5 e.part.length c5, .string e.map] 34 := by have := (Below.unalloc hb_60).2; simpa [Blk] using this
  replace hb_60 := (Below.unalloc hb_60).1
  have z_w6 : w5.heap.size ≤ w6.heap.size := hb_60.size
  have Ky_62 := Blk.up Ky_49 hb_60
  have Kx_63 := Blk.up Kx_50 hb_60
  have KB_64 := Lib.hid (Below.tr KB_51.out hb_60)
  have KW_65 := Lib.hid (SlS.upN KW_52.out (by omega) hb_60)
  have KE_66 := Lib.hid (OwnR.up KE.out hb_60)
  clear hb_48 cy0_53 cy1_54 cy2_55 cy3_56 cy4_57 cy5_58 ly_59 Ky_49 Kx_50 KB_51 KW_52 KE
  obtain ⟨A6, c6, rfl, _⟩ := own_nil own6
  have KF := Lib.hid (OwnR.of (ownsRow_more own6 (base' := w5.heap.size + 1) (by simp)))
  clear own6
  have cp0_67 := Blk.cell (i := 0) (v := .int .i64 e.kind) Kp_61 rfl
  have cp1_68 := Blk.cell (i := 1) (v := .int .i64 e.i) Kp_61 rfl
  have cp2_69 := Blk.cell (i := 2) (v := .int .i64 e.j) Kp_61 rfl
  have cp3_70 := Blk.cell (i := 3) (v := .int .i64 e.k) Kp_61 rfl
  have cp4_71 := Blk.cell (i := 4) (v := .slice A5 e.part.length c5) Kp_61 rfl
  have cp5_72 := Blk.cell (i := 5) (v := .string e.map) Kp_61 rfl
  have lp_73 := Blk.lt Kp_61
  go_wp2_with fail
  refine (implPassEdit_any _ _ e f first _ ⟨_, rfl, SlS.up (OwnR.sl KE_66.out) (by repeat (first | exact Below.refl _ _ | (refine Below.alloc ?_ (by first | omega | (simp; done) | (simp; omega)) _) | (refine Below.setCell ?_ (by first | exact Nat.le_refl _ | (show _ ≤ _; omega) | (simp; done) | (simp; omega)) _) | refine below_drewN ?_ _ | refine Below.drew ?_))⟩ ⟨_, rfl, SlS.up (OwnR.sl KF.out) (by repeat (first | exact Below.refl _ _ | (refine Below.alloc ?_ (by first | omega | (simp; done) | (simp; omega)) _) | (refine Below.setCell ?_ (by first | exact Nat.le_refl _ | (show _ ≤ _; omega) | (simp; done) | (simp; omega)) _) | refine below_drewN ?_ _ | refine Below.drew ?_))⟩ hn2 hn3 hm hm2).mono ?_
  rintro e w7 ⟨hb_74, vZ, rfl, own7⟩
  have Kq_75 : Blk w7 (w6.heap.size) #[.int .i64 f.kind, .int .i64 f.i, .int .i64 f.j, .int .i64 f.k, .slice A6 f.part.length c6, .string f.map] 34 := by have := (Below.unalloc hb_74).2; simpa [Blk] using this
  replace hb_74 := (Below.unalloc hb_74).1
  have z_w7 : w6.heap.size ≤ w7.heap.size := hb_74.size
  have Ky_76 := Blk.up Ky_62 hb_74
  have Kx_77 := Blk.up Kx_63 hb_74
  have KB_78 := Lib.hid (Below.tr KB_64.out hb_74)
  have KW_79 := Lib.hid (SlS.upN KW_65.out (by omega) hb_74)
  have KE_80 := Lib.hid (OwnR.up KE_66.out hb_74)
  have Kp_81 := Blk.up Kp_61 hb_74
  have KF_82 := Lib.hid (OwnR.up KF.out hb_74)
  clear hb_60 cp0_67 cp1_68 cp2_69 cp3_70 cp4_71 cp5_72 lp_73 Ky_62 Kx_63 KB_64 KW_65 KE_66 Kp_61 KF
  rw [HES.out] at own7
  have KQ := Lib.hid (show OEds w7 (w6.heap.size + 1) w7.heap.size vZ es by have := own7; simpa using this)
  clear own7
  have qc : (pasCode e f first != pasCode e f first) = false := by simp
  go_wp2_with fail
  refine (eqEditS_any _ _ es _ (OEds.sl KQ.out) (SlS.le KW_79.out (by omega))).mono ?_
  rintro e w8 ⟨rfl, hb_83⟩
  have z_w8 : w7.heap.size ≤ w8.heap.size := hb_83.size
  have Ky_84 := Blk.up Ky_76 hb_83
  have Kx_85 := Blk.up Kx_77 hb_83
  have KB_86 := Lib.hid (Below.tr KB_78.out hb_83)
  have KW_87 := Lib.hid (SlS.upN KW_79.out (by omega) hb_83)
  have KE_88 := Lib.hid (OwnR.up KE_80.out hb_83)
  have Kp_89 := Blk.up Kp_81 hb_83
  have KF_90 := Lib.hid (OwnR.up KF_82.out hb_83)
  have Kq_91 := Blk.up Kq_75 hb_83
  have KQ_92 := Lib.hid (OEds.up KQ.out hb_83)
  clear hb_74 Ky_76 Kx_77 KB_78 KW_79 KE_80 Kp_81 KF_82 Kq_75 KQ
  have cp0_93 := Blk.cell (i := 0) (v := .int .i64 e.kind) Kp_89 rfl
  have cp1_94 := Blk.cell (i := 1) (v := .int .i64 e.i) Kp_89 rfl
  have cp2_95 := Blk.cell (i := 2) (v := .int .i64 e.j) Kp_89 rfl
  have cp3_96 := Blk.cell (i := 3) (v := .int .i64 e.k) Kp_89 rfl
  have cp4_97 := Blk.cell (i := 4) (v := .slice A5 e.part.length c5) Kp_89 rfl
  have cp5_98 := Blk.cell (i := 5) (v := .string e.map) Kp_89 rfl
  have lp_99 := Blk.lt Kp_89
  have cx0_100 := Blk.cell (i := 0) (v := .int .i64 e.kind) Kx_85 rfl
  have cx1_101 := Blk.cell (i := 1) (v := .int .i64 e.i) Kx_85 rfl
  have cx2_102 := Blk.cell (i := 2) (v := .int .i64 e.j) Kx_85 rfl
  have cx3_103 := Blk.cell (i := 3) (v := .int .i64 e.k) Kx_85 rfl
  have cx4_104 := Blk.cell (i := 4) (v := .slice AR e.part.length cR) Kx_85 rfl
  have cx5_105 := Blk.cell (i := 5) (v := .string e.map) Kx_85 rfl
  have lx_106 := Blk.lt Kx_85
  go_wp2_with fail
  have KD := keep66 Kp_89 Kx_85 (Below.drew (Below.refl w8.heap.size w8))
  have HKA := Lib.hid Kx_85
  have HKP := Lib.hid Kp_89
  have HBS := Lib.hid KB_86.out
  have HXS := Lib.hid (OwnR.sl KE_88.out)
  go_region_held3 (fun w' => Below w8.heap.size w8 w' ∧ w'.cell? ⟨w5.heap.size, 0, none⟩ = some (.int .i64 e.kind) ∧ w'.cell? ⟨w5.heap.size, 1, none⟩ = some (.int .i64 e.i) ∧ w'.cell? ⟨w5.heap.size, 2, none⟩ = some (.int .i64 e.j) ∧ w'.cell? ⟨w5.heap.size, 3, none⟩ = some (.int .i64 e.k) ∧ w'.cell? ⟨w5.heap.size, 4, none⟩ = some (.slice A5 e.part.length c5) ∧ w'.cell? ⟨w5.heap.size, 5, none⟩ = some (.string e.map) ∧ w'.cell? ⟨w.heap.size, 0, none⟩ = some (.int .i64 e.kind) ∧ w'.cell? ⟨w.heap.size, 1, none⟩ = some (.int .i64 e.i) ∧ w'.cell? ⟨w.heap.size, 2, none⟩ = some (.int .i64 e.j) ∧ w'.cell? ⟨w.heap.size, 3, none⟩ = some (.int .i64 e.k) ∧ w'.cell? ⟨w.heap.size, 4, none⟩ = some (.slice AR e.part.length cR) ∧ w'.cell? ⟨w.heap.size, 5, none⟩ = some (.string e.map))
    (first | (with_reducible exact KD) | (with_reducible exact keep66 HKP.out HKA.out b10) | (with_reducible exact keep66 HKP.out HKA.out b11))
    (first
      | (go_at_call 10; (refine (toEditO_any _ e _ ⟨_, rfl, HR.out.up (by repeat (first | exact HBS.out | (refine Below.alloc ?_ (by first | omega | (simp; done) | (simp; omega)) _) | (refine Below.setCell ?_ (by first | exact Nat.le_refl _ | (show _ ≤ _; omega) | (simp; done) | (simp; omega)) _) | refine below_drewN ?_ _ | refine Below.drew ?_))⟩ hn2).mono ?_); rintro r w10' ⟨v10, rfl, own10, hb10⟩; have b10 := Below.undrew hb10)
      | (go_at_call 12; (refine (eqEdit_any _ _ e _ ⟨_, rfl, SlS.up HXS.out b10⟩ ⟨_, rfl, own10.sl⟩).mono ?_); rintro r w11 ⟨rfl, hb11⟩; have b11 := Below.tr b10 hb11))
  have hbR11 := b11
  clear KD HKA HKP HBS HXS b10 b11 hb10 hb11 own10
  have hb_107 := hbR11
  have z_w11 : w8.heap.size ≤ w11.heap.size := hb_107.size
  have Ky_108 := Blk.up Ky_84 hb_107
  have Kx_109 := Blk.up Kx_85 hb_107
  have KB_110 := Lib.hid (Below.tr KB_86.out hb_107)
  have KW_111 := Lib.hid (SlS.upN KW_87.out (by omega) hb_107)
  have KE_112 := Lib.hid (OwnR.up KE_88.out hb_107)
  have Kp_113 := Blk.up Kp_89 hb_107
  have KF_114 := Lib.hid (OwnR.up KF_90.out hb_107)
  have Kq_115 := Blk.up Kq_91 hb_107
  have KQ_116 := Lib.hid (OEds.up KQ_92.out hb_107)
  clear hb_83 cp0_93 cp1_94 cp2_95 cp3_96 cp4_97 cp5_98 lp_99 cx0_100 cx1_101 cx2_102 cx3_103 cx4_104 cx5_105 lx_106 Ky_84 Kx_85 KB_86 KW_87 KE_88 Kp_89 KF_90 Kq_91 KQ_92
  have cq0_117 := Blk.cell (i := 0) (v := .int .i64 f.kind) Kq_115 rfl
  have cq1_118 := Blk.cell (i := 1) (v := .int .i64 f.i) Kq_115 rfl
  have cq2_119 := Blk.cell (i := 2) (v := .int .i64 f.j) Kq_115 rfl
  have cq3_120 := Blk.cell (i := 3) (v := .int .i64 f.k) Kq_115 rfl
  have cq4_121 := Blk.cell (i := 4) (v := .slice A6 f.part.length c6) Kq_115 rfl
  have cq5_122 := Blk.cell (i := 5) (v := .string f.map) Kq_115 rfl
  have lq_123 := Blk.lt Kq_115
  have cy0_124 := Blk.cell (i := 0) (v := .int .i64 f.kind) Ky_108 rfl
  have cy1_125 := Blk.cell (i := 1) (v := .int .i64 f.i) Ky_108 rfl
  have cy2_126 := Blk.cell (i := 2) (v := .int .i64 f.j) Ky_108 rfl
  have cy3_127 := Blk.cell (i := 3) (v := .int .i64 f.k) Ky_108 rfl
  have cy4_128 := Blk.cell (i := 4) (v := .slice AQ f.part.length cQ) Ky_108 rfl
  have cy5_129 := Blk.cell (i := 5) (v := .string f.map) Ky_108 rfl
  have ly_130 := Blk.lt Ky_108
  go_wp2_with fail
  have KD := keep66 Kq_115 Ky_108 (Below.drew (Below.refl w11.heap.size w11))
  have HKA := Lib.hid Ky_108
  have HKP := Lib.hid Kq_115
  have HBS := Lib.hid KB_110.out
  have HXS := Lib.hid (OwnR.sl KF_114.out)
  go_region_held3 (fun w' => Below w11.heap.size w11 w' ∧ w'.cell? ⟨w6.heap.size, 0, none⟩ = some (.int .i64 f.kind) ∧ w'.cell? ⟨w6.heap.size, 1, none⟩ = some (.int .i64 f.i) ∧ w'.cell? ⟨w6.heap.size, 2, none⟩ = some (.int .i64 f.j) ∧ w'.cell? ⟨w6.heap.size, 3, none⟩ = some (.int .i64 f.k) ∧ w'.cell? ⟨w6.heap.size, 4, none⟩ = some (.slice A6 f.part.length c6) ∧ w'.cell? ⟨w6.heap.size, 5, none⟩ = some (.string f.map) ∧ w'.cell? ⟨w.heap.size + 1, 0, none⟩ = some (.int .i64 f.kind) ∧ w'.cell? ⟨w.heap.size + 1, 1, none⟩ = some (.int .i64 f.i) ∧ w'.cell? ⟨w.heap.size + 1, 2, none⟩ = some (.int .i64 f.j) ∧ w'.cell? ⟨w.heap.size + 1, 3, none⟩ = some (.int .i64 f.k) ∧ w'.cell? ⟨w.heap.size + 1, 4, none⟩ = some (.slice AQ f.part.length cQ) ∧ w'.cell? ⟨w.heap.size + 1, 5, none⟩ = some (.string f.map))
    (first | (with_reducible exact KD) | (with_reducible exact keep66 HKP.out HKA.out b10) | (with_reducible exact keep66 HKP.out HKA.out b11))
    (first
      | (go_at_call 10; (refine (toEditO_any _ f _ ⟨_, rfl, HQ.out.up (by repeat (first | exact HBS.out | (refine Below.alloc ?_ (by first | omega | (simp; done) | (simp; omega)) _) | (refine Below.setCell ?_ (by first | exact Nat.le_refl _ | (show _ ≤ _; omega) | (simp; done) | (simp; omega)) _) | refine below_drewN ?_ _ | refine Below.drew ?_))⟩ hn3).mono ?_); rintro r w10' ⟨v10, rfl, own10, hb10⟩; have b10 := Below.undrew hb10)
      | (go_at_call 12; (refine (eqEdit_any _ _ f _ ⟨_, rfl, SlS.up HXS.out b10⟩ ⟨_, rfl, own10.sl⟩).mono ?_); rintro r w12 ⟨rfl, hb11⟩; have b11 := Below.tr b10 hb11))
  have hbR11 := b11
  clear KD HKA HKP HBS HXS b10 b11 hb10 hb11 own10
  have hb_131 := hbR11
  have z_w12 : w11.heap.size ≤ w12.heap.size := hb_131.size
  have Ky_132 := Blk.up Ky_108 hb_131
  have Kx_133 := Blk.up Kx_109 hb_131
  have KB_134 := Lib.hid (Below.tr KB_110.out hb_131)
  have KW_135 := Lib.hid (SlS.upN KW_111.out (by omega) hb_131)
  have KE_136 := Lib.hid (OwnR.up KE_112.out hb_131)
  have Kp_137 := Blk.up Kp_113 hb_131
  have KF_138 := Lib.hid (OwnR.up KF_114.out hb_131)
  have Kq_139 := Blk.up Kq_115 hb_131
  have KQ_140 := Lib.hid (OEds.up KQ_116.out hb_131)
  clear hb_107 cq0_117 cq1_118 cq2_119 cq3_120 cq4_121 cq5_122 lq_123 cy0_124 cy1_125 cy2_126 cy3_127 cy4_128 cy5_129 ly_130 Ky_108 Kx_109 KB_110 KW_111 KE_112 Kp_113 KF_114 Kq_115 KQ_116
  have cp0_141 := Blk.cell (i := 0) (v := .int .i64 e.kind) Kp_137 rfl
  have cp1_142 := Blk.cell (i := 1) (v := .int .i64 e.i) Kp_137 rfl
  have cp2_143 := Blk.cell (i := 2) (v := .int .i64 e.j) Kp_137 rfl
  have cp3_144 := Blk.cell (i := 3) (v := .int .i64 e.k) Kp_137 rfl
  have cp4_145 := Blk.cell (i := 4) (v := .slice A5 e.part.length c5) Kp_137 rfl
  have cp5_146 := Blk.cell (i := 5) (v := .string e.map) Kp_137 rfl
  have lp_147 := Blk.lt Kp_137
  go_wp2_with fail
  refine (markEdit_any _ _ e 1 _ (KE_136.out).1 (by omega) (by omega)).mono ?_
  rintro e w14 ⟨rfl, ho_149, hg_148⟩
  have hc_150 := chg_of KE_136.out hg_148
  have z_w14 : w12.heap.size ≤ w14.heap.size := Chg.size hc_150
  have Ky_151 := Blk.chg Ky_132 hc_150 (by omega)
  have Kx_152 := Blk.chg Kx_133 hc_150 (by omega)
  have KB_153 := Lib.hid (Below.chg KB_134.out (by have := Below.size KB_134.out; omega) hc_150 (by omega))
  have KW_154 := Lib.hid (SlS.chgN KW_135.out (by omega) hc_150 (by omega))
  have KE_155 := Lib.hid (OwnR.markedC KE_136.out ho_149 hc_150)
  have Kp_156 := Blk.chg Kp_137 hc_150 (by omega)
  have KF_157 := Lib.hid (OwnR.chg KF_138.out hc_150 (by omega))
  have Kq_158 := Blk.chg Kq_139 hc_150 (by omega)
  have KQ_159 := Lib.hid (OEds.chg KQ_140.out hc_150 (by omega))
  clear hb_131 cp0_141 cp1_142 cp2_143 cp3_144 cp4_145 cp5_146 lp_147 Ky_132 Kx_133 KB_134 KW_135 KE_136 Kp_137 KF_138 Kq_139 KQ_140 ho_149 hg_148 hc_150
  clear Kp_156
  have cq0_160 := Blk.cell (i := 0) (v := .int .i64 f.kind) Kq_158 rfl
  have cq1_161 := Blk.cell (i := 1) (v := .int .i64 f.i) Kq_158 rfl
  have cq2_162 := Blk.cell (i := 2) (v := .int .i64 f.j) Kq_158 rfl
  have cq3_163 := Blk.cell (i := 3) (v := .int .i64 f.k) Kq_158 rfl
  have cq4_164 := Blk.cell (i := 4) (v := .slice A6 f.part.length c6) Kq_158 rfl
  have cq5_165 := Blk.cell (i := 5) (v := .string f.map) Kq_158 rfl
  have lq_166 := Blk.lt Kq_158
  go_wp2_with fail
  refine (markEdit_any _ _ f (1 + 3 * e.part.length) _ (KF_157.out).1 (by omega) (by omega)).mono ?_
  rintro e w15 ⟨rfl, ho_168, hg_167⟩
  have hc_169 := chg_of KF_157.out hg_167
  have z_w15 : w14.heap.size ≤ w15.heap.size := Chg.size hc_169
  have Ky_170 := Blk.chg Ky_151 hc_169 (by omega)
  have Kx_171 := Blk.chg Kx_152 hc_169 (by omega)
  have KB_172 := Lib.hid (Below.chg KB_153.out (by have := Below.size KB_153.out; omega) hc_169 (by omega))
  have KW_173 := Lib.hid (SlS.chgN KW_154.out (by omega) hc_169 (by omega))
  have KE_174 := Lib.hid (OwnR.chg KE_155.out hc_169 (by omega))
  have KF_175 := Lib.hid (OwnR.markedC KF_157.out ho_168 hc_169)
  have Kq_176 := Blk.chg Kq_158 hc_169 (by omega)
  have KQ_177 := Lib.hid (OEds.chg KQ_159.out hc_169 (by omega))
  clear cq0_160 cq1_161 cq2_162 cq3_163 cq4_164 cq5_165 lq_166 Ky_151 Kx_152 KB_153 KW_154 KE_155 KF_157 Kq_158 KQ_159 ho_168 hg_167 hc_169
  clear Kq_176
  have e0 : (decide (((1 + 3 * e.part.length + 3 * f.part.length : Nat) : Int) < 0)) = false := by simp; omega
  go_wp2_with fail
  refine (eqEditS_any _ _ es _ (OEds.sl KQ_177.out) (SlS.le KW_173.out (by omega))).mono ?_
  rintro e w16 ⟨rfl, hb_178⟩
  have z_w16 : w15.heap.size ≤ w16.heap.size := hb_178.size
  have Ky_179 := Blk.up Ky_170 hb_178
  have Kx_180 := Blk.up Kx_171 hb_178
  have KB_181 := Lib.hid (Below.tr KB_172.out hb_178)
  have KW_182 := Lib.hid (SlS.upN KW_173.out (by omega) hb_178)
  have KE_183 := Lib.hid (OwnR.up KE_174.out hb_178)
  have KF_184 := Lib.hid (OwnR.up KF_175.out hb_178)
  have KQ_185 := Lib.hid (OEds.up KQ_177.out hb_178)
  clear Ky_170 Kx_171 KB_172 KW_173 KE_174 KF_175 KQ_177
  go_wp2_with fail
  refine (markEditS_any _ _ _ es 1 _ KQ_185.out hmk hel).mono ?_
  rintro e w17 ⟨rfl, ho_187, hg_186⟩
  have hc_188 := hg_186
  have z_w17 : w16.heap.size ≤ w17.heap.size := Chg.size hc_188
  have Ky_189 := Blk.chg Ky_179 hc_188 (by omega)
  have Kx_190 := Blk.chg Kx_180 hc_188 (by omega)
  have KB_191 := Lib.hid (Below.chg KB_181.out (by have := Below.size KB_181.out; omega) hc_188 (by omega))
  have KW_192 := Lib.hid (SlS.chgN KW_182.out (by omega) hc_188 (by omega))
  have KE_193 := Lib.hid (OwnR.chg KE_183.out hc_188 (by omega))
  have KF_194 := Lib.hid (OwnR.chg KF_184.out hc_188 (by omega))
  have KQ_195 := Lib.hid ho_187
  clear hb_178 Ky_179 Kx_180 KB_181 KW_182 KE_183 KF_184 KQ_185 ho_187 hg_186 hc_188
  clear e0
  go_wp2_with fail
  refine (heldEditS_any _ es 1 _ (OEds.sl KQ_195.out) hmk hel).mono ?_
  rintro e w18 ⟨rfl, hb_196⟩
  have z_w18 : w17.heap.size ≤ w18.heap.size := hb_196.size
  have Ky_197 := Blk.up Ky_189 hb_196
  have Kx_198 := Blk.up Kx_190 hb_196
  have KB_199 := Lib.hid (Below.tr KB_191.out hb_196)
  have KW_200 := Lib.hid (SlS.upN KW_192.out (by omega) hb_196)
  have KE_201 := Lib.hid (OwnR.up KE_193.out hb_196)
  have KF_202 := Lib.hid (OwnR.up KF_194.out hb_196)
  have KQ_203 := Lib.hid (OEds.up KQ_195.out hb_196)
  clear Ky_189 Kx_190 KB_191 KW_192 KE_193 KF_194 KQ_195
  have e1 : (decide (((markEnd 1 es : Nat) : Int) < 0)) = false := by simp
  clear hb_196
  have cx0_204 := Blk.cell (i := 0) (v := .int .i64 e.kind) Kx_198 rfl
  have cx1_205 := Blk.cell (i := 1) (v := .int .i64 e.i) Kx_198 rfl
  have cx2_206 := Blk.cell (i := 2) (v := .int .i64 e.j) Kx_198 rfl
  have cx3_207 := Blk.cell (i := 3) (v := .int .i64 e.k) Kx_198 rfl
  have cx4_208 := Blk.cell (i := 4) (v := .slice AR e.part.length cR) Kx_198 rfl
  have cx5_209 := Blk.cell (i := 5) (v := .string e.map) Kx_198 rfl
  have lx_210 := Blk.lt Kx_198
  have cy0_211 := Blk.cell (i := 0) (v := .int .i64 f.kind) Ky_197 rfl
  have cy1_212 := Blk.cell (i := 1) (v := .int .i64 f.i) Ky_197 rfl
  have cy2_213 := Blk.cell (i := 2) (v := .int .i64 f.j) Ky_197 rfl
  have cy3_214 := Blk.cell (i := 3) (v := .int .i64 f.k) Ky_197 rfl
  have cy4_215 := Blk.cell (i := 4) (v := .slice AQ f.part.length cQ) Ky_197 rfl
  have cy5_216 := Blk.cell (i := 5) (v := .string f.map) Ky_197 rfl
  have ly_217 := Blk.lt Ky_197
  go_wp2_with fail
  have KD := keep66 Kx_198 Ky_197 (Below.drew (Below.refl w18.heap.size w18))
  have HBS := Lib.hid KB_199.out
  have HKX := Lib.hid Kx_198
  have HKY := Lib.hid Ky_197
  go_region_held3 (fun w' => Below w18.heap.size w18 w' ∧ w'.cell? ⟨w.heap.size, 0, none⟩ = some (.int .i64 e.kind) ∧ w'.cell? ⟨w.heap.size, 1, none⟩ = some (.int .i64 e.i) ∧ w'.cell? ⟨w.heap.size, 2, none⟩ = some (.int .i64 e.j) ∧ w'.cell? ⟨w.heap.size, 3, none⟩ = some (.int .i64 e.k) ∧ w'.cell? ⟨w.heap.size, 4, none⟩ = some (.slice AR e.part.length cR) ∧ w'.cell? ⟨w.heap.size, 5, none⟩ = some (.string e.map) ∧ w'.cell? ⟨w.heap.size + 1, 0, none⟩ = some (.int .i64 f.kind) ∧ w'.cell? ⟨w.heap.size + 1, 1, none⟩ = some (.int .i64 f.i) ∧ w'.cell? ⟨w.heap.size + 1, 2, none⟩ = some (.int .i64 f.j) ∧ w'.cell? ⟨w.heap.size + 1, 3, none⟩ = some (.int .i64 f.k) ∧ w'.cell? ⟨w.heap.size + 1, 4, none⟩ = some (.slice AQ f.part.length cQ) ∧ w'.cell? ⟨w.heap.size + 1, 5, none⟩ = some (.string f.map))
    (first | (with_reducible exact KD) | (with_reducible exact keep66 HKX.out HKY.out b1) | (with_reducible exact keep66 HKX.out HKY.out b2) | (with_reducible exact keep66 HKX.out HKY.out b3))
    (first
      | ((fail_if_success (have hx1 := b1)); go_at_call 10; (refine (toEditO_any _ e _ ⟨_, rfl, HR.out.up (by repeat (first | exact HBS.out | (refine Below.alloc ?_ (by first | omega | (simp; done) | (simp; omega)) _) | (refine Below.setCell ?_ (by first | exact Nat.le_refl _ | (show _ ≤ _; omega) | (simp; done) | (simp; omega)) _) | refine below_drewN ?_ _ | refine Below.drew ?_))⟩ hn2).mono ?_); rintro r t1 ⟨v1, rfl, own1, hb1⟩; have b1 : Below w18.heap.size w18 t1 := Below.undrew hb1)
      | ((fail_if_success (have hx1 := b2)); go_at_call 10; (refine (toEditO_any _ f _ ⟨_, rfl, HQ.out.up (by repeat (first | exact Below.tr HBS.out b1 | (refine Below.alloc ?_ (by first | omega | (simp; done) | (simp; omega)) _) | (refine Below.setCell ?_ (by first | exact Nat.le_refl _ | (show _ ≤ _; omega) | (simp; done) | (simp; omega)) _) | refine below_drewN ?_ _ | refine Below.drew ?_))⟩ hn3).mono ?_); rintro r t2 ⟨v2, rfl, own2, hb2⟩; have b2 := Below.tr b1 hb2)
      | (go_at_call 14; (refine (implPassEdit_any _ _ e f first _ ⟨_, rfl, OwnRules.sl1 own1 (by repeat (first | exact hb2 | (refine Below.alloc ?_ (by first | omega | (simp; done) | (simp; omega)) _) | (refine Below.setCell ?_ (by first | exact Nat.le_refl _ | (show _ ≤ _; omega) | (simp; done) | (simp; omega)) _) | refine below_drewN ?_ _ | refine Below.drew ?_))⟩ ⟨_, rfl, OwnRules.sl1 own2 (by repeat (first | exact Below.refl _ _ | (refine Below.alloc ?_ (by first | omega | (simp; done) | (simp; omega)) _) | (refine Below.setCell ?_ (by first | exact Nat.le_refl _ | (show _ ≤ _; omega) | (simp; done) | (simp; omega)) _) | refine below_drewN ?_ _ | refine Below.drew ?_))⟩ hn2 hn3 hm hm2).mono ?_); rintro r t3 ⟨hb3, v3, rfl, own3⟩; have b3 := Below.tr b2 hb3))
  rw [HES.out] at own3
  have hbR := b3
  have KV := Lib.hid (OEds.sl own3)
  clear KD HBS HKX HKY b1 b2 b3 hb1 hb2 hb3 own1 own2 own3
  have hb_218 := hbR
  have z_t3 : w18.heap.size ≤ t3.heap.size := hb_218.size
  have Ky_219 := Blk.up Ky_197 hb_218
  have Kx_220 := Blk.up Kx_198 hb_218
  have KB_221 := Lib.hid (Below.tr KB_199.out hb_218)
  have KW_222 := Lib.hid (SlS.upN KW_200.out (by omega) hb_218)
  have KE_223 := Lib.hid (OwnR.up KE_201.out hb_218)
  have KF_224 := Lib.hid (OwnR.up KF_202.out hb_218)
  have KQ_225 := Lib.hid (OEds.up KQ_203.out hb_218)
  clear cx0_204 cx1_205 cx2_206 cx3_207 cx4_208 cx5_209 lx_210 cy0_211 cy1_212 cy2_213 cy3_214 cy4_215 cy5_216 ly_217 Ky_197 Kx_198 KB_199 KW_200 KE_201 KF_202 KQ_203
  have KW2 := Lib.hid KV.out
  go_wp2_with fail
  refine (eqEditS_any _ _ es _ (SlS.le KW2.out (by omega)) (SlS.le KW_222.out (by omega))).mono ?_
  rintro e w20 ⟨rfl, hb_226⟩
  have z_w20 : t3.heap.size ≤ w20.heap.size := hb_226.size
  have Ky_227 := Blk.up Ky_219 hb_226
  have Kx_228 := Blk.up Kx_220 hb_226
  have KB_229 := Lib.hid (Below.tr KB_221.out hb_226)
  have KW_230 := Lib.hid (SlS.upN KW_222.out (by omega) hb_226)
  have KE_231 := Lib.hid (OwnR.up KE_223.out hb_226)
  have KF_232 := Lib.hid (OwnR.up KF_224.out hb_226)
  have KQ_233 := Lib.hid (OEds.up KQ_225.out hb_226)
  have KH_234 := Lib.hid (SlS.upN KW2.out (by omega) hb_226)
  clear hb_218 Ky_219 Kx_220 KB_221 KW_222 KE_223 KF_224 KQ_225 KW2
  go_wp2_with fail
  refine (heldEditS_any _ es 1 _ (OEds.sl KQ_233.out) hmk hel).mono ?_
  rintro e w21 ⟨rfl, hb_235⟩
  have z_w21 : w20.heap.size ≤ w21.heap.size := hb_235.size
  have Ky_236 := Blk.up Ky_227 hb_235
  have Kx_237 := Blk.up Kx_228 hb_235
  have KB_238 := Lib.hid (Below.tr KB_229.out hb_235)
  have KW_239 := Lib.hid (SlS.upN KW_230.out (by omega) hb_235)
  have KE_240 := Lib.hid (OwnR.up KE_231.out hb_235)
  have KF_241 := Lib.hid (OwnR.up KF_232.out hb_235)
  have KQ_242 := Lib.hid (OEds.up KQ_233.out hb_235)
  have KH_243 := Lib.hid (SlS.upN KH_234.out (by omega) hb_235)
  clear hb_226 Ky_227 Kx_228 KB_229 KW_230 KE_231 KF_232 KQ_233 KH_234
  go_wp2
  go_ret
  exact ⟨rfl, KB_238.out⟩
end Go.Proofs.Ytfapnipmgmpgaaa

namespace Go.Proofs.Ytfapnipmgmpgaaa
open Go.RowKit Go.WideShapes Go.ChangeShapes
section
variable {H : Type} {enc : TypeId × Value → H} {P : Program}
theorem post_of_below {f : Func} {s : ChangeSpec} {apart fresh handsOn again : Bool} {W W' : World} {args : Array Value} {v : Value} {ds gs : List (DataW H)} {before pa pv : List MemPlace}
    (hW : DataW.Whole enc P f.params.toList s.vars apart W args.toList ds gs before)
    (hres : ∀ (b : Nat) (sp : Nat → Bool) (hd : Bool), DataW.TrodAll enc P W' b sp hd f.resultTypes.toList (v.resultList f.resultTypes.size) (s.fn H (ds ++ gs)).results [])
    (hargs : ∀ sp : Nat → Bool, (∀ p ∈ before, sp p.block = true) → DataW.TrodAll enc P W' 0 sp true f.params.toList args.toList (s.fn H (ds ++ gs)).args pa)
    (hvars : ∀ sp : Nat → Bool, (∀ p ∈ before, sp p.block = true) → DataW.TrodVars enc P W' sp s.vars (s.fn H (ds ++ gs)).vars pv)
    (hps : before = pa ++ pv) (hb : Below W.heap.size W W')
    (hok : ∀ (j : Nat) (t : TypeId) (r : Value), f.resultTypes[j]? = some t → (v.resultList f.resultTypes.size)[j]? = some r → Value.okWide P W' .any 0 t r) :
    s.post enc P f apart fresh handsOn again W args v W' := by
  have hlt : ∀ p ∈ before, p.block < W.heap.size := fun p hp => hW.lt p hp
  have hold : ∀ p ∈ before, (fun b => decide (b < W.heap.size)) p.block = true := fun p hp => by simpa using hlt p hp
  refine ⟨ds, gs, before, [], pa, pv, hW, hres _ _ _, hargs _ hold, hvars _ hold, World.keptBut_mono (fun p hp => ⟨hp, ?_⟩) (hb.frame (· ∈ before)), fun _ => ?_⟩
  · rw [hps, List.mem_append] at hp
    exact Or.inr hp
  · obtain ⟨_, _, _, _, _, hz, hn⟩ := hW
    refine ⟨hok, _, _, ([] ++ pa) ++ pv, ⟨[] ++ pa, pv, trodAll_append (hargs _ (fun _ _ => rfl)) (hres _ _ _), hvars _ (fun _ _ => rfl), rfl, ?_, ?_⟩, ?_⟩
    · intro b off hp
      have hin : MemPlace.cell b off ∈ before := by rw [hps]; simpa using hp
      rw [hb.frozen (hlt _ hin)]
      exact hz b off hin
    · intro ha
      have := hn ha
      rw [hps] at this
      simpa using this
    · intro p hp _
      rw [hps]
      simpa using hp

theorem trodAll_below (hl : laidOutB P = true) {W W' : World} (hb : Below W.heap.size W W') : ∀ {ts : List TypeId} {vs : List Value} {ds : List (DataW H)} {ps : List MemPlace},
    (∀ t ∈ ts, P.readableRec t = true ∧ t < P.types.size) → DataW.TrodAll enc P W 0 (fun _ => true) true ts vs ds ps → (∀ x ∈ ps, x.block < W.heap.size) → ∀ sp : Nat → Bool, (∀ p ∈ ps, sp p.block = true) →
    DataW.TrodAll enc P W' 0 sp true ts vs ds ps
  | [], _, _, _, _, h, _, _, _ => by
    obtain ⟨rfl, rfl, rfl⟩ := trodAll_nil h
    exact trodAll_mk0
  | t :: ts, vs, ds, ps, hts, h, hlt, sp, hsp => by
    obtain ⟨v, vs', d, ds', p, q, rfl, rfl, rfl, h0, r0⟩ := trodAll_cons h
    refine trodAll_cons_mk (WideElems.Trod_stays hl (hts t (by simp)).1 (hts t (by simp)).2 h0 (fun x hx => hb.same (hlt x (by simp [hx]))) (fun x hx => hsp x (by simp [hx]))) ?_
    exact trodAll_below hl hb (fun t ht => hts t (by simp [ht])) r0 (fun x hx => hlt x (by simp [hx])) sp (fun x hx => hsp x (by simp [hx]))
end
theorem laidOut : laidOutB Try.prog = true := by kernel_rfl
theorem own : ownKnob Try.prog.godebug = none := by kernel_rfl
end Go.Proofs.Ytfapnipmgmpgaaa

namespace Go.Proofs.Ytfapnipmgmpgaaa
open Go.RowKit Go.ChangeShapes Go.WideShapes Go.Deep
section
variable {H : Type} {enc : TypeId × Value → H} {P : Program} {w : World} {base : Nat} {spare : Nat → Bool} {held : Bool}
theorem add_plain (b o n : Nat) : (⟨b, o, none⟩ : Addr).add n = ⟨b, o + n, none⟩ := by unfold Addr.add; split <;> simp_all
theorem spot_none {a : Addr} {v : Value} (h : w.cell? a = some v) : a = ⟨a.block, a.off, none⟩ ∧ a.block < w.heap.size := by
  have hl := World.block_lt_of_cell? w a h
  refine ⟨?_, hl⟩
  obtain ⟨b, o, s⟩ := a
  unfold World.cell? at h
  cases s with
  | none => rfl
  | some s => split at h <;> simp at h
theorem len_map_range {α : Type} (f : Nat → α) (n : Nat) : ((List.range n).map f).length = n := by simp

end
end Go.Proofs.Ytfapnipmgmpgaaa

namespace Go.Proofs.Ytfapnipmgmpgaaa
open Go.RowKit Go.ChangeShapes Go.WideShapes Go.Deep

/-- Whatever reads at type t lies as E says, and has the property Q. -/
def Opens {α : Type} (P : Program) (E : Enc α) (Q : α → Prop) (t : TypeId) : Prop :=
  ∀ {H : Type} (enc : TypeId × Value → H) (w : World) (base : Nat) (spare : Nat → Bool) (held : Bool) (fuel : Nat) (cs : List Value) (x : DataW H × List MemPlace), DataW.trod enc P w base spare held fuel t cs = some x → ∃ a, E.cells w (· < w.heap.size) a cs ∧ Q a

theorem opens_rule {P : Program} {t : TypeId} {f0 f1 f2 : Field} (he : P.underlying t = some (.struct #[f0, f1, f2])) (hone : oneCellFields P #[f0, f1, f2] = true) (hC : P.cellsOf t = 3)
    (h0 : P.underlying f0.type = some .string) (h1 : P.underlying f1.type = some (.int .i64)) (h2 : P.underlying f2.type = some (.int .i64)) : Opens P RuleE (fun r => r.letter.size ≤ maxLen) t := by
  intro H enc w base spare held fuel cs x h
  obtain ⟨ys, n', hn', hy, hlen, hyl, hf⟩ := DataW.trod_struct he h
  obtain ⟨o0, k0⟩ := hone_of hone 0 f0 rfl
  obtain ⟨o1, k1⟩ := hone_of hone 1 f1 rfl
  obtain ⟨o2, k2⟩ := hone_of hone 2 f2 rfl
  have g0 := hf 0 f0 rfl
  have g1 := hf 1 f1 rfl
  have g2 := hf 2 f2 rfl
  rw [o0, k0] at g0
  rw [o1, k1] at g1
  rw [o2, k2] at g2
  have hc3 : cs.length = 3 := hlen.trans hC
  match ys, hyl, cs, hc3 with
  | [y0, y1, y2], _, [c0, c1, c2], _ =>
    simp at g0 g1 g2
    obtain ⟨s, e0, _, hs⟩ := DataW.trod_string h0 g0
    obtain ⟨p, e1, _, _⟩ := DataW.trod_int h1 g1
    obtain ⟨q, e2, _, _⟩ := DataW.trod_int h2 g2
    refine ⟨⟨s, p, q⟩, ?_, hs⟩
    simp at e0 e1 e2
    subst e0 e1 e2
    rfl
instance : Inhabited GRule := ⟨⟨⟨#[]⟩, 0, 0⟩⟩
theorem opens_slice {α : Type} {P : Program} {E : Enc α} {Q : α → Prop} {t e : TypeId} [Inhabited α] (hE : Opens P E Q e) (ht : P.underlying t = some (.slice e)) (hC : P.cellsOf e = E.size) : Opens P (SliceE E) (fun xs => ∀ x ∈ xs, Q x) t := by
  intro H enc w base spare held fuel cs x h
  rcases open_slice ht h with ⟨h0, _⟩ | ⟨a, len, cap, m, n, D, Pl, hcs, hb, hl, hm, hmm, hx, hi⟩
  · exact ⟨[], ⟨_, h0, SlS.nil _ _⟩, fun x hx => by simp at hx⟩
  · have hmle : len ≤ m := by rw [hmm]; split <;> omega
    have Hh : ∀ i, i < len → ∃ r : α, ∃ cs', E.cells w (· < w.heap.size) r cs' ∧ (∀ j u, cs'[j]? = some u → w.cell? (a.add (i * E.size + j)) = some u) ∧ Q r := by
      intro i hil
      obtain ⟨cs', hc, ht'⟩ := hi i (by omega)
      obtain ⟨r, hr, hq⟩ := hE enc w base spare held n cs' _ ht'
      obtain ⟨_, hcl, hat⟩ := World.cells?_some hc
      refine ⟨r, cs', hr, fun j u hu => ?_, hq⟩
      have hj : j < cs'.length := (List.getElem?_eq_some_iff.1 hu).1
      rw [← Go.Deep.add_add, ← hC, hat j (by omega), hu]
    obtain ⟨F, hF⟩ := choose_lt Hh
    clear Hh
    refine ⟨(List.range len).map F, ⟨.slice (some a) len cap, hcs, some a, cap, by rw [len_map_range], by rw [len_map_range]; exact hl, hm, fun hn => ?_⟩, ?_⟩
    · rw [len_map_range] at hn
      obtain ⟨cs', h1, h2, _⟩ := hF 0 hn
      have hlen := E.len h1
      have hpos := E.pos
      have g0 := h2 0 cs'[0] (List.getElem?_eq_getElem (by omega))
      have ha : a.add (0 * E.size + 0) = a := by simp [Addr.add]
      rw [ha] at g0
      obtain ⟨hsp, hlt⟩ := spot_none g0
      refine ⟨a.block, a.off, by rw [← hsp], hlt, fun k r hr => ?_⟩
      have hk : k < len := by
        have := (List.getElem?_eq_some_iff.1 hr).1
        rw [len_map_range] at this; exact this
      have er : F k = r := by
        rw [List.getElem?_map, List.getElem?_range hk] at hr; simpa using hr
      obtain ⟨cs'', h3, h4, _⟩ := hF k hk
      rw [er] at h3
      refine ⟨cs'', h3, fun j u hu => ?_⟩
      have := h4 j u hu
      rw [hsp, add_plain] at this
      exact this
    · intro r hr
      rw [List.mem_map] at hr
      obtain ⟨k, hk, rfl⟩ := hr
      exact (hF k (by simpa using hk)).choose_spec.2.2
theorem opens_struct1 {α : Type} {P : Program} {E : Enc α} {Q : α → Prop} {t : TypeId} {f : Field} (hs : P.underlying t = some (.struct #[f])) (hone : oneCellFields P #[f] = true) (hC : P.cellsOf t = 1) (hE : Opens P E Q f.type) : Opens P E Q t := by
  intro H enc w base spare held fuel cs x h
  obtain ⟨ys, n', hn', hy, hlen, hyl, hf⟩ := DataW.trod_struct hs h
  obtain ⟨o0, k0⟩ := hone_of hone 0 f rfl
  have g0 := hf 0 f rfl
  rw [o0, k0] at g0
  have hc1 : cs.length = 1 := hlen.trans hC
  match ys, hyl, cs, hc1 with
  | [y0], _, [c0], _ =>
    simp at g0
    exact hE enc w base spare held _ _ _ g0
theorem SmallL_of {xs : List GRule} (h : ∀ r ∈ xs, r.letter.size ≤ maxLen) : SmallL xs := fun r hr => by have := h r hr; unfold maxLen at this; exact this
set_option maxRecDepth 100000 in
theorem opensRule : Opens Try.prog RuleE (fun r => r.letter.size ≤ maxLen) 185 := opens_rule Try.underlying185 (by kernel_rfl) (by kernel_rfl) Try.underlying9 Try.underlying2 Try.underlying2
theorem opensRuleS : Opens Try.prog (SliceE RuleE) (fun xs => ∀ r ∈ xs, r.letter.size ≤ maxLen) 22 := opens_slice opensRule Try.underlying22 (by kernel_rfl)
set_option maxRecDepth 100000 in
theorem opensGram : Opens Try.prog (SliceE RuleE) (fun xs => ∀ r ∈ xs, r.letter.size ≤ maxLen) 24 := opens_struct1 Try.underlying24 (by kernel_rfl) (by kernel_rfl) opensRuleS
end Go.Proofs.Ytfapnipmgmpgaaa

namespace Go.Proofs.Ytfapnipmgmpgaaa
open Go.ChangeShapes Go.WideShapes Go.ChangeAt Go.RowKit Go.Joins
open Go.ChangeMaps (open_string)
end Go.Proofs.Ytfapnipmgmpgaaa

namespace Go.Proofs.Ytfapnipmgmpgaaa
open Go.ChangeShapes Go.WideShapes Go.ChangeAt Go.RowKit Go.Joins Go.Deep
open Go.ChangeMaps (open_string)
section
variable {H : Type} {enc : TypeId × Value → H} {P : Program} {w : World} {base : Nat} {spare : Nat → Bool} {held : Bool}
theorem open_struct6 {t : TypeId} {f0 f1 f2 f3 f4 f5 : Field} {v : Value} {d : DataW H} {p : List MemPlace} {r : Reach} {b0 : Nat} (hs : P.underlying t = some (.struct #[f0, f1, f2, f3, f4, f5])) (hone : oneCellFields P #[f0, f1, f2, f3, f4, f5] = true) (hC : P.cellsOf t = 6)
    (hv : Value.okWide P w r b0 t v) (h : DataW.Trod enc P w base spare held t v d p) : ∃ v0 v1 v2 v3 v4 v5 n x0 x1 x2 x3 x4 x5, v = .agg #[v0, v1, v2, v3, v4, v5] ∧ DataW.trod enc P w base spare held n f0.type [v0] = some x0 ∧ DataW.trod enc P w base spare held n f1.type [v1] = some x1 ∧
      DataW.trod enc P w base spare held n f2.type [v2] = some x2 ∧ DataW.trod enc P w base spare held n f3.type [v3] = some x3 ∧ DataW.trod enc P w base spare held n f4.type [v4] = some x4 ∧ DataW.trod enc P w base spare held n f5.type [v5] = some x5 := by
  obtain ⟨cs, rfl, hsz⟩ := okWide_struct hs hv
  obtain ⟨l⟩ := cs
  match l, hsz.trans hC with
  | [c0, c1, c2, c3, c4, c5], _ =>
    obtain ⟨fuel, hf⟩ := h
    obtain ⟨xs, n, _, _, _, hlen, hg⟩ := DataW.trod_struct hs hf
    obtain ⟨o0, k0⟩ := hone_of hone 0 f0 rfl
    obtain ⟨o1, k1⟩ := hone_of hone 1 f1 rfl
    obtain ⟨o2, k2⟩ := hone_of hone 2 f2 rfl
    obtain ⟨o3, k3⟩ := hone_of hone 3 f3 rfl
    obtain ⟨o4, k4⟩ := hone_of hone 4 f4 rfl
    obtain ⟨o5, k5⟩ := hone_of hone 5 f5 rfl
    match xs, hlen with
    | [y0, y1, y2, y3, y4, y5], _ => exact ⟨c0, c1, c2, c3, c4, c5, n, y0, y1, y2, y3, y4, y5, rfl, by simpa [Value.cells, o0, k0] using hg 0 f0 rfl, by simpa [Value.cells, o1, k1] using hg 1 f1 rfl, by simpa [Value.cells, o2, k2] using hg 2 f2 rfl, by simpa [Value.cells, o3, k3] using hg 3 f3 rfl, by simpa [Value.cells, o4, k4] using hg 4 f4 rfl, by simpa [Value.cells, o5, k5] using hg 5 f5 rfl⟩
end
set_option maxRecDepth 100000 in
theorem open_edit {H : Type} {enc : TypeId × Value → H} {w : World} {base : Nat} {spare : Nat → Bool} {held : Bool} {r : Reach} {b0 : Nat} {v : Value} {d : DataW H} {p : List MemPlace}
    (hv : Value.okWide Try.prog w r b0 26 v) (h : DataW.Trod enc Try.prog w base spare held 26 v d p) : ∃ e, EditV w w.heap.size v e ∧ SmallL e.part ∧ e.map.size ≤ maxLen := by
  obtain ⟨v0, v1, v2, v3, v4, v5, n, x0, x1, x2, x3, x4, x5, rfl, h0, h1, h2, h3, h4, h5⟩ := open_struct6 Try.underlying26 (by kernel_rfl) (by kernel_rfl) hv h
  obtain ⟨k, e0, _, _⟩ := DataW.trod_int Try.underlying2 h0
  obtain ⟨i, e1, _, _⟩ := DataW.trod_int Try.underlying2 h1
  obtain ⟨j, e2, _, _⟩ := DataW.trod_int Try.underlying2 h2
  obtain ⟨kk, e3, _, _⟩ := DataW.trod_int Try.underlying2 h3
  obtain ⟨xs, ⟨v4', e4, hsl⟩, hsm⟩ := opensGram enc w base spare held _ _ _ h4
  obtain ⟨s, e5, _, hs⟩ := DataW.trod_string Try.underlying9 h5
  simp at e0 e1 e2 e3 e4 e5
  subst e0 e1 e2 e3 e4 e5
  exact ⟨⟨k, i, j, kk, xs, s⟩, ⟨_, rfl, hsl⟩, SmallL_of hsm, hs⟩
end Go.Proofs.Ytfapnipmgmpgaaa

