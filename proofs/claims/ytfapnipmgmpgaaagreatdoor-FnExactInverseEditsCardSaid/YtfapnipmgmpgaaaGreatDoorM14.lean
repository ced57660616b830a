import Derived.Test.YtfapnipmgmpgaaaGreatDoorM3
import Derived.Test.YtfapnipmgmpgaaaGreatDoorM9
import Derived.Test.YtfapnipmgmpgaaaGreatDoorM11
import Derived.Test.YtfapnipmgmpgaaaGreatDoorM13
import Derived.Test.YtfapnipmgmpgaaaGreatDoorM2
import Derived.Test.YtfapnipmgmpgaaaGreatDoorM12
namespace Go.Proofs.YtfapnipmgmpgaaaGreatDoor
open Go.RowKit

theorem szE_le2 {e : GEdit} {left : Int} (hl : 0 ≤ left ∧ left ≤ 1048576) (h : 0 ≤ szE e left) : e.part.length ≤ 1048576 := by
  unfold szE at h
  split at h
  · omega
  · obtain ⟨_, h2⟩ := szRs_le e.part left (by omega)
    omega
theorem edit_own {w : World} {lo : Nat} {vR : Value} {e : GEdit} (h : OwnRules w lo vR e.part) : EditV w w.heap.size (.agg (editCells e vR)) e := ⟨vR, rfl, h.sl⟩
theorem addO_ok {s g : Option (List GRule)} {o : List GRule} (h : addO s g = some o) : gramOk o = true := by
  unfold addO at h
  split at h
  · split at h
    · rename_i h2; cases h; exact h2
    · cases h
  · cases h
theorem editS_ok {xs : List GRule} {ls : List Int} {n : Int} {e : GEdit} {o : List GRule} (h : editS xs ls n e = some o) : gramOk o = true := by
  unfold editS at h
  repeat' split at h
  all_goals exact addO_ok h
theorem applyOut_ok (xs : List GRule) (e : GEdit) : gramOk (applyOut xs e) = true := by
  unfold applyOut
  split
  · split
    · unfold editG applyS
      cases h : editS xs (lsOf xs) (lastI (lsOf xs)) e with
      | none => rfl
      | some o => exact gramOk_trim (editS_ok h)
    · rfl
  · rfl
theorem applyOut_len (xs : List GRule) (e : GEdit) : (applyOut xs e).length ≤ 400 := gram_len400 (applyOut_ok xs e)
theorem OwnRules.sl1 {w W : World} {base : Nat} {v : Value} {l : List GRule} (h : OwnRules w base v l) (hb : Below w.heap.size w W) : Sl RuleE W W.heap.size v l := (OwnRules.sl h).up hb
set_option maxRecDepth 100000 in
set_option maxHeartbeats 4000000 in
theorem lawApplyEdit_any (v v' : Value) (xs : List GRule) (e : GEdit) (w : World) (h : Sl RuleE w w.heap.size v xs) (hsm : SmallL xs) (hE : EditV w w.heap.size v' e) (hsmE : SmallL e.part) (hm : e.map.size ≤ maxLen) (htab : Lib.TabIs Tryz.prog w "math/bits.deBruijn64tab" .u8 deB64) :
    Calls Tryz.prog 3 #[.agg #[v], v'] w fun r w' => r = .returned (.bool true) ∧ Below w.heap.size w w' := by
  obtain ⟨vR, rfl, hR⟩ := hE
  have HG := Lib.hid h
  have HR := Lib.hid hR
  have HT := Lib.hid htab
  obtain ⟨A, c, rfl, _⟩ := h
  obtain ⟨AR, cR, rfl, _⟩ := hR
  clear htab
  go_enter Tryz.func3, Tryz.ntmps3
  go_wp2_with fail
  refine (szGrammar_any _ xs _ _ (HG.out.up (by repeat (first | exact Below.refl _ _ | (refine Below.alloc ?_ (by first | omega | (simp; done) | (simp; omega)) _) | (refine Below.setCell ?_ (by first | exact Nat.le_refl _ | (show _ ≤ _; omega) | (simp; done) | (simp; omega)) _) | refine below_drewN ?_ _ | refine Below.drew ?_))) hsm (by omega)).mono ?_
  rintro e w1 ⟨rfl, hb_1⟩
  have Kx_2 : Blk w1 (w.heap.size + 1) #[.int .i64 e.kind, .int .i64 e.i, .int .i64 e.j, .int .i64 e.k, .slice AR e.part.length cR, .string e.map] 26 := by have := (Below.unalloc hb_1).2; simpa [Blk] using this
  replace hb_1 := (Below.unalloc hb_1).1
  have Ka_3 : Blk w1 (w.heap.size) #[.slice A xs.length c] 24 := by have := (Below.unalloc hb_1).2; simpa [Blk] using this
  replace hb_1 := (Below.unalloc hb_1).1
  have z_w1 : w.heap.size ≤ w1.heap.size := hb_1.size
  have KB_4 := Lib.hid hb_1
  have lx1 := Blk.lt Kx_2
  by_cases hneg : szRs xs 1048576 < 0
  · rw [if_pos hneg]
    clear hneg
    go_wp2_with fail
    go_ret
    exact ⟨rfl, KB_4.out⟩
  rw [if_neg hneg]
  obtain ⟨hle, hlen⟩ := szRs_le xs 1048576 (by omega)
  have hn : xs.length ≤ 1048576 := by omega
  obtain ⟨X, hX⟩ : ∃ X, szRs xs 1048576 = X := ⟨_, rfl⟩
  rw [hX] at hneg hle ⊢
  clear hX hlen
  have ca0_5 := Blk.cell (i := 0) (v := .slice A xs.length c) Ka_3 rfl
  have la_6 := Blk.lt Ka_3
  have cx0_7 := Blk.cell (i := 0) (v := .int .i64 e.kind) Kx_2 rfl
  have cx1_8 := Blk.cell (i := 1) (v := .int .i64 e.i) Kx_2 rfl
  have cx2_9 := Blk.cell (i := 2) (v := .int .i64 e.j) Kx_2 rfl
  have cx3_10 := Blk.cell (i := 3) (v := .int .i64 e.k) Kx_2 rfl
  have cx4_11 := Blk.cell (i := 4) (v := .slice AR e.part.length cR) Kx_2 rfl
  have cx5_12 := Blk.cell (i := 5) (v := .string e.map) Kx_2 rfl
  have lx_13 := Blk.lt Kx_2
  go_wp2_with fail
  refine (szEdit_any _ e _ _ ⟨_, rfl, HR.out.up KB_4.out⟩ hsmE hm (by omega)).mono ?_
  rintro e w2 ⟨rfl, hb_14⟩
  have z_w2 : w1.heap.size ≤ w2.heap.size := hb_14.size
  have Kx_15 := Blk.up Kx_2 hb_14
  have Ka_16 := Blk.up Ka_3 hb_14
  have KB_17 := Lib.hid (Below.tr KB_4.out hb_14)
  clear hb_1 ca0_5 la_6 cx0_7 cx1_8 cx2_9 cx3_10 cx4_11 cx5_12 lx_13 Kx_2 Ka_3 KB_4
  by_cases hneg2 : szE e X < 0
  · skip
    go_wp2_with fail
    go_ret
    exact ⟨rfl, KB_17.out⟩
  have hn2 : e.part.length ≤ 1048576 := szE_le2 (left := X) (by omega) (by omega)
  have HN := Lib.hid hneg2
  have hlo := applyOut_len xs e
  clear hneg hle
  clear hb_14
  go_upto_region 8 with fail
  go_cut [6, 7] (fun p q wx => ∃ (Z : Nat) (A9 : Option Addr) (c9 : Nat), p = .pointer (some ⟨Z, 0, none⟩) ∧ q = .int .i64 (applyCode xs e) ∧ w2.heap.size ≤ Z ∧ Below w2.heap.size w2 wx ∧ Blk wx Z #[.slice A9 (applyOut xs e).length c9] 31 ∧ OwnRules wx w2.heap.size (.slice A9 (applyOut xs e).length c9) (applyOut xs e))
  case first =>
    have B0 := Below.drew (Below.refl w2.heap.size w2)
    have BA := Lib.hid (fun (o : Obj) => Below.drew (Below.alloc (Below.refl w2.heap.size w2) (Nat.le_refl _) o))
    have KD := keep17 Ka_16 Kx_15 B0
    have HBS := Lib.hid KB_17.out
    have HKA := Lib.hid Ka_16
    have HKX := Lib.hid Kx_15
    go_region_held3 (fun w' => Below w2.heap.size w2 w' ∧ w'.cell? ⟨w.heap.size, 0, none⟩ = some (.slice A xs.length c) ∧ w'.cell? ⟨w.heap.size + 1, 0, none⟩ = some (.int .i64 e.kind) ∧ w'.cell? ⟨w.heap.size + 1, 1, none⟩ = some (.int .i64 e.i) ∧ w'.cell? ⟨w.heap.size + 1, 2, none⟩ = some (.int .i64 e.j) ∧ w'.cell? ⟨w.heap.size + 1, 3, none⟩ = some (.int .i64 e.k) ∧ w'.cell? ⟨w.heap.size + 1, 4, none⟩ = some (.slice AR e.part.length cR) ∧ w'.cell? ⟨w.heap.size + 1, 5, none⟩ = some (.string e.map))
      (first | (with_reducible exact KD) | (with_reducible exact keep17 HKA.out HKX.out (BA.out _)) | (with_reducible exact keep17 HKA.out HKX.out b1) | (with_reducible exact keep17 HKA.out HKX.out (b1.alloc z1 _)) | (with_reducible exact keep17 HKA.out HKX.out b2) | (with_reducible exact keep17 HKA.out HKX.out (b2.alloc z2 _)) | (with_reducible exact keep17 HKA.out HKX.out b3) | (with_reducible exact keep17 HKA.out HKX.out (b3.alloc z3 _)) | (with_reducible exact keep17 HKA.out HKX.out (b3.setCell (Nat.le_refl _) _)) | (with_reducible exact keep17 HKA.out HKX.out (b3.setCell z1 _)) | (with_reducible exact keep17 HKA.out HKX.out (b3.setCell z2 _)) | (with_reducible exact keep17 HKA.out HKX.out (b3.setCell z3 _)))
      (first
        | (go_at_call 12; (refine (toGrammar_any _ xs _ (HG.out.up (by repeat (first | exact HBS.out | (refine Below.alloc ?_ (by first | omega | (simp; done) | (simp; omega)) _) | (refine Below.setCell ?_ (by first | exact Nat.le_refl _ | (show _ ≤ _; omega) | (simp; done) | (simp; omega)) _) | refine below_drewN ?_ _ | refine Below.drew ?_))) hn).mono ?_); rintro r u1 ⟨v1, rfl, own1, hb1⟩; have b1 : Below w2.heap.size w2 u1 := (by first | exact Below.undrew hb1 | exact (Below.unalloc (Below.undrew hb1)).1); have z1 := b1.size; (try (have KZ : Blk u1 w2.heap.size #[.slice none 0 0] 31 := (Below.unalloc (Below.undrew hb1)).2; have l1 := Blk.lt KZ)))
        | (go_at_call 13; (refine (toEditO_any _ e _ ⟨_, rfl, HR.out.up (by repeat (first | exact Below.tr HBS.out b1 | (refine Below.alloc ?_ (by first | omega | (simp; done) | (simp; omega)) _) | (refine Below.setCell ?_ (by first | exact Nat.le_refl _ | (show _ ≤ _; omega) | (simp; done) | (simp; omega)) _) | refine below_drewN ?_ _ | refine Below.drew ?_))⟩ hn2).mono ?_); rintro r u2 ⟨v2, rfl, own2, hb2⟩; have c2 : Below u1.heap.size u1 u2 := (by first | exact hb2 | exact (Below.unalloc hb2).1); have b2 := Below.tr b1 c2; have z2 := b2.size; have y2 := c2.size; (first | (have KZ := Blk.up KZ c2) | (have KZ : Blk u2 u1.heap.size #[.slice none 0 0] 31 := (Below.unalloc hb2).2) | skip); (try have l2 := Blk.lt KZ))
        | (go_at_call 11; (refine (specApply_any _ _ xs e _ (OwnRules.sl1 own1 (by repeat (first | exact c2 | (refine Below.alloc ?_ (by first | omega | (simp; done) | (simp; omega)) _) | (refine Below.setCell ?_ (by first | exact Nat.le_refl _ | (show _ ≤ _; omega) | (simp; done) | (simp; omega)) _) | refine below_drewN ?_ _ | refine Below.drew ?_))) ⟨_, rfl, OwnRules.sl1 own2 (by repeat (first | exact Below.refl _ _ | (refine Below.alloc ?_ (by first | omega | (simp; done) | (simp; omega)) _) | (refine Below.setCell ?_ (by first | exact Nat.le_refl _ | (show _ ≤ _; omega) | (simp; done) | (simp; omega)) _) | refine below_drewN ?_ _ | refine Below.drew ?_))⟩ hn2 hsm hsmE hm).mono ?_); rintro r u3 ⟨hb3, v3, own3, rfl⟩; obtain ⟨A9, c9, rfl, _⟩ := own_nil own3; have c3 : Below u2.heap.size u2 u3 := (by first | exact hb3 | exact (Below.unalloc hb3).1); have b3 := Below.tr b2 c3; have z3 := b3.size; have y3 := c3.size; (first | (have KZ := Blk.up KZ c3) | (have KZ : Blk u3 u2.heap.size #[.slice none 0 0] 31 := (Below.unalloc hb3).2) | skip); (try (have kz := Blk.cell (i := 0) (v := .slice none 0 0) KZ rfl; have fz := Blk.frozen KZ 0; have lz := Blk.lt KZ))))
    all_goals
      go_wp2_with fail
      go_meet
      have own4 : OwnRules u3 w2.heap.size _ _ := ownsRow_more own3 (base' := w2.heap.size) (by first | omega | (simp; omega))
      first
        | exact ⟨u3.heap.size, A9, c9, rfl, rfl, z3, b3.alloc z3 _, Blk.new _ _ _, World.ownsRow.alloc own4 _⟩
        | exact ⟨w2.heap.size, A9, c9, rfl, rfl, Nat.le_refl _, b3.setCell (show w2.heap.size ≤ (⟨w2.heap.size, 0, none⟩ : Addr).block from Nat.le_refl _) _, KZ.set 0 _, ownsRow_more (ownsRow_setCell_below own3 (a := ⟨w2.heap.size, 0, none⟩) (by first | (show _ < _; omega) | (simp; done) | (simp; omega)) _) (by first | omega | (simp; omega))⟩
        | exact ⟨u1.heap.size, A9, c9, rfl, rfl, z1, b3.setCell (show w2.heap.size ≤ (⟨u1.heap.size, 0, none⟩ : Addr).block from z1) _, KZ.set 0 _, ownsRow_more (ownsRow_setCell_below own3 (a := ⟨u1.heap.size, 0, none⟩) (by first | (show _ < _; omega) | (simp; done) | (simp; omega)) _) (by first | omega | (simp; omega))⟩
        | exact ⟨u2.heap.size, A9, c9, rfl, rfl, z2, b3.setCell (show w2.heap.size ≤ (⟨u2.heap.size, 0, none⟩ : Addr).block from z2) _, KZ.set 0 _, ownsRow_more (ownsRow_setCell_below own3 (a := ⟨u2.heap.size, 0, none⟩) (by first | (show _ < _; omega) | (simp; done) | (simp; omega)) _) (by first | omega | (simp; omega))⟩
  case rest =>
    obtain ⟨Z, A9, c9, rfl, rfl, hZl, hbR, KZ, hown⟩ := hcut
    have KW := Lib.hid (OwnRules.sl hown)
    have lZ := Blk.lt KZ
    revert hbR KZ KW lZ
    clear hown
    generalize wc = w3
    intro hbR KZ KW lZ
    have hb_18 := hbR
    have z_w3 : w2.heap.size ≤ w3.heap.size := hb_18.size
    have Kx_19 := Blk.up Kx_15 hb_18
    have Ka_20 := Blk.up Ka_16 hb_18
    have KB_21 := Lib.hid (Below.tr KB_17.out hb_18)
    clear Kx_15 Ka_16 KB_17
    have ca0_22 := Blk.cell (i := 0) (v := .slice A xs.length c) Ka_20 rfl
    have la_23 := Blk.lt Ka_20
    go_wp2_with fail
    refine (toGrammar_any _ xs _ (HG.out.up (by repeat (first | exact KB_21.out | (refine Below.alloc ?_ (by first | omega | (simp; done) | (simp; omega)) _) | (refine Below.setCell ?_ (by first | exact Nat.le_refl _ | (show _ ≤ _; omega) | (simp; done) | (simp; omega)) _) | refine below_drewN ?_ _ | refine Below.drew ?_))) hn).mono ?_
    rintro e w4 ⟨v4, rfl, own4, hb_24⟩
    have z_w4 : w3.heap.size ≤ w4.heap.size := hb_24.size
    have Kx_25 := Blk.up Kx_19 hb_24
    have Ka_26 := Blk.up Ka_20 hb_24
    have KB_27 := Lib.hid (Below.tr KB_21.out hb_24)
    have Kz_28 := Blk.up KZ hb_24
    have KW_29 := Lib.hid (SlS.upN KW.out (by omega) hb_24)
    clear hb_18 ca0_22 la_23 Kx_19 Ka_20 KB_21 KZ KW
    obtain ⟨A4, c4, rfl, _⟩ := own_nil own4
    have KX := Lib.hid (OwnR.of own4)
    clear own4
    have cx0_30 := Blk.cell (i := 0) (v := .int .i64 e.kind) Kx_25 rfl
    have cx1_31 := Blk.cell (i := 1) (v := .int .i64 e.i) Kx_25 rfl
    have cx2_32 := Blk.cell (i := 2) (v := .int .i64 e.j) Kx_25 rfl
    have cx3_33 := Blk.cell (i := 3) (v := .int .i64 e.k) Kx_25 rfl
    have cx4_34 := Blk.cell (i := 4) (v := .slice AR e.part.length cR) Kx_25 rfl
    have cx5_35 := Blk.cell (i := 5) (v := .string e.map) Kx_25 rfl
    have lx_36 := Blk.lt Kx_25
    go_wp2_with fail
    refine (toEditO_any _ e _ ⟨_, rfl, HR.out.up (by repeat (first | exact KB_27.out | (refine Below.alloc ?_ (by first | omega | (simp; done) | (simp; omega)) _) | (refine Below.setCell ?_ (by first | exact Nat.le_refl _ | (show _ ≤ _; omega) | (simp; done) | (simp; omega)) _) | refine below_drewN ?_ _ | refine Below.drew ?_))⟩ hn2).mono ?_
    rintro e w5 ⟨vE, rfl, own5, hb_37⟩
    have Kp_38 : Blk w5 (w4.heap.size) #[.slice A4 xs.length c4] 31 := by have := (Below.unalloc hb_37).2; simpa [Blk] using this
    replace hb_37 := (Below.unalloc hb_37).1
    have z_w5 : w4.heap.size ≤ w5.heap.size := hb_37.size
    have Kx_39 := Blk.up Kx_25 hb_37
    have Ka_40 := Blk.up Ka_26 hb_37
    have KB_41 := Lib.hid (Below.tr KB_27.out hb_37)
    have Kz_42 := Blk.up Kz_28 hb_37
    have KW_43 := Lib.hid (SlS.upN KW_29.out (by omega) hb_37)
    have KX_44 := Lib.hid (OwnR.up KX.out hb_37)
    clear hb_24 cx0_30 cx1_31 cx2_32 cx3_33 cx4_34 cx5_35 lx_36 Kx_25 Ka_26 KB_27 Kz_28 KW_29 KX
    obtain ⟨A5, c5, rfl, _⟩ := own_nil own5
    have KE := Lib.hid (OwnR.of (ownsRow_more own5 (base' := w4.heap.size + 1) (by simp)))
    clear own5
    have cp0_45 := Blk.cell (i := 0) (v := .slice A4 xs.length c4) Kp_38 rfl
    have lp_46 := Blk.lt Kp_38
    go_wp2_with fail
    refine (implApply_any _ _ xs e _ (SlS.up (OwnR.sl KX_44.out) (by repeat (first | exact Below.refl _ _ | (refine Below.alloc ?_ (by first | omega | (simp; done) | (simp; omega)) _) | (refine Below.setCell ?_ (by first | exact Nat.le_refl _ | (show _ ≤ _; omega) | (simp; done) | (simp; omega)) _) | refine below_drewN ?_ _ | refine Below.drew ?_))) ⟨_, rfl, SlS.up (OwnR.sl KE.out) (by repeat (first | exact Below.refl _ _ | (refine Below.alloc ?_ (by first | omega | (simp; done) | (simp; omega)) _) | (refine Below.setCell ?_ (by first | exact Nat.le_refl _ | (show _ ≤ _; omega) | (simp; done) | (simp; omega)) _) | refine below_drewN ?_ _ | refine Below.drew ?_))⟩ hn hn2 hm (tabB HT.out (by repeat (first | exact KB_41.out | (refine Below.alloc ?_ (by first | omega | (simp; done) | (simp; omega)) _) | (refine Below.setCell ?_ (by first | exact Nat.le_refl _ | (show _ ≤ _; omega) | (simp; done) | (simp; omega)) _) | refine below_drewN ?_ _ | refine Below.drew ?_)))).mono ?_
    rintro e w6 ⟨hb_47, vQ, own6, rfl⟩
    have Kq_48 : Blk w6 (w5.heap.size) #[.int .i64 e.kind, .int .i64 e.i, .int .i64 e.j, .int .i64 e.k, .slice A5 e.part.length c5, .string e.map] 36 := by have := (Below.unalloc hb_47).2; simpa [Blk] using this
    replace hb_47 := (Below.unalloc hb_47).1
    have z_w6 : w5.heap.size ≤ w6.heap.size := hb_47.size
    have Kx_49 := Blk.up Kx_39 hb_47
    have Ka_50 := Blk.up Ka_40 hb_47
    have KB_51 := Lib.hid (Below.tr KB_41.out hb_47)
    have Kz_52 := Blk.up Kz_42 hb_47
    have KW_53 := Lib.hid (SlS.upN KW_43.out (by omega) hb_47)
    have KX_54 := Lib.hid (OwnR.up KX_44.out hb_47)
    have Kp_55 := Blk.up Kp_38 hb_47
    have KE_56 := Lib.hid (OwnR.up KE.out hb_47)
    clear hb_37 cp0_45 lp_46 Kx_39 Ka_40 KB_41 Kz_42 KW_43 KX_44 Kp_38 KE
    obtain ⟨A6, c6, rfl, _⟩ := own_nil own6
    have KQ := Lib.hid (OwnR.of (ownsRow_more own6 (base' := w5.heap.size + 1) (by simp)))
    clear own6
    have qc : (applyCode xs e != applyCode xs e) = false := by simp
    have cz0_57 := Blk.cell (i := 0) (v := .slice A9 (applyOut xs e).length c9) Kz_52 rfl
    have lz_58 := Blk.lt Kz_52
    go_wp2_with fail
    refine (eqGrammar_any _ _ (applyOut xs e) _ (SlS.up (OwnR.sl KQ.out) (by repeat (first | exact Below.refl _ _ | (refine Below.alloc ?_ (by first | omega | (simp; done) | (simp; omega)) _) | (refine Below.setCell ?_ (by first | exact Nat.le_refl _ | (show _ ≤ _; omega) | (simp; done) | (simp; omega)) _) | refine below_drewN ?_ _ | refine Below.drew ?_))) (SlS.le (SlS.below KW_53.out (by repeat (first | exact Below.refl _ _ | (refine Below.alloc ?_ (by first | omega | (simp; done) | (simp; omega)) _) | (refine Below.setCell ?_ (by first | exact Nat.le_refl _ | (show _ ≤ _; omega) | (simp; done) | (simp; omega)) _) | refine below_drewN ?_ _ | refine Below.drew ?_))) (by simp; omega))).mono ?_
    rintro e w7 ⟨rfl, hb_59⟩
    have Kg_60 : Blk w7 (w6.heap.size) #[.slice A6 (applyOut xs e).length c6] 31 := by have := (Below.unalloc hb_59).2; simpa [Blk] using this
    replace hb_59 := (Below.unalloc hb_59).1
    have z_w7 : w6.heap.size ≤ w7.heap.size := hb_59.size
    have Kx_61 := Blk.up Kx_49 hb_59
    have Ka_62 := Blk.up Ka_50 hb_59
    have KB_63 := Lib.hid (Below.tr KB_51.out hb_59)
    have Kz_64 := Blk.up Kz_52 hb_59
    have KW_65 := Lib.hid (SlS.upN KW_53.out (by omega) hb_59)
    have KX_66 := Lib.hid (OwnR.up KX_54.out hb_59)
    have Kp_67 := Blk.up Kp_55 hb_59
    have KE_68 := Lib.hid (OwnR.up KE_56.out hb_59)
    have Kq_69 := Blk.up Kq_48 hb_59
    have KQ_70 := Lib.hid (OwnR.up KQ.out hb_59)
    clear hb_47 cz0_57 lz_58 Kx_49 Ka_50 KB_51 Kz_52 KW_53 KX_54 Kp_55 KE_56 Kq_48 KQ
    have cp0_71 := Blk.cell (i := 0) (v := .slice A4 xs.length c4) Kp_67 rfl
    have lp_72 := Blk.lt Kp_67
    have ca0_73 := Blk.cell (i := 0) (v := .slice A xs.length c) Ka_62 rfl
    have la_74 := Blk.lt Ka_62
    go_wp2_with fail
    have KD := keep11 Kp_67 Ka_62 (Below.drew (Below.refl w7.heap.size w7))
    have HKA := Lib.hid Ka_62
    have HKP := Lib.hid Kp_67
    have HBS := Lib.hid KB_63.out
    have HXS := Lib.hid (OwnR.sl KX_66.out)
    go_region_held3 (fun w' => Below w7.heap.size w7 w' ∧ w'.cell? ⟨w4.heap.size, 0, none⟩ = some (.slice A4 xs.length c4) ∧ w'.cell? ⟨w.heap.size, 0, none⟩ = some (.slice A xs.length c))
      (first | (with_reducible exact KD) | (with_reducible exact keep11 HKP.out HKA.out b8) | (with_reducible exact keep11 HKP.out HKA.out b9))
      (first
        | (go_at_call 12; (refine (toGrammar_any _ xs _ (HG.out.up (by repeat (first | exact HBS.out | (refine Below.alloc ?_ (by first | omega | (simp; done) | (simp; omega)) _) | (refine Below.setCell ?_ (by first | exact Nat.le_refl _ | (show _ ≤ _; omega) | (simp; done) | (simp; omega)) _) | refine below_drewN ?_ _ | refine Below.drew ?_))) hn).mono ?_); rintro r w8 ⟨v8, rfl, own8, hb8⟩; have b8 := Below.undrew hb8)
        | (go_at_call 15; (refine (eqGrammar_any _ _ xs _ (SlS.up HXS.out b8) own8.sl).mono ?_); rintro r w9 ⟨rfl, hb9⟩; have b9 := Below.tr b8 hb9))
    have hbR9 := b9
    clear KD HKA HKP HBS HXS b8 b9 hb8 hb9 own8
    have hb_75 := hbR9
    have z_w9 : w7.heap.size ≤ w9.heap.size := hb_75.size
    have Kx_76 := Blk.up Kx_61 hb_75
    have Ka_77 := Blk.up Ka_62 hb_75
    have KB_78 := Lib.hid (Below.tr KB_63.out hb_75)
    have Kz_79 := Blk.up Kz_64 hb_75
    have KW_80 := Lib.hid (SlS.upN KW_65.out (by omega) hb_75)
    have KX_81 := Lib.hid (OwnR.up KX_66.out hb_75)
    have Kp_82 := Blk.up Kp_67 hb_75
    have KE_83 := Lib.hid (OwnR.up KE_68.out hb_75)
    have Kq_84 := Blk.up Kq_69 hb_75
    have KQ_85 := Lib.hid (OwnR.up KQ_70.out hb_75)
    have Kg_86 := Blk.up Kg_60 hb_75
    clear hb_59 cp0_71 lp_72 ca0_73 la_74 Kx_61 Ka_62 KB_63 Kz_64 KW_65 KX_66 Kp_67 KE_68 Kq_69 KQ_70 Kg_60
    have cq0_87 := Blk.cell (i := 0) (v := .int .i64 e.kind) Kq_84 rfl
    have cq1_88 := Blk.cell (i := 1) (v := .int .i64 e.i) Kq_84 rfl
    have cq2_89 := Blk.cell (i := 2) (v := .int .i64 e.j) Kq_84 rfl
    have cq3_90 := Blk.cell (i := 3) (v := .int .i64 e.k) Kq_84 rfl
    have cq4_91 := Blk.cell (i := 4) (v := .slice A5 e.part.length c5) Kq_84 rfl
    have cq5_92 := Blk.cell (i := 5) (v := .string e.map) Kq_84 rfl
    have lq_93 := Blk.lt Kq_84
    have cx0_94 := Blk.cell (i := 0) (v := .int .i64 e.kind) Kx_76 rfl
    have cx1_95 := Blk.cell (i := 1) (v := .int .i64 e.i) Kx_76 rfl
    have cx2_96 := Blk.cell (i := 2) (v := .int .i64 e.j) Kx_76 rfl
    have cx3_97 := Blk.cell (i := 3) (v := .int .i64 e.k) Kx_76 rfl
    have cx4_98 := Blk.cell (i := 4) (v := .slice AR e.part.length cR) Kx_76 rfl
    have cx5_99 := Blk.cell (i := 5) (v := .string e.map) Kx_76 rfl
    have lx_100 := Blk.lt Kx_76
    go_wp2_with fail
    have KD := keep66 Kq_84 Kx_76 (Below.drew (Below.refl w9.heap.size w9))
    have HKA := Lib.hid Kx_76
    have HKP := Lib.hid Kq_84
    have HBS := Lib.hid KB_78.out
    have HXS := Lib.hid (OwnR.sl KE_83.out)
    go_region_held3 (fun w' => Below w9.heap.size w9 w' ∧ w'.cell? ⟨w5.heap.size, 0, none⟩ = some (.int .i64 e.kind) ∧ w'.cell? ⟨w5.heap.size, 1, none⟩ = some (.int .i64 e.i) ∧ w'.cell? ⟨w5.heap.size, 2, none⟩ = some (.int .i64 e.j) ∧ w'.cell? ⟨w5.heap.size, 3, none⟩ = some (.int .i64 e.k) ∧ w'.cell? ⟨w5.heap.size, 4, none⟩ = some (.slice A5 e.part.length c5) ∧ w'.cell? ⟨w5.heap.size, 5, none⟩ = some (.string e.map) ∧ w'.cell? ⟨w.heap.size + 1, 0, none⟩ = some (.int .i64 e.kind) ∧ w'.cell? ⟨w.heap.size + 1, 1, none⟩ = some (.int .i64 e.i) ∧ w'.cell? ⟨w.heap.size + 1, 2, none⟩ = some (.int .i64 e.j) ∧ w'.cell? ⟨w.heap.size + 1, 3, none⟩ = some (.int .i64 e.k) ∧ w'.cell? ⟨w.heap.size + 1, 4, none⟩ = some (.slice AR e.part.length cR) ∧ w'.cell? ⟨w.heap.size + 1, 5, none⟩ = some (.string e.map))
      (first | (with_reducible exact KD) | (with_reducible exact keep66 HKP.out HKA.out b10) | (with_reducible exact keep66 HKP.out HKA.out b11))
      (first
        | (go_at_call 13; (refine (toEditO_any _ e _ ⟨_, rfl, HR.out.up (by repeat (first | exact HBS.out | (refine Below.alloc ?_ (by first | omega | (simp; done) | (simp; omega)) _) | (refine Below.setCell ?_ (by first | exact Nat.le_refl _ | (show _ ≤ _; omega) | (simp; done) | (simp; omega)) _) | refine below_drewN ?_ _ | refine Below.drew ?_))⟩ hn2).mono ?_); rintro r w10 ⟨v10, rfl, own10, hb10⟩; have b10 := Below.undrew hb10)
        | (go_at_call 16; (refine (eqEdit_any _ _ e _ ⟨_, rfl, SlS.up HXS.out b10⟩ ⟨_, rfl, own10.sl⟩).mono ?_); rintro r w11 ⟨rfl, hb11⟩; have b11 := Below.tr b10 hb11))
    have hbR11 := b11
    clear KD HKA HKP HBS HXS b10 b11 hb10 hb11 own10
    have hb_101 := hbR11
    have z_w11 : w9.heap.size ≤ w11.heap.size := hb_101.size
    have Kx_102 := Blk.up Kx_76 hb_101
    have Ka_103 := Blk.up Ka_77 hb_101
    have KB_104 := Lib.hid (Below.tr KB_78.out hb_101)
    have Kz_105 := Blk.up Kz_79 hb_101
    have KW_106 := Lib.hid (SlS.upN KW_80.out (by omega) hb_101)
    have KX_107 := Lib.hid (OwnR.up KX_81.out hb_101)
    have Kp_108 := Blk.up Kp_82 hb_101
    have KE_109 := Lib.hid (OwnR.up KE_83.out hb_101)
    have Kq_110 := Blk.up Kq_84 hb_101
    have KQ_111 := Lib.hid (OwnR.up KQ_85.out hb_101)
    have Kg_112 := Blk.up Kg_86 hb_101
    clear hb_75 cq0_87 cq1_88 cq2_89 cq3_90 cq4_91 cq5_92 lq_93 cx0_94 cx1_95 cx2_96 cx3_97 cx4_98 cx5_99 lx_100 Kx_76 Ka_77 KB_78 Kz_79 KW_80 KX_81 Kp_82 KE_83 Kq_84 KQ_85 Kg_86
    have cp0_113 := Blk.cell (i := 0) (v := .slice A4 xs.length c4) Kp_108 rfl
    have lp_114 := Blk.lt Kp_108
    go_wp2_with fail
    refine (markGrammar1 _ _ xs _ (KX_107.out).1 (by omega)).mono ?_
    rintro e w12 ⟨rfl, ho_116, hg_115⟩
    have hc_117 := chg_of KX_107.out hg_115
    have z_w12 : w11.heap.size ≤ w12.heap.size := Chg.size hc_117
    have Kx_118 := Blk.chg Kx_102 hc_117 (by omega)
    have Ka_119 := Blk.chg Ka_103 hc_117 (by omega)
    have KB_120 := Lib.hid (Below.chg KB_104.out (by have := Below.size KB_104.out; omega) hc_117 (by omega))
    have Kz_121 := Blk.chg Kz_105 hc_117 (by omega)
    have KW_122 := Lib.hid (SlS.chgN KW_106.out (by omega) hc_117 (by omega))
    have KX_123 := Lib.hid (OwnR.markedC KX_107.out ho_116 hc_117)
    have Kp_124 := Blk.chg Kp_108 hc_117 (by omega)
    have KE_125 := Lib.hid (OwnR.chg KE_109.out hc_117 (by omega))
    have Kq_126 := Blk.chg Kq_110 hc_117 (by omega)
    have KQ_127 := Lib.hid (OwnR.chg KQ_111.out hc_117 (by omega))
    have Kg_128 := Blk.chg Kg_112 hc_117 (by omega)
    clear hb_101 cp0_113 lp_114 Kx_102 Ka_103 KB_104 Kz_105 KW_106 KX_107 Kp_108 KE_109 Kq_110 KQ_111 Kg_112 ho_116 hg_115 hc_117
    clear Kp_124
    have cq0_129 := Blk.cell (i := 0) (v := .int .i64 e.kind) Kq_126 rfl
    have cq1_130 := Blk.cell (i := 1) (v := .int .i64 e.i) Kq_126 rfl
    have cq2_131 := Blk.cell (i := 2) (v := .int .i64 e.j) Kq_126 rfl
    have cq3_132 := Blk.cell (i := 3) (v := .int .i64 e.k) Kq_126 rfl
    have cq4_133 := Blk.cell (i := 4) (v := .slice A5 e.part.length c5) Kq_126 rfl
    have cq5_134 := Blk.cell (i := 5) (v := .string e.map) Kq_126 rfl
    have lq_135 := Blk.lt Kq_126
    go_wp2_with fail
    refine (markEdit_any _ _ e (1 + 3 * xs.length) _ (KE_125.out).1 (by omega) (by omega)).mono ?_
    rintro e w13 ⟨rfl, ho_137, hg_136⟩
    have hc_138 := chg_of KE_125.out hg_136
    have z_w13 : w12.heap.size ≤ w13.heap.size := Chg.size hc_138
    have Kx_139 := Blk.chg Kx_118 hc_138 (by omega)
    have Ka_140 := Blk.chg Ka_119 hc_138 (by omega)
    have KB_141 := Lib.hid (Below.chg KB_120.out (by have := Below.size KB_120.out; omega) hc_138 (by omega))
    have Kz_142 := Blk.chg Kz_121 hc_138 (by omega)
    have KW_143 := Lib.hid (SlS.chgN KW_122.out (by omega) hc_138 (by omega))
    have KX_144 := Lib.hid (OwnR.chg KX_123.out hc_138 (by omega))
    have KE_145 := Lib.hid (OwnR.markedC KE_125.out ho_137 hc_138)
    have Kq_146 := Blk.chg Kq_126 hc_138 (by omega)
    have KQ_147 := Lib.hid (OwnR.chg KQ_127.out hc_138 (by omega))
    have Kg_148 := Blk.chg Kg_128 hc_138 (by omega)
    clear cq0_129 cq1_130 cq2_131 cq3_132 cq4_133 cq5_134 lq_135 Kx_118 Ka_119 KB_120 Kz_121 KW_122 KX_123 KE_125 Kq_126 KQ_127 Kg_128 ho_137 hg_136 hc_138
    clear Kq_146
    have e0 : (decide (((1 + 3 * xs.length + 3 * e.part.length : Nat) : Int) < 0)) = false := by simp; omega
    have cg0_149 := Blk.cell (i := 0) (v := .slice A6 (applyOut xs e).length c6) Kg_148 rfl
    have lg_150 := Blk.lt Kg_148
    have cz0_151 := Blk.cell (i := 0) (v := .slice A9 (applyOut xs e).length c9) Kz_142 rfl
    have lz_152 := Blk.lt Kz_142
    go_wp2_with fail
    refine (eqGrammar_any _ _ (applyOut xs e) _ (OwnR.sl KQ_147.out) (SlS.le KW_143.out (by omega))).mono ?_
    rintro e w14 ⟨rfl, hb_153⟩
    have z_w14 : w13.heap.size ≤ w14.heap.size := hb_153.size
    have Kx_154 := Blk.up Kx_139 hb_153
    have Ka_155 := Blk.up Ka_140 hb_153
    have KB_156 := Lib.hid (Below.tr KB_141.out hb_153)
    have Kz_157 := Blk.up Kz_142 hb_153
    have KW_158 := Lib.hid (SlS.upN KW_143.out (by omega) hb_153)
    have KX_159 := Lib.hid (OwnR.up KX_144.out hb_153)
    have KE_160 := Lib.hid (OwnR.up KE_145.out hb_153)
    have KQ_161 := Lib.hid (OwnR.up KQ_147.out hb_153)
    have Kg_162 := Blk.up Kg_148 hb_153
    clear cg0_149 lg_150 cz0_151 lz_152 Kx_139 Ka_140 KB_141 Kz_142 KW_143 KX_144 KE_145 KQ_147 Kg_148
    have cg0_163 := Blk.cell (i := 0) (v := .slice A6 (applyOut xs e).length c6) Kg_162 rfl
    have lg_164 := Blk.lt Kg_162
    go_wp2_with fail
    refine (markGrammar1 _ _ (applyOut xs e) _ (KQ_161.out).1 (by omega)).mono ?_
    rintro e w15 ⟨rfl, ho_166, hg_165⟩
    have hc_167 := chg_of KQ_161.out hg_165
    have z_w15 : w14.heap.size ≤ w15.heap.size := Chg.size hc_167
    have Kx_168 := Blk.chg Kx_154 hc_167 (by omega)
    have Ka_169 := Blk.chg Ka_155 hc_167 (by omega)
    have KB_170 := Lib.hid (Below.chg KB_156.out (by have := Below.size KB_156.out; omega) hc_167 (by omega))
    have Kz_171 := Blk.chg Kz_157 hc_167 (by omega)
    have KW_172 := Lib.hid (SlS.chgN KW_158.out (by omega) hc_167 (by omega))
    have KX_173 := Lib.hid (OwnR.chg KX_159.out hc_167 (by omega))
    have KE_174 := Lib.hid (OwnR.chg KE_160.out hc_167 (by omega))
    have KQ_175 := Lib.hid (OwnR.markedC KQ_161.out ho_166 hc_167)
    have Kg_176 := Blk.chg Kg_162 hc_167 (by omega)
    clear hb_153 cg0_163 lg_164 Kx_154 Ka_155 KB_156 Kz_157 KW_158 KX_159 KE_160 KQ_161 Kg_162 ho_166 hg_165 hc_167
    clear e0
    have cg0_177 := Blk.cell (i := 0) (v := .slice A6 (applyOut xs e).length c6) Kg_176 rfl
    have lg_178 := Blk.lt Kg_176
    go_wp2_with fail
    refine (heldGrammar1 _ (applyOut xs e).length _ (OwnR.sl KQ_175.out) (by omega)).mono ?_
    rintro e w16 ⟨rfl, hb_179⟩
    have z_w16 : w15.heap.size ≤ w16.heap.size := hb_179.size
    have Kx_180 := Blk.up Kx_168 hb_179
    have Ka_181 := Blk.up Ka_169 hb_179
    have KB_182 := Lib.hid (Below.tr KB_170.out hb_179)
    have Kz_183 := Blk.up Kz_171 hb_179
    have KW_184 := Lib.hid (SlS.upN KW_172.out (by omega) hb_179)
    have KX_185 := Lib.hid (OwnR.up KX_173.out hb_179)
    have KE_186 := Lib.hid (OwnR.up KE_174.out hb_179)
    have KQ_187 := Lib.hid (OwnR.up KQ_175.out hb_179)
    have Kg_188 := Blk.up Kg_176 hb_179
    clear cg0_177 lg_178 Kx_168 Ka_169 KB_170 Kz_171 KW_172 KX_173 KE_174 KQ_175 Kg_176
    have cg0_189 := Blk.cell (i := 0) (v := .slice A6 (applyOut xs e).length c6) Kg_188 rfl
    have lg_190 := Blk.lt Kg_188
    have ca0_191 := Blk.cell (i := 0) (v := .slice A xs.length c) Ka_181 rfl
    have la_192 := Blk.lt Ka_181
    have cx0_193 := Blk.cell (i := 0) (v := .int .i64 e.kind) Kx_180 rfl
    have cx1_194 := Blk.cell (i := 1) (v := .int .i64 e.i) Kx_180 rfl
    have cx2_195 := Blk.cell (i := 2) (v := .int .i64 e.j) Kx_180 rfl
    have cx3_196 := Blk.cell (i := 3) (v := .int .i64 e.k) Kx_180 rfl
    have cx4_197 := Blk.cell (i := 4) (v := .slice AR e.part.length cR) Kx_180 rfl
    have cx5_198 := Blk.cell (i := 5) (v := .string e.map) Kx_180 rfl
    have lx_199 := Blk.lt Kx_180
    go_upto_region 31 with fail
    go_cut [15, 16] (fun p q wx => ∃ (Z : Nat) (A9 : Option Addr) (c9 : Nat), p = .pointer (some ⟨Z, 0, none⟩) ∧ q = .int .i64 (applyCode xs e) ∧ w16.heap.size ≤ Z ∧ Below w16.heap.size w16 wx ∧ Blk wx Z #[.slice A9 (applyOut xs e).length c9] 31 ∧ OwnRules wx w16.heap.size (.slice A9 (applyOut xs e).length c9) (applyOut xs e))
    case first =>
      have B0 := Below.drew (Below.refl w16.heap.size w16)
      have BA := Lib.hid (fun (o : Obj) => Below.drew (Below.alloc (Below.refl w16.heap.size w16) (Nat.le_refl _) o))
      have KD := keep17 Ka_181 Kx_180 B0
      have HBS := Lib.hid KB_182.out
      have HKA := Lib.hid Ka_181
      have HKX := Lib.hid Kx_180
      go_region_held3 (fun w' => Below w16.heap.size w16 w' ∧ w'.cell? ⟨w.heap.size, 0, none⟩ = some (.slice A xs.length c) ∧ w'.cell? ⟨w.heap.size + 1, 0, none⟩ = some (.int .i64 e.kind) ∧ w'.cell? ⟨w.heap.size + 1, 1, none⟩ = some (.int .i64 e.i) ∧ w'.cell? ⟨w.heap.size + 1, 2, none⟩ = some (.int .i64 e.j) ∧ w'.cell? ⟨w.heap.size + 1, 3, none⟩ = some (.int .i64 e.k) ∧ w'.cell? ⟨w.heap.size + 1, 4, none⟩ = some (.slice AR e.part.length cR) ∧ w'.cell? ⟨w.heap.size + 1, 5, none⟩ = some (.string e.map))
        (first | (with_reducible exact KD) | (with_reducible exact keep17 HKA.out HKX.out (BA.out _)) | (with_reducible exact keep17 HKA.out HKX.out b1) | (with_reducible exact keep17 HKA.out HKX.out (b1.alloc z1 _)) | (with_reducible exact keep17 HKA.out HKX.out b2) | (with_reducible exact keep17 HKA.out HKX.out (b2.alloc z2 _)) | (with_reducible exact keep17 HKA.out HKX.out b3) | (with_reducible exact keep17 HKA.out HKX.out (b3.alloc z3 _)) | (with_reducible exact keep17 HKA.out HKX.out (b3.setCell (Nat.le_refl _) _)) | (with_reducible exact keep17 HKA.out HKX.out (b3.setCell z1 _)) | (with_reducible exact keep17 HKA.out HKX.out (b3.setCell z2 _)) | (with_reducible exact keep17 HKA.out HKX.out (b3.setCell z3 _)))
        (first
          | (go_at_call 12; (refine (toGrammar_any _ xs _ (HG.out.up (by repeat (first | exact HBS.out | (refine Below.alloc ?_ (by first | omega | (simp; done) | (simp; omega)) _) | (refine Below.setCell ?_ (by first | exact Nat.le_refl _ | (show _ ≤ _; omega) | (simp; done) | (simp; omega)) _) | refine below_drewN ?_ _ | refine Below.drew ?_))) hn).mono ?_); rintro r t1 ⟨v1, rfl, own1, hb1⟩; have b1 : Below w16.heap.size w16 t1 := (by first | exact Below.undrew hb1 | exact (Below.unalloc (Below.undrew hb1)).1); have z1 := b1.size; (try (have KZ : Blk t1 w16.heap.size #[.slice none 0 0] 31 := (Below.unalloc (Below.undrew hb1)).2; have l1 := Blk.lt KZ)))
          | (go_at_call 13; (refine (toEditO_any _ e _ ⟨_, rfl, HR.out.up (by repeat (first | exact Below.tr HBS.out b1 | (refine Below.alloc ?_ (by first | omega | (simp; done) | (simp; omega)) _) | (refine Below.setCell ?_ (by first | exact Nat.le_refl _ | (show _ ≤ _; omega) | (simp; done) | (simp; omega)) _) | refine below_drewN ?_ _ | refine Below.drew ?_))⟩ hn2).mono ?_); rintro r t2 ⟨v2, rfl, own2, hb2⟩; have c2 : Below t1.heap.size t1 t2 := (by first | exact hb2 | exact (Below.unalloc hb2).1); have b2 := Below.tr b1 c2; have z2 := b2.size; have y2 := c2.size; (first | (have KZ := Blk.up KZ c2) | (have KZ : Blk t2 t1.heap.size #[.slice none 0 0] 31 := (Below.unalloc hb2).2) | skip); (try have l2 := Blk.lt KZ))
          | (go_at_call 14; (refine (implApply_any _ _ xs e _ (OwnRules.sl1 own1 (by repeat (first | exact c2 | (refine Below.alloc ?_ (by first | omega | (simp; done) | (simp; omega)) _) | (refine Below.setCell ?_ (by first | exact Nat.le_refl _ | (show _ ≤ _; omega) | (simp; done) | (simp; omega)) _) | refine below_drewN ?_ _ | refine Below.drew ?_))) ⟨_, rfl, OwnRules.sl1 own2 (by repeat (first | exact Below.refl _ _ | (refine Below.alloc ?_ (by first | omega | (simp; done) | (simp; omega)) _) | (refine Below.setCell ?_ (by first | exact Nat.le_refl _ | (show _ ≤ _; omega) | (simp; done) | (simp; omega)) _) | refine below_drewN ?_ _ | refine Below.drew ?_))⟩ hn hn2 hm (tabB HT.out (by repeat (first | exact Below.tr HBS.out b2 | (refine Below.alloc ?_ (by first | omega | (simp; done) | (simp; omega)) _) | (refine Below.setCell ?_ (by first | exact Nat.le_refl _ | (show _ ≤ _; omega) | (simp; done) | (simp; omega)) _) | refine below_drewN ?_ _ | refine Below.drew ?_)))).mono ?_); rintro r t3 ⟨hb3, v3, own3, rfl⟩; obtain ⟨A9, c9, rfl, _⟩ := own_nil own3; have c3 : Below t2.heap.size t2 t3 := (by first | exact hb3 | exact (Below.unalloc hb3).1); have b3 := Below.tr b2 c3; have z3 := b3.size; have y3 := c3.size; (first | (have KZ := Blk.up KZ c3) | (have KZ : Blk t3 t2.heap.size #[.slice none 0 0] 31 := (Below.unalloc hb3).2) | skip); (try (have kz := Blk.cell (i := 0) (v := .slice none 0 0) KZ rfl; have fz := Blk.frozen KZ 0; have lz := Blk.lt KZ))))
      all_goals
        go_wp2_with fail
        go_meet
        have own4 : OwnRules t3 w16.heap.size _ _ := ownsRow_more own3 (base' := w16.heap.size) (by first | omega | (simp; omega))
        first
          | exact ⟨t3.heap.size, A9, c9, rfl, rfl, z3, b3.alloc z3 _, Blk.new _ _ _, World.ownsRow.alloc own4 _⟩
          | exact ⟨w16.heap.size, A9, c9, rfl, rfl, Nat.le_refl _, b3.setCell (show w16.heap.size ≤ (⟨w16.heap.size, 0, none⟩ : Addr).block from Nat.le_refl _) _, KZ.set 0 _, ownsRow_more (ownsRow_setCell_below own3 (a := ⟨w16.heap.size, 0, none⟩) (by first | (show _ < _; omega) | (simp; done) | (simp; omega)) _) (by first | omega | (simp; omega))⟩
          | exact ⟨t1.heap.size, A9, c9, rfl, rfl, z1, b3.setCell (show w16.heap.size ≤ (⟨t1.heap.size, 0, none⟩ : Addr).block from z1) _, KZ.set 0 _, ownsRow_more (ownsRow_setCell_below own3 (a := ⟨t1.heap.size, 0, none⟩) (by first | (show _ < _; omega) | (simp; done) | (simp; omega)) _) (by first | omega | (simp; omega))⟩
          | exact ⟨t2.heap.size, A9, c9, rfl, rfl, z2, b3.setCell (show w16.heap.size ≤ (⟨t2.heap.size, 0, none⟩ : Addr).block from z2) _, KZ.set 0 _, ownsRow_more (ownsRow_setCell_below own3 (a := ⟨t2.heap.size, 0, none⟩) (by first | (show _ < _; omega) | (simp; done) | (simp; omega)) _) (by first | omega | (simp; omega))⟩
    case rest =>
      obtain ⟨Z2, A7, c7, rfl, rfl, hZ2, hbR2, KZ2, hown2⟩ := hcut
      have KW2 := Lib.hid (OwnRules.sl hown2)
      have lZ2 := Blk.lt KZ2
      revert hbR2 KZ2 KW2 lZ2
      clear hown2
      generalize wc = w17
      intro hbR2 KZ2 KW2 lZ2
      have hb_200 := hbR2
      have z_w17 : w16.heap.size ≤ w17.heap.size := hb_200.size
      have Kx_201 := Blk.up Kx_180 hb_200
      have Ka_202 := Blk.up Ka_181 hb_200
      have KB_203 := Lib.hid (Below.tr KB_182.out hb_200)
      have Kz_204 := Blk.up Kz_183 hb_200
      have KW_205 := Lib.hid (SlS.upN KW_184.out (by omega) hb_200)
      have KX_206 := Lib.hid (OwnR.up KX_185.out hb_200)
      have KE_207 := Lib.hid (OwnR.up KE_186.out hb_200)
      have KQ_208 := Lib.hid (OwnR.up KQ_187.out hb_200)
      have Kg_209 := Blk.up Kg_188 hb_200
      clear hb_179 cg0_189 lg_190 ca0_191 la_192 cx0_193 cx1_194 cx2_195 cx3_196 cx4_197 cx5_198 lx_199 Kx_180 Ka_181 KB_182 Kz_183 KW_184 KX_185 KE_186 KQ_187 Kg_188
      have ch0_210 := Blk.cell (i := 0) (v := .slice A7 (applyOut xs e).length c7) KZ2 rfl
      have lh_211 := Blk.lt KZ2
      have cz0_212 := Blk.cell (i := 0) (v := .slice A9 (applyOut xs e).length c9) Kz_204 rfl
      have lz_213 := Blk.lt Kz_204
      go_wp2_with fail
      refine (eqGrammar_any _ _ (applyOut xs e) _ (SlS.le KW2.out (by omega)) (SlS.le KW_205.out (by omega))).mono ?_
      rintro e w18 ⟨rfl, hb_214⟩
      have z_w18 : w17.heap.size ≤ w18.heap.size := hb_214.size
      have Kx_215 := Blk.up Kx_201 hb_214
      have Ka_216 := Blk.up Ka_202 hb_214
      have KB_217 := Lib.hid (Below.tr KB_203.out hb_214)
      have Kz_218 := Blk.up Kz_204 hb_214
      have KW_219 := Lib.hid (SlS.upN KW_205.out (by omega) hb_214)
      have KX_220 := Lib.hid (OwnR.up KX_206.out hb_214)
      have KE_221 := Lib.hid (OwnR.up KE_207.out hb_214)
      have KQ_222 := Lib.hid (OwnR.up KQ_208.out hb_214)
      have Kg_223 := Blk.up Kg_209 hb_214
      have Kh_224 := Blk.up KZ2 hb_214
      have KH_225 := Lib.hid (SlS.upN KW2.out (by omega) hb_214)
      clear hb_200 ch0_210 lh_211 cz0_212 lz_213 Kx_201 Ka_202 KB_203 Kz_204 KW_205 KX_206 KE_207 KQ_208 Kg_209 KZ2 KW2
      have cg0_226 := Blk.cell (i := 0) (v := .slice A6 (applyOut xs e).length c6) Kg_223 rfl
      have lg_227 := Blk.lt Kg_223
      go_wp2_with fail
      refine (heldGrammar1 _ (applyOut xs e).length _ (OwnR.sl KQ_222.out) (by omega)).mono ?_
      rintro e w19 ⟨rfl, hb_228⟩
      have z_w19 : w18.heap.size ≤ w19.heap.size := hb_228.size
      have Kx_229 := Blk.up Kx_215 hb_228
      have Ka_230 := Blk.up Ka_216 hb_228
      have KB_231 := Lib.hid (Below.tr KB_217.out hb_228)
      have Kz_232 := Blk.up Kz_218 hb_228
      have KW_233 := Lib.hid (SlS.upN KW_219.out (by omega) hb_228)
      have KX_234 := Lib.hid (OwnR.up KX_220.out hb_228)
      have KE_235 := Lib.hid (OwnR.up KE_221.out hb_228)
      have KQ_236 := Lib.hid (OwnR.up KQ_222.out hb_228)
      have Kg_237 := Blk.up Kg_223 hb_228
      have Kh_238 := Blk.up Kh_224 hb_228
      have KH_239 := Lib.hid (SlS.upN KH_225.out (by omega) hb_228)
      clear hb_214 cg0_226 lg_227 Kx_215 Ka_216 KB_217 Kz_218 KW_219 KX_220 KE_221 KQ_222 Kg_223 Kh_224 KH_225
      go_wp2
      go_ret
      exact ⟨rfl, KB_231.out⟩
end Go.Proofs.YtfapnipmgmpgaaaGreatDoor

namespace Go.Proofs.YtfapnipmgmpgaaaGreatDoor
open Go.RowKit

/-- How an edit lies in six cells. -/
def EditE : Enc GEdit where
  size := 6
  pos := by decide
  cells := fun w S e cs => ∃ vR, cs = [.int .i64 e.kind, .int .i64 e.i, .int .i64 e.j, .int .i64 e.k, vR, .string e.map] ∧ SlS RuleE w S vR e.part
  len := by rintro _ _ _ _ ⟨vR, rfl, _⟩; rfl
  keep := by rintro _ _ _ _ _ ⟨vR, rfl, h⟩ hb; exact ⟨vR, rfl, h.keep hb⟩
  more := by rintro _ _ _ _ _ ⟨vR, rfl, h⟩ hb; exact ⟨vR, rfl, h.more hb⟩
  one := by rintro _ _ _ _ ⟨vR, rfl, A, c, rfl, _⟩; simp [Value.oneCell']
theorem Row.edit {w : World} {S : Nat → Prop} {A : Option Addr} {l : List GEdit} (h : Row EditE w S A l) (hS : ∀ b, S b → b < w.heap.size) {k : Nat} (hk : k < l.length) :
    ∃ b o, A = some ⟨b, o, none⟩ ∧ S b ∧ ∀ i e, l[i]? = some e → ∃ vR, EC w b (o + i * 6) e vR ∧ SlS RuleE w S vR e.part := by
  obtain ⟨b, o, rfl, hlt, hc⟩ := h (by omega)
  refine ⟨b, o, rfl, hlt, fun i e hi => ?_⟩
  obtain ⟨cs, ⟨vR, rfl, h1⟩, h2⟩ := hc i e hi
  exact ⟨vR, ⟨by simpa [EditE] using h2 0 _ rfl, by simpa [EditE, Nat.add_assoc] using h2 1 _ rfl, by simpa [EditE, Nat.add_assoc] using h2 2 _ rfl, by simpa [EditE, Nat.add_assoc] using h2 3 _ rfl, by simpa [EditE, Nat.add_assoc] using h2 4 _ rfl, by simpa [EditE, Nat.add_assoc] using h2 5 _ rfl, hS b hlt⟩, h1⟩
end Go.Proofs.YtfapnipmgmpgaaaGreatDoor

namespace Go.Proofs
theorem Tryz.infoEd : (Tryz.prog.info? 36).map (fun i => (i.zero, i.size, i.bytes)) = some (some (.agg #[.int .i64 0, .int .i64 0, .int .i64 0, .int .i64 0, .slice none 0 0, .string ⟨#[]⟩]), 6, 72) := by kernel_rfl
end Go.Proofs
namespace Go.Proofs.YtfapnipmgmpgaaaGreatDoor
open Go.RowKit

theorem szE_le3 {e : GEdit} {left : Int} (h : 0 ≤ szE e left) : szE e left ≤ left ∧ (e.part.length : Int) ≤ left ∧ (e.map.size : Int) ≤ left := by
  unfold szE at *
  split at h
  · omega
  · rename_i h1
    obtain ⟨h3, h2⟩ := szRs_le e.part left (by omega)
    split at h
    · omega
    · rename_i h4
      rw [if_neg h1, if_neg h4]; omega
def szEE : List GEdit → Int → Int
  | [], left => left
  | e :: es, left => if szE e left < 0 then -1 else szEE es (szE e left)
def szES (es : List GEdit) (left : Int) : Int := if left - es.length < 0 then -1 else szEE es (left - es.length)
theorem szEE_at (es : List GEdit) (left : Int) (k : Nat) (e : GEdit) (he : es[k]? = some e) : szEE (es.drop k) left = if szE e left < 0 then -1 else szEE (es.drop (k + 1)) (szE e left) := by
  obtain ⟨hk, rfl⟩ := List.getElem?_eq_some_iff.1 he
  rw [List.drop_eq_getElem_cons hk]; rfl
/-- The rules of all parts. -/
def partsLen (es : List GEdit) : Nat := (es.map fun e => e.part.length).sum
theorem szEE_le (es : List GEdit) : ∀ left : Int, 0 ≤ left → 0 ≤ szEE es left → (∀ e ∈ es, (e.part.length : Int) ≤ left ∧ (e.map.size : Int) ≤ left) := by
  induction es with
  | nil => intro l _ _ e he; cases he
  | cons x xs ih =>
    intro l hl h e he
    unfold szEE at h
    split at h
    · omega
    · obtain ⟨h1, h2, h3⟩ := szE_le3 (e := x) (left := l) (by omega)
      rcases List.mem_cons.1 he with rfl | he
      · exact ⟨h2, h3⟩
      · obtain ⟨h4, h5⟩ := ih _ (by omega) h e he
        exact ⟨by omega, by omega⟩
theorem szES_le {es : List GEdit} {left : Int} (h : 0 ≤ szES es left) : (es.length : Int) ≤ left ∧ (∀ e ∈ es, (e.part.length : Int) ≤ left ∧ (e.map.size : Int) ≤ left) := by
  unfold szES at h
  split at h
  · omega
  · refine ⟨by omega, fun e he => ?_⟩
    obtain ⟨h1, h2⟩ := szEE_le es _ (by omega) h e he
    exact ⟨by omega, by omega⟩
set_option maxRecDepth 100000 in
set_option maxHeartbeats 1000000 in
theorem szEditS_any (v : Value) (es : List GEdit) (left : Int) (w : World) (h : Sl EditE w w.heap.size v es) (hsm : ∀ e ∈ es, SmallL e.part ∧ e.map.size ≤ maxLen) (hl : 0 ≤ left ∧ left ≤ 1048576) :
    Calls Tryz.prog 20 #[v, .int .i64 left] w fun r w' => r = .returned (.int .i64 (szES es left)) ∧ Below w.heap.size w w' := by
  obtain ⟨A, c, rfl, hc, hm, hrow⟩ := h
  unfold maxLen at hm
  go_enter Tryz.func20, Tryz.ntmps20
  go_wp2_with fail
  · go_ret
    exact ⟨ret_int (by unfold szES; rw [if_pos (by omega)]), Below.refl _ _⟩
  · have hfin : szES es left = szEE es (left - es.length) := by unfold szES; rw [if_neg (by omega)]
    have Hfin := Lib.hid hfin
    clear hfin
    go_loopw [1, 5] (fun l i wr => ∃ (k : Nat) (q : Int), k ≤ es.length ∧ 0 ≤ q ∧ q ≤ 1048576 ∧ i = .int .i64 k ∧ l = .int .i64 q ∧ Hid (szEE (es.drop k) q = szES es left) ∧ Below w.heap.size w wr) (fun _ i _ => es.length - (intOf i).toNat)
    case atStart => exact ⟨0, _, Nat.zero_le _, by omega, by omega, rfl, rfl, by rw [Hfin.out]; rfl, Below.refl _ _⟩
    case round =>
      obtain ⟨k, q, hk, hq0, hq1, rfl, rfl, HN, hb⟩ := hrel
      by_cases hlt : k < es.length
      · obtain ⟨b, o, rfl, hbl, hcell⟩ := hrow.edit (fun _ h => h) hlt
        obtain ⟨e, he⟩ : ∃ e, es[k]? = some e := ⟨_, List.getElem?_eq_getElem hlt⟩
        obtain ⟨vR, hec, hR⟩ := hcell k e he
        have hec2 := hec.up hb
        have HR2 := Lib.hid (hR.up hb)
        obtain ⟨hsx, hmx⟩ := hsm e (List.mem_of_getElem? he)
        have He := Lib.hid he
        obtain ⟨c0, c1, c2, c3, c4, c5, cl⟩ := hec2
        have hi : (k : Int) < (es.length : Int) := by omega
        clear hcell he hec hR
        go_wp2_with fail
        refine (szEdit_any _ e q _ ⟨_, rfl, HR2.out⟩ hsx hmx ⟨hq0, hq1⟩).mono ?_
        rintro r w2 ⟨rfl, hb2⟩
        have HB2 := Lib.hid (hb.trans (hb2.mono hb.size))
        clear hb hb2 c0 c1 c2 c3 c4 c5
        by_cases hz : szE e q < 0
        · have HZ := Lib.hid hz
          go_wp2_with fail
          go_ret
          exact ⟨ret_int (by have := HN.out; rw [szEE_at _ _ _ _ He.out, if_pos HZ.out] at this; exact this), HB2.out⟩
        · have hz2 := szE_le3 (e := e) (left := q) (by omega)
          have HZ := Lib.hid hz
          go_wp2_with fail
          go_roundw
          case rel => exact ⟨k + 1, _, by omega, by omega, by omega, by go_num, rfl, by have := HN.out; rw [szEE_at _ _ _ _ He.out, if_neg (by have := HZ.out; omega)] at this; exact this, HB2.out⟩
          case measure => simp [intOf]; omega
      · go_wp2
        go_ret
        exact ⟨ret_int (by have := HN.out; rw [List.drop_eq_nil_of_le (by omega)] at this; exact this), hb⟩
set_option maxRecDepth 100000 in
set_option maxHeartbeats 1000000 in
theorem eqEditS_any (v v' : Value) (es : List GEdit) (w : World) (h : Sl EditE w w.heap.size v es) (h' : Sl EditE w w.heap.size v' es) :
    Calls Tryz.prog 24 #[v, v'] w fun r w' => r = .returned (.bool true) ∧ Below w.heap.size w w' := by
  obtain ⟨A, c, rfl, hc, hm, hrow⟩ := h
  obtain ⟨A', c', rfl, hc', hm', hrow'⟩ := h'
  unfold maxLen at hm
  have hn : es.length ≤ 9223372036854775807 := by omega
  clear hm hm'
  go_enter Tryz.func24, Tryz.ntmps24
  go_wp2_with fail
  go_loopw [5] (fun i wr => ∃ (k : Nat), k ≤ es.length ∧ i = .int .i64 k ∧ Below w.heap.size w wr) (fun i _ => es.length - (intOf i).toNat)
  case atStart => exact ⟨0, Nat.zero_le _, rfl, Below.refl _ _⟩
  case round =>
    obtain ⟨k, hk, rfl, hb⟩ := hrel
    by_cases hlt : k < es.length
    · obtain ⟨b, o, rfl, hbl, hcell⟩ := hrow.edit (fun _ h => h) hlt
      obtain ⟨b', o', rfl, hbl', hcell'⟩ := hrow'.edit (fun _ h => h) hlt
      obtain ⟨e, he⟩ : ∃ e, es[k]? = some e := ⟨_, List.getElem?_eq_getElem hlt⟩
      obtain ⟨vR, hec, hR⟩ := hcell k e he
      obtain ⟨vR', hec', hR'⟩ := hcell' k e he
      have E1 := Lib.hid (hec.up hb)
      have E2 := Lib.hid (hec'.up hb)
      have R1 := Lib.hid (hR.up hb)
      have R2 := Lib.hid (hR'.up hb)
      have hi : (k : Int) < (es.length : Int) := by omega
      have hsz : w.heap.size ≤ wr.heap.size := hb.size
      have HB := Lib.hid hb
      clear hcell hcell' he hec hec' hR hR' hb
      obtain ⟨c0, c1, c2, c3, c4, c5, cl⟩ := E1.out
      obtain ⟨d0, d1, d2, d3, d4, d5, dl⟩ := E2.out
      go_wp2_with fail
      go_still_tail 8, (by kernel_rfl)
      change wpList _ _ _ _ _ wr.drew
      go_wp2_with fail
      refine (eqEdit_any _ _ e _ ⟨_, rfl, R1.out.up (Below.drew (Below.refl _ _))⟩ ⟨_, rfl, R2.out.up (Below.drew (Below.refl _ _))⟩).mono ?_
      rintro r w2 ⟨rfl, hb2⟩
      go_wp2_with fail
      go_roundw
      case rel => exact ⟨k + 1, by omega, by go_num, HB.out.trans ((Below.undrew hb2).mono hsz)⟩
      case measure => simp [intOf]; omega
    · go_wp2
      go_ret
      exact ⟨rfl, hb⟩
end Go.Proofs.YtfapnipmgmpgaaaGreatDoor

namespace Go.Proofs.YtfapnipmgmpgaaaGreatDoor
open Go.RowKit

/-- The six cells of an edit. -/
def epCells (p : GEdit × Value) : List Value := [.int .i64 p.1.kind, .int .i64 p.1.i, .int .i64 p.1.j, .int .i64 p.1.k, p.2, .string p.1.map]
theorem ep_len (ps : List (GEdit × Value)) : (ps.flatMap epCells).length = ps.length * 6 := by
  induction ps with
  | nil => rfl
  | cons x xs ih => rw [List.flatMap_cons, List.length_append, ih]; simp [epCells]; omega
theorem set6 (ps : List (GEdit × Value)) (k : Nat) (p : GEdit × Value) (h : k < ps.length) :
    ((((((ps.flatMap epCells).set (k * 6) (.int .i64 p.1.kind)).set (k * 6 + 1) (.int .i64 p.1.i)).set (k * 6 + 2) (.int .i64 p.1.j)).set (k * 6 + 3) (.int .i64 p.1.k)).set (k * 6 + 4) p.2).set (k * 6 + 5) (.string p.1.map) = (ps.set k p).flatMap epCells := by
  induction ps generalizing k with
  | nil => simp at h
  | cons x xs ih =>
    cases k with
    | zero => simp [epCells]
    | succ k =>
      have := ih k (by simpa using h)
      simp only [List.flatMap_cons, List.set_cons_succ]
      have e : (epCells x).length = 6 := rfl
      rw [List.set_append, if_neg (by omega), e, List.set_append, if_neg (by omega), e, List.set_append, if_neg (by omega), e, List.set_append, if_neg (by omega), e, List.set_append, if_neg (by omega), e, List.set_append, if_neg (by omega), e]
      rw [show (k+1)*6-6 = k*6 by omega, show (k+1)*6+1-6 = k*6+1 by omega, show (k+1)*6+2-6 = k*6+2 by omega, show (k+1)*6+3-6 = k*6+3 by omega, show (k+1)*6+4-6 = k*6+4 by omega, show (k+1)*6+5-6 = k*6+5 by omega, this]
theorem ep_at (ps : List (GEdit × Value)) (k : Nat) (p : GEdit × Value) (h : ps[k]? = some p) (j : Nat) (hj : j < 6) : (ps.flatMap epCells)[k * 6 + j]? = (epCells p)[j]? := by
  induction ps generalizing k with
  | nil => simp at h
  | cons x xs ih =>
    cases k with
    | zero =>
      simp at h; subst h
      rw [List.flatMap_cons, List.getElem?_append_left (by simp [epCells]; omega), Nat.zero_mul, Nat.zero_add]
    | succ k =>
      have := ih k (by simpa using h)
      rw [List.flatMap_cons, List.getElem?_append_right (by simp [epCells]; omega)]
      rw [show (k + 1) * 6 + j - (epCells x).length = k * 6 + j by simp [epCells]; omega]
      exact this
theorem set_same {α : Type} {l : List α} {k : Nat} {x : α} (h : l[k]? = some x) : l.set k x = l := by
  apply List.ext_getElem?
  intro i
  by_cases hi : k = i
  · subst hi
    rw [List.getElem?_set_self (List.getElem?_eq_some_iff.1 h).1, h]
  · rw [List.getElem?_set_ne hi]
theorem set5 (ps : List (GEdit × Value)) (k : Nat) (p q : GEdit × Value) (hq : ps[k]? = some q) (h2 : q.2 = p.2) :
    (((((ps.flatMap epCells).set (k * 6) (.int .i64 p.1.kind)).set (k * 6 + 1) (.int .i64 p.1.i)).set (k * 6 + 2) (.int .i64 p.1.j)).set (k * 6 + 3) (.int .i64 p.1.k)).set (k * 6 + 5) (.string p.1.map) = (ps.set k p).flatMap epCells := by
  have hk : k < ps.length := (List.getElem?_eq_some_iff.1 hq).1
  rw [← set6 ps k p hk]
  congr 1
  refine (set_same ?_).symm
  rw [List.getElem?_set_ne (by omega), List.getElem?_set_ne (by omega), List.getElem?_set_ne (by omega), List.getElem?_set_ne (by omega), ep_at ps k q hq 4 (by omega), ← h2]; rfl

/-- The rules of one edit of a row: nothing, or a row of its own between two numbers, apart from the row of edits v. -/
def PartAt (w : World) (v : Value) (a b : Nat) (p : GEdit × Value) : Prop :=
  ((p.1.part = [] ∧ ∃ A c, p.2 = .slice A 0 c ∧ c ≤ maxLen) ∨ OwnR w a b p.2 p.1.part) ∧ ∀ g, v.ownBlock = some g → g < a ∨ b ≤ g
theorem PartAt.keep {w w' : World} {v : Value} {a b : Nat} {p : GEdit × Value} (h : PartAt w v a b p) (hk : ∀ g, a ≤ g → g < b → w'.heap[g]? = w.heap[g]?) (hs : w.heap.size ≤ w'.heap.size) : PartAt w' v a b p := by
  refine ⟨?_, h.2⟩
  rcases h.1 with h | h1
  · exact .inl h
  · exact .inr ⟨own_keep h1.1 fun g hg => hk g (h1.rng g hg).1 (h1.rng g hg).2, h1.2.1, Nat.le_trans h1.2.2 hs⟩
theorem PartAt.row {w w' : World} {v : Value} {a b g : Nat} {p : GEdit × Value} (h : PartAt w v a b p) (hv : v.ownBlock = some g) (hb : b ≤ w.heap.size) (hg : w.grownBy w' (some g)) : PartAt w' v a b p :=
  h.keep (fun g' h1 h2 => hg.block g' (by omega) (fun e => by have := h.2 g hv; simp at e; omega)) hg.size
theorem PartAt.sl {w : World} {v : Value} {a b : Nat} {p : GEdit × Value} (h : PartAt w v a b p) : Sl RuleE w w.heap.size p.2 p.1.part := by
  rcases h.1 with ⟨h1, A, c, h2, h3⟩ | h1
  · rw [h1, h2]; exact ⟨A, c, rfl, Nat.zero_le _, h3, fun h => absurd h (by simp)⟩
  · exact h1.sl
structure PartsR (w : World) (v : Value) (lo hi : Nat) (r : Nat → Nat) (ps : List (GEdit × Value)) : Prop where
  low : lo ≤ r 0
  mono : ∀ i j, i ≤ j → r i ≤ r j
  high : ∀ i, r i ≤ hi
  at_ : ∀ i p, ps[i]? = some p → PartAt w v (r (2 * i)) (r (2 * i + 1)) p
theorem PartsR.keep {w w' : World} {v : Value} {lo hi : Nat} {r : Nat → Nat} {ps : List (GEdit × Value)} (h : PartsR w v lo hi r ps) (hk : ∀ g, lo ≤ g → g < hi → v.ownBlock ≠ some g → w'.heap[g]? = w.heap[g]?) (hs : w.heap.size ≤ w'.heap.size) : PartsR w' v lo hi r ps := by
  refine ⟨h.low, h.mono, h.high, fun i p hp => ?_⟩
  obtain ⟨h0, h2⟩ := h.at_ i p hp
  refine ⟨?_, h2⟩
  rcases h0 with h1 | h1
  · exact .inl h1
  · refine .inr ⟨own_keep h1.1 fun g hg => ?_, h1.2.1, Nat.le_trans h1.2.2 hs⟩
    have hr := h1.rng g hg
    have a1 := h.mono 0 (2 * i) (Nat.zero_le _)
    have a2 := h.high (2 * i + 1)
    have a3 := h.low
    refine hk g (by omega) (by omega) fun e => ?_
    have := h2 g e
    omega
theorem PartsR.mark {w w' : World} {v : Value} {lo hi : Nat} {r : Nat → Nat} {ps : List (GEdit × Value)} (h : PartsR w v lo hi r ps) (n : Nat) (q : GEdit × Value) (hq : PartAt w' v (r (2 * n)) (r (2 * n + 1)) q)
    (hk : ∀ g, g < w.heap.size → v.ownBlock ≠ some g → g < r (2 * n) ∨ r (2 * n + 1) ≤ g → w'.heap[g]? = w.heap[g]?) (hs : w.heap.size ≤ w'.heap.size) : PartsR w' v lo hi r (ps.set n q) := by
  refine ⟨h.low, h.mono, h.high, fun i p hp => ?_⟩
  by_cases hi' : n = i
  · subst hi'
    have : n < ps.length := by
      have := (List.getElem?_eq_some_iff.1 hp).1
      simpa using this
    rw [List.getElem?_set_self this] at hp
    cases hp; exact hq
  · rw [List.getElem?_set_ne hi'] at hp
    obtain ⟨h0, h2⟩ := h.at_ i p hp
    refine ⟨?_, h2⟩
    rcases h0 with h1 | h1
    · exact .inl h1
    · refine .inr ⟨own_keep h1.1 fun g hg => ?_, h1.2.1, Nat.le_trans h1.2.2 hs⟩
      have hr := h1.rng g hg
      refine hk g (by have := h1.2.2; omega) (fun e => by have := h2 g e; omega) ?_
      rcases Nat.lt_or_ge i n with hlt | hge
      · have := h.mono (2 * i + 1) (2 * n) (by omega); omega
      · have := h.mono (2 * n + 1) (2 * i) (by omega); omega
theorem PartsR.snoc {w : World} {v : Value} {lo hi hi' : Nat} {r : Nat → Nat} {ps : List (GEdit × Value)} {q : GEdit × Value} (h : PartsR w v lo hi r ps) (hq : PartAt w v hi hi' q) (hh : hi ≤ hi') (hl : lo ≤ hi) : ∃ r', PartsR w v lo hi' r' (ps ++ [q]) := by
  refine ⟨fun j => if j < 2 * ps.length then r j else if j = 2 * ps.length then hi else hi', ?_, ?_, ?_, ?_⟩
  · have := h.low
    split
    · omega
    · split <;> omega
  · intro i j hij
    have h1 := h.mono i j hij
    have h2 := h.high i
    repeat' split
    all_goals omega
  · intro i
    have h2 := h.high i
    repeat' split
    all_goals omega
  · intro i p hp
    rcases Nat.lt_or_ge i ps.length with hlt | hge
    · rw [List.getElem?_append_left hlt] at hp
      have := h.at_ i p hp
      simp only [show 2 * i < 2 * ps.length by omega, show 2 * i + 1 < 2 * ps.length by omega, if_true]
      exact this
    · rw [List.getElem?_append_right hge] at hp
      have hi0 : i = ps.length := by
        have := (List.getElem?_eq_some_iff.1 hp).1
        simp at this; omega
      subst hi0
      simp at hp
      subst hp
      simp only [Nat.lt_irrefl, if_false, if_true, show ¬ (2 * ps.length + 1 < 2 * ps.length) by omega, show ¬ (2 * ps.length + 1 = 2 * ps.length) by omega]
      exact hq
theorem PartsR.nil {w : World} {v : Value} {lo hi : Nat} (h : lo ≤ hi) : PartsR w v lo hi (fun _ => hi) [] := ⟨h, fun _ _ _ => Nat.le_refl _, fun _ => Nat.le_refl _, fun i p hp => by simp at hp⟩
theorem PartsR.le {w : World} {v : Value} {lo lo' hi hi' : Nat} {r : Nat → Nat} {ps : List (GEdit × Value)} (h : PartsR w v lo hi r ps) (h1 : lo' ≤ lo) (h2 : hi ≤ hi') : PartsR w v lo' hi' r ps := ⟨Nat.le_trans h1 h.low, h.mono, fun i => Nat.le_trans (h.high i) h2, h.at_⟩
/-- A row of edits of one's own, between two block numbers. -/
def OEds (w : World) (lo hi : Nat) (v : Value) (es : List GEdit) : Prop :=
  ∃ ps r, ps.map Prod.fst = es ∧ w.ownsRow lo 36 6 v es.length (ps.flatMap epCells) ∧ (∀ g, v.ownBlock = some g → g < hi) ∧ hi ≤ w.heap.size ∧ PartsR w v lo hi r ps
section
variable {w w' : World} {lo hi : Nat} {v : Value} {es : List GEdit}
theorem OEds.keep (h : OEds w lo hi v es) (hk : ∀ g, lo ≤ g → g < hi → w'.heap[g]? = w.heap[g]?) (hs : w.heap.size ≤ w'.heap.size) : OEds w' lo hi v es := by
  obtain ⟨ps, r, h1, h2, h3, h4, h5⟩ := h
  exact ⟨ps, r, h1, own_keep h2 fun g hg => hk g (World.ownsRow.lt h2 g hg).1 (h3 g hg), h3, Nat.le_trans h4 hs, h5.keep (fun g a b _ => hk g a b) hs⟩
theorem OEds.up (h : OEds w lo hi v es) (hb : Below w.heap.size w w') : OEds w' lo hi v es := h.keep (fun g _ b => hb.block g (by obtain ⟨_, _, _, _, _, h4, _⟩ := h; omega)) hb.size
theorem OEds.chg {lo' hi' : Nat} (h : OEds w lo hi v es) (hc : Chg lo' hi' w w') (hne : hi ≤ lo' ∨ hi' ≤ lo) : OEds w' lo hi v es :=
  h.keep (fun g a b => hc.block g (by obtain ⟨_, _, _, _, _, h4, _⟩ := h; omega) (by omega)) hc.size
theorem ps_at {ps : List (GEdit × Value)} {i : Nat} {e : GEdit} (h : (ps.map Prod.fst)[i]? = some e) : ∃ u, ps[i]? = some (e, u) := by
  rw [List.getElem?_map] at h
  obtain ⟨p, h1, h2⟩ := Option.map_eq_some_iff.1 h
  exact ⟨p.2, by rw [h1, ← h2]⟩
theorem OEds.sl (h : OEds w lo hi v es) : Sl EditE w w.heap.size v es := by
  obtain ⟨ps, r, rfl, h2, h3, h4, h5⟩ := h
  obtain ⟨A, cap, rfl, c1, c2⟩ := own_nil h2
  refine ⟨A, cap, rfl, c1, c2, Row.of_own (E := EditE) h2 rfl (fun g hg => (World.ownsRow.lt h2 g hg).2) fun k e hx => ?_⟩
  obtain ⟨u, hu⟩ := ps_at hx
  refine ⟨epCells (e, u), ⟨u, rfl, (h5.at_ k _ hu).sl⟩, fun j x hj => ?_⟩
  have hj6 : j < 6 := by have := (List.getElem?_eq_some_iff.1 hj).1; simpa [epCells] using this
  show (ps.flatMap epCells)[k * 6 + j]? = some x
  rw [ep_at ps k _ hu j hj6]; exact hj
end
/-! the marks of a row of edits -/
def mkE (k : Nat) (e : GEdit) : GEdit := ⟨k, (k + 1 : Nat), (k + 2 : Nat), (k + 3 : Nat), marks (k + 4) e.part.length, mtext (k + 4 + 3 * e.part.length)⟩
def mkK (k : Nat) (e : GEdit) : Nat := k + 4 + 3 * e.part.length + 1
def markES : Nat → List GEdit → List GEdit
  | _, [] => []
  | k, e :: es => mkE k e :: markES (mkK k e) es
def markEnd : Nat → List GEdit → Nat
  | k, [] => k
  | k, e :: es => markEnd (mkK k e) es
theorem markES_len (k : Nat) (es : List GEdit) : (markES k es).length = es.length := by
  induction es generalizing k with
  | nil => rfl
  | cons e es ih => simp [markES, ih]
theorem markES_snoc (k : Nat) (es : List GEdit) (e : GEdit) : markES k (es ++ [e]) = markES k es ++ [mkE (markEnd k es) e] := by
  induction es generalizing k with
  | nil => rfl
  | cons x xs ih => simp [markES, markEnd, ih]
theorem markEnd_snoc (k : Nat) (es : List GEdit) (e : GEdit) : markEnd k (es ++ [e]) = mkK (markEnd k es) e := by
  induction es generalizing k with
  | nil => rfl
  | cons x xs ih => simp [markEnd, ih]
theorem markEnd_le (k : Nat) (es : List GEdit) : k ≤ markEnd k es := by
  induction es generalizing k with
  | nil => exact Nat.le_refl _
  | cons x xs ih => have := ih (mkK k x); unfold markEnd; unfold mkK at *; omega
theorem markEnd_take (k : Nat) (es : List GEdit) (n : Nat) (e : GEdit) (h : es[n]? = some e) : markEnd k (es.take (n + 1)) = mkK (markEnd k (es.take n)) e ∧ mkK (markEnd k (es.take n)) e ≤ markEnd k es := by
  have h1 : es.take (n + 1) = es.take n ++ [e] := by rw [List.take_add_one, h]; rfl
  have h2 : markEnd k (es.take (n + 1)) = mkK (markEnd k (es.take n)) e := by rw [h1, markEnd_snoc]
  refine ⟨h2, ?_⟩
  rw [← h2]
  have app : ∀ (a b : List GEdit) (k : Nat), markEnd k (a ++ b) = markEnd (markEnd k a) b := by
    intro a
    induction a with
    | nil => intro b k; rfl
    | cons x xs ih => intro b k; exact ih b (mkK k x)
  have h3 : markEnd k es = markEnd (markEnd k (es.take (n + 1))) (es.drop (n + 1)) := by rw [← app, List.take_append_drop]
  rw [h3]
  exact markEnd_le _ _
theorem markES_at (k : Nat) (es : List GEdit) (n : Nat) (e : GEdit) (h : es[n]? = some e) : (markES k es)[n]? = some (mkE (markEnd k (es.take n)) e) := by
  induction es generalizing k n with
  | nil => simp at h
  | cons x xs ih =>
    cases n with
    | zero => simp at h; subst h; rfl
    | succ n => exact ih (mkK k x) n (by simpa using h)
end Go.Proofs.YtfapnipmgmpgaaaGreatDoor

namespace Go.Proofs.YtfapnipmgmpgaaaGreatDoor
open Go.RowKit

def zE : GEdit := ⟨0, 0, 0, 0, [], ⟨#[]⟩⟩
theorem madeEdits (n : Nat) : (madeCells (Value.agg #[.int .i64 0, .int .i64 0, .int .i64 0, .int .i64 0, .slice none 0 0, .string ⟨#[]⟩]).cells (n * 6)).toList = (List.replicate n ((zE, .slice none 0 0) : GEdit × Value)).flatMap epCells := by
  apply List.ext_getElem?
  intro j
  by_cases hj : j < n * 6
  · have hq : (List.replicate n ((zE, .slice none 0 0) : GEdit × Value))[j / 6]? = some (zE, .slice none 0 0) := by
      rw [List.getElem?_replicate, if_pos (by omega)]
    have hc := ep_at _ _ _ hq (j % 6) (by omega)
    rw [show j / 6 * 6 + j % 6 = j by omega] at hc
    rw [hc]
    have hm : j % 6 = 0 ∨ j % 6 = 1 ∨ j % 6 = 2 ∨ j % 6 = 3 ∨ j % 6 = 4 ∨ j % 6 = 5 := by omega
    have e : (madeCells (Value.agg #[.int .i64 0, .int .i64 0, .int .i64 0, .int .i64 0, .slice none 0 0, .string ⟨#[]⟩]).cells (n * 6)).toList[j]? = some ((#[Value.int .i64 0, .int .i64 0, .int .i64 0, .int .i64 0, .slice none 0 0, .string ⟨#[]⟩] : Array Value).getD (j % 6) undef) := by
      simp [madeCells, hj, Value.cells]
      rcases hm with h | h | h | h | h | h <;> simp [h]
    rw [e]
    rcases hm with h | h | h | h | h | h <;> rw [h] <;> rfl
  · rw [List.getElem?_eq_none (by simp [madeCells]; omega), List.getElem?_eq_none (by rw [ep_len]; simp; omega)]
theorem stored6 {w : World} {base g n cap : Nat} {ps : List (GEdit × Value)} (h : w.ownsRow base 36 6 (.slice (some ⟨g, 0, none⟩) n cap) n (ps.flatMap epCells)) (k : Nat) (p : GEdit × Value) (hk : k < ps.length) :
    ((((((w.setCell ⟨g, k * 6, none⟩ (.int .i64 p.1.kind)).setCell ⟨g, k * 6 + 1, none⟩ (.int .i64 p.1.i)).setCell ⟨g, k * 6 + 2, none⟩ (.int .i64 p.1.j)).setCell ⟨g, k * 6 + 3, none⟩ (.int .i64 p.1.k)).setCell ⟨g, k * 6 + 4, none⟩ p.2).setCell ⟨g, k * 6 + 5, none⟩ (.string p.1.map)).ownsRow base 36 6 (.slice (some ⟨g, 0, none⟩) n cap) n ((ps.set k p).flatMap epCells) ∧
    w.grownBy ((((((w.setCell ⟨g, k * 6, none⟩ (.int .i64 p.1.kind)).setCell ⟨g, k * 6 + 1, none⟩ (.int .i64 p.1.i)).setCell ⟨g, k * 6 + 2, none⟩ (.int .i64 p.1.j)).setCell ⟨g, k * 6 + 3, none⟩ (.int .i64 p.1.k)).setCell ⟨g, k * 6 + 4, none⟩ p.2).setCell ⟨g, k * 6 + 5, none⟩ (.string p.1.map)) (some g) := by
  obtain ⟨h1, g1⟩ := World.ownsRow.stored h (k * 6) (.int .i64 p.1.kind)
  obtain ⟨h2, g2⟩ := World.ownsRow.stored h1 (k * 6 + 1) (.int .i64 p.1.i)
  obtain ⟨h3, g3⟩ := World.ownsRow.stored h2 (k * 6 + 2) (.int .i64 p.1.j)
  obtain ⟨h4, g4⟩ := World.ownsRow.stored h3 (k * 6 + 3) (.int .i64 p.1.k)
  obtain ⟨h5, g5⟩ := World.ownsRow.stored h4 (k * 6 + 4) p.2
  obtain ⟨h6, g6⟩ := World.ownsRow.stored h5 (k * 6 + 5) (.string p.1.map)
  rw [set6 ps k p hk] at h6
  exact ⟨h6, grown_trans (grown_trans (grown_trans (grown_trans (grown_trans g1 g2) g3) g4) g5) g6⟩
theorem fill_at (ps : List (GEdit × Value)) (m : Nat) (z p : GEdit × Value) : (ps ++ List.replicate (m + 1) z).set ps.length p = (ps ++ [p]) ++ List.replicate m z := by
  rw [List.set_append, if_neg (by omega), Nat.sub_self, List.replicate_succ, List.set_cons_zero, List.append_assoc]; rfl
set_option maxRecDepth 100000 in
set_option maxHeartbeats 2000000 in
theorem toEditS_any (v : Value) (es : List GEdit) (w : World) (h : Sl EditE w w.heap.size v es) (hn : es.length ≤ 1048576) (hl : ∀ e ∈ es, e.part.length ≤ 1048576) :
    Calls Tryz.prog 22 #[v] w fun r w' => ∃ v', r = .returned v' ∧ OEds w' w.heap.size w'.heap.size v' es ∧ Below w.heap.size w w' := by
  obtain ⟨A, c, rfl, hc, hm, hrow⟩ := h
  clear hm
  obtain ⟨i0, hi0, hz0, hz1, hz2⟩ := info_parts Tryz.infoEd
  go_enter Tryz.func22, Tryz.ntmps22
  go_wp2_with (at_make; go_must (refine wpList_make_full _ rfl _ _ 47 rfl w.heap.size 36 i0 _ 6 Tryz.underlying47 hi0 hz0 hz1 _ _ _ _ es.length rfl rfl rfl rfl (by rw [hz2]; omega) (by unfold maxLen; omega) (Nat.le_refl _) ?_); intro w1 hown1 hg1; rw [madeEdits] at hown1)
  have hb1 : Below w.heap.size w w1 := (Below.refl _ _).grown hg1 (Nat.le_refl _) (by simp)
  have hlt1 : w.heap.size < w1.heap.size := (World.ownsRow.lt hown1 w.heap.size rfl).2
  have Hown := Lib.hid hown1
  clear hown1 hg1 hi0 hz0 hz1 hz2
  go_loopw [4] (fun i wr => ∃ (k : Nat) (ps : List (GEdit × Value)) (r : Nat → Nat), k ≤ es.length ∧ i = .int .i64 k ∧ Below w.heap.size w wr ∧ w.heap.size < wr.heap.size ∧ Hid (ps.map Prod.fst = es.take k) ∧
    Hid (wr.ownsRow w.heap.size 36 6 (.slice (some ⟨w.heap.size, 0, none⟩) es.length es.length) es.length ((ps ++ List.replicate (es.length - k) ((zE, .slice none 0 0) : GEdit × Value)).flatMap epCells)) ∧ Hid (PartsR wr (.slice (some ⟨w.heap.size, 0, none⟩) es.length es.length) (w.heap.size + 1) wr.heap.size r ps)) (fun i _ => es.length - (intOf i).toNat)
  case atStart => exact ⟨0, [], _, Nat.zero_le _, rfl, hb1, hlt1, rfl, by have := Hown.out; simpa [Hid] using this, PartsR.nil hlt1⟩
  case round =>
    obtain ⟨k, ps, r, hk, rfl, hb, hw, Hps, Hrow, HPR⟩ := hrel
    by_cases hlt : k < es.length
    · obtain ⟨b, o, rfl, hbl, hcell⟩ := hrow.edit (fun _ h => h) hlt
      obtain ⟨e, he⟩ : ∃ e, es[k]? = some e := ⟨_, List.getElem?_eq_getElem hlt⟩
      obtain ⟨vR, hec, hR⟩ := hcell k e he
      have hec2 := hec.up hb
      have HR2 := Lib.hid (hR.up hb)
      have hle := hl e (List.mem_of_getElem? he)
      have He := Lib.hid he
      obtain ⟨c0, c1, c2, c3, c4, c5, cl⟩ := hec2
      have hi : (k : Int) < (es.length : Int) := by omega
      have HB := Lib.hid hb
      have hsz := hb.size
      clear hcell he hec hR hb
      go_wp2_with fail
      refine (toEditO_any _ e _ ⟨_, rfl, HR2.out⟩ hle).mono ?_
      rintro r5 w2 ⟨vN, rfl, own2, hb2⟩
      obtain ⟨AN, cN, rfl, _⟩ := own_nil own2
      have hrow2 := ownsRow_below Hrow.out hb2
      have hsz2 := hb2.size
      have hpl : ps.length = k := by
        have := congrArg List.length Hps.out
        simpa [Nat.min_eq_left hk] using this
      have hfl : (ps ++ List.replicate (es.length - k) ((zE, .slice none 0 0) : GEdit × Value)).length = es.length := by simp [hpl]; omega
      have hx : ∀ j, j < 6 → ∃ u, w2.cell? ⟨w.heap.size, k * 6 + j, none⟩ = some u := fun j hj =>
        ⟨_, (hrow2.cellAt (k * 6 + j) (by omega)).trans (List.getElem?_eq_getElem (by rw [hrow2.1]; omega))⟩
      obtain ⟨u0, hu0⟩ := hx 0 (by omega)
      obtain ⟨u1, hu1⟩ := hx 1 (by omega)
      obtain ⟨u2, hu2⟩ := hx 2 (by omega)
      obtain ⟨u3, hu3⟩ := hx 3 (by omega)
      obtain ⟨u4, hu4⟩ := hx 4 (by omega)
      obtain ⟨u5, hu5⟩ := hx 5 (by omega)
      have hf := fun j => hrow2.frozenAt (k * 6 + j)
      have hf0 := hf 0
      have hf1 := hf 1
      have hf2 := hf 2
      have hf3 := hf 3
      have hf4 := hf 4
      have hf5 := hf 5
      rw [Nat.add_zero] at hu0 hf0
      have hst := stored6 hrow2 k (e, .slice AN e.part.length cN) (by omega)
      have hset : (ps ++ List.replicate (es.length - k) ((zE, .slice none 0 0) : GEdit × Value)).set k (e, .slice AN e.part.length cN) = (ps ++ [(e, .slice AN e.part.length cN)]) ++ List.replicate (es.length - (k + 1)) (zE, .slice none 0 0) := by
        rw [show es.length - k = (es.length - (k + 1)) + 1 by omega, ← hpl]; exact fill_at _ _ _ _
      rw [hset] at hst
      have Hst := Lib.hid hst
      have HB3 := Lib.hid (HB.out.trans (hb2.mono hsz))
      have Hb2 := Lib.hid hb2
      have Hown2 := Lib.hid own2
      have Hpl := Lib.hid hpl
      clear hrow2 hst hset hfl hb2 own2 hx hf hpl c0 c1 c2 c3 c4 c5
      go_wp2
      go_roundw
      case rel =>
        have hg := Hst.out.2
        have hpk : PartsR _ (.slice (some ⟨w.heap.size, 0, none⟩) es.length es.length) (w.heap.size + 1) wr.heap.size r ps := HPR.out.keep (fun g a b _ => (hg.block g (by omega) (fun e => by simp at e; omega)).trans (Hb2.out.block g b)) (Nat.le_trans hsz2 hg.size)
        obtain ⟨r', hr'⟩ := hpk.snoc (q := (e, .slice AN e.part.length cN)) (hi' := w2.heap.size) ⟨.inr ⟨own_keep Hown2.out fun g hgg => hg.block g (World.ownsRow.lt Hown2.out g hgg).2 (fun e => by have := (World.ownsRow.lt Hown2.out g hgg).1; simp at e; omega), fun g hgg => (World.ownsRow.lt Hown2.out g hgg).2, hg.size⟩, fun g hgg => by simp [Value.ownBlock] at hgg; omega⟩ hsz2 (by omega)
        refine ⟨k + 1, ps ++ [(e, .slice AN e.part.length cN)], r', by omega, by go_num, ?_, ?_, ?_, Lib.hid Hst.out.1, Lib.hid (hr'.le (Nat.le_refl _) hg.size)⟩
        · exact ((((((HB3.out.setCell (Nat.le_refl _) _).setCell (Nat.le_refl _) _).setCell (Nat.le_refl _) _).setCell (Nat.le_refl _) _).setCell (Nat.le_refl _) _).setCell (Nat.le_refl _) _)
        · have := hg.size; omega
        · show List.map Prod.fst (ps ++ [(e, Value.slice AN e.part.length cN)]) = es.take (k + 1)
          rw [List.map_append, Hps.out, List.take_add_one, He.out]; rfl
      case measure => simp [intOf]; omega
    · have hkn : k = es.length := by omega
      subst hkn
      go_wp2
      go_ret
      have hrow := Hrow.out
      rw [Nat.sub_self, List.replicate_zero, List.append_nil] at hrow
      refine ⟨_, rfl, ⟨ps, r, ?_, hrow, fun g hg => by simp [Value.ownBlock] at hg; omega, Nat.le_refl _, HPR.out.le (by omega) (Nat.le_refl _)⟩, hb⟩
      have := Hps.out
      rwa [List.take_length] at this
end Go.Proofs.YtfapnipmgmpgaaaGreatDoor

namespace Go.Proofs.YtfapnipmgmpgaaaGreatDoor
open Go.RowKit

set_option maxRecDepth 100000 in
theorem markRuleS_nil (A : Option Addr) (c k : Nat) (w : World) :
    Calls Tryz.prog 46 #[.slice A 0 c, .int .i64 k] w fun r w' => r = .returned (.int .i64 k) ∧ w' = w := by
  go_enter Tryz.func46, Tryz.ntmps46
  go_wp2_with fail
  go_loopw [1, 5] (fun q i wr => q = .int .i64 k ∧ i = .int .i64 0 ∧ wr = w) (fun _ _ _ => 0)
  case atStart => exact ⟨rfl, rfl, rfl⟩
  case round =>
    obtain ⟨rfl, rfl, rfl⟩ := hrel
    go_wp2
    go_ret
    exact ⟨rfl, rfl⟩
theorem markPart (v : Value) (a b : Nat) (e : GEdit) (u : Value) (k : Nat) (q : Int) (w : World) (h : PartAt w v a b (e, u)) (hn : e.part.length ≤ 1099511627776) (hk : k ≤ 1099511627776) (hq : q = k) :
    Calls Tryz.prog 46 #[u, .int .i64 q] w fun r w' => r = .returned (.int .i64 ((k + 3 * e.part.length : Nat) : Int)) ∧ (∀ e' : GEdit, e'.part = marks k e.part.length → PartAt w' v a b (e', u)) ∧ Chg a b w w' := by
  subst hq
  obtain ⟨h1, h2⟩ := h
  rcases h1 with ⟨h3, A, c, h4, h5⟩ | h3
  · simp only at h3 h4
    subst h4
    refine (markRuleS_nil A c k w).mono ?_
    rintro r w' ⟨rfl, rfl⟩
    rw [h3]
    exact ⟨rfl, fun e' he => ⟨.inl ⟨he, A, c, rfl, h5⟩, h2⟩, Chg.refl _ _ _⟩
  · refine (markRuleS_any a u e.part k w h3.1 hn hk).mono ?_
    rintro r w' ⟨rfl, hm, hg⟩
    exact ⟨rfl, fun e' he => ⟨.inr (by rw [he]; exact h3.markedC hm (chg_of h3 hg)), h2⟩, chg_of h3 hg⟩
theorem heldPart (u : Value) (k m : Nat) (q : Int) (w : World) (h : Sl RuleE w w.heap.size u (marks k m)) (hn : m ≤ 1099511627776) (hk : k ≤ 1099511627776) (hq : q = k) :
    Calls Tryz.prog 47 #[u, .int .i64 q] w fun e w' => e = .returned (.int .i64 ((k + 3 * m : Nat) : Int)) ∧ Below w.heap.size w w' := by
  subst hq; exact heldRuleS_any u k m w h hn hk
theorem marks_set (k : Nat) (es : List GEdit) (n : Nat) (e : GEdit) (h : es[n]? = some e) : (markES k (es.take n) ++ es.drop n).set n (mkE (markEnd k (es.take n)) e) = markES k (es.take (n + 1)) ++ es.drop (n + 1) := by
  obtain ⟨hn, rfl⟩ := List.getElem?_eq_some_iff.1 h
  have hl : (markES k (es.take n)).length = n := by rw [markES_len, List.length_take]; omega
  rw [List.set_append, if_neg (by omega), hl, Nat.sub_self, List.drop_eq_getElem_cons hn, List.set_cons_zero, List.take_add_one, h, Option.toList_some, markES_snoc, List.append_assoc]; rfl
set_option maxRecDepth 100000 in
set_option maxHeartbeats 2000000 in
theorem markEditS_any (lo hi : Nat) (v : Value) (es : List GEdit) (k : Nat) (w : World) (h : OEds w lo hi v es) (hk : markEnd k es ≤ 1099511627776) (hn : es.length ≤ 1099511627776) :
    Calls Tryz.prog 25 #[v, .int .i64 k] w fun r w' => r = .returned (.int .i64 (markEnd k es : Nat)) ∧ OEds w' lo hi v (markES k es) ∧ Chg lo hi w w' := by
  have Hown := Lib.hid h
  obtain ⟨_, _, _, h2, _⟩ := h
  obtain ⟨A, cap, rfl, _⟩ := own_nil h2
  clear h2
  go_enter Tryz.func25, Tryz.ntmps25
  go_wp2_with fail
  go_loopw [1, 5] (fun q i wr => ∃ n : Nat, n ≤ es.length ∧ q = .int .i64 (markEnd k (es.take n) : Nat) ∧ i = .int .i64 n ∧ Hid (OEds wr lo hi (.slice A es.length cap) (markES k (es.take n) ++ es.drop n)) ∧ Chg lo hi w wr) (fun _ i _ => es.length - (intOf i).toNat)
  case atStart => exact ⟨0, Nat.zero_le _, rfl, rfl, by simpa [markES, Hid] using Hown.out, Chg.refl _ _ _⟩
  case round =>
    obtain ⟨n, hnl, rfl, rfl, HO, hcg⟩ := hrel
    by_cases hlt : n < es.length
    · obtain ⟨ps, r, hps, hrow, hhi, hsz, hP⟩ := HO.out
      obtain ⟨e, he⟩ : ∃ e, es[n]? = some e := ⟨_, List.getElem?_eq_getElem hlt⟩
      have hll : (markES k (es.take n) ++ es.drop n).length = es.length := by rw [List.length_append, markES_len, List.length_take, List.length_drop]; omega
      have hcur : (markES k (es.take n) ++ es.drop n)[n]? = some e := by
        have hl : (markES k (es.take n)).length = n := by rw [markES_len, List.length_take]; omega
        rw [List.getElem?_append_right (by omega), hl, Nat.sub_self, List.getElem?_drop, Nat.add_zero, he]
      obtain ⟨u, hu⟩ := ps_at (by rw [hps]; exact hcur)
      rw [hll] at hrow
      obtain ⟨g, cap', hv, hgb, hgl, _, _⟩ := own_form hrow (by omega)
      injection hv with hv1 hv2 hv3
      subst hv1 hv3
      obtain ⟨htk, hle⟩ := markEnd_take k es n e he
      have hset := marks_set k es n e he
      obtain ⟨m, hm⟩ : ∃ m, markEnd k (es.take n) = m := ⟨_, rfl⟩
      rw [hm] at htk hle hset ⊢
      have hpl : n < ps.length := (List.getElem?_eq_some_iff.1 hu).1
      have hmk : m + 4 + 3 * e.part.length + 1 ≤ 1099511627776 := by unfold mkK at hle; omega
      have hPn := hP.at_ n _ hu
      have hhb := hP.high (2 * n + 1)
      obtain ⟨a, ha⟩ : ∃ a, r (2 * n) = a := ⟨_, rfl⟩
      obtain ⟨b, hb⟩ : ∃ b, r (2 * n + 1) = b := ⟨_, rfl⟩
      rw [ha, hb] at hPn
      rw [hb] at hhb
      have hrg := hPn.2 g rfl
      have hx : ∀ j, j < 6 → ∃ x, wr.cell? ⟨g, n * 6 + j, none⟩ = some x := fun j hj =>
        ⟨_, (hrow.cellAt (n * 6 + j) (by omega)).trans (List.getElem?_eq_getElem (by rw [hrow.1]; omega))⟩
      obtain ⟨u0, hu0⟩ := hx 0 (by omega)
      obtain ⟨u1, hu1⟩ := hx 1 (by omega)
      obtain ⟨u2, hu2⟩ := hx 2 (by omega)
      obtain ⟨u3, hu3⟩ := hx 3 (by omega)
      have hu4 : wr.cell? ⟨g, n * 6 + 4, none⟩ = some u := by rw [hrow.cellAt (n * 6 + 4) (by omega), ep_at ps n _ hu 4 (by omega)]; rfl
      have hf := fun j => hrow.frozenAt (n * 6 + j)
      have hf0 := hf 0
      have hf1 := hf 1
      have hf2 := hf 2
      have hf3 := hf 3
      have hf4 := hf 4
      rw [Nat.add_zero] at hu0 hf0
      obtain ⟨h1, g1⟩ := World.ownsRow.stored hrow (n * 6) (.int .i64 m)
      obtain ⟨h2, g2⟩ := World.ownsRow.stored h1 (n * 6 + 1) (.int .i64 ((m : Int) + 1))
      obtain ⟨h3, g3⟩ := World.ownsRow.stored h2 (n * 6 + 2) (.int .i64 ((m : Int) + 1 + 1))
      obtain ⟨h4, g4⟩ := World.ownsRow.stored h3 (n * 6 + 3) (.int .i64 ((m : Int) + 1 + 1 + 1))
      have G4 := Lib.hid (grown_trans (grown_trans (grown_trans g1 g2) g3) g4)
      have R4 := Lib.hid h4
      have P4 := Lib.hid (hPn.row rfl (by omega) G4.out)
      have HP := Lib.hid hP
      have Hu := Lib.hid hu
      have He := Lib.hid he
      have Hps := Lib.hid hps
      have Hset := Lib.hid hset
      have Htk := Lib.hid htk
      have Hm := Lib.hid hm
      have Ha := Lib.hid ha
      have Hb := Lib.hid hb
      have Hhi := Lib.hid hhi
      have hi' : (n : Int) < (es.length : Int) := by omega
      clear h1 h2 h3 h4 g1 g2 g3 g4 hP hPn hu he hps hset htk hm ha hb hhi hcur hll hf hx hrow
      go_wp2_with fail
      refine (markPart _ a b e u (m + 4) _ _ P4.out (by omega) (by omega) (by omega)).mono ?_
      rintro r5 w2 ⟨rfl, hp2, hc2⟩
      have hl4 := (World.ownsRow.lt R4.out g rfl).2
      have R2 := own_keep R4.out (fun g' hg' => by
        have e9 : g = g' := by simpa [Value.ownBlock] using hg'
        subst e9
        exact hc2.block g hl4 hrg)
      have HC2 := Lib.hid hc2
      have HP2 := Lib.hid hp2
      have HR2 := Lib.hid R2
      clear hc2 hp2 R2 hu0 hu1 hu2 hu3 hu4 hf0 hf1 hf2 hf3 hf4
      go_wp2_with fail
      refine (markText_int (m + 4 + 3 * e.part.length) _ _ (by omega) (by omega)).mono ?_
      rintro r6 w3 ⟨rfl, hb3⟩
      have R3 := ownsRow_below HR2.out hb3
      obtain ⟨u5, hu5⟩ : ∃ x, w3.cell? ⟨g, n * 6 + 5, none⟩ = some x := ⟨_, (R3.cellAt (n * 6 + 5) (by omega)).trans (List.getElem?_eq_getElem (by rw [R3.1]; omega))⟩
      have hf5 := R3.frozenAt (n * 6 + 5)
      obtain ⟨h6, g6⟩ := World.ownsRow.stored R3 (n * 6 + 5) (.string (mtext (m + 4 + 3 * e.part.length)))
      have hs := set5 ps n (mkE m e, u) (e, u) Hu.out rfl
      simp only [mkE] at hs
      rw [show ((m + 1 : Nat) : Int) = (m : Int) + 1 by omega, show ((m + 2 : Nat) : Int) = (m : Int) + 1 + 1 by omega, show ((m + 3 : Nat) : Int) = (m : Int) + 1 + 1 + 1 by omega] at hs
      rw [hs] at h6
      have H6 := Lib.hid h6
      have G6 := Lib.hid g6
      have HB3 := Lib.hid hb3
      clear h6 g6 hs R3 hb3
      go_wp2_with fail
      go_roundw
      case rel =>
        have hE : (⟨(m : Int), (m : Int) + 1, (m : Int) + 1 + 1, (m : Int) + 1 + 1 + 1, marks (m + 4) e.part.length, mtext (m + 4 + 3 * e.part.length)⟩ : GEdit) = mkE m e := by
          unfold mkE
          rw [show ((m + 1 : Nat) : Int) = (m : Int) + 1 by omega, show ((m + 2 : Nat) : Int) = (m : Int) + 1 + 1 by omega, show ((m + 3 : Nat) : Int) = (m : Int) + 1 + 1 + 1 by omega]
        have s4 := G4.out.size
        have s2 := HC2.out.size
        have s3 := HB3.out.size
        have s6 := G6.out.size
        have hblk : ∀ x, x < wr.heap.size → x ≠ g → x < a ∨ b ≤ x → (w3.setCell ⟨g, n * 6 + 5, none⟩ (.string (mtext (m + 4 + 3 * e.part.length)))).heap[x]? = wr.heap[x]? := fun x hx hne hr =>
          (G6.out.block x (by omega) (fun e => hne (by simpa using e))).trans ((HB3.out.block x (by omega)).trans ((HC2.out.block x (by omega) hr).trans (G4.out.block x hx (fun e => hne (by simpa using e)))))
        have hPq : PartAt (w3.setCell ⟨g, n * 6 + 5, none⟩ (.string (mtext (m + 4 + 3 * e.part.length)))) (.slice (some ⟨g, 0, none⟩) es.length cap) a b (mkE m e, u) :=
          ((HP2.out (mkE m e) rfl).keep (fun x h1 h2 => HB3.out.block x (by omega)) s3).keep (fun x h1 h2 => G6.out.block x (by omega) (fun e => by simp at e; omega)) s6
        refine ⟨n + 1, by omega, ?_, by go_num, Lib.hid ⟨ps.set n (mkE m e, u), r, ?_, ?_, Hhi.out, by omega, ?_⟩, ?_⟩
        · rw [Htk.out]; unfold mkK; congr 1
        · rw [List.map_set, Hps.out, Hset.out]
        · have hl2 : (markES k (es.take (n + 1)) ++ es.drop (n + 1)).length = es.length := by rw [List.length_append, markES_len, List.length_take, List.length_drop]; omega
          rw [hl2, ← hE]; exact H6.out
        · refine HP.out.mark n _ (by rw [Ha.out, Hb.out]; exact hPq) (fun x hx hne hr => hblk x hx (fun e => hne (by rw [e]; rfl)) (by rw [Ha.out, Hb.out] at hr; exact hr)) (by omega)
        · refine hcg.trans ⟨?_, ?_, ?_, by omega, fun x hx hr => hblk x hx (by have := Hhi.out g rfl; omega) (by have := HP.out.mono 0 (2 * n) (Nat.zero_le _); have := HP.out.low; have := Ha.out; omega)⟩
          · exact G6.out.os.trans (HB3.out.os.trans (HC2.out.os.trans G4.out.os))
          · exact G6.out.tape.trans (HB3.out.tape.trans (HC2.out.tape.trans G4.out.tape))
          · exact G6.out.output.trans (HB3.out.output.trans (HC2.out.output.trans G4.out.output))
      case measure => simp [intOf]; omega
    · have hkn : n = es.length := by omega
      subst hkn
      go_wp2
      go_ret
      exact ⟨by simp, by have := HO.out; rwa [List.take_length, List.drop_length, List.append_nil] at this, hcg⟩
end Go.Proofs.YtfapnipmgmpgaaaGreatDoor

namespace Go.Proofs.YtfapnipmgmpgaaaGreatDoor
open Go.RowKit

set_option maxRecDepth 100000 in
set_option maxHeartbeats 2000000 in
theorem heldEditS_any (v : Value) (es : List GEdit) (k : Nat) (w : World) (h : Sl EditE w w.heap.size v (markES k es)) (hk : markEnd k es ≤ 1099511627776) (hn : es.length ≤ 1099511627776) :
    Calls Tryz.prog 28 #[v, .int .i64 k] w fun r w' => r = .returned (.int .i64 (markEnd k es : Nat)) ∧ Below w.heap.size w w' := by
  obtain ⟨A, c, rfl, hc, hm, hrow⟩ := h
  rw [markES_len] at hc
  rw [markES_len]
  clear hm
  go_enter Tryz.func28, Tryz.ntmps28
  go_wp2_with fail
  go_loopw [1, 5] (fun q i wr => ∃ n : Nat, n ≤ es.length ∧ q = .int .i64 (markEnd k (es.take n) : Nat) ∧ i = .int .i64 n ∧ Below w.heap.size w wr) (fun _ i _ => es.length - (intOf i).toNat)
  case atStart => exact ⟨0, Nat.zero_le _, rfl, rfl, Below.refl _ _⟩
  case round =>
    obtain ⟨n, hnl, rfl, rfl, hb⟩ := hrel
    by_cases hlt : n < es.length
    · obtain ⟨b, o, rfl, hbl, hcell⟩ := hrow.edit (fun _ h => h) (k := n) (by rw [markES_len]; exact hlt)
      obtain ⟨e, he⟩ : ∃ e, es[n]? = some e := ⟨_, List.getElem?_eq_getElem hlt⟩
      obtain ⟨vR, hec, hR⟩ := hcell n _ (markES_at k es n e he)
      obtain ⟨htk, hle⟩ := markEnd_take k es n e he
      obtain ⟨m, hm⟩ : ∃ m, markEnd k (es.take n) = m := ⟨_, rfl⟩
      rw [hm] at htk hle hec hR ⊢
      have hmk : m + 4 + 3 * e.part.length + 1 ≤ 1099511627776 := by unfold mkK at hle; omega
      obtain ⟨c0, c1, c2, c3, c4, c5, cl⟩ := hec.up hb
      simp only [mkE] at c0 c1 c2 c3 c5
      rw [show ((m + 1 : Nat) : Int) = (m : Int) + 1 by omega] at c1
      rw [show ((m + 2 : Nat) : Int) = (m : Int) + 1 + 1 by omega] at c2
      rw [show ((m + 3 : Nat) : Int) = (m : Int) + 1 + 1 + 1 by omega] at c3
      have HR := Lib.hid (hR.up hb)
      have Htk := Lib.hid htk
      have HB := Lib.hid hb
      have hsz := hb.size
      have hi' : (n : Int) < (es.length : Int) := by omega
      clear hcell he hec hR htk hm hb hle
      go_wp2_with fail
      refine (heldPart vR (m + 4) e.part.length _ _ HR.out (by omega) (by omega) (by omega)).mono ?_
      rintro r5 w2 ⟨rfl, hb2⟩
      have d5 := (hb2.cell (p := ⟨b, o + n * 6 + 5, none⟩) cl).trans c5
      have dl : b < w2.heap.size := Nat.lt_of_lt_of_le cl hb2.size
      have HB2 := Lib.hid (HB.out.trans (hb2.mono hsz))
      have hsz2 := HB2.out.size
      have e0 : (decide (((m + 4 + 3 * e.part.length : Nat) : Int) < 0)) = false := by simp; omega
      clear c0 c1 c2 c3 c4 c5 hb2
      go_wp2_with fail
      go_region_held3 (fun w' => Below w2.heap.size w2 w' ∧ w'.cell? ⟨b, o + n * 6 + 5, none⟩ = some (.string (mtext (m + 4 + 3 * e.part.length)))) (first | exact ⟨(Below.refl _ _).drew, d5⟩ | (exact keepB (by assumption) hb3 dl))
        (first | (go_at_call 53; refine (markText_int (m + 4 + 3 * e.part.length) _ _ (by omega) (by omega)).mono ?_; rintro r6 w3 ⟨rfl, hb3⟩))
      have HB3 := Lib.hid (HB2.out.trans (((Below.refl _ _).drew.trans hb3).mono hsz2))
      clear hb3 d5
      go_wp2
      go_roundw
      case rel => exact ⟨n + 1, by omega, by rw [Htk.out]; unfold mkK; congr 1, by go_num, HB3.out⟩
      case measure => simp [intOf]; omega
    · have hkn : n = es.length := by omega
      subst hkn
      go_wp2
      go_ret
      exact ⟨by simp, hb⟩
end Go.Proofs.YtfapnipmgmpgaaaGreatDoor

