import Derived.Test.YtfapnipmgmpgaaaGreatDoorM3
import Derived.Test.YtfapnipmgmpgaaaGreatDoorM9
import Derived.Test.YtfapnipmgmpgaaaGreatDoorM11
import Derived.Test.YtfapnipmgmpgaaaGreatDoorM13
import Derived.Test.YtfapnipmgmpgaaaGreatDoorM2
import Derived.Test.YtfapnipmgmpgaaaGreatDoorM12
import Derived.Test.YtfapnipmgmpgaaaGreatDoorM10
namespace Go.Proofs.YtfapnipmgmpgaaaGreatDoor
open Go.RowKit

theorem szE_le2 {e : GEdit} {left : Int} (hl : 0 ≤ left ∧ left ≤ 1048576) (h : 0 ≤ szE e left) : e.part.length ≤ 1048576 := by
  unfold szE at h
  split at h
  · omega
  · obtain ⟨_, h2⟩ := szRs_le e.part left (by omega)
    omega
theorem edit_own {w : World} {lo : Nat} {vR : Value} {e : GEdit} (h : OwnRules w lo vR e.part) : EditV w w.heap.size (.agg (editCells e vR)) e := ⟨vR, rfl, h.sl⟩
theorem addO_ok {s g : Option (List GRule)} {o : List GRule} (h : addO s g = some o) : gramOk o = true := by
  unfold addO at h
  split at h
  · split at h
    · rename_i h2; cases h; exact h2
    · cases h
  · cases h
theorem editS_ok {xs : List GRule} {ls : List Int} {n : Int} {e : GEdit} {o : List GRule} (h : editS xs ls n e = some o) : gramOk o = true := by
  unfold editS at h
  repeat' split at h
  all_goals exact addO_ok h
theorem applyOut_ok (xs : List GRule) (e : GEdit) : gramOk (applyOut xs e) = true := by
  unfold applyOut
  split
  · split
    · unfold editG applyS
      cases h : editS xs (lsOf xs) (lastI (lsOf xs)) e with
      | none => rfl
      | some o => exact gramOk_trim (editS_ok h)
    · rfl
  · rfl
theorem applyOut_len (xs : List GRule) (e : GEdit) : (applyOut xs e).length ≤ 400 := gram_len400 (applyOut_ok xs e)
theorem OwnRules.sl1 {w W : World} {base : Nat} {v : Value} {l : List GRule} (h : OwnRules w base v l) (hb : Below w.heap.size w W) : Sl RuleE W W.heap.size v l := (OwnRules.sl h).up hb
set_option maxRecDepth 100000 in
set_option maxHeartbeats 4000000 in
theorem lawApplyEdit_any (v v' : Value) (xs : List GRule) (e : GEdit) (w : World) (h : Sl RuleE w w.heap.size v xs) (hsm : SmallL xs) (hE : EditV w w.heap.size v' e) (hsmE : SmallL e.part) (hm : e.map.size ≤ maxLen) (htab : Lib.TabIs Tryz.prog w "math/bits.deBruijn64tab" .u8 deB64) :
    Calls Tryz.prog 3 #[.agg #[v], v'] w fun r w' => r = .returned (.bool true) ∧ Below w.heap.size w w' := by
  obtain ⟨vR, rfl, hR⟩ := hE
  have HG := Lib.hid h
  have HR := Lib.hid hR
  have HT := Lib.hid htab
  obtain ⟨A, c, rfl, _⟩ := h
  obtain ⟨AR, cR, rfl, _⟩ := hR
  clear htab
  go_enter Tryz.func3, Tryz.ntmps3
  go_wp2_with fail
  refine (szGrammar_any _ xs _ _ (HG.out.up (by repeat (first | exact Below.refl _ _ | (refine Below.alloc ?_ (by first | omega | (simp; done) | (simp; omega)) _) | (refine Below.setCell ?_ (by first | exact Nat.le_refl _ | (show _ ≤ _; omega) | (simp; done) | (simp; omega)) _) | refine below_drewN ?_ _ | refine Below.drew ?_))) hsm (by omega)).mono ?_
  rintro e w1 ⟨rfl, hb_1⟩
  have Kx_2 : Blk w1 (w.heap.size + 1) #[.int .i64 e.kind, .int .i64 e.i, .int .i64 e.j, .int .i64 e.k, .slice AR e.part.length cR, .string e.map] 26 := by have := (Below.unalloc hb_1).2; simpa [Blk] using this
  replace hb_1 := (Below.unalloc hb_1).1
  have Ka_3 : Blk w1 (w.heap.size) #[.slice A xs.length c] 24 := by have := (Below.unalloc hb_1).2; simpa [Blk] using this
  replace hb_1 := (Below.unalloc hb_1).1
  have z_w1 : w.heap.size ≤ w1.heap.size := hb_1.size
  have KB_4 := Lib.hid hb_1
  have lx1 := Blk.lt Kx_2
  by_cases hneg : szRs xs 1048576 < 0
  · rw [if_pos hneg]
    clear hneg
    go_wp2_with fail
    go_ret
    exact ⟨rfl, KB_4.out⟩
  rw [if_neg hneg]
  obtain ⟨hle, hlen⟩ := szRs_le xs 1048576 (by omega)
  have hn : xs.length ≤ 1048576 := by omega
  obtain ⟨X, hX⟩ : ∃ X, szRs xs 1048576 = X := ⟨_, rfl⟩
  rw [hX] at hneg hle ⊢
  clear hX hlen
  have ca0_5 := Blk.cell (i := 0) (v := .slice A xs.length c) Ka_3 rfl
  have la_6 := Blk.lt Ka_3
  have cx0_7 := Blk.cell (i := 0) (v := .int .i64 e.kind) Kx_2 rfl
  have cx1_8 := Blk.cell (i := 1) (v := .int .i64 e.i) Kx_2 rfl
  have cx2_9 := Blk.cell (i := 2) (v := .int .i64 e.j) Kx_2 rfl
  have cx3_10 := Blk.cell (i := 3) (v := .int .i64 e.k) Kx_2 rfl
  have cx4_11 := Blk.cell (i := 4) (v := .slice AR e.part.length cR) Kx_2 rfl
  have cx5_12 := Blk.cell (i := 5) (v := .string e.map) Kx_2 rfl
  have lx_13 := Blk.lt Kx_2
  go_wp2_with fail
  refine (szEdit_any _ e _ _ ⟨_, rfl, HR.out.up KB_4.out⟩ hsmE hm (by omega)).mono ?_
  rintro e w2 ⟨rfl, hb_14⟩
  have z_w2 : w1.heap.size ≤ w2.heap.size := hb_14.size
  have Kx_15 := Blk.up Kx_2 hb_14
  have Ka_16 := Blk.up Ka_3 hb_14
  have KB_17 := Lib.hid (Below.tr KB_4.out hb_14)
  clear hb_1 ca0_5 la_6 cx0_7 cx1_8 cx2_9 cx3_10 cx4_11 cx5_12 lx_13 Kx_2 Ka_3 KB_4
  by_cases hneg2 : szE e X < 0
  · skip
    go_wp2_with fail
    go_ret
    exact ⟨rfl, KB_17.out⟩
  have hn2 : e.part.length ≤ 1048576 := szE_le2 (left := X) (by omega) (by omega)
  have HN := Lib.hid hneg2
  have hlo := applyOut_len xs e
  clear hneg hle
  clear hb_14
  go_upto_region 8 with fail
  go_cut [6, 7] (fun p q wx => ∃ (Z : Nat) (A9 : Option Addr) (c9 : Nat), p = .pointer (some ⟨Z, 0, none⟩) ∧ q = .int .i64 (applyCode xs e) ∧ w2.heap.size ≤ Z ∧ Below w2.heap.size w2 wx ∧ Blk wx Z #[.slice A9 (applyOut xs e).length c9] 31 ∧ OwnRules wx w2.heap.size (.slice A9 (applyOut xs e).length c9) (applyOut xs e))
  case first =>
    have B0 := Below.drew (Below.refl w2.heap.size w2)
    have BA := Lib.hid (fun (o : Obj) => Below.drew (Below.alloc (Below.refl w2.heap.size w2) (Nat.le_refl _) o))
    have KD := keep17 Ka_16 Kx_15 B0
    have HBS := Lib.hid KB_17.out
    have HKA := Lib.hid Ka_16
    have HKX := Lib.hid Kx_15
    go_region_held3 (fun w' => Below w2.heap.size w2 w' ∧ w'.cell? ⟨w.heap.size, 0, none⟩ = some (.slice A xs.length c) ∧ w'.cell? ⟨w.heap.size + 1, 0, none⟩ = some (.int .i64 e.kind) ∧ w'.cell? ⟨w.heap.size + 1, 1, none⟩ = some (.int .i64 e.i) ∧ w'.cell? ⟨w.heap.size + 1, 2, none⟩ = some (.int .i64 e.j) ∧ w'.cell? ⟨w.heap.size + 1, 3, none⟩ = some (.int .i64 e.k) ∧ w'.cell? ⟨w.heap.size + 1, 4, none⟩ = some (.slice AR e.part.length cR) ∧ w'.cell? ⟨w.heap.size + 1, 5, none⟩ = some (.string e.map))
      (first | (with_reducible exact KD) | (with_reducible exact keep17 HKA.out HKX.out (BA.out _)) | (with_reducible exact keep17 HKA.out HKX.out b1) | (with_reducible exact keep17 HKA.out HKX.out (b1.alloc z1 _)) | (with_reducible exact keep17 HKA.out HKX.out b2) | (with_reducible exact keep17 HKA.out HKX.out (b2.alloc z2 _)) | (with_reducible exact keep17 HKA.out HKX.out b3) | (with_reducible exact keep17 HKA.out HKX.out (b3.alloc z3 _)) | (with_reducible exact keep17 HKA.out HKX.out (b3.setCell (Nat.le_refl _) _)) | (with_reducible exact keep17 HKA.out HKX.out (b3.setCell z1 _)) | (with_reducible exact keep17 HKA.out HKX.out (b3.setCell z2 _)) | (with_reducible exact keep17 HKA.out HKX.out (b3.setCell z3 _)))
      (first
        | (go_at_call 12; (refine (toGrammar_any _ xs _ (HG.out.up (by repeat (first | exact HBS.out | (refine Below.alloc ?_ (by first | omega | (simp; done) | (simp; omega)) _) | (refine Below.setCell ?_ (by first | exact Nat.le_refl _ | (show _ ≤ _; omega) | (simp; done) | (simp; omega)) _) | refine below_drewN ?_ _ | refine Below.drew ?_))) hn).mono ?_); rintro r u1 ⟨v1, rfl, own1, hb1⟩; have b1 : Below w2.heap.size w2 u1 := (by first | exact Below.undrew hb1 | exact (Below.unalloc (Below.undrew hb1)).1); have z1 := b1.size; (try (have KZ : Blk u1 w2.heap.size #[.slice none 0 0] 31 := (Below.unalloc (Below.undrew hb1)).2; have l1 := Blk.lt KZ)))
        | (go_at_call 13; (refine (toEditO_any _ e _ ⟨_, rfl, HR.out.up (by repeat (first | exact Below.tr HBS.out b1 | (refine Below.alloc ?_ (by first | omega | (simp; done) | (simp; omega)) _) | (refine Below.setCell ?_ (by first | exact Nat.le_refl _ | (show _ ≤ _; omega) | (simp; done) | (simp; omega)) _) | refine below_drewN ?_ _ | refine Below.drew ?_))⟩ hn2).mono ?_); rintro r u2 ⟨v2, rfl, own2, hb2⟩; have c2 : Below u1.heap.size u1 u2 := (by first | exact hb2 | exact (Below.unalloc hb2).1); have b2 := Below.tr b1 c2; have z2 := b2.size; have y2 := c2.size; (first | (have KZ := Blk.up KZ c2) | (have KZ : Blk u2 u1.heap.size #[.slice none 0 0] 31 := (Below.unalloc hb2).2) | skip); (try have l2 := Blk.lt KZ))
        | (go_at_call 11; (refine (specApply_any _ _ xs e _ (OwnRules.sl1 own1 (by repeat (first | exact c2 | (refine Below.alloc ?_ (by first | omega | (simp; done) | (simp; omega)) _) | (refine Below.setCell ?_ (by first | exact Nat.le_refl _ | (show _ ≤ _; omega) | (simp; done) | (simp; omega)) _) | refine below_drewN ?_ _ | refine Below.drew ?_))) ⟨_, rfl, OwnRules.sl1 own2 (by repeat (first | exact Below.refl _ _ | (refine Below.alloc ?_ (by first | omega | (simp; done) | (simp; omega)) _) | (refine Below.setCell ?_ (by first | exact Nat.le_refl _ | (show _ ≤ _; omega) | (simp; done) | (simp; omega)) _) | refine below_drewN ?_ _ | refine Below.drew ?_))⟩ hn2 hsm hsmE hm).mono ?_); rintro r u3 ⟨hb3, v3, own3, rfl⟩; obtain ⟨A9, c9, rfl, _⟩ := own_nil own3; have c3 : Below u2.heap.size u2 u3 := (by first | exact hb3 | exact (Below.unalloc hb3).1); have b3 := Below.tr b2 c3; have z3 := b3.size; have y3 := c3.size; (first | (have KZ := Blk.up KZ c3) | (have KZ : Blk u3 u2.heap.size #[.slice none 0 0] 31 := (Below.unalloc hb3).2) | skip); (try (have kz := Blk.cell (i := 0) (v := .slice none 0 0) KZ rfl; have fz := Blk.frozen KZ 0; have lz := Blk.lt KZ))))
    all_goals
      go_wp2_with fail
      go_meet
      have own4 : OwnRules u3 w2.heap.size _ _ := ownsRow_more own3 (base' := w2.heap.size) (by first | omega | (simp; omega))
      first
        | exact ⟨u3.heap.size, A9, c9, rfl, rfl, z3, b3.alloc z3 _, Blk.new _ _ _, World.ownsRow.alloc own4 _⟩
        | exact ⟨w2.heap.size, A9, c9, rfl, rfl, Nat.le_refl _, b3.setCell (show w2.heap.size ≤ (⟨w2.heap.size, 0, none⟩ : Addr).block from Nat.le_refl _) _, KZ.set 0 _, ownsRow_more (ownsRow_setCell_below own3 (a := ⟨w2.heap.size, 0, none⟩) (by first | (show _ < _; omega) | (simp; done) | (simp; omega)) _) (by first | omega | (simp; omega))⟩
        | exact ⟨u1.heap.size, A9, c9, rfl, rfl, z1, b3.setCell (show w2.heap.size ≤ (⟨u1.heap.size, 0, none⟩ : Addr).block from z1) _, KZ.set 0 _, ownsRow_more (ownsRow_setCell_below own3 (a := ⟨u1.heap.size, 0, none⟩) (by first | (show _ < _; omega) | (simp; done) | (simp; omega)) _) (by first | omega | (simp; omega))⟩
        | exact ⟨u2.heap.size, A9, c9, rfl, rfl, z2, b3.setCell (show w2.heap.size ≤ (⟨u2.heap.size, 0, none⟩ : Addr).block from z2) _, KZ.set 0 _, ownsRow_more (ownsRow_setCell_below own3 (a := ⟨u2.heap.size, 0, none⟩) (by first | (show _ < _; omega) | (simp; done) | (simp; omega)) _) (by first | omega | (simp; omega))⟩
  case rest =>
    obtain ⟨Z, A9, c9, rfl, rfl, hZl, hbR, KZ, hown⟩ := hcut
    have KW := Lib.hid (OwnRules.sl hown)
    have lZ := Blk.lt KZ
    revert hbR KZ KW lZ
    clear hown
    generalize wc = w3
    intro hbR KZ KW lZ
    have hb_18 := hbR
    have z_w3 : w2.heap.size ≤ w3.heap.size := hb_18.size
    have Kx_19 := Blk.up Kx_15 hb_18
    have Ka_20 := Blk.up Ka_16 hb_18
    have KB_21 := Lib.hid (Below.tr KB_17.out hb_18)
    clear Kx_15 Ka_16 KB_17
    have ca0_22 := Blk.cell (i := 0) (v := .slice A xs.length c) Ka_20 rfl
    have la_23 := Blk.lt Ka_20
    go_wp2_with fail
    refine (toGrammar_any _ xs _ (HG.out.up (by repeat (first | exact KB_21.out | (refine Below.alloc ?_ (by first | omega | (simp; done) | (simp; omega)) _) | (refine Below.setCell ?_ (by first | exact Nat.le_refl _ | (show _ ≤ _; omega) | (simp; done) | (simp; omega)) _) | refine below_drewN ?_ _ | refine Below.drew ?_))) hn).mono ?_
    rintro e w4 ⟨v4, rfl, own4, hb_24⟩
    have z_w4 : w3.heap.size ≤ w4.heap.size := hb_24.size
    have Kx_25 := Blk.up Kx_19 hb_24
    have Ka_26 := Blk.up Ka_20 hb_24
    have KB_27 := Lib.hid (Below.tr KB_21.out hb_24)
    have Kz_28 := Blk.up KZ hb_24
    have KW_29 := Lib.hid (SlS.upN KW.out (by omega) hb_24)
    clear hb_18 ca0_22 la_23 Kx_19 Ka_20 KB_21 KZ KW
    obtain ⟨A4, c4, rfl, _⟩ := own_nil own4
    have KX := Lib.hid (OwnR.of own4)
    clear own4
    have cx0_30 := Blk.cell (i := 0) (v := .int .i64 e.kind) Kx_25 rfl
    have cx1_31 := Blk.cell (i := 1) (v := .int .i64 e.i) Kx_25 rfl
    have cx2_32 := Blk.cell (i := 2) (v := .int .i64 e.j) Kx_25 rfl
    have cx3_33 := Blk.cell (i := 3) (v := .int .i64 e.k) Kx_25 rfl
    have cx4_34 := Blk.cell (i := 4) (v := .slice AR e.part.length cR) Kx_25 rfl
    have cx5_35 := Blk.cell (i := 5) (v := .string e.map) Kx_25 rfl
    have lx_36 := Blk.lt Kx_25
    go_wp2_with fail
    refine (toEditO_any _ e _ ⟨_, rfl, HR.out.up (by repeat (first | exact KB_27.out | (refine Below.alloc ?_ (by first | omega | (simp; done) | (simp; omega)) _) | (refine Below.setCell ?_ (by first | exact Nat.le_refl _ | (show _ ≤ _; omega) | (simp; done) | (simp; omega)) _) | refine below_drewN ?_ _ | refine Below.drew ?_))⟩ hn2).mono ?_
    rintro e w5 ⟨vE, rfl, own5, hb_37⟩
    have Kp_38 : Blk w5 (w4.heap.size) #[.slice A4 xs.length c4] 31 := by have := (Below.unalloc hb_37).2; simpa [Blk] using this
    replace hb_37 := (Below.unalloc hb_37).1
    have z_w5 : w4.heap.size ≤ w5.heap.size := hb_37.size
    have Kx_39 := Blk.up Kx_25 hb_37
    have Ka_40 := Blk.up Ka_26 hb_37
    have KB_41 := Lib.hid (Below.tr KB_27.out hb_37)
    have Kz_42 := Blk.up Kz_28 hb_37
    have KW_43 := Lib.hid (SlS.upN KW_29.out (by omega) hb_37)
    have KX_44 := Lib.hid (OwnR.up KX.out hb_37)
    clear hb_24 cx0_30 cx1_31 cx2_32 cx3_33 cx4_34 cx5_35 lx_36 Kx_25 Ka_26 KB_27 Kz_28 KW_29 KX
    obtain ⟨A5, c5, rfl, _⟩ := own_nil own5
    have KE := Lib.hid (OwnR.of (ownsRow_more own5 (base' := w4.heap.size + 1) (by simp)))
    clear own5
    have cp0_45 := Blk.cell (i := 0) (v := .slice A4 xs.length c4) Kp_38 rfl
    have lp_46 := Blk.lt Kp_38
    go_wp2_with fail
    refine (implApply_any _ _ xs e _ (SlS.up (OwnR.sl KX_44.out) (by repeat (first | exact Below.refl _ _ | (refine Below.alloc ?_ (by first | omega | (simp; done) | (simp; omega)) _) | (refine Below.setCell ?_ (by first | exact Nat.le_refl _ | (show _ ≤ _; omega) | (simp; done) | (simp; omega)) _) | refine below_drewN ?_ _ | refine Below.drew ?_))) ⟨_, rfl, SlS.up (OwnR.sl KE.out) (by repeat (first | exact Below.refl _ _ | (refine Below.alloc ?_ (by first | omega | (simp; done) | (simp; omega)) _) | (refine Below.setCell ?_ (by first | exact Nat.le_refl _ | (show _ ≤ _; omega) | (simp; done) | (simp; omega)) _) | refine below_drewN ?_ _ | refine Below.drew ?_))⟩ hn hn2 hm (tabB HT.out (by repeat (first | exact KB_41.out | (refine Below.alloc ?_ (by first | omega | (simp; done) | (simp; omega)) _) | (refine Below.setCell ?_ (by first | exact Nat.le_refl _ | (show _ ≤ _; omega) | (simp; done) | (simp; omega)) _) | refine below_drewN ?_ _ | refine Below.drew ?_)))).mono ?_
    rintro e w6 ⟨hb_47, vQ, own6, rfl⟩
    have Kq_48 : Blk w6 (w5.heap.size) #[.int .i64 e.kind, .int .i64 e.i, .int .i64 e.j, .int .i64 e.k, .slice A5 e.part.length c5, .string e.map] 36 := by have := (Below.unalloc hb_47).2; simpa [Blk] using this
    replace hb_47 := (Below.unalloc hb_47).1
    have z_w6 : w5.heap.size ≤ w6.heap.size := hb_47.size
    have Kx_49 := Blk.up Kx_39 hb_47
    have Ka_50 := Blk.up Ka_40 hb_47
    have KB_51 := Lib.hid (Below.tr KB_41.out hb_47)
    have Kz_52 := Blk.up Kz_42 hb_47
    have KW_53 := Lib.hid (SlS.upN KW_43.out (by omega) hb_47)
    have KX_54 := Lib.hid (OwnR.up KX_44.out hb_47)
    have Kp_55 := Blk.up Kp_38 hb_47
    have KE_56 := Lib.hid (OwnR.up KE.out hb_47)
    clear hb_37 cp0_45 lp_46 Kx_39 Ka_40 KB_41 Kz_42 KW_43 KX_44 Kp_38 KE
    obtain ⟨A6, c6, rfl, _⟩ := own_nil own6
    have KQ := Lib.hid (OwnR.of (ownsRow_more own6 (base' := w5.heap.size + 1) (by simp)))
    clear own6
    have qc : (applyCode xs e != applyCode xs e) = false := by simp
    have cz0_57 := Blk.cell (i := 0) (v := .slice A9 (applyOut xs e).length c9) Kz_52 rfl
    have lz_58 := Blk.lt Kz_52
    go_wp2_with fail
    refine (eqGrammar_any _ _ (applyOut xs e) _ (SlS.up (OwnR.sl KQ.out) (by repeat (first | exact Below.refl _ _ | (refine Below.alloc ?_ (by first | omega | (simp; done) | (simp; omega)) _) | (refine Below.setCell ?_ (by first | exact Nat.le_refl _ | (show _ ≤ _; omega) | (simp; done) | (simp; omega)) _) | refine below_drewN ?_ _ | refine Below.drew ?_))) (SlS.le (SlS.below KW_53.out (by repeat (first | exact Below.refl _ _ | (refine Below.alloc ?_ (by first | omega | (simp; done) | (simp; omega)) _) | (refine Below.setCell ?_ (by first | exact Nat.le_refl _ | (show _ ≤ _; omega) | (simp; done) | (simp; omega)) _) | refine below_drewN ?_ _ | refine Below.drew ?_))) (by simp; omega))).mono ?_
    rintro e w7 ⟨rfl, hb_59⟩
    have Kg_60 : Blk w7 (w6.heap.size) #[.slice A6 (applyOut xs e).length c6] 31 := by have := (Below.unalloc hb_59).2; simpa [Blk] using this
    replace hb_59 := (Below.unalloc hb_59).1
    have z_w7 : w6.heap.size ≤ w7.heap.size := hb_59.size
    have Kx_61 := Blk.up Kx_49 hb_59
    have Ka_62 := Blk.up Ka_50 hb_59
    have KB_63 := Lib.hid (Below.tr KB_51.out hb_59)
    have Kz_64 := Blk.up Kz_52 hb_59
    have KW_65 := Lib.hid (SlS.upN KW_53.out (by omega) hb_59)
    have KX_66 := Lib.hid (OwnR.up KX_54.out hb_59)
    have Kp_67 := Blk.up Kp_55 hb_59
    have KE_68 := Lib.hid (OwnR.up KE_56.out hb_59)
    have Kq_69 := Blk.up Kq_48 hb_59
    have KQ_70 := Lib.hid (OwnR.up KQ.out hb_59)
    clear hb_47 cz0_57 lz_58 Kx_49 Ka_50 KB_51 Kz_52 KW_53 KX_54 Kp_55 KE_56 Kq_48 KQ
    have cp0_71 := Blk.cell (i := 0) (v := .slice A4 xs.length c4) Kp_67 rfl
    have lp_72 := Blk.lt Kp_67
    have ca0_73 := Blk.cell (i := 0) (v := .slice A xs.length c) Ka_62 rfl
    have la_74 := Blk.lt Ka_62
    go_wp2_with fail
    have KD := keep11 Kp_67 Ka_62 (Below.drew (Below.refl w7.heap.size w7))
    have HKA := Lib.hid Ka_62
    have HKP := Lib.hid Kp_67
    have HBS := Lib.hid KB_63.out
    have HXS := Lib.hid (OwnR.sl KX_66.out)
    go_region_held3 (fun w' => Below w7.heap.size w7 w' ∧ w'.cell? ⟨w4.heap.size, 0, none⟩ = some (.slice A4 xs.length c4) ∧ w'.cell? ⟨w.heap.size, 0, none⟩ = some (.slice A xs.length c))
      (first | (with_reducible exact KD) | (with_reducible exact keep11 HKP.out HKA.out b8) | (with_reducible exact keep11 HKP.out HKA.out b9))
      (first
        | (go_at_call 12; (refine (toGrammar_any _ xs _ (HG.out.up (by repeat (first | exact HBS.out | (refine Below.alloc ?_ (by first | omega | (simp; done) | (simp; omega)) _) | (refine Below.setCell ?_ (by first | exact Nat.le_refl _ | (show _ ≤ _; omega) | (simp; done) | (simp; omega)) _) | refine below_drewN ?_ _ | refine Below.drew ?_))) hn).mono ?_); rintro r w8 ⟨v8, rfl, own8, hb8⟩; have b8 := Below.undrew hb8)
        | (go_at_call 15; (refine (eqGrammar_any _ _ xs _ (SlS.up HXS.out b8) own8.sl).mono ?_); rintro r w9 ⟨rfl, hb9⟩; have b9 := Below.tr b8 hb9))
    have hbR9 := b9
    clear KD HKA HKP HBS HXS b8 b9 hb8 hb9 own8
    have hb_75 := hbR9
    have z_w9 : w7.heap.size ≤ w9.heap.size := hb_75.size
    have Kx_76 := Blk.up Kx_61 hb_75
    have Ka_77 := Blk.up Ka_62 hb_75
    have KB_78 := Lib.hid (Below.tr KB_63.out hb_75)
    have Kz_79 := Blk.up Kz_64 hb_75
    have KW_80 := Lib.hid (SlS.upN KW_65.out (by omega) hb_75)
    have KX_81 := Lib.hid (OwnR.up KX_66.out hb_75)
    have Kp_82 := Blk.up Kp_67 hb_75
    have KE_83 := Lib.hid (OwnR.up KE_68.out hb_75)
    have Kq_84 := Blk.up Kq_69 hb_75
    have KQ_85 := Lib.hid (OwnR.up KQ_70.out hb_75)
    have Kg_86 := Blk.up Kg_60 hb_75
    clear hb_59 cp0_71 lp_72 ca0_73 la_74 Kx_61 Ka_62 KB_63 Kz_64 KW_65 KX_66 Kp_67 KE_68 Kq_69 KQ_70 Kg_60
    have cq0_87 := Blk.cell (i := 0) (v := .int .i64 e.kind) Kq_84 rfl
    have cq1_88 := Blk.cell (i := 1) (v := .int .i64 e.i) Kq_84 rfl
    have cq2_89 := Blk.cell (i := 2) (v := .int .i64 e.j) Kq_84 rfl
    have cq3_90 := Blk.cell (i := 3) (v := .int .i64 e.k) Kq_84 rfl
    have cq4_91 := Blk.cell (i := 4) (v := .slice A5 e.part.length c5) Kq_84 rfl
    have cq5_92 := Blk.cell (i := 5) (v := .string e.map) Kq_84 rfl
    have lq_93 := Blk.lt Kq_84
    have cx0_94 := Blk.cell (i := 0) (v := .int .i64 e.kind) Kx_76 rfl
    have cx1_95 := Blk.cell (i := 1) (v := .int .i64 e.i) Kx_76 rfl
    have cx2_96 := Blk.cell (i := 2) (v := .int .i64 e.j) Kx_76 rfl
    have cx3_97 := Blk.cell (i := 3) (v := .int .i64 e.k) Kx_76 rfl
    have cx4_98 := Blk.cell (i := 4) (v := .slice AR e.part.length cR) Kx_76 rfl
    have cx5_99 := Blk.cell (i := 5) (v := .string e.map) Kx_76 rfl
    have lx_100 := Blk.lt Kx_76
    go_wp2_with fail
    have KD := keep66 Kq_84 Kx_76 (Below.drew (Below.refl w9.heap.size w9))
    have HKA := Lib.hid Kx_76
    have HKP := Lib.hid Kq_84
    have HBS := Lib.hid KB_78.out
    have HXS := Lib.hid (OwnR.sl KE_83.out)
    go_region_held3 (fun w' => Below w9.heap.size w9 w' ∧ w'.cell? ⟨w5.heap.size, 0, none⟩ = some (.int .i64 e.kind) ∧ w'.cell? ⟨w5.heap.size, 1, none⟩ = some (.int .i64 e.i) ∧ w'.cell? ⟨w5.heap.size, 2, none⟩ = some (.int .i64 e.j) ∧ w'.cell? ⟨w5.heap.size, 3, none⟩ = some (.int .i64 e.k) ∧ w'.cell? ⟨w5.heap.size, 4, none⟩ = some (.slice A5 e.part.length c5) ∧ w'.cell? ⟨w5.heap.size, 5, none⟩ = some (.string e.map) ∧ w'.cell? ⟨w.heap.size + 1, 0, none⟩ = some (.int .i64 e.kind) ∧ w'.cell? ⟨w.heap.size + 1, 1, none⟩ = some (.int .i64 e.i) ∧ w'.cell? ⟨w.heap.size + 1, 2, none⟩ = some (.int .i64 e.j) ∧ w'.cell? ⟨w.heap.size + 1, 3, none⟩ = some (.int .i64 e.k) ∧ w'.cell? ⟨w.heap.size + 1, 4, none⟩ = some (.slice AR e.part.length cR) ∧ w'.cell? ⟨w.heap.size + 1, 5, none⟩ = some (.string e.map))
      (first | (with_reducible exact KD) | (with_reducible exact keep66 HKP.out HKA.out b10) | (with_reducible exact keep66 HKP.out HKA.out b11))
      (first
        | (go_at_call 13; (refine (toEditO_any _ e _ ⟨_, rfl, HR.out.up (by repeat (first | exact HBS.out | (refine Below.alloc ?_ (by first | omega | (simp; done) | (simp; omega)) _) | (refine Below.setCell ?_ (by first | exact Nat.le_refl _ | (show _ ≤ _; omega) | (simp; done) | (simp; omega)) _) | refine below_drewN ?_ _ | refine Below.drew ?_))⟩ hn2).mono ?_); rintro r w10 ⟨v10, rfl, own10, hb10⟩; have b10 := Below.undrew hb10)
        | (go_at_call 16; (refine (eqEdit_any _ _ e _ ⟨_, rfl, SlS.up HXS.out b10⟩ ⟨_, rfl, own10.sl⟩).mono ?_); rintro r w11 ⟨rfl, hb11⟩; have b11 := Below.tr b10 hb11))
    have hbR11 := b11
    clear KD HKA HKP HBS HXS b10 b11 hb10 hb11 own10
    have hb_101 := hbR11
    have z_w11 : w9.heap.size ≤ w11.heap.size := hb_101.size
    have Kx_102 := Blk.up Kx_76 hb_101
    have Ka_103 := Blk.up Ka_77 hb_101
    have KB_104 := Lib.hid (Below.tr KB_78.out hb_101)
    have Kz_105 := Blk.up Kz_79 hb_101
    have KW_106 := Lib.hid (SlS.upN KW_80.out (by omega) hb_101)
    have KX_107 := Lib.hid (OwnR.up KX_81.out hb_101)
    have Kp_108 := Blk.up Kp_82 hb_101
    have KE_109 := Lib.hid (OwnR.up KE_83.out hb_101)
    have Kq_110 := Blk.up Kq_84 hb_101
    have KQ_111 := Lib.hid (OwnR.up KQ_85.out hb_101)
    have Kg_112 := Blk.up Kg_86 hb_101
    clear hb_75 cq0_87 cq1_88 cq2_89 cq3_90 cq4_91 cq5_92 lq_93 cx0_94 cx1_95 cx2_96 cx3_97 cx4_98 cx5_99 lx_100 Kx_76 Ka_77 KB_78 Kz_79 KW_80 KX_81 Kp_82 KE_83 Kq_84 KQ_85 Kg_86
    have cp0_113 := Blk.cell (i := 0) (v := .slice A4 xs.length c4) Kp_108 rfl
    have lp_114 := Blk.lt Kp_108
    go_wp2_with fail
    refine (markGrammar1 _ _ xs _ (KX_107.out).1 (by omega)).mono ?_
    rintro e w12 ⟨rfl, ho_116, hg_115⟩
    have hc_117 := chg_of KX_107.out hg_115
    have z_w12 : w11.heap.size ≤ w12.heap.size := Chg.size hc_117
    have Kx_118 := Blk.chg Kx_102 hc_117 (by omega)
    have Ka_119 := Blk.chg Ka_103 hc_117 (by omega)
    have KB_120 := Lib.hid (Below.chg KB_104.out (by have := Below.size KB_104.out; omega) hc_117 (by omega))
    have Kz_121 := Blk.chg Kz_105 hc_117 (by omega)
    have KW_122 := Lib.hid (SlS.chgN KW_106.out (by omega) hc_117 (by omega))
    have KX_123 := Lib.hid (OwnR.markedC KX_107.out ho_116 hc_117)
    have Kp_124 := Blk.chg Kp_108 hc_117 (by omega)
    have KE_125 := Lib.hid (OwnR.chg KE_109.out hc_117 (by omega))
    have Kq_126 := Blk.chg Kq_110 hc_117 (by omega)
    have KQ_127 := Lib.hid (OwnR.chg KQ_111.out hc_117 (by omega))
    have Kg_128 := Blk.chg Kg_112 hc_117 (by omega)
    clear hb_101 cp0_113 lp_114 Kx_102 Ka_103 KB_104 Kz_105 KW_106 KX_107 Kp_108 KE_109 Kq_110 KQ_111 Kg_112 ho_116 hg_115 hc_117
    clear Kp_124
    have cq0_129 := Blk.cell (i := 0) (v := .int .i64 e.kind) Kq_126 rfl
    have cq1_130 := Blk.cell (i := 1) (v := .int .i64 e.i) Kq_126 rfl
    have cq2_131 := Blk.cell (i := 2) (v := .int .i64 e.j) Kq_126 rfl
    have cq3_132 := Blk.cell (i := 3) (v := .int .i64 e.k) Kq_126 rfl
    have cq4_133 := Blk.cell (i := 4) (v := .slice A5 e.part.length c5) Kq_126 rfl
    have cq5_134 := Blk.cell (i := 5) (v := .string e.map) Kq_126 rfl
    have lq_135 := Blk.lt Kq_126
    go_wp2_with fail
    refine (markEdit_any _ _ e (1 + 3 * xs.length) _ (KE_125.out).1 (by omega) (by omega)).mono ?_
    rintro e w13 ⟨rfl, ho_137, hg_136⟩
    have hc_138 := chg_of KE_125.out hg_136
    have z_w13 : w12.heap.size ≤ w13.heap.size := Chg.size hc_138
    have Kx_139 := Blk.chg Kx_118 hc_138 (by omega)
    have Ka_140 := Blk.chg Ka_119 hc_138 (by omega)
    have KB_141 := Lib.hid (Below.chg KB_120.out (by have := Below.size KB_120.out; omega) hc_138 (by omega))
    have Kz_142 := Blk.chg Kz_121 hc_138 (by omega)
    have KW_143 := Lib.hid (SlS.chgN KW_122.out (by omega) hc_138 (by omega))
    have KX_144 := Lib.hid (OwnR.chg KX_123.out hc_138 (by omega))
    have KE_145 := Lib.hid (OwnR.markedC KE_125.out ho_137 hc_138)
    have Kq_146 := Blk.chg Kq_126 hc_138 (by omega)
    have KQ_147 := Lib.hid (OwnR.chg KQ_127.out hc_138 (by omega))
    have Kg_148 := Blk.chg Kg_128 hc_138 (by omega)
    clear cq0_129 cq1_130 cq2_131 cq3_132 cq4_133 cq5_134 lq_135 Kx_118 Ka_119 KB_120 Kz_121 KW_122 KX_123 KE_125 Kq_126 KQ_127 Kg_128 ho_137 hg_136 hc_138
    clear Kq_146
    have e0 : (decide (((1 + 3 * xs.length + 3 * e.part.length : Nat) : Int) < 0)) = false := by simp; omega
    have cg0_149 := Blk.cell (i := 0) (v := .slice A6 (applyOut xs e).length c6) Kg_148 rfl
    have lg_150 := Blk.lt Kg_148
    have cz0_151 := Blk.cell (i := 0) (v := .slice A9 (applyOut xs e).length c9) Kz_142 rfl
    have lz_152 := Blk.lt Kz_142
    go_wp2_with fail
    refine (eqGrammar_any _ _ (applyOut xs e) _ (OwnR.sl KQ_147.out) (SlS.le KW_143.out (by omega))).mono ?_
    rintro e w14 ⟨rfl, hb_153⟩
    have z_w14 : w13.heap.size ≤ w14.heap.size := hb_153.size
    have Kx_154 := Blk.up Kx_139 hb_153
    have Ka_155 := Blk.up Ka_140 hb_153
    have KB_156 := Lib.hid (Below.tr KB_141.out hb_153)
    have Kz_157 := Blk.up Kz_142 hb_153
    have KW_158 := Lib.hid (SlS.upN KW_143.out (by omega) hb_153)
    have KX_159 := Lib.hid (OwnR.up KX_144.out hb_153)
    have KE_160 := Lib.hid (OwnR.up KE_145.out hb_153)
    have KQ_161 := Lib.hid (OwnR.up KQ_147.out hb_153)
    have Kg_162 := Blk.up Kg_148 hb_153
    clear cg0_149 lg_150 cz0_151 lz_152 Kx_139 Ka_140 KB_141 Kz_142 KW_143 KX_144 KE_145 KQ_147 Kg_148
    have cg0_163 := Blk.cell (i := 0) (v := .slice A6 (applyOut xs e).length c6) Kg_162 rfl
    have lg_164 := Blk.lt Kg_162
    go_wp2_with fail
    refine (markGrammar1 _ _ (applyOut xs e) _ (KQ_161.out).1 (by omega)).mono ?_
    rintro e w15 ⟨rfl, ho_166, hg_165⟩
    have hc_167 := chg_of KQ_161.out hg_165
    have z_w15 : w14.heap.size ≤ w15.heap.size := Chg.size hc_167
    have Kx_168 := Blk.chg Kx_154 hc_167 (by omega)
    have Ka_169 := Blk.chg Ka_155 hc_167 (by omega)
    have KB_170 := Lib.hid (Below.chg KB_156.out (by have := Below.size KB_156.out; omega) hc_167 (by omega))
    have Kz_171 := Blk.chg Kz_157 hc_167 (by omega)
    have KW_172 := Lib.hid (SlS.chgN KW_158.out (by omega) hc_167 (by omega))
    have KX_173 := Lib.hid (OwnR.chg KX_159.out hc_167 (by omega))
    have KE_174 := Lib.hid (OwnR.chg KE_160.out hc_167 (by omega))
    have KQ_175 := Lib.hid (OwnR.markedC KQ_161.out ho_166 hc_167)
    have Kg_176 := Blk.chg Kg_162 hc_167 (by omega)
    clear hb_153 cg0_163 lg_164 Kx_154 Ka_155 KB_156 Kz_157 KW_158 KX_159 KE_160 KQ_161 Kg_162 ho_166 hg_165 hc_167
    clear e0
    have cg0_177 := Blk.cell (i := 0) (v := .slice A6 (applyOut xs e).length c6) Kg_176 rfl
    have lg_178 := Blk.lt Kg_176
    go_wp2_with fail
    refine (heldGrammar1 _ (applyOut xs e).length _ (OwnR.sl KQ_175.out) (by omega)).mono ?_
    rintro e w16 ⟨rfl, hb_179⟩
    have z_w16 : w15.heap.size ≤ w16.heap.size := hb_179.size
    have Kx_180 := Blk.up Kx_168 hb_179
    have Ka_181 := Blk.up Ka_169 hb_179
    have KB_182 := Lib.hid (Below.tr KB_170.out hb_179)
    have Kz_183 := Blk.up Kz_171 hb_179
    have KW_184 := Lib.hid (SlS.upN KW_172.out (by omega) hb_179)
    have KX_185 := Lib.hid (OwnR.up KX_173.out hb_179)
    have KE_186 := Lib.hid (OwnR.up KE_174.out hb_179)
    have KQ_187 := Lib.hid (OwnR.up KQ_175.out hb_179)
    have Kg_188 := Blk.up Kg_176 hb_179
    clear cg0_177 lg_178 Kx_168 Ka_169 KB_170 Kz_171 KW_172 KX_173 KE_174 KQ_175 Kg_176
    have cg0_189 := Blk.cell (i := 0) (v := .slice A6 (applyOut xs e).length c6) Kg_188 rfl
    have lg_190 := Blk.lt Kg_188
    have ca0_191 := Blk.cell (i := 0) (v := .slice A xs.length c) Ka_181 rfl
    have la_192 := Blk.lt Ka_181
    have cx0_193 := Blk.cell (i := 0) (v := .int .i64 e.kind) Kx_180 rfl
    have cx1_194 := Blk.cell (i := 1) (v := .int .i64 e.i) Kx_180 rfl
    have cx2_195 := Blk.cell (i := 2) (v := .int .i64 e.j) Kx_180 rfl
    have cx3_196 := Blk.cell (i := 3) (v := .int .i64 e.k) Kx_180 rfl
    have cx4_197 := Blk.cell (i := 4) (v := .slice AR e.part.length cR) Kx_180 rfl
    have cx5_198 := Blk.cell (i := 5) (v := .string e.map) Kx_180 rfl
    have lx_199 := Blk.lt Kx_180
    go_upto_region 31 with fail
    go_cut [15, 16] (fun p q wx => ∃ (Z : Nat) (A9 : Option Addr) (c9 : Nat), p = .pointer (some ⟨Z, 0, none⟩) ∧ q = .int .i64 (applyCode xs e) ∧ w16.heap.size ≤ Z ∧ Below w16.heap.size w16 wx ∧ Blk wx Z #[.slice A9 (applyOut xs e).length c9] 31 ∧ OwnRules wx w16.heap.size (.slice A9 (applyOut xs e).length c9) (applyOut xs e))
    case first =>
      have B0 := Below.drew (Below.refl w16.heap.size w16)
      have BA := Lib.hid (fun (o : Obj) => Below.drew (Below.alloc (Below.refl w16.heap.size w16) (Nat.le_refl _) o))
      have KD := keep17 Ka_181 Kx_180 B0
      have HBS := Lib.hid KB_182.out
      have HKA := Lib.hid Ka_181
      have HKX := Lib.hid Kx_180
      go_region_held3 (fun w' => Below w16.heap.size w16 w' ∧ w'.cell? ⟨w.heap.size, 0, none⟩ = some (.slice A xs.length c) ∧ w'.cell? ⟨w.heap.size + 1, 0, none⟩ = some (.int .i64 e.kind) ∧ w'.cell? ⟨w.heap.size + 1, 1, none⟩ = some (.int .i64 e.i) ∧ w'.cell? ⟨w.heap.size + 1, 2, none⟩ = some (.int .i64 e.j) ∧ w'.cell? ⟨w.heap.size + 1, 3, none⟩ = some (.int .i64 e.k) ∧ w'.cell? ⟨w.heap.size + 1, 4, none⟩ = some (.slice AR e.part.length cR) ∧ w'.cell? ⟨w.heap.size + 1, 5, none⟩ = some (.string e.map))
        (first | (with_reducible exact KD) | (with_reducible exact keep17 HKA.out HKX.out (BA.out _)) | (with_reducible exact keep17 HKA.out HKX.out b1) | (with_reducible exact keep17 HKA.out HKX.out (b1.alloc z1 _)) | (with_reducible exact keep17 HKA.out HKX.out b2) | (with_reducible exact keep17 HKA.out HKX.out (b2.alloc z2 _)) | (with_reducible exact keep17 HKA.out HKX.out b3) | (with_reducible exact keep17 HKA.out HKX.out (b3.alloc z3 _)) | (with_reducible exact keep17 HKA.out HKX.out (b3.setCell (Nat.le_refl _) _)) | (with_reducible exact keep17 HKA.out HKX.out (b3.setCell z1 _)) | (with_reducible exact keep17 HKA.out HKX.out (b3.setCell z2 _)) | (with_reducible exact keep17 HKA.out HKX.out (b3.setCell z3 _)))
        (first
          | (go_at_call 12; (refine (toGrammar_any _ xs _ (HG.out.up (by repeat (first | exact HBS.out | (refine Below.alloc ?_ (by first | omega | (simp; done) | (simp; omega)) _) | (refine Below.setCell ?_ (by first | exact Nat.le_refl _ | (show _ ≤ _; omega) | (simp; done) | (simp; omega)) _) | refine below_drewN ?_ _ | refine Below.drew ?_))) hn).mono ?_); rintro r t1 ⟨v1, rfl, own1, hb1⟩; have b1 : Below w16.heap.size w16 t1 := (by first | exact Below.undrew hb1 | exact (Below.unalloc (Below.undrew hb1)).1); have z1 := b1.size; (try (have KZ : Blk t1 w16.heap.size #[.slice none 0 0] 31 := (Below.unalloc (Below.undrew hb1)).2; have l1 := Blk.lt KZ)))
          | (go_at_call 13; (refine (toEditO_any _ e _ ⟨_, rfl, HR.out.up (by repeat (first | exact Below.tr HBS.out b1 | (refine Below.alloc ?_ (by first | omega | (simp; done) | (simp; omega)) _) | (refine Below.setCell ?_ (by first | exact Nat.le_refl _ | (show _ ≤ _; omega) | (simp; done) | (simp; omega)) _) | refine below_drewN ?_ _ | refine Below.drew ?_))⟩ hn2).mono ?_); rintro r t2 ⟨v2, rfl, own2, hb2⟩; have c2 : Below t1.heap.size t1 t2 := (by first | exact hb2 | exact (Below.unalloc hb2).1); have b2 := Below.tr b1 c2; have z2 := b2.size; have y2 := c2.size; (first | (have KZ := Blk.up KZ c2) | (have KZ : Blk t2 t1.heap.size #[.slice none 0 0] 31 := (Below.unalloc hb2).2) | skip); (try have l2 := Blk.lt KZ))
          | (go_at_call 14; (refine (implApply_any _ _ xs e _ (OwnRules.sl1 own1 (by repeat (first | exact c2 | (refine Below.alloc ?_ (by first | omega | (simp; done) | (simp; omega)) _) | (refine Below.setCell ?_ (by first | exact Nat.le_refl _ | (show _ ≤ _; omega) | (simp; done) | (simp; omega)) _) | refine below_drewN ?_ _ | refine Below.drew ?_))) ⟨_, rfl, OwnRules.sl1 own2 (by repeat (first | exact Below.refl _ _ | (refine Below.alloc ?_ (by first | omega | (simp; done) | (simp; omega)) _) | (refine Below.setCell ?_ (by first | exact Nat.le_refl _ | (show _ ≤ _; omega) | (simp; done) | (simp; omega)) _) | refine below_drewN ?_ _ | refine Below.drew ?_))⟩ hn hn2 hm (tabB HT.out (by repeat (first | exact Below.tr HBS.out b2 | (refine Below.alloc ?_ (by first | omega | (simp; done) | (simp; omega)) _) | (refine Below.setCell ?_ (by first | exact Nat.le_refl _ | (show _ ≤ _; omega) | (simp; done) | (simp; omega)) _) | refine below_drewN ?_ _ | refine Below.drew ?_)))).mono ?_); rintro r t3 ⟨hb3, v3, own3, rfl⟩; obtain ⟨A9, c9, rfl, _⟩ := own_nil own3; have c3 : Below t2.heap.size t2 t3 := (by first | exact hb3 | exact (Below.unalloc hb3).1); have b3 := Below.tr b2 c3; have z3 := b3.size; have y3 := c3.size; (first | (have KZ := Blk.up KZ c3) | (have KZ : Blk t3 t2.heap.size #[.slice none 0 0] 31 := (Below.unalloc hb3).2) | skip); (try (have kz := Blk.cell (i := 0) (v := .slice none 0 0) KZ rfl; have fz := Blk.frozen KZ 0; have lz := Blk.lt KZ))))
      all_goals
        go_wp2_with fail
        go_meet
        have own4 : OwnRules t3 w16.heap.size _ _ := ownsRow_more own3 (base' := w16.heap.size) (by first | omega | (simp; omega))
        first
          | exact ⟨t3.heap.size, A9, c9, rfl, rfl, z3, b3.alloc z3 _, Blk.new _ _ _, World.ownsRow.alloc own4 _⟩
          | exact ⟨w16.heap.size, A9, c9, rfl, rfl, Nat.le_refl _, b3.setCell (show w16.heap.size ≤ (⟨w16.heap.size, 0, none⟩ : Addr).block from Nat.le_refl _) _, KZ.set 0 _, ownsRow_more (ownsRow_setCell_below own3 (a := ⟨w16.heap.size, 0, none⟩) (by first | (show _ < _; omega) | (simp; done) | (simp; omega)) _) (by first | omega | (simp; omega))⟩
          | exact ⟨t1.heap.size, A9, c9, rfl, rfl, z1, b3.setCell (show w16.heap.size ≤ (⟨t1.heap.size, 0, none⟩ : Addr).block from z1) _, KZ.set 0 _, ownsRow_more (ownsRow_setCell_below own3 (a := ⟨t1.heap.size, 0, none⟩) (by first | (show _ < _; omega) | (simp; done) | (simp; omega)) _) (by first | omega | (simp; omega))⟩
          | exact ⟨t2.heap.size, A9, c9, rfl, rfl, z2, b3.setCell (show w16.heap.size ≤ (⟨t2.heap.size, 0, none⟩ : Addr).block from z2) _, KZ.set 0 _, ownsRow_more (ownsRow_setCell_below own3 (a := ⟨t2.heap.size, 0, none⟩) (by first | (show _ < _; omega) | (simp; done) | (simp; omega)) _) (by first | omega | (simp; omega))⟩
    case rest =>
      obtain ⟨Z2, A7, c7, rfl, rfl, hZ2, hbR2, KZ2, hown2⟩ := hcut
      have KW2 := Lib.hid (OwnRules.sl hown2)
      have lZ2 := Blk.lt KZ2
      revert hbR2 KZ2 KW2 lZ2
      clear hown2
      generalize wc = w17
      intro hbR2 KZ2 KW2 lZ2
      have hb_200 := hbR2
      have z_w17 : w16.heap.size ≤ w17.heap.size := hb_200.size
      have Kx_201 := Blk.up Kx_180 hb_200
      have Ka_202 := Blk.up Ka_181 hb_200
      have KB_203 := Lib.hid (Below.tr KB_182.out hb_200)
      have Kz_204 := Blk.up Kz_183 hb_200
      have KW_205 := Lib.hid (SlS.upN KW_184.out (by omega) hb_200)
      have KX_206 := Lib.hid (OwnR.up KX_185.out hb_200)
      have KE_207 := Lib.hid (OwnR.up KE_186.out hb_200)
      have KQ_208 := Lib.hid (OwnR.up KQ_187.out hb_200)
      have Kg_209 := Blk.up Kg_188 hb_200
      clear hb_179 cg0_189 lg_190 ca0_191 la_192 cx0_193 cx1_194 cx2_195 cx3_196 cx4_197 cx5_198 lx_199 Kx_180 Ka_181 KB_182 Kz_183 KW_184 KX_185 KE_186 KQ_187 Kg_188
      have ch0_210 := Blk.cell (i := 0) (v := .slice A7 (applyOut xs e).length c7) KZ2 rfl
      have lh_211 := Blk.lt KZ2
      have cz0_212 := Blk.cell (i := 0) (v := .slice A9 (applyOut xs e).length c9) Kz_204 rfl
      have lz_213 := Blk.lt Kz_204
      go_wp2_with fail
      refine (eqGrammar_any _ _ (applyOut xs e) _ (SlS.le KW2.out (by omega)) (SlS.le KW_205.out (by omega))).mono ?_
      rintro e w18 ⟨rfl, hb_214⟩
      have z_w18 : w17.heap.size ≤ w18.heap.size := hb_214.size
      have Kx_215 := Blk.up Kx_201 hb_214
      have Ka_216 := Blk.up Ka_202 hb_214
      have KB_217 := Lib.hid (Below.tr KB_203.out hb_214)
      have Kz_218 := Blk.up Kz_204 hb_214
      have KW_219 := Lib.hid (SlS.upN KW_205.out (by omega) hb_214)
      have KX_220 := Lib.hid (OwnR.up KX_206.out hb_214)
      have KE_221 := Lib.hid (OwnR.up KE_207.out hb_214)
      have KQ_222 := Lib.hid (OwnR.up KQ_208.out hb_214)
      have Kg_223 := Blk.up Kg_209 hb_214
      have Kh_224 := Blk.up KZ2 hb_214
      have KH_225 := Lib.hid (SlS.upN KW2.out (by omega) hb_214)
      clear hb_200 ch0_210 lh_211 cz0_212 lz_213 Kx_201 Ka_202 KB_203 Kz_204 KW_205 KX_206 KE_207 KQ_208 Kg_209 KZ2 KW2
      have cg0_226 := Blk.cell (i := 0) (v := .slice A6 (applyOut xs e).length c6) Kg_223 rfl
      have lg_227 := Blk.lt Kg_223
      go_wp2_with fail
      refine (heldGrammar1 _ (applyOut xs e).length _ (OwnR.sl KQ_222.out) (by omega)).mono ?_
      rintro e w19 ⟨rfl, hb_228⟩
      have z_w19 : w18.heap.size ≤ w19.heap.size := hb_228.size
      have Kx_229 := Blk.up Kx_215 hb_228
      have Ka_230 := Blk.up Ka_216 hb_228
      have KB_231 := Lib.hid (Below.tr KB_217.out hb_228)
      have Kz_232 := Blk.up Kz_218 hb_228
      have KW_233 := Lib.hid (SlS.upN KW_219.out (by omega) hb_228)
      have KX_234 := Lib.hid (OwnR.up KX_220.out hb_228)
      have KE_235 := Lib.hid (OwnR.up KE_221.out hb_228)
      have KQ_236 := Lib.hid (OwnR.up KQ_222.out hb_228)
      have Kg_237 := Blk.up Kg_223 hb_228
      have Kh_238 := Blk.up Kh_224 hb_228
      have KH_239 := Lib.hid (SlS.upN KH_225.out (by omega) hb_228)
      clear hb_214 cg0_226 lg_227 Kx_215 Ka_216 KB_217 Kz_218 KW_219 KX_220 KE_221 KQ_222 Kg_223 Kh_224 KH_225
      go_wp2
      go_ret
      exact ⟨rfl, KB_231.out⟩
end Go.Proofs.YtfapnipmgmpgaaaGreatDoor

namespace Go.Proofs.YtfapnipmgmpgaaaGreatDoor
open Go.RowKit

/-- An edit in a row, below B. -/
structure EditAtO (w : World) (B b o : Nat) (e : GEdit) (vR : Value) : Prop where
  box : EC w b o e vR
  lt : b < B
  sl : Sl RuleE w B vR e.part
theorem EditAtO.up {w w' : World} {b o : Nat} {e : GEdit} {vR : Value} (h : EditAtO w w.heap.size b o e vR) (hb : Below w.heap.size w w') : EditAtO w' w'.heap.size b o e vR :=
  ⟨h.box.up hb, Nat.lt_of_lt_of_le h.lt hb.size, h.sl.up hb⟩
set_option maxRecDepth 100000 in
set_option maxHeartbeats 4000000 in
theorem l07OkO_any (b o : Nat) (vR : Value) (e : GEdit) (w : World) (h : EditAtO w w.heap.size b o e vR) (hsm : SmallL e.part) (hn : e.part.length ≤ 1099511627776) (hm : e.map.size ≤ maxLen) :
    Calls Tryz.prog 38 #[.pointer (some ⟨b, o, none⟩)] w fun r w' => r = .returned (.bool (editOk e)) ∧ Below w.heap.size w w' := by
  have HH := Lib.hid h
  obtain ⟨⟨x0, x1, x2, x3, x4, x5, _⟩, hlt, hR⟩ := h
  have HR := Lib.hid hR
  obtain ⟨AR, cR, rfl, _⟩ := hR
  by_cases hk : inR e.kind 1 7 = true
  · have HK := Lib.hid hk
    have HE := Lib.hid (ok_split hk)
    obtain ⟨u1, u2, u3, u4, u5⟩ := uses_has hk
    obtain ⟨S, hS⟩ : ∃ S, usesS e.kind = S := ⟨_, rfl⟩
    rw [hS] at u1 u2 u3 u4 u5
    have HS := Lib.hid hS
    have hSm : S.size ≤ maxLen := by unfold maxLen; omega
    have HU := Lib.hid (And.intro u1 (And.intro u2 (And.intro u3 u4)))
    have H4 : (usesJ e.kind = false ∧ usesK e.kind = false ∧ (e.kind == 1) = true ∧ (e.kind == 7) = false) ∨ (usesJ e.kind = true ∧ usesK e.kind = false ∧ (e.kind == 1) = false ∧ (e.kind == 7) = false) ∨ (usesJ e.kind = true ∧ usesK e.kind = true ∧ (e.kind == 1) = false ∧ (e.kind == 7) = false) ∨ (usesJ e.kind = true ∧ usesK e.kind = false ∧ (e.kind == 1) = false ∧ (e.kind == 7) = true) := by
      rcases kind7 hk with h | h | h | h | h | h | h <;> rw [h] <;> simp [usesJ, usesK]
    clear hk hS u1 u2 u3 u4 u5
    go_enter Tryz.func38, Tryz.ntmps38
    go_wp2_with fail
    refine (l00In_yes _ _ _ _ HK.out).mono ?_
    rintro r w' ⟨rfl, rfl⟩
    go_wp2_with fail
    refine (l07Uses_any _ _ HK.out).mono ?_
    rintro r w1 ⟨rfl, hb1⟩
    rw [HS.out]
    have HH1 := Lib.hid (HH.out.up hb1)
    have HB1 := Lib.hid hb1
    have z1 : b < w1.heap.size := Nat.lt_of_lt_of_le hlt hb1.size
    clear hb1 x0 x1 x2 x3 x4 x5
    obtain ⟨x0, x1, x2, x3, x4, x5, _⟩ := HH1.out.box
    go_wp2_with fail
    rcases H4 with ⟨u1, u2, u3, u4⟩ | ⟨u1, u2, u3, u4⟩ | ⟨u1, u2, u3, u4⟩ | ⟨u1, u2, u3, u4⟩
    · rw [u1, u2, u3, u4] at HE HU
      obtain ⟨hJ', hK', hP', hM'⟩ := HU.out
      have CJ := l07Has_lit S 74 74 _ hSm rfl hJ'
      have CK := l07Has_lit S 75 75 _ hSm rfl hK'
      have CP := l07Has_lit S 80 80 _ hSm rfl hP'
      have CM := l07Has_lit S 77 77 _ hSm rfl hM'
      clear hJ' hK' hP' hM'
      clear u1 u2 u3 u4
      by_cases ni : numOk e.i true = true
      · have Ni := Lib.hid ni
        have Di := l07Number_lit e.i true _ ni
        clear ni
        by_cases nj : numOk e.j false = true
        · have Nj := Lib.hid nj
          have Dj := l07Number_lit e.j _ _ nj
          clear nj
          by_cases nk : numOk e.k false = true
          · have Nk := Lib.hid nk
            have Dk := l07Number_lit e.k _ _ nk
            clear nk
            go_quiet (first
              | (go_at_call 80; first | with_reducible exact quiet_left (CJ.out _) | with_reducible exact quiet_left (CK.out _))
              | (go_at_call 79; first | with_reducible exact quiet_left (Di.out _) | with_reducible exact quiet_left (Dj.out _) | with_reducible exact quiet_left (Dk.out _)))
            go_wp2_with fail
            have Ni2 := Lib.hid (show inR e.i 0 1000000000000000 = true from Ni.out)
            have HH2 := Lib.hid (HH1.out.up (below_drewN (Below.refl w1.heap.size w1) nq))
            have HB2 := Lib.hid (HB1.out.trans ((below_drewN (Below.refl w1.heap.size w1) nq).mono HB1.out.size))
            clear x0 x1 x2 x3 x4 x5 z1
            generalize w1.drewN nq = w2 at *
            have z2 : b < w2.heap.size := HH2.out.lt
            obtain ⟨x0, x1, x2, x3, x4, x5, _⟩ := HH2.out.box
            have KB := And.intro (Below.drew (Below.refl w2.heap.size w2)) (show w2.drew.cell? ⟨b, o + 4, none⟩ = _ from x4)
            have Y4 := Lib.hid KB.2
            have Z4 := Lib.hid (show b < w2.drew.heap.size from z2)
            have R4 := Lib.hid (HH2.out.sl.up (Below.drew (Below.refl w2.heap.size w2)))
            by_cases cl : 0 < e.part.length
            · have Cl := Lib.hid cl
              have cl' : decide (0 < e.part.length) = true := by simp [cl]
              by_cases cg : gramOk e.part = true
              · have Cg := Lib.hid cg
                go_region_held3 (fun w' => Below w2.heap.size w2 w' ∧ w'.cell? ⟨b, o + 4, none⟩ = some (.slice AR e.part.length cR))
                  (first | (with_reducible exact KB) | (with_reducible exact keepEd KB hb3 z2))
                  (first
                    | (go_at_call 80; refine (CP.out _).mono ?_; rintro r w' ⟨rfl, rfl⟩)
                    | (go_at_call 37; refine (l02Ok_any b (o + 4) _ e.part _ Y4.out Z4.out R4.out hsm).mono ?_; rintro r w3 ⟨rfl, hb3⟩))
                have HB3 := Lib.hid (HB2.out.trans (((Below.drew (Below.refl w2.heap.size w2)).trans hb3).mono HB2.out.size))
                have y5 := (hb3.cell (p := ⟨b, o + 5, none⟩) z2).trans (show w2.drew.cell? ⟨b, o + 5, none⟩ = _ from x5)
                clear KB hb3 x0 x1 x2 x3 x4 x5
                go_wp2_with fail
                refine (CM.out _).mono ?_
                rintro r w' ⟨rfl, rfl⟩
                by_cases cm : e.map.size = 0
                · have Cm := Lib.hid cm
                  have gm := str_empty e.map
                  rw [show (e.map.size == 0) = true by simp [cm]] at gm
                  clear cm
                  go_wp2_with fail
                  go_ret
                  exact ⟨ret_bool (by rw [HE.out]; simp [Ni2.out, Nj.out, Nk.out, Cl.out, Cg.out, Cm.out]), (by repeat (first | exact HB3.out | (refine Below.alloc ?_ (by first | omega | (simp; done) | (simp; omega)) _) | refine below_drewN ?_ _ | refine Below.drew ?_))⟩
                · have Cm := Lib.hid cm
                  have gm := str_empty e.map
                  rw [show (e.map.size == 0) = false by simp [cm]] at gm
                  clear cm
                  go_wp2_with fail
                  go_ret
                  exact ⟨ret_bool (by rw [HE.out]; simp [Ni2.out, Nj.out, Nk.out, Cl.out, Cg.out, Cm.out]), (by repeat (first | exact HB3.out | (refine Below.alloc ?_ (by first | omega | (simp; done) | (simp; omega)) _) | refine below_drewN ?_ _ | refine Below.drew ?_))⟩
              · have cg' : gramOk e.part = false := by simpa using cg
                have Cg := Lib.hid cg'
                clear cg
                go_region_held3 (fun w' => Below w2.heap.size w2 w' ∧ w'.cell? ⟨b, o + 4, none⟩ = some (.slice AR e.part.length cR))
                  (first | (with_reducible exact KB) | (with_reducible exact keepEd KB hb3 z2))
                  (first
                    | (go_at_call 80; refine (CP.out _).mono ?_; rintro r w' ⟨rfl, rfl⟩)
                    | (go_at_call 37; refine (l02Ok_any b (o + 4) _ e.part _ Y4.out Z4.out R4.out hsm).mono ?_; rintro r w3 ⟨rfl, hb3⟩))
                have HB3 := Lib.hid (HB2.out.trans (((Below.drew (Below.refl w2.heap.size w2)).trans hb3).mono HB2.out.size))
                have y5 := (hb3.cell (p := ⟨b, o + 5, none⟩) z2).trans (show w2.drew.cell? ⟨b, o + 5, none⟩ = _ from x5)
                clear KB hb3 x0 x1 x2 x3 x4 x5
                go_wp2_with fail
                go_ret
                exact ⟨ret_bool (by rw [HE.out]; simp [Cg.out]), (by repeat (first | exact HB3.out | (refine Below.alloc ?_ (by first | omega | (simp; done) | (simp; omega)) _) | refine below_drewN ?_ _ | refine Below.drew ?_))⟩
            · have hL : e.part.length = 0 := by omega
              have Cl := Lib.hid cl
              rw [hL] at KB Y4 R4 x4
              clear cl hL
              go_quiet ((go_at_call 80; with_reducible exact quiet_left (CP.out _)))
              have HB3 := Lib.hid (HB2.out.trans ((below_drewN (Below.refl w2.heap.size w2) nq).mono HB2.out.size))
              go_wp2_with fail
              go_ret
              exact ⟨ret_bool (by rw [HE.out]; simp [Cl.out]), (by repeat (first | exact HB3.out | (refine Below.alloc ?_ (by first | omega | (simp; done) | (simp; omega)) _) | refine below_drewN ?_ _ | refine Below.drew ?_))⟩
          · have nk' : numOk e.k false = false := by simpa using nk
            have Nk := Lib.hid nk'
            have Dk := l07Number_lit e.k _ _ nk'
            clear nk nk'
            go_quiet (first
              | (go_at_call 80; first | with_reducible exact quiet_left (CJ.out _) | with_reducible exact quiet_left (CK.out _))
              | (go_at_call 79; first | with_reducible exact quiet_left (Di.out _) | with_reducible exact quiet_left (Dj.out _) | with_reducible exact quiet_left (Dk.out _)))
            go_wp2_with fail
            go_ret
            exact ⟨ret_bool (by rw [HE.out]; simp [Nk.out]), (by repeat (first | exact HB1.out | (refine Below.alloc ?_ (by first | omega | (simp; done) | (simp; omega)) _) | refine below_drewN ?_ _ | refine Below.drew ?_))⟩
        · have nj' : numOk e.j false = false := by simpa using nj
          have Nj := Lib.hid nj'
          have Dj := l07Number_lit e.j _ _ nj'
          clear nj nj'
          go_quiet (first
            | (go_at_call 80; first | with_reducible exact quiet_left (CJ.out _) | with_reducible exact quiet_left (CK.out _))
            | (go_at_call 79; first | with_reducible exact quiet_left (Di.out _) | with_reducible exact quiet_left (Dj.out _) | with_reducible exact quiet_left (Dk.out _)))
          go_wp2_with fail
          go_ret
          exact ⟨ret_bool (by rw [HE.out]; simp [Nj.out]), (by repeat (first | exact HB1.out | (refine Below.alloc ?_ (by first | omega | (simp; done) | (simp; omega)) _) | refine below_drewN ?_ _ | refine Below.drew ?_))⟩
      · have ni' : numOk e.i true = false := by simpa using ni
        have Ni := Lib.hid ni'
        have Ni2 := Lib.hid (show inR e.i 0 1000000000000000 = false from ni')
        have Di := l07Number_lit e.i true _ ni'
        clear ni ni'
        go_quiet (first
          | (go_at_call 80; first | with_reducible exact quiet_left (CJ.out _) | with_reducible exact quiet_left (CK.out _))
          | (go_at_call 79; first | with_reducible exact quiet_left (Di.out _) | with_reducible exact quiet_left (Dj.out _) | with_reducible exact quiet_left (Dk.out _)))
        go_wp2_with fail
        go_ret
        exact ⟨ret_bool (by rw [HE.out]; simp [Ni2.out]), (by repeat (first | exact HB1.out | (refine Below.alloc ?_ (by first | omega | (simp; done) | (simp; omega)) _) | refine below_drewN ?_ _ | refine Below.drew ?_))⟩
    · rw [u1, u2, u3, u4] at HE HU
      obtain ⟨hJ', hK', hP', hM'⟩ := HU.out
      have CJ := l07Has_lit S 74 74 _ hSm rfl hJ'
      have CK := l07Has_lit S 75 75 _ hSm rfl hK'
      have CP := l07Has_lit S 80 80 _ hSm rfl hP'
      have CM := l07Has_lit S 77 77 _ hSm rfl hM'
      clear hJ' hK' hP' hM'
      clear u1 u2 u3 u4
      by_cases ni : numOk e.i true = true
      · have Ni := Lib.hid ni
        have Di := l07Number_lit e.i true _ ni
        clear ni
        by_cases nj : numOk e.j true = true
        · have Nj := Lib.hid nj
          have Dj := l07Number_lit e.j _ _ nj
          clear nj
          by_cases nk : numOk e.k false = true
          · have Nk := Lib.hid nk
            have Dk := l07Number_lit e.k _ _ nk
            clear nk
            by_cases nij : e.j < e.i
            · have Nij := Lib.hid nij
              go_quiet (first
                | (go_at_call 80; first | with_reducible exact quiet_left (CJ.out _) | with_reducible exact quiet_left (CK.out _))
                | (go_at_call 79; first | with_reducible exact quiet_left (Di.out _) | with_reducible exact quiet_left (Dj.out _) | with_reducible exact quiet_left (Dk.out _)))
              go_wp2_with fail
              go_ret
              exact ⟨ret_bool (by rw [HE.out]; simp [Nij.out]), (by repeat (first | exact HB1.out | (refine Below.alloc ?_ (by first | omega | (simp; done) | (simp; omega)) _) | refine below_drewN ?_ _ | refine Below.drew ?_))⟩
            · have nij' : decide (e.j < e.i) = false := by simp; omega
              have Nij := Lib.hid nij'
              go_quiet (first
                | (go_at_call 80; first | with_reducible exact quiet_left (CJ.out _) | with_reducible exact quiet_left (CK.out _))
                | (go_at_call 79; first | with_reducible exact quiet_left (Di.out _) | with_reducible exact quiet_left (Dj.out _) | with_reducible exact quiet_left (Dk.out _)))
              go_wp2_with fail
              have Ni2 := Lib.hid (show inR e.i 0 1000000000000000 = true from Ni.out)
              have HH2 := Lib.hid (HH1.out.up (below_drewN (Below.refl w1.heap.size w1) nq))
              have HB2 := Lib.hid (HB1.out.trans ((below_drewN (Below.refl w1.heap.size w1) nq).mono HB1.out.size))
              clear x0 x1 x2 x3 x4 x5 z1
              generalize w1.drewN nq = w2 at *
              have z2 : b < w2.heap.size := HH2.out.lt
              obtain ⟨x0, x1, x2, x3, x4, x5, _⟩ := HH2.out.box
              have KB := And.intro (Below.drew (Below.refl w2.heap.size w2)) (show w2.drew.cell? ⟨b, o + 4, none⟩ = _ from x4)
              have Y4 := Lib.hid KB.2
              have Z4 := Lib.hid (show b < w2.drew.heap.size from z2)
              have R4 := Lib.hid (HH2.out.sl.up (Below.drew (Below.refl w2.heap.size w2)))
              by_cases cl : 0 < e.part.length
              · have Cl := Lib.hid cl
                have cl' : decide (0 < e.part.length) = true := by simp [cl]
                go_quiet ((go_at_call 80; with_reducible exact quiet_left (CP.out _)))
                have HB3 := Lib.hid (HB2.out.trans ((below_drewN (Below.refl w2.heap.size w2) nq).mono HB2.out.size))
                go_wp2_with fail
                go_ret
                exact ⟨ret_bool (by rw [HE.out]; simp [Cl.out]), (by repeat (first | exact HB3.out | (refine Below.alloc ?_ (by first | omega | (simp; done) | (simp; omega)) _) | refine below_drewN ?_ _ | refine Below.drew ?_))⟩
              · have Cg := Lib.hid (emptyOk cl)
                have cg : gramOk e.part = true := emptyOk cl
                have hL : e.part.length = 0 := by omega
                have Cl := Lib.hid cl
                rw [hL] at KB Y4 R4 x4
                clear cl hL
                go_region_held3 (fun w' => Below w2.heap.size w2 w' ∧ w'.cell? ⟨b, o + 4, none⟩ = some (.slice AR 0 cR))
                  (first | (with_reducible exact KB) | (with_reducible exact keepEd KB hb3 z2))
                  (first
                    | (go_at_call 80; refine (CP.out _).mono ?_; rintro r w' ⟨rfl, rfl⟩)
                    | (go_at_call 37; refine (l02Ok_any b (o + 4) _ e.part _ Y4.out Z4.out R4.out hsm).mono ?_; rintro r w3 ⟨rfl, hb3⟩))
                have HB3 := Lib.hid (HB2.out.trans (((Below.drew (Below.refl w2.heap.size w2)).trans hb3).mono HB2.out.size))
                have y5 := (hb3.cell (p := ⟨b, o + 5, none⟩) z2).trans (show w2.drew.cell? ⟨b, o + 5, none⟩ = _ from x5)
                clear KB hb3 x0 x1 x2 x3 x4 x5
                go_wp2_with fail
                refine (CM.out _).mono ?_
                rintro r w' ⟨rfl, rfl⟩
                by_cases cm : e.map.size = 0
                · have Cm := Lib.hid cm
                  have gm := str_empty e.map
                  rw [show (e.map.size == 0) = true by simp [cm]] at gm
                  clear cm
                  go_wp2_with fail
                  go_ret
                  exact ⟨ret_bool (by rw [HE.out]; simp [Ni2.out, Nj.out, Nk.out, Nij.out, Cl.out, Cg.out, Cm.out]), (by repeat (first | exact HB3.out | (refine Below.alloc ?_ (by first | omega | (simp; done) | (simp; omega)) _) | refine below_drewN ?_ _ | refine Below.drew ?_))⟩
                · have Cm := Lib.hid cm
                  have gm := str_empty e.map
                  rw [show (e.map.size == 0) = false by simp [cm]] at gm
                  clear cm
                  go_wp2_with fail
                  go_ret
                  exact ⟨ret_bool (by rw [HE.out]; simp [Ni2.out, Nj.out, Nk.out, Nij.out, Cl.out, Cg.out, Cm.out]), (by repeat (first | exact HB3.out | (refine Below.alloc ?_ (by first | omega | (simp; done) | (simp; omega)) _) | refine below_drewN ?_ _ | refine Below.drew ?_))⟩
          · have nk' : numOk e.k false = false := by simpa using nk
            have Nk := Lib.hid nk'
            have Dk := l07Number_lit e.k _ _ nk'
            clear nk nk'
            go_quiet (first
              | (go_at_call 80; first | with_reducible exact quiet_left (CJ.out _) | with_reducible exact quiet_left (CK.out _))
              | (go_at_call 79; first | with_reducible exact quiet_left (Di.out _) | with_reducible exact quiet_left (Dj.out _) | with_reducible exact quiet_left (Dk.out _)))
            go_wp2_with fail
            go_ret
            exact ⟨ret_bool (by rw [HE.out]; simp [Nk.out]), (by repeat (first | exact HB1.out | (refine Below.alloc ?_ (by first | omega | (simp; done) | (simp; omega)) _) | refine below_drewN ?_ _ | refine Below.drew ?_))⟩
        · have nj' : numOk e.j true = false := by simpa using nj
          have Nj := Lib.hid nj'
          have Dj := l07Number_lit e.j _ _ nj'
          clear nj nj'
          go_quiet (first
            | (go_at_call 80; first | with_reducible exact quiet_left (CJ.out _) | with_reducible exact quiet_left (CK.out _))
            | (go_at_call 79; first | with_reducible exact quiet_left (Di.out _) | with_reducible exact quiet_left (Dj.out _) | with_reducible exact quiet_left (Dk.out _)))
          go_wp2_with fail
          go_ret
          exact ⟨ret_bool (by rw [HE.out]; simp [Nj.out]), (by repeat (first | exact HB1.out | (refine Below.alloc ?_ (by first | omega | (simp; done) | (simp; omega)) _) | refine below_drewN ?_ _ | refine Below.drew ?_))⟩
      · have ni' : numOk e.i true = false := by simpa using ni
        have Ni := Lib.hid ni'
        have Ni2 := Lib.hid (show inR e.i 0 1000000000000000 = false from ni')
        have Di := l07Number_lit e.i true _ ni'
        clear ni ni'
        go_quiet (first
          | (go_at_call 80; first | with_reducible exact quiet_left (CJ.out _) | with_reducible exact quiet_left (CK.out _))
          | (go_at_call 79; first | with_reducible exact quiet_left (Di.out _) | with_reducible exact quiet_left (Dj.out _) | with_reducible exact quiet_left (Dk.out _)))
        go_wp2_with fail
        go_ret
        exact ⟨ret_bool (by rw [HE.out]; simp [Ni2.out]), (by repeat (first | exact HB1.out | (refine Below.alloc ?_ (by first | omega | (simp; done) | (simp; omega)) _) | refine below_drewN ?_ _ | refine Below.drew ?_))⟩
    · rw [u1, u2, u3, u4] at HE HU
      obtain ⟨hJ', hK', hP', hM'⟩ := HU.out
      have CJ := l07Has_lit S 74 74 _ hSm rfl hJ'
      have CK := l07Has_lit S 75 75 _ hSm rfl hK'
      have CP := l07Has_lit S 80 80 _ hSm rfl hP'
      have CM := l07Has_lit S 77 77 _ hSm rfl hM'
      clear hJ' hK' hP' hM'
      clear u1 u2 u3 u4
      by_cases ni : numOk e.i true = true
      · have Ni := Lib.hid ni
        have Di := l07Number_lit e.i true _ ni
        clear ni
        by_cases nj : numOk e.j true = true
        · have Nj := Lib.hid nj
          have Dj := l07Number_lit e.j _ _ nj
          clear nj
          by_cases nk : numOk e.k true = true
          · have Nk := Lib.hid nk
            have Dk := l07Number_lit e.k _ _ nk
            clear nk
            by_cases nij : e.j < e.i
            · have Nij := Lib.hid nij
              go_quiet (first
                | (go_at_call 80; first | with_reducible exact quiet_left (CJ.out _) | with_reducible exact quiet_left (CK.out _))
                | (go_at_call 79; first | with_reducible exact quiet_left (Di.out _) | with_reducible exact quiet_left (Dj.out _) | with_reducible exact quiet_left (Dk.out _)))
              go_wp2_with fail
              go_ret
              exact ⟨ret_bool (by rw [HE.out]; simp [Nij.out]), (by repeat (first | exact HB1.out | (refine Below.alloc ?_ (by first | omega | (simp; done) | (simp; omega)) _) | refine below_drewN ?_ _ | refine Below.drew ?_))⟩
            · have nij' : decide (e.j < e.i) = false := by simp; omega
              have Nij := Lib.hid nij'
              go_quiet (first
                | (go_at_call 80; first | with_reducible exact quiet_left (CJ.out _) | with_reducible exact quiet_left (CK.out _))
                | (go_at_call 79; first | with_reducible exact quiet_left (Di.out _) | with_reducible exact quiet_left (Dj.out _) | with_reducible exact quiet_left (Dk.out _)))
              go_wp2_with fail
              have Ni2 := Lib.hid (show inR e.i 0 1000000000000000 = true from Ni.out)
              have HH2 := Lib.hid (HH1.out.up (below_drewN (Below.refl w1.heap.size w1) nq))
              have HB2 := Lib.hid (HB1.out.trans ((below_drewN (Below.refl w1.heap.size w1) nq).mono HB1.out.size))
              clear x0 x1 x2 x3 x4 x5 z1
              generalize w1.drewN nq = w2 at *
              have z2 : b < w2.heap.size := HH2.out.lt
              obtain ⟨x0, x1, x2, x3, x4, x5, _⟩ := HH2.out.box
              have KB := And.intro (Below.drew (Below.refl w2.heap.size w2)) (show w2.drew.cell? ⟨b, o + 4, none⟩ = _ from x4)
              have Y4 := Lib.hid KB.2
              have Z4 := Lib.hid (show b < w2.drew.heap.size from z2)
              have R4 := Lib.hid (HH2.out.sl.up (Below.drew (Below.refl w2.heap.size w2)))
              by_cases cl : 0 < e.part.length
              · have Cl := Lib.hid cl
                have cl' : decide (0 < e.part.length) = true := by simp [cl]
                go_quiet ((go_at_call 80; with_reducible exact quiet_left (CP.out _)))
                have HB3 := Lib.hid (HB2.out.trans ((below_drewN (Below.refl w2.heap.size w2) nq).mono HB2.out.size))
                go_wp2_with fail
                go_ret
                exact ⟨ret_bool (by rw [HE.out]; simp [Cl.out]), (by repeat (first | exact HB3.out | (refine Below.alloc ?_ (by first | omega | (simp; done) | (simp; omega)) _) | refine below_drewN ?_ _ | refine Below.drew ?_))⟩
              · have Cg := Lib.hid (emptyOk cl)
                have cg : gramOk e.part = true := emptyOk cl
                have hL : e.part.length = 0 := by omega
                have Cl := Lib.hid cl
                rw [hL] at KB Y4 R4 x4
                clear cl hL
                go_region_held3 (fun w' => Below w2.heap.size w2 w' ∧ w'.cell? ⟨b, o + 4, none⟩ = some (.slice AR 0 cR))
                  (first | (with_reducible exact KB) | (with_reducible exact keepEd KB hb3 z2))
                  (first
                    | (go_at_call 80; refine (CP.out _).mono ?_; rintro r w' ⟨rfl, rfl⟩)
                    | (go_at_call 37; refine (l02Ok_any b (o + 4) _ e.part _ Y4.out Z4.out R4.out hsm).mono ?_; rintro r w3 ⟨rfl, hb3⟩))
                have HB3 := Lib.hid (HB2.out.trans (((Below.drew (Below.refl w2.heap.size w2)).trans hb3).mono HB2.out.size))
                have y5 := (hb3.cell (p := ⟨b, o + 5, none⟩) z2).trans (show w2.drew.cell? ⟨b, o + 5, none⟩ = _ from x5)
                clear KB hb3 x0 x1 x2 x3 x4 x5
                go_wp2_with fail
                refine (CM.out _).mono ?_
                rintro r w' ⟨rfl, rfl⟩
                by_cases cm : e.map.size = 0
                · have Cm := Lib.hid cm
                  have gm := str_empty e.map
                  rw [show (e.map.size == 0) = true by simp [cm]] at gm
                  clear cm
                  go_wp2_with fail
                  go_ret
                  exact ⟨ret_bool (by rw [HE.out]; simp [Ni2.out, Nj.out, Nk.out, Nij.out, Cl.out, Cg.out, Cm.out]), (by repeat (first | exact HB3.out | (refine Below.alloc ?_ (by first | omega | (simp; done) | (simp; omega)) _) | refine below_drewN ?_ _ | refine Below.drew ?_))⟩
                · have Cm := Lib.hid cm
                  have gm := str_empty e.map
                  rw [show (e.map.size == 0) = false by simp [cm]] at gm
                  clear cm
                  go_wp2_with fail
                  go_ret
                  exact ⟨ret_bool (by rw [HE.out]; simp [Ni2.out, Nj.out, Nk.out, Nij.out, Cl.out, Cg.out, Cm.out]), (by repeat (first | exact HB3.out | (refine Below.alloc ?_ (by first | omega | (simp; done) | (simp; omega)) _) | refine below_drewN ?_ _ | refine Below.drew ?_))⟩
          · have nk' : numOk e.k true = false := by simpa using nk
            have Nk := Lib.hid nk'
            have Dk := l07Number_lit e.k _ _ nk'
            clear nk nk'
            go_quiet (first
              | (go_at_call 80; first | with_reducible exact quiet_left (CJ.out _) | with_reducible exact quiet_left (CK.out _))
              | (go_at_call 79; first | with_reducible exact quiet_left (Di.out _) | with_reducible exact quiet_left (Dj.out _) | with_reducible exact quiet_left (Dk.out _)))
            go_wp2_with fail
            go_ret
            exact ⟨ret_bool (by rw [HE.out]; simp [Nk.out]), (by repeat (first | exact HB1.out | (refine Below.alloc ?_ (by first | omega | (simp; done) | (simp; omega)) _) | refine below_drewN ?_ _ | refine Below.drew ?_))⟩
        · have nj' : numOk e.j true = false := by simpa using nj
          have Nj := Lib.hid nj'
          have Dj := l07Number_lit e.j _ _ nj'
          clear nj nj'
          go_quiet (first
            | (go_at_call 80; first | with_reducible exact quiet_left (CJ.out _) | with_reducible exact quiet_left (CK.out _))
            | (go_at_call 79; first | with_reducible exact quiet_left (Di.out _) | with_reducible exact quiet_left (Dj.out _) | with_reducible exact quiet_left (Dk.out _)))
          go_wp2_with fail
          go_ret
          exact ⟨ret_bool (by rw [HE.out]; simp [Nj.out]), (by repeat (first | exact HB1.out | (refine Below.alloc ?_ (by first | omega | (simp; done) | (simp; omega)) _) | refine below_drewN ?_ _ | refine Below.drew ?_))⟩
      · have ni' : numOk e.i true = false := by simpa using ni
        have Ni := Lib.hid ni'
        have Ni2 := Lib.hid (show inR e.i 0 1000000000000000 = false from ni')
        have Di := l07Number_lit e.i true _ ni'
        clear ni ni'
        go_quiet (first
          | (go_at_call 80; first | with_reducible exact quiet_left (CJ.out _) | with_reducible exact quiet_left (CK.out _))
          | (go_at_call 79; first | with_reducible exact quiet_left (Di.out _) | with_reducible exact quiet_left (Dj.out _) | with_reducible exact quiet_left (Dk.out _)))
        go_wp2_with fail
        go_ret
        exact ⟨ret_bool (by rw [HE.out]; simp [Ni2.out]), (by repeat (first | exact HB1.out | (refine Below.alloc ?_ (by first | omega | (simp; done) | (simp; omega)) _) | refine below_drewN ?_ _ | refine Below.drew ?_))⟩
    · rw [u1, u2, u3, u4] at HE HU
      obtain ⟨hJ', hK', hP', hM'⟩ := HU.out
      have CJ := l07Has_lit S 74 74 _ hSm rfl hJ'
      have CK := l07Has_lit S 75 75 _ hSm rfl hK'
      have CP := l07Has_lit S 80 80 _ hSm rfl hP'
      have CM := l07Has_lit S 77 77 _ hSm rfl hM'
      clear hJ' hK' hP' hM'
      clear u1 u2 u3 u4
      by_cases ni : numOk e.i true = true
      · have Ni := Lib.hid ni
        have Di := l07Number_lit e.i true _ ni
        clear ni
        by_cases nj : numOk e.j true = true
        · have Nj := Lib.hid nj
          have Dj := l07Number_lit e.j _ _ nj
          clear nj
          by_cases nk : numOk e.k false = true
          · have Nk := Lib.hid nk
            have Dk := l07Number_lit e.k _ _ nk
            clear nk
            by_cases nij : e.j < e.i
            · have Nij := Lib.hid nij
              go_quiet (first
                | (go_at_call 80; first | with_reducible exact quiet_left (CJ.out _) | with_reducible exact quiet_left (CK.out _))
                | (go_at_call 79; first | with_reducible exact quiet_left (Di.out _) | with_reducible exact quiet_left (Dj.out _) | with_reducible exact quiet_left (Dk.out _)))
              go_wp2_with fail
              go_ret
              exact ⟨ret_bool (by rw [HE.out]; simp [Nij.out]), (by repeat (first | exact HB1.out | (refine Below.alloc ?_ (by first | omega | (simp; done) | (simp; omega)) _) | refine below_drewN ?_ _ | refine Below.drew ?_))⟩
            · have nij' : decide (e.j < e.i) = false := by simp; omega
              have Nij := Lib.hid nij'
              go_quiet (first
                | (go_at_call 80; first | with_reducible exact quiet_left (CJ.out _) | with_reducible exact quiet_left (CK.out _))
                | (go_at_call 79; first | with_reducible exact quiet_left (Di.out _) | with_reducible exact quiet_left (Dj.out _) | with_reducible exact quiet_left (Dk.out _)))
              go_wp2_with fail
              have Ni2 := Lib.hid (show inR e.i 0 1000000000000000 = true from Ni.out)
              have HH2 := Lib.hid (HH1.out.up (below_drewN (Below.refl w1.heap.size w1) nq))
              have HB2 := Lib.hid (HB1.out.trans ((below_drewN (Below.refl w1.heap.size w1) nq).mono HB1.out.size))
              clear x0 x1 x2 x3 x4 x5 z1
              generalize w1.drewN nq = w2 at *
              have z2 : b < w2.heap.size := HH2.out.lt
              obtain ⟨x0, x1, x2, x3, x4, x5, _⟩ := HH2.out.box
              have KB := And.intro (Below.drew (Below.refl w2.heap.size w2)) (show w2.drew.cell? ⟨b, o + 4, none⟩ = _ from x4)
              have Y4 := Lib.hid KB.2
              have Z4 := Lib.hid (show b < w2.drew.heap.size from z2)
              have R4 := Lib.hid (HH2.out.sl.up (Below.drew (Below.refl w2.heap.size w2)))
              by_cases cl : 0 < e.part.length
              · have Cl := Lib.hid cl
                have cl' : decide (0 < e.part.length) = true := by simp [cl]
                go_quiet ((go_at_call 80; with_reducible exact quiet_left (CP.out _)))
                have HB3 := Lib.hid (HB2.out.trans ((below_drewN (Below.refl w2.heap.size w2) nq).mono HB2.out.size))
                go_wp2_with fail
                go_ret
                exact ⟨ret_bool (by rw [HE.out]; simp [Cl.out]), (by repeat (first | exact HB3.out | (refine Below.alloc ?_ (by first | omega | (simp; done) | (simp; omega)) _) | refine below_drewN ?_ _ | refine Below.drew ?_))⟩
              · have Cg := Lib.hid (emptyOk cl)
                have cg : gramOk e.part = true := emptyOk cl
                have hL : e.part.length = 0 := by omega
                have Cl := Lib.hid cl
                rw [hL] at KB Y4 R4 x4
                clear cl hL
                go_region_held3 (fun w' => Below w2.heap.size w2 w' ∧ w'.cell? ⟨b, o + 4, none⟩ = some (.slice AR 0 cR))
                  (first | (with_reducible exact KB) | (with_reducible exact keepEd KB hb3 z2))
                  (first
                    | (go_at_call 80; refine (CP.out _).mono ?_; rintro r w' ⟨rfl, rfl⟩)
                    | (go_at_call 37; refine (l02Ok_any b (o + 4) _ e.part _ Y4.out Z4.out R4.out hsm).mono ?_; rintro r w3 ⟨rfl, hb3⟩))
                have HB3 := Lib.hid (HB2.out.trans (((Below.drew (Below.refl w2.heap.size w2)).trans hb3).mono HB2.out.size))
                have y5 := (hb3.cell (p := ⟨b, o + 5, none⟩) z2).trans (show w2.drew.cell? ⟨b, o + 5, none⟩ = _ from x5)
                clear KB hb3 x0 x1 x2 x3 x4 x5
                go_wp2_with fail
                refine (CM.out _).mono ?_
                rintro r w' ⟨rfl, rfl⟩
                by_cases cs : e.map.size = 4
                · have Cs := Lib.hid cs
                  have gs : ((e.map.size : Int) == 4) = true := by simp [cs]
                  clear cs
                  go_wp2_with fail
                  refine (l01Ok_any _ _ hm).mono ?_
                  rintro r w' ⟨rfl, rfl⟩
                  go_wp2_with fail
                  go_ret
                  exact ⟨ret_bool (by rw [HE.out]; simp [Ni2.out, Nj.out, Nk.out, Nij.out, Cl.out, Cg.out, Cs.out]), (by repeat (first | exact HB3.out | (refine Below.alloc ?_ (by first | omega | (simp; done) | (simp; omega)) _) | refine below_drewN ?_ _ | refine Below.drew ?_))⟩
                · have Cs := Lib.hid cs
                  have gs : ((e.map.size : Int) == 4) = false := by rw [beq_eq_false_iff_ne]; omega
                  clear cs
                  go_wp2_with fail
                  go_ret
                  exact ⟨ret_bool (by rw [HE.out]; simp [Cs.out]), (by repeat (first | exact HB3.out | (refine Below.alloc ?_ (by first | omega | (simp; done) | (simp; omega)) _) | refine below_drewN ?_ _ | refine Below.drew ?_))⟩
          · have nk' : numOk e.k false = false := by simpa using nk
            have Nk := Lib.hid nk'
            have Dk := l07Number_lit e.k _ _ nk'
            clear nk nk'
            go_quiet (first
              | (go_at_call 80; first | with_reducible exact quiet_left (CJ.out _) | with_reducible exact quiet_left (CK.out _))
              | (go_at_call 79; first | with_reducible exact quiet_left (Di.out _) | with_reducible exact quiet_left (Dj.out _) | with_reducible exact quiet_left (Dk.out _)))
            go_wp2_with fail
            go_ret
            exact ⟨ret_bool (by rw [HE.out]; simp [Nk.out]), (by repeat (first | exact HB1.out | (refine Below.alloc ?_ (by first | omega | (simp; done) | (simp; omega)) _) | refine below_drewN ?_ _ | refine Below.drew ?_))⟩
        · have nj' : numOk e.j true = false := by simpa using nj
          have Nj := Lib.hid nj'
          have Dj := l07Number_lit e.j _ _ nj'
          clear nj nj'
          go_quiet (first
            | (go_at_call 80; first | with_reducible exact quiet_left (CJ.out _) | with_reducible exact quiet_left (CK.out _))
            | (go_at_call 79; first | with_reducible exact quiet_left (Di.out _) | with_reducible exact quiet_left (Dj.out _) | with_reducible exact quiet_left (Dk.out _)))
          go_wp2_with fail
          go_ret
          exact ⟨ret_bool (by rw [HE.out]; simp [Nj.out]), (by repeat (first | exact HB1.out | (refine Below.alloc ?_ (by first | omega | (simp; done) | (simp; omega)) _) | refine below_drewN ?_ _ | refine Below.drew ?_))⟩
      · have ni' : numOk e.i true = false := by simpa using ni
        have Ni := Lib.hid ni'
        have Ni2 := Lib.hid (show inR e.i 0 1000000000000000 = false from ni')
        have Di := l07Number_lit e.i true _ ni'
        clear ni ni'
        go_quiet (first
          | (go_at_call 80; first | with_reducible exact quiet_left (CJ.out _) | with_reducible exact quiet_left (CK.out _))
          | (go_at_call 79; first | with_reducible exact quiet_left (Di.out _) | with_reducible exact quiet_left (Dj.out _) | with_reducible exact quiet_left (Dk.out _)))
        go_wp2_with fail
        go_ret
        exact ⟨ret_bool (by rw [HE.out]; simp [Ni2.out]), (by repeat (first | exact HB1.out | (refine Below.alloc ?_ (by first | omega | (simp; done) | (simp; omega)) _) | refine below_drewN ?_ _ | refine Below.drew ?_))⟩
  · have hk' : inR e.kind 1 7 = false := by simpa using hk
    have HK := Lib.hid hk'
    clear hk hk'
    go_enter Tryz.func38, Tryz.ntmps38
    go_wp2_with fail
    refine (l00In_no _ _ _ _ HK.out).mono ?_
    rintro r w' ⟨rfl, rfl⟩
    go_wp2_with fail
    go_ret
    exact ⟨ret_bool (by simp [editOk, HK.out]), (by repeat (first | exact Below.refl _ _ | (refine Below.alloc ?_ (by first | omega | (simp; done) | (simp; omega)) _) | refine below_drewN ?_ _ | refine Below.drew ?_))⟩
end Go.Proofs.YtfapnipmgmpgaaaGreatDoor

namespace Go.Proofs.YtfapnipmgmpgaaaGreatDoor
open Go.RowKit

/-- How an edit lies in six cells. -/
def EditE : Enc GEdit where
  size := 6
  pos := by decide
  cells := fun w S e cs => ∃ vR, cs = [.int .i64 e.kind, .int .i64 e.i, .int .i64 e.j, .int .i64 e.k, vR, .string e.map] ∧ SlS RuleE w S vR e.part
  len := by rintro _ _ _ _ ⟨vR, rfl, _⟩; rfl
  keep := by rintro _ _ _ _ _ ⟨vR, rfl, h⟩ hb; exact ⟨vR, rfl, h.keep hb⟩
  more := by rintro _ _ _ _ _ ⟨vR, rfl, h⟩ hb; exact ⟨vR, rfl, h.more hb⟩
  one := by rintro _ _ _ _ ⟨vR, rfl, A, c, rfl, _⟩; simp [Value.oneCell']
theorem Row.edit {w : World} {S : Nat → Prop} {A : Option Addr} {l : List GEdit} (h : Row EditE w S A l) (hS : ∀ b, S b → b < w.heap.size) {k : Nat} (hk : k < l.length) :
    ∃ b o, A = some ⟨b, o, none⟩ ∧ S b ∧ ∀ i e, l[i]? = some e → ∃ vR, EC w b (o + i * 6) e vR ∧ SlS RuleE w S vR e.part := by
  obtain ⟨b, o, rfl, hlt, hc⟩ := h (by omega)
  refine ⟨b, o, rfl, hlt, fun i e hi => ?_⟩
  obtain ⟨cs, ⟨vR, rfl, h1⟩, h2⟩ := hc i e hi
  exact ⟨vR, ⟨by simpa [EditE] using h2 0 _ rfl, by simpa [EditE, Nat.add_assoc] using h2 1 _ rfl, by simpa [EditE, Nat.add_assoc] using h2 2 _ rfl, by simpa [EditE, Nat.add_assoc] using h2 3 _ rfl, by simpa [EditE, Nat.add_assoc] using h2 4 _ rfl, by simpa [EditE, Nat.add_assoc] using h2 5 _ rfl, hS b hlt⟩, h1⟩
end Go.Proofs.YtfapnipmgmpgaaaGreatDoor

namespace Go.Proofs
theorem Tryz.infoEd : (Tryz.prog.info? 36).map (fun i => (i.zero, i.size, i.bytes)) = some (some (.agg #[.int .i64 0, .int .i64 0, .int .i64 0, .int .i64 0, .slice none 0 0, .string ⟨#[]⟩]), 6, 72) := by kernel_rfl
end Go.Proofs
namespace Go.Proofs.YtfapnipmgmpgaaaGreatDoor
open Go.RowKit

theorem szE_le3 {e : GEdit} {left : Int} (h : 0 ≤ szE e left) : szE e left ≤ left ∧ (e.part.length : Int) ≤ left ∧ (e.map.size : Int) ≤ left := by
  unfold szE at *
  split at h
  · omega
  · rename_i h1
    obtain ⟨h3, h2⟩ := szRs_le e.part left (by omega)
    split at h
    · omega
    · rename_i h4
      rw [if_neg h1, if_neg h4]; omega
def szEE : List GEdit → Int → Int
  | [], left => left
  | e :: es, left => if szE e left < 0 then -1 else szEE es (szE e left)
def szES (es : List GEdit) (left : Int) : Int := if left - es.length < 0 then -1 else szEE es (left - es.length)
theorem szEE_at (es : List GEdit) (left : Int) (k : Nat) (e : GEdit) (he : es[k]? = some e) : szEE (es.drop k) left = if szE e left < 0 then -1 else szEE (es.drop (k + 1)) (szE e left) := by
  obtain ⟨hk, rfl⟩ := List.getElem?_eq_some_iff.1 he
  rw [List.drop_eq_getElem_cons hk]; rfl
/-- The rules of all parts. -/
def partsLen (es : List GEdit) : Nat := (es.map fun e => e.part.length).sum
theorem szEE_le (es : List GEdit) : ∀ left : Int, 0 ≤ left → 0 ≤ szEE es left → (∀ e ∈ es, (e.part.length : Int) ≤ left ∧ (e.map.size : Int) ≤ left) := by
  induction es with
  | nil => intro l _ _ e he; cases he
  | cons x xs ih =>
    intro l hl h e he
    unfold szEE at h
    split at h
    · omega
    · obtain ⟨h1, h2, h3⟩ := szE_le3 (e := x) (left := l) (by omega)
      rcases List.mem_cons.1 he with rfl | he
      · exact ⟨h2, h3⟩
      · obtain ⟨h4, h5⟩ := ih _ (by omega) h e he
        exact ⟨by omega, by omega⟩
theorem szES_le {es : List GEdit} {left : Int} (h : 0 ≤ szES es left) : (es.length : Int) ≤ left ∧ (∀ e ∈ es, (e.part.length : Int) ≤ left ∧ (e.map.size : Int) ≤ left) := by
  unfold szES at h
  split at h
  · omega
  · refine ⟨by omega, fun e he => ?_⟩
    obtain ⟨h1, h2⟩ := szEE_le es _ (by omega) h e he
    exact ⟨by omega, by omega⟩
set_option maxRecDepth 100000 in
set_option maxHeartbeats 1000000 in
theorem szEditS_any (v : Value) (es : List GEdit) (left : Int) (w : World) (h : Sl EditE w w.heap.size v es) (hsm : ∀ e ∈ es, SmallL e.part ∧ e.map.size ≤ maxLen) (hl : 0 ≤ left ∧ left ≤ 1048576) :
    Calls Tryz.prog 20 #[v, .int .i64 left] w fun r w' => r = .returned (.int .i64 (szES es left)) ∧ Below w.heap.size w w' := by
  obtain ⟨A, c, rfl, hc, hm, hrow⟩ := h
  unfold maxLen at hm
  go_enter Tryz.func20, Tryz.ntmps20
  go_wp2_with fail
  · go_ret
    exact ⟨ret_int (by unfold szES; rw [if_pos (by omega)]), Below.refl _ _⟩
  · have hfin : szES es left = szEE es (left - es.length) := by unfold szES; rw [if_neg (by omega)]
    have Hfin := Lib.hid hfin
    clear hfin
    go_loopw [1, 5] (fun l i wr => ∃ (k : Nat) (q : Int), k ≤ es.length ∧ 0 ≤ q ∧ q ≤ 1048576 ∧ i = .int .i64 k ∧ l = .int .i64 q ∧ Hid (szEE (es.drop k) q = szES es left) ∧ Below w.heap.size w wr) (fun _ i _ => es.length - (intOf i).toNat)
    case atStart => exact ⟨0, _, Nat.zero_le _, by omega, by omega, rfl, rfl, by rw [Hfin.out]; rfl, Below.refl _ _⟩
    case round =>
      obtain ⟨k, q, hk, hq0, hq1, rfl, rfl, HN, hb⟩ := hrel
      by_cases hlt : k < es.length
      · obtain ⟨b, o, rfl, hbl, hcell⟩ := hrow.edit (fun _ h => h) hlt
        obtain ⟨e, he⟩ : ∃ e, es[k]? = some e := ⟨_, List.getElem?_eq_getElem hlt⟩
        obtain ⟨vR, hec, hR⟩ := hcell k e he
        have hec2 := hec.up hb
        have HR2 := Lib.hid (hR.up hb)
        obtain ⟨hsx, hmx⟩ := hsm e (List.mem_of_getElem? he)
        have He := Lib.hid he
        obtain ⟨c0, c1, c2, c3, c4, c5, cl⟩ := hec2
        have hi : (k : Int) < (es.length : Int) := by omega
        clear hcell he hec hR
        go_wp2_with fail
        refine (szEdit_any _ e q _ ⟨_, rfl, HR2.out⟩ hsx hmx ⟨hq0, hq1⟩).mono ?_
        rintro r w2 ⟨rfl, hb2⟩
        have HB2 := Lib.hid (hb.trans (hb2.mono hb.size))
        clear hb hb2 c0 c1 c2 c3 c4 c5
        by_cases hz : szE e q < 0
        · have HZ := Lib.hid hz
          go_wp2_with fail
          go_ret
          exact ⟨ret_int (by have := HN.out; rw [szEE_at _ _ _ _ He.out, if_pos HZ.out] at this; exact this), HB2.out⟩
        · have hz2 := szE_le3 (e := e) (left := q) (by omega)
          have HZ := Lib.hid hz
          go_wp2_with fail
          go_roundw
          case rel => exact ⟨k + 1, _, by omega, by omega, by omega, by go_num, rfl, by have := HN.out; rw [szEE_at _ _ _ _ He.out, if_neg (by have := HZ.out; omega)] at this; exact this, HB2.out⟩
          case measure => simp [intOf]; omega
      · go_wp2
        go_ret
        exact ⟨ret_int (by have := HN.out; rw [List.drop_eq_nil_of_le (by omega)] at this; exact this), hb⟩
set_option maxRecDepth 100000 in
set_option maxHeartbeats 1000000 in
theorem eqEditS_any (v v' : Value) (es : List GEdit) (w : World) (h : Sl EditE w w.heap.size v es) (h' : Sl EditE w w.heap.size v' es) :
    Calls Tryz.prog 24 #[v, v'] w fun r w' => r = .returned (.bool true) ∧ Below w.heap.size w w' := by
  obtain ⟨A, c, rfl, hc, hm, hrow⟩ := h
  obtain ⟨A', c', rfl, hc', hm', hrow'⟩ := h'
  unfold maxLen at hm
  have hn : es.length ≤ 9223372036854775807 := by omega
  clear hm hm'
  go_enter Tryz.func24, Tryz.ntmps24
  go_wp2_with fail
  go_loopw [5] (fun i wr => ∃ (k : Nat), k ≤ es.length ∧ i = .int .i64 k ∧ Below w.heap.size w wr) (fun i _ => es.length - (intOf i).toNat)
  case atStart => exact ⟨0, Nat.zero_le _, rfl, Below.refl _ _⟩
  case round =>
    obtain ⟨k, hk, rfl, hb⟩ := hrel
    by_cases hlt : k < es.length
    · obtain ⟨b, o, rfl, hbl, hcell⟩ := hrow.edit (fun _ h => h) hlt
      obtain ⟨b', o', rfl, hbl', hcell'⟩ := hrow'.edit (fun _ h => h) hlt
      obtain ⟨e, he⟩ : ∃ e, es[k]? = some e := ⟨_, List.getElem?_eq_getElem hlt⟩
      obtain ⟨vR, hec, hR⟩ := hcell k e he
      obtain ⟨vR', hec', hR'⟩ := hcell' k e he
      have E1 := Lib.hid (hec.up hb)
      have E2 := Lib.hid (hec'.up hb)
      have R1 := Lib.hid (hR.up hb)
      have R2 := Lib.hid (hR'.up hb)
      have hi : (k : Int) < (es.length : Int) := by omega
      have hsz : w.heap.size ≤ wr.heap.size := hb.size
      have HB := Lib.hid hb
      clear hcell hcell' he hec hec' hR hR' hb
      obtain ⟨c0, c1, c2, c3, c4, c5, cl⟩ := E1.out
      obtain ⟨d0, d1, d2, d3, d4, d5, dl⟩ := E2.out
      go_wp2_with fail
      go_still_tail 8, (by kernel_rfl)
      change wpList _ _ _ _ _ wr.drew
      go_wp2_with fail
      refine (eqEdit_any _ _ e _ ⟨_, rfl, R1.out.up (Below.drew (Below.refl _ _))⟩ ⟨_, rfl, R2.out.up (Below.drew (Below.refl _ _))⟩).mono ?_
      rintro r w2 ⟨rfl, hb2⟩
      go_wp2_with fail
      go_roundw
      case rel => exact ⟨k + 1, by omega, by go_num, HB.out.trans ((Below.undrew hb2).mono hsz)⟩
      case measure => simp [intOf]; omega
    · go_wp2
      go_ret
      exact ⟨rfl, hb⟩
end Go.Proofs.YtfapnipmgmpgaaaGreatDoor

