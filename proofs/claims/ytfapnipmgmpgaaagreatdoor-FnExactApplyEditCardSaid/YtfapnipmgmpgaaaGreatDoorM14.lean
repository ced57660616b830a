import Derived.Test.YtfapnipmgmpgaaaGreatDoorM3
import Derived.Test.YtfapnipmgmpgaaaGreatDoorM9
import Derived.Test.YtfapnipmgmpgaaaGreatDoorM11
import Derived.Test.YtfapnipmgmpgaaaGreatDoorM13
import Derived.Test.YtfapnipmgmpgaaaGreatDoorM2
import Derived.Test.YtfapnipmgmpgaaaGreatDoorRows
import Derived.WalkKit
import Derived.ProofKit
import Derived.Below
import Derived.ChangeSame
import Derived.Lib.SmallJoins
import Derived.Carry
import Derived.WideKeyArgs
import Derived.OpenShut
import Derived.Test.YtfapnipmgmpgaaaGreatDoorM1
import Derived.Deep.Slices
import Derived.Deep.Fields
namespace Go.Proofs.YtfapnipmgmpgaaaGreatDoor
open Go.RowKit

theorem szE_le2 {e : GEdit} {left : Int} (hl : 0 ≤ left ∧ left ≤ 1048576) (h : 0 ≤ szE e left) : e.part.length ≤ 1048576 := by
  unfold szE at h
  split at h
  · omega
  · obtain ⟨_, h2⟩ := szRs_le e.part left (by omega)
    omega
theorem edit_own {w : World} {lo : Nat} {vR : Value} {e : GEdit} (h : OwnRules w lo vR e.part) : EditV w w.heap.size (.agg (editCells e vR)) e := ⟨vR, rfl, h.sl⟩
theorem addO_ok {s g : Option (List GRule)} {o : List GRule} (h : addO s g = some o) : gramOk o = true := by
  unfold addO at h
  split at h
  · split at h
    · rename_i h2; cases h; exact h2
    · cases h
  · cases h
theorem editS_ok {xs : List GRule} {ls : List Int} {n : Int} {e : GEdit} {o : List GRule} (h : editS xs ls n e = some o) : gramOk o = true := by
  unfold editS at h
  repeat' split at h
  all_goals exact addO_ok h
theorem applyOut_ok (xs : List GRule) (e : GEdit) : gramOk (applyOut xs e) = true := by
  unfold applyOut
  split
  · split
    · unfold editG applyS
      cases h : editS xs (lsOf xs) (lastI (lsOf xs)) e with
      | none => rfl
      | some o => exact gramOk_trim (editS_ok h)
    · rfl
  · rfl
theorem applyOut_len (xs : List GRule) (e : GEdit) : (applyOut xs e).length ≤ 400 := gram_len400 (applyOut_ok xs e)
theorem OwnRules.sl1 {w W : World} {base : Nat} {v : Value} {l : List GRule} (h : OwnRules w base v l) (hb : Below w.heap.size w W) : Sl RuleE W W.heap.size v l := (OwnRules.sl h).up hb
set_option maxRecDepth 100000 in
set_option maxHeartbeats 4000000 in
theorem lawApplyEdit_any (v v' : Value) (xs : List GRule) (e : GEdit) (w : World) (h : Sl RuleE w w.heap.size v xs) (hsm : SmallL xs) (hE : EditV w w.heap.size v' e) (hsmE : SmallL e.part) (hm : e.map.size ≤ maxLen) (htab : Lib.TabIs Tryz.prog w "math/bits.deBruijn64tab" .u8 deB64) :
    Calls Tryz.prog 3 #[.agg #[v], v'] w fun r w' => r = .returned (.bool true) ∧ Below w.heap.size w w' := by
  obtain ⟨vR, rfl, hR⟩ := hE
  have HG := Lib.hid h
  have HR := Lib.hid hR
  have HT := Lib.hid htab
  obtain ⟨A, c, rfl, _⟩ := h
  obtain ⟨AR, cR, rfl, _⟩ := hR
  clear htab
  go_enter Tryz.func3, Tryz.ntmps3
  go_wp2_with fail
  refine (szGrammar_any _ xs _ _ (HG.out.up (by repeat (first | exact Below.refl _ _ | (refine Below.alloc ?_ (by first | omega | (simp; done) | (simp; omega)) _) | (refine Below.setCell ?_ (by first | exact Nat.le_refl _ | (show _ ≤ _; omega) | (simp; done) | (simp; omega)) _) | refine below_drewN ?_ _ | refine Below.drew ?_))) hsm (by omega)).mono ?_
  rintro e w1 ⟨rfl, hb_1⟩
  have Kx_2 : Blk w1 (w.heap.size + 1) #[.int .i64 e.kind, .int .i64 e.i, .int .i64 e.j, .int .i64 e.k, .slice AR e.part.length cR, .string e.map] 26 := by have := (Below.unalloc hb_1).2; simpa [Blk] using this
  replace hb_1 := (Below.unalloc hb_1).1
  have Ka_3 : Blk w1 (w.heap.size) #[.slice A xs.length c] 24 := by have := (Below.unalloc hb_1).2; simpa [Blk] using this
  replace hb_1 := (Below.unalloc hb_1).1
  have z_w1 : w.heap.size ≤ w1.heap.size := hb_1.size
  have KB_4 := Lib.hid hb_1
  have lx1 := Blk.lt Kx_2
  by_cases hneg : szRs xs 1048576 < 0
  · rw [if_pos hneg]
    clear hneg
    go_wp2_with fail
    go_ret
    exact ⟨rfl, KB_4.out⟩
  rw [if_neg hneg]
  obtain ⟨hle, hlen⟩ := szRs_le xs 1048576 (by omega)
  have hn : xs.length ≤ 1048576 := by omega
  obtain ⟨X, hX⟩ : ∃ X, szRs xs 1048576 = X := ⟨_, rfl⟩
  rw [hX] at hneg hle ⊢
  clear hX hlen
  have ca0_5 := Blk.cell (i := 0) (v := .slice A xs.length c) Ka_3 rfl
  have la_6 := Blk.lt Ka_3
  have cx0_7 := Blk.cell (i := 0) (v := .int .i64 e.kind) Kx_2 rfl
  have cx1_8 := Blk.cell (i := 1) (v := .int .i64 e.i) Kx_2 rfl
  have cx2_9 := Blk.cell (i := 2) (v := .int .i64 e.j) Kx_2 rfl
  have cx3_10 := Blk.cell (i := 3) (v := .int .i64 e.k) Kx_2 rfl
  have cx4_11 := Blk.cell (i := 4) (v := .slice AR e.part.length cR) Kx_2 rfl
  have cx5_12 := Blk.cell (i := 5) (v := .string e.map) Kx_2 rfl
  have lx_13 := Blk.lt Kx_2
  go_wp2_with fail
  refine (szEdit_any _ e _ _ ⟨_, rfl, HR.out.up KB_4.out⟩ hsmE hm (by omega)).mono ?_
  rintro e w2 ⟨rfl, hb_14⟩
  have z_w2 : w1.heap.size ≤ w2.heap.size := hb_14.size
  have Kx_15 := Blk.up Kx_2 hb_14
  have Ka_16 := Blk.up Ka_3 hb_14
  have KB_17 := Lib.hid (Below.tr KB_4.out hb_14)
  clear hb_1 ca0_5 la_6 cx0_7 cx1_8 cx2_9 cx3_10 cx4_11 cx5_12 lx_13 Kx_2 Ka_3 KB_4
  by_cases hneg2 : szE e X < 0
  · skip
    go_wp2_with fail
    go_ret
    exact ⟨rfl, KB_17.out⟩
  have hn2 : e.part.length ≤ 1048576 := szE_le2 (left := X) (by omega) (by omega)
  have HN := Lib.hid hneg2
  have hlo := applyOut_len xs e
  clear hneg hle
  clear hb_14
  go_upto_region 8 with fail
  go_cut [6, 7] (fun p q wx => ∃ (Z : Nat) (A9 : Option Addr) (c9 : Nat), p = .pointer (some ⟨Z, 0, none⟩) ∧ q = .int .i64 (applyCode xs e) ∧ w2.heap.size ≤ Z ∧ Below w2.heap.size w2 wx ∧ Blk wx Z #[.slice A9 (applyOut xs e).length c9] 31 ∧ OwnRules wx w2.heap.size (.slice A9 (applyOut xs e).length c9) (applyOut xs e))
  case first =>
    have B0 := Below.drew (Below.refl w2.heap.size w2)
    have BA := Lib.hid (fun (o : Obj) => Below.drew (Below.alloc (Below.refl w2.heap.size w2) (Nat.le_refl _) o))
    have KD := keep17 Ka_16 Kx_15 B0
    have HBS := Lib.hid KB_17.out
    have HKA := Lib.hid Ka_16
    have HKX := Lib.hid Kx_15
    go_region_held3 (fun w' => Below w2.heap.size w2 w' ∧ w'.cell? ⟨w.heap.size, 0, none⟩ = some (.slice A xs.length c) ∧ w'.cell? ⟨w.heap.size + 1, 0, none⟩ = some (.int .i64 e.kind) ∧ w'.cell? ⟨w.heap.size + 1, 1, none⟩ = some (.int .i64 e.i) ∧ w'.cell? ⟨w.heap.size + 1, 2, none⟩ = some (.int .i64 e.j) ∧ w'.cell? ⟨w.heap.size + 1, 3, none⟩ = some (.int .i64 e.k) ∧ w'.cell? ⟨w.heap.size + 1, 4, none⟩ = some (.slice AR e.part.length cR) ∧ w'.cell? ⟨w.heap.size + 1, 5, none⟩ = some (.string e.map))
      (first | (with_reducible exact KD) | (with_reducible exact keep17 HKA.out HKX.out (BA.out _)) | (with_reducible exact keep17 HKA.out HKX.out b1) | (with_reducible exact keep17 HKA.out HKX.out (b1.alloc z1 _)) | (with_reducible exact keep17 HKA.out HKX.out b2) | (with_reducible exact keep17 HKA.out HKX.out (b2.alloc z2 _)) | (with_reducible exact keep17 HKA.out HKX.out b3) | (with_reducible exact keep17 HKA.out HKX.out (b3.alloc z3 _)) | (with_reducible exact keep17 HKA.out HKX.out (b3.setCell (Nat.le_refl _) _)) | (with_reducible exact keep17 HKA.out HKX.out (b3.setCell z1 _)) | (with_reducible exact keep17 HKA.out HKX.out (b3.setCell z2 _)) | (with_reducible exact keep17 HKA.out HKX.out (b3.setCell z3 _)))
      (first
        | (go_at_call 12; (refine (toGrammar_any _ xs _ (HG.out.up (by repeat (first | exact HBS.out | (refine Below.alloc ?_ (by first | omega | (simp; done) | (simp; omega)) _) | (refine Below.setCell ?_ (by first | exact Nat.le_refl _ | (show _ ≤ _; omega) | (simp; done) | (simp; omega)) _) | refine below_drewN ?_ _ | refine Below.drew ?_))) hn).mono ?_); rintro r u1 ⟨v1, rfl, own1, hb1⟩; have b1 : Below w2.heap.size w2 u1 := (by first | exact Below.undrew hb1 | exact (Below.unalloc (Below.undrew hb1)).1); have z1 := b1.size; (try (have KZ : Blk u1 w2.heap.size #[.slice none 0 0] 31 := (Below.unalloc (Below.undrew hb1)).2; have l1 := Blk.lt KZ)))
        | (go_at_call 13; (refine (toEditO_any _ e _ ⟨_, rfl, HR.out.up (by repeat (first | exact Below.tr HBS.out b1 | (refine Below.alloc ?_ (by first | omega | (simp; done) | (simp; omega)) _) | (refine Below.setCell ?_ (by first | exact Nat.le_refl _ | (show _ ≤ _; omega) | (simp; done) | (simp; omega)) _) | refine below_drewN ?_ _ | refine Below.drew ?_))⟩ hn2).mono ?_); rintro r u2 ⟨v2, rfl, own2, hb2⟩; have c2 : Below u1.heap.size u1 u2 := (by first | exact hb2 | exact (Below.unalloc hb2).1); have b2 := Below.tr b1 c2; have z2 := b2.size; have y2 := c2.size; (first | (have KZ := Blk.up KZ c2) | (have KZ : Blk u2 u1.heap.size #[.slice none 0 0] 31 := (Below.unalloc hb2).2) | skip); (try have l2 := Blk.lt KZ))
        | (go_at_call 11; (refine (specApply_any _ _ xs e _ (OwnRules.sl1 own1 (by repeat (first | exact c2 | (refine Below.alloc ?_ (by first | omega | (simp; done) | (simp; omega)) _) | (refine Below.setCell ?_ (by first | exact Nat.le_refl _ | (show _ ≤ _; omega) | (simp; done) | (simp; omega)) _) | refine below_drewN ?_ _ | refine Below.drew ?_))) ⟨_, rfl, OwnRules.sl1 own2 (by repeat (first | exact Below.refl _ _ | (refine Below.alloc ?_ (by first | omega | (simp; done) | (simp; omega)) _) | (refine Below.setCell ?_ (by first | exact Nat.le_refl _ | (show _ ≤ _; omega) | (simp; done) | (simp; omega)) _) | refine below_drewN ?_ _ | refine Below.drew ?_))⟩ hn2 hsm hsmE hm).mono ?_); rintro r u3 ⟨hb3, v3, own3, rfl⟩; obtain ⟨A9, c9, rfl, _⟩ := own_nil own3; have c3 : Below u2.heap.size u2 u3 := (by first | exact hb3 | exact (Below.unalloc hb3).1); have b3 := Below.tr b2 c3; have z3 := b3.size; have y3 := c3.size; (first | (have KZ := Blk.up KZ c3) | (have KZ : Blk u3 u2.heap.size #[.slice none 0 0] 31 := (Below.unalloc hb3).2) | skip); (try (have kz := Blk.cell (i := 0) (v := .slice none 0 0) KZ rfl; have fz := Blk.frozen KZ 0; have lz := Blk.lt KZ))))
    all_goals
      go_wp2_with fail
      go_meet
      have own4 : OwnRules u3 w2.heap.size _ _ := ownsRow_more own3 (base' := w2.heap.size) (by first | omega | (simp; omega))
      first
        | exact ⟨u3.heap.size, A9, c9, rfl, rfl, z3, b3.alloc z3 _, Blk.new _ _ _, World.ownsRow.alloc own4 _⟩
        | exact ⟨w2.heap.size, A9, c9, rfl, rfl, Nat.le_refl _, b3.setCell (show w2.heap.size ≤ (⟨w2.heap.size, 0, none⟩ : Addr).block from Nat.le_refl _) _, KZ.set 0 _, ownsRow_more (ownsRow_setCell_below own3 (a := ⟨w2.heap.size, 0, none⟩) (by first | (show _ < _; omega) | (simp; done) | (simp; omega)) _) (by first | omega | (simp; omega))⟩
        | exact ⟨u1.heap.size, A9, c9, rfl, rfl, z1, b3.setCell (show w2.heap.size ≤ (⟨u1.heap.size, 0, none⟩ : Addr).block from z1) _, KZ.set 0 _, ownsRow_more (ownsRow_setCell_below own3 (a := ⟨u1.heap.size, 0, none⟩) (by first | (show _ < _; omega) | (simp; done) | (simp; omega)) _) (by first | omega | (simp; omega))⟩
        | exact ⟨u2.heap.size, A9, c9, rfl, rfl, z2, b3.setCell (show w2.heap.size ≤ (⟨u2.heap.size, 0, none⟩ : Addr).block from z2) _, KZ.set 0 _, ownsRow_more (ownsRow_setCell_below own3 (a := ⟨u2.heap.size, 0, none⟩) (by first | (show _ < _; omega) | (simp; done) | (simp; omega)) _) (by first | omega | (simp; omega))⟩
  case rest =>
    obtain ⟨Z, A9, c9, rfl, rfl, hZl, hbR, KZ, hown⟩ := hcut
    have KW := Lib.hid (OwnRules.sl hown)
    have lZ := Blk.lt KZ
    revert hbR KZ KW lZ
    clear hown
    generalize wc = w3
    intro hbR KZ KW lZ
    have hb_18 := hbR
    have z_w3 : w2.heap.size ≤ w3.heap.size := hb_18.size
    have Kx_19 := Blk.up Kx_15 hb_18
    have Ka_20 := Blk.up Ka_16 hb_18
    have KB_21 := Lib.hid (Below.tr KB_17.out hb_18)
    clear Kx_15 Ka_16 KB_17
    have ca0_22 := Blk.cell (i := 0) (v := .slice A xs.length c) Ka_20 rfl
    have la_23 := Blk.lt Ka_20
    go_wp2_with fail
    refine (toGrammar_any _ xs _ (HG.out.up (by repeat (first | exact KB_21.out | (refine Below.alloc ?_ (by first | omega | (simp; done) | (simp; omega)) _) | (refine Below.setCell ?_ (by first | exact Nat.le_refl _ | (show _ ≤ _; omega) | (simp; done) | (simp; omega)) _) | refine below_drewN ?_ _ | refine Below.drew ?_))) hn).mono ?_
    rintro e w4 ⟨v4, rfl, own4, hb_24⟩
    have z_w4 : w3.heap.size ≤ w4.heap.size := hb_24.size
    have Kx_25 := Blk.up Kx_19 hb_24
    have Ka_26 := Blk.up Ka_20 hb_24
    have KB_27 := Lib.hid (Below.tr KB_21.out hb_24)
    have Kz_28 := Blk.up KZ hb_24
    have KW_29 := Lib.hid (SlS.upN KW.out (by omega) hb_24)
    clear hb_18 ca0_22 la_23 Kx_19 Ka_20 KB_21 KZ KW
    obtain ⟨A4, c4, rfl, _⟩ := own_nil own4
    have KX := Lib.hid (OwnR.of own4)
    clear own4
    have cx0_30 := Blk.cell (i := 0) (v := .int .i64 e.kind) Kx_25 rfl
    have cx1_31 := Blk.cell (i := 1) (v := .int .i64 e.i) Kx_25 rfl
    have cx2_32 := Blk.cell (i := 2) (v := .int .i64 e.j) Kx_25 rfl
    have cx3_33 := Blk.cell (i := 3) (v := .int .i64 e.k) Kx_25 rfl
    have cx4_34 := Blk.cell (i := 4) (v := .slice AR e.part.length cR) Kx_25 rfl
    have cx5_35 := Blk.cell (i := 5) (v := .string e.map) Kx_25 rfl
    have lx_36 := Blk.lt Kx_25
    go_wp2_with fail
    refine (toEditO_any _ e _ ⟨_, rfl, HR.out.up (by repeat (first | exact KB_27.out | (refine Below.alloc ?_ (by first | omega | (simp; done) | (simp; omega)) _) | (refine Below.setCell ?_ (by first | exact Nat.le_refl _ | (show _ ≤ _; omega) | (simp; done) | (simp; omega)) _) | refine below_drewN ?_ _ | refine Below.drew ?_))⟩ hn2).mono ?_
    rintro e w5 ⟨vE, rfl, own5, hb_37⟩
    have Kp_38 : Blk w5 (w4.heap.size) #[.slice A4 xs.length c4] 31 := by have := (Below.unalloc hb_37).2; simpa [Blk] using this
    replace hb_37 := (Below.unalloc hb_37).1
    have z_w5 : w4.heap.size ≤ w5.heap.size := hb_37.size
    have Kx_39 := Blk.up Kx_25 hb_37
    have Ka_40 := Blk.up Ka_26 hb_37
    have KB_41 := Lib.hid (Below.tr KB_27.out hb_37)
    have Kz_42 := Blk.up Kz_28 hb_37
    have KW_43 := Lib.hid (SlS.upN KW_29.out (by omega) hb_37)
    have KX_44 := Lib.hid (OwnR.up KX.out hb_37)
    clear hb_24 cx0_30 cx1_31 cx2_32 cx3_33 cx4_34 cx5_35 lx_36 Kx_25 Ka_26 KB_27 Kz_28 KW_29 KX
    obtain ⟨A5, c5, rfl, _⟩ := own_nil own5
    have KE := Lib.hid (OwnR.of (ownsRow_more own5 (base' := w4.heap.size + 1) (by simp)))
    clear own5
    have cp0_45 := Blk.cell (i := 0) (v := .slice A4 xs.length c4) Kp_38 rfl
    have lp_46 := Blk.lt Kp_38
    go_wp2_with fail
    refine (implApply_any _ _ xs e _ (SlS.up (OwnR.sl KX_44.out) (by repeat (first | exact Below.refl _ _ | (refine Below.alloc ?_ (by first | omega | (simp; done) | (simp; omega)) _) | (refine Below.setCell ?_ (by first | exact Nat.le_refl _ | (show _ ≤ _; omega) | (simp; done) | (simp; omega)) _) | refine below_drewN ?_ _ | refine Below.drew ?_))) ⟨_, rfl, SlS.up (OwnR.sl KE.out) (by repeat (first | exact Below.refl _ _ | (refine Below.alloc ?_ (by first | omega | (simp; done) | (simp; omega)) _) | (refine Below.setCell ?_ (by first | exact Nat.le_refl _ | (show _ ≤ _; omega) | (simp; done) | (simp; omega)) _) | refine below_drewN ?_ _ | refine Below.drew ?_))⟩ hn hn2 hm (tabB HT.out (by repeat (first | exact KB_41.out | (refine Below.alloc ?_ (by first | omega | (simp; done) | (simp; omega)) _) | (refine Below.setCell ?_ (by first | exact Nat.le_refl _ | (show _ ≤ _; omega) | (simp; done) | (simp; omega)) _) | refine below_drewN ?_ _ | refine Below.drew ?_)))).mono ?_
    rintro e w6 ⟨hb_47, vQ, own6, rfl⟩
    have Kq_48 : Blk w6 (w5.heap.size) #[.int .i64 e.kind, .int .i64 e.i, .int .i64 e.j, .int .i64 e.k, .slice A5 e.part.length c5, .string e.map] 36 := by have := (Below.unalloc hb_47).2; simpa [Blk] using this
    replace hb_47 := (Below.unalloc hb_47).1
    have z_w6 : w5.heap.size ≤ w6.heap.size := hb_47.size
    have Kx_49 := Blk.up Kx_39 hb_47
    have Ka_50 := Blk.up Ka_40 hb_47
    have KB_51 := Lib.hid (Below.tr KB_41.out hb_47)
    have Kz_52 := Blk.up Kz_42 hb_47
    have KW_53 := Lib.hid (SlS.upN KW_43.out (by omega) hb_47)
    have KX_54 := Lib.hid (OwnR.up KX_44.out hb_47)
    have Kp_55 := Blk.up Kp_38 hb_47
    have KE_56 := Lib.hid (OwnR.up KE.out hb_47)
    clear hb_37 cp0_45 lp_46 Kx_39 Ka_40 KB_41 Kz_42 KW_43 KX_44 Kp_38 KE
    obtain ⟨A6, c6, rfl, _⟩ := own_nil own6
    have KQ := Lib.hid (OwnR.of (ownsRow_more own6 (base' := w5.heap.size + 1) (by simp)))
    clear own6
    have qc : (applyCode xs e != applyCode xs e) = false := by simp
    have cz0_57 := Blk.cell (i := 0) (v := .slice A9 (applyOut xs e).length c9) Kz_52 rfl
    have lz_58 := Blk.lt Kz_52
    go_wp2_with fail
    refine (eqGrammar_any _ _ (applyOut xs e) _ (SlS.up (OwnR.sl KQ.out) (by repeat (first | exact Below.refl _ _ | (refine Below.alloc ?_ (by first | omega | (simp; done) | (simp; omega)) _) | (refine Below.setCell ?_ (by first | exact Nat.le_refl _ | (show _ ≤ _; omega) | (simp; done) | (simp; omega)) _) | refine below_drewN ?_ _ | refine Below.drew ?_))) (SlS.le (SlS.below KW_53.out (by repeat (first | exact Below.refl _ _ | (refine Below.alloc ?_ (by first | omega | (simp; done) | (simp; omega)) _) | (refine Below.setCell ?_ (by first | exact Nat.le_refl _ | (show _ ≤ _; omega) | (simp; done) | (simp; omega)) _) | refine below_drewN ?_ _ | refine Below.drew ?_))) (by simp; omega))).mono ?_
    rintro e w7 ⟨rfl, hb_59⟩
    have Kg_60 : Blk w7 (w6.heap.size) #[.slice A6 (applyOut xs e).length c6] 31 := by have := (Below.unalloc hb_59).2; simpa [Blk] using this
    replace hb_59 := (Below.unalloc hb_59).1
    have z_w7 : w6.heap.size ≤ w7.heap.size := hb_59.size
    have Kx_61 := Blk.up Kx_49 hb_59
    have Ka_62 := Blk.up Ka_50 hb_59
    have KB_63 := Lib.hid (Below.tr KB_51.out hb_59)
    have Kz_64 := Blk.up Kz_52 hb_59
    have KW_65 := Lib.hid (SlS.upN KW_53.out (by omega) hb_59)
    have KX_66 := Lib.hid (OwnR.up KX_54.out hb_59)
    have Kp_67 := Blk.up Kp_55 hb_59
    have KE_68 := Lib.hid (OwnR.up KE_56.out hb_59)
    have Kq_69 := Blk.up Kq_48 hb_59
    have KQ_70 := Lib.hid (OwnR.up KQ.out hb_59)
    clear hb_47 cz0_57 lz_58 Kx_49 Ka_50 KB_51 Kz_52 KW_53 KX_54 Kp_55 KE_56 Kq_48 KQ
    have cp0_71 := Blk.cell (i := 0) (v := .slice A4 xs.length c4) Kp_67 rfl
    have lp_72 := Blk.lt Kp_67
    have ca0_73 := Blk.cell (i := 0) (v := .slice A xs.length c) Ka_62 rfl
    have la_74 := Blk.lt Ka_62
    go_wp2_with fail
    have KD := keep11 Kp_67 Ka_62 (Below.drew (Below.refl w7.heap.size w7))
    have HKA := Lib.hid Ka_62
    have HKP := Lib.hid Kp_67
    have HBS := Lib.hid KB_63.out
    have HXS := Lib.hid (OwnR.sl KX_66.out)
    go_region_held3 (fun w' => Below w7.heap.size w7 w' ∧ w'.cell? ⟨w4.heap.size, 0, none⟩ = some (.slice A4 xs.length c4) ∧ w'.cell? ⟨w.heap.size, 0, none⟩ = some (.slice A xs.length c))
      (first | (with_reducible exact KD) | (with_reducible exact keep11 HKP.out HKA.out b8) | (with_reducible exact keep11 HKP.out HKA.out b9))
      (first
        | (go_at_call 12; (refine (toGrammar_any _ xs _ (HG.out.up (by repeat (first | exact HBS.out | (refine Below.alloc ?_ (by first | omega | (simp; done) | (simp; omega)) _) | (refine Below.setCell ?_ (by first | exact Nat.le_refl _ | (show _ ≤ _; omega) | (simp; done) | (simp; omega)) _) | refine below_drewN ?_ _ | refine Below.drew ?_))) hn).mono ?_); rintro r w8 ⟨v8, rfl, own8, hb8⟩; have b8 := Below.undrew hb8)
        | (go_at_call 15; (refine (eqGrammar_any _ _ xs _ (SlS.up HXS.out b8) own8.sl).mono ?_); rintro r w9 ⟨rfl, hb9⟩; have b9 := Below.tr b8 hb9))
    have hbR9 := b9
    clear KD HKA HKP HBS HXS b8 b9 hb8 hb9 own8
    have hb_75 := hbR9
    have z_w9 : w7.heap.size ≤ w9.heap.size := hb_75.size
    have Kx_76 := Blk.up Kx_61 hb_75
    have Ka_77 := Blk.up Ka_62 hb_75
    have KB_78 := Lib.hid (Below.tr KB_63.out hb_75)
    have Kz_79 := Blk.up Kz_64 hb_75
    have KW_80 := Lib.hid (SlS.upN KW_65.out (by omega) hb_75)
    have KX_81 := Lib.hid (OwnR.up KX_66.out hb_75)
    have Kp_82 := Blk.up Kp_67 hb_75
    have KE_83 := Lib.hid (OwnR.up KE_68.out hb_75)
    have Kq_84 := Blk.up Kq_69 hb_75
    have KQ_85 := Lib.hid (OwnR.up KQ_70.out hb_75)
    have Kg_86 := Blk.up Kg_60 hb_75
    clear hb_59 cp0_71 lp_72 ca0_73 la_74 Kx_61 Ka_62 KB_63 Kz_64 KW_65 KX_66 Kp_67 KE_68 Kq_69 KQ_70 Kg_60
    have cq0_87 := Blk.cell (i := 0) (v := .int .i64 e.kind) Kq_84 rfl
    have cq1_88 := Blk.cell (i := 1) (v := .int .i64 e.i) Kq_84 rfl
    have cq2_89 := Blk.cell (i := 2) (v := .int .i64 e.j) Kq_84 rfl
    have cq3_90 := Blk.cell (i := 3) (v := .int .i64 e.k) Kq_84 rfl
    have cq4_91 := Blk.cell (i := 4) (v := .slice A5 e.part.length c5) Kq_84 rfl
    have cq5_92 := Blk.cell (i := 5) (v := .string e.map) Kq_84 rfl
    have lq_93 := Blk.lt Kq_84
    have cx0_94 := Blk.cell (i := 0) (v := .int .i64 e.kind) Kx_76 rfl
    have cx1_95 := Blk.cell (i := 1) (v := .int .i64 e.i) Kx_76 rfl
    have cx2_96 := Blk.cell (i := 2) (v := .int .i64 e.j) Kx_76 rfl
    have cx3_97 := Blk.cell (i := 3) (v := .int .i64 e.k) Kx_76 rfl
    have cx4_98 := Blk.cell (i := 4) (v := .slice AR e.part.length cR) Kx_76 rfl
    have cx5_99 := Blk.cell (i := 5) (v := .string e.map) Kx_76 rfl
    have lx_100 := Blk.lt Kx_76
    go_wp2_with fail
    have KD := keep66 Kq_84 Kx_76 (Below.drew (Below.refl w9.heap.size w9))
    have HKA := Lib.hid Kx_76
    have HKP := Lib.hid Kq_84
    have HBS := Lib.hid KB_78.out
    have HXS := Lib.hid (OwnR.sl KE_83.out)
    go_region_held3 (fun w' => Below w9.heap.size w9 w' ∧ w'.cell? ⟨w5.heap.size, 0, none⟩ = some (.int .i64 e.kind) ∧ w'.cell? ⟨w5.heap.size, 1, none⟩ = some (.int .i64 e.i) ∧ w'.cell? ⟨w5.heap.size, 2, none⟩ = some (.int .i64 e.j) ∧ w'.cell? ⟨w5.heap.size, 3, none⟩ = some (.int .i64 e.k) ∧ w'.cell? ⟨w5.heap.size, 4, none⟩ = some (.slice A5 e.part.length c5) ∧ w'.cell? ⟨w5.heap.size, 5, none⟩ = some (.string e.map) ∧ w'.cell? ⟨w.heap.size + 1, 0, none⟩ = some (.int .i64 e.kind) ∧ w'.cell? ⟨w.heap.size + 1, 1, none⟩ = some (.int .i64 e.i) ∧ w'.cell? ⟨w.heap.size + 1, 2, none⟩ = some (.int .i64 e.j) ∧ w'.cell? ⟨w.heap.size + 1, 3, none⟩ = some (.int .i64 e.k) ∧ w'.cell? ⟨w.heap.size + 1, 4, none⟩ = some (.slice AR e.part.length cR) ∧ w'.cell? ⟨w.heap.size + 1, 5, none⟩ = some (.string e.map))
      (first | (with_reducible exact KD) | (with_reducible exact keep66 HKP.out HKA.out b10) | (with_reducible exact keep66 HKP.out HKA.out b11))
      (first
        | (go_at_call 13; (refine (toEditO_any _ e _ ⟨_, rfl, HR.out.up (by repeat (first | exact HBS.out | (refine Below.alloc ?_ (by first | omega | (simp; done) | (simp; omega)) _) | (refine Below.setCell ?_ (by first | exact Nat.le_refl _ | (show _ ≤ _; omega) | (simp; done) | (simp; omega)) _) | refine below_drewN ?_ _ | refine Below.drew ?_))⟩ hn2).mono ?_); rintro r w10 ⟨v10, rfl, own10, hb10⟩; have b10 := Below.undrew hb10)
        | (go_at_call 16; (refine (eqEdit_any _ _ e _ ⟨_, rfl, SlS.up HXS.out b10⟩ ⟨_, rfl, own10.sl⟩).mono ?_); rintro r w11 ⟨rfl, hb11⟩; have b11 := Below.tr b10 hb11))
    have hbR11 := b11
    clear KD HKA HKP HBS HXS b10 b11 hb10 hb11 own10
    have hb_101 := hbR11
    have z_w11 : w9.heap.size ≤ w11.heap.size := hb_101.size
    have Kx_102 := Blk.up Kx_76 hb_101
    have Ka_103 := Blk.up Ka_77 hb_101
    have KB_104 := Lib.hid (Below.tr KB_78.out hb_101)
    have Kz_105 := Blk.up Kz_79 hb_101
    have KW_106 := Lib.hid (SlS.upN KW_80.out (by omega) hb_101)
    have KX_107 := Lib.hid (OwnR.up KX_81.out hb_101)
    have Kp_108 := Blk.up Kp_82 hb_101
    have KE_109 := Lib.hid (OwnR.up KE_83.out hb_101)
    have Kq_110 := Blk.up Kq_84 hb_101
    have KQ_111 := Lib.hid (OwnR.up KQ_85.out hb_101)
    have Kg_112 := Blk.up Kg_86 hb_101
    clear hb_75 cq0_87 cq1_88 cq2_89 cq3_90 cq4_91 cq5_92 lq_93 cx0_94 cx1_95 cx2_96 cx3_97 cx4_98 cx5_99 lx_100 Kx_76 Ka_77 KB_78 Kz_79 KW_80 KX_81 Kp_82 KE_83 Kq_84 KQ_85 Kg_86
    have cp0_113 := Blk.cell (i := 0) (v := .slice A4 xs.length c4) Kp_108 rfl
    have lp_114 := Blk.lt Kp_108
    go_wp2_with fail
    refine (markGrammar1 _ _ xs _ (KX_107.out).1 (by omega)).mono ?_
    rintro e w12 ⟨rfl, ho_116, hg_115⟩
    have hc_117 := chg_of KX_107.out hg_115
    have z_w12 : w11.heap.size ≤ w12.heap.size := Chg.size hc_117
    have Kx_118 := Blk.chg Kx_102 hc_117 (by omega)
    have Ka_119 := Blk.chg Ka_103 hc_117 (by omega)
    have KB_120 := Lib.hid (Below.chg KB_104.out (by have := Below.size KB_104.out; omega) hc_117 (by omega))
    have Kz_121 := Blk.chg Kz_105 hc_117 (by omega)
    have KW_122 := Lib.hid (SlS.chgN KW_106.out (by omega) hc_117 (by omega))
    have KX_123 := Lib.hid (OwnR.markedC KX_107.out ho_116 hc_117)
    have Kp_124 := Blk.chg Kp_108 hc_117 (by omega)
    have KE_125 := Lib.hid (OwnR.chg KE_109.out hc_117 (by omega))
    have Kq_126 := Blk.chg Kq_110 hc_117 (by omega)
    have KQ_127 := Lib.hid (OwnR.chg KQ_111.out hc_117 (by omega))
    have Kg_128 := Blk.chg Kg_112 hc_117 (by omega)
    clear hb_101 cp0_113 lp_114 Kx_102 Ka_103 KB_104 Kz_105 KW_106 KX_107 Kp_108 KE_109 Kq_110 KQ_111 Kg_112 ho_116 hg_115 hc_117
    clear Kp_124
    have cq0_129 := Blk.cell (i := 0) (v := .int .i64 e.kind) Kq_126 rfl
    have cq1_130 := Blk.cell (i := 1) (v := .int .i64 e.i) Kq_126 rfl
    have cq2_131 := Blk.cell (i := 2) (v := .int .i64 e.j) Kq_126 rfl
    have cq3_132 := Blk.cell (i := 3) (v := .int .i64 e.k) Kq_126 rfl
    have cq4_133 := Blk.cell (i := 4) (v := .slice A5 e.part.length c5) Kq_126 rfl
    have cq5_134 := Blk.cell (i := 5) (v := .string e.map) Kq_126 rfl
    have lq_135 := Blk.lt Kq_126
    go_wp2_with fail
    refine (markEdit_any _ _ e (1 + 3 * xs.length) _ (KE_125.out).1 (by omega) (by omega)).mono ?_
    rintro e w13 ⟨rfl, ho_137, hg_136⟩
    have hc_138 := chg_of KE_125.out hg_136
    have z_w13 : w12.heap.size ≤ w13.heap.size := Chg.size hc_138
    have Kx_139 := Blk.chg Kx_118 hc_138 (by omega)
    have Ka_140 := Blk.chg Ka_119 hc_138 (by omega)
    have KB_141 := Lib.hid (Below.chg KB_120.out (by have := Below.size KB_120.out; omega) hc_138 (by omega))
    have Kz_142 := Blk.chg Kz_121 hc_138 (by omega)
    have KW_143 := Lib.hid (SlS.chgN KW_122.out (by omega) hc_138 (by omega))
    have KX_144 := Lib.hid (OwnR.chg KX_123.out hc_138 (by omega))
    have KE_145 := Lib.hid (OwnR.markedC KE_125.out ho_137 hc_138)
    have Kq_146 := Blk.chg Kq_126 hc_138 (by omega)
    have KQ_147 := Lib.hid (OwnR.chg KQ_127.out hc_138 (by omega))
    have Kg_148 := Blk.chg Kg_128 hc_138 (by omega)
    clear cq0_129 cq1_130 cq2_131 cq3_132 cq4_133 cq5_134 lq_135 Kx_118 Ka_119 KB_120 Kz_121 KW_122 KX_123 KE_125 Kq_126 KQ_127 Kg_128 ho_137 hg_136 hc_138
    clear Kq_146
    have e0 : (decide (((1 + 3 * xs.length + 3 * e.part.length : Nat) : Int) < 0)) = false := by simp; omega
    have cg0_149 := Blk.cell (i := 0) (v := .slice A6 (applyOut xs e).length c6) Kg_148 rfl
    have lg_150 := Blk.lt Kg_148
    have cz0_151 := Blk.cell (i := 0) (v := .slice A9 (applyOut xs e).length c9) Kz_142 rfl
    have lz_152 := Blk.lt Kz_142
    go_wp2_with fail
    refine (eqGrammar_any _ _ (applyOut xs e) _ (OwnR.sl KQ_147.out) (SlS.le KW_143.out (by omega))).mono ?_
    rintro e w14 ⟨rfl, hb_153⟩
    have z_w14 : w13.heap.size ≤ w14.heap.size := hb_153.size
    have Kx_154 := Blk.up Kx_139 hb_153
    have Ka_155 := Blk.up Ka_140 hb_153
    have KB_156 := Lib.hid (Below.tr KB_141.out hb_153)
    have Kz_157 := Blk.up Kz_142 hb_153
    have KW_158 := Lib.hid (SlS.upN KW_143.out (by omega) hb_153)
    have KX_159 := Lib.hid (OwnR.up KX_144.out hb_153)
    have KE_160 := Lib.hid (OwnR.up KE_145.out hb_153)
    have KQ_161 := Lib.hid (OwnR.up KQ_147.out hb_153)
    have Kg_162 := Blk.up Kg_148 hb_153
    clear cg0_149 lg_150 cz0_151 lz_152 Kx_139 Ka_140 KB_141 Kz_142 KW_143 KX_144 KE_145 KQ_147 Kg_148
    have cg0_163 := Blk.cell (i := 0) (v := .slice A6 (applyOut xs e).length c6) Kg_162 rfl
    have lg_164 := Blk.lt Kg_162
    go_wp2_with fail
    refine (markGrammar1 _ _ (applyOut xs e) _ (KQ_161.out).1 (by omega)).mono ?_
    rintro e w15 ⟨rfl, ho_166, hg_165⟩
    have hc_167 := chg_of KQ_161.out hg_165
    have z_w15 : w14.heap.size ≤ w15.heap.size := Chg.size hc_167
    have Kx_168 := Blk.chg Kx_154 hc_167 (by omega)
    have Ka_169 := Blk.chg Ka_155 hc_167 (by omega)
    have KB_170 := Lib.hid (Below.chg KB_156.out (by have := Below.size KB_156.out; omega) hc_167 (by omega))
    have Kz_171 := Blk.chg Kz_157 hc_167 (by omega)
    have KW_172 := Lib.hid (SlS.chgN KW_158.out (by omega) hc_167 (by omega))
    have KX_173 := Lib.hid (OwnR.chg KX_159.out hc_167 (by omega))
    have KE_174 := Lib.hid (OwnR.chg KE_160.out hc_167 (by omega))
    have KQ_175 := Lib.hid (OwnR.markedC KQ_161.out ho_166 hc_167)
    have Kg_176 := Blk.chg Kg_162 hc_167 (by omega)
    clear hb_153 cg0_163 lg_164 Kx_154 Ka_155 KB_156 Kz_157 KW_158 KX_159 KE_160 KQ_161 Kg_162 ho_166 hg_165 hc_167
    clear e0
    have cg0_177 := Blk.cell (i := 0) (v := .slice A6 (applyOut xs e).length c6) Kg_176 rfl
    have lg_178 := Blk.lt Kg_176
    go_wp2_with fail
    refine (heldGrammar1 _ (applyOut xs e).length _ (OwnR.sl KQ_175.out) (by omega)).mono ?_
    rintro e w16 ⟨rfl, hb_179⟩
    have z_w16 : w15.heap.size ≤ w16.heap.size := hb_179.size
    have Kx_180 := Blk.up Kx_168 hb_179
    have Ka_181 := Blk.up Ka_169 hb_179
    have KB_182 := Lib.hid (Below.tr KB_170.out hb_179)
    have Kz_183 := Blk.up Kz_171 hb_179
    have KW_184 := Lib.hid (SlS.upN KW_172.out (by omega) hb_179)
    have KX_185 := Lib.hid (OwnR.up KX_173.out hb_179)
    have KE_186 := Lib.hid (OwnR.up KE_174.out hb_179)
    have KQ_187 := Lib.hid (OwnR.up KQ_175.out hb_179)
    have Kg_188 := Blk.up Kg_176 hb_179
    clear cg0_177 lg_178 Kx_168 Ka_169 KB_170 Kz_171 KW_172 KX_173 KE_174 KQ_175 Kg_176
    have cg0_189 := Blk.cell (i := 0) (v := .slice A6 (applyOut xs e).length c6) Kg_188 rfl
    have lg_190 := Blk.lt Kg_188
    have ca0_191 := Blk.cell (i := 0) (v := .slice A xs.length c) Ka_181 rfl
    have la_192 := Blk.lt Ka_181
    have cx0_193 := Blk.cell (i := 0) (v := .int .i64 e.kind) Kx_180 rfl
    have cx1_194 := Blk.cell (i := 1) (v := .int .i64 e.i) Kx_180 rfl
    have cx2_195 := Blk.cell (i := 2) (v := .int .i64 e.j) Kx_180 rfl
    have cx3_196 := Blk.cell (i := 3) (v := .int .i64 e.k) Kx_180 rfl
    have cx4_197 := Blk.cell (i := 4) (v := .slice AR e.part.length cR) Kx_180 rfl
    have cx5_198 := Blk.cell (i := 5) (v := .string e.map) Kx_180 rfl
    have lx_199 := Blk.lt Kx_180
    go_upto_region 31 with fail
    go_cut [15, 16] (fun p q wx => ∃ (Z : Nat) (A9 : Option Addr) (c9 : Nat), p = .pointer (some ⟨Z, 0, none⟩) ∧ q = .int .i64 (applyCode xs e) ∧ w16.heap.size ≤ Z ∧ Below w16.heap.size w16 wx ∧ Blk wx Z #[.slice A9 (applyOut xs e).length c9] 31 ∧ OwnRules wx w16.heap.size (.slice A9 (applyOut xs e).length c9) (applyOut xs e))
    case first =>
      have B0 := Below.drew (Below.refl w16.heap.size w16)
      have BA := Lib.hid (fun (o : Obj) => Below.drew (Below.alloc (Below.refl w16.heap.size w16) (Nat.le_refl _) o))
      have KD := keep17 Ka_181 Kx_180 B0
      have HBS := Lib.hid KB_182.out
      have HKA := Lib.hid Ka_181
      have HKX := Lib.hid Kx_180
      go_region_held3 (fun w' => Below w16.heap.size w16 w' ∧ w'.cell? ⟨w.heap.size, 0, none⟩ = some (.slice A xs.length c) ∧ w'.cell? ⟨w.heap.size + 1, 0, none⟩ = some (.int .i64 e.kind) ∧ w'.cell? ⟨w.heap.size + 1, 1, none⟩ = some (.int .i64 e.i) ∧ w'.cell? ⟨w.heap.size + 1, 2, none⟩ = some (.int .i64 e.j) ∧ w'.cell? ⟨w.heap.size + 1, 3, none⟩ = some (.int .i64 e.k) ∧ w'.cell? ⟨w.heap.size + 1, 4, none⟩ = some (.slice AR e.part.length cR) ∧ w'.cell? ⟨w.heap.size + 1, 5, none⟩ = some (.string e.map))
        (first | (with_reducible exact KD) | (with_reducible exact keep17 HKA.out HKX.out (BA.out _)) | (with_reducible exact keep17 HKA.out HKX.out b1) | (with_reducible exact keep17 HKA.out HKX.out (b1.alloc z1 _)) | (with_reducible exact keep17 HKA.out HKX.out b2) | (with_reducible exact keep17 HKA.out HKX.out (b2.alloc z2 _)) | (with_reducible exact keep17 HKA.out HKX.out b3) | (with_reducible exact keep17 HKA.out HKX.out (b3.alloc z3 _)) | (with_reducible exact keep17 HKA.out HKX.out (b3.setCell (Nat.le_refl _) _)) | (with_reducible exact keep17 HKA.out HKX.out (b3.setCell z1 _)) | (with_reducible exact keep17 HKA.out HKX.out (b3.setCell z2 _)) | (with_reducible exact keep17 HKA.out HKX.out (b3.setCell z3 _)))
        (first
          | (go_at_call 12; (refine (toGrammar_any _ xs _ (HG.out.up (by repeat (first | exact HBS.out | (refine Below.alloc ?_ (by first | omega | (simp; done) | (simp; omega)) _) | (refine Below.setCell ?_ (by first | exact Nat.le_refl _ | (show _ ≤ _; omega) | (simp; done) | (simp; omega)) _) | refine below_drewN ?_ _ | refine Below.drew ?_))) hn).mono ?_); rintro r t1 ⟨v1, rfl, own1, hb1⟩; have b1 : Below w16.heap.size w16 t1 := (by first | exact Below.undrew hb1 | exact (Below.unalloc (Below.undrew hb1)).1); have z1 := b1.size; (try (have KZ : Blk t1 w16.heap.size #[.slice none 0 0] 31 := (Below.unalloc (Below.undrew hb1)).2; have l1 := Blk.lt KZ)))
          | (go_at_call 13; (refine (toEditO_any _ e _ ⟨_, rfl, HR.out.up (by repeat (first | exact Below.tr HBS.out b1 | (refine Below.alloc ?_ (by first | omega | (simp; done) | (simp; omega)) _) | (refine Below.setCell ?_ (by first | exact Nat.le_refl _ | (show _ ≤ _; omega) | (simp; done) | (simp; omega)) _) | refine below_drewN ?_ _ | refine Below.drew ?_))⟩ hn2).mono ?_); rintro r t2 ⟨v2, rfl, own2, hb2⟩; have c2 : Below t1.heap.size t1 t2 := (by first | exact hb2 | exact (Below.unalloc hb2).1); have b2 := Below.tr b1 c2; have z2 := b2.size; have y2 := c2.size; (first | (have KZ := Blk.up KZ c2) | (have KZ : Blk t2 t1.heap.size #[.slice none 0 0] 31 := (Below.unalloc hb2).2) | skip); (try have l2 := Blk.lt KZ))
          | (go_at_call 14; (refine (implApply_any _ _ xs e _ (OwnRules.sl1 own1 (by repeat (first | exact c2 | (refine Below.alloc ?_ (by first | omega | (simp; done) | (simp; omega)) _) | (refine Below.setCell ?_ (by first | exact Nat.le_refl _ | (show _ ≤ _; omega) | (simp; done) | (simp; omega)) _) | refine below_drewN ?_ _ | refine Below.drew ?_))) ⟨_, rfl, OwnRules.sl1 own2 (by repeat (first | exact Below.refl _ _ | (refine Below.alloc ?_ (by first | omega | (simp; done) | (simp; omega)) _) | (refine Below.setCell ?_ (by first | exact Nat.le_refl _ | (show _ ≤ _; omega) | (simp; done) | (simp; omega)) _) | refine below_drewN ?_ _ | refine Below.drew ?_))⟩ hn hn2 hm (tabB HT.out (by repeat (first | exact Below.tr HBS.out b2 | (refine Below.alloc ?_ (by first | omega | (simp; done) | (simp; omega)) _) | (refine Below.setCell ?_ (by first | exact Nat.le_refl _ | (show _ ≤ _; omega) | (simp; done) | (simp; omega)) _) | refine below_drewN ?_ _ | refine Below.drew ?_)))).mono ?_); rintro r t3 ⟨hb3, v3, own3, rfl⟩; obtain ⟨A9, c9, rfl, _⟩ := own_nil own3; have c3 : Below t2.heap.size t2 t3 := (by first | exact hb3 | exact (Below.unalloc hb3).1); have b3 := Below.tr b2 c3; have z3 := b3.size; have y3 := c3.size; (first | (have KZ := Blk.up KZ c3) | (have KZ : Blk t3 t2.heap.size #[.slice none 0 0] 31 := (Below.unalloc hb3).2) | skip); (try (have kz := Blk.cell (i := 0) (v := .slice none 0 0) KZ rfl; have fz := Blk.frozen KZ 0; have lz := Blk.lt KZ))))
      all_goals
        go_wp2_with fail
        go_meet
        have own4 : OwnRules t3 w16.heap.size _ _ := ownsRow_more own3 (base' := w16.heap.size) (by first | omega | (simp; omega))
        first
          | exact ⟨t3.heap.size, A9, c9, rfl, rfl, z3, b3.alloc z3 _, Blk.new _ _ _, World.ownsRow.alloc own4 _⟩
          | exact ⟨w16.heap.size, A9, c9, rfl, rfl, Nat.le_refl _, b3.setCell (show w16.heap.size ≤ (⟨w16.heap.size, 0, none⟩ : Addr).block from Nat.le_refl _) _, KZ.set 0 _, ownsRow_more (ownsRow_setCell_below own3 (a := ⟨w16.heap.size, 0, none⟩) (by first | (show _ < _; omega) | (simp; done) | (simp; omega)) _) (by first | omega | (simp; omega))⟩
          | exact ⟨t1.heap.size, A9, c9, rfl, rfl, z1, b3.setCell (show w16.heap.size ≤ (⟨t1.heap.size, 0, none⟩ : Addr).block from z1) _, KZ.set 0 _, ownsRow_more (ownsRow_setCell_below own3 (a := ⟨t1.heap.size, 0, none⟩) (by first | (show _ < _; omega) | (simp; done) | (simp; omega)) _) (by first | omega | (simp; omega))⟩
          | exact ⟨t2.heap.size, A9, c9, rfl, rfl, z2, b3.setCell (show w16.heap.size ≤ (⟨t2.heap.size, 0, none⟩ : Addr).block from z2) _, KZ.set 0 _, ownsRow_more (ownsRow_setCell_below own3 (a := ⟨t2.heap.size, 0, none⟩) (by first | (show _ < _; omega) | (simp; done) | (simp; omega)) _) (by first | omega | (simp; omega))⟩
    case rest =>
      obtain ⟨Z2, A7, c7, rfl, rfl, hZ2, hbR2, KZ2, hown2⟩ := hcut
      have KW2 := Lib.hid (OwnRules.sl hown2)
      have lZ2 := Blk.lt KZ2
      revert hbR2 KZ2 KW2 lZ2
      clear hown2
      generalize wc = w17
      intro hbR2 KZ2 KW2 lZ2
      have hb_200 := hbR2
      have z_w17 : w16.heap.size ≤ w17.heap.size := hb_200.size
      have Kx_201 := Blk.up Kx_180 hb_200
      have Ka_202 := Blk.up Ka_181 hb_200
      have KB_203 := Lib.hid (Below.tr KB_182.out hb_200)
      have Kz_204 := Blk.up Kz_183 hb_200
      have KW_205 := Lib.hid (SlS.upN KW_184.out (by omega) hb_200)
      have KX_206 := Lib.hid (OwnR.up KX_185.out hb_200)
      have KE_207 := Lib.hid (OwnR.up KE_186.out hb_200)
      have KQ_208 := Lib.hid (OwnR.up KQ_187.out hb_200)
      have Kg_209 := Blk.up Kg_188 hb_200
      clear hb_179 cg0_189 lg_190 ca0_191 la_192 cx0_193 cx1_194 cx2_195 cx3_196 cx4_197 cx5_198 lx_199 Kx_180 Ka_181 KB_182 Kz_183 KW_184 KX_185 KE_186 KQ_187 Kg_188
      have ch0_210 := Blk.cell (i := 0) (v := .slice A7 (applyOut xs e).length c7) KZ2 rfl
      have lh_211 := Blk.lt KZ2
      have cz0_212 := Blk.cell (i := 0) (v := .slice A9 (applyOut xs e).length c9) Kz_204 rfl
      have lz_213 := Blk.lt Kz_204
      go_wp2_with fail
      refine (eqGrammar_any _ _ (applyOut xs e) _ (SlS.le KW2.out (by omega)) (SlS.le KW_205.out (by omega))).mono ?_
      rintro e w18 ⟨rfl, hb_214⟩
      have z_w18 : w17.heap.size ≤ w18.heap.size := hb_214.size
      have Kx_215 := Blk.up Kx_201 hb_214
      have Ka_216 := Blk.up Ka_202 hb_214
      have KB_217 := Lib.hid (Below.tr KB_203.out hb_214)
      have Kz_218 := Blk.up Kz_204 hb_214
      have KW_219 := Lib.hid (SlS.upN KW_205.out (by omega) hb_214)
      have KX_220 := Lib.hid (OwnR.up KX_206.out hb_214)
      have KE_221 := Lib.hid (OwnR.up KE_207.out hb_214)
      have KQ_222 := Lib.hid (OwnR.up KQ_208.out hb_214)
      have Kg_223 := Blk.up Kg_209 hb_214
      have Kh_224 := Blk.up KZ2 hb_214
      have KH_225 := Lib.hid (SlS.upN KW2.out (by omega) hb_214)
      clear hb_200 ch0_210 lh_211 cz0_212 lz_213 Kx_201 Ka_202 KB_203 Kz_204 KW_205 KX_206 KE_207 KQ_208 Kg_209 KZ2 KW2
      have cg0_226 := Blk.cell (i := 0) (v := .slice A6 (applyOut xs e).length c6) Kg_223 rfl
      have lg_227 := Blk.lt Kg_223
      go_wp2_with fail
      refine (heldGrammar1 _ (applyOut xs e).length _ (OwnR.sl KQ_222.out) (by omega)).mono ?_
      rintro e w19 ⟨rfl, hb_228⟩
      have z_w19 : w18.heap.size ≤ w19.heap.size := hb_228.size
      have Kx_229 := Blk.up Kx_215 hb_228
      have Ka_230 := Blk.up Ka_216 hb_228
      have KB_231 := Lib.hid (Below.tr KB_217.out hb_228)
      have Kz_232 := Blk.up Kz_218 hb_228
      have KW_233 := Lib.hid (SlS.upN KW_219.out (by omega) hb_228)
      have KX_234 := Lib.hid (OwnR.up KX_220.out hb_228)
      have KE_235 := Lib.hid (OwnR.up KE_221.out hb_228)
      have KQ_236 := Lib.hid (OwnR.up KQ_222.out hb_228)
      have Kg_237 := Blk.up Kg_223 hb_228
      have Kh_238 := Blk.up Kh_224 hb_228
      have KH_239 := Lib.hid (SlS.upN KH_225.out (by omega) hb_228)
      clear hb_214 cg0_226 lg_227 Kx_215 Ka_216 KB_217 Kz_218 KW_219 KX_220 KE_221 KQ_222 Kg_223 Kh_224 KH_225
      go_wp2
      go_ret
      exact ⟨rfl, KB_231.out⟩
end Go.Proofs.YtfapnipmgmpgaaaGreatDoor

namespace Go.Proofs.YtfapnipmgmpgaaaGreatDoor
open Go.RowKit Go.WideShapes Go.ChangeShapes
section
variable {H : Type} {enc : TypeId × Value → H} {P : Program}
theorem post_of_below {f : Func} {s : ChangeSpec} {apart fresh handsOn again : Bool} {W W' : World} {args : Array Value} {v : Value} {ds gs : List (DataW H)} {before pa pv : List MemPlace}
    (hW : DataW.Whole enc P f.params.toList s.vars apart W args.toList ds gs before)
    (hres : ∀ (b : Nat) (sp : Nat → Bool) (hd : Bool), DataW.TrodAll enc P W' b sp hd f.resultTypes.toList (v.resultList f.resultTypes.size) (s.fn H (ds ++ gs)).results [])
    (hargs : ∀ sp : Nat → Bool, (∀ p ∈ before, sp p.block = true) → DataW.TrodAll enc P W' 0 sp true f.params.toList args.toList (s.fn H (ds ++ gs)).args pa)
    (hvars : ∀ sp : Nat → Bool, (∀ p ∈ before, sp p.block = true) → DataW.TrodVars enc P W' sp s.vars (s.fn H (ds ++ gs)).vars pv)
    (hps : before = pa ++ pv) (hb : Below W.heap.size W W')
    (hok : ∀ (j : Nat) (t : TypeId) (r : Value), f.resultTypes[j]? = some t → (v.resultList f.resultTypes.size)[j]? = some r → Value.okWide P W' .any 0 t r) :
    s.post enc P f apart fresh handsOn again W args v W' := by
  have hlt : ∀ p ∈ before, p.block < W.heap.size := fun p hp => hW.lt p hp
  have hold : ∀ p ∈ before, (fun b => decide (b < W.heap.size)) p.block = true := fun p hp => by simpa using hlt p hp
  refine ⟨ds, gs, before, [], pa, pv, hW, hres _ _ _, hargs _ hold, hvars _ hold, World.keptBut_mono (fun p hp => ⟨hp, ?_⟩) (hb.frame (· ∈ before)), fun _ => ?_⟩
  · rw [hps, List.mem_append] at hp
    exact Or.inr hp
  · obtain ⟨_, _, _, _, _, hz, hn⟩ := hW
    refine ⟨hok, _, _, ([] ++ pa) ++ pv, ⟨[] ++ pa, pv, trodAll_append (hargs _ (fun _ _ => rfl)) (hres _ _ _), hvars _ (fun _ _ => rfl), rfl, ?_, ?_⟩, ?_⟩
    · intro b off hp
      have hin : MemPlace.cell b off ∈ before := by rw [hps]; simpa using hp
      rw [hb.frozen (hlt _ hin)]
      exact hz b off hin
    · intro ha
      have := hn ha
      rw [hps] at this
      simpa using this
    · intro p hp _
      rw [hps]
      simpa using hp

theorem trodAll_below (hl : laidOutB P = true) {W W' : World} (hb : Below W.heap.size W W') : ∀ {ts : List TypeId} {vs : List Value} {ds : List (DataW H)} {ps : List MemPlace},
    (∀ t ∈ ts, P.readableRec t = true ∧ t < P.types.size) → DataW.TrodAll enc P W 0 (fun _ => true) true ts vs ds ps → (∀ x ∈ ps, x.block < W.heap.size) → ∀ sp : Nat → Bool, (∀ p ∈ ps, sp p.block = true) →
    DataW.TrodAll enc P W' 0 sp true ts vs ds ps
  | [], _, _, _, _, h, _, _, _ => by
    obtain ⟨rfl, rfl, rfl⟩ := trodAll_nil h
    exact trodAll_mk0
  | t :: ts, vs, ds, ps, hts, h, hlt, sp, hsp => by
    obtain ⟨v, vs', d, ds', p, q, rfl, rfl, rfl, h0, r0⟩ := trodAll_cons h
    refine trodAll_cons_mk (WideElems.Trod_stays hl (hts t (by simp)).1 (hts t (by simp)).2 h0 (fun x hx => hb.same (hlt x (by simp [hx]))) (fun x hx => hsp x (by simp [hx]))) ?_
    exact trodAll_below hl hb (fun t ht => hts t (by simp [ht])) r0 (fun x hx => hlt x (by simp [hx])) sp (fun x hx => hsp x (by simp [hx]))
end
theorem laidOut : laidOutB Tryz.prog = true := by kernel_rfl
theorem own : ownKnob Tryz.prog.godebug = none := by kernel_rfl
end Go.Proofs.YtfapnipmgmpgaaaGreatDoor

namespace Go.Proofs.YtfapnipmgmpgaaaGreatDoor
open Go.RowKit Go.ChangeShapes Go.WideShapes Go.Deep
section
variable {H : Type} {enc : TypeId × Value → H} {P : Program} {w : World} {base : Nat} {spare : Nat → Bool} {held : Bool}
theorem open_slice_fields {t e : TypeId} {fs : Array Field} {fuel : Nat} {cs : List Value} {x : DataW H × List MemPlace} (ht : P.underlying t = some (.slice e)) (he : P.underlying e = some (.struct fs))
    (hone : oneCellFields P fs = true) (hC : P.cellsOf e = fs.size) (h : DataW.trod enc P w base spare held fuel t cs = some x) :
    (cs = [.slice none 0 0] ∧ x = (.nil, [])) ∨
    ∃ (a : Addr) (len cap m : Nat) (D : Nat → DataW H) (Pl : Nat → List MemPlace), cs = [.slice (some a) len cap] ∧ base ≤ a.block ∧ len ≤ cap ∧ cap ≤ maxLen ∧ m = (if spare a.block then cap else len) ∧
      x = (.slice ((List.range len).map D) ((List.range (m - len)).map fun j => D (len + j)), MemPlace.row a (m * fs.size) ++ (List.range m).flatMap Pl) ∧
      ∀ i, i < m → ∃ (ys : List (DataW H × List MemPlace)) (n : Nat), D i = .agg (ys.map (·.1)) ∧ Pl i = ys.flatMap (·.2) ∧ ys.length = fs.size ∧
        ∀ (j : Nat) (f : Field), fs[j]? = some f → ∃ (v : Value) (y : DataW H × List MemPlace), w.cell? (a.add (i * fs.size + j)) = some v ∧ ys[j]? = some y ∧ DataW.trod enc P w base spare held n f.type [v] = some y := by
  rcases open_slice ht h with h0 | ⟨a, len, cap, m, n, D, Pl, hcs, hb, hl, hm, hmm, hx, hi⟩
  · exact .inl h0
  · refine .inr ⟨a, len, cap, m, D, Pl, hcs, hb, hl, hm, hmm, by rw [hC] at hx; exact hx, fun i him => ?_⟩
    obtain ⟨cs', hc, ht'⟩ := hi i him
    rw [hC] at hc
    obtain ⟨ys, n', hn', hy, hlen, hyl, hf⟩ := DataW.trod_struct he ht'
    obtain ⟨_, hcl, hat⟩ := World.cells?_some hc
    simp only [Prod.mk.injEq] at hy
    refine ⟨ys, n', hy.1, hy.2, hyl, fun j f hj => ?_⟩
    obtain ⟨ho, hk⟩ := hone_of hone j f hj
    have hjl : j < fs.size := (Array.getElem?_eq_some_iff.1 hj).1
    have hcell := hat j hjl
    have hv : cs'[j]? = some (cs'[j]'(by omega)) := List.getElem?_eq_getElem (by omega)
    have h1 := hf j f hj
    rw [ho, hk] at h1
    have hone' : (cs'.drop j).take 1 = [cs'[j]'(by omega)] := by
      rw [List.drop_eq_getElem_cons (by omega)]
      rfl
    rw [hone'] at h1
    have hys : ys[j]? = some (ys[j]'(by omega)) := List.getElem?_eq_getElem (by omega)
    refine ⟨_, _, ?_, hys, h1.trans hys⟩
    rw [← Go.Deep.add_add, hcell, hv]

theorem add_plain (b o n : Nat) : (⟨b, o, none⟩ : Addr).add n = ⟨b, o + n, none⟩ := by unfold Addr.add; split <;> simp_all
theorem spot_none {a : Addr} {v : Value} (h : w.cell? a = some v) : a = ⟨a.block, a.off, none⟩ ∧ a.block < w.heap.size := by
  have hl := World.block_lt_of_cell? w a h
  refine ⟨?_, hl⟩
  obtain ⟨b, o, s⟩ := a
  unfold World.cell? at h
  cases s with
  | none => rfl
  | some s => split at h <;> simp at h
theorem len_map_range {α : Type} (f : Nat → α) (n : Nat) : ((List.range n).map f).length = n := by simp

theorem open_rules {t e : TypeId} {f0 f1 f2 : Field} {fuel : Nat} {v : Value} {x : DataW H × List MemPlace} (ht : P.underlying t = some (.slice e)) (he : P.underlying e = some (.struct #[f0, f1, f2]))
    (hone : oneCellFields P #[f0, f1, f2] = true) (hC : P.cellsOf e = 3) (h0 : P.underlying f0.type = some .string) (h1 : P.underlying f1.type = some (.int .i64)) (h2 : P.underlying f2.type = some (.int .i64))
    (h : DataW.trod enc P w base spare held fuel t [v] = some x) : ∃ xs : List GRule, Sl RuleE w w.heap.size v xs ∧ SmallL xs := by
  rcases open_slice_fields ht he hone hC h with ⟨hcs, _⟩ | ⟨a, len, cap, m, D, Pl, hcs, _, hl, hm, hmm, _, hf⟩
  · simp at hcs
    subst hcs
    exact ⟨[], SlS.nil _ _, fun r hr => by simp at hr⟩
  · simp at hcs
    subst hcs
    have hmle : len ≤ m := by rw [hmm]; split <;> omega
    have H : ∀ i, ∃ r : GRule, i < len → (w.cell? (a.add (i * 3)) = some (.string r.letter) ∧ w.cell? (a.add (i * 3 + 1)) = some (.int .i64 r.left) ∧ w.cell? (a.add (i * 3 + 2)) = some (.int .i64 r.right) ∧ r.letter.size ≤ maxLen) := by
      intro i
      by_cases hi : i < len
      · obtain ⟨ys, n, _, _, _, hx⟩ := hf i (by omega)
        obtain ⟨v0, y0, g0, _, t0⟩ := hx 0 f0 rfl
        obtain ⟨v1, y1, g1, _, t1⟩ := hx 1 f1 rfl
        obtain ⟨v2, y2, g2, _, t2⟩ := hx 2 f2 rfl
        obtain ⟨s, e0, _, hs⟩ := DataW.trod_string h0 t0
        obtain ⟨p, e1, _, _⟩ := DataW.trod_int h1 t1
        obtain ⟨q, e2, _, _⟩ := DataW.trod_int h2 t2
        simp at e0 e1 e2
        subst e0 e1 e2
        exact ⟨⟨s, p, q⟩, fun _ => ⟨by simpa using g0, g1, g2, hs⟩⟩
      · exact ⟨⟨⟨#[]⟩, 0, 0⟩, fun h => absurd h hi⟩
    obtain ⟨F, hF⟩ : ∃ F : Nat → GRule, ∀ i, i < len → (w.cell? (a.add (i * 3)) = some (.string (F i).letter) ∧ w.cell? (a.add (i * 3 + 1)) = some (.int .i64 (F i).left) ∧ w.cell? (a.add (i * 3 + 2)) = some (.int .i64 (F i).right) ∧ (F i).letter.size ≤ maxLen) :=
      ⟨fun i => Classical.choose (H i), fun i hi => Classical.choose_spec (H i) hi⟩
    clear H
    refine ⟨(List.range len).map F, ⟨some a, cap, by rw [len_map_range], by rw [len_map_range]; exact hl, hm, fun hn => ?_⟩, ?_⟩
    · rw [len_map_range] at hn
      obtain ⟨g0, _⟩ := hF 0 hn
      have ha : a.add (0 * 3) = a := by simp [Addr.add]
      rw [ha] at g0
      obtain ⟨hsp, hlt⟩ := spot_none g0
      refine ⟨a.block, a.off, by rw [← hsp], hlt, fun k r hr => ⟨r.cells, rfl, fun j u hu => ?_⟩⟩
      have hk : k < len := by
        have := (List.getElem?_eq_some_iff.1 hr).1
        rw [len_map_range] at this; exact this
      have er : F k = r := by
        rw [List.getElem?_map, List.getElem?_range hk] at hr; simpa using hr
      obtain ⟨g0, g1, g2, _⟩ := hF k hk
      rw [er, hsp, add_plain] at g0 g1 g2
      match j, hu with
      | 0, hu => simp [GRule.cells] at hu; subst hu; exact g0
      | 1, hu => simp [GRule.cells] at hu; subst hu; exact g1
      | 2, hu => simp [GRule.cells] at hu; subst hu; exact g2
      | j + 3, hu => simp [GRule.cells] at hu
    · intro r hr
      rw [List.mem_map] at hr
      obtain ⟨k, hk, rfl⟩ := hr
      have := (hF k (by simpa using hk)).2.2.2
      unfold maxLen at this
      exact this

theorem open_struct1 {t : TypeId} {f : Field} {v : Value} {d : DataW H} {p : List MemPlace} {r : Reach} {b0 : Nat} (hs : P.underlying t = some (.struct #[f])) (hone : oneCellFields P #[f] = true) (hC : P.cellsOf t = 1)
    (hv : Value.okWide P w r b0 t v) (h : DataW.Trod enc P w base spare held t v d p) : ∃ v0 n x, v = .agg #[v0] ∧ DataW.trod enc P w base spare held n f.type [v0] = some x := by
  obtain ⟨cs, rfl, hsz⟩ := okWide_struct hs hv
  obtain ⟨l⟩ := cs
  match l, hsz.trans hC with
  | [c0], _ =>
    obtain ⟨fuel, hf⟩ := h
    obtain ⟨xs, n, _, _, _, hlen, hg⟩ := DataW.trod_struct hs hf
    obtain ⟨o0, k0⟩ := hone_of hone 0 f rfl
    match xs, hlen with
    | [y0], _ => exact ⟨c0, n, y0, rfl, by simpa [Value.cells, o0, k0] using hg 0 f rfl⟩
end
set_option maxRecDepth 100000 in
theorem open_gram {H : Type} {enc : TypeId × Value → H} {w : World} {base : Nat} {spare : Nat → Bool} {held : Bool} {r : Reach} {b0 : Nat} {v : Value} {d : DataW H} {p : List MemPlace}
    (hv : Value.okWide Tryz.prog w r b0 24 v) (h : DataW.Trod enc Tryz.prog w base spare held 24 v d p) : ∃ v0 xs, v = .agg #[v0] ∧ Sl RuleE w w.heap.size v0 xs ∧ SmallL xs := by
  obtain ⟨v0, n, x, rfl, hx⟩ := open_struct1 Tryz.underlying24 (by kernel_rfl) (by kernel_rfl) hv h
  obtain ⟨xs, h1, h2⟩ := open_rules Tryz.underlying22 Tryz.underlying111 (by kernel_rfl) (by kernel_rfl) Tryz.underlying9 Tryz.underlying2 Tryz.underlying2 hx
  exact ⟨v0, xs, rfl, h1, h2⟩
end Go.Proofs.YtfapnipmgmpgaaaGreatDoor

namespace Go.Proofs.YtfapnipmgmpgaaaGreatDoor
open Go.RowKit Go.ChangeShapes Go.WideShapes Go.Deep

/-- Whatever reads at type t lies as E says, and has the property Q. -/
def Opens {α : Type} (P : Program) (E : Enc α) (Q : α → Prop) (t : TypeId) : Prop :=
  ∀ {H : Type} (enc : TypeId × Value → H) (w : World) (base : Nat) (spare : Nat → Bool) (held : Bool) (fuel : Nat) (cs : List Value) (x : DataW H × List MemPlace), DataW.trod enc P w base spare held fuel t cs = some x → ∃ a, E.cells w (· < w.heap.size) a cs ∧ Q a

theorem opens_int {P : Program} {t : TypeId} (ht : P.underlying t = some (.int .i64)) : Opens P IntE (fun _ => True) t := by
  intro H enc w base spare held fuel cs x h
  obtain ⟨p, e1, _, _⟩ := DataW.trod_int ht h
  exact ⟨p, e1, trivial⟩
theorem opens_string {P : Program} {t : TypeId} (ht : P.underlying t = some .string) : Opens P StrE (fun s => s.size ≤ maxLen) t := by
  intro H enc w base spare held fuel cs x h
  obtain ⟨s, e0, _, hs⟩ := DataW.trod_string ht h
  exact ⟨s, e0, hs⟩
theorem opens_rule {P : Program} {t : TypeId} {f0 f1 f2 : Field} (he : P.underlying t = some (.struct #[f0, f1, f2])) (hone : oneCellFields P #[f0, f1, f2] = true) (hC : P.cellsOf t = 3)
    (h0 : P.underlying f0.type = some .string) (h1 : P.underlying f1.type = some (.int .i64)) (h2 : P.underlying f2.type = some (.int .i64)) : Opens P RuleE (fun r => r.letter.size ≤ maxLen) t := by
  intro H enc w base spare held fuel cs x h
  obtain ⟨ys, n', hn', hy, hlen, hyl, hf⟩ := DataW.trod_struct he h
  obtain ⟨o0, k0⟩ := hone_of hone 0 f0 rfl
  obtain ⟨o1, k1⟩ := hone_of hone 1 f1 rfl
  obtain ⟨o2, k2⟩ := hone_of hone 2 f2 rfl
  have g0 := hf 0 f0 rfl
  have g1 := hf 1 f1 rfl
  have g2 := hf 2 f2 rfl
  rw [o0, k0] at g0
  rw [o1, k1] at g1
  rw [o2, k2] at g2
  have hc3 : cs.length = 3 := hlen.trans hC
  match ys, hyl, cs, hc3 with
  | [y0, y1, y2], _, [c0, c1, c2], _ =>
    simp at g0 g1 g2
    obtain ⟨s, e0, _, hs⟩ := DataW.trod_string h0 g0
    obtain ⟨p, e1, _, _⟩ := DataW.trod_int h1 g1
    obtain ⟨q, e2, _, _⟩ := DataW.trod_int h2 g2
    refine ⟨⟨s, p, q⟩, ?_, hs⟩
    simp at e0 e1 e2
    subst e0 e1 e2
    rfl
instance : Inhabited GRule := ⟨⟨⟨#[]⟩, 0, 0⟩⟩
theorem opens_slice {α : Type} {P : Program} {E : Enc α} {Q : α → Prop} {t e : TypeId} [Inhabited α] (hE : Opens P E Q e) (ht : P.underlying t = some (.slice e)) (hC : P.cellsOf e = E.size) : Opens P (SliceE E) (fun xs => ∀ x ∈ xs, Q x) t := by
  intro H enc w base spare held fuel cs x h
  rcases open_slice ht h with ⟨h0, _⟩ | ⟨a, len, cap, m, n, D, Pl, hcs, hb, hl, hm, hmm, hx, hi⟩
  · exact ⟨[], ⟨_, h0, SlS.nil _ _⟩, fun x hx => by simp at hx⟩
  · have hmle : len ≤ m := by rw [hmm]; split <;> omega
    have Hh : ∀ i, i < len → ∃ r : α, ∃ cs', E.cells w (· < w.heap.size) r cs' ∧ (∀ j u, cs'[j]? = some u → w.cell? (a.add (i * E.size + j)) = some u) ∧ Q r := by
      intro i hil
      obtain ⟨cs', hc, ht'⟩ := hi i (by omega)
      obtain ⟨r, hr, hq⟩ := hE enc w base spare held n cs' _ ht'
      obtain ⟨_, hcl, hat⟩ := World.cells?_some hc
      refine ⟨r, cs', hr, fun j u hu => ?_, hq⟩
      have hj : j < cs'.length := (List.getElem?_eq_some_iff.1 hu).1
      rw [← Go.Deep.add_add, ← hC, hat j (by omega), hu]
    obtain ⟨F, hF⟩ := choose_lt Hh
    clear Hh
    refine ⟨(List.range len).map F, ⟨.slice (some a) len cap, hcs, some a, cap, by rw [len_map_range], by rw [len_map_range]; exact hl, hm, fun hn => ?_⟩, ?_⟩
    · rw [len_map_range] at hn
      obtain ⟨cs', h1, h2, _⟩ := hF 0 hn
      have hlen := E.len h1
      have hpos := E.pos
      have g0 := h2 0 cs'[0] (List.getElem?_eq_getElem (by omega))
      have ha : a.add (0 * E.size + 0) = a := by simp [Addr.add]
      rw [ha] at g0
      obtain ⟨hsp, hlt⟩ := spot_none g0
      refine ⟨a.block, a.off, by rw [← hsp], hlt, fun k r hr => ?_⟩
      have hk : k < len := by
        have := (List.getElem?_eq_some_iff.1 hr).1
        rw [len_map_range] at this; exact this
      have er : F k = r := by
        rw [List.getElem?_map, List.getElem?_range hk] at hr; simpa using hr
      obtain ⟨cs'', h3, h4, _⟩ := hF k hk
      rw [er] at h3
      refine ⟨cs'', h3, fun j u hu => ?_⟩
      have := h4 j u hu
      rw [hsp, add_plain] at this
      exact this
    · intro r hr
      rw [List.mem_map] at hr
      obtain ⟨k, hk, rfl⟩ := hr
      exact (hF k (by simpa using hk)).choose_spec.2.2
theorem opens_struct1 {α : Type} {P : Program} {E : Enc α} {Q : α → Prop} {t : TypeId} {f : Field} (hs : P.underlying t = some (.struct #[f])) (hone : oneCellFields P #[f] = true) (hC : P.cellsOf t = 1) (hE : Opens P E Q f.type) : Opens P E Q t := by
  intro H enc w base spare held fuel cs x h
  obtain ⟨ys, n', hn', hy, hlen, hyl, hf⟩ := DataW.trod_struct hs h
  obtain ⟨o0, k0⟩ := hone_of hone 0 f rfl
  have g0 := hf 0 f rfl
  rw [o0, k0] at g0
  have hc1 : cs.length = 1 := hlen.trans hC
  match ys, hyl, cs, hc1 with
  | [y0], _, [c0], _ =>
    simp at g0
    exact hE enc w base spare held _ _ _ g0
theorem SmallL_of {xs : List GRule} (h : ∀ r ∈ xs, r.letter.size ≤ maxLen) : SmallL xs := fun r hr => by have := h r hr; unfold maxLen at this; exact this
set_option maxRecDepth 100000 in
theorem opensRule : Opens Tryz.prog RuleE (fun r => r.letter.size ≤ maxLen) 111 := opens_rule Tryz.underlying111 (by kernel_rfl) (by kernel_rfl) Tryz.underlying9 Tryz.underlying2 Tryz.underlying2
theorem opensRuleS : Opens Tryz.prog (SliceE RuleE) (fun xs => ∀ r ∈ xs, r.letter.size ≤ maxLen) 22 := opens_slice opensRule Tryz.underlying22 (by kernel_rfl)
set_option maxRecDepth 100000 in
theorem opensGram : Opens Tryz.prog (SliceE RuleE) (fun xs => ∀ r ∈ xs, r.letter.size ≤ maxLen) 24 := opens_struct1 Tryz.underlying24 (by kernel_rfl) (by kernel_rfl) opensRuleS
end Go.Proofs.YtfapnipmgmpgaaaGreatDoor

namespace Go.Proofs.YtfapnipmgmpgaaaGreatDoor
open Go.ChangeShapes Go.WideShapes Go.ChangeAt Go.RowKit Go.Joins
open Go.ChangeMaps (open_string)
theorem opensInts : Opens Tryz.prog IntE (fun _ => True) 2 := opens_int Tryz.underlying2
theorem opensIntS : Opens Tryz.prog (SliceE IntE) (fun xs => ∀ x ∈ xs, True) 112 := opens_slice opensInts Tryz.underlying112 (by kernel_rfl)
end Go.Proofs.YtfapnipmgmpgaaaGreatDoor

namespace Go.Proofs.YtfapnipmgmpgaaaGreatDoor
open Go.ChangeShapes Go.WideShapes Go.ChangeAt Go.RowKit Go.Joins Go.Deep
open Go.ChangeMaps (open_string)
section
variable {H : Type} {enc : TypeId × Value → H} {P : Program} {w : World} {base : Nat} {spare : Nat → Bool} {held : Bool}
theorem open_struct6 {t : TypeId} {f0 f1 f2 f3 f4 f5 : Field} {v : Value} {d : DataW H} {p : List MemPlace} {r : Reach} {b0 : Nat} (hs : P.underlying t = some (.struct #[f0, f1, f2, f3, f4, f5])) (hone : oneCellFields P #[f0, f1, f2, f3, f4, f5] = true) (hC : P.cellsOf t = 6)
    (hv : Value.okWide P w r b0 t v) (h : DataW.Trod enc P w base spare held t v d p) : ∃ v0 v1 v2 v3 v4 v5 n x0 x1 x2 x3 x4 x5, v = .agg #[v0, v1, v2, v3, v4, v5] ∧ DataW.trod enc P w base spare held n f0.type [v0] = some x0 ∧ DataW.trod enc P w base spare held n f1.type [v1] = some x1 ∧
      DataW.trod enc P w base spare held n f2.type [v2] = some x2 ∧ DataW.trod enc P w base spare held n f3.type [v3] = some x3 ∧ DataW.trod enc P w base spare held n f4.type [v4] = some x4 ∧ DataW.trod enc P w base spare held n f5.type [v5] = some x5 := by
  obtain ⟨cs, rfl, hsz⟩ := okWide_struct hs hv
  obtain ⟨l⟩ := cs
  match l, hsz.trans hC with
  | [c0, c1, c2, c3, c4, c5], _ =>
    obtain ⟨fuel, hf⟩ := h
    obtain ⟨xs, n, _, _, _, hlen, hg⟩ := DataW.trod_struct hs hf
    obtain ⟨o0, k0⟩ := hone_of hone 0 f0 rfl
    obtain ⟨o1, k1⟩ := hone_of hone 1 f1 rfl
    obtain ⟨o2, k2⟩ := hone_of hone 2 f2 rfl
    obtain ⟨o3, k3⟩ := hone_of hone 3 f3 rfl
    obtain ⟨o4, k4⟩ := hone_of hone 4 f4 rfl
    obtain ⟨o5, k5⟩ := hone_of hone 5 f5 rfl
    match xs, hlen with
    | [y0, y1, y2, y3, y4, y5], _ => exact ⟨c0, c1, c2, c3, c4, c5, n, y0, y1, y2, y3, y4, y5, rfl, by simpa [Value.cells, o0, k0] using hg 0 f0 rfl, by simpa [Value.cells, o1, k1] using hg 1 f1 rfl, by simpa [Value.cells, o2, k2] using hg 2 f2 rfl, by simpa [Value.cells, o3, k3] using hg 3 f3 rfl, by simpa [Value.cells, o4, k4] using hg 4 f4 rfl, by simpa [Value.cells, o5, k5] using hg 5 f5 rfl⟩
end
set_option maxRecDepth 100000 in
theorem open_edit {H : Type} {enc : TypeId × Value → H} {w : World} {base : Nat} {spare : Nat → Bool} {held : Bool} {r : Reach} {b0 : Nat} {v : Value} {d : DataW H} {p : List MemPlace}
    (hv : Value.okWide Tryz.prog w r b0 26 v) (h : DataW.Trod enc Tryz.prog w base spare held 26 v d p) : ∃ e, EditV w w.heap.size v e ∧ SmallL e.part ∧ e.map.size ≤ maxLen := by
  obtain ⟨v0, v1, v2, v3, v4, v5, n, x0, x1, x2, x3, x4, x5, rfl, h0, h1, h2, h3, h4, h5⟩ := open_struct6 Tryz.underlying26 (by kernel_rfl) (by kernel_rfl) hv h
  obtain ⟨k, e0, _, _⟩ := DataW.trod_int Tryz.underlying2 h0
  obtain ⟨i, e1, _, _⟩ := DataW.trod_int Tryz.underlying2 h1
  obtain ⟨j, e2, _, _⟩ := DataW.trod_int Tryz.underlying2 h2
  obtain ⟨kk, e3, _, _⟩ := DataW.trod_int Tryz.underlying2 h3
  obtain ⟨xs, ⟨v4', e4, hsl⟩, hsm⟩ := opensGram enc w base spare held _ _ _ h4
  obtain ⟨s, e5, _, hs⟩ := DataW.trod_string Tryz.underlying9 h5
  simp at e0 e1 e2 e3 e4 e5
  subst e0 e1 e2 e3 e4 e5
  exact ⟨⟨k, i, j, kk, xs, s⟩, ⟨_, rfl, hsl⟩, SmallL_of hsm, hs⟩
end Go.Proofs.YtfapnipmgmpgaaaGreatDoor

