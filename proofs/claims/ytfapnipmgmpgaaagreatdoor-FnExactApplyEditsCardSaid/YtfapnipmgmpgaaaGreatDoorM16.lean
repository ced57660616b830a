import Derived.Test.YtfapnipmgmpgaaaGreatDoorM3
import Derived.Test.YtfapnipmgmpgaaaGreatDoorM9
import Derived.Test.YtfapnipmgmpgaaaGreatDoorM11
import Derived.Test.YtfapnipmgmpgaaaGreatDoorM14
import Derived.Test.YtfapnipmgmpgaaaGreatDoorM15
import Derived.Test.YtfapnipmgmpgaaaGreatDoorM2
import Derived.Test.YtfapnipmgmpgaaaGreatDoorRows
import Derived.WalkKit
import Derived.ProofKit
import Derived.Below
import Derived.ChangeSame
import Derived.Lib.SmallJoins
import Derived.Carry
import Derived.WideKeyArgs
import Derived.OpenShut
import Derived.Test.YtfapnipmgmpgaaaGreatDoorM1
import Derived.Deep.Slices
import Derived.Deep.Fields
namespace Go.Proofs.YtfapnipmgmpgaaaGreatDoor
open Go.RowKit

theorem szRs_le2 (xs : List GRule) (left : Int) (h2 : 0 ≤ szRs xs left) : szRs xs left + xs.length ≤ left := by
  unfold szRs at *
  split
  · rename_i h3; rw [if_pos h3] at h2; omega
  · rename_i h3
    have := szRR_le xs (szN xs.length left) (by omega)
    unfold szN at *
    split at h3 <;> (try omega)
theorem szE_sum {e : GEdit} {left : Int} (h : 0 ≤ szE e left) : szE e left + e.part.length ≤ left := by
  unfold szE at *
  split at h
  · omega
  · rename_i h1
    have h3 := szRs_le2 e.part left (by omega)
    split at h
    · omega
    · rename_i h4
      rw [if_neg h1, if_neg h4]; omega
theorem szEE_sum (es : List GEdit) : ∀ left : Int, 0 ≤ left → 0 ≤ szEE es left → szEE es left + partsLen es ≤ left := by
  induction es with
  | nil => intro l _ h; simp [szEE, partsLen]
  | cons x xs ih =>
    intro l hl h
    unfold szEE at h ⊢
    split at h
    · omega
    · rename_i h1
      rw [if_neg h1]
      have h2 := szE_sum (e := x) (left := l) (by omega)
      have h3 := ih _ (by omega) h
      have e : partsLen (x :: xs) = x.part.length + partsLen xs := by simp [partsLen]
      rw [e]; omega
theorem szES_sum {es : List GEdit} {left : Int} (h : 0 ≤ szES es left) : (es.length : Int) + partsLen es ≤ left := by
  unfold szES at h
  split at h
  · omega
  · have := szEE_sum es _ (by omega) h
    omega
theorem markEnd_eq (es : List GEdit) : ∀ k, markEnd k es = k + 5 * es.length + 3 * partsLen es := by
  induction es with
  | nil => intro k; simp [markEnd, partsLen]
  | cons x xs ih =>
    intro k
    have e : partsLen (x :: xs) = x.part.length + partsLen xs := by simp [partsLen]
    unfold markEnd
    rw [ih, e, List.length_cons]
    unfold mkK
    omega
theorem aesOut_len {xs : List GRule} (es : List GEdit) : (aesOut xs es).length ≤ 400 := by
  unfold aesOut
  by_cases h : aesCode xs es = 0
  · rw [if_pos h]
    have hg : gramOk xs = true := by
      cases hg : gramOk xs with
      | true => rfl
      | false => unfold aesCode at h; simp [hg] at h
    exact gram_len400 (foldE_ok es hg)
  · rw [if_neg h]; simp
set_option maxRecDepth 100000 in
set_option maxHeartbeats 4000000 in
theorem lawApplyEdits_any (v v' : Value) (xs : List GRule) (es : List GEdit) (w : World) (h : Sl RuleE w w.heap.size v xs) (hsm : SmallL xs) (hE : Sl EditE w w.heap.size v' es) (hsmE : ∀ e ∈ es, SmallL e.part ∧ e.map.size ≤ maxLen) (htab : Lib.TabIs Tryz.prog w "math/bits.deBruijn64tab" .u8 deB64) :
    Calls Tryz.prog 4 #[.agg #[v], v'] w fun r w' => r = .returned (.bool true) ∧ Below w.heap.size w w' := by
  have HG := Lib.hid h
  have HE := Lib.hid hE
  have HT := Lib.hid htab
  obtain ⟨A, c, rfl, _⟩ := h
  obtain ⟨AE, cE, rfl, _⟩ := hE
  clear htab
  go_enter Tryz.func4, Tryz.ntmps4
  go_wp2_with fail
  refine (szGrammar_any _ xs _ _ (HG.out.up (by repeat (first | exact Below.refl _ _ | (refine Below.alloc ?_ (by first | omega | (simp; done) | (simp; omega)) _) | (refine Below.setCell ?_ (by first | exact Nat.le_refl _ | (show _ ≤ _; omega) | (simp; done) | (simp; omega)) _) | refine below_drewN ?_ _ | refine Below.drew ?_))) hsm (by omega)).mono ?_
  rintro e w1 ⟨rfl, hb_1⟩
  have Ka_2 : Blk w1 (w.heap.size) #[.slice A xs.length c] 24 := by have := (Below.unalloc hb_1).2; simpa [Blk] using this
  replace hb_1 := (Below.unalloc hb_1).1
  have z_w1 : w.heap.size ≤ w1.heap.size := hb_1.size
  have KB_3 := Lib.hid hb_1
  have lx1 := Blk.lt Ka_2
  by_cases hneg : szRs xs 1048576 < 0
  · rw [if_pos hneg]
    clear hneg
    go_wp2_with fail
    go_ret
    exact ⟨rfl, KB_3.out⟩
  rw [if_neg hneg]
  obtain ⟨hle, hlen⟩ := szRs_le xs 1048576 (by omega)
  have hn : xs.length ≤ 1048576 := by omega
  obtain ⟨X, hX⟩ : ∃ X, szRs xs 1048576 = X := ⟨_, rfl⟩
  rw [hX] at hneg hle ⊢
  clear hX hlen
  have ca0_4 := Blk.cell (i := 0) (v := .slice A xs.length c) Ka_2 rfl
  have la_5 := Blk.lt Ka_2
  go_wp2_with fail
  refine (szEditS_any _ es _ _ (HE.out.up KB_3.out) hsmE (by omega)).mono ?_
  rintro e w2 ⟨rfl, hb_6⟩
  have z_w2 : w1.heap.size ≤ w2.heap.size := hb_6.size
  have Ka_7 := Blk.up Ka_2 hb_6
  have KB_8 := Lib.hid (Below.tr KB_3.out hb_6)
  clear hb_1 ca0_4 la_5 Ka_2 KB_3
  by_cases hneg2 : szES es X < 0
  · skip
    go_wp2_with fail
    go_ret
    exact ⟨rfl, KB_8.out⟩
  have hsz := szES_le (es := es) (left := X) (by omega)
  have hsum := szES_sum (es := es) (left := X) (by omega)
  have hs1 : ∀ e ∈ es, e.part.length ≤ 1048576 := fun e he => by have := (hsz.2 e he).1; omega
  have hs2 : ∀ e ∈ es, e.part.length ≤ 1048576 ∧ e.map.size ≤ maxLen := fun e he => ⟨hs1 e he, (hsmE e he).2⟩
  have hs3 : ∀ e ∈ es, SmallL e.part ∧ e.part.length ≤ 1048576 ∧ e.map.size ≤ maxLen := fun e he => ⟨(hsmE e he).1, hs1 e he, (hsmE e he).2⟩
  have hne : es.length ≤ 1048576 := by omega
  have hmk : markEnd (1 + 3 * xs.length) es ≤ 1099511627776 := by rw [markEnd_eq]; omega
  have hlo := aesOut_len (xs := xs) es
  have HH := Lib.hid (And.intro hs1 (And.intro hs2 hs3))
  clear hneg hle hsz hsum hs1 hs2 hs3
  have ca0_9 := Blk.cell (i := 0) (v := .slice A xs.length c) Ka_7 rfl
  have la_10 := Blk.lt Ka_7
  go_wp2_with fail
  refine (toGrammar_any _ xs _ (HG.out.up KB_8.out) hn).mono ?_
  rintro e w3 ⟨v3, rfl, own3, hb_11⟩
  have z_w3 : w2.heap.size ≤ w3.heap.size := hb_11.size
  have Ka_12 := Blk.up Ka_7 hb_11
  have KB_13 := Lib.hid (Below.tr KB_8.out hb_11)
  clear hb_6 ca0_9 la_10 Ka_7 KB_8
  have KS := Lib.hid own3
  clear own3
  have ca0_14 := Blk.cell (i := 0) (v := .slice A xs.length c) Ka_12 rfl
  have la_15 := Blk.lt Ka_12
  go_wp2_with fail
  refine (toEditS_any _ es _ (HE.out.up KB_13.out) hne HH.out.1).mono ?_
  rintro e w4 ⟨v4, rfl, own4, hb_16⟩
  have z_w4 : w3.heap.size ≤ w4.heap.size := hb_16.size
  have Ka_17 := Blk.up Ka_12 hb_16
  have KB_18 := Lib.hid (Below.tr KB_13.out hb_16)
  have KS_19 := Lib.hid (OwnRules.below KS.out hb_16)
  clear hb_11 ca0_14 la_15 Ka_12 KB_13 KS
  have KF := Lib.hid own4
  clear own4
  go_wp2_with fail
  refine (specApplyEdits_any _ _ xs es _ (OwnRules.sl KS_19.out) (OEds.sl KF.out) hsm HH.out.2.2).mono ?_
  rintro e w5 ⟨hb_20, vW, ownW, rfl⟩
  have z_w5 : w4.heap.size ≤ w5.heap.size := hb_20.size
  have Ka_21 := Blk.up Ka_17 hb_20
  have KB_22 := Lib.hid (Below.tr KB_18.out hb_20)
  have KS_23 := Lib.hid (OwnRules.below KS_19.out hb_20)
  have KF_24 := Lib.hid (OEds.up KF.out hb_20)
  clear hb_16 Ka_17 KB_18 KS_19 KF
  clear KS_23 KF_24
  obtain ⟨AW, cW, rfl, _⟩ := own_nil ownW
  have KW := Lib.hid (OwnRules.sl ownW)
  clear ownW
  have ca0_25 := Blk.cell (i := 0) (v := .slice A xs.length c) Ka_21 rfl
  have la_26 := Blk.lt Ka_21
  go_wp2_with fail
  refine (toGrammar_any _ xs _ (HG.out.up (by repeat (first | exact KB_22.out | (refine Below.alloc ?_ (by first | omega | (simp; done) | (simp; omega)) _) | (refine Below.setCell ?_ (by first | exact Nat.le_refl _ | (show _ ≤ _; omega) | (simp; done) | (simp; omega)) _) | refine below_drewN ?_ _ | refine Below.drew ?_))) hn).mono ?_
  rintro e w6 ⟨v6, rfl, own6, hb_27⟩
  have Kz_28 : Blk w6 (w5.heap.size) #[.slice AW (aesOut xs es).length cW] 31 := by have := (Below.unalloc hb_27).2; simpa [Blk] using this
  replace hb_27 := (Below.unalloc hb_27).1
  have z_w6 : w5.heap.size ≤ w6.heap.size := hb_27.size
  have Ka_29 := Blk.up Ka_21 hb_27
  have KB_30 := Lib.hid (Below.tr KB_22.out hb_27)
  have KW_31 := Lib.hid (SlS.upN KW.out (by omega) hb_27)
  clear hb_20 ca0_25 la_26 Ka_21 KB_22 KW
  have lz6 := Blk.lt Kz_28
  obtain ⟨A6, c6, rfl, _⟩ := own_nil own6
  have KX := Lib.hid (OwnR.of (ownsRow_more own6 (base' := w5.heap.size + 1) (by simp)))
  clear own6
  have ca0_32 := Blk.cell (i := 0) (v := .slice A xs.length c) Ka_29 rfl
  have la_33 := Blk.lt Ka_29
  go_wp2_with fail
  refine (toEditS_any _ es _ (HE.out.up (by repeat (first | exact KB_30.out | (refine Below.alloc ?_ (by first | omega | (simp; done) | (simp; omega)) _) | (refine Below.setCell ?_ (by first | exact Nat.le_refl _ | (show _ ≤ _; omega) | (simp; done) | (simp; omega)) _) | refine below_drewN ?_ _ | refine Below.drew ?_))) hne HH.out.1).mono ?_
  rintro e w7 ⟨v7, rfl, own7, hb_34⟩
  have Kp_35 : Blk w7 (w6.heap.size) #[.slice A6 xs.length c6] 31 := by have := (Below.unalloc hb_34).2; simpa [Blk] using this
  replace hb_34 := (Below.unalloc hb_34).1
  have z_w7 : w6.heap.size ≤ w7.heap.size := hb_34.size
  have Ka_36 := Blk.up Ka_29 hb_34
  have KB_37 := Lib.hid (Below.tr KB_30.out hb_34)
  have KW_38 := Lib.hid (SlS.upN KW_31.out (by omega) hb_34)
  have Kz_39 := Blk.up Kz_28 hb_34
  have KX_40 := Lib.hid (OwnR.up KX.out hb_34)
  clear hb_27 ca0_32 la_33 Ka_29 KB_30 KW_31 Kz_28 KX
  have KE := Lib.hid (show OEds w7 (w6.heap.size + 1) w7.heap.size v7 es by have := own7; simpa using this)
  clear own7
  have cp0_41 := Blk.cell (i := 0) (v := .slice A6 xs.length c6) Kp_35 rfl
  have lp_42 := Blk.lt Kp_35
  go_wp2_with fail
  refine (implApplyEdits_any _ _ xs es _ (OwnR.sl KX_40.out) (OEds.sl KE.out) hn HH.out.2.1 (tabB HT.out KB_37.out)).mono ?_
  rintro e w8 ⟨hb_43, vQ, own8, rfl⟩
  have z_w8 : w7.heap.size ≤ w8.heap.size := hb_43.size
  have Ka_44 := Blk.up Ka_36 hb_43
  have KB_45 := Lib.hid (Below.tr KB_37.out hb_43)
  have KW_46 := Lib.hid (SlS.upN KW_38.out (by omega) hb_43)
  have Kz_47 := Blk.up Kz_39 hb_43
  have KX_48 := Lib.hid (OwnR.up KX_40.out hb_43)
  have Kp_49 := Blk.up Kp_35 hb_43
  have KE_50 := Lib.hid (OEds.up KE.out hb_43)
  clear hb_34 cp0_41 lp_42 Ka_36 KB_37 KW_38 Kz_39 KX_40 Kp_35 KE
  obtain ⟨A8, c8, rfl, _⟩ := own_nil own8
  have KQ := Lib.hid (OwnR.of own8)
  clear own8
  have qn : (aesN xs es != aesN xs es) = false := by simp
  have qc : (aesCode xs es != aesCode xs es) = false := by simp
  have cz0_51 := Blk.cell (i := 0) (v := .slice AW (aesOut xs es).length cW) Kz_47 rfl
  have lz_52 := Blk.lt Kz_47
  go_wp2_with fail
  refine (eqGrammar_any _ _ (aesOut xs es) _ (SlS.up (OwnR.sl KQ.out) (by repeat (first | exact Below.refl _ _ | (refine Below.alloc ?_ (by first | omega | (simp; done) | (simp; omega)) _) | (refine Below.setCell ?_ (by first | exact Nat.le_refl _ | (show _ ≤ _; omega) | (simp; done) | (simp; omega)) _) | refine below_drewN ?_ _ | refine Below.drew ?_))) (SlS.le (SlS.below KW_46.out (by repeat (first | exact Below.refl _ _ | (refine Below.alloc ?_ (by first | omega | (simp; done) | (simp; omega)) _) | (refine Below.setCell ?_ (by first | exact Nat.le_refl _ | (show _ ≤ _; omega) | (simp; done) | (simp; omega)) _) | refine below_drewN ?_ _ | refine Below.drew ?_))) (by simp; omega))).mono ?_
  rintro e w9 ⟨rfl, hb_53⟩
  have Kg_54 : Blk w9 (w8.heap.size) #[.slice A8 (aesOut xs es).length c8] 31 := by have := (Below.unalloc hb_53).2; simpa [Blk] using this
  replace hb_53 := (Below.unalloc hb_53).1
  have z_w9 : w8.heap.size ≤ w9.heap.size := hb_53.size
  have Ka_55 := Blk.up Ka_44 hb_53
  have KB_56 := Lib.hid (Below.tr KB_45.out hb_53)
  have KW_57 := Lib.hid (SlS.upN KW_46.out (by omega) hb_53)
  have Kz_58 := Blk.up Kz_47 hb_53
  have KX_59 := Lib.hid (OwnR.up KX_48.out hb_53)
  have Kp_60 := Blk.up Kp_49 hb_53
  have KE_61 := Lib.hid (OEds.up KE_50.out hb_53)
  have KQ_62 := Lib.hid (OwnR.up KQ.out hb_53)
  clear hb_43 cz0_51 lz_52 Ka_44 KB_45 KW_46 Kz_47 KX_48 Kp_49 KE_50 KQ
  have cp0_63 := Blk.cell (i := 0) (v := .slice A6 xs.length c6) Kp_60 rfl
  have lp_64 := Blk.lt Kp_60
  have ca0_65 := Blk.cell (i := 0) (v := .slice A xs.length c) Ka_55 rfl
  have la_66 := Blk.lt Ka_55
  go_wp2_with fail
  have KD := keep11 Kp_60 Ka_55 (Below.drew (Below.refl w9.heap.size w9))
  have HKA := Lib.hid Ka_55
  have HKP := Lib.hid Kp_60
  have HBS := Lib.hid KB_56.out
  have HXS := Lib.hid (OwnR.sl KX_59.out)
  go_region_held3 (fun w' => Below w9.heap.size w9 w' ∧ w'.cell? ⟨w6.heap.size, 0, none⟩ = some (.slice A6 xs.length c6) ∧ w'.cell? ⟨w.heap.size, 0, none⟩ = some (.slice A xs.length c))
    (first | (with_reducible exact KD) | (with_reducible exact keep11 HKP.out HKA.out b10) | (with_reducible exact keep11 HKP.out HKA.out b11))
    (first
      | (go_at_call 12; (refine (toGrammar_any _ xs _ (HG.out.up (by repeat (first | exact HBS.out | (refine Below.alloc ?_ (by first | omega | (simp; done) | (simp; omega)) _) | (refine Below.setCell ?_ (by first | exact Nat.le_refl _ | (show _ ≤ _; omega) | (simp; done) | (simp; omega)) _) | refine below_drewN ?_ _ | refine Below.drew ?_))) hn).mono ?_); rintro r w10 ⟨v10, rfl, own10, hb10⟩; have b10 := Below.undrew hb10)
      | (go_at_call 15; (refine (eqGrammar_any _ _ xs _ (SlS.up HXS.out b10) own10.sl).mono ?_); rintro r w11 ⟨rfl, hb11⟩; have b11 := Below.tr b10 hb11))
  have hbR11 := b11
  clear KD HKA HKP HBS HXS b10 b11 hb10 hb11 own10
  have hb_67 := hbR11
  have z_w11 : w9.heap.size ≤ w11.heap.size := hb_67.size
  have Ka_68 := Blk.up Ka_55 hb_67
  have KB_69 := Lib.hid (Below.tr KB_56.out hb_67)
  have KW_70 := Lib.hid (SlS.upN KW_57.out (by omega) hb_67)
  have Kz_71 := Blk.up Kz_58 hb_67
  have KX_72 := Lib.hid (OwnR.up KX_59.out hb_67)
  have Kp_73 := Blk.up Kp_60 hb_67
  have KE_74 := Lib.hid (OEds.up KE_61.out hb_67)
  have KQ_75 := Lib.hid (OwnR.up KQ_62.out hb_67)
  have Kg_76 := Blk.up Kg_54 hb_67
  clear hb_53 cp0_63 lp_64 ca0_65 la_66 Ka_55 KB_56 KW_57 Kz_58 KX_59 Kp_60 KE_61 KQ_62 Kg_54
  go_wp2_with fail
  refine (toEditS_any _ es _ (HE.out.up KB_69.out) hne HH.out.1).mono ?_
  rintro e w12 ⟨v12, rfl, own12, hb_77⟩
  have z_w12 : w11.heap.size ≤ w12.heap.size := hb_77.size
  have Ka_78 := Blk.up Ka_68 hb_77
  have KB_79 := Lib.hid (Below.tr KB_69.out hb_77)
  have KW_80 := Lib.hid (SlS.upN KW_70.out (by omega) hb_77)
  have Kz_81 := Blk.up Kz_71 hb_77
  have KX_82 := Lib.hid (OwnR.up KX_72.out hb_77)
  have Kp_83 := Blk.up Kp_73 hb_77
  have KE_84 := Lib.hid (OEds.up KE_74.out hb_77)
  have KQ_85 := Lib.hid (OwnR.up KQ_75.out hb_77)
  have Kg_86 := Blk.up Kg_76 hb_77
  clear hb_67 Ka_68 KB_69 KW_70 Kz_71 KX_72 Kp_73 KE_74 KQ_75 Kg_76
  have KF := Lib.hid own12
  clear own12
  go_wp2_with fail
  refine (eqEditS_any _ _ es _ (OEds.sl KE_84.out) (OEds.sl KF.out)).mono ?_
  rintro e w13 ⟨rfl, hb_87⟩
  have z_w13 : w12.heap.size ≤ w13.heap.size := hb_87.size
  have Ka_88 := Blk.up Ka_78 hb_87
  have KB_89 := Lib.hid (Below.tr KB_79.out hb_87)
  have KW_90 := Lib.hid (SlS.upN KW_80.out (by omega) hb_87)
  have Kz_91 := Blk.up Kz_81 hb_87
  have KX_92 := Lib.hid (OwnR.up KX_82.out hb_87)
  have Kp_93 := Blk.up Kp_83 hb_87
  have KE_94 := Lib.hid (OEds.up KE_84.out hb_87)
  have KQ_95 := Lib.hid (OwnR.up KQ_85.out hb_87)
  have Kg_96 := Blk.up Kg_86 hb_87
  have KF_97 := Lib.hid (OEds.up KF.out hb_87)
  clear hb_77 Ka_78 KB_79 KW_80 Kz_81 KX_82 Kp_83 KE_84 KQ_85 Kg_86 KF
  clear KF_97
  have cp0_98 := Blk.cell (i := 0) (v := .slice A6 xs.length c6) Kp_93 rfl
  have lp_99 := Blk.lt Kp_93
  go_wp2_with fail
  refine (markGrammar1 _ _ xs _ (KX_92.out).1 (by omega)).mono ?_
  rintro e w14 ⟨rfl, ho_101, hg_100⟩
  have hc_102 := chg_of KX_92.out hg_100
  have z_w14 : w13.heap.size ≤ w14.heap.size := Chg.size hc_102
  have Ka_103 := Blk.chg Ka_88 hc_102 (by omega)
  have KB_104 := Lib.hid (Below.chg KB_89.out (by have := Below.size KB_89.out; omega) hc_102 (by omega))
  have KW_105 := Lib.hid (SlS.chgN KW_90.out (by omega) hc_102 (by omega))
  have Kz_106 := Blk.chg Kz_91 hc_102 (by omega)
  have KX_107 := Lib.hid (OwnR.markedC KX_92.out ho_101 hc_102)
  have Kp_108 := Blk.chg Kp_93 hc_102 (by omega)
  have KE_109 := Lib.hid (OEds.chg KE_94.out hc_102 (by omega))
  have KQ_110 := Lib.hid (OwnR.chg KQ_95.out hc_102 (by omega))
  have Kg_111 := Blk.chg Kg_96 hc_102 (by omega)
  clear hb_87 cp0_98 lp_99 Ka_88 KB_89 KW_90 Kz_91 KX_92 Kp_93 KE_94 KQ_95 Kg_96 ho_101 hg_100 hc_102
  clear Kp_108
  go_wp2_with fail
  refine (markEditS_any _ _ _ es (1 + 3 * xs.length) _ KE_109.out hmk (by omega)).mono ?_
  rintro e w15 ⟨rfl, ho_113, hg_112⟩
  have hc_114 := hg_112
  have z_w15 : w14.heap.size ≤ w15.heap.size := Chg.size hc_114
  have Ka_115 := Blk.chg Ka_103 hc_114 (by omega)
  have KB_116 := Lib.hid (Below.chg KB_104.out (by have := Below.size KB_104.out; omega) hc_114 (by omega))
  have KW_117 := Lib.hid (SlS.chgN KW_105.out (by omega) hc_114 (by omega))
  have Kz_118 := Blk.chg Kz_106 hc_114 (by omega)
  have KX_119 := Lib.hid (OwnR.chg KX_107.out hc_114 (by omega))
  have KE_120 := Lib.hid ho_113
  have KQ_121 := Lib.hid (OwnR.chg KQ_110.out hc_114 (by omega))
  have Kg_122 := Blk.chg Kg_111 hc_114 (by omega)
  clear Ka_103 KB_104 KW_105 Kz_106 KX_107 KE_109 KQ_110 Kg_111 ho_113 hg_112 hc_114
  have e0 : (decide (((markEnd (1 + 3 * xs.length) es : Nat) : Int) < 0)) = false := by simp
  have cg0_123 := Blk.cell (i := 0) (v := .slice A8 (aesOut xs es).length c8) Kg_122 rfl
  have lg_124 := Blk.lt Kg_122
  have cz0_125 := Blk.cell (i := 0) (v := .slice AW (aesOut xs es).length cW) Kz_118 rfl
  have lz_126 := Blk.lt Kz_118
  go_wp2_with fail
  refine (eqGrammar_any _ _ (aesOut xs es) _ (OwnR.sl KQ_121.out) (SlS.le KW_117.out (by omega))).mono ?_
  rintro e w16 ⟨rfl, hb_127⟩
  have z_w16 : w15.heap.size ≤ w16.heap.size := hb_127.size
  have Ka_128 := Blk.up Ka_115 hb_127
  have KB_129 := Lib.hid (Below.tr KB_116.out hb_127)
  have KW_130 := Lib.hid (SlS.upN KW_117.out (by omega) hb_127)
  have Kz_131 := Blk.up Kz_118 hb_127
  have KX_132 := Lib.hid (OwnR.up KX_119.out hb_127)
  have KE_133 := Lib.hid (OEds.up KE_120.out hb_127)
  have KQ_134 := Lib.hid (OwnR.up KQ_121.out hb_127)
  have Kg_135 := Blk.up Kg_122 hb_127
  clear cg0_123 lg_124 cz0_125 lz_126 Ka_115 KB_116 KW_117 Kz_118 KX_119 KE_120 KQ_121 Kg_122
  have cg0_136 := Blk.cell (i := 0) (v := .slice A8 (aesOut xs es).length c8) Kg_135 rfl
  have lg_137 := Blk.lt Kg_135
  go_wp2_with fail
  refine (markGrammar1 _ _ (aesOut xs es) _ (KQ_134.out).1 (by omega)).mono ?_
  rintro e w17 ⟨rfl, ho_139, hg_138⟩
  have hc_140 := chg_of KQ_134.out hg_138
  have z_w17 : w16.heap.size ≤ w17.heap.size := Chg.size hc_140
  have Ka_141 := Blk.chg Ka_128 hc_140 (by omega)
  have KB_142 := Lib.hid (Below.chg KB_129.out (by have := Below.size KB_129.out; omega) hc_140 (by omega))
  have KW_143 := Lib.hid (SlS.chgN KW_130.out (by omega) hc_140 (by omega))
  have Kz_144 := Blk.chg Kz_131 hc_140 (by omega)
  have KX_145 := Lib.hid (OwnR.chg KX_132.out hc_140 (by omega))
  have KE_146 := Lib.hid (OEds.chg KE_133.out hc_140 (by omega))
  have KQ_147 := Lib.hid (OwnR.markedC KQ_134.out ho_139 hc_140)
  have Kg_148 := Blk.chg Kg_135 hc_140 (by omega)
  clear hb_127 cg0_136 lg_137 Ka_128 KB_129 KW_130 Kz_131 KX_132 KE_133 KQ_134 Kg_135 ho_139 hg_138 hc_140
  have cg0_149 := Blk.cell (i := 0) (v := .slice A8 (aesOut xs es).length c8) Kg_148 rfl
  have lg_150 := Blk.lt Kg_148
  go_wp2_with fail
  refine (heldGrammar1 _ (aesOut xs es).length _ (OwnR.sl KQ_147.out) (by omega)).mono ?_
  rintro e w18 ⟨rfl, hb_151⟩
  have z_w18 : w17.heap.size ≤ w18.heap.size := hb_151.size
  have Ka_152 := Blk.up Ka_141 hb_151
  have KB_153 := Lib.hid (Below.tr KB_142.out hb_151)
  have KW_154 := Lib.hid (SlS.upN KW_143.out (by omega) hb_151)
  have Kz_155 := Blk.up Kz_144 hb_151
  have KX_156 := Lib.hid (OwnR.up KX_145.out hb_151)
  have KE_157 := Lib.hid (OEds.up KE_146.out hb_151)
  have KQ_158 := Lib.hid (OwnR.up KQ_147.out hb_151)
  have Kg_159 := Blk.up Kg_148 hb_151
  clear cg0_149 lg_150 Ka_141 KB_142 KW_143 Kz_144 KX_145 KE_146 KQ_147 Kg_148
  have ca0_160 := Blk.cell (i := 0) (v := .slice A xs.length c) Ka_152 rfl
  have la_161 := Blk.lt Ka_152
  go_wp2_with fail
  refine (toGrammar_any _ xs _ (HG.out.up KB_153.out) hn).mono ?_
  rintro e w19 ⟨v19, rfl, own19, hb_162⟩
  have z_w19 : w18.heap.size ≤ w19.heap.size := hb_162.size
  have Ka_163 := Blk.up Ka_152 hb_162
  have KB_164 := Lib.hid (Below.tr KB_153.out hb_162)
  have KW_165 := Lib.hid (SlS.upN KW_154.out (by omega) hb_162)
  have Kz_166 := Blk.up Kz_155 hb_162
  have KX_167 := Lib.hid (OwnR.up KX_156.out hb_162)
  have KE_168 := Lib.hid (OEds.up KE_157.out hb_162)
  have KQ_169 := Lib.hid (OwnR.up KQ_158.out hb_162)
  have Kg_170 := Blk.up Kg_159 hb_162
  clear hb_151 ca0_160 la_161 Ka_152 KB_153 KW_154 Kz_155 KX_156 KE_157 KQ_158 Kg_159
  have KS := Lib.hid own19
  clear own19
  go_wp2_with fail
  refine (toEditS_any _ es _ (HE.out.up KB_164.out) hne HH.out.1).mono ?_
  rintro e w20 ⟨v20, rfl, own20, hb_171⟩
  have z_w20 : w19.heap.size ≤ w20.heap.size := hb_171.size
  have Ka_172 := Blk.up Ka_163 hb_171
  have KB_173 := Lib.hid (Below.tr KB_164.out hb_171)
  have KW_174 := Lib.hid (SlS.upN KW_165.out (by omega) hb_171)
  have Kz_175 := Blk.up Kz_166 hb_171
  have KX_176 := Lib.hid (OwnR.up KX_167.out hb_171)
  have KE_177 := Lib.hid (OEds.up KE_168.out hb_171)
  have KQ_178 := Lib.hid (OwnR.up KQ_169.out hb_171)
  have Kg_179 := Blk.up Kg_170 hb_171
  have KS_180 := Lib.hid (OwnRules.below KS.out hb_171)
  clear hb_162 Ka_163 KB_164 KW_165 Kz_166 KX_167 KE_168 KQ_169 Kg_170 KS
  have KF := Lib.hid own20
  clear own20
  go_wp2_with fail
  refine (implApplyEdits_any _ _ xs es _ (OwnRules.sl KS_180.out) (OEds.sl KF.out) hn HH.out.2.1 (tabB HT.out KB_173.out)).mono ?_
  rintro e w21 ⟨hb_181, vH, own21, rfl⟩
  have z_w21 : w20.heap.size ≤ w21.heap.size := hb_181.size
  have Ka_182 := Blk.up Ka_172 hb_181
  have KB_183 := Lib.hid (Below.tr KB_173.out hb_181)
  have KW_184 := Lib.hid (SlS.upN KW_174.out (by omega) hb_181)
  have Kz_185 := Blk.up Kz_175 hb_181
  have KX_186 := Lib.hid (OwnR.up KX_176.out hb_181)
  have KE_187 := Lib.hid (OEds.up KE_177.out hb_181)
  have KQ_188 := Lib.hid (OwnR.up KQ_178.out hb_181)
  have Kg_189 := Blk.up Kg_179 hb_181
  have KS_190 := Lib.hid (OwnRules.below KS_180.out hb_181)
  have KF_191 := Lib.hid (OEds.up KF.out hb_181)
  clear hb_171 Ka_172 KB_173 KW_174 Kz_175 KX_176 KE_177 KQ_178 Kg_179 KS_180 KF
  clear KS_190 KF_191
  obtain ⟨A21, c21, rfl, _⟩ := own_nil own21
  have KH := Lib.hid (OwnRules.sl own21)
  clear own21
  have cz0_192 := Blk.cell (i := 0) (v := .slice AW (aesOut xs es).length cW) Kz_185 rfl
  have lz_193 := Blk.lt Kz_185
  go_wp2_with fail
  refine (eqGrammar_any _ _ (aesOut xs es) _ (SlS.le (SlS.below KH.out (by repeat (first | exact Below.refl _ _ | (refine Below.alloc ?_ (by first | omega | (simp; done) | (simp; omega)) _) | (refine Below.setCell ?_ (by first | exact Nat.le_refl _ | (show _ ≤ _; omega) | (simp; done) | (simp; omega)) _) | refine below_drewN ?_ _ | refine Below.drew ?_))) (by simp; done)) (SlS.le (SlS.below KW_184.out (by repeat (first | exact Below.refl _ _ | (refine Below.alloc ?_ (by first | omega | (simp; done) | (simp; omega)) _) | (refine Below.setCell ?_ (by first | exact Nat.le_refl _ | (show _ ≤ _; omega) | (simp; done) | (simp; omega)) _) | refine below_drewN ?_ _ | refine Below.drew ?_))) (by simp; omega))).mono ?_
  rintro e w22 ⟨rfl, hb_194⟩
  have Kh_195 : Blk w22 (w21.heap.size) #[.slice A21 (aesOut xs es).length c21] 31 := by have := (Below.unalloc hb_194).2; simpa [Blk] using this
  replace hb_194 := (Below.unalloc hb_194).1
  have z_w22 : w21.heap.size ≤ w22.heap.size := hb_194.size
  have Ka_196 := Blk.up Ka_182 hb_194
  have KB_197 := Lib.hid (Below.tr KB_183.out hb_194)
  have KW_198 := Lib.hid (SlS.upN KW_184.out (by omega) hb_194)
  have Kz_199 := Blk.up Kz_185 hb_194
  have KX_200 := Lib.hid (OwnR.up KX_186.out hb_194)
  have KE_201 := Lib.hid (OEds.up KE_187.out hb_194)
  have KQ_202 := Lib.hid (OwnR.up KQ_188.out hb_194)
  have Kg_203 := Blk.up Kg_189 hb_194
  have KH_204 := Lib.hid (SlS.upN KH.out (by omega) hb_194)
  clear hb_181 cz0_192 lz_193 Ka_182 KB_183 KW_184 Kz_185 KX_186 KE_187 KQ_188 Kg_189 KH
  have cg0_205 := Blk.cell (i := 0) (v := .slice A8 (aesOut xs es).length c8) Kg_203 rfl
  have lg_206 := Blk.lt Kg_203
  go_wp2_with fail
  refine (heldGrammar1 _ (aesOut xs es).length _ (OwnR.sl KQ_202.out) (by omega)).mono ?_
  rintro e w23 ⟨rfl, hb_207⟩
  have z_w23 : w22.heap.size ≤ w23.heap.size := hb_207.size
  have Ka_208 := Blk.up Ka_196 hb_207
  have KB_209 := Lib.hid (Below.tr KB_197.out hb_207)
  have KW_210 := Lib.hid (SlS.upN KW_198.out (by omega) hb_207)
  have Kz_211 := Blk.up Kz_199 hb_207
  have KX_212 := Lib.hid (OwnR.up KX_200.out hb_207)
  have KE_213 := Lib.hid (OEds.up KE_201.out hb_207)
  have KQ_214 := Lib.hid (OwnR.up KQ_202.out hb_207)
  have Kg_215 := Blk.up Kg_203 hb_207
  have KH_216 := Lib.hid (SlS.upN KH_204.out (by omega) hb_207)
  have Kh_217 := Blk.up Kh_195 hb_207
  clear hb_194 cg0_205 lg_206 Ka_196 KB_197 KW_198 Kz_199 KX_200 KE_201 KQ_202 Kg_203 KH_204 Kh_195
  go_wp2
  go_ret
  exact ⟨rfl, KB_209.out⟩
end Go.Proofs.YtfapnipmgmpgaaaGreatDoor

namespace Go.Proofs.YtfapnipmgmpgaaaGreatDoor
open Go.RowKit Go.WideShapes Go.ChangeShapes
section
variable {H : Type} {enc : TypeId × Value → H} {P : Program}
theorem post_of_below {f : Func} {s : ChangeSpec} {apart fresh handsOn again : Bool} {W W' : World} {args : Array Value} {v : Value} {ds gs : List (DataW H)} {before pa pv : List MemPlace}
    (hW : DataW.Whole enc P f.params.toList s.vars apart W args.toList ds gs before)
    (hres : ∀ (b : Nat) (sp : Nat → Bool) (hd : Bool), DataW.TrodAll enc P W' b sp hd f.resultTypes.toList (v.resultList f.resultTypes.size) (s.fn H (ds ++ gs)).results [])
    (hargs : ∀ sp : Nat → Bool, (∀ p ∈ before, sp p.block = true) → DataW.TrodAll enc P W' 0 sp true f.params.toList args.toList (s.fn H (ds ++ gs)).args pa)
    (hvars : ∀ sp : Nat → Bool, (∀ p ∈ before, sp p.block = true) → DataW.TrodVars enc P W' sp s.vars (s.fn H (ds ++ gs)).vars pv)
    (hps : before = pa ++ pv) (hb : Below W.heap.size W W')
    (hok : ∀ (j : Nat) (t : TypeId) (r : Value), f.resultTypes[j]? = some t → (v.resultList f.resultTypes.size)[j]? = some r → Value.okWide P W' .any 0 t r) :
    s.post enc P f apart fresh handsOn again W args v W' := by
  have hlt : ∀ p ∈ before, p.block < W.heap.size := fun p hp => hW.lt p hp
  have hold : ∀ p ∈ before, (fun b => decide (b < W.heap.size)) p.block = true := fun p hp => by simpa using hlt p hp
  refine ⟨ds, gs, before, [], pa, pv, hW, hres _ _ _, hargs _ hold, hvars _ hold, World.keptBut_mono (fun p hp => ⟨hp, ?_⟩) (hb.frame (· ∈ before)), fun _ => ?_⟩
  · rw [hps, List.mem_append] at hp
    exact Or.inr hp
  · obtain ⟨_, _, _, _, _, hz, hn⟩ := hW
    refine ⟨hok, _, _, ([] ++ pa) ++ pv, ⟨[] ++ pa, pv, trodAll_append (hargs _ (fun _ _ => rfl)) (hres _ _ _), hvars _ (fun _ _ => rfl), rfl, ?_, ?_⟩, ?_⟩
    · intro b off hp
      have hin : MemPlace.cell b off ∈ before := by rw [hps]; simpa using hp
      rw [hb.frozen (hlt _ hin)]
      exact hz b off hin
    · intro ha
      have := hn ha
      rw [hps] at this
      simpa using this
    · intro p hp _
      rw [hps]
      simpa using hp

theorem trodAll_below (hl : laidOutB P = true) {W W' : World} (hb : Below W.heap.size W W') : ∀ {ts : List TypeId} {vs : List Value} {ds : List (DataW H)} {ps : List MemPlace},
    (∀ t ∈ ts, P.readableRec t = true ∧ t < P.types.size) → DataW.TrodAll enc P W 0 (fun _ => true) true ts vs ds ps → (∀ x ∈ ps, x.block < W.heap.size) → ∀ sp : Nat → Bool, (∀ p ∈ ps, sp p.block = true) →
    DataW.TrodAll enc P W' 0 sp true ts vs ds ps
  | [], _, _, _, _, h, _, _, _ => by
    obtain ⟨rfl, rfl, rfl⟩ := trodAll_nil h
    exact trodAll_mk0
  | t :: ts, vs, ds, ps, hts, h, hlt, sp, hsp => by
    obtain ⟨v, vs', d, ds', p, q, rfl, rfl, rfl, h0, r0⟩ := trodAll_cons h
    refine trodAll_cons_mk (WideElems.Trod_stays hl (hts t (by simp)).1 (hts t (by simp)).2 h0 (fun x hx => hb.same (hlt x (by simp [hx]))) (fun x hx => hsp x (by simp [hx]))) ?_
    exact trodAll_below hl hb (fun t ht => hts t (by simp [ht])) r0 (fun x hx => hlt x (by simp [hx])) sp (fun x hx => hsp x (by simp [hx]))
end
theorem laidOut : laidOutB Tryz.prog = true := by kernel_rfl
theorem own : ownKnob Tryz.prog.godebug = none := by kernel_rfl
end Go.Proofs.YtfapnipmgmpgaaaGreatDoor

namespace Go.Proofs.YtfapnipmgmpgaaaGreatDoor
open Go.RowKit Go.ChangeShapes Go.WideShapes Go.Deep
section
variable {H : Type} {enc : TypeId × Value → H} {P : Program} {w : World} {base : Nat} {spare : Nat → Bool} {held : Bool}
theorem open_slice_fields {t e : TypeId} {fs : Array Field} {fuel : Nat} {cs : List Value} {x : DataW H × List MemPlace} (ht : P.underlying t = some (.slice e)) (he : P.underlying e = some (.struct fs))
    (hone : oneCellFields P fs = true) (hC : P.cellsOf e = fs.size) (h : DataW.trod enc P w base spare held fuel t cs = some x) :
    (cs = [.slice none 0 0] ∧ x = (.nil, [])) ∨
    ∃ (a : Addr) (len cap m : Nat) (D : Nat → DataW H) (Pl : Nat → List MemPlace), cs = [.slice (some a) len cap] ∧ base ≤ a.block ∧ len ≤ cap ∧ cap ≤ maxLen ∧ m = (if spare a.block then cap else len) ∧
      x = (.slice ((List.range len).map D) ((List.range (m - len)).map fun j => D (len + j)), MemPlace.row a (m * fs.size) ++ (List.range m).flatMap Pl) ∧
      ∀ i, i < m → ∃ (ys : List (DataW H × List MemPlace)) (n : Nat), D i = .agg (ys.map (·.1)) ∧ Pl i = ys.flatMap (·.2) ∧ ys.length = fs.size ∧
        ∀ (j : Nat) (f : Field), fs[j]? = some f → ∃ (v : Value) (y : DataW H × List MemPlace), w.cell? (a.add (i * fs.size + j)) = some v ∧ ys[j]? = some y ∧ DataW.trod enc P w base spare held n f.type [v] = some y := by
  rcases open_slice ht h with h0 | ⟨a, len, cap, m, n, D, Pl, hcs, hb, hl, hm, hmm, hx, hi⟩
  · exact .inl h0
  · refine .inr ⟨a, len, cap, m, D, Pl, hcs, hb, hl, hm, hmm, by rw [hC] at hx; exact hx, fun i him => ?_⟩
    obtain ⟨cs', hc, ht'⟩ := hi i him
    rw [hC] at hc
    obtain ⟨ys, n', hn', hy, hlen, hyl, hf⟩ := DataW.trod_struct he ht'
    obtain ⟨_, hcl, hat⟩ := World.cells?_some hc
    simp only [Prod.mk.injEq] at hy
    refine ⟨ys, n', hy.1, hy.2, hyl, fun j f hj => ?_⟩
    obtain ⟨ho, hk⟩ := hone_of hone j f hj
    have hjl : j < fs.size := (Array.getElem?_eq_some_iff.1 hj).1
    have hcell := hat j hjl
    have hv : cs'[j]? = some (cs'[j]'(by omega)) := List.getElem?_eq_getElem (by omega)
    have h1 := hf j f hj
    rw [ho, hk] at h1
    have hone' : (cs'.drop j).take 1 = [cs'[j]'(by omega)] := by
      rw [List.drop_eq_getElem_cons (by omega)]
      rfl
    rw [hone'] at h1
    have hys : ys[j]? = some (ys[j]'(by omega)) := List.getElem?_eq_getElem (by omega)
    refine ⟨_, _, ?_, hys, h1.trans hys⟩
    rw [← Go.Deep.add_add, hcell, hv]

theorem add_plain (b o n : Nat) : (⟨b, o, none⟩ : Addr).add n = ⟨b, o + n, none⟩ := by unfold Addr.add; split <;> simp_all
theorem spot_none {a : Addr} {v : Value} (h : w.cell? a = some v) : a = ⟨a.block, a.off, none⟩ ∧ a.block < w.heap.size := by
  have hl := World.block_lt_of_cell? w a h
  refine ⟨?_, hl⟩
  obtain ⟨b, o, s⟩ := a
  unfold World.cell? at h
  cases s with
  | none => rfl
  | some s => split at h <;> simp at h
theorem len_map_range {α : Type} (f : Nat → α) (n : Nat) : ((List.range n).map f).length = n := by simp

theorem open_rules {t e : TypeId} {f0 f1 f2 : Field} {fuel : Nat} {v : Value} {x : DataW H × List MemPlace} (ht : P.underlying t = some (.slice e)) (he : P.underlying e = some (.struct #[f0, f1, f2]))
    (hone : oneCellFields P #[f0, f1, f2] = true) (hC : P.cellsOf e = 3) (h0 : P.underlying f0.type = some .string) (h1 : P.underlying f1.type = some (.int .i64)) (h2 : P.underlying f2.type = some (.int .i64))
    (h : DataW.trod enc P w base spare held fuel t [v] = some x) : ∃ xs : List GRule, Sl RuleE w w.heap.size v xs ∧ SmallL xs := by
  rcases open_slice_fields ht he hone hC h with ⟨hcs, _⟩ | ⟨a, len, cap, m, D, Pl, hcs, _, hl, hm, hmm, _, hf⟩
  · simp at hcs
    subst hcs
    exact ⟨[], SlS.nil _ _, fun r hr => by simp at hr⟩
  · simp at hcs
    subst hcs
    have hmle : len ≤ m := by rw [hmm]; split <;> omega
    have H : ∀ i, ∃ r : GRule, i < len → (w.cell? (a.add (i * 3)) = some (.string r.letter) ∧ w.cell? (a.add (i * 3 + 1)) = some (.int .i64 r.left) ∧ w.cell? (a.add (i * 3 + 2)) = some (.int .i64 r.right) ∧ r.letter.size ≤ maxLen) := by
      intro i
      by_cases hi : i < len
      · obtain ⟨ys, n, _, _, _, hx⟩ := hf i (by omega)
        obtain ⟨v0, y0, g0, _, t0⟩ := hx 0 f0 rfl
        obtain ⟨v1, y1, g1, _, t1⟩ := hx 1 f1 rfl
        obtain ⟨v2, y2, g2, _, t2⟩ := hx 2 f2 rfl
        obtain ⟨s, e0, _, hs⟩ := DataW.trod_string h0 t0
        obtain ⟨p, e1, _, _⟩ := DataW.trod_int h1 t1
        obtain ⟨q, e2, _, _⟩ := DataW.trod_int h2 t2
        simp at e0 e1 e2
        subst e0 e1 e2
        exact ⟨⟨s, p, q⟩, fun _ => ⟨by simpa using g0, g1, g2, hs⟩⟩
      · exact ⟨⟨⟨#[]⟩, 0, 0⟩, fun h => absurd h hi⟩
    obtain ⟨F, hF⟩ : ∃ F : Nat → GRule, ∀ i, i < len → (w.cell? (a.add (i * 3)) = some (.string (F i).letter) ∧ w.cell? (a.add (i * 3 + 1)) = some (.int .i64 (F i).left) ∧ w.cell? (a.add (i * 3 + 2)) = some (.int .i64 (F i).right) ∧ (F i).letter.size ≤ maxLen) :=
      ⟨fun i => Classical.choose (H i), fun i hi => Classical.choose_spec (H i) hi⟩
    clear H
    refine ⟨(List.range len).map F, ⟨some a, cap, by rw [len_map_range], by rw [len_map_range]; exact hl, hm, fun hn => ?_⟩, ?_⟩
    · rw [len_map_range] at hn
      obtain ⟨g0, _⟩ := hF 0 hn
      have ha : a.add (0 * 3) = a := by simp [Addr.add]
      rw [ha] at g0
      obtain ⟨hsp, hlt⟩ := spot_none g0
      refine ⟨a.block, a.off, by rw [← hsp], hlt, fun k r hr => ⟨r.cells, rfl, fun j u hu => ?_⟩⟩
      have hk : k < len := by
        have := (List.getElem?_eq_some_iff.1 hr).1
        rw [len_map_range] at this; exact this
      have er : F k = r := by
        rw [List.getElem?_map, List.getElem?_range hk] at hr; simpa using hr
      obtain ⟨g0, g1, g2, _⟩ := hF k hk
      rw [er, hsp, add_plain] at g0 g1 g2
      match j, hu with
      | 0, hu => simp [GRule.cells] at hu; subst hu; exact g0
      | 1, hu => simp [GRule.cells] at hu; subst hu; exact g1
      | 2, hu => simp [GRule.cells] at hu; subst hu; exact g2
      | j + 3, hu => simp [GRule.cells] at hu
    · intro r hr
      rw [List.mem_map] at hr
      obtain ⟨k, hk, rfl⟩ := hr
      have := (hF k (by simpa using hk)).2.2.2
      unfold maxLen at this
      exact this

theorem open_struct1 {t : TypeId} {f : Field} {v : Value} {d : DataW H} {p : List MemPlace} {r : Reach} {b0 : Nat} (hs : P.underlying t = some (.struct #[f])) (hone : oneCellFields P #[f] = true) (hC : P.cellsOf t = 1)
    (hv : Value.okWide P w r b0 t v) (h : DataW.Trod enc P w base spare held t v d p) : ∃ v0 n x, v = .agg #[v0] ∧ DataW.trod enc P w base spare held n f.type [v0] = some x := by
  obtain ⟨cs, rfl, hsz⟩ := okWide_struct hs hv
  obtain ⟨l⟩ := cs
  match l, hsz.trans hC with
  | [c0], _ =>
    obtain ⟨fuel, hf⟩ := h
    obtain ⟨xs, n, _, _, _, hlen, hg⟩ := DataW.trod_struct hs hf
    obtain ⟨o0, k0⟩ := hone_of hone 0 f rfl
    match xs, hlen with
    | [y0], _ => exact ⟨c0, n, y0, rfl, by simpa [Value.cells, o0, k0] using hg 0 f rfl⟩
end
set_option maxRecDepth 100000 in
theorem open_gram {H : Type} {enc : TypeId × Value → H} {w : World} {base : Nat} {spare : Nat → Bool} {held : Bool} {r : Reach} {b0 : Nat} {v : Value} {d : DataW H} {p : List MemPlace}
    (hv : Value.okWide Tryz.prog w r b0 24 v) (h : DataW.Trod enc Tryz.prog w base spare held 24 v d p) : ∃ v0 xs, v = .agg #[v0] ∧ Sl RuleE w w.heap.size v0 xs ∧ SmallL xs := by
  obtain ⟨v0, n, x, rfl, hx⟩ := open_struct1 Tryz.underlying24 (by kernel_rfl) (by kernel_rfl) hv h
  obtain ⟨xs, h1, h2⟩ := open_rules Tryz.underlying22 Tryz.underlying111 (by kernel_rfl) (by kernel_rfl) Tryz.underlying9 Tryz.underlying2 Tryz.underlying2 hx
  exact ⟨v0, xs, rfl, h1, h2⟩
end Go.Proofs.YtfapnipmgmpgaaaGreatDoor

namespace Go.Proofs.YtfapnipmgmpgaaaGreatDoor
open Go.RowKit Go.ChangeShapes Go.WideShapes Go.Deep

/-- Whatever reads at type t lies as E says, and has the property Q. -/
def Opens {α : Type} (P : Program) (E : Enc α) (Q : α → Prop) (t : TypeId) : Prop :=
  ∀ {H : Type} (enc : TypeId × Value → H) (w : World) (base : Nat) (spare : Nat → Bool) (held : Bool) (fuel : Nat) (cs : List Value) (x : DataW H × List MemPlace), DataW.trod enc P w base spare held fuel t cs = some x → ∃ a, E.cells w (· < w.heap.size) a cs ∧ Q a

theorem opens_int {P : Program} {t : TypeId} (ht : P.underlying t = some (.int .i64)) : Opens P IntE (fun _ => True) t := by
  intro H enc w base spare held fuel cs x h
  obtain ⟨p, e1, _, _⟩ := DataW.trod_int ht h
  exact ⟨p, e1, trivial⟩
theorem opens_string {P : Program} {t : TypeId} (ht : P.underlying t = some .string) : Opens P StrE (fun s => s.size ≤ maxLen) t := by
  intro H enc w base spare held fuel cs x h
  obtain ⟨s, e0, _, hs⟩ := DataW.trod_string ht h
  exact ⟨s, e0, hs⟩
theorem opens_rule {P : Program} {t : TypeId} {f0 f1 f2 : Field} (he : P.underlying t = some (.struct #[f0, f1, f2])) (hone : oneCellFields P #[f0, f1, f2] = true) (hC : P.cellsOf t = 3)
    (h0 : P.underlying f0.type = some .string) (h1 : P.underlying f1.type = some (.int .i64)) (h2 : P.underlying f2.type = some (.int .i64)) : Opens P RuleE (fun r => r.letter.size ≤ maxLen) t := by
  intro H enc w base spare held fuel cs x h
  obtain ⟨ys, n', hn', hy, hlen, hyl, hf⟩ := DataW.trod_struct he h
  obtain ⟨o0, k0⟩ := hone_of hone 0 f0 rfl
  obtain ⟨o1, k1⟩ := hone_of hone 1 f1 rfl
  obtain ⟨o2, k2⟩ := hone_of hone 2 f2 rfl
  have g0 := hf 0 f0 rfl
  have g1 := hf 1 f1 rfl
  have g2 := hf 2 f2 rfl
  rw [o0, k0] at g0
  rw [o1, k1] at g1
  rw [o2, k2] at g2
  have hc3 : cs.length = 3 := hlen.trans hC
  match ys, hyl, cs, hc3 with
  | [y0, y1, y2], _, [c0, c1, c2], _ =>
    simp at g0 g1 g2
    obtain ⟨s, e0, _, hs⟩ := DataW.trod_string h0 g0
    obtain ⟨p, e1, _, _⟩ := DataW.trod_int h1 g1
    obtain ⟨q, e2, _, _⟩ := DataW.trod_int h2 g2
    refine ⟨⟨s, p, q⟩, ?_, hs⟩
    simp at e0 e1 e2
    subst e0 e1 e2
    rfl
instance : Inhabited GRule := ⟨⟨⟨#[]⟩, 0, 0⟩⟩
theorem opens_slice {α : Type} {P : Program} {E : Enc α} {Q : α → Prop} {t e : TypeId} [Inhabited α] (hE : Opens P E Q e) (ht : P.underlying t = some (.slice e)) (hC : P.cellsOf e = E.size) : Opens P (SliceE E) (fun xs => ∀ x ∈ xs, Q x) t := by
  intro H enc w base spare held fuel cs x h
  rcases open_slice ht h with ⟨h0, _⟩ | ⟨a, len, cap, m, n, D, Pl, hcs, hb, hl, hm, hmm, hx, hi⟩
  · exact ⟨[], ⟨_, h0, SlS.nil _ _⟩, fun x hx => by simp at hx⟩
  · have hmle : len ≤ m := by rw [hmm]; split <;> omega
    have Hh : ∀ i, i < len → ∃ r : α, ∃ cs', E.cells w (· < w.heap.size) r cs' ∧ (∀ j u, cs'[j]? = some u → w.cell? (a.add (i * E.size + j)) = some u) ∧ Q r := by
      intro i hil
      obtain ⟨cs', hc, ht'⟩ := hi i (by omega)
      obtain ⟨r, hr, hq⟩ := hE enc w base spare held n cs' _ ht'
      obtain ⟨_, hcl, hat⟩ := World.cells?_some hc
      refine ⟨r, cs', hr, fun j u hu => ?_, hq⟩
      have hj : j < cs'.length := (List.getElem?_eq_some_iff.1 hu).1
      rw [← Go.Deep.add_add, ← hC, hat j (by omega), hu]
    obtain ⟨F, hF⟩ := choose_lt Hh
    clear Hh
    refine ⟨(List.range len).map F, ⟨.slice (some a) len cap, hcs, some a, cap, by rw [len_map_range], by rw [len_map_range]; exact hl, hm, fun hn => ?_⟩, ?_⟩
    · rw [len_map_range] at hn
      obtain ⟨cs', h1, h2, _⟩ := hF 0 hn
      have hlen := E.len h1
      have hpos := E.pos
      have g0 := h2 0 cs'[0] (List.getElem?_eq_getElem (by omega))
      have ha : a.add (0 * E.size + 0) = a := by simp [Addr.add]
      rw [ha] at g0
      obtain ⟨hsp, hlt⟩ := spot_none g0
      refine ⟨a.block, a.off, by rw [← hsp], hlt, fun k r hr => ?_⟩
      have hk : k < len := by
        have := (List.getElem?_eq_some_iff.1 hr).1
        rw [len_map_range] at this; exact this
      have er : F k = r := by
        rw [List.getElem?_map, List.getElem?_range hk] at hr; simpa using hr
      obtain ⟨cs'', h3, h4, _⟩ := hF k hk
      rw [er] at h3
      refine ⟨cs'', h3, fun j u hu => ?_⟩
      have := h4 j u hu
      rw [hsp, add_plain] at this
      exact this
    · intro r hr
      rw [List.mem_map] at hr
      obtain ⟨k, hk, rfl⟩ := hr
      exact (hF k (by simpa using hk)).choose_spec.2.2
theorem opens_struct1 {α : Type} {P : Program} {E : Enc α} {Q : α → Prop} {t : TypeId} {f : Field} (hs : P.underlying t = some (.struct #[f])) (hone : oneCellFields P #[f] = true) (hC : P.cellsOf t = 1) (hE : Opens P E Q f.type) : Opens P E Q t := by
  intro H enc w base spare held fuel cs x h
  obtain ⟨ys, n', hn', hy, hlen, hyl, hf⟩ := DataW.trod_struct hs h
  obtain ⟨o0, k0⟩ := hone_of hone 0 f rfl
  have g0 := hf 0 f rfl
  rw [o0, k0] at g0
  have hc1 : cs.length = 1 := hlen.trans hC
  match ys, hyl, cs, hc1 with
  | [y0], _, [c0], _ =>
    simp at g0
    exact hE enc w base spare held _ _ _ g0
theorem SmallL_of {xs : List GRule} (h : ∀ r ∈ xs, r.letter.size ≤ maxLen) : SmallL xs := fun r hr => by have := h r hr; unfold maxLen at this; exact this
set_option maxRecDepth 100000 in
theorem opensRule : Opens Tryz.prog RuleE (fun r => r.letter.size ≤ maxLen) 111 := opens_rule Tryz.underlying111 (by kernel_rfl) (by kernel_rfl) Tryz.underlying9 Tryz.underlying2 Tryz.underlying2
theorem opensRuleS : Opens Tryz.prog (SliceE RuleE) (fun xs => ∀ r ∈ xs, r.letter.size ≤ maxLen) 22 := opens_slice opensRule Tryz.underlying22 (by kernel_rfl)
set_option maxRecDepth 100000 in
theorem opensGram : Opens Tryz.prog (SliceE RuleE) (fun xs => ∀ r ∈ xs, r.letter.size ≤ maxLen) 24 := opens_struct1 Tryz.underlying24 (by kernel_rfl) (by kernel_rfl) opensRuleS
end Go.Proofs.YtfapnipmgmpgaaaGreatDoor

namespace Go.Proofs.YtfapnipmgmpgaaaGreatDoor
open Go.ChangeShapes Go.WideShapes Go.ChangeAt Go.RowKit Go.Joins
open Go.ChangeMaps (open_string)
theorem opensInts : Opens Tryz.prog IntE (fun _ => True) 2 := opens_int Tryz.underlying2
theorem opensIntS : Opens Tryz.prog (SliceE IntE) (fun xs => ∀ x ∈ xs, True) 112 := opens_slice opensInts Tryz.underlying112 (by kernel_rfl)
end Go.Proofs.YtfapnipmgmpgaaaGreatDoor

namespace Go.Proofs.YtfapnipmgmpgaaaGreatDoor
open Go.ChangeShapes Go.WideShapes Go.ChangeAt Go.RowKit Go.Joins Go.Deep
open Go.ChangeMaps (open_string)
section
variable {H : Type} {enc : TypeId × Value → H} {P : Program} {w : World} {base : Nat} {spare : Nat → Bool} {held : Bool}
theorem open_struct6 {t : TypeId} {f0 f1 f2 f3 f4 f5 : Field} {v : Value} {d : DataW H} {p : List MemPlace} {r : Reach} {b0 : Nat} (hs : P.underlying t = some (.struct #[f0, f1, f2, f3, f4, f5])) (hone : oneCellFields P #[f0, f1, f2, f3, f4, f5] = true) (hC : P.cellsOf t = 6)
    (hv : Value.okWide P w r b0 t v) (h : DataW.Trod enc P w base spare held t v d p) : ∃ v0 v1 v2 v3 v4 v5 n x0 x1 x2 x3 x4 x5, v = .agg #[v0, v1, v2, v3, v4, v5] ∧ DataW.trod enc P w base spare held n f0.type [v0] = some x0 ∧ DataW.trod enc P w base spare held n f1.type [v1] = some x1 ∧
      DataW.trod enc P w base spare held n f2.type [v2] = some x2 ∧ DataW.trod enc P w base spare held n f3.type [v3] = some x3 ∧ DataW.trod enc P w base spare held n f4.type [v4] = some x4 ∧ DataW.trod enc P w base spare held n f5.type [v5] = some x5 := by
  obtain ⟨cs, rfl, hsz⟩ := okWide_struct hs hv
  obtain ⟨l⟩ := cs
  match l, hsz.trans hC with
  | [c0, c1, c2, c3, c4, c5], _ =>
    obtain ⟨fuel, hf⟩ := h
    obtain ⟨xs, n, _, _, _, hlen, hg⟩ := DataW.trod_struct hs hf
    obtain ⟨o0, k0⟩ := hone_of hone 0 f0 rfl
    obtain ⟨o1, k1⟩ := hone_of hone 1 f1 rfl
    obtain ⟨o2, k2⟩ := hone_of hone 2 f2 rfl
    obtain ⟨o3, k3⟩ := hone_of hone 3 f3 rfl
    obtain ⟨o4, k4⟩ := hone_of hone 4 f4 rfl
    obtain ⟨o5, k5⟩ := hone_of hone 5 f5 rfl
    match xs, hlen with
    | [y0, y1, y2, y3, y4, y5], _ => exact ⟨c0, c1, c2, c3, c4, c5, n, y0, y1, y2, y3, y4, y5, rfl, by simpa [Value.cells, o0, k0] using hg 0 f0 rfl, by simpa [Value.cells, o1, k1] using hg 1 f1 rfl, by simpa [Value.cells, o2, k2] using hg 2 f2 rfl, by simpa [Value.cells, o3, k3] using hg 3 f3 rfl, by simpa [Value.cells, o4, k4] using hg 4 f4 rfl, by simpa [Value.cells, o5, k5] using hg 5 f5 rfl⟩
end
set_option maxRecDepth 100000 in
theorem open_edit {H : Type} {enc : TypeId × Value → H} {w : World} {base : Nat} {spare : Nat → Bool} {held : Bool} {r : Reach} {b0 : Nat} {v : Value} {d : DataW H} {p : List MemPlace}
    (hv : Value.okWide Tryz.prog w r b0 26 v) (h : DataW.Trod enc Tryz.prog w base spare held 26 v d p) : ∃ e, EditV w w.heap.size v e ∧ SmallL e.part ∧ e.map.size ≤ maxLen := by
  obtain ⟨v0, v1, v2, v3, v4, v5, n, x0, x1, x2, x3, x4, x5, rfl, h0, h1, h2, h3, h4, h5⟩ := open_struct6 Tryz.underlying26 (by kernel_rfl) (by kernel_rfl) hv h
  obtain ⟨k, e0, _, _⟩ := DataW.trod_int Tryz.underlying2 h0
  obtain ⟨i, e1, _, _⟩ := DataW.trod_int Tryz.underlying2 h1
  obtain ⟨j, e2, _, _⟩ := DataW.trod_int Tryz.underlying2 h2
  obtain ⟨kk, e3, _, _⟩ := DataW.trod_int Tryz.underlying2 h3
  obtain ⟨xs, ⟨v4', e4, hsl⟩, hsm⟩ := opensGram enc w base spare held _ _ _ h4
  obtain ⟨s, e5, _, hs⟩ := DataW.trod_string Tryz.underlying9 h5
  simp at e0 e1 e2 e3 e4 e5
  subst e0 e1 e2 e3 e4 e5
  exact ⟨⟨k, i, j, kk, xs, s⟩, ⟨_, rfl, hsl⟩, SmallL_of hsm, hs⟩
end Go.Proofs.YtfapnipmgmpgaaaGreatDoor

namespace Go.Proofs.YtfapnipmgmpgaaaGreatDoor
open Go.ChangeShapes Go.WideShapes Go.ChangeAt Go.RowKit Go.Joins Go.Deep
open Go.ChangeMaps (open_string)

instance : Inhabited GEdit := ⟨⟨0, 0, 0, 0, [], ⟨#[]⟩⟩⟩
theorem opens_edit {P : Program} {t : TypeId} {f0 f1 f2 f3 f4 f5 : Field} (he : P.underlying t = some (.struct #[f0, f1, f2, f3, f4, f5])) (hone : oneCellFields P #[f0, f1, f2, f3, f4, f5] = true) (hC : P.cellsOf t = 6)
    (h0 : P.underlying f0.type = some (.int .i64)) (h1 : P.underlying f1.type = some (.int .i64)) (h2 : P.underlying f2.type = some (.int .i64)) (h3 : P.underlying f3.type = some (.int .i64))
    (h4 : Opens P (SliceE RuleE) (fun xs => ∀ r ∈ xs, r.letter.size ≤ maxLen) f4.type) (h5 : P.underlying f5.type = some .string) : Opens P EditE (fun e => SmallL e.part ∧ e.map.size ≤ maxLen) t := by
  intro H enc w base spare held fuel cs x h
  obtain ⟨ys, n', hn', hy, hlen, hyl, hf⟩ := DataW.trod_struct he h
  obtain ⟨o0, k0⟩ := hone_of hone 0 f0 rfl
  obtain ⟨o1, k1⟩ := hone_of hone 1 f1 rfl
  obtain ⟨o2, k2⟩ := hone_of hone 2 f2 rfl
  obtain ⟨o3, k3⟩ := hone_of hone 3 f3 rfl
  obtain ⟨o4, k4⟩ := hone_of hone 4 f4 rfl
  obtain ⟨o5, k5⟩ := hone_of hone 5 f5 rfl
  have g0 := hf 0 f0 rfl
  have g1 := hf 1 f1 rfl
  have g2 := hf 2 f2 rfl
  have g3 := hf 3 f3 rfl
  have g4 := hf 4 f4 rfl
  have g5 := hf 5 f5 rfl
  rw [o0, k0] at g0
  rw [o1, k1] at g1
  rw [o2, k2] at g2
  rw [o3, k3] at g3
  rw [o4, k4] at g4
  rw [o5, k5] at g5
  have hc6 : cs.length = 6 := hlen.trans hC
  match ys, hyl, cs, hc6 with
  | [y0, y1, y2, y3, y4, y5], _, [c0, c1, c2, c3, c4, c5], _ =>
    simp at g0 g1 g2 g3 g4 g5
    obtain ⟨k, e0, _, _⟩ := DataW.trod_int h0 g0
    obtain ⟨i, e1, _, _⟩ := DataW.trod_int h1 g1
    obtain ⟨j, e2, _, _⟩ := DataW.trod_int h2 g2
    obtain ⟨kk, e3, _, _⟩ := DataW.trod_int h3 g3
    obtain ⟨xs, ⟨v4, e4, hsl⟩, hsm⟩ := h4 enc w base spare held _ _ _ g4
    obtain ⟨s, e5, _, hs⟩ := DataW.trod_string h5 g5
    simp at e0 e1 e2 e3 e4 e5
    subst e0 e1 e2 e3 e4 e5
    exact ⟨⟨k, i, j, kk, xs, s⟩, ⟨_, rfl, hsl⟩, SmallL_of hsm, hs⟩
set_option maxRecDepth 100000 in
theorem opensEdit : Opens Tryz.prog EditE (fun e => SmallL e.part ∧ e.map.size ≤ maxLen) 26 := opens_edit Tryz.underlying26 (by kernel_rfl) (by kernel_rfl) Tryz.underlying2 Tryz.underlying2 Tryz.underlying2 Tryz.underlying2 opensGram Tryz.underlying9
set_option maxRecDepth 100000 in
theorem opensEditS : Opens Tryz.prog (SliceE EditE) (fun es => ∀ e ∈ es, SmallL e.part ∧ e.map.size ≤ maxLen) 43 := opens_slice opensEdit Tryz.underlying43 (by kernel_rfl)
set_option maxRecDepth 100000 in
theorem open_edits {H : Type} {enc : TypeId × Value → H} {w : World} {base : Nat} {spare : Nat → Bool} {held : Bool} {r : Reach} {b0 : Nat} {v : Value} {d : DataW H} {p : List MemPlace}
    (hv : Value.okWide Tryz.prog w r b0 43 v) (h : DataW.Trod enc Tryz.prog w base spare held 43 v d p) : ∃ es, Sl EditE w w.heap.size v es ∧ ∀ e ∈ es, SmallL e.part ∧ e.map.size ≤ maxLen := by
  obtain ⟨a, len, cap, rfl⟩ := okWide_slice Tryz.underlying43 hv
  obtain ⟨fuel, hf⟩ := h
  obtain ⟨es, ⟨u, e1, hsl⟩, hsm⟩ := opensEditS enc w base spare held fuel [.slice a len cap] _ (by simpa [Value.cells] using hf)
  simp at e1
  subst e1
  exact ⟨es, hsl, hsm⟩
end Go.Proofs.YtfapnipmgmpgaaaGreatDoor

