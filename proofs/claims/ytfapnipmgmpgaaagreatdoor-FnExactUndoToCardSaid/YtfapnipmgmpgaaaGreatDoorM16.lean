import Derived.Test.YtfapnipmgmpgaaaGreatDoorM3
import Derived.Test.YtfapnipmgmpgaaaGreatDoorM8
import Derived.Test.YtfapnipmgmpgaaaGreatDoorM9
import Derived.Test.YtfapnipmgmpgaaaGreatDoorM11
import Derived.Test.YtfapnipmgmpgaaaGreatDoorM14
import Derived.Test.YtfapnipmgmpgaaaGreatDoorM15
import Derived.Test.YtfapnipmgmpgaaaGreatDoorRows
import Derived.WalkKit
import Derived.ProofKit
import Derived.Below
import Derived.ChangeSame
import Derived.Lib.SmallJoins
import Derived.Carry
import Derived.WideKeyArgs
import Derived.OpenShut
import Derived.Test.YtfapnipmgmpgaaaGreatDoorM1
import Derived.Deep.Slices
import Derived.Deep.Fields
namespace Go.Proofs.YtfapnipmgmpgaaaGreatDoor
open Go.RowKit

theorem undBack_small {gs : List (List GRule)} {es : List GEdit} {n : Nat} {l : List GEdit} (h : undBack gs es n = some l) : l.length ≤ 2 * n ∧ ∀ x ∈ l, x.part.length ≤ 400 := by
  induction n generalizing l with
  | zero => simp [undBack] at h; subst h; simp
  | succ n ih =>
    rw [undBack_succ] at h
    cases hb : undBack gs es n with
    | none => rw [hb] at h; cases h
    | some a =>
      rw [hb] at h
      unfold undBackStep at h
      simp only [Option.bind_some] at h
      split at h
      · cases h
        obtain ⟨h1, h2⟩ := ih hb
        obtain ⟨h3, h4⟩ := inv_small (gs.getD (es.length - 1 - n) []) (es.getD (es.length - 1 - n) noE)
        refine ⟨by rw [List.length_append]; omega, fun x hx => ?_⟩
        rcases List.mem_append.1 hx with hx | hx
        · exact h2 x hx
        · exact h4 x hx
      · cases h

theorem undOut_small (xs : List GRule) (es : List GEdit) (count : Int) : (undOut xs es count).length ≤ 120 ∧ ∀ x ∈ undOut xs es count, x.part.length ≤ 400 := by
  unfold undOut
  split
  · rename_i h
    have hl : es.length ≤ 60 := by
      unfold undCode at h
      split at h
      · split at h
        · cases h
        · omega
      · cases h
    cases hs : undS xs es count with
    | none => simp
    | some o =>
      cases o with
      | none => simp
      | some l =>
        unfold undS at hs
        cases hf : undFold xs es with
        | none => rw [hf] at hs; cases hs
        | some gs =>
          rw [hf] at hs
          simp at hs
          obtain ⟨h1, h2⟩ := undBack_small hs
          simp
          exact ⟨by omega, h2⟩
  · simp
set_option maxRecDepth 100000 in
set_option maxHeartbeats 4000000 in
theorem lawUndoTo_any (v v' : Value) (xs : List GRule) (es : List GEdit) (count : Int) (w : World) (h : Sl RuleE w w.heap.size v xs) (hsm : SmallL xs) (hE : Sl EditE w w.heap.size v' es) (hsmE : ∀ e ∈ es, SmallL e.part ∧ e.map.size ≤ maxLen) (htab : Lib.TabIs Tryz.prog w "math/bits.deBruijn64tab" .u8 deB64) :
    Calls Tryz.prog 7 #[.agg #[v], v', .int .i64 count] w fun r w' => r = .returned (.bool true) ∧ Below w.heap.size w w' := by
  have HG := Lib.hid h
  have HE := Lib.hid hE
  have HT := Lib.hid htab
  obtain ⟨A, c, rfl, _⟩ := h
  obtain ⟨AE, cE, rfl, _⟩ := hE
  clear htab
  go_enter Tryz.func7, Tryz.ntmps7
  go_wp2_with fail
  refine (szGrammar_any _ xs _ _ (HG.out.up (by repeat (first | exact Below.refl _ _ | (refine Below.alloc ?_ (by first | omega | (simp; done) | (simp; omega)) _) | (refine Below.setCell ?_ (by first | exact Nat.le_refl _ | (show _ ≤ _; omega) | (simp; done) | (simp; omega)) _) | refine below_drewN ?_ _ | refine Below.drew ?_))) hsm (by omega)).mono ?_
  rintro e w1 ⟨rfl, hb_1⟩
  have Ka_2 : Blk w1 (w.heap.size) #[.slice A xs.length c] 24 := by have := (Below.unalloc hb_1).2; simpa [Blk] using this
  replace hb_1 := (Below.unalloc hb_1).1
  have z_w1 : w.heap.size ≤ w1.heap.size := hb_1.size
  have KB_3 := Lib.hid hb_1
  have lx1 := Blk.lt Ka_2
  by_cases hneg : szRs xs 1048576 < 0
  · rw [if_pos hneg]
    clear hneg
    go_wp2_with fail
    go_ret
    exact ⟨rfl, KB_3.out⟩
  rw [if_neg hneg]
  obtain ⟨hle, hlen⟩ := szRs_le xs 1048576 (by omega)
  have hn : xs.length ≤ 1048576 := by omega
  obtain ⟨X, hX⟩ : ∃ X, szRs xs 1048576 = X := ⟨_, rfl⟩
  rw [hX] at hneg hle ⊢
  clear hX hlen
  have ca0_4 := Blk.cell (i := 0) (v := .slice A xs.length c) Ka_2 rfl
  have la_5 := Blk.lt Ka_2
  go_wp2_with fail
  refine (szEditS_any _ es _ _ (HE.out.up KB_3.out) hsmE (by omega)).mono ?_
  rintro e w2 ⟨rfl, hb_6⟩
  have z_w2 : w1.heap.size ≤ w2.heap.size := hb_6.size
  have Ka_7 := Blk.up Ka_2 hb_6
  have KB_8 := Lib.hid (Below.tr KB_3.out hb_6)
  clear hb_1 ca0_4 la_5 Ka_2 KB_3
  by_cases hneg2 : szES es X < 0
  · skip
    go_wp2_with fail
    go_ret
    exact ⟨rfl, KB_8.out⟩
  have hsz := szES_le (es := es) (left := X) (by omega)
  have hsum := szES_sum (es := es) (left := X) (by omega)
  have hs1 : ∀ e ∈ es, e.part.length ≤ 1048576 := fun e he => by have := (hsz.2 e he).1; omega
  have hs2 : ∀ e ∈ es, e.part.length ≤ 1048576 ∧ e.map.size ≤ maxLen := fun e he => ⟨hs1 e he, (hsmE e he).2⟩
  have hs3 : ∀ e ∈ es, SmallL e.part ∧ e.part.length ≤ 1048576 ∧ e.map.size ≤ maxLen := fun e he => ⟨(hsmE e he).1, hs1 e he, (hsmE e he).2⟩
  have hne : es.length ≤ 1048576 := by omega
  have hmk : markEnd (1 + 3 * xs.length) es ≤ 1099511627776 := by rw [markEnd_eq]; omega
  have hlo := undOut_small xs es count
  obtain ⟨os, hos⟩ : ∃ os, undOut xs es count = os := ⟨_, rfl⟩
  rw [hos] at hlo
  have hml := markEnd_small os 1 hlo.2
  have hmo : markEnd 1 os ≤ 1099511627776 := by omega
  have hol : os.length ≤ 1099511627776 := by omega
  have HOS := Lib.hid hos
  clear hml hlo hos
  have HH := Lib.hid (And.intro hs1 (And.intro hs2 hs3))
  clear hneg hle hsz hsum hs1 hs2 hs3
  have ca0_9 := Blk.cell (i := 0) (v := .slice A xs.length c) Ka_7 rfl
  have la_10 := Blk.lt Ka_7
  go_wp2_with fail
  refine (toGrammar_any _ xs _ (HG.out.up KB_8.out) hn).mono ?_
  rintro e w3 ⟨v3, rfl, own3, hb_11⟩
  have z_w3 : w2.heap.size ≤ w3.heap.size := hb_11.size
  have Ka_12 := Blk.up Ka_7 hb_11
  have KB_13 := Lib.hid (Below.tr KB_8.out hb_11)
  clear hb_6 ca0_9 la_10 Ka_7 KB_8
  have KS := Lib.hid own3
  clear own3
  have ca0_14 := Blk.cell (i := 0) (v := .slice A xs.length c) Ka_12 rfl
  have la_15 := Blk.lt Ka_12
  go_wp2_with fail
  refine (toEditS_any _ es _ (HE.out.up KB_13.out) hne HH.out.1).mono ?_
  rintro e w4 ⟨v4, rfl, own4, hb_16⟩
  have z_w4 : w3.heap.size ≤ w4.heap.size := hb_16.size
  have Ka_17 := Blk.up Ka_12 hb_16
  have KB_18 := Lib.hid (Below.tr KB_13.out hb_16)
  have KS_19 := Lib.hid (OwnRules.below KS.out hb_16)
  clear hb_11 ca0_14 la_15 Ka_12 KB_13 KS
  have KF := Lib.hid own4
  clear own4
  go_wp2_with fail
  refine (specUndoTo_any _ _ xs es count _ (OwnRules.sl KS_19.out) (OEds.sl KF.out) hsm HH.out.2.2).mono ?_
  rintro e w5 ⟨hb_20, vW, rfl, ownW⟩
  have z_w5 : w4.heap.size ≤ w5.heap.size := hb_20.size
  have Ka_21 := Blk.up Ka_17 hb_20
  have KB_22 := Lib.hid (Below.tr KB_18.out hb_20)
  have KS_23 := Lib.hid (OwnRules.below KS_19.out hb_20)
  have KF_24 := Lib.hid (OEds.up KF.out hb_20)
  clear hb_16 Ka_17 KB_18 KS_19 KF
  clear KS_23 KF_24
  rw [HOS.out] at ownW
  have KW := Lib.hid (OEds.sl ownW)
  clear ownW
  have ca0_25 := Blk.cell (i := 0) (v := .slice A xs.length c) Ka_21 rfl
  have la_26 := Blk.lt Ka_21
  go_wp2_with fail
  refine (toGrammar_any _ xs _ (HG.out.up (by repeat (first | exact KB_22.out | (refine Below.alloc ?_ (by first | omega | (simp; done) | (simp; omega)) _) | (refine Below.setCell ?_ (by first | exact Nat.le_refl _ | (show _ ≤ _; omega) | (simp; done) | (simp; omega)) _) | refine below_drewN ?_ _ | refine Below.drew ?_))) hn).mono ?_
  rintro e w6 ⟨v6, rfl, own6, hb_27⟩
  have z_w6 : w5.heap.size ≤ w6.heap.size := hb_27.size
  have Ka_28 := Blk.up Ka_21 hb_27
  have KB_29 := Lib.hid (Below.tr KB_22.out hb_27)
  have KW_30 := Lib.hid (SlS.upN KW.out (by omega) hb_27)
  clear hb_20 ca0_25 la_26 Ka_21 KB_22 KW
  obtain ⟨A6, c6, rfl, _⟩ := own_nil own6
  have KX := Lib.hid (OwnR.of own6)
  clear own6
  have ca0_31 := Blk.cell (i := 0) (v := .slice A xs.length c) Ka_28 rfl
  have la_32 := Blk.lt Ka_28
  go_wp2_with fail
  refine (toEditS_any _ es _ (HE.out.up (by repeat (first | exact KB_29.out | (refine Below.alloc ?_ (by first | omega | (simp; done) | (simp; omega)) _) | (refine Below.setCell ?_ (by first | exact Nat.le_refl _ | (show _ ≤ _; omega) | (simp; done) | (simp; omega)) _) | refine below_drewN ?_ _ | refine Below.drew ?_))) hne HH.out.1).mono ?_
  rintro e w7 ⟨v7, rfl, own7, hb_33⟩
  have Kp_34 : Blk w7 (w6.heap.size) #[.slice A6 xs.length c6] 31 := by have := (Below.unalloc hb_33).2; simpa [Blk] using this
  replace hb_33 := (Below.unalloc hb_33).1
  have z_w7 : w6.heap.size ≤ w7.heap.size := hb_33.size
  have Ka_35 := Blk.up Ka_28 hb_33
  have KB_36 := Lib.hid (Below.tr KB_29.out hb_33)
  have KW_37 := Lib.hid (SlS.upN KW_30.out (by omega) hb_33)
  have KX_38 := Lib.hid (OwnR.up KX.out hb_33)
  clear hb_27 ca0_31 la_32 Ka_28 KB_29 KW_30 KX
  have KE := Lib.hid (show OEds w7 (w6.heap.size + 1) w7.heap.size v7 es by have := own7; simpa using this)
  clear own7
  have cp0_39 := Blk.cell (i := 0) (v := .slice A6 xs.length c6) Kp_34 rfl
  have lp_40 := Blk.lt Kp_34
  go_wp2_with fail
  refine (implUndoTo_any _ _ xs es count _ (OwnR.sl KX_38.out) (OEds.sl KE.out) hn HH.out.2.1 (tabB HT.out KB_36.out)).mono ?_
  rintro e w8 ⟨hb_41, vQ, rfl, own8⟩
  have z_w8 : w7.heap.size ≤ w8.heap.size := hb_41.size
  have Ka_42 := Blk.up Ka_35 hb_41
  have KB_43 := Lib.hid (Below.tr KB_36.out hb_41)
  have KW_44 := Lib.hid (SlS.upN KW_37.out (by omega) hb_41)
  have KX_45 := Lib.hid (OwnR.up KX_38.out hb_41)
  have Kp_46 := Blk.up Kp_34 hb_41
  have KE_47 := Lib.hid (OEds.up KE.out hb_41)
  clear hb_33 cp0_39 lp_40 Ka_35 KB_36 KW_37 KX_38 Kp_34 KE
  rw [HOS.out] at own8
  have KQ := Lib.hid own8
  clear own8
  have qc : (undCode xs es count != undCode xs es count) = false := by simp
  go_wp2_with fail
  refine (eqEditS_any _ _ os _ (OEds.sl KQ.out) (SlS.le KW_44.out (by omega))).mono ?_
  rintro e w9 ⟨rfl, hb_48⟩
  have z_w9 : w8.heap.size ≤ w9.heap.size := hb_48.size
  have Ka_49 := Blk.up Ka_42 hb_48
  have KB_50 := Lib.hid (Below.tr KB_43.out hb_48)
  have KW_51 := Lib.hid (SlS.upN KW_44.out (by omega) hb_48)
  have KX_52 := Lib.hid (OwnR.up KX_45.out hb_48)
  have Kp_53 := Blk.up Kp_46 hb_48
  have KE_54 := Lib.hid (OEds.up KE_47.out hb_48)
  have KQ_55 := Lib.hid (OEds.up KQ.out hb_48)
  clear hb_41 Ka_42 KB_43 KW_44 KX_45 Kp_46 KE_47 KQ
  have cp0_56 := Blk.cell (i := 0) (v := .slice A6 xs.length c6) Kp_53 rfl
  have lp_57 := Blk.lt Kp_53
  have ca0_58 := Blk.cell (i := 0) (v := .slice A xs.length c) Ka_49 rfl
  have la_59 := Blk.lt Ka_49
  go_wp2_with fail
  have KD := keep11 Kp_53 Ka_49 (Below.drew (Below.refl w9.heap.size w9))
  have HKA := Lib.hid Ka_49
  have HKP := Lib.hid Kp_53
  have HBS := Lib.hid KB_50.out
  have HXS := Lib.hid (OwnR.sl KX_52.out)
  go_region_held3 (fun w' => Below w9.heap.size w9 w' ∧ w'.cell? ⟨w6.heap.size, 0, none⟩ = some (.slice A6 xs.length c6) ∧ w'.cell? ⟨w.heap.size, 0, none⟩ = some (.slice A xs.length c))
    (first | (with_reducible exact KD) | (with_reducible exact keep11 HKP.out HKA.out b10) | (with_reducible exact keep11 HKP.out HKA.out b11))
    (first
      | (go_at_call 12; (refine (toGrammar_any _ xs _ (HG.out.up (by repeat (first | exact HBS.out | (refine Below.alloc ?_ (by first | omega | (simp; done) | (simp; omega)) _) | (refine Below.setCell ?_ (by first | exact Nat.le_refl _ | (show _ ≤ _; omega) | (simp; done) | (simp; omega)) _) | refine below_drewN ?_ _ | refine Below.drew ?_))) hn).mono ?_); rintro r w10 ⟨v10, rfl, own10, hb10⟩; have b10 := Below.undrew hb10)
      | (go_at_call 15; (refine (eqGrammar_any _ _ xs _ (SlS.up HXS.out b10) own10.sl).mono ?_); rintro r w11 ⟨rfl, hb11⟩; have b11 := Below.tr b10 hb11))
  have hbR11 := b11
  clear KD HKA HKP HBS HXS b10 b11 hb10 hb11 own10
  have hb_60 := hbR11
  have z_w11 : w9.heap.size ≤ w11.heap.size := hb_60.size
  have Ka_61 := Blk.up Ka_49 hb_60
  have KB_62 := Lib.hid (Below.tr KB_50.out hb_60)
  have KW_63 := Lib.hid (SlS.upN KW_51.out (by omega) hb_60)
  have KX_64 := Lib.hid (OwnR.up KX_52.out hb_60)
  have Kp_65 := Blk.up Kp_53 hb_60
  have KE_66 := Lib.hid (OEds.up KE_54.out hb_60)
  have KQ_67 := Lib.hid (OEds.up KQ_55.out hb_60)
  clear hb_48 cp0_56 lp_57 ca0_58 la_59 Ka_49 KB_50 KW_51 KX_52 Kp_53 KE_54 KQ_55
  go_wp2_with fail
  refine (toEditS_any _ es _ (HE.out.up KB_62.out) hne HH.out.1).mono ?_
  rintro e w12 ⟨v12, rfl, own12, hb_68⟩
  have z_w12 : w11.heap.size ≤ w12.heap.size := hb_68.size
  have Ka_69 := Blk.up Ka_61 hb_68
  have KB_70 := Lib.hid (Below.tr KB_62.out hb_68)
  have KW_71 := Lib.hid (SlS.upN KW_63.out (by omega) hb_68)
  have KX_72 := Lib.hid (OwnR.up KX_64.out hb_68)
  have Kp_73 := Blk.up Kp_65 hb_68
  have KE_74 := Lib.hid (OEds.up KE_66.out hb_68)
  have KQ_75 := Lib.hid (OEds.up KQ_67.out hb_68)
  clear hb_60 Ka_61 KB_62 KW_63 KX_64 Kp_65 KE_66 KQ_67
  have KF := Lib.hid own12
  clear own12
  go_wp2_with fail
  refine (eqEditS_any _ _ es _ (OEds.sl KE_74.out) (OEds.sl KF.out)).mono ?_
  rintro e w13 ⟨rfl, hb_76⟩
  have z_w13 : w12.heap.size ≤ w13.heap.size := hb_76.size
  have Ka_77 := Blk.up Ka_69 hb_76
  have KB_78 := Lib.hid (Below.tr KB_70.out hb_76)
  have KW_79 := Lib.hid (SlS.upN KW_71.out (by omega) hb_76)
  have KX_80 := Lib.hid (OwnR.up KX_72.out hb_76)
  have Kp_81 := Blk.up Kp_73 hb_76
  have KE_82 := Lib.hid (OEds.up KE_74.out hb_76)
  have KQ_83 := Lib.hid (OEds.up KQ_75.out hb_76)
  have KF_84 := Lib.hid (OEds.up KF.out hb_76)
  clear hb_68 Ka_69 KB_70 KW_71 KX_72 Kp_73 KE_74 KQ_75 KF
  clear KF_84
  have cp0_85 := Blk.cell (i := 0) (v := .slice A6 xs.length c6) Kp_81 rfl
  have lp_86 := Blk.lt Kp_81
  go_wp2_with fail
  refine (markGrammar1 _ _ xs _ (KX_80.out).1 (by omega)).mono ?_
  rintro e w14 ⟨rfl, ho_88, hg_87⟩
  have hc_89 := chg_of KX_80.out hg_87
  have z_w14 : w13.heap.size ≤ w14.heap.size := Chg.size hc_89
  have Ka_90 := Blk.chg Ka_77 hc_89 (by omega)
  have KB_91 := Lib.hid (Below.chg KB_78.out (by have := Below.size KB_78.out; omega) hc_89 (by omega))
  have KW_92 := Lib.hid (SlS.chgN KW_79.out (by omega) hc_89 (by omega))
  have KX_93 := Lib.hid (OwnR.markedC KX_80.out ho_88 hc_89)
  have Kp_94 := Blk.chg Kp_81 hc_89 (by omega)
  have KE_95 := Lib.hid (OEds.chg KE_82.out hc_89 (by omega))
  have KQ_96 := Lib.hid (OEds.chg KQ_83.out hc_89 (by omega))
  clear hb_76 cp0_85 lp_86 Ka_77 KB_78 KW_79 KX_80 Kp_81 KE_82 KQ_83 ho_88 hg_87 hc_89
  clear Kp_94
  go_wp2_with fail
  refine (markEditS_any _ _ _ es (1 + 3 * xs.length) _ KE_95.out hmk (by omega)).mono ?_
  rintro e w15 ⟨rfl, ho_98, hg_97⟩
  have hc_99 := hg_97
  have z_w15 : w14.heap.size ≤ w15.heap.size := Chg.size hc_99
  have Ka_100 := Blk.chg Ka_90 hc_99 (by omega)
  have KB_101 := Lib.hid (Below.chg KB_91.out (by have := Below.size KB_91.out; omega) hc_99 (by omega))
  have KW_102 := Lib.hid (SlS.chgN KW_92.out (by omega) hc_99 (by omega))
  have KX_103 := Lib.hid (OwnR.chg KX_93.out hc_99 (by omega))
  have KE_104 := Lib.hid ho_98
  have KQ_105 := Lib.hid (OEds.chg KQ_96.out hc_99 (by omega))
  clear Ka_90 KB_91 KW_92 KX_93 KE_95 KQ_96 ho_98 hg_97 hc_99
  have e0 : (decide (((markEnd (1 + 3 * xs.length) es : Nat) : Int) < 0)) = false := by simp
  go_wp2_with fail
  refine (eqEditS_any _ _ os _ (OEds.sl KQ_105.out) (SlS.le KW_102.out (by omega))).mono ?_
  rintro e w16 ⟨rfl, hb_106⟩
  have z_w16 : w15.heap.size ≤ w16.heap.size := hb_106.size
  have Ka_107 := Blk.up Ka_100 hb_106
  have KB_108 := Lib.hid (Below.tr KB_101.out hb_106)
  have KW_109 := Lib.hid (SlS.upN KW_102.out (by omega) hb_106)
  have KX_110 := Lib.hid (OwnR.up KX_103.out hb_106)
  have KE_111 := Lib.hid (OEds.up KE_104.out hb_106)
  have KQ_112 := Lib.hid (OEds.up KQ_105.out hb_106)
  clear Ka_100 KB_101 KW_102 KX_103 KE_104 KQ_105
  go_wp2_with fail
  refine (markEditS_any _ _ _ os 1 _ KQ_112.out hmo hol).mono ?_
  rintro e w17 ⟨rfl, ho_114, hg_113⟩
  have hc_115 := hg_113
  have z_w17 : w16.heap.size ≤ w17.heap.size := Chg.size hc_115
  have Ka_116 := Blk.chg Ka_107 hc_115 (by omega)
  have KB_117 := Lib.hid (Below.chg KB_108.out (by have := Below.size KB_108.out; omega) hc_115 (by omega))
  have KW_118 := Lib.hid (SlS.chgN KW_109.out (by omega) hc_115 (by omega))
  have KX_119 := Lib.hid (OwnR.chg KX_110.out hc_115 (by omega))
  have KE_120 := Lib.hid (OEds.chg KE_111.out hc_115 (by omega))
  have KQ_121 := Lib.hid ho_114
  clear hb_106 Ka_107 KB_108 KW_109 KX_110 KE_111 KQ_112 ho_114 hg_113 hc_115
  clear e0
  go_wp2_with fail
  refine (heldEditS_any _ os 1 _ (OEds.sl KQ_121.out) hmo hol).mono ?_
  rintro e w18 ⟨rfl, hb_122⟩
  have z_w18 : w17.heap.size ≤ w18.heap.size := hb_122.size
  have Ka_123 := Blk.up Ka_116 hb_122
  have KB_124 := Lib.hid (Below.tr KB_117.out hb_122)
  have KW_125 := Lib.hid (SlS.upN KW_118.out (by omega) hb_122)
  have KX_126 := Lib.hid (OwnR.up KX_119.out hb_122)
  have KE_127 := Lib.hid (OEds.up KE_120.out hb_122)
  have KQ_128 := Lib.hid (OEds.up KQ_121.out hb_122)
  clear Ka_116 KB_117 KW_118 KX_119 KE_120 KQ_121
  have e1 : (decide (((markEnd 1 os : Nat) : Int) < 0)) = false := by simp
  have ca0_129 := Blk.cell (i := 0) (v := .slice A xs.length c) Ka_123 rfl
  have la_130 := Blk.lt Ka_123
  go_wp2_with fail
  refine (toGrammar_any _ xs _ (HG.out.up KB_124.out) hn).mono ?_
  rintro e w19 ⟨v19, rfl, own19, hb_131⟩
  have z_w19 : w18.heap.size ≤ w19.heap.size := hb_131.size
  have Ka_132 := Blk.up Ka_123 hb_131
  have KB_133 := Lib.hid (Below.tr KB_124.out hb_131)
  have KW_134 := Lib.hid (SlS.upN KW_125.out (by omega) hb_131)
  have KX_135 := Lib.hid (OwnR.up KX_126.out hb_131)
  have KE_136 := Lib.hid (OEds.up KE_127.out hb_131)
  have KQ_137 := Lib.hid (OEds.up KQ_128.out hb_131)
  clear hb_122 ca0_129 la_130 Ka_123 KB_124 KW_125 KX_126 KE_127 KQ_128
  have KS := Lib.hid own19
  clear own19
  go_wp2_with fail
  refine (toEditS_any _ es _ (HE.out.up KB_133.out) hne HH.out.1).mono ?_
  rintro e w20 ⟨v20, rfl, own20, hb_138⟩
  have z_w20 : w19.heap.size ≤ w20.heap.size := hb_138.size
  have Ka_139 := Blk.up Ka_132 hb_138
  have KB_140 := Lib.hid (Below.tr KB_133.out hb_138)
  have KW_141 := Lib.hid (SlS.upN KW_134.out (by omega) hb_138)
  have KX_142 := Lib.hid (OwnR.up KX_135.out hb_138)
  have KE_143 := Lib.hid (OEds.up KE_136.out hb_138)
  have KQ_144 := Lib.hid (OEds.up KQ_137.out hb_138)
  have KS_145 := Lib.hid (OwnRules.below KS.out hb_138)
  clear hb_131 Ka_132 KB_133 KW_134 KX_135 KE_136 KQ_137 KS
  have KF := Lib.hid own20
  clear own20
  go_wp2_with fail
  refine (implUndoTo_any _ _ xs es count _ (OwnRules.sl KS_145.out) (OEds.sl KF.out) hn HH.out.2.1 (tabB HT.out KB_140.out)).mono ?_
  rintro e w21 ⟨hb_146, vH, rfl, own21⟩
  have z_w21 : w20.heap.size ≤ w21.heap.size := hb_146.size
  have Ka_147 := Blk.up Ka_139 hb_146
  have KB_148 := Lib.hid (Below.tr KB_140.out hb_146)
  have KW_149 := Lib.hid (SlS.upN KW_141.out (by omega) hb_146)
  have KX_150 := Lib.hid (OwnR.up KX_142.out hb_146)
  have KE_151 := Lib.hid (OEds.up KE_143.out hb_146)
  have KQ_152 := Lib.hid (OEds.up KQ_144.out hb_146)
  have KS_153 := Lib.hid (OwnRules.below KS_145.out hb_146)
  have KF_154 := Lib.hid (OEds.up KF.out hb_146)
  clear hb_138 Ka_139 KB_140 KW_141 KX_142 KE_143 KQ_144 KS_145 KF
  clear KS_153 KF_154
  rw [HOS.out] at own21
  have KH := Lib.hid (OEds.sl own21)
  clear own21
  go_wp2_with fail
  refine (eqEditS_any _ _ os _ (SlS.le KH.out (by omega)) (SlS.le KW_149.out (by omega))).mono ?_
  rintro e w22 ⟨rfl, hb_155⟩
  have z_w22 : w21.heap.size ≤ w22.heap.size := hb_155.size
  have Ka_156 := Blk.up Ka_147 hb_155
  have KB_157 := Lib.hid (Below.tr KB_148.out hb_155)
  have KW_158 := Lib.hid (SlS.upN KW_149.out (by omega) hb_155)
  have KX_159 := Lib.hid (OwnR.up KX_150.out hb_155)
  have KE_160 := Lib.hid (OEds.up KE_151.out hb_155)
  have KQ_161 := Lib.hid (OEds.up KQ_152.out hb_155)
  have KH_162 := Lib.hid (SlS.upN KH.out (by omega) hb_155)
  clear hb_146 Ka_147 KB_148 KW_149 KX_150 KE_151 KQ_152 KH
  go_wp2_with fail
  refine (heldEditS_any _ os 1 _ (OEds.sl KQ_161.out) hmo hol).mono ?_
  rintro e w23 ⟨rfl, hb_163⟩
  have z_w23 : w22.heap.size ≤ w23.heap.size := hb_163.size
  have Ka_164 := Blk.up Ka_156 hb_163
  have KB_165 := Lib.hid (Below.tr KB_157.out hb_163)
  have KW_166 := Lib.hid (SlS.upN KW_158.out (by omega) hb_163)
  have KX_167 := Lib.hid (OwnR.up KX_159.out hb_163)
  have KE_168 := Lib.hid (OEds.up KE_160.out hb_163)
  have KQ_169 := Lib.hid (OEds.up KQ_161.out hb_163)
  have KH_170 := Lib.hid (SlS.upN KH_162.out (by omega) hb_163)
  clear hb_155 Ka_156 KB_157 KW_158 KX_159 KE_160 KQ_161 KH_162
  go_wp2
  go_ret
  exact ⟨rfl, KB_165.out⟩
end Go.Proofs.YtfapnipmgmpgaaaGreatDoor

namespace Go.Proofs.YtfapnipmgmpgaaaGreatDoor
open Go.RowKit Go.WideShapes Go.ChangeShapes
section
variable {H : Type} {enc : TypeId × Value → H} {P : Program}
theorem post_of_below {f : Func} {s : ChangeSpec} {apart fresh handsOn again : Bool} {W W' : World} {args : Array Value} {v : Value} {ds gs : List (DataW H)} {before pa pv : List MemPlace}
    (hW : DataW.Whole enc P f.params.toList s.vars apart W args.toList ds gs before)
    (hres : ∀ (b : Nat) (sp : Nat → Bool) (hd : Bool), DataW.TrodAll enc P W' b sp hd f.resultTypes.toList (v.resultList f.resultTypes.size) (s.fn H (ds ++ gs)).results [])
    (hargs : ∀ sp : Nat → Bool, (∀ p ∈ before, sp p.block = true) → DataW.TrodAll enc P W' 0 sp true f.params.toList args.toList (s.fn H (ds ++ gs)).args pa)
    (hvars : ∀ sp : Nat → Bool, (∀ p ∈ before, sp p.block = true) → DataW.TrodVars enc P W' sp s.vars (s.fn H (ds ++ gs)).vars pv)
    (hps : before = pa ++ pv) (hb : Below W.heap.size W W')
    (hok : ∀ (j : Nat) (t : TypeId) (r : Value), f.resultTypes[j]? = some t → (v.resultList f.resultTypes.size)[j]? = some r → Value.okWide P W' .any 0 t r) :
    s.post enc P f apart fresh handsOn again W args v W' := by
  have hlt : ∀ p ∈ before, p.block < W.heap.size := fun p hp => hW.lt p hp
  have hold : ∀ p ∈ before, (fun b => decide (b < W.heap.size)) p.block = true := fun p hp => by simpa using hlt p hp
  refine ⟨ds, gs, before, [], pa, pv, hW, hres _ _ _, hargs _ hold, hvars _ hold, World.keptBut_mono (fun p hp => ⟨hp, ?_⟩) (hb.frame (· ∈ before)), fun _ => ?_⟩
  · rw [hps, List.mem_append] at hp
    exact Or.inr hp
  · obtain ⟨_, _, _, _, _, hz, hn⟩ := hW
    refine ⟨hok, _, _, ([] ++ pa) ++ pv, ⟨[] ++ pa, pv, trodAll_append (hargs _ (fun _ _ => rfl)) (hres _ _ _), hvars _ (fun _ _ => rfl), rfl, ?_, ?_⟩, ?_⟩
    · intro b off hp
      have hin : MemPlace.cell b off ∈ before := by rw [hps]; simpa using hp
      rw [hb.frozen (hlt _ hin)]
      exact hz b off hin
    · intro ha
      have := hn ha
      rw [hps] at this
      simpa using this
    · intro p hp _
      rw [hps]
      simpa using hp

theorem trodAll_below (hl : laidOutB P = true) {W W' : World} (hb : Below W.heap.size W W') : ∀ {ts : List TypeId} {vs : List Value} {ds : List (DataW H)} {ps : List MemPlace},
    (∀ t ∈ ts, P.readableRec t = true ∧ t < P.types.size) → DataW.TrodAll enc P W 0 (fun _ => true) true ts vs ds ps → (∀ x ∈ ps, x.block < W.heap.size) → ∀ sp : Nat → Bool, (∀ p ∈ ps, sp p.block = true) →
    DataW.TrodAll enc P W' 0 sp true ts vs ds ps
  | [], _, _, _, _, h, _, _, _ => by
    obtain ⟨rfl, rfl, rfl⟩ := trodAll_nil h
    exact trodAll_mk0
  | t :: ts, vs, ds, ps, hts, h, hlt, sp, hsp => by
    obtain ⟨v, vs', d, ds', p, q, rfl, rfl, rfl, h0, r0⟩ := trodAll_cons h
    refine trodAll_cons_mk (WideElems.Trod_stays hl (hts t (by simp)).1 (hts t (by simp)).2 h0 (fun x hx => hb.same (hlt x (by simp [hx]))) (fun x hx => hsp x (by simp [hx]))) ?_
    exact trodAll_below hl hb (fun t ht => hts t (by simp [ht])) r0 (fun x hx => hlt x (by simp [hx])) sp (fun x hx => hsp x (by simp [hx]))
end
theorem laidOut : laidOutB Tryz.prog = true := by kernel_rfl
theorem own : ownKnob Tryz.prog.godebug = none := by kernel_rfl
end Go.Proofs.YtfapnipmgmpgaaaGreatDoor

namespace Go.Proofs.YtfapnipmgmpgaaaGreatDoor
open Go.RowKit Go.ChangeShapes Go.WideShapes Go.Deep
section
variable {H : Type} {enc : TypeId × Value → H} {P : Program} {w : World} {base : Nat} {spare : Nat → Bool} {held : Bool}
theorem open_slice_fields {t e : TypeId} {fs : Array Field} {fuel : Nat} {cs : List Value} {x : DataW H × List MemPlace} (ht : P.underlying t = some (.slice e)) (he : P.underlying e = some (.struct fs))
    (hone : oneCellFields P fs = true) (hC : P.cellsOf e = fs.size) (h : DataW.trod enc P w base spare held fuel t cs = some x) :
    (cs = [.slice none 0 0] ∧ x = (.nil, [])) ∨
    ∃ (a : Addr) (len cap m : Nat) (D : Nat → DataW H) (Pl : Nat → List MemPlace), cs = [.slice (some a) len cap] ∧ base ≤ a.block ∧ len ≤ cap ∧ cap ≤ maxLen ∧ m = (if spare a.block then cap else len) ∧
      x = (.slice ((List.range len).map D) ((List.range (m - len)).map fun j => D (len + j)), MemPlace.row a (m * fs.size) ++ (List.range m).flatMap Pl) ∧
      ∀ i, i < m → ∃ (ys : List (DataW H × List MemPlace)) (n : Nat), D i = .agg (ys.map (·.1)) ∧ Pl i = ys.flatMap (·.2) ∧ ys.length = fs.size ∧
        ∀ (j : Nat) (f : Field), fs[j]? = some f → ∃ (v : Value) (y : DataW H × List MemPlace), w.cell? (a.add (i * fs.size + j)) = some v ∧ ys[j]? = some y ∧ DataW.trod enc P w base spare held n f.type [v] = some y := by
  rcases open_slice ht h with h0 | ⟨a, len, cap, m, n, D, Pl, hcs, hb, hl, hm, hmm, hx, hi⟩
  · exact .inl h0
  · refine .inr ⟨a, len, cap, m, D, Pl, hcs, hb, hl, hm, hmm, by rw [hC] at hx; exact hx, fun i him => ?_⟩
    obtain ⟨cs', hc, ht'⟩ := hi i him
    rw [hC] at hc
    obtain ⟨ys, n', hn', hy, hlen, hyl, hf⟩ := DataW.trod_struct he ht'
    obtain ⟨_, hcl, hat⟩ := World.cells?_some hc
    simp only [Prod.mk.injEq] at hy
    refine ⟨ys, n', hy.1, hy.2, hyl, fun j f hj => ?_⟩
    obtain ⟨ho, hk⟩ := hone_of hone j f hj
    have hjl : j < fs.size := (Array.getElem?_eq_some_iff.1 hj).1
    have hcell := hat j hjl
    have hv : cs'[j]? = some (cs'[j]'(by omega)) := List.getElem?_eq_getElem (by omega)
    have h1 := hf j f hj
    rw [ho, hk] at h1
    have hone' : (cs'.drop j).take 1 = [cs'[j]'(by omega)] := by
      rw [List.drop_eq_getElem_cons (by omega)]
      rfl
    rw [hone'] at h1
    have hys : ys[j]? = some (ys[j]'(by omega)) := List.getElem?_eq_getElem (by omega)
    refine ⟨_, _, ?_, hys, h1.trans hys⟩
    rw [← Go.Deep.add_add, hcell, hv]

theorem add_plain (b o n : Nat) : (⟨b, o, none⟩ : Addr).add n = ⟨b, o + n, none⟩ := by unfold Addr.add; split <;> simp_all
theorem spot_none {a : Addr} {v : Value} (h : w.cell? a = some v) : a = ⟨a.block, a.off, none⟩ ∧ a.block < w.heap.size := by
  have hl := World.block_lt_of_cell? w a h
  refine ⟨?_, hl⟩
  obtain ⟨b, o, s⟩ := a
  unfold World.cell? at h
  cases s with
  | none => rfl
  | some s => split at h <;> simp at h
theorem len_map_range {α : Type} (f : Nat → α) (n : Nat) : ((List.range n).map f).length = n := by simp

theorem open_rules {t e : TypeId} {f0 f1 f2 : Field} {fuel : Nat} {v : Value} {x : DataW H × List MemPlace} (ht : P.underlying t = some (.slice e)) (he : P.underlying e = some (.struct #[f0, f1, f2]))
    (hone : oneCellFields P #[f0, f1, f2] = true) (hC : P.cellsOf e = 3) (h0 : P.underlying f0.type = some .string) (h1 : P.underlying f1.type = some (.int .i64)) (h2 : P.underlying f2.type = some (.int .i64))
    (h : DataW.trod enc P w base spare held fuel t [v] = some x) : ∃ xs : List GRule, Sl RuleE w w.heap.size v xs ∧ SmallL xs := by
  rcases open_slice_fields ht he hone hC h with ⟨hcs, _⟩ | ⟨a, len, cap, m, D, Pl, hcs, _, hl, hm, hmm, _, hf⟩
  · simp at hcs
    subst hcs
    exact ⟨[], SlS.nil _ _, fun r hr => by simp at hr⟩
  · simp at hcs
    subst hcs
    have hmle : len ≤ m := by rw [hmm]; split <;> omega
    have H : ∀ i, ∃ r : GRule, i < len → (w.cell? (a.add (i * 3)) = some (.string r.letter) ∧ w.cell? (a.add (i * 3 + 1)) = some (.int .i64 r.left) ∧ w.cell? (a.add (i * 3 + 2)) = some (.int .i64 r.right) ∧ r.letter.size ≤ maxLen) := by
      intro i
      by_cases hi : i < len
      · obtain ⟨ys, n, _, _, _, hx⟩ := hf i (by omega)
        obtain ⟨v0, y0, g0, _, t0⟩ := hx 0 f0 rfl
        obtain ⟨v1, y1, g1, _, t1⟩ := hx 1 f1 rfl
        obtain ⟨v2, y2, g2, _, t2⟩ := hx 2 f2 rfl
        obtain ⟨s, e0, _, hs⟩ := DataW.trod_string h0 t0
        obtain ⟨p, e1, _, _⟩ := DataW.trod_int h1 t1
        obtain ⟨q, e2, _, _⟩ := DataW.trod_int h2 t2
        simp at e0 e1 e2
        subst e0 e1 e2
        exact ⟨⟨s, p, q⟩, fun _ => ⟨by simpa using g0, g1, g2, hs⟩⟩
      · exact ⟨⟨⟨#[]⟩, 0, 0⟩, fun h => absurd h hi⟩
    obtain ⟨F, hF⟩ : ∃ F : Nat → GRule, ∀ i, i < len → (w.cell? (a.add (i * 3)) = some (.string (F i).letter) ∧ w.cell? (a.add (i * 3 + 1)) = some (.int .i64 (F i).left) ∧ w.cell? (a.add (i * 3 + 2)) = some (.int .i64 (F i).right) ∧ (F i).letter.size ≤ maxLen) :=
      ⟨fun i => Classical.choose (H i), fun i hi => Classical.choose_spec (H i) hi⟩
    clear H
    refine ⟨(List.range len).map F, ⟨some a, cap, by rw [len_map_range], by rw [len_map_range]; exact hl, hm, fun hn => ?_⟩, ?_⟩
    · rw [len_map_range] at hn
      obtain ⟨g0, _⟩ := hF 0 hn
      have ha : a.add (0 * 3) = a := by simp [Addr.add]
      rw [ha] at g0
      obtain ⟨hsp, hlt⟩ := spot_none g0
      refine ⟨a.block, a.off, by rw [← hsp], hlt, fun k r hr => ⟨r.cells, rfl, fun j u hu => ?_⟩⟩
      have hk : k < len := by
        have := (List.getElem?_eq_some_iff.1 hr).1
        rw [len_map_range] at this; exact this
      have er : F k = r := by
        rw [List.getElem?_map, List.getElem?_range hk] at hr; simpa using hr
      obtain ⟨g0, g1, g2, _⟩ := hF k hk
      rw [er, hsp, add_plain] at g0 g1 g2
      match j, hu with
      | 0, hu => simp [GRule.cells] at hu; subst hu; exact g0
      | 1, hu => simp [GRule.cells] at hu; subst hu; exact g1
      | 2, hu => simp [GRule.cells] at hu; subst hu; exact g2
      | j + 3, hu => simp [GRule.cells] at hu
    · intro r hr
      rw [List.mem_map] at hr
      obtain ⟨k, hk, rfl⟩ := hr
      have := (hF k (by simpa using hk)).2.2.2
      unfold maxLen at this
      exact this

theorem open_struct1 {t : TypeId} {f : Field} {v : Value} {d : DataW H} {p : List MemPlace} {r : Reach} {b0 : Nat} (hs : P.underlying t = some (.struct #[f])) (hone : oneCellFields P #[f] = true) (hC : P.cellsOf t = 1)
    (hv : Value.okWide P w r b0 t v) (h : DataW.Trod enc P w base spare held t v d p) : ∃ v0 n x, v = .agg #[v0] ∧ DataW.trod enc P w base spare held n f.type [v0] = some x := by
  obtain ⟨cs, rfl, hsz⟩ := okWide_struct hs hv
  obtain ⟨l⟩ := cs
  match l, hsz.trans hC with
  | [c0], _ =>
    obtain ⟨fuel, hf⟩ := h
    obtain ⟨xs, n, _, _, _, hlen, hg⟩ := DataW.trod_struct hs hf
    obtain ⟨o0, k0⟩ := hone_of hone 0 f rfl
    match xs, hlen with
    | [y0], _ => exact ⟨c0, n, y0, rfl, by simpa [Value.cells, o0, k0] using hg 0 f rfl⟩
end
set_option maxRecDepth 100000 in
theorem open_gram {H : Type} {enc : TypeId × Value → H} {w : World} {base : Nat} {spare : Nat → Bool} {held : Bool} {r : Reach} {b0 : Nat} {v : Value} {d : DataW H} {p : List MemPlace}
    (hv : Value.okWide Tryz.prog w r b0 24 v) (h : DataW.Trod enc Tryz.prog w base spare held 24 v d p) : ∃ v0 xs, v = .agg #[v0] ∧ Sl RuleE w w.heap.size v0 xs ∧ SmallL xs := by
  obtain ⟨v0, n, x, rfl, hx⟩ := open_struct1 Tryz.underlying24 (by kernel_rfl) (by kernel_rfl) hv h
  obtain ⟨xs, h1, h2⟩ := open_rules Tryz.underlying22 Tryz.underlying111 (by kernel_rfl) (by kernel_rfl) Tryz.underlying9 Tryz.underlying2 Tryz.underlying2 hx
  exact ⟨v0, xs, rfl, h1, h2⟩
end Go.Proofs.YtfapnipmgmpgaaaGreatDoor

namespace Go.Proofs.YtfapnipmgmpgaaaGreatDoor
open Go.RowKit Go.ChangeShapes Go.WideShapes Go.Deep

/-- Whatever reads at type t lies as E says, and has the property Q. -/
def Opens {α : Type} (P : Program) (E : Enc α) (Q : α → Prop) (t : TypeId) : Prop :=
  ∀ {H : Type} (enc : TypeId × Value → H) (w : World) (base : Nat) (spare : Nat → Bool) (held : Bool) (fuel : Nat) (cs : List Value) (x : DataW H × List MemPlace), DataW.trod enc P w base spare held fuel t cs = some x → ∃ a, E.cells w (· < w.heap.size) a cs ∧ Q a

theorem opens_rule {P : Program} {t : TypeId} {f0 f1 f2 : Field} (he : P.underlying t = some (.struct #[f0, f1, f2])) (hone : oneCellFields P #[f0, f1, f2] = true) (hC : P.cellsOf t = 3)
    (h0 : P.underlying f0.type = some .string) (h1 : P.underlying f1.type = some (.int .i64)) (h2 : P.underlying f2.type = some (.int .i64)) : Opens P RuleE (fun r => r.letter.size ≤ maxLen) t := by
  intro H enc w base spare held fuel cs x h
  obtain ⟨ys, n', hn', hy, hlen, hyl, hf⟩ := DataW.trod_struct he h
  obtain ⟨o0, k0⟩ := hone_of hone 0 f0 rfl
  obtain ⟨o1, k1⟩ := hone_of hone 1 f1 rfl
  obtain ⟨o2, k2⟩ := hone_of hone 2 f2 rfl
  have g0 := hf 0 f0 rfl
  have g1 := hf 1 f1 rfl
  have g2 := hf 2 f2 rfl
  rw [o0, k0] at g0
  rw [o1, k1] at g1
  rw [o2, k2] at g2
  have hc3 : cs.length = 3 := hlen.trans hC
  match ys, hyl, cs, hc3 with
  | [y0, y1, y2], _, [c0, c1, c2], _ =>
    simp at g0 g1 g2
    obtain ⟨s, e0, _, hs⟩ := DataW.trod_string h0 g0
    obtain ⟨p, e1, _, _⟩ := DataW.trod_int h1 g1
    obtain ⟨q, e2, _, _⟩ := DataW.trod_int h2 g2
    refine ⟨⟨s, p, q⟩, ?_, hs⟩
    simp at e0 e1 e2
    subst e0 e1 e2
    rfl
instance : Inhabited GRule := ⟨⟨⟨#[]⟩, 0, 0⟩⟩
theorem opens_slice {α : Type} {P : Program} {E : Enc α} {Q : α → Prop} {t e : TypeId} [Inhabited α] (hE : Opens P E Q e) (ht : P.underlying t = some (.slice e)) (hC : P.cellsOf e = E.size) : Opens P (SliceE E) (fun xs => ∀ x ∈ xs, Q x) t := by
  intro H enc w base spare held fuel cs x h
  rcases open_slice ht h with ⟨h0, _⟩ | ⟨a, len, cap, m, n, D, Pl, hcs, hb, hl, hm, hmm, hx, hi⟩
  · exact ⟨[], ⟨_, h0, SlS.nil _ _⟩, fun x hx => by simp at hx⟩
  · have hmle : len ≤ m := by rw [hmm]; split <;> omega
    have Hh : ∀ i, i < len → ∃ r : α, ∃ cs', E.cells w (· < w.heap.size) r cs' ∧ (∀ j u, cs'[j]? = some u → w.cell? (a.add (i * E.size + j)) = some u) ∧ Q r := by
      intro i hil
      obtain ⟨cs', hc, ht'⟩ := hi i (by omega)
      obtain ⟨r, hr, hq⟩ := hE enc w base spare held n cs' _ ht'
      obtain ⟨_, hcl, hat⟩ := World.cells?_some hc
      refine ⟨r, cs', hr, fun j u hu => ?_, hq⟩
      have hj : j < cs'.length := (List.getElem?_eq_some_iff.1 hu).1
      rw [← Go.Deep.add_add, ← hC, hat j (by omega), hu]
    obtain ⟨F, hF⟩ := choose_lt Hh
    clear Hh
    refine ⟨(List.range len).map F, ⟨.slice (some a) len cap, hcs, some a, cap, by rw [len_map_range], by rw [len_map_range]; exact hl, hm, fun hn => ?_⟩, ?_⟩
    · rw [len_map_range] at hn
      obtain ⟨cs', h1, h2, _⟩ := hF 0 hn
      have hlen := E.len h1
      have hpos := E.pos
      have g0 := h2 0 cs'[0] (List.getElem?_eq_getElem (by omega))
      have ha : a.add (0 * E.size + 0) = a := by simp [Addr.add]
      rw [ha] at g0
      obtain ⟨hsp, hlt⟩ := spot_none g0
      refine ⟨a.block, a.off, by rw [← hsp], hlt, fun k r hr => ?_⟩
      have hk : k < len := by
        have := (List.getElem?_eq_some_iff.1 hr).1
        rw [len_map_range] at this; exact this
      have er : F k = r := by
        rw [List.getElem?_map, List.getElem?_range hk] at hr; simpa using hr
      obtain ⟨cs'', h3, h4, _⟩ := hF k hk
      rw [er] at h3
      refine ⟨cs'', h3, fun j u hu => ?_⟩
      have := h4 j u hu
      rw [hsp, add_plain] at this
      exact this
    · intro r hr
      rw [List.mem_map] at hr
      obtain ⟨k, hk, rfl⟩ := hr
      exact (hF k (by simpa using hk)).choose_spec.2.2
theorem opens_struct1 {α : Type} {P : Program} {E : Enc α} {Q : α → Prop} {t : TypeId} {f : Field} (hs : P.underlying t = some (.struct #[f])) (hone : oneCellFields P #[f] = true) (hC : P.cellsOf t = 1) (hE : Opens P E Q f.type) : Opens P E Q t := by
  intro H enc w base spare held fuel cs x h
  obtain ⟨ys, n', hn', hy, hlen, hyl, hf⟩ := DataW.trod_struct hs h
  obtain ⟨o0, k0⟩ := hone_of hone 0 f rfl
  have g0 := hf 0 f rfl
  rw [o0, k0] at g0
  have hc1 : cs.length = 1 := hlen.trans hC
  match ys, hyl, cs, hc1 with
  | [y0], _, [c0], _ =>
    simp at g0
    exact hE enc w base spare held _ _ _ g0
theorem SmallL_of {xs : List GRule} (h : ∀ r ∈ xs, r.letter.size ≤ maxLen) : SmallL xs := fun r hr => by have := h r hr; unfold maxLen at this; exact this
set_option maxRecDepth 100000 in
theorem opensRule : Opens Tryz.prog RuleE (fun r => r.letter.size ≤ maxLen) 111 := opens_rule Tryz.underlying111 (by kernel_rfl) (by kernel_rfl) Tryz.underlying9 Tryz.underlying2 Tryz.underlying2
theorem opensRuleS : Opens Tryz.prog (SliceE RuleE) (fun xs => ∀ r ∈ xs, r.letter.size ≤ maxLen) 22 := opens_slice opensRule Tryz.underlying22 (by kernel_rfl)
set_option maxRecDepth 100000 in
theorem opensGram : Opens Tryz.prog (SliceE RuleE) (fun xs => ∀ r ∈ xs, r.letter.size ≤ maxLen) 24 := opens_struct1 Tryz.underlying24 (by kernel_rfl) (by kernel_rfl) opensRuleS
end Go.Proofs.YtfapnipmgmpgaaaGreatDoor

namespace Go.Proofs.YtfapnipmgmpgaaaGreatDoor
open Go.ChangeShapes Go.WideShapes Go.ChangeAt Go.RowKit Go.Joins
open Go.ChangeMaps (open_string)
end Go.Proofs.YtfapnipmgmpgaaaGreatDoor

namespace Go.Proofs.YtfapnipmgmpgaaaGreatDoor
open Go.ChangeShapes Go.WideShapes Go.ChangeAt Go.RowKit Go.Joins Go.Deep
open Go.ChangeMaps (open_string)
section
variable {H : Type} {enc : TypeId × Value → H} {P : Program} {w : World} {base : Nat} {spare : Nat → Bool} {held : Bool}
end
end Go.Proofs.YtfapnipmgmpgaaaGreatDoor

namespace Go.Proofs.YtfapnipmgmpgaaaGreatDoor
open Go.ChangeShapes Go.WideShapes Go.ChangeAt Go.RowKit Go.Joins Go.Deep
open Go.ChangeMaps (open_string)

instance : Inhabited GEdit := ⟨⟨0, 0, 0, 0, [], ⟨#[]⟩⟩⟩
theorem opens_edit {P : Program} {t : TypeId} {f0 f1 f2 f3 f4 f5 : Field} (he : P.underlying t = some (.struct #[f0, f1, f2, f3, f4, f5])) (hone : oneCellFields P #[f0, f1, f2, f3, f4, f5] = true) (hC : P.cellsOf t = 6)
    (h0 : P.underlying f0.type = some (.int .i64)) (h1 : P.underlying f1.type = some (.int .i64)) (h2 : P.underlying f2.type = some (.int .i64)) (h3 : P.underlying f3.type = some (.int .i64))
    (h4 : Opens P (SliceE RuleE) (fun xs => ∀ r ∈ xs, r.letter.size ≤ maxLen) f4.type) (h5 : P.underlying f5.type = some .string) : Opens P EditE (fun e => SmallL e.part ∧ e.map.size ≤ maxLen) t := by
  intro H enc w base spare held fuel cs x h
  obtain ⟨ys, n', hn', hy, hlen, hyl, hf⟩ := DataW.trod_struct he h
  obtain ⟨o0, k0⟩ := hone_of hone 0 f0 rfl
  obtain ⟨o1, k1⟩ := hone_of hone 1 f1 rfl
  obtain ⟨o2, k2⟩ := hone_of hone 2 f2 rfl
  obtain ⟨o3, k3⟩ := hone_of hone 3 f3 rfl
  obtain ⟨o4, k4⟩ := hone_of hone 4 f4 rfl
  obtain ⟨o5, k5⟩ := hone_of hone 5 f5 rfl
  have g0 := hf 0 f0 rfl
  have g1 := hf 1 f1 rfl
  have g2 := hf 2 f2 rfl
  have g3 := hf 3 f3 rfl
  have g4 := hf 4 f4 rfl
  have g5 := hf 5 f5 rfl
  rw [o0, k0] at g0
  rw [o1, k1] at g1
  rw [o2, k2] at g2
  rw [o3, k3] at g3
  rw [o4, k4] at g4
  rw [o5, k5] at g5
  have hc6 : cs.length = 6 := hlen.trans hC
  match ys, hyl, cs, hc6 with
  | [y0, y1, y2, y3, y4, y5], _, [c0, c1, c2, c3, c4, c5], _ =>
    simp at g0 g1 g2 g3 g4 g5
    obtain ⟨k, e0, _, _⟩ := DataW.trod_int h0 g0
    obtain ⟨i, e1, _, _⟩ := DataW.trod_int h1 g1
    obtain ⟨j, e2, _, _⟩ := DataW.trod_int h2 g2
    obtain ⟨kk, e3, _, _⟩ := DataW.trod_int h3 g3
    obtain ⟨xs, ⟨v4, e4, hsl⟩, hsm⟩ := h4 enc w base spare held _ _ _ g4
    obtain ⟨s, e5, _, hs⟩ := DataW.trod_string h5 g5
    simp at e0 e1 e2 e3 e4 e5
    subst e0 e1 e2 e3 e4 e5
    exact ⟨⟨k, i, j, kk, xs, s⟩, ⟨_, rfl, hsl⟩, SmallL_of hsm, hs⟩
set_option maxRecDepth 100000 in
theorem opensEdit : Opens Tryz.prog EditE (fun e => SmallL e.part ∧ e.map.size ≤ maxLen) 26 := opens_edit Tryz.underlying26 (by kernel_rfl) (by kernel_rfl) Tryz.underlying2 Tryz.underlying2 Tryz.underlying2 Tryz.underlying2 opensGram Tryz.underlying9
set_option maxRecDepth 100000 in
theorem opensEditS : Opens Tryz.prog (SliceE EditE) (fun es => ∀ e ∈ es, SmallL e.part ∧ e.map.size ≤ maxLen) 43 := opens_slice opensEdit Tryz.underlying43 (by kernel_rfl)
set_option maxRecDepth 100000 in
theorem open_edits {H : Type} {enc : TypeId × Value → H} {w : World} {base : Nat} {spare : Nat → Bool} {held : Bool} {r : Reach} {b0 : Nat} {v : Value} {d : DataW H} {p : List MemPlace}
    (hv : Value.okWide Tryz.prog w r b0 43 v) (h : DataW.Trod enc Tryz.prog w base spare held 43 v d p) : ∃ es, Sl EditE w w.heap.size v es ∧ ∀ e ∈ es, SmallL e.part ∧ e.map.size ≤ maxLen := by
  obtain ⟨a, len, cap, rfl⟩ := okWide_slice Tryz.underlying43 hv
  obtain ⟨fuel, hf⟩ := h
  obtain ⟨es, ⟨u, e1, hsl⟩, hsm⟩ := opensEditS enc w base spare held fuel [.slice a len cap] _ (by simpa [Value.cells] using hf)
  simp at e1
  subst e1
  exact ⟨es, hsl, hsm⟩
end Go.Proofs.YtfapnipmgmpgaaaGreatDoor

