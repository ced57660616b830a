import Derived.Test.YtfapnipmgmpgaaaGreatDoorM15
import Derived.Test.YtfapnipmgmpgaaaGreatDoorM6
import Derived.Test.YtfapnipmgmpgaaaGreatDoorM13
import Derived.Test.YtfapnipmgmpgaaaGreatDoorM3
import Derived.Test.YtfapnipmgmpgaaaGreatDoorM9
import Derived.Test.YtfapnipmgmpgaaaGreatDoorM11
import Derived.Test.YtfapnipmgmpgaaaGreatDoorM14
import Derived.Test.YtfapnipmgmpgaaaGreatDoorM2
import Derived.Test.YtfapnipmgmpgaaaGreatDoorRows
import Derived.WalkKit
import Derived.ProofKit
import Derived.Below
import Derived.ChangeSame
import Derived.Lib.SmallJoins
import Derived.Carry
import Derived.WideKeyArgs
import Derived.OpenShut
namespace Go.Proofs.YtfapnipmgmpgaaaGreatDoor
open Go.RowKit

theorem turn_same {e : GEdit} (h : editOk e = true) (hk : e.kind = 5) : e = turnE e.i e.j ∧ e.part = [] := by
  obtain ⟨k, i, j, kk, part, map⟩ := e
  simp only at hk
  subst hk
  simp only [editOk, Bool.and_eq_true, inR, decide_eq_true_eq] at h
  obtain ⟨⟨⟨⟨⟨⟨⟨⟨h1, h1'⟩, h2⟩, h3⟩, h4⟩, h5⟩, h6⟩, h7⟩, h8⟩ := h
  have e1 : kk = 0 := by simpa [numOk, usesK] using h4
  have e2 : part = [] := by
    have : ¬ 0 < part.length := by simpa using h6
    exact List.eq_nil_of_length_eq_zero (by omega)
  have e3 : map.size = 0 := by simpa using h8
  have e4 : map = ⟨#[]⟩ := by
    obtain ⟨d⟩ := map
    have : d.size = 0 := e3
    have : d = #[] := Array.eq_empty_of_size_eq_zero this
    rw [this]
  subst e1 e2 e4
  exact ⟨rfl, rfl⟩
set_option maxRecDepth 100000 in
set_option maxHeartbeats 4000000 in
theorem implInverse_any (vG v : Value) (xs : List GRule) (e : GEdit) (w : World) (hG : Sl RuleE w w.heap.size vG xs) (hE : EditV w w.heap.size v e) (hn : xs.length ≤ 1048576) (hn2 : e.part.length ≤ 1048576) (hm : e.map.size ≤ maxLen) (htab : Lib.TabIs Tryz.prog w "math/bits.deBruijn64tab" .u8 deB64) :
    Calls Tryz.prog 27 #[.agg #[vG], v] w (ERes (invOut xs e) (invCode xs e) w) := by
  obtain ⟨vR, rfl, hR⟩ := hE
  have HG := Lib.hid hG
  have HR := Lib.hid hR
  have HT := Lib.hid htab
  obtain ⟨AG, cG, rfl, _⟩ := hG
  obtain ⟨AR, cR, rfl, hAc⟩ := hR
  clear htab
  go_enter Tryz.func27, Tryz.ntmps27
  go_wp2_with fail
  refine (implApply_any _ _ xs e _ (HG.out.up (by repeat (first | exact Below.refl _ _ | (refine Below.alloc ?_ (by first | omega | (simp; done) | (simp; omega)) _) | (refine Below.setCell ?_ (by first | exact Nat.le_refl _ | (show _ ≤ _; omega) | (simp; done) | (simp; omega)) _) | refine below_drewN ?_ _ | refine Below.drew ?_))) ⟨_, rfl, HR.out.up (by repeat (first | exact Below.refl _ _ | (refine Below.alloc ?_ (by first | omega | (simp; done) | (simp; omega)) _) | (refine Below.setCell ?_ (by first | exact Nat.le_refl _ | (show _ ≤ _; omega) | (simp; done) | (simp; omega)) _) | refine below_drewN ?_ _ | refine Below.drew ?_))⟩ hn hn2 hm (tabB HT.out (by repeat (first | exact Below.refl _ _ | (refine Below.alloc ?_ (by first | omega | (simp; done) | (simp; omega)) _) | (refine Below.setCell ?_ (by first | exact Nat.le_refl _ | (show _ ≤ _; omega) | (simp; done) | (simp; omega)) _) | refine below_drewN ?_ _ | refine Below.drew ?_)))).mono ?_
  rintro e w1 ⟨hb_1, v1, own1, rfl⟩
  have KE_2 : Blk w1 (w.heap.size + 1) #[.int .i64 e.kind, .int .i64 e.i, .int .i64 e.j, .int .i64 e.k, .slice AR e.part.length cR, .string e.map] 36 := by have := (Below.unalloc hb_1).2; simpa [Blk] using this
  replace hb_1 := (Below.unalloc hb_1).1
  have KP_3 : Blk w1 (w.heap.size) #[.slice AG xs.length cG] 31 := by have := (Below.unalloc hb_1).2; simpa [Blk] using this
  replace hb_1 := (Below.unalloc hb_1).1
  have z_w1 : w.heap.size ≤ w1.heap.size := hb_1.size
  have KG_4 := Lib.hid (HG.out.up hb_1)
  have KR_5 := Lib.hid (HR.out.up hb_1)
  have KB_6 := Lib.hid hb_1
  clear HG HR
  obtain ⟨A1, k1, rfl, _⟩ := own_nil own1
  clear own1
  have bZ := (Below.refl w1.heap.size w1).alloc (Nat.le_refl _) (Obj.cells #[.slice A1 (applyOut xs e).length k1] 31)
  have hbad : ∀ c : Int, applyCode xs e = c → c ≠ 0 → invOut xs e = [] ∧ invCode xs e = c := fun c h hc => by
    have hn : ¬ applyCode xs e = 0 := by omega
    exact ⟨by unfold invOut; rw [if_neg hn], by unfold invCode; rw [if_neg hn]; exact h⟩
  rcases applyCode_cases xs e with hc | hc | hc | hc
  case inr.inl =>
    have HBD := Lib.hid (hbad 1 hc (by decide))
    rw [hc]
    clear hbad hc
    go_wp2_with fail
    refine bodyPost_ret (v := .tuple #[.slice none 0 0, .int .i64 1]) (by simp [results, Tryz.results27, go_sem]) rfl ?_
    rw [HBD.out.1, HBD.out.2]
    exact ERes.mk1 (lo := w.heap.size) (Below.tr KB_6.out bZ) (oeds_zero (Below.size (Below.tr KB_6.out bZ))) (Nat.le_refl _)
  case inr.inr.inl =>
    have HBD := Lib.hid (hbad 2 hc (by decide))
    rw [hc]
    clear hbad hc
    go_wp2_with fail
    refine bodyPost_ret (v := .tuple #[.slice none 0 0, .int .i64 2]) (by simp [results, Tryz.results27, go_sem]) rfl ?_
    rw [HBD.out.1, HBD.out.2]
    exact ERes.mk1 (lo := w.heap.size) (Below.tr KB_6.out bZ) (oeds_zero (Below.size (Below.tr KB_6.out bZ))) (Nat.le_refl _)
  case inr.inr.inr =>
    have HBD := Lib.hid (hbad 3 hc (by decide))
    rw [hc]
    clear hbad hc
    go_wp2_with fail
    refine bodyPost_ret (v := .tuple #[.slice none 0 0, .int .i64 3]) (by simp [results, Tryz.results27, go_sem]) rfl ?_
    rw [HBD.out.1, HBD.out.2]
    exact ERes.mk1 (lo := w.heap.size) (Below.tr KB_6.out bZ) (oeds_zero (Below.size (Below.tr KB_6.out bZ))) (Nat.le_refl _)
  case inl =>
    have HC0 := Lib.hid hc
    have HAK := Lib.hid (applyCode_ok hc)
    have hls : lens xs = some (lsOf xs) := by
      obtain ⟨ls, h⟩ := (gram_lens (applyCode_ok hc).1).2
      simp [lsOf, h]
    have HIO := Lib.hid (show invOut xs e = (invL xs (lsOf xs) e).getD [] by unfold invOut; rw [if_pos hc])
    have HIC := Lib.hid (show invCode xs e = (if (invL xs (lsOf xs) e).isSome then 0 else 3) by unfold invCode; rw [if_pos hc])
    have hgl := gramLen_of hls
    have HF := Lib.hid (fits_nums (applyCode_ok hc).2.1 (applyCode_ok hc).2.2)
    have HK := Lib.hid (kind_ok (applyCode_ok hc).2.1)
    have hgb := gramLen_bounds xs
    obtain ⟨ls, hlq⟩ : ∃ ls, lsOf xs = ls := ⟨_, rfl⟩
    rw [hlq] at hls HIO HIC hgl
    have HL := Lib.hid hls
    have HGL := Lib.hid hgl
    have HGB := Lib.hid hgb
    rw [hc]
    clear hbad hc hls hlq hgl hgb
    have cE0_7 := Blk.cell (i := 0) (v := .int .i64 e.kind) KE_2 rfl
    have cE1_8 := Blk.cell (i := 1) (v := .int .i64 e.i) KE_2 rfl
    have cE2_9 := Blk.cell (i := 2) (v := .int .i64 e.j) KE_2 rfl
    have cE3_10 := Blk.cell (i := 3) (v := .int .i64 e.k) KE_2 rfl
    have cE4_11 := Blk.cell (i := 4) (v := .slice AR e.part.length cR) KE_2 rfl
    have cE5_12 := Blk.cell (i := 5) (v := .string e.map) KE_2 rfl
    have lE_13 := Blk.lt KE_2
    go_upto_region 4 with fail
    clear hb_1 cE0_7 cE1_8 cE2_9 cE3_10 cE4_11 cE5_12 lE_13
    generalize w1.alloc (Obj.cells #[Value.slice A1 (applyOut xs e).length k1] 31) = w2 at *
    have hb_14 := bZ
    have z_w2 : w1.heap.size ≤ w2.heap.size := hb_14.size
    have KG_15 := Lib.hid (KG_4.out.up hb_14)
    have KR_16 := Lib.hid (KR_5.out.up hb_14)
    have KE_17 := Blk.up KE_2 hb_14
    have KP_18 := Blk.up KP_3 hb_14
    have KB_19 := Lib.hid (Below.tr KB_6.out hb_14)
    clear KG_4 KR_5 KE_2 KP_3 KB_6
    rcases HK.out.1 with hk | hk | hk | hk | hkk
    · skip
      have cE0_20 := Blk.cell (i := 0) (v := .int .i64 e.kind) KE_17 rfl
      have cE1_21 := Blk.cell (i := 1) (v := .int .i64 e.i) KE_17 rfl
      have cE2_22 := Blk.cell (i := 2) (v := .int .i64 e.j) KE_17 rfl
      have cE3_23 := Blk.cell (i := 3) (v := .int .i64 e.k) KE_17 rfl
      have cE4_24 := Blk.cell (i := 4) (v := .slice AR e.part.length cR) KE_17 rfl
      have cE5_25 := Blk.cell (i := 5) (v := .string e.map) KE_17 rfl
      have lE_26 := Blk.lt KE_17
      rw [hk] at cE0_20
      have HQ := Lib.hid (show invOut xs e = [delE e.i (e.i + gramLen e.part)] ∧ invCode xs e = 0 by rw [HIO.out, HIC.out]; unfold invL; rw [if_pos hk]; exact ⟨rfl, rfl⟩)
      have hgb2 := gramLen_bounds e.part
      have hi0 : 0 ≤ e.i ∧ e.i ≤ 1000000000000000 := by have h1 := HF.out.2.1 hk; have := HGB.out; have := HF.out.1; omega
      have ws : IntKind.i64.wrap (e.i + gramLen e.part) = e.i + gramLen e.part := IntWalk.i64_in _ (by omega)
      have q1 : lenV e.part = gramLen e.part := by unfold lenV; rw [HK.out.2.1]; rfl
      clear hk
      go_wp2_with fail
      refine (LengthOf_any _ e.part _ (KR_16.out.up (by repeat (first | exact Below.refl _ _ | (refine Below.alloc ?_ (by first | omega | (simp; done) | (simp; omega)) _) | (refine Below.setCell ?_ (by first | exact Nat.le_refl _ | (show _ ≤ _; omega) | (simp; done) | (simp; omega)) _) | refine below_drewN ?_ _ | refine Below.drew ?_))) (by omega)).mono ?_
      rintro e w3 ⟨rfl, hb_27⟩
      have z_w3 : w2.heap.size ≤ w3.heap.size := hb_27.size
      have KG_28 := Lib.hid (KG_15.out.up hb_27)
      have KR_29 := Lib.hid (KR_16.out.up hb_27)
      have KE_30 := Blk.up KE_17 hb_27
      have KP_31 := Blk.up KP_18 hb_27
      have KB_32 := Lib.hid (Below.tr KB_19.out hb_27)
      clear hb_14 cE0_20 cE1_21 cE2_22 cE3_23 cE4_24 cE5_25 lE_26 KG_15 KR_16 KE_17 KP_18 KB_19
      rw [q1]
      clear q1
      have cE0_33 := Blk.cell (i := 0) (v := .int .i64 e.kind) KE_30 rfl
      have cE1_34 := Blk.cell (i := 1) (v := .int .i64 e.i) KE_30 rfl
      have cE2_35 := Blk.cell (i := 2) (v := .int .i64 e.j) KE_30 rfl
      have cE3_36 := Blk.cell (i := 3) (v := .int .i64 e.k) KE_30 rfl
      have cE4_37 := Blk.cell (i := 4) (v := .slice AR e.part.length cR) KE_30 rfl
      have cE5_38 := Blk.cell (i := 5) (v := .string e.map) KE_30 rfl
      have lE_39 := Blk.lt KE_30
      go_wp2_with fail
      refine bodyPost_ret (v := .tuple #[.slice (some ⟨w3.heap.size, 0, none⟩) 1 1, .int .i64 0]) (by simp [results, Tryz.results27, go_sem]) rfl ?_
      rw [HQ.out.1, HQ.out.2]
      exact ERes.mk1 (lo := w.heap.size) (Below.alloc KB_32.out (Below.size KB_32.out) _) (oeds_one (e := delE e.i (e.i + gramLen e.part)) (u := .slice none 0 0) rfl (Below.size KB_32.out) (.inl ⟨rfl, none, 0, rfl, Nat.zero_le _⟩)) (Nat.le_refl _)
    · skip
      have cE0_40 := Blk.cell (i := 0) (v := .int .i64 e.kind) KE_17 rfl
      have cE1_41 := Blk.cell (i := 1) (v := .int .i64 e.i) KE_17 rfl
      have cE2_42 := Blk.cell (i := 2) (v := .int .i64 e.j) KE_17 rfl
      have cE3_43 := Blk.cell (i := 3) (v := .int .i64 e.k) KE_17 rfl
      have cE4_44 := Blk.cell (i := 4) (v := .slice AR e.part.length cR) KE_17 rfl
      have cE5_45 := Blk.cell (i := 5) (v := .string e.map) KE_17 rfl
      have lE_46 := Blk.lt KE_17
      rw [hk] at cE0_40
      have HKE := Lib.hid hk
      have hij : 0 ≤ e.i ∧ e.i ≤ e.j ∧ e.j ≤ 1000000000000000 := by have h0 := HF.out.1; have h1 := HF.out.2.2.1 (by omega); have := HGB.out; omega
      have ws : IntKind.i64.wrap (e.j - e.i) = e.j - e.i := IntWalk.i64_in _ (by omega)
      by_cases hz : e.j - e.i = 0
      · have HQ := Lib.hid (show invOut xs e = [] ∧ invCode xs e = 0 by rw [HIO.out, HIC.out]; unfold invL; rw [if_neg (by omega), if_pos hz]; exact ⟨rfl, rfl⟩)
        clear hk
        go_wp2_with fail
        refine bodyPost_ret (v := .tuple #[.slice none 0 0, .int .i64 0]) (by simp [results, Tryz.results27, go_sem]) rfl ?_
        rw [HQ.out.1, HQ.out.2]
        exact ERes.mk1 (lo := w.heap.size) KB_19.out (oeds_zero (Below.size KB_19.out)) (Nat.le_refl _)
      · skip
        have hs2 := Below.size KB_19.out
        have hrange : 0 ≤ e.i ∧ e.i ≤ e.j ∧ e.j ≤ lastI ls := by have h0 := HF.out.1; have h1 := HF.out.2.2.1 (by omega); have := HGL.out; omega
        have HY := Lib.hid (partOut_yes HAK.out.1 HL.out hrange)
        have HGP := Lib.hid (partG_gramLen HL.out hrange.1 hrange.2.1 hrange.2.2)
        clear hk
        have cP0_47 := Blk.cell (i := 0) (v := .slice AG xs.length cG) KP_18 rfl
        have lP_48 := Blk.lt KP_18
        go_wp2_with fail
        refine (implPart_any _ xs e.i e.j _ (KG_15.out.up (by repeat (first | exact Below.refl _ _ | (refine Below.alloc ?_ (by first | omega | (simp; done) | (simp; omega)) _) | (refine Below.setCell ?_ (by first | exact Nat.le_refl _ | (show _ ≤ _; omega) | (simp; done) | (simp; omega)) _) | refine below_drewN ?_ _ | refine Below.drew ?_))) hn).mono ?_
        rintro e w3 ⟨hb_49, v9, own9, rfl⟩
        have z_w3 : w2.heap.size ≤ w3.heap.size := hb_49.size
        have KG_50 := Lib.hid (KG_15.out.up hb_49)
        have KR_51 := Lib.hid (KR_16.out.up hb_49)
        have KE_52 := Blk.up KE_17 hb_49
        have KP_53 := Blk.up KP_18 hb_49
        have KB_54 := Lib.hid (Below.tr KB_19.out hb_49)
        clear hb_14 cE0_40 cE1_41 cE2_42 cE3_43 cE4_44 cE5_45 lE_46 cP0_47 lP_48 KG_15 KR_16 KE_17 KP_18 KB_19
        rw [HY.out.1] at own9
        rw [HY.out.2]
        obtain ⟨A9, c9, rfl, _⟩ := own_nil own9
        have bZ := (Below.refl w3.heap.size w3).alloc (Nat.le_refl _) (Obj.cells #[.slice A9 (limOut (partG xs ls e.i e.j)).length c9] 31)
        have KZ := Blk.new w3 #[.slice A9 (limOut (partG xs ls e.i e.j)).length c9] 31
        have KO4 := OwnRules.below own9 bZ
        go_upto_region 20 with fail
        generalize w3.alloc (Obj.cells #[Value.slice A9 (limOut (partG xs ls e.i e.j)).length c9] 31) = w4 at *
        clear own9
        have hb_55 := bZ
        have z_w4 : w3.heap.size ≤ w4.heap.size := hb_55.size
        have KG_56 := Lib.hid (KG_50.out.up hb_55)
        have KR_57 := Lib.hid (KR_51.out.up hb_55)
        have KE_58 := Blk.up KE_52 hb_55
        have KP_59 := Blk.up KP_53 hb_55
        have KB_60 := Lib.hid (Below.tr KB_54.out hb_55)
        clear hb_49 KG_50 KR_51 KE_52 KP_53 KB_54
        have HO4 := Lib.hid KO4
        have HZ4 := Lib.hid KZ
        clear KO4 KZ
        have hs34 : w2.heap.size ≤ w4.heap.size := by omega
        have lE4 := Blk.lt KE_58
        cases hq : gramOk (partG xs ls e.i e.j) with
        | false =>
          have q2 : limCode (partG xs ls e.i e.j) = 3 := by unfold limCode; rw [hq]; rfl
          have HQ := Lib.hid (show invOut xs e = [] ∧ invCode xs e = 3 by rw [HIO.out, HIC.out]; unfold invL; have := HKE.out; rw [if_neg (by omega), if_neg hz, if_neg (by omega), if_neg (by omega), if_neg (by omega), hq]; exact ⟨rfl, rfl⟩)
          rw [q2]
          clear hq q2
          go_wp2_with fail
          refine bodyPost_ret (v := .tuple #[.slice none 0 0, .int .i64 3]) (by simp [results, Tryz.results27, go_sem]) rfl ?_
          rw [HQ.out.1, HQ.out.2]
          exact ERes.mk1 (lo := w.heap.size) KB_60.out (oeds_zero (Below.size KB_60.out)) (Nat.le_refl _)
        | true =>
          have q1 : limOut (partG xs ls e.i e.j) = partG xs ls e.i e.j := by unfold limOut; rw [hq]; rfl
          have q2 : limCode (partG xs ls e.i e.j) = 0 := by unfold limCode; rw [hq]; rfl
          have HQ := Lib.hid (show invOut xs e = invD e ++ [insE e.i (partG xs ls e.i e.j)] ∧ invCode xs e = 0 by rw [HIO.out, HIC.out]; unfold invL; have := HKE.out; rw [if_neg (by omega), if_neg hz, if_neg (by omega), if_neg (by omega), if_neg (by omega), hq]; exact ⟨rfl, rfl⟩)
          rw [q1] at HZ4 HO4
          rw [q2]
          clear q1 q2 hq HY
          generalize partG xs ls e.i e.j = p at *
          have KZ5 := HZ4.out
          have lZ := KZ5.lt
          have bA := (Below.refl w4.heap.size w4).alloc (Nat.le_refl _) (Obj.cells #[] 36)
          have HKO := Lib.hid (oedp_empty (W := w4) (lo := w2.heap.size) rfl hs34)
          have HO5 := Lib.hid (OwnRules.below HO4.out bA)
          have hs5 : w4.heap.size < (w4.alloc (Obj.cells #[] 36)).heap.size := by simp
          go_upto_region 23 with fail
          generalize w4.alloc (Obj.cells #[] 36) = w5 at *
          have hb_61 := bA
          have z_w5 : w4.heap.size ≤ w5.heap.size := hb_61.size
          have KG_62 := Lib.hid (KG_56.out.up hb_61)
          have KR_63 := Lib.hid (KR_57.out.up hb_61)
          have KE_64 := Blk.up KE_58 hb_61
          have KP_65 := Blk.up KP_59 hb_61
          have KB_66 := Lib.hid (Below.tr KB_60.out hb_61)
          have KZ_67 := Blk.up KZ5 hb_61
          clear hb_55 KG_56 KR_57 KE_58 KP_59 KB_60 KZ5
          have HD := Lib.hid (show invD e = [] by unfold invD; rw [if_pos HKE.out])
          have cE0_68 := Blk.cell (i := 0) (v := .int .i64 e.kind) KE_64 rfl
          have cE1_69 := Blk.cell (i := 1) (v := .int .i64 e.i) KE_64 rfl
          have cE2_70 := Blk.cell (i := 2) (v := .int .i64 e.j) KE_64 rfl
          have cE3_71 := Blk.cell (i := 3) (v := .int .i64 e.k) KE_64 rfl
          have cE4_72 := Blk.cell (i := 4) (v := .slice AR e.part.length cR) KE_64 rfl
          have cE5_73 := Blk.cell (i := 5) (v := .string e.map) KE_64 rfl
          have lE_74 := Blk.lt KE_64
          have cZ0_75 := Blk.cell (i := 0) (v := .slice A9 p.length c9) KZ_67 rfl
          have lZ_76 := Blk.lt KZ_67
          rw [HKE.out] at cE0_68
          go_wp2_with (first
            | (at_builtin; refine push_edit (W := w5) (N := w5.heap.size) (e := insE e.i p) (u := .slice A9 p.length c9) (lo := w2.heap.size) (hp := w2.heap.size) (pa := w2.heap.size) (pb := w4.heap.size) (v := .slice (some ⟨w4.heap.size, 0, none⟩) 0 0) (es := []) rfl _ _ rfl rfl rfl rfl HKO.out (by simp) (by omega) (by simp [Value.oneCell']) ⟨.inr ⟨HO5.out, fun g hg => (World.ownsRow.lt HO4.out g hg).2, (by omega)⟩, fun g hg => by simp [Value.ownBlock] at hg; omega⟩ (Nat.le_refl _) hs34 (by omega) (Nat.le_refl _) ?_; intro g9 c9' w9 own9 hg9 hgr9 hb9))
          refine bodyPost_ret (v := .tuple #[.slice (some ⟨g9, 0, none⟩) 1 c9', .int .i64 0]) (by simp [results, Tryz.results27, go_sem]) rfl ?_
          rw [HQ.out.1, HQ.out.2, HD.out]
          exact ERes.mk1 (lo := w2.heap.size) (Below.trans KB_66.out (hb9.mono hs2)) (OEdP.oeds own9 (by have h : w5.heap.size ≤ w9.heap.size := hb9.size; omega)) hs2
    · skip
      have cE0_77 := Blk.cell (i := 0) (v := .int .i64 e.kind) KE_17 rfl
      have cE1_78 := Blk.cell (i := 1) (v := .int .i64 e.i) KE_17 rfl
      have cE2_79 := Blk.cell (i := 2) (v := .int .i64 e.j) KE_17 rfl
      have cE3_80 := Blk.cell (i := 3) (v := .int .i64 e.k) KE_17 rfl
      have cE4_81 := Blk.cell (i := 4) (v := .slice AR e.part.length cR) KE_17 rfl
      have cE5_82 := Blk.cell (i := 5) (v := .string e.map) KE_17 rfl
      have lE_83 := Blk.lt KE_17
      rw [hk] at cE0_77
      have HKE := Lib.hid hk
      have hij : 0 ≤ e.i ∧ e.i ≤ e.j ∧ e.j ≤ 1000000000000000 := by have h0 := HF.out.1; have h1 := HF.out.2.2.1 (by omega); have := HGB.out; omega
      have ws : IntKind.i64.wrap (e.j - e.i) = e.j - e.i := IntWalk.i64_in _ (by omega)
      by_cases hz : e.j - e.i = 0
      · have HQ := Lib.hid (show invOut xs e = [] ∧ invCode xs e = 0 by rw [HIO.out, HIC.out]; unfold invL; rw [if_neg (by omega), if_pos hz]; exact ⟨rfl, rfl⟩)
        clear hk
        go_wp2_with fail
        refine bodyPost_ret (v := .tuple #[.slice none 0 0, .int .i64 0]) (by simp [results, Tryz.results27, go_sem]) rfl ?_
        rw [HQ.out.1, HQ.out.2]
        exact ERes.mk1 (lo := w.heap.size) KB_19.out (oeds_zero (Below.size KB_19.out)) (Nat.le_refl _)
      · have HQ := Lib.hid (show invOut xs e = [delE e.k (e.k + (e.j - e.i))] ∧ invCode xs e = 0 by rw [HIO.out, HIC.out]; unfold invL; rw [if_neg (by omega), if_neg hz, if_pos hk]; exact ⟨rfl, rfl⟩)
        have hkb : 0 ≤ e.k ∧ e.k ≤ 1000000000000000 := by have h1 := HF.out.2.2.2.1 hk; have := HGB.out; omega
        have wk : IntKind.i64.wrap (e.k + (e.j - e.i)) = e.k + (e.j - e.i) := IntWalk.i64_in _ (by omega)
        clear hk
        go_wp2_with fail
        refine bodyPost_ret (v := .tuple #[.slice (some ⟨w2.heap.size, 0, none⟩) 1 1, .int .i64 0]) (by simp [results, Tryz.results27, go_sem]) rfl ?_
        rw [HQ.out.1, HQ.out.2]
        exact ERes.mk1 (lo := w.heap.size) (Below.alloc KB_19.out (Below.size KB_19.out) _) (oeds_one (e := delE e.k (e.k + (e.j - e.i))) (u := .slice none 0 0) rfl (Below.size KB_19.out) (.inl ⟨rfl, none, 0, rfl, Nat.zero_le _⟩)) (Nat.le_refl _)
    · skip
      have cE0_84 := Blk.cell (i := 0) (v := .int .i64 e.kind) KE_17 rfl
      have cE1_85 := Blk.cell (i := 1) (v := .int .i64 e.i) KE_17 rfl
      have cE2_86 := Blk.cell (i := 2) (v := .int .i64 e.j) KE_17 rfl
      have cE3_87 := Blk.cell (i := 3) (v := .int .i64 e.k) KE_17 rfl
      have cE4_88 := Blk.cell (i := 4) (v := .slice AR e.part.length cR) KE_17 rfl
      have cE5_89 := Blk.cell (i := 5) (v := .string e.map) KE_17 rfl
      have lE_90 := Blk.lt KE_17
      rw [hk] at cE0_84
      have HKE := Lib.hid hk
      have hij : 0 ≤ e.i ∧ e.i ≤ e.j ∧ e.j ≤ 1000000000000000 := by have h0 := HF.out.1; have h1 := HF.out.2.2.1 (by omega); have := HGB.out; omega
      have ws : IntKind.i64.wrap (e.j - e.i) = e.j - e.i := IntWalk.i64_in _ (by omega)
      by_cases hz : e.j - e.i = 0
      · have HQ := Lib.hid (show invOut xs e = [] ∧ invCode xs e = 0 by rw [HIO.out, HIC.out]; unfold invL; rw [if_neg (by omega), if_pos hz]; exact ⟨rfl, rfl⟩)
        clear hk
        go_wp2_with fail
        refine bodyPost_ret (v := .tuple #[.slice none 0 0, .int .i64 0]) (by simp [results, Tryz.results27, go_sem]) rfl ?_
        rw [HQ.out.1, HQ.out.2]
        exact ERes.mk1 (lo := w.heap.size) KB_19.out (oeds_zero (Below.size KB_19.out)) (Nat.le_refl _)
      · have hkb : 0 ≤ e.k ∧ e.k ≤ 1000000000000000 := by have h1 := HF.out.2.2.2.2 hk; have := HGB.out; omega
        have wk : IntKind.i64.wrap (e.k + (e.j - e.i)) = e.k + (e.j - e.i) := IntWalk.i64_in _ (by omega)
        have wl : IntKind.i64.wrap (e.k - (e.j - e.i)) = e.k - (e.j - e.i) := IntWalk.i64_in _ (by omega)
        by_cases hki : e.k ≤ e.i
        · have HQ := Lib.hid (show invOut xs e = [movE e.k (e.k + (e.j - e.i)) e.j] ∧ invCode xs e = 0 by rw [HIO.out, HIC.out]; unfold invL; rw [if_neg (by omega), if_neg hz, if_neg (by omega), if_pos hk, if_pos hki]; exact ⟨rfl, rfl⟩)
          clear hk
          go_wp2_with fail
          refine bodyPost_ret (v := .tuple #[.slice (some ⟨w2.heap.size, 0, none⟩) 1 1, .int .i64 0]) (by simp [results, Tryz.results27, go_sem]) rfl ?_
          rw [HQ.out.1, HQ.out.2]
          exact ERes.mk1 (lo := w.heap.size) (Below.alloc KB_19.out (Below.size KB_19.out) _) (oeds_one (e := movE e.k (e.k + (e.j - e.i)) e.j) (u := .slice none 0 0) rfl (Below.size KB_19.out) (.inl ⟨rfl, none, 0, rfl, Nat.zero_le _⟩)) (Nat.le_refl _)
        · have HQ := Lib.hid (show invOut xs e = [movE (e.k - (e.j - e.i)) e.k e.i] ∧ invCode xs e = 0 by rw [HIO.out, HIC.out]; unfold invL; rw [if_neg (by omega), if_neg hz, if_neg (by omega), if_pos hk, if_neg hki]; exact ⟨rfl, rfl⟩)
          clear hk
          go_wp2_with fail
          refine bodyPost_ret (v := .tuple #[.slice (some ⟨w2.heap.size, 0, none⟩) 1 1, .int .i64 0]) (by simp [results, Tryz.results27, go_sem]) rfl ?_
          rw [HQ.out.1, HQ.out.2]
          exact ERes.mk1 (lo := w.heap.size) (Below.alloc KB_19.out (Below.size KB_19.out) _) (oeds_one (e := movE (e.k - (e.j - e.i)) e.k e.i) (u := .slice none 0 0) rfl (Below.size KB_19.out) (.inl ⟨rfl, none, 0, rfl, Nat.zero_le _⟩)) (Nat.le_refl _)
    · have HCK := Lib.hid hkk
      have hk567 : e.kind = 5 ∨ e.kind = 6 ∨ e.kind = 7 := by unfold chgOK at hkk; omega
      clear hkk
      rcases hk567 with hk | hk | hk
      · skip
        have cE0_91 := Blk.cell (i := 0) (v := .int .i64 e.kind) KE_17 rfl
        have cE1_92 := Blk.cell (i := 1) (v := .int .i64 e.i) KE_17 rfl
        have cE2_93 := Blk.cell (i := 2) (v := .int .i64 e.j) KE_17 rfl
        have cE3_94 := Blk.cell (i := 3) (v := .int .i64 e.k) KE_17 rfl
        have cE4_95 := Blk.cell (i := 4) (v := .slice AR e.part.length cR) KE_17 rfl
        have cE5_96 := Blk.cell (i := 5) (v := .string e.map) KE_17 rfl
        have lE_97 := Blk.lt KE_17
        rw [hk] at cE0_91
        have HKE := Lib.hid hk
        have hij : 0 ≤ e.i ∧ e.i ≤ e.j ∧ e.j ≤ 1000000000000000 := by have h0 := HF.out.1; have h1 := HF.out.2.2.1 (by omega); have := HGB.out; omega
        have ws : IntKind.i64.wrap (e.j - e.i) = e.j - e.i := IntWalk.i64_in _ (by omega)
        by_cases hz : e.j - e.i = 0
        · have HQ := Lib.hid (show invOut xs e = [] ∧ invCode xs e = 0 by rw [HIO.out, HIC.out]; unfold invL; rw [if_neg (by omega), if_pos hz]; exact ⟨rfl, rfl⟩)
          clear hk
          go_wp2_with fail
          refine bodyPost_ret (v := .tuple #[.slice none 0 0, .int .i64 0]) (by simp [results, Tryz.results27, go_sem]) rfl ?_
          rw [HQ.out.1, HQ.out.2]
          exact ERes.mk1 (lo := w.heap.size) KB_19.out (oeds_zero (Below.size KB_19.out)) (Nat.le_refl _)
        · obtain ⟨hts, htp⟩ := turn_same HAK.out.2.1 hk
          have HQ := Lib.hid (show invOut xs e = [e] ∧ invCode xs e = 0 by rw [HIO.out, HIC.out]; unfold invL; rw [if_neg (by omega), if_neg hz, if_neg (by omega), if_neg (by omega), if_pos hk]; exact ⟨by rw [← hts]; rfl, rfl⟩)
          have HTP := Lib.hid htp
          have hlp : e.part.length = 0 := by rw [htp]; rfl
          have HKE5 := Lib.hid hk
          clear hk hts htp
          go_wp2_with fail
          refine bodyPost_ret (v := .tuple #[.slice (some ⟨w2.heap.size, 0, none⟩) 1 1, .int .i64 0]) (by simp [results, Tryz.results27, go_sem]) rfl ?_
          rw [HQ.out.1, HQ.out.2]
          have h1 := oeds_one (W := w2) (lo := w.heap.size) (e := e) (u := .slice AR e.part.length cR) rfl (Below.size KB_19.out) (.inl ⟨HTP.out, AR, cR, by rw [hlp], hAc.2.1⟩)
          rw [HKE5.out] at h1
          rw [hlp] at h1
          exact ERes.mk1 (lo := w.heap.size) (Below.alloc KB_19.out (Below.size KB_19.out) _) h1 (Nat.le_refl _)
      · skip
        have cE0_98 := Blk.cell (i := 0) (v := .int .i64 e.kind) KE_17 rfl
        have cE1_99 := Blk.cell (i := 1) (v := .int .i64 e.i) KE_17 rfl
        have cE2_100 := Blk.cell (i := 2) (v := .int .i64 e.j) KE_17 rfl
        have cE3_101 := Blk.cell (i := 3) (v := .int .i64 e.k) KE_17 rfl
        have cE4_102 := Blk.cell (i := 4) (v := .slice AR e.part.length cR) KE_17 rfl
        have cE5_103 := Blk.cell (i := 5) (v := .string e.map) KE_17 rfl
        have lE_104 := Blk.lt KE_17
        rw [hk] at cE0_98
        have HKE := Lib.hid hk
        have hij : 0 ≤ e.i ∧ e.i ≤ e.j ∧ e.j ≤ 1000000000000000 := by have h0 := HF.out.1; have h1 := HF.out.2.2.1 (by omega); have := HGB.out; omega
        have ws : IntKind.i64.wrap (e.j - e.i) = e.j - e.i := IntWalk.i64_in _ (by omega)
        by_cases hz : e.j - e.i = 0
        · have HQ := Lib.hid (show invOut xs e = [] ∧ invCode xs e = 0 by rw [HIO.out, HIC.out]; unfold invL; rw [if_neg (by omega), if_pos hz]; exact ⟨rfl, rfl⟩)
          clear hk
          go_wp2_with fail
          refine bodyPost_ret (v := .tuple #[.slice none 0 0, .int .i64 0]) (by simp [results, Tryz.results27, go_sem]) rfl ?_
          rw [HQ.out.1, HQ.out.2]
          exact ERes.mk1 (lo := w.heap.size) KB_19.out (oeds_zero (Below.size KB_19.out)) (Nat.le_refl _)
        · skip
          have hs2 := Below.size KB_19.out
          have hrange : 0 ≤ e.i ∧ e.i ≤ e.j ∧ e.j ≤ lastI ls := by have h0 := HF.out.1; have h1 := HF.out.2.2.1 (by omega); have := HGL.out; omega
          have HY := Lib.hid (partOut_yes HAK.out.1 HL.out hrange)
          have HGP := Lib.hid (partG_gramLen HL.out hrange.1 hrange.2.1 hrange.2.2)
          have HRB := Lib.hid (rep_bound HC0.out HKE.out HL.out HGP.out)
          clear hk
          have cP0_105 := Blk.cell (i := 0) (v := .slice AG xs.length cG) KP_18 rfl
          have lP_106 := Blk.lt KP_18
          go_wp2_with fail
          refine (implPart_any _ xs e.i e.j _ (KG_15.out.up (by repeat (first | exact Below.refl _ _ | (refine Below.alloc ?_ (by first | omega | (simp; done) | (simp; omega)) _) | (refine Below.setCell ?_ (by first | exact Nat.le_refl _ | (show _ ≤ _; omega) | (simp; done) | (simp; omega)) _) | refine below_drewN ?_ _ | refine Below.drew ?_))) hn).mono ?_
          rintro e w3 ⟨hb_107, v9, own9, rfl⟩
          have z_w3 : w2.heap.size ≤ w3.heap.size := hb_107.size
          have KG_108 := Lib.hid (KG_15.out.up hb_107)
          have KR_109 := Lib.hid (KR_16.out.up hb_107)
          have KE_110 := Blk.up KE_17 hb_107
          have KP_111 := Blk.up KP_18 hb_107
          have KB_112 := Lib.hid (Below.tr KB_19.out hb_107)
          clear hb_14 cE0_98 cE1_99 cE2_100 cE3_101 cE4_102 cE5_103 lE_104 cP0_105 lP_106 KG_15 KR_16 KE_17 KP_18 KB_19
          rw [HY.out.1] at own9
          rw [HY.out.2]
          obtain ⟨A9, c9, rfl, _⟩ := own_nil own9
          have bZ := (Below.refl w3.heap.size w3).alloc (Nat.le_refl _) (Obj.cells #[.slice A9 (limOut (partG xs ls e.i e.j)).length c9] 31)
          have KZ := Blk.new w3 #[.slice A9 (limOut (partG xs ls e.i e.j)).length c9] 31
          have KO4 := OwnRules.below own9 bZ
          go_upto_region 20 with fail
          generalize w3.alloc (Obj.cells #[Value.slice A9 (limOut (partG xs ls e.i e.j)).length c9] 31) = w4 at *
          clear own9
          have hb_113 := bZ
          have z_w4 : w3.heap.size ≤ w4.heap.size := hb_113.size
          have KG_114 := Lib.hid (KG_108.out.up hb_113)
          have KR_115 := Lib.hid (KR_109.out.up hb_113)
          have KE_116 := Blk.up KE_110 hb_113
          have KP_117 := Blk.up KP_111 hb_113
          have KB_118 := Lib.hid (Below.tr KB_112.out hb_113)
          clear hb_107 KG_108 KR_109 KE_110 KP_111 KB_112
          have HO4 := Lib.hid KO4
          have HZ4 := Lib.hid KZ
          clear KO4 KZ
          have hs34 : w2.heap.size ≤ w4.heap.size := by omega
          have lE4 := Blk.lt KE_116
          cases hq : gramOk (partG xs ls e.i e.j) with
          | false =>
            have q2 : limCode (partG xs ls e.i e.j) = 3 := by unfold limCode; rw [hq]; rfl
            have HQ := Lib.hid (show invOut xs e = [] ∧ invCode xs e = 3 by rw [HIO.out, HIC.out]; unfold invL; have := HKE.out; rw [if_neg (by omega), if_neg hz, if_neg (by omega), if_neg (by omega), if_neg (by omega), hq]; exact ⟨rfl, rfl⟩)
            rw [q2]
            clear hq q2
            go_wp2_with fail
            refine bodyPost_ret (v := .tuple #[.slice none 0 0, .int .i64 3]) (by simp [results, Tryz.results27, go_sem]) rfl ?_
            rw [HQ.out.1, HQ.out.2]
            exact ERes.mk1 (lo := w.heap.size) KB_118.out (oeds_zero (Below.size KB_118.out)) (Nat.le_refl _)
          | true =>
            have q1 : limOut (partG xs ls e.i e.j) = partG xs ls e.i e.j := by unfold limOut; rw [hq]; rfl
            have q2 : limCode (partG xs ls e.i e.j) = 0 := by unfold limCode; rw [hq]; rfl
            have HQ := Lib.hid (show invOut xs e = invD e ++ [insE e.i (partG xs ls e.i e.j)] ∧ invCode xs e = 0 by rw [HIO.out, HIC.out]; unfold invL; have := HKE.out; rw [if_neg (by omega), if_neg hz, if_neg (by omega), if_neg (by omega), if_neg (by omega), hq]; exact ⟨rfl, rfl⟩)
            rw [q1] at HZ4 HO4
            rw [q2]
            clear q1 q2 hq HY
            generalize partG xs ls e.i e.j = p at *
            have KZ5 := HZ4.out
            have lZ := KZ5.lt
            have bA := (Below.refl w4.heap.size w4).alloc (Nat.le_refl _) (Obj.cells #[] 36)
            have HKO := Lib.hid (oedp_empty (W := w4) (lo := w2.heap.size) rfl hs34)
            have HO5 := Lib.hid (OwnRules.below HO4.out bA)
            have hs5 : w4.heap.size < (w4.alloc (Obj.cells #[] 36)).heap.size := by simp
            go_upto_region 23 with fail
            generalize w4.alloc (Obj.cells #[] 36) = w5 at *
            have hb_119 := bA
            have z_w5 : w4.heap.size ≤ w5.heap.size := hb_119.size
            have KG_120 := Lib.hid (KG_114.out.up hb_119)
            have KR_121 := Lib.hid (KR_115.out.up hb_119)
            have KE_122 := Blk.up KE_116 hb_119
            have KP_123 := Blk.up KP_117 hb_119
            have KB_124 := Lib.hid (Below.tr KB_118.out hb_119)
            have KZ_125 := Blk.up KZ5 hb_119
            clear hb_113 KG_114 KR_115 KE_116 KP_117 KB_118 KZ5
            have hk0 : 0 ≤ e.k := by rcases HK.out.1 with h | h | h | h | h | ⟨_, h, _⟩ | ⟨h, _⟩ <;> (have := HKE.out; omega)
            have hrb := HRB.out
            rw [Int.mul_comm] at hrb
            have wm : IntKind.i64.wrap (e.k * (e.j - e.i)) = e.k * (e.j - e.i) := IntWalk.i64_in _ (by have := Int.mul_nonneg hk0 (show 0 ≤ e.j - e.i by omega); omega)
            have hm0 : 0 ≤ e.k * (e.j - e.i) := Int.mul_nonneg hk0 (by omega)
            by_cases h0 : 0 < e.k
            · have hmp : 0 < e.k * (e.j - e.i) := Int.mul_pos h0 (by omega)
              obtain ⟨M, hM⟩ : ∃ M, e.k * (e.j - e.i) = M := ⟨_, rfl⟩
              rw [hM] at wm hrb hm0 hmp
              have HM := Lib.hid hM
              have HD := Lib.hid (show invD e = [delE e.i (e.i + M)] by unfold invD; rw [if_neg (by have := HKE.out; omega), if_pos HKE.out, Int.mul_comm, hM, if_pos hmp])
              have wa : IntKind.i64.wrap (e.i + M) = e.i + M := IntWalk.i64_in _ (by omega)
              have cE0_126 := Blk.cell (i := 0) (v := .int .i64 e.kind) KE_122 rfl
              have cE1_127 := Blk.cell (i := 1) (v := .int .i64 e.i) KE_122 rfl
              have cE2_128 := Blk.cell (i := 2) (v := .int .i64 e.j) KE_122 rfl
              have cE3_129 := Blk.cell (i := 3) (v := .int .i64 e.k) KE_122 rfl
              have cE4_130 := Blk.cell (i := 4) (v := .slice AR e.part.length cR) KE_122 rfl
              have cE5_131 := Blk.cell (i := 5) (v := .string e.map) KE_122 rfl
              have lE_132 := Blk.lt KE_122
              have cZ0_133 := Blk.cell (i := 0) (v := .slice A9 p.length c9) KZ_125 rfl
              have lZ_134 := Blk.lt KZ_125
              rw [HKE.out] at cE0_126
              have hlE := Blk.lt KE_122
              go_upto_region 27 with (first
                | (at_builtin; refine push_edit (W := w5) (N := w5.heap.size) (e := delE e.i (e.i + M)) (u := .slice none 0 0) (lo := w2.heap.size) (hp := w2.heap.size) (pa := w2.heap.size) (pb := w2.heap.size) (v := .slice (some ⟨w4.heap.size, 0, none⟩) 0 0) (es := []) rfl _ _ rfl rfl rfl rfl HKO.out (by simp) (by omega) (by simp [Value.oneCell']) ⟨.inl ⟨rfl, none, 0, rfl, Nat.zero_le _⟩, fun g hg => by simp [Value.ownBlock] at hg; omega⟩ (Nat.le_refl _) (Nat.le_refl _) (by omega) (Nat.le_refl _) ?_; intro g6 c6 w6 own6 hg6 hgr6 hb6))
              have keep6 : ∀ x, x < w4.heap.size → w6.heap[x]? = w5.heap[x]? := fun x hx => hgr6.block x (by omega) (fun e => by simp [Value.ownBlock] at e; omega)
              have hg66 : w4.heap.size ≤ g6 := by
                rcases hg6 with h | h
                · simp [Value.ownBlock] at h; omega
                · omega
              have KE6 : Blk w6 (w.heap.size + 1) #[.int .i64 e.kind, .int .i64 e.i, .int .i64 e.j, .int .i64 e.k, .slice AR e.part.length cR, .string e.map] 36 := (keep6 _ lE4).trans KE_122
              have KZ6 : Blk w6 w3.heap.size #[.slice A9 p.length c9] 31 := (keep6 _ lZ).trans KZ_125
              have HO6 := Lib.hid (own_keep HO5.out (fun g hg => keep6 g (World.ownsRow.lt HO4.out g hg).2))
              have HO66 := Lib.hid own6
              have HB6 := Lib.hid (Below.trans KB_124.out (hb6.mono hs2))
              have hs56 : w5.heap.size ≤ w6.heap.size := hgr6.size
              clear hb_119 cE0_126 cE1_127 cE2_128 cE3_129 cE4_130 cE5_131 lE_132 cZ0_133 lZ_134
              clear own6 hg6 hgr6 hb6 keep6 hlE
              have cE0_135 := Blk.cell (i := 0) (v := .int .i64 e.kind) KE6 rfl
              have cE1_136 := Blk.cell (i := 1) (v := .int .i64 e.i) KE6 rfl
              have cE2_137 := Blk.cell (i := 2) (v := .int .i64 e.j) KE6 rfl
              have cE3_138 := Blk.cell (i := 3) (v := .int .i64 e.k) KE6 rfl
              have cE4_139 := Blk.cell (i := 4) (v := .slice AR e.part.length cR) KE6 rfl
              have cE5_140 := Blk.cell (i := 5) (v := .string e.map) KE6 rfl
              have lE_141 := Blk.lt KE6
              have cZ0_142 := Blk.cell (i := 0) (v := .slice A9 p.length c9) KZ6 rfl
              have lZ_143 := Blk.lt KZ6
              rw [HKE.out] at cE0_135
              go_wp2_with (first
                | (at_builtin; refine push_edit (W := w6) (N := w6.heap.size) (e := insE e.i p) (u := .slice A9 p.length c9) (lo := w2.heap.size) (hp := w2.heap.size) (pa := w2.heap.size) (pb := w4.heap.size) (v := .slice (some ⟨g6, 0, none⟩) 1 c6) (es := [delE e.i (e.i + M)]) rfl _ _ rfl rfl rfl rfl HO66.out (by simp) (by omega) (by simp [Value.oneCell']) ⟨.inr ⟨HO6.out, fun g hg => (World.ownsRow.lt HO4.out g hg).2, (by omega)⟩, fun g hg => by simp [Value.ownBlock] at hg; omega⟩ (Nat.le_refl _) hs34 (by omega) (Nat.le_refl _) ?_; intro g9 c9' w9 own9 hg9 hgr9 hb9))
              refine bodyPost_ret (v := .tuple #[.slice (some ⟨g9, 0, none⟩) 2 c9', .int .i64 0]) (by simp [results, Tryz.results27, go_sem]) rfl ?_
              rw [HQ.out.1, HQ.out.2, HD.out]
              exact ERes.mk1 (lo := w2.heap.size) (Below.trans HB6.out (hb9.mono hs2)) (OEdP.oeds own9 (by have h : w6.heap.size ≤ w9.heap.size := hb9.size; omega)) hs2
            · have hk00 : e.k = 0 := by omega
              have HD := Lib.hid (show invD e = [] by unfold invD; rw [if_neg (by have := HKE.out; omega), if_pos HKE.out, hk00, Int.mul_zero]; rfl)
              clear hk00
              have hkd : decide (0 < e.k) = false := by simp; omega
              have cE0_144 := Blk.cell (i := 0) (v := .int .i64 e.kind) KE_122 rfl
              have cE1_145 := Blk.cell (i := 1) (v := .int .i64 e.i) KE_122 rfl
              have cE2_146 := Blk.cell (i := 2) (v := .int .i64 e.j) KE_122 rfl
              have cE3_147 := Blk.cell (i := 3) (v := .int .i64 e.k) KE_122 rfl
              have cE4_148 := Blk.cell (i := 4) (v := .slice AR e.part.length cR) KE_122 rfl
              have cE5_149 := Blk.cell (i := 5) (v := .string e.map) KE_122 rfl
              have lE_150 := Blk.lt KE_122
              have cZ0_151 := Blk.cell (i := 0) (v := .slice A9 p.length c9) KZ_125 rfl
              have lZ_152 := Blk.lt KZ_125
              rw [HKE.out] at cE0_144
              go_wp2_with (first
                | (at_builtin; refine push_edit (W := w5) (N := w5.heap.size) (e := insE e.i p) (u := .slice A9 p.length c9) (lo := w2.heap.size) (hp := w2.heap.size) (pa := w2.heap.size) (pb := w4.heap.size) (v := .slice (some ⟨w4.heap.size, 0, none⟩) 0 0) (es := []) rfl _ _ rfl rfl rfl rfl HKO.out (by simp) (by omega) (by simp [Value.oneCell']) ⟨.inr ⟨HO5.out, fun g hg => (World.ownsRow.lt HO4.out g hg).2, (by omega)⟩, fun g hg => by simp [Value.ownBlock] at hg; omega⟩ (Nat.le_refl _) hs34 (by omega) (Nat.le_refl _) ?_; intro g9 c9' w9 own9 hg9 hgr9 hb9))
              refine bodyPost_ret (v := .tuple #[.slice (some ⟨g9, 0, none⟩) 1 c9', .int .i64 0]) (by simp [results, Tryz.results27, go_sem]) rfl ?_
              rw [HQ.out.1, HQ.out.2, HD.out]
              exact ERes.mk1 (lo := w2.heap.size) (Below.trans KB_124.out (hb9.mono hs2)) (OEdP.oeds own9 (by have h : w5.heap.size ≤ w9.heap.size := hb9.size; omega)) hs2
      · skip
        have cE0_153 := Blk.cell (i := 0) (v := .int .i64 e.kind) KE_17 rfl
        have cE1_154 := Blk.cell (i := 1) (v := .int .i64 e.i) KE_17 rfl
        have cE2_155 := Blk.cell (i := 2) (v := .int .i64 e.j) KE_17 rfl
        have cE3_156 := Blk.cell (i := 3) (v := .int .i64 e.k) KE_17 rfl
        have cE4_157 := Blk.cell (i := 4) (v := .slice AR e.part.length cR) KE_17 rfl
        have cE5_158 := Blk.cell (i := 5) (v := .string e.map) KE_17 rfl
        have lE_159 := Blk.lt KE_17
        rw [hk] at cE0_153
        have HKE := Lib.hid hk
        have hij : 0 ≤ e.i ∧ e.i ≤ e.j ∧ e.j ≤ 1000000000000000 := by have h0 := HF.out.1; have h1 := HF.out.2.2.1 (by omega); have := HGB.out; omega
        have ws : IntKind.i64.wrap (e.j - e.i) = e.j - e.i := IntWalk.i64_in _ (by omega)
        by_cases hz : e.j - e.i = 0
        · have HQ := Lib.hid (show invOut xs e = [] ∧ invCode xs e = 0 by rw [HIO.out, HIC.out]; unfold invL; rw [if_neg (by omega), if_pos hz]; exact ⟨rfl, rfl⟩)
          clear hk
          go_wp2_with fail
          refine bodyPost_ret (v := .tuple #[.slice none 0 0, .int .i64 0]) (by simp [results, Tryz.results27, go_sem]) rfl ?_
          rw [HQ.out.1, HQ.out.2]
          exact ERes.mk1 (lo := w.heap.size) KB_19.out (oeds_zero (Below.size KB_19.out)) (Nat.le_refl _)
        · skip
          have hs2 := Below.size KB_19.out
          have hrange : 0 ≤ e.i ∧ e.i ≤ e.j ∧ e.j ≤ lastI ls := by have h0 := HF.out.1; have h1 := HF.out.2.2.1 (by omega); have := HGL.out; omega
          have HY := Lib.hid (partOut_yes HAK.out.1 HL.out hrange)
          have HGP := Lib.hid (partG_gramLen HL.out hrange.1 hrange.2.1 hrange.2.2)
          clear hk
          have cP0_160 := Blk.cell (i := 0) (v := .slice AG xs.length cG) KP_18 rfl
          have lP_161 := Blk.lt KP_18
          go_wp2_with fail
          refine (implPart_any _ xs e.i e.j _ (KG_15.out.up (by repeat (first | exact Below.refl _ _ | (refine Below.alloc ?_ (by first | omega | (simp; done) | (simp; omega)) _) | (refine Below.setCell ?_ (by first | exact Nat.le_refl _ | (show _ ≤ _; omega) | (simp; done) | (simp; omega)) _) | refine below_drewN ?_ _ | refine Below.drew ?_))) hn).mono ?_
          rintro e w3 ⟨hb_162, v9, own9, rfl⟩
          have z_w3 : w2.heap.size ≤ w3.heap.size := hb_162.size
          have KG_163 := Lib.hid (KG_15.out.up hb_162)
          have KR_164 := Lib.hid (KR_16.out.up hb_162)
          have KE_165 := Blk.up KE_17 hb_162
          have KP_166 := Blk.up KP_18 hb_162
          have KB_167 := Lib.hid (Below.tr KB_19.out hb_162)
          clear hb_14 cE0_153 cE1_154 cE2_155 cE3_156 cE4_157 cE5_158 lE_159 cP0_160 lP_161 KG_15 KR_16 KE_17 KP_18 KB_19
          rw [HY.out.1] at own9
          rw [HY.out.2]
          obtain ⟨A9, c9, rfl, _⟩ := own_nil own9
          have bZ := (Below.refl w3.heap.size w3).alloc (Nat.le_refl _) (Obj.cells #[.slice A9 (limOut (partG xs ls e.i e.j)).length c9] 31)
          have KZ := Blk.new w3 #[.slice A9 (limOut (partG xs ls e.i e.j)).length c9] 31
          have KO4 := OwnRules.below own9 bZ
          go_upto_region 20 with fail
          generalize w3.alloc (Obj.cells #[Value.slice A9 (limOut (partG xs ls e.i e.j)).length c9] 31) = w4 at *
          clear own9
          have hb_168 := bZ
          have z_w4 : w3.heap.size ≤ w4.heap.size := hb_168.size
          have KG_169 := Lib.hid (KG_163.out.up hb_168)
          have KR_170 := Lib.hid (KR_164.out.up hb_168)
          have KE_171 := Blk.up KE_165 hb_168
          have KP_172 := Blk.up KP_166 hb_168
          have KB_173 := Lib.hid (Below.tr KB_167.out hb_168)
          clear hb_162 KG_163 KR_164 KE_165 KP_166 KB_167
          have HO4 := Lib.hid KO4
          have HZ4 := Lib.hid KZ
          clear KO4 KZ
          have hs34 : w2.heap.size ≤ w4.heap.size := by omega
          have lE4 := Blk.lt KE_171
          cases hq : gramOk (partG xs ls e.i e.j) with
          | false =>
            have q2 : limCode (partG xs ls e.i e.j) = 3 := by unfold limCode; rw [hq]; rfl
            have HQ := Lib.hid (show invOut xs e = [] ∧ invCode xs e = 3 by rw [HIO.out, HIC.out]; unfold invL; have := HKE.out; rw [if_neg (by omega), if_neg hz, if_neg (by omega), if_neg (by omega), if_neg (by omega), hq]; exact ⟨rfl, rfl⟩)
            rw [q2]
            clear hq q2
            go_wp2_with fail
            refine bodyPost_ret (v := .tuple #[.slice none 0 0, .int .i64 3]) (by simp [results, Tryz.results27, go_sem]) rfl ?_
            rw [HQ.out.1, HQ.out.2]
            exact ERes.mk1 (lo := w.heap.size) KB_173.out (oeds_zero (Below.size KB_173.out)) (Nat.le_refl _)
          | true =>
            have q1 : limOut (partG xs ls e.i e.j) = partG xs ls e.i e.j := by unfold limOut; rw [hq]; rfl
            have q2 : limCode (partG xs ls e.i e.j) = 0 := by unfold limCode; rw [hq]; rfl
            have HQ := Lib.hid (show invOut xs e = invD e ++ [insE e.i (partG xs ls e.i e.j)] ∧ invCode xs e = 0 by rw [HIO.out, HIC.out]; unfold invL; have := HKE.out; rw [if_neg (by omega), if_neg hz, if_neg (by omega), if_neg (by omega), if_neg (by omega), hq]; exact ⟨rfl, rfl⟩)
            rw [q1] at HZ4 HO4
            rw [q2]
            clear q1 q2 hq HY
            generalize partG xs ls e.i e.j = p at *
            have KZ5 := HZ4.out
            have lZ := KZ5.lt
            have bA := (Below.refl w4.heap.size w4).alloc (Nat.le_refl _) (Obj.cells #[] 36)
            have HKO := Lib.hid (oedp_empty (W := w4) (lo := w2.heap.size) rfl hs34)
            have HO5 := Lib.hid (OwnRules.below HO4.out bA)
            have hs5 : w4.heap.size < (w4.alloc (Obj.cells #[] 36)).heap.size := by simp
            go_upto_region 23 with fail
            generalize w4.alloc (Obj.cells #[] 36) = w5 at *
            have hb_174 := bA
            have z_w5 : w4.heap.size ≤ w5.heap.size := hb_174.size
            have KG_175 := Lib.hid (KG_169.out.up hb_174)
            have KR_176 := Lib.hid (KR_170.out.up hb_174)
            have KE_177 := Blk.up KE_171 hb_174
            have KP_178 := Blk.up KP_172 hb_174
            have KB_179 := Lib.hid (Below.tr KB_173.out hb_174)
            have KZ_180 := Blk.up KZ5 hb_174
            clear hb_168 KG_169 KR_170 KE_171 KP_172 KB_173 KZ5
            have HD := Lib.hid (show invD e = [delE e.i e.j] by unfold invD; rw [if_neg (by have := HKE.out; omega), if_neg (by have := HKE.out; omega)])
            have cE0_181 := Blk.cell (i := 0) (v := .int .i64 e.kind) KE_177 rfl
            have cE1_182 := Blk.cell (i := 1) (v := .int .i64 e.i) KE_177 rfl
            have cE2_183 := Blk.cell (i := 2) (v := .int .i64 e.j) KE_177 rfl
            have cE3_184 := Blk.cell (i := 3) (v := .int .i64 e.k) KE_177 rfl
            have cE4_185 := Blk.cell (i := 4) (v := .slice AR e.part.length cR) KE_177 rfl
            have cE5_186 := Blk.cell (i := 5) (v := .string e.map) KE_177 rfl
            have lE_187 := Blk.lt KE_177
            have cZ0_188 := Blk.cell (i := 0) (v := .slice A9 p.length c9) KZ_180 rfl
            have lZ_189 := Blk.lt KZ_180
            rw [HKE.out] at cE0_181
            have hlE := Blk.lt KE_177
            go_upto_region 27 with (first
              | (at_builtin; refine push_edit (W := w5) (N := w5.heap.size) (e := delE e.i (e.j)) (u := .slice none 0 0) (lo := w2.heap.size) (hp := w2.heap.size) (pa := w2.heap.size) (pb := w2.heap.size) (v := .slice (some ⟨w4.heap.size, 0, none⟩) 0 0) (es := []) rfl _ _ rfl rfl rfl rfl HKO.out (by simp) (by omega) (by simp [Value.oneCell']) ⟨.inl ⟨rfl, none, 0, rfl, Nat.zero_le _⟩, fun g hg => by simp [Value.ownBlock] at hg; omega⟩ (Nat.le_refl _) (Nat.le_refl _) (by omega) (Nat.le_refl _) ?_; intro g6 c6 w6 own6 hg6 hgr6 hb6))
            have keep6 : ∀ x, x < w4.heap.size → w6.heap[x]? = w5.heap[x]? := fun x hx => hgr6.block x (by omega) (fun e => by simp [Value.ownBlock] at e; omega)
            have hg66 : w4.heap.size ≤ g6 := by
              rcases hg6 with h | h
              · simp [Value.ownBlock] at h; omega
              · omega
            have KE6 : Blk w6 (w.heap.size + 1) #[.int .i64 e.kind, .int .i64 e.i, .int .i64 e.j, .int .i64 e.k, .slice AR e.part.length cR, .string e.map] 36 := (keep6 _ lE4).trans KE_177
            have KZ6 : Blk w6 w3.heap.size #[.slice A9 p.length c9] 31 := (keep6 _ lZ).trans KZ_180
            have HO6 := Lib.hid (own_keep HO5.out (fun g hg => keep6 g (World.ownsRow.lt HO4.out g hg).2))
            have HO66 := Lib.hid own6
            have HB6 := Lib.hid (Below.trans KB_179.out (hb6.mono hs2))
            have hs56 : w5.heap.size ≤ w6.heap.size := hgr6.size
            clear hb_174 cE0_181 cE1_182 cE2_183 cE3_184 cE4_185 cE5_186 lE_187 cZ0_188 lZ_189
            clear own6 hg6 hgr6 hb6 keep6 hlE
            have cE0_190 := Blk.cell (i := 0) (v := .int .i64 e.kind) KE6 rfl
            have cE1_191 := Blk.cell (i := 1) (v := .int .i64 e.i) KE6 rfl
            have cE2_192 := Blk.cell (i := 2) (v := .int .i64 e.j) KE6 rfl
            have cE3_193 := Blk.cell (i := 3) (v := .int .i64 e.k) KE6 rfl
            have cE4_194 := Blk.cell (i := 4) (v := .slice AR e.part.length cR) KE6 rfl
            have cE5_195 := Blk.cell (i := 5) (v := .string e.map) KE6 rfl
            have lE_196 := Blk.lt KE6
            have cZ0_197 := Blk.cell (i := 0) (v := .slice A9 p.length c9) KZ6 rfl
            have lZ_198 := Blk.lt KZ6
            rw [HKE.out] at cE0_190
            go_wp2_with (first
              | (at_builtin; refine push_edit (W := w6) (N := w6.heap.size) (e := insE e.i p) (u := .slice A9 p.length c9) (lo := w2.heap.size) (hp := w2.heap.size) (pa := w2.heap.size) (pb := w4.heap.size) (v := .slice (some ⟨g6, 0, none⟩) 1 c6) (es := [delE e.i (e.j)]) rfl _ _ rfl rfl rfl rfl HO66.out (by simp) (by omega) (by simp [Value.oneCell']) ⟨.inr ⟨HO6.out, fun g hg => (World.ownsRow.lt HO4.out g hg).2, (by omega)⟩, fun g hg => by simp [Value.ownBlock] at hg; omega⟩ (Nat.le_refl _) hs34 (by omega) (Nat.le_refl _) ?_; intro g9 c9' w9 own9 hg9 hgr9 hb9))
            refine bodyPost_ret (v := .tuple #[.slice (some ⟨g9, 0, none⟩) 2 c9', .int .i64 0]) (by simp [results, Tryz.results27, go_sem]) rfl ?_
            rw [HQ.out.1, HQ.out.2, HD.out]
            exact ERes.mk1 (lo := w2.heap.size) (Below.trans HB6.out (hb9.mono hs2)) (OEdP.oeds own9 (by have h : w6.heap.size ≤ w9.heap.size := hb9.size; omega)) hs2
end Go.Proofs.YtfapnipmgmpgaaaGreatDoor

namespace Go.Proofs.YtfapnipmgmpgaaaGreatDoor
open Go.RowKit

theorem inv_bad {xs : List GRule} {e : GEdit} (h : applyCode xs e = 1) : invOut xs e = [] ∧ invCode xs e = 1 := by
  have hn : ¬ applyCode xs e = 0 := by omega
  exact ⟨by unfold invOut; rw [if_neg hn], by unfold invCode; rw [if_neg hn]; exact h⟩
set_option maxRecDepth 100000 in
set_option maxHeartbeats 4000000 in
theorem specInverse_any (vG v : Value) (xs : List GRule) (e : GEdit) (w : World) (hG : Sl RuleE w w.heap.size vG xs) (hE : EditV w w.heap.size v e) (hn2 : e.part.length ≤ 1048576) (hsm : SmallL xs) (hsmE : SmallL e.part) (hm : e.map.size ≤ maxLen) :
    Calls Tryz.prog 26 #[.agg #[vG], v] w (ERes (invOut xs e) (invCode xs e) w) := by
  obtain ⟨vR, rfl, hR⟩ := hE
  have HG := Lib.hid hG
  have HR := Lib.hid hR
  obtain ⟨AG, cG, rfl, _⟩ := hG
  obtain ⟨AR, cR, rfl, _⟩ := hR
  have b1 := (Below.refl w.heap.size w).alloc (Nat.le_refl _) (.cells #[.slice AG xs.length cG] 31)
  have b2 := b1.alloc b1.size (.cells (editCells e (.slice AR e.part.length cR)) 36)
  have KP : Blk ((w.alloc (.cells #[.slice AG xs.length cG] 31)).alloc (.cells (editCells e (.slice AR e.part.length cR)) 36)) w.heap.size #[.slice AG xs.length cG] 31 := (Blk.new w _ _).alloc _
  have KE : Blk ((w.alloc (.cells #[.slice AG xs.length cG] 31)).alloc (.cells (editCells e (.slice AR e.part.length cR)) 36)) (w.heap.size + 1) (editCells e (.slice AR e.part.length cR)) 36 := by
    have := (Blk.new (w.alloc (.cells #[.slice AG xs.length cG] 31)) (editCells e (.slice AR e.part.length cR)) 36)
    simpa [Blk] using this
  go_enter Tryz.func26, Tryz.ntmps26
  unfold editCells at b2 KP KE
  go_upto_region 1 with fail
  generalize ((w.alloc (.cells #[.slice AG xs.length cG] 31)).alloc (.cells #[.int .i64 e.kind, .int .i64 e.i, .int .i64 e.j, .int .i64 e.k, .slice AR e.part.length cR, .string e.map] 36)) = w0 at *
  have KB := Lib.hid b2
  clear b1 b2
  have cP0_1 := Blk.cell (i := 0) (v := .slice AG xs.length cG) KP rfl
  have lP_2 := Blk.lt KP
  go_wp2_with fail
  refine (l02Ok_any w.heap.size 0 _ xs _ cP0_1 (Blk.lt KP) (HG.out.up KB.out) hsm).mono ?_
  rintro e w1 ⟨rfl, hb_3⟩
  have z_w1 : w0.heap.size ≤ w1.heap.size := hb_3.size
  have KB_4 := Lib.hid (Below.tr KB.out hb_3)
  have KP_5 := Blk.up KP hb_3
  have KE_6 := Blk.up KE hb_3
  clear cP0_1 lP_2 KB KP KE
  cases hg : gramOk xs with
  | false =>
    have HQ := Lib.hid (inv_bad (show applyCode xs e = 1 by simp [applyCode, hg]))
    clear hg
    go_wp2_with fail
    refine bodyPost_ret (v := .tuple #[.slice (some ⟨w1.heap.size, 0, none⟩) 0 0, .int .i64 1]) (by simp [results, Tryz.results26, go_sem]) rfl ?_
    rw [HQ.out.1, HQ.out.2]
    exact ERes.mk1 (lo := w.heap.size) (Below.alloc KB_4.out (Below.size KB_4.out) _) (oeds_empty rfl (Below.size KB_4.out)) (Nat.le_refl _)
  | true =>
    have HGG := Lib.hid hg
    clear hg
    go_wp2_with fail
    refine (l07Ok_any (w.heap.size + 1) _ e _ (EC.at_ (EC.of KE_6) (HR.out.up KB_4.out)) hsmE (by omega) hm).mono ?_
    rintro e w2 ⟨rfl, hb_7⟩
    have z_w2 : w1.heap.size ≤ w2.heap.size := hb_7.size
    have KB_8 := Lib.hid (Below.tr KB_4.out hb_7)
    have KP_9 := Blk.up KP_5 hb_7
    have KE_10 := Blk.up KE_6 hb_7
    clear hb_3 KB_4 KP_5 KE_6
    cases he : editOk e with
    | false =>
      have HQ := Lib.hid (inv_bad (show applyCode xs e = 1 by simp [applyCode, he]))
      clear he
      go_wp2_with fail
      refine bodyPost_ret (v := .tuple #[.slice (some ⟨w2.heap.size, 0, none⟩) 0 0, .int .i64 1]) (by simp [results, Tryz.results26, go_sem]) rfl ?_
      rw [HQ.out.1, HQ.out.2]
      exact ERes.mk1 (lo := w.heap.size) (Below.alloc KB_8.out (Below.size KB_8.out) _) (oeds_empty rfl (Below.size KB_8.out)) (Nat.le_refl _)
    | true =>
      have HEE := Lib.hid he
      clear he
      have hs2 := Below.size KB_8.out
      go_wp2_with fail
      refine (l07Inverse_any w.heap.size 0 (w.heap.size + 1) 0 _ _ xs e _ ⟨Blk.cell KP_9 rfl, Blk.lt KP_9⟩ (EC.of KE_10) (HG.out.up KB_8.out) (HR.out.up KB_8.out) HGG.out HEE.out hsmE).mono ?_
      rintro e w3 ⟨hb_11, v3, rfl, own3⟩
      have z_w3 : w2.heap.size ≤ w3.heap.size := hb_11.size
      have KB_12 := Lib.hid (Below.tr KB_8.out hb_11)
      have KP_13 := Blk.up KP_9 hb_11
      have KE_14 := Blk.up KE_10 hb_11
      clear hb_7 KB_8 KP_9 KE_10
      have HO := Lib.hid own3
      clear own3
      go_wp2_with fail
      refine bodyPost_ret (v := .tuple #[v3, .int .i64 (invCode xs e)]) (by simp [results, Tryz.results26, go_sem]) rfl ?_
      exact ERes.mk1 (lo := w2.heap.size) KB_12.out HO.out (by omega)
end Go.Proofs.YtfapnipmgmpgaaaGreatDoor

namespace Go.Proofs.YtfapnipmgmpgaaaGreatDoor
open Go.RowKit

theorem markEnd_small (es : List GEdit) (k : Nat) (h : ∀ x ∈ es, x.part.length ≤ 400) : markEnd k es ≤ k + es.length * 1205 := by
  induction es generalizing k with
  | nil => simp [markEnd]
  | cons x xs ih =>
    have h1 := ih (mkK k x) (fun y hy => h y (by simp [hy]))
    have h2 := h x (by simp)
    unfold markEnd
    unfold mkK at h1 ⊢
    rw [List.length_cons]
    omega
theorem invL_small {xs : List GRule} {ls : List Int} {e : GEdit} {l : List GEdit} (h : invL xs ls e = some l) : l.length ≤ 2 ∧ ∀ x ∈ l, x.part.length ≤ 400 := by
  unfold invL at h
  repeat' split at h
  all_goals (try cases h)
  all_goals (try (refine ⟨by simp, ?_⟩; simp [delE, movE, turnE]; done))
  rename_i hg
  have h4 := gram_len400 hg
  unfold invD
  repeat' split
  all_goals
    refine ⟨by simp, ?_⟩
    simp [delE, insE]
    omega
theorem inv_small (xs : List GRule) (e : GEdit) : (invOut xs e).length ≤ 2 ∧ ∀ x ∈ invOut xs e, x.part.length ≤ 400 := by
  unfold invOut
  split
  · cases h : invL xs (lsOf xs) e with
    | none => exact ⟨by simp, by simp⟩
    | some l => exact invL_small h
  · exact ⟨by simp, by simp⟩
set_option maxRecDepth 100000 in
set_option maxHeartbeats 4000000 in
theorem lawInverse_any (v v' : Value) (xs : List GRule) (e : GEdit) (w : World) (h : Sl RuleE w w.heap.size v xs) (hsm : SmallL xs) (hE : EditV w w.heap.size v' e) (hsmE : SmallL e.part) (hm : e.map.size ≤ maxLen) (htab : Lib.TabIs Tryz.prog w "math/bits.deBruijn64tab" .u8 deB64) :
    Calls Tryz.prog 5 #[.agg #[v], v'] w fun r w' => r = .returned (.bool true) ∧ Below w.heap.size w w' := by
  obtain ⟨vR, rfl, hR⟩ := hE
  have HG := Lib.hid h
  have HR := Lib.hid hR
  have HT := Lib.hid htab
  obtain ⟨A, c, rfl, _⟩ := h
  obtain ⟨AR, cR, rfl, _⟩ := hR
  clear htab
  go_enter Tryz.func5, Tryz.ntmps5
  go_wp2_with fail
  refine (szGrammar_any _ xs _ _ (HG.out.up (by repeat (first | exact Below.refl _ _ | (refine Below.alloc ?_ (by first | omega | (simp; done) | (simp; omega)) _) | (refine Below.setCell ?_ (by first | exact Nat.le_refl _ | (show _ ≤ _; omega) | (simp; done) | (simp; omega)) _) | refine below_drewN ?_ _ | refine Below.drew ?_))) hsm (by omega)).mono ?_
  rintro e w1 ⟨rfl, hb_1⟩
  have Kx_2 : Blk w1 (w.heap.size + 1) #[.int .i64 e.kind, .int .i64 e.i, .int .i64 e.j, .int .i64 e.k, .slice AR e.part.length cR, .string e.map] 26 := by have := (Below.unalloc hb_1).2; simpa [Blk] using this
  replace hb_1 := (Below.unalloc hb_1).1
  have Ka_3 : Blk w1 (w.heap.size) #[.slice A xs.length c] 24 := by have := (Below.unalloc hb_1).2; simpa [Blk] using this
  replace hb_1 := (Below.unalloc hb_1).1
  have z_w1 : w.heap.size ≤ w1.heap.size := hb_1.size
  have KB_4 := Lib.hid hb_1
  have lx1 := Blk.lt Kx_2
  by_cases hneg : szRs xs 1048576 < 0
  · rw [if_pos hneg]
    clear hneg
    go_wp2_with fail
    go_ret
    exact ⟨rfl, KB_4.out⟩
  rw [if_neg hneg]
  obtain ⟨hle, hlen⟩ := szRs_le xs 1048576 (by omega)
  have hn : xs.length ≤ 1048576 := by omega
  obtain ⟨X, hX⟩ : ∃ X, szRs xs 1048576 = X := ⟨_, rfl⟩
  rw [hX] at hneg hle ⊢
  clear hX hlen
  have ca0_5 := Blk.cell (i := 0) (v := .slice A xs.length c) Ka_3 rfl
  have la_6 := Blk.lt Ka_3
  have cx0_7 := Blk.cell (i := 0) (v := .int .i64 e.kind) Kx_2 rfl
  have cx1_8 := Blk.cell (i := 1) (v := .int .i64 e.i) Kx_2 rfl
  have cx2_9 := Blk.cell (i := 2) (v := .int .i64 e.j) Kx_2 rfl
  have cx3_10 := Blk.cell (i := 3) (v := .int .i64 e.k) Kx_2 rfl
  have cx4_11 := Blk.cell (i := 4) (v := .slice AR e.part.length cR) Kx_2 rfl
  have cx5_12 := Blk.cell (i := 5) (v := .string e.map) Kx_2 rfl
  have lx_13 := Blk.lt Kx_2
  go_wp2_with fail
  refine (szEdit_any _ e _ _ ⟨_, rfl, HR.out.up KB_4.out⟩ hsmE hm (by omega)).mono ?_
  rintro e w2 ⟨rfl, hb_14⟩
  have z_w2 : w1.heap.size ≤ w2.heap.size := hb_14.size
  have Kx_15 := Blk.up Kx_2 hb_14
  have Ka_16 := Blk.up Ka_3 hb_14
  have KB_17 := Lib.hid (Below.tr KB_4.out hb_14)
  clear hb_1 ca0_5 la_6 cx0_7 cx1_8 cx2_9 cx3_10 cx4_11 cx5_12 lx_13 Kx_2 Ka_3 KB_4
  by_cases hneg2 : szE e X < 0
  · skip
    go_wp2_with fail
    go_ret
    exact ⟨rfl, KB_17.out⟩
  have hn2 : e.part.length ≤ 1048576 := szE_le2 (left := X) (by omega) (by omega)
  have HN := Lib.hid hneg2
  obtain ⟨es, hes⟩ : ∃ es, invOut xs e = es := ⟨_, rfl⟩
  have hsml := inv_small xs e
  rw [hes] at hsml
  have hml := markEnd_small es 1 hsml.2
  have hmk : markEnd 1 es ≤ 1099511627776 := by omega
  have hel : es.length ≤ 1099511627776 := by omega
  have HES := Lib.hid hes
  clear hneg hle hes hsml hml
  clear hb_14
  have ca0_18 := Blk.cell (i := 0) (v := .slice A xs.length c) Ka_16 rfl
  have la_19 := Blk.lt Ka_16
  have cx0_20 := Blk.cell (i := 0) (v := .int .i64 e.kind) Kx_15 rfl
  have cx1_21 := Blk.cell (i := 1) (v := .int .i64 e.i) Kx_15 rfl
  have cx2_22 := Blk.cell (i := 2) (v := .int .i64 e.j) Kx_15 rfl
  have cx3_23 := Blk.cell (i := 3) (v := .int .i64 e.k) Kx_15 rfl
  have cx4_24 := Blk.cell (i := 4) (v := .slice AR e.part.length cR) Kx_15 rfl
  have cx5_25 := Blk.cell (i := 5) (v := .string e.map) Kx_15 rfl
  have lx_26 := Blk.lt Kx_15
  go_wp2_with fail
  have KD := keep17 Ka_16 Kx_15 (Below.drew (Below.refl w2.heap.size w2))
  have HBS := Lib.hid KB_17.out
  have HKA := Lib.hid Ka_16
  have HKX := Lib.hid Kx_15
  go_region_held3 (fun w' => Below w2.heap.size w2 w' ∧ w'.cell? ⟨w.heap.size, 0, none⟩ = some (.slice A xs.length c) ∧ w'.cell? ⟨w.heap.size + 1, 0, none⟩ = some (.int .i64 e.kind) ∧ w'.cell? ⟨w.heap.size + 1, 1, none⟩ = some (.int .i64 e.i) ∧ w'.cell? ⟨w.heap.size + 1, 2, none⟩ = some (.int .i64 e.j) ∧ w'.cell? ⟨w.heap.size + 1, 3, none⟩ = some (.int .i64 e.k) ∧ w'.cell? ⟨w.heap.size + 1, 4, none⟩ = some (.slice AR e.part.length cR) ∧ w'.cell? ⟨w.heap.size + 1, 5, none⟩ = some (.string e.map))
    (first | (with_reducible exact KD) | (with_reducible exact keep17 HKA.out HKX.out b1) | (with_reducible exact keep17 HKA.out HKX.out b2) | (with_reducible exact keep17 HKA.out HKX.out b3))
    (first
      | (go_at_call 12; (refine (toGrammar_any _ xs _ (HG.out.up (by repeat (first | exact HBS.out | (refine Below.alloc ?_ (by first | omega | (simp; done) | (simp; omega)) _) | (refine Below.setCell ?_ (by first | exact Nat.le_refl _ | (show _ ≤ _; omega) | (simp; done) | (simp; omega)) _) | refine below_drewN ?_ _ | refine Below.drew ?_))) hn).mono ?_); rintro r u1 ⟨v1, rfl, own1, hb1⟩; have b1 : Below w2.heap.size w2 u1 := Below.undrew hb1)
      | (go_at_call 13; (refine (toEditO_any _ e _ ⟨_, rfl, HR.out.up (by repeat (first | exact Below.tr HBS.out b1 | (refine Below.alloc ?_ (by first | omega | (simp; done) | (simp; omega)) _) | (refine Below.setCell ?_ (by first | exact Nat.le_refl _ | (show _ ≤ _; omega) | (simp; done) | (simp; omega)) _) | refine below_drewN ?_ _ | refine Below.drew ?_))⟩ hn2).mono ?_); rintro r u2 ⟨v2, rfl, own2, hb2⟩; have b2 := Below.tr b1 hb2)
      | (go_at_call 26; (refine (specInverse_any _ _ xs e _ (OwnRules.sl1 own1 (by repeat (first | exact hb2 | (refine Below.alloc ?_ (by first | omega | (simp; done) | (simp; omega)) _) | (refine Below.setCell ?_ (by first | exact Nat.le_refl _ | (show _ ≤ _; omega) | (simp; done) | (simp; omega)) _) | refine below_drewN ?_ _ | refine Below.drew ?_))) ⟨_, rfl, OwnRules.sl1 own2 (by repeat (first | exact Below.refl _ _ | (refine Below.alloc ?_ (by first | omega | (simp; done) | (simp; omega)) _) | (refine Below.setCell ?_ (by first | exact Nat.le_refl _ | (show _ ≤ _; omega) | (simp; done) | (simp; omega)) _) | refine below_drewN ?_ _ | refine Below.drew ?_))⟩ hn2 hsm hsmE hm).mono ?_); rintro r u3 ⟨hb3, v3, rfl, own3⟩; have b3 := Below.tr b2 hb3))
  rw [HES.out] at own3
  have hbR := b3
  have KW := Lib.hid (OEds.sl own3)
  clear KD HBS HKA HKX b1 b2 b3 hb1 hb2 hb3 own1 own2 own3 hneg2
  have hb_27 := hbR
  have z_u3 : w2.heap.size ≤ u3.heap.size := hb_27.size
  have Kx_28 := Blk.up Kx_15 hb_27
  have Ka_29 := Blk.up Ka_16 hb_27
  have KB_30 := Lib.hid (Below.tr KB_17.out hb_27)
  clear ca0_18 la_19 cx0_20 cx1_21 cx2_22 cx3_23 cx4_24 cx5_25 lx_26 Kx_15 Ka_16 KB_17
  have ca0_31 := Blk.cell (i := 0) (v := .slice A xs.length c) Ka_29 rfl
  have la_32 := Blk.lt Ka_29
  go_wp2_with fail
  refine (toGrammar_any _ xs _ (HG.out.up (by repeat (first | exact KB_30.out | (refine Below.alloc ?_ (by first | omega | (simp; done) | (simp; omega)) _) | (refine Below.setCell ?_ (by first | exact Nat.le_refl _ | (show _ ≤ _; omega) | (simp; done) | (simp; omega)) _) | refine below_drewN ?_ _ | refine Below.drew ?_))) hn).mono ?_
  rintro e w4 ⟨v4, rfl, own4, hb_33⟩
  have z_w4 : u3.heap.size ≤ w4.heap.size := hb_33.size
  have Kx_34 := Blk.up Kx_28 hb_33
  have Ka_35 := Blk.up Ka_29 hb_33
  have KB_36 := Lib.hid (Below.tr KB_30.out hb_33)
  have KW_37 := Lib.hid (SlS.upN KW.out (by omega) hb_33)
  clear hb_27 ca0_31 la_32 Kx_28 Ka_29 KB_30 KW
  obtain ⟨A4, c4, rfl, _⟩ := own_nil own4
  have KX := Lib.hid (OwnR.of own4)
  clear own4
  have cx0_38 := Blk.cell (i := 0) (v := .int .i64 e.kind) Kx_34 rfl
  have cx1_39 := Blk.cell (i := 1) (v := .int .i64 e.i) Kx_34 rfl
  have cx2_40 := Blk.cell (i := 2) (v := .int .i64 e.j) Kx_34 rfl
  have cx3_41 := Blk.cell (i := 3) (v := .int .i64 e.k) Kx_34 rfl
  have cx4_42 := Blk.cell (i := 4) (v := .slice AR e.part.length cR) Kx_34 rfl
  have cx5_43 := Blk.cell (i := 5) (v := .string e.map) Kx_34 rfl
  have lx_44 := Blk.lt Kx_34
  go_wp2_with fail
  refine (toEditO_any _ e _ ⟨_, rfl, HR.out.up (by repeat (first | exact KB_36.out | (refine Below.alloc ?_ (by first | omega | (simp; done) | (simp; omega)) _) | (refine Below.setCell ?_ (by first | exact Nat.le_refl _ | (show _ ≤ _; omega) | (simp; done) | (simp; omega)) _) | refine below_drewN ?_ _ | refine Below.drew ?_))⟩ hn2).mono ?_
  rintro e w5 ⟨vE, rfl, own5, hb_45⟩
  have Kp_46 : Blk w5 (w4.heap.size) #[.slice A4 xs.length c4] 31 := by have := (Below.unalloc hb_45).2; simpa [Blk] using this
  replace hb_45 := (Below.unalloc hb_45).1
  have z_w5 : w4.heap.size ≤ w5.heap.size := hb_45.size
  have Kx_47 := Blk.up Kx_34 hb_45
  have Ka_48 := Blk.up Ka_35 hb_45
  have KB_49 := Lib.hid (Below.tr KB_36.out hb_45)
  have KW_50 := Lib.hid (SlS.upN KW_37.out (by omega) hb_45)
  have KX_51 := Lib.hid (OwnR.up KX.out hb_45)
  clear hb_33 cx0_38 cx1_39 cx2_40 cx3_41 cx4_42 cx5_43 lx_44 Kx_34 Ka_35 KB_36 KW_37 KX
  obtain ⟨A5, c5, rfl, _⟩ := own_nil own5
  have KE := Lib.hid (OwnR.of (ownsRow_more own5 (base' := w4.heap.size + 1) (by simp)))
  clear own5
  have cp0_52 := Blk.cell (i := 0) (v := .slice A4 xs.length c4) Kp_46 rfl
  have lp_53 := Blk.lt Kp_46
  go_wp2_with fail
  refine (implInverse_any _ _ xs e _ (SlS.up (OwnR.sl KX_51.out) (by repeat (first | exact Below.refl _ _ | (refine Below.alloc ?_ (by first | omega | (simp; done) | (simp; omega)) _) | (refine Below.setCell ?_ (by first | exact Nat.le_refl _ | (show _ ≤ _; omega) | (simp; done) | (simp; omega)) _) | refine below_drewN ?_ _ | refine Below.drew ?_))) ⟨_, rfl, SlS.up (OwnR.sl KE.out) (by repeat (first | exact Below.refl _ _ | (refine Below.alloc ?_ (by first | omega | (simp; done) | (simp; omega)) _) | (refine Below.setCell ?_ (by first | exact Nat.le_refl _ | (show _ ≤ _; omega) | (simp; done) | (simp; omega)) _) | refine below_drewN ?_ _ | refine Below.drew ?_))⟩ hn hn2 hm (tabB HT.out (by repeat (first | exact KB_49.out | (refine Below.alloc ?_ (by first | omega | (simp; done) | (simp; omega)) _) | (refine Below.setCell ?_ (by first | exact Nat.le_refl _ | (show _ ≤ _; omega) | (simp; done) | (simp; omega)) _) | refine below_drewN ?_ _ | refine Below.drew ?_)))).mono ?_
  rintro e w6 ⟨hb_54, vQ, rfl, own6⟩
  have Kq_55 : Blk w6 (w5.heap.size) #[.int .i64 e.kind, .int .i64 e.i, .int .i64 e.j, .int .i64 e.k, .slice A5 e.part.length c5, .string e.map] 36 := by have := (Below.unalloc hb_54).2; simpa [Blk] using this
  replace hb_54 := (Below.unalloc hb_54).1
  have z_w6 : w5.heap.size ≤ w6.heap.size := hb_54.size
  have Kx_56 := Blk.up Kx_47 hb_54
  have Ka_57 := Blk.up Ka_48 hb_54
  have KB_58 := Lib.hid (Below.tr KB_49.out hb_54)
  have KW_59 := Lib.hid (SlS.upN KW_50.out (by omega) hb_54)
  have KX_60 := Lib.hid (OwnR.up KX_51.out hb_54)
  have Kp_61 := Blk.up Kp_46 hb_54
  have KE_62 := Lib.hid (OwnR.up KE.out hb_54)
  clear hb_45 cp0_52 lp_53 Kx_47 Ka_48 KB_49 KW_50 KX_51 Kp_46 KE
  rw [HES.out] at own6
  have KQ := Lib.hid (show OEds w6 (w5.heap.size + 1) w6.heap.size vQ es by have := own6; simpa using this)
  clear own6
  have qc : (invCode xs e != invCode xs e) = false := by simp
  go_wp2_with fail
  refine (eqEditS_any _ _ es _ (OEds.sl KQ.out) (SlS.le KW_59.out (by omega))).mono ?_
  rintro e w7 ⟨rfl, hb_63⟩
  have z_w7 : w6.heap.size ≤ w7.heap.size := hb_63.size
  have Kx_64 := Blk.up Kx_56 hb_63
  have Ka_65 := Blk.up Ka_57 hb_63
  have KB_66 := Lib.hid (Below.tr KB_58.out hb_63)
  have KW_67 := Lib.hid (SlS.upN KW_59.out (by omega) hb_63)
  have KX_68 := Lib.hid (OwnR.up KX_60.out hb_63)
  have Kp_69 := Blk.up Kp_61 hb_63
  have KE_70 := Lib.hid (OwnR.up KE_62.out hb_63)
  have Kq_71 := Blk.up Kq_55 hb_63
  have KQ_72 := Lib.hid (OEds.up KQ.out hb_63)
  clear hb_54 Kx_56 Ka_57 KB_58 KW_59 KX_60 Kp_61 KE_62 Kq_55 KQ
  have cp0_73 := Blk.cell (i := 0) (v := .slice A4 xs.length c4) Kp_69 rfl
  have lp_74 := Blk.lt Kp_69
  have ca0_75 := Blk.cell (i := 0) (v := .slice A xs.length c) Ka_65 rfl
  have la_76 := Blk.lt Ka_65
  go_wp2_with fail
  have KD := keep11 Kp_69 Ka_65 (Below.drew (Below.refl w7.heap.size w7))
  have HKA := Lib.hid Ka_65
  have HKP := Lib.hid Kp_69
  have HBS := Lib.hid KB_66.out
  have HXS := Lib.hid (OwnR.sl KX_68.out)
  go_region_held3 (fun w' => Below w7.heap.size w7 w' ∧ w'.cell? ⟨w4.heap.size, 0, none⟩ = some (.slice A4 xs.length c4) ∧ w'.cell? ⟨w.heap.size, 0, none⟩ = some (.slice A xs.length c))
    (first | (with_reducible exact KD) | (with_reducible exact keep11 HKP.out HKA.out b8) | (with_reducible exact keep11 HKP.out HKA.out b9))
    (first
      | (go_at_call 12; (refine (toGrammar_any _ xs _ (HG.out.up (by repeat (first | exact HBS.out | (refine Below.alloc ?_ (by first | omega | (simp; done) | (simp; omega)) _) | (refine Below.setCell ?_ (by first | exact Nat.le_refl _ | (show _ ≤ _; omega) | (simp; done) | (simp; omega)) _) | refine below_drewN ?_ _ | refine Below.drew ?_))) hn).mono ?_); rintro r w8 ⟨v8, rfl, own8, hb8⟩; have b8 := Below.undrew hb8)
      | (go_at_call 15; (refine (eqGrammar_any _ _ xs _ (SlS.up HXS.out b8) own8.sl).mono ?_); rintro r w9 ⟨rfl, hb9⟩; have b9 := Below.tr b8 hb9))
  have hbR9 := b9
  clear KD HKA HKP HBS HXS b8 b9 hb8 hb9 own8
  have hb_77 := hbR9
  have z_w9 : w7.heap.size ≤ w9.heap.size := hb_77.size
  have Kx_78 := Blk.up Kx_64 hb_77
  have Ka_79 := Blk.up Ka_65 hb_77
  have KB_80 := Lib.hid (Below.tr KB_66.out hb_77)
  have KW_81 := Lib.hid (SlS.upN KW_67.out (by omega) hb_77)
  have KX_82 := Lib.hid (OwnR.up KX_68.out hb_77)
  have Kp_83 := Blk.up Kp_69 hb_77
  have KE_84 := Lib.hid (OwnR.up KE_70.out hb_77)
  have Kq_85 := Blk.up Kq_71 hb_77
  have KQ_86 := Lib.hid (OEds.up KQ_72.out hb_77)
  clear hb_63 cp0_73 lp_74 ca0_75 la_76 Kx_64 Ka_65 KB_66 KW_67 KX_68 Kp_69 KE_70 Kq_71 KQ_72
  have cq0_87 := Blk.cell (i := 0) (v := .int .i64 e.kind) Kq_85 rfl
  have cq1_88 := Blk.cell (i := 1) (v := .int .i64 e.i) Kq_85 rfl
  have cq2_89 := Blk.cell (i := 2) (v := .int .i64 e.j) Kq_85 rfl
  have cq3_90 := Blk.cell (i := 3) (v := .int .i64 e.k) Kq_85 rfl
  have cq4_91 := Blk.cell (i := 4) (v := .slice A5 e.part.length c5) Kq_85 rfl
  have cq5_92 := Blk.cell (i := 5) (v := .string e.map) Kq_85 rfl
  have lq_93 := Blk.lt Kq_85
  have cx0_94 := Blk.cell (i := 0) (v := .int .i64 e.kind) Kx_78 rfl
  have cx1_95 := Blk.cell (i := 1) (v := .int .i64 e.i) Kx_78 rfl
  have cx2_96 := Blk.cell (i := 2) (v := .int .i64 e.j) Kx_78 rfl
  have cx3_97 := Blk.cell (i := 3) (v := .int .i64 e.k) Kx_78 rfl
  have cx4_98 := Blk.cell (i := 4) (v := .slice AR e.part.length cR) Kx_78 rfl
  have cx5_99 := Blk.cell (i := 5) (v := .string e.map) Kx_78 rfl
  have lx_100 := Blk.lt Kx_78
  go_wp2_with fail
  have KD := keep66 Kq_85 Kx_78 (Below.drew (Below.refl w9.heap.size w9))
  have HKA := Lib.hid Kx_78
  have HKP := Lib.hid Kq_85
  have HBS := Lib.hid KB_80.out
  have HXS := Lib.hid (OwnR.sl KE_84.out)
  go_region_held3 (fun w' => Below w9.heap.size w9 w' ∧ w'.cell? ⟨w5.heap.size, 0, none⟩ = some (.int .i64 e.kind) ∧ w'.cell? ⟨w5.heap.size, 1, none⟩ = some (.int .i64 e.i) ∧ w'.cell? ⟨w5.heap.size, 2, none⟩ = some (.int .i64 e.j) ∧ w'.cell? ⟨w5.heap.size, 3, none⟩ = some (.int .i64 e.k) ∧ w'.cell? ⟨w5.heap.size, 4, none⟩ = some (.slice A5 e.part.length c5) ∧ w'.cell? ⟨w5.heap.size, 5, none⟩ = some (.string e.map) ∧ w'.cell? ⟨w.heap.size + 1, 0, none⟩ = some (.int .i64 e.kind) ∧ w'.cell? ⟨w.heap.size + 1, 1, none⟩ = some (.int .i64 e.i) ∧ w'.cell? ⟨w.heap.size + 1, 2, none⟩ = some (.int .i64 e.j) ∧ w'.cell? ⟨w.heap.size + 1, 3, none⟩ = some (.int .i64 e.k) ∧ w'.cell? ⟨w.heap.size + 1, 4, none⟩ = some (.slice AR e.part.length cR) ∧ w'.cell? ⟨w.heap.size + 1, 5, none⟩ = some (.string e.map))
    (first | (with_reducible exact KD) | (with_reducible exact keep66 HKP.out HKA.out b10) | (with_reducible exact keep66 HKP.out HKA.out b11))
    (first
      | (go_at_call 13; (refine (toEditO_any _ e _ ⟨_, rfl, HR.out.up (by repeat (first | exact HBS.out | (refine Below.alloc ?_ (by first | omega | (simp; done) | (simp; omega)) _) | (refine Below.setCell ?_ (by first | exact Nat.le_refl _ | (show _ ≤ _; omega) | (simp; done) | (simp; omega)) _) | refine below_drewN ?_ _ | refine Below.drew ?_))⟩ hn2).mono ?_); rintro r w10 ⟨v10, rfl, own10, hb10⟩; have b10 := Below.undrew hb10)
      | (go_at_call 16; (refine (eqEdit_any _ _ e _ ⟨_, rfl, SlS.up HXS.out b10⟩ ⟨_, rfl, own10.sl⟩).mono ?_); rintro r w11 ⟨rfl, hb11⟩; have b11 := Below.tr b10 hb11))
  have hbR11 := b11
  clear KD HKA HKP HBS HXS b10 b11 hb10 hb11 own10
  have hb_101 := hbR11
  have z_w11 : w9.heap.size ≤ w11.heap.size := hb_101.size
  have Kx_102 := Blk.up Kx_78 hb_101
  have Ka_103 := Blk.up Ka_79 hb_101
  have KB_104 := Lib.hid (Below.tr KB_80.out hb_101)
  have KW_105 := Lib.hid (SlS.upN KW_81.out (by omega) hb_101)
  have KX_106 := Lib.hid (OwnR.up KX_82.out hb_101)
  have Kp_107 := Blk.up Kp_83 hb_101
  have KE_108 := Lib.hid (OwnR.up KE_84.out hb_101)
  have Kq_109 := Blk.up Kq_85 hb_101
  have KQ_110 := Lib.hid (OEds.up KQ_86.out hb_101)
  clear hb_77 cq0_87 cq1_88 cq2_89 cq3_90 cq4_91 cq5_92 lq_93 cx0_94 cx1_95 cx2_96 cx3_97 cx4_98 cx5_99 lx_100 Kx_78 Ka_79 KB_80 KW_81 KX_82 Kp_83 KE_84 Kq_85 KQ_86
  have cp0_111 := Blk.cell (i := 0) (v := .slice A4 xs.length c4) Kp_107 rfl
  have lp_112 := Blk.lt Kp_107
  go_wp2_with fail
  refine (markGrammar1 _ _ xs _ (KX_106.out).1 (by omega)).mono ?_
  rintro e w12 ⟨rfl, ho_114, hg_113⟩
  have hc_115 := chg_of KX_106.out hg_113
  have z_w12 : w11.heap.size ≤ w12.heap.size := Chg.size hc_115
  have Kx_116 := Blk.chg Kx_102 hc_115 (by omega)
  have Ka_117 := Blk.chg Ka_103 hc_115 (by omega)
  have KB_118 := Lib.hid (Below.chg KB_104.out (by have := Below.size KB_104.out; omega) hc_115 (by omega))
  have KW_119 := Lib.hid (SlS.chgN KW_105.out (by omega) hc_115 (by omega))
  have KX_120 := Lib.hid (OwnR.markedC KX_106.out ho_114 hc_115)
  have Kp_121 := Blk.chg Kp_107 hc_115 (by omega)
  have KE_122 := Lib.hid (OwnR.chg KE_108.out hc_115 (by omega))
  have Kq_123 := Blk.chg Kq_109 hc_115 (by omega)
  have KQ_124 := Lib.hid (OEds.chg KQ_110.out hc_115 (by omega))
  clear hb_101 cp0_111 lp_112 Kx_102 Ka_103 KB_104 KW_105 KX_106 Kp_107 KE_108 Kq_109 KQ_110 ho_114 hg_113 hc_115
  clear Kp_121
  have cq0_125 := Blk.cell (i := 0) (v := .int .i64 e.kind) Kq_123 rfl
  have cq1_126 := Blk.cell (i := 1) (v := .int .i64 e.i) Kq_123 rfl
  have cq2_127 := Blk.cell (i := 2) (v := .int .i64 e.j) Kq_123 rfl
  have cq3_128 := Blk.cell (i := 3) (v := .int .i64 e.k) Kq_123 rfl
  have cq4_129 := Blk.cell (i := 4) (v := .slice A5 e.part.length c5) Kq_123 rfl
  have cq5_130 := Blk.cell (i := 5) (v := .string e.map) Kq_123 rfl
  have lq_131 := Blk.lt Kq_123
  go_wp2_with fail
  refine (markEdit_any _ _ e (1 + 3 * xs.length) _ (KE_122.out).1 (by omega) (by omega)).mono ?_
  rintro e w13 ⟨rfl, ho_133, hg_132⟩
  have hc_134 := chg_of KE_122.out hg_132
  have z_w13 : w12.heap.size ≤ w13.heap.size := Chg.size hc_134
  have Kx_135 := Blk.chg Kx_116 hc_134 (by omega)
  have Ka_136 := Blk.chg Ka_117 hc_134 (by omega)
  have KB_137 := Lib.hid (Below.chg KB_118.out (by have := Below.size KB_118.out; omega) hc_134 (by omega))
  have KW_138 := Lib.hid (SlS.chgN KW_119.out (by omega) hc_134 (by omega))
  have KX_139 := Lib.hid (OwnR.chg KX_120.out hc_134 (by omega))
  have KE_140 := Lib.hid (OwnR.markedC KE_122.out ho_133 hc_134)
  have Kq_141 := Blk.chg Kq_123 hc_134 (by omega)
  have KQ_142 := Lib.hid (OEds.chg KQ_124.out hc_134 (by omega))
  clear cq0_125 cq1_126 cq2_127 cq3_128 cq4_129 cq5_130 lq_131 Kx_116 Ka_117 KB_118 KW_119 KX_120 KE_122 Kq_123 KQ_124 ho_133 hg_132 hc_134
  clear Kq_141
  have e0 : (decide (((1 + 3 * xs.length + 3 * e.part.length : Nat) : Int) < 0)) = false := by simp; omega
  go_wp2_with fail
  refine (eqEditS_any _ _ es _ (OEds.sl KQ_142.out) (SlS.le KW_138.out (by omega))).mono ?_
  rintro e w14 ⟨rfl, hb_143⟩
  have z_w14 : w13.heap.size ≤ w14.heap.size := hb_143.size
  have Kx_144 := Blk.up Kx_135 hb_143
  have Ka_145 := Blk.up Ka_136 hb_143
  have KB_146 := Lib.hid (Below.tr KB_137.out hb_143)
  have KW_147 := Lib.hid (SlS.upN KW_138.out (by omega) hb_143)
  have KX_148 := Lib.hid (OwnR.up KX_139.out hb_143)
  have KE_149 := Lib.hid (OwnR.up KE_140.out hb_143)
  have KQ_150 := Lib.hid (OEds.up KQ_142.out hb_143)
  clear Kx_135 Ka_136 KB_137 KW_138 KX_139 KE_140 KQ_142
  go_wp2_with fail
  refine (markEditS_any _ _ _ es 1 _ KQ_150.out hmk hel).mono ?_
  rintro e w15 ⟨rfl, ho_152, hg_151⟩
  have hc_153 := hg_151
  have z_w15 : w14.heap.size ≤ w15.heap.size := Chg.size hc_153
  have Kx_154 := Blk.chg Kx_144 hc_153 (by omega)
  have Ka_155 := Blk.chg Ka_145 hc_153 (by omega)
  have KB_156 := Lib.hid (Below.chg KB_146.out (by have := Below.size KB_146.out; omega) hc_153 (by omega))
  have KW_157 := Lib.hid (SlS.chgN KW_147.out (by omega) hc_153 (by omega))
  have KX_158 := Lib.hid (OwnR.chg KX_148.out hc_153 (by omega))
  have KE_159 := Lib.hid (OwnR.chg KE_149.out hc_153 (by omega))
  have KQ_160 := Lib.hid ho_152
  clear hb_143 Kx_144 Ka_145 KB_146 KW_147 KX_148 KE_149 KQ_150 ho_152 hg_151 hc_153
  clear e0
  go_wp2_with fail
  refine (heldEditS_any _ es 1 _ (OEds.sl KQ_160.out) hmk hel).mono ?_
  rintro e w16 ⟨rfl, hb_161⟩
  have z_w16 : w15.heap.size ≤ w16.heap.size := hb_161.size
  have Kx_162 := Blk.up Kx_154 hb_161
  have Ka_163 := Blk.up Ka_155 hb_161
  have KB_164 := Lib.hid (Below.tr KB_156.out hb_161)
  have KW_165 := Lib.hid (SlS.upN KW_157.out (by omega) hb_161)
  have KX_166 := Lib.hid (OwnR.up KX_158.out hb_161)
  have KE_167 := Lib.hid (OwnR.up KE_159.out hb_161)
  have KQ_168 := Lib.hid (OEds.up KQ_160.out hb_161)
  clear Kx_154 Ka_155 KB_156 KW_157 KX_158 KE_159 KQ_160
  have e1 : (decide (((markEnd 1 es : Nat) : Int) < 0)) = false := by simp
  have ca0_169 := Blk.cell (i := 0) (v := .slice A xs.length c) Ka_163 rfl
  have la_170 := Blk.lt Ka_163
  have cx0_171 := Blk.cell (i := 0) (v := .int .i64 e.kind) Kx_162 rfl
  have cx1_172 := Blk.cell (i := 1) (v := .int .i64 e.i) Kx_162 rfl
  have cx2_173 := Blk.cell (i := 2) (v := .int .i64 e.j) Kx_162 rfl
  have cx3_174 := Blk.cell (i := 3) (v := .int .i64 e.k) Kx_162 rfl
  have cx4_175 := Blk.cell (i := 4) (v := .slice AR e.part.length cR) Kx_162 rfl
  have cx5_176 := Blk.cell (i := 5) (v := .string e.map) Kx_162 rfl
  have lx_177 := Blk.lt Kx_162
  go_wp2_with fail
  have KD := keep17 Ka_163 Kx_162 (Below.drew (Below.refl w16.heap.size w16))
  have HBS := Lib.hid KB_164.out
  have HKA := Lib.hid Ka_163
  have HKX := Lib.hid Kx_162
  go_region_held3 (fun w' => Below w16.heap.size w16 w' ∧ w'.cell? ⟨w.heap.size, 0, none⟩ = some (.slice A xs.length c) ∧ w'.cell? ⟨w.heap.size + 1, 0, none⟩ = some (.int .i64 e.kind) ∧ w'.cell? ⟨w.heap.size + 1, 1, none⟩ = some (.int .i64 e.i) ∧ w'.cell? ⟨w.heap.size + 1, 2, none⟩ = some (.int .i64 e.j) ∧ w'.cell? ⟨w.heap.size + 1, 3, none⟩ = some (.int .i64 e.k) ∧ w'.cell? ⟨w.heap.size + 1, 4, none⟩ = some (.slice AR e.part.length cR) ∧ w'.cell? ⟨w.heap.size + 1, 5, none⟩ = some (.string e.map))
    (first | (with_reducible exact KD) | (with_reducible exact keep17 HKA.out HKX.out b1) | (with_reducible exact keep17 HKA.out HKX.out b2) | (with_reducible exact keep17 HKA.out HKX.out b3))
    (first
      | (go_at_call 12; (refine (toGrammar_any _ xs _ (HG.out.up (by repeat (first | exact HBS.out | (refine Below.alloc ?_ (by first | omega | (simp; done) | (simp; omega)) _) | (refine Below.setCell ?_ (by first | exact Nat.le_refl _ | (show _ ≤ _; omega) | (simp; done) | (simp; omega)) _) | refine below_drewN ?_ _ | refine Below.drew ?_))) hn).mono ?_); rintro r t1 ⟨v1, rfl, own1, hb1⟩; have b1 : Below w16.heap.size w16 t1 := Below.undrew hb1)
      | (go_at_call 13; (refine (toEditO_any _ e _ ⟨_, rfl, HR.out.up (by repeat (first | exact Below.tr HBS.out b1 | (refine Below.alloc ?_ (by first | omega | (simp; done) | (simp; omega)) _) | (refine Below.setCell ?_ (by first | exact Nat.le_refl _ | (show _ ≤ _; omega) | (simp; done) | (simp; omega)) _) | refine below_drewN ?_ _ | refine Below.drew ?_))⟩ hn2).mono ?_); rintro r t2 ⟨v2, rfl, own2, hb2⟩; have b2 := Below.tr b1 hb2)
      | (go_at_call 27; (refine (implInverse_any _ _ xs e _ (OwnRules.sl1 own1 (by repeat (first | exact hb2 | (refine Below.alloc ?_ (by first | omega | (simp; done) | (simp; omega)) _) | (refine Below.setCell ?_ (by first | exact Nat.le_refl _ | (show _ ≤ _; omega) | (simp; done) | (simp; omega)) _) | refine below_drewN ?_ _ | refine Below.drew ?_))) ⟨_, rfl, OwnRules.sl1 own2 (by repeat (first | exact Below.refl _ _ | (refine Below.alloc ?_ (by first | omega | (simp; done) | (simp; omega)) _) | (refine Below.setCell ?_ (by first | exact Nat.le_refl _ | (show _ ≤ _; omega) | (simp; done) | (simp; omega)) _) | refine below_drewN ?_ _ | refine Below.drew ?_))⟩ hn hn2 hm (tabB HT.out (by repeat (first | exact Below.tr HBS.out b2 | (refine Below.alloc ?_ (by first | omega | (simp; done) | (simp; omega)) _) | (refine Below.setCell ?_ (by first | exact Nat.le_refl _ | (show _ ≤ _; omega) | (simp; done) | (simp; omega)) _) | refine below_drewN ?_ _ | refine Below.drew ?_)))).mono ?_); rintro r t3 ⟨hb3, v3, rfl, own3⟩; have b3 := Below.tr b2 hb3))
  rw [HES.out] at own3
  have hbR2 := b3
  have KW2 := Lib.hid (OEds.sl own3)
  clear KD HBS HKA HKX b1 b2 b3 hb1 hb2 hb3 own1 own2 own3
  have hb_178 := hbR2
  have z_t3 : w16.heap.size ≤ t3.heap.size := hb_178.size
  have Kx_179 := Blk.up Kx_162 hb_178
  have Ka_180 := Blk.up Ka_163 hb_178
  have KB_181 := Lib.hid (Below.tr KB_164.out hb_178)
  have KW_182 := Lib.hid (SlS.upN KW_165.out (by omega) hb_178)
  have KX_183 := Lib.hid (OwnR.up KX_166.out hb_178)
  have KE_184 := Lib.hid (OwnR.up KE_167.out hb_178)
  have KQ_185 := Lib.hid (OEds.up KQ_168.out hb_178)
  clear hb_161 ca0_169 la_170 cx0_171 cx1_172 cx2_173 cx3_174 cx4_175 cx5_176 lx_177 Kx_162 Ka_163 KB_164 KW_165 KX_166 KE_167 KQ_168
  go_wp2_with fail
  refine (eqEditS_any _ _ es _ (SlS.le KW2.out (by omega)) (SlS.le KW_182.out (by omega))).mono ?_
  rintro e w18 ⟨rfl, hb_186⟩
  have z_w18 : t3.heap.size ≤ w18.heap.size := hb_186.size
  have Kx_187 := Blk.up Kx_179 hb_186
  have Ka_188 := Blk.up Ka_180 hb_186
  have KB_189 := Lib.hid (Below.tr KB_181.out hb_186)
  have KW_190 := Lib.hid (SlS.upN KW_182.out (by omega) hb_186)
  have KX_191 := Lib.hid (OwnR.up KX_183.out hb_186)
  have KE_192 := Lib.hid (OwnR.up KE_184.out hb_186)
  have KQ_193 := Lib.hid (OEds.up KQ_185.out hb_186)
  have KH_194 := Lib.hid (SlS.upN KW2.out (by omega) hb_186)
  clear hb_178 Kx_179 Ka_180 KB_181 KW_182 KX_183 KE_184 KQ_185 KW2
  go_wp2_with fail
  refine (heldEditS_any _ es 1 _ (OEds.sl KQ_193.out) hmk hel).mono ?_
  rintro e w19 ⟨rfl, hb_195⟩
  have z_w19 : w18.heap.size ≤ w19.heap.size := hb_195.size
  have Kx_196 := Blk.up Kx_187 hb_195
  have Ka_197 := Blk.up Ka_188 hb_195
  have KB_198 := Lib.hid (Below.tr KB_189.out hb_195)
  have KW_199 := Lib.hid (SlS.upN KW_190.out (by omega) hb_195)
  have KX_200 := Lib.hid (OwnR.up KX_191.out hb_195)
  have KE_201 := Lib.hid (OwnR.up KE_192.out hb_195)
  have KQ_202 := Lib.hid (OEds.up KQ_193.out hb_195)
  have KH_203 := Lib.hid (SlS.upN KH_194.out (by omega) hb_195)
  clear hb_186 Kx_187 Ka_188 KB_189 KW_190 KX_191 KE_192 KQ_193 KH_194
  go_wp2
  go_ret
  exact ⟨rfl, KB_198.out⟩
end Go.Proofs.YtfapnipmgmpgaaaGreatDoor

namespace Go.Proofs.YtfapnipmgmpgaaaGreatDoor
open Go.RowKit Go.WideShapes Go.ChangeShapes
section
variable {H : Type} {enc : TypeId × Value → H} {P : Program}
theorem post_of_below {f : Func} {s : ChangeSpec} {apart fresh handsOn again : Bool} {W W' : World} {args : Array Value} {v : Value} {ds gs : List (DataW H)} {before pa pv : List MemPlace}
    (hW : DataW.Whole enc P f.params.toList s.vars apart W args.toList ds gs before)
    (hres : ∀ (b : Nat) (sp : Nat → Bool) (hd : Bool), DataW.TrodAll enc P W' b sp hd f.resultTypes.toList (v.resultList f.resultTypes.size) (s.fn H (ds ++ gs)).results [])
    (hargs : ∀ sp : Nat → Bool, (∀ p ∈ before, sp p.block = true) → DataW.TrodAll enc P W' 0 sp true f.params.toList args.toList (s.fn H (ds ++ gs)).args pa)
    (hvars : ∀ sp : Nat → Bool, (∀ p ∈ before, sp p.block = true) → DataW.TrodVars enc P W' sp s.vars (s.fn H (ds ++ gs)).vars pv)
    (hps : before = pa ++ pv) (hb : Below W.heap.size W W')
    (hok : ∀ (j : Nat) (t : TypeId) (r : Value), f.resultTypes[j]? = some t → (v.resultList f.resultTypes.size)[j]? = some r → Value.okWide P W' .any 0 t r) :
    s.post enc P f apart fresh handsOn again W args v W' := by
  have hlt : ∀ p ∈ before, p.block < W.heap.size := fun p hp => hW.lt p hp
  have hold : ∀ p ∈ before, (fun b => decide (b < W.heap.size)) p.block = true := fun p hp => by simpa using hlt p hp
  refine ⟨ds, gs, before, [], pa, pv, hW, hres _ _ _, hargs _ hold, hvars _ hold, World.keptBut_mono (fun p hp => ⟨hp, ?_⟩) (hb.frame (· ∈ before)), fun _ => ?_⟩
  · rw [hps, List.mem_append] at hp
    exact Or.inr hp
  · obtain ⟨_, _, _, _, _, hz, hn⟩ := hW
    refine ⟨hok, _, _, ([] ++ pa) ++ pv, ⟨[] ++ pa, pv, trodAll_append (hargs _ (fun _ _ => rfl)) (hres _ _ _), hvars _ (fun _ _ => rfl), rfl, ?_, ?_⟩, ?_⟩
    · intro b off hp
      have hin : MemPlace.cell b off ∈ before := by rw [hps]; simpa using hp
      rw [hb.frozen (hlt _ hin)]
      exact hz b off hin
    · intro ha
      have := hn ha
      rw [hps] at this
      simpa using this
    · intro p hp _
      rw [hps]
      simpa using hp

theorem trodAll_below (hl : laidOutB P = true) {W W' : World} (hb : Below W.heap.size W W') : ∀ {ts : List TypeId} {vs : List Value} {ds : List (DataW H)} {ps : List MemPlace},
    (∀ t ∈ ts, P.readableRec t = true ∧ t < P.types.size) → DataW.TrodAll enc P W 0 (fun _ => true) true ts vs ds ps → (∀ x ∈ ps, x.block < W.heap.size) → ∀ sp : Nat → Bool, (∀ p ∈ ps, sp p.block = true) →
    DataW.TrodAll enc P W' 0 sp true ts vs ds ps
  | [], _, _, _, _, h, _, _, _ => by
    obtain ⟨rfl, rfl, rfl⟩ := trodAll_nil h
    exact trodAll_mk0
  | t :: ts, vs, ds, ps, hts, h, hlt, sp, hsp => by
    obtain ⟨v, vs', d, ds', p, q, rfl, rfl, rfl, h0, r0⟩ := trodAll_cons h
    refine trodAll_cons_mk (WideElems.Trod_stays hl (hts t (by simp)).1 (hts t (by simp)).2 h0 (fun x hx => hb.same (hlt x (by simp [hx]))) (fun x hx => hsp x (by simp [hx]))) ?_
    exact trodAll_below hl hb (fun t ht => hts t (by simp [ht])) r0 (fun x hx => hlt x (by simp [hx])) sp (fun x hx => hsp x (by simp [hx]))
end
theorem laidOut : laidOutB Tryz.prog = true := by kernel_rfl
theorem own : ownKnob Tryz.prog.godebug = none := by kernel_rfl
end Go.Proofs.YtfapnipmgmpgaaaGreatDoor

