import Derived.Test.YtfapnipmgmpgaaaGreatDoorM13
import Derived.Test.YtfapnipmgmpgaaaGreatDoorM6
import Derived.Test.YtfapnipmgmpgaaaGreatDoorM11
import Derived.Test.YtfapnipmgmpgaaaGreatDoorM3
import Derived.Test.YtfapnipmgmpgaaaGreatDoorM8
import Derived.Test.YtfapnipmgmpgaaaGreatDoorM9
import Derived.Test.YtfapnipmgmpgaaaGreatDoorM2
namespace Go.Proofs.YtfapnipmgmpgaaaGreatDoor
open Go.RowKit

theorem turn_same {e : GEdit} (h : editOk e = true) (hk : e.kind = 5) : e = turnE e.i e.j ∧ e.part = [] := by
  obtain ⟨k, i, j, kk, part, map⟩ := e
  simp only at hk
  subst hk
  simp only [editOk, Bool.and_eq_true, inR, decide_eq_true_eq] at h
  obtain ⟨⟨⟨⟨⟨⟨⟨⟨h1, h1'⟩, h2⟩, h3⟩, h4⟩, h5⟩, h6⟩, h7⟩, h8⟩ := h
  have e1 : kk = 0 := by simpa [numOk, usesK] using h4
  have e2 : part = [] := by
    have : ¬ 0 < part.length := by simpa using h6
    exact List.eq_nil_of_length_eq_zero (by omega)
  have e3 : map.size = 0 := by simpa using h8
  have e4 : map = ⟨#[]⟩ := by
    obtain ⟨d⟩ := map
    have : d.size = 0 := e3
    have : d = #[] := Array.eq_empty_of_size_eq_zero this
    rw [this]
  subst e1 e2 e4
  exact ⟨rfl, rfl⟩
set_option maxRecDepth 100000 in
set_option maxHeartbeats 4000000 in
theorem implInverse_any (vG v : Value) (xs : List GRule) (e : GEdit) (w : World) (hG : Sl RuleE w w.heap.size vG xs) (hE : EditV w w.heap.size v e) (hn : xs.length ≤ 1048576) (hn2 : e.part.length ≤ 1048576) (hm : e.map.size ≤ maxLen) (htab : Lib.TabIs Tryz.prog w "math/bits.deBruijn64tab" .u8 deB64) :
    Calls Tryz.prog 27 #[.agg #[vG], v] w (ERes (invOut xs e) (invCode xs e) w) := by
  obtain ⟨vR, rfl, hR⟩ := hE
  have HG := Lib.hid hG
  have HR := Lib.hid hR
  have HT := Lib.hid htab
  obtain ⟨AG, cG, rfl, _⟩ := hG
  obtain ⟨AR, cR, rfl, hAc⟩ := hR
  clear htab
  go_enter Tryz.func27, Tryz.ntmps27
  go_wp2_with fail
  refine (implApply_any _ _ xs e _ (HG.out.up (by repeat (first | exact Below.refl _ _ | (refine Below.alloc ?_ (by first | omega | (simp; done) | (simp; omega)) _) | (refine Below.setCell ?_ (by first | exact Nat.le_refl _ | (show _ ≤ _; omega) | (simp; done) | (simp; omega)) _) | refine below_drewN ?_ _ | refine Below.drew ?_))) ⟨_, rfl, HR.out.up (by repeat (first | exact Below.refl _ _ | (refine Below.alloc ?_ (by first | omega | (simp; done) | (simp; omega)) _) | (refine Below.setCell ?_ (by first | exact Nat.le_refl _ | (show _ ≤ _; omega) | (simp; done) | (simp; omega)) _) | refine below_drewN ?_ _ | refine Below.drew ?_))⟩ hn hn2 hm (tabB HT.out (by repeat (first | exact Below.refl _ _ | (refine Below.alloc ?_ (by first | omega | (simp; done) | (simp; omega)) _) | (refine Below.setCell ?_ (by first | exact Nat.le_refl _ | (show _ ≤ _; omega) | (simp; done) | (simp; omega)) _) | refine below_drewN ?_ _ | refine Below.drew ?_)))).mono ?_
  rintro e w1 ⟨hb_1, v1, own1, rfl⟩
  have KE_2 : Blk w1 (w.heap.size + 1) #[.int .i64 e.kind, .int .i64 e.i, .int .i64 e.j, .int .i64 e.k, .slice AR e.part.length cR, .string e.map] 36 := by have := (Below.unalloc hb_1).2; simpa [Blk] using this
  replace hb_1 := (Below.unalloc hb_1).1
  have KP_3 : Blk w1 (w.heap.size) #[.slice AG xs.length cG] 31 := by have := (Below.unalloc hb_1).2; simpa [Blk] using this
  replace hb_1 := (Below.unalloc hb_1).1
  have z_w1 : w.heap.size ≤ w1.heap.size := hb_1.size
  have KG_4 := Lib.hid (HG.out.up hb_1)
  have KR_5 := Lib.hid (HR.out.up hb_1)
  have KB_6 := Lib.hid hb_1
  clear HG HR
  obtain ⟨A1, k1, rfl, _⟩ := own_nil own1
  clear own1
  have bZ := (Below.refl w1.heap.size w1).alloc (Nat.le_refl _) (Obj.cells #[.slice A1 (applyOut xs e).length k1] 31)
  have hbad : ∀ c : Int, applyCode xs e = c → c ≠ 0 → invOut xs e = [] ∧ invCode xs e = c := fun c h hc => by
    have hn : ¬ applyCode xs e = 0 := by omega
    exact ⟨by unfold invOut; rw [if_neg hn], by unfold invCode; rw [if_neg hn]; exact h⟩
  rcases applyCode_cases xs e with hc | hc | hc | hc
  case inr.inl =>
    have HBD := Lib.hid (hbad 1 hc (by decide))
    rw [hc]
    clear hbad hc
    go_wp2_with fail
    refine bodyPost_ret (v := .tuple #[.slice none 0 0, .int .i64 1]) (by simp [results, Tryz.results27, go_sem]) rfl ?_
    rw [HBD.out.1, HBD.out.2]
    exact ERes.mk1 (lo := w.heap.size) (Below.tr KB_6.out bZ) (oeds_zero (Below.size (Below.tr KB_6.out bZ))) (Nat.le_refl _)
  case inr.inr.inl =>
    have HBD := Lib.hid (hbad 2 hc (by decide))
    rw [hc]
    clear hbad hc
    go_wp2_with fail
    refine bodyPost_ret (v := .tuple #[.slice none 0 0, .int .i64 2]) (by simp [results, Tryz.results27, go_sem]) rfl ?_
    rw [HBD.out.1, HBD.out.2]
    exact ERes.mk1 (lo := w.heap.size) (Below.tr KB_6.out bZ) (oeds_zero (Below.size (Below.tr KB_6.out bZ))) (Nat.le_refl _)
  case inr.inr.inr =>
    have HBD := Lib.hid (hbad 3 hc (by decide))
    rw [hc]
    clear hbad hc
    go_wp2_with fail
    refine bodyPost_ret (v := .tuple #[.slice none 0 0, .int .i64 3]) (by simp [results, Tryz.results27, go_sem]) rfl ?_
    rw [HBD.out.1, HBD.out.2]
    exact ERes.mk1 (lo := w.heap.size) (Below.tr KB_6.out bZ) (oeds_zero (Below.size (Below.tr KB_6.out bZ))) (Nat.le_refl _)
  case inl =>
    have HC0 := Lib.hid hc
    have HAK := Lib.hid (applyCode_ok hc)
    have hls : lens xs = some (lsOf xs) := by
      obtain ⟨ls, h⟩ := (gram_lens (applyCode_ok hc).1).2
      simp [lsOf, h]
    have HIO := Lib.hid (show invOut xs e = (invL xs (lsOf xs) e).getD [] by unfold invOut; rw [if_pos hc])
    have HIC := Lib.hid (show invCode xs e = (if (invL xs (lsOf xs) e).isSome then 0 else 3) by unfold invCode; rw [if_pos hc])
    have hgl := gramLen_of hls
    have HF := Lib.hid (fits_nums (applyCode_ok hc).2.1 (applyCode_ok hc).2.2)
    have HK := Lib.hid (kind_ok (applyCode_ok hc).2.1)
    have hgb := gramLen_bounds xs
    obtain ⟨ls, hlq⟩ : ∃ ls, lsOf xs = ls := ⟨_, rfl⟩
    rw [hlq] at hls HIO HIC hgl
    have HL := Lib.hid hls
    have HGL := Lib.hid hgl
    have HGB := Lib.hid hgb
    rw [hc]
    clear hbad hc hls hlq hgl hgb
    have cE0_7 := Blk.cell (i := 0) (v := .int .i64 e.kind) KE_2 rfl
    have cE1_8 := Blk.cell (i := 1) (v := .int .i64 e.i) KE_2 rfl
    have cE2_9 := Blk.cell (i := 2) (v := .int .i64 e.j) KE_2 rfl
    have cE3_10 := Blk.cell (i := 3) (v := .int .i64 e.k) KE_2 rfl
    have cE4_11 := Blk.cell (i := 4) (v := .slice AR e.part.length cR) KE_2 rfl
    have cE5_12 := Blk.cell (i := 5) (v := .string e.map) KE_2 rfl
    have lE_13 := Blk.lt KE_2
    go_upto_region 4 with fail
    clear hb_1 cE0_7 cE1_8 cE2_9 cE3_10 cE4_11 cE5_12 lE_13
    generalize w1.alloc (Obj.cells #[Value.slice A1 (applyOut xs e).length k1] 31) = w2 at *
    have hb_14 := bZ
    have z_w2 : w1.heap.size ≤ w2.heap.size := hb_14.size
    have KG_15 := Lib.hid (KG_4.out.up hb_14)
    have KR_16 := Lib.hid (KR_5.out.up hb_14)
    have KE_17 := Blk.up KE_2 hb_14
    have KP_18 := Blk.up KP_3 hb_14
    have KB_19 := Lib.hid (Below.tr KB_6.out hb_14)
    clear KG_4 KR_5 KE_2 KP_3 KB_6
    rcases HK.out.1 with hk | hk | hk | hk | hkk
    · skip
      have cE0_20 := Blk.cell (i := 0) (v := .int .i64 e.kind) KE_17 rfl
      have cE1_21 := Blk.cell (i := 1) (v := .int .i64 e.i) KE_17 rfl
      have cE2_22 := Blk.cell (i := 2) (v := .int .i64 e.j) KE_17 rfl
      have cE3_23 := Blk.cell (i := 3) (v := .int .i64 e.k) KE_17 rfl
      have cE4_24 := Blk.cell (i := 4) (v := .slice AR e.part.length cR) KE_17 rfl
      have cE5_25 := Blk.cell (i := 5) (v := .string e.map) KE_17 rfl
      have lE_26 := Blk.lt KE_17
      rw [hk] at cE0_20
      have HQ := Lib.hid (show invOut xs e = [delE e.i (e.i + gramLen e.part)] ∧ invCode xs e = 0 by rw [HIO.out, HIC.out]; unfold invL; rw [if_pos hk]; exact ⟨rfl, rfl⟩)
      have hgb2 := gramLen_bounds e.part
      have hi0 : 0 ≤ e.i ∧ e.i ≤ 1000000000000000 := by have h1 := HF.out.2.1 hk; have := HGB.out; have := HF.out.1; omega
      have ws : IntKind.i64.wrap (e.i + gramLen e.part) = e.i + gramLen e.part := IntWalk.i64_in _ (by omega)
      have q1 : lenV e.part = gramLen e.part := by unfold lenV; rw [HK.out.2.1]; rfl
      clear hk
      go_wp2_with fail
      refine (LengthOf_any _ e.part _ (KR_16.out.up (by repeat (first | exact Below.refl _ _ | (refine Below.alloc ?_ (by first | omega | (simp; done) | (simp; omega)) _) | (refine Below.setCell ?_ (by first | exact Nat.le_refl _ | (show _ ≤ _; omega) | (simp; done) | (simp; omega)) _) | refine below_drewN ?_ _ | refine Below.drew ?_))) (by omega)).mono ?_
      rintro e w3 ⟨rfl, hb_27⟩
      have z_w3 : w2.heap.size ≤ w3.heap.size := hb_27.size
      have KG_28 := Lib.hid (KG_15.out.up hb_27)
      have KR_29 := Lib.hid (KR_16.out.up hb_27)
      have KE_30 := Blk.up KE_17 hb_27
      have KP_31 := Blk.up KP_18 hb_27
      have KB_32 := Lib.hid (Below.tr KB_19.out hb_27)
      clear hb_14 cE0_20 cE1_21 cE2_22 cE3_23 cE4_24 cE5_25 lE_26 KG_15 KR_16 KE_17 KP_18 KB_19
      rw [q1]
      clear q1
      have cE0_33 := Blk.cell (i := 0) (v := .int .i64 e.kind) KE_30 rfl
      have cE1_34 := Blk.cell (i := 1) (v := .int .i64 e.i) KE_30 rfl
      have cE2_35 := Blk.cell (i := 2) (v := .int .i64 e.j) KE_30 rfl
      have cE3_36 := Blk.cell (i := 3) (v := .int .i64 e.k) KE_30 rfl
      have cE4_37 := Blk.cell (i := 4) (v := .slice AR e.part.length cR) KE_30 rfl
      have cE5_38 := Blk.cell (i := 5) (v := .string e.map) KE_30 rfl
      have lE_39 := Blk.lt KE_30
      go_wp2_with fail
      refine bodyPost_ret (v := .tuple #[.slice (some ⟨w3.heap.size, 0, none⟩) 1 1, .int .i64 0]) (by simp [results, Tryz.results27, go_sem]) rfl ?_
      rw [HQ.out.1, HQ.out.2]
      exact ERes.mk1 (lo := w.heap.size) (Below.alloc KB_32.out (Below.size KB_32.out) _) (oeds_one (e := delE e.i (e.i + gramLen e.part)) (u := .slice none 0 0) rfl (Below.size KB_32.out) (.inl ⟨rfl, none, 0, rfl, Nat.zero_le _⟩)) (Nat.le_refl _)
    · skip
      have cE0_40 := Blk.cell (i := 0) (v := .int .i64 e.kind) KE_17 rfl
      have cE1_41 := Blk.cell (i := 1) (v := .int .i64 e.i) KE_17 rfl
      have cE2_42 := Blk.cell (i := 2) (v := .int .i64 e.j) KE_17 rfl
      have cE3_43 := Blk.cell (i := 3) (v := .int .i64 e.k) KE_17 rfl
      have cE4_44 := Blk.cell (i := 4) (v := .slice AR e.part.length cR) KE_17 rfl
      have cE5_45 := Blk.cell (i := 5) (v := .string e.map) KE_17 rfl
      have lE_46 := Blk.lt KE_17
      rw [hk] at cE0_40
      have HKE := Lib.hid hk
      have hij : 0 ≤ e.i ∧ e.i ≤ e.j ∧ e.j ≤ 1000000000000000 := by have h0 := HF.out.1; have h1 := HF.out.2.2.1 (by omega); have := HGB.out; omega
      have ws : IntKind.i64.wrap (e.j - e.i) = e.j - e.i := IntWalk.i64_in _ (by omega)
      by_cases hz : e.j - e.i = 0
      · have HQ := Lib.hid (show invOut xs e = [] ∧ invCode xs e = 0 by rw [HIO.out, HIC.out]; unfold invL; rw [if_neg (by omega), if_pos hz]; exact ⟨rfl, rfl⟩)
        clear hk
        go_wp2_with fail
        refine bodyPost_ret (v := .tuple #[.slice none 0 0, .int .i64 0]) (by simp [results, Tryz.results27, go_sem]) rfl ?_
        rw [HQ.out.1, HQ.out.2]
        exact ERes.mk1 (lo := w.heap.size) KB_19.out (oeds_zero (Below.size KB_19.out)) (Nat.le_refl _)
      · skip
        have hs2 := Below.size KB_19.out
        have hrange : 0 ≤ e.i ∧ e.i ≤ e.j ∧ e.j ≤ lastI ls := by have h0 := HF.out.1; have h1 := HF.out.2.2.1 (by omega); have := HGL.out; omega
        have HY := Lib.hid (partOut_yes HAK.out.1 HL.out hrange)
        have HGP := Lib.hid (partG_gramLen HL.out hrange.1 hrange.2.1 hrange.2.2)
        clear hk
        have cP0_47 := Blk.cell (i := 0) (v := .slice AG xs.length cG) KP_18 rfl
        have lP_48 := Blk.lt KP_18
        go_wp2_with fail
        refine (implPart_any _ xs e.i e.j _ (KG_15.out.up (by repeat (first | exact Below.refl _ _ | (refine Below.alloc ?_ (by first | omega | (simp; done) | (simp; omega)) _) | (refine Below.setCell ?_ (by first | exact Nat.le_refl _ | (show _ ≤ _; omega) | (simp; done) | (simp; omega)) _) | refine below_drewN ?_ _ | refine Below.drew ?_))) hn).mono ?_
        rintro e w3 ⟨hb_49, v9, own9, rfl⟩
        have z_w3 : w2.heap.size ≤ w3.heap.size := hb_49.size
        have KG_50 := Lib.hid (KG_15.out.up hb_49)
        have KR_51 := Lib.hid (KR_16.out.up hb_49)
        have KE_52 := Blk.up KE_17 hb_49
        have KP_53 := Blk.up KP_18 hb_49
        have KB_54 := Lib.hid (Below.tr KB_19.out hb_49)
        clear hb_14 cE0_40 cE1_41 cE2_42 cE3_43 cE4_44 cE5_45 lE_46 cP0_47 lP_48 KG_15 KR_16 KE_17 KP_18 KB_19
        rw [HY.out.1] at own9
        rw [HY.out.2]
        obtain ⟨A9, c9, rfl, _⟩ := own_nil own9
        have bZ := (Below.refl w3.heap.size w3).alloc (Nat.le_refl _) (Obj.cells #[.slice A9 (limOut (partG xs ls e.i e.j)).length c9] 31)
        have KZ := Blk.new w3 #[.slice A9 (limOut (partG xs ls e.i e.j)).length c9] 31
        have KO4 := OwnRules.below own9 bZ
        go_upto_region 20 with fail
        generalize w3.alloc (Obj.cells #[Value.slice A9 (limOut (partG xs ls e.i e.j)).length c9] 31) = w4 at *
        clear own9
        have hb_55 := bZ
        have z_w4 : w3.heap.size ≤ w4.heap.size := hb_55.size
        have KG_56 := Lib.hid (KG_50.out.up hb_55)
        have KR_57 := Lib.hid (KR_51.out.up hb_55)
        have KE_58 := Blk.up KE_52 hb_55
        have KP_59 := Blk.up KP_53 hb_55
        have KB_60 := Lib.hid (Below.tr KB_54.out hb_55)
        clear hb_49 KG_50 KR_51 KE_52 KP_53 KB_54
        have HO4 := Lib.hid KO4
        have HZ4 := Lib.hid KZ
        clear KO4 KZ
        have hs34 : w2.heap.size ≤ w4.heap.size := by omega
        have lE4 := Blk.lt KE_58
        cases hq : gramOk (partG xs ls e.i e.j) with
        | false =>
          have q2 : limCode (partG xs ls e.i e.j) = 3 := by unfold limCode; rw [hq]; rfl
          have HQ := Lib.hid (show invOut xs e = [] ∧ invCode xs e = 3 by rw [HIO.out, HIC.out]; unfold invL; have := HKE.out; rw [if_neg (by omega), if_neg hz, if_neg (by omega), if_neg (by omega), if_neg (by omega), hq]; exact ⟨rfl, rfl⟩)
          rw [q2]
          clear hq q2
          go_wp2_with fail
          refine bodyPost_ret (v := .tuple #[.slice none 0 0, .int .i64 3]) (by simp [results, Tryz.results27, go_sem]) rfl ?_
          rw [HQ.out.1, HQ.out.2]
          exact ERes.mk1 (lo := w.heap.size) KB_60.out (oeds_zero (Below.size KB_60.out)) (Nat.le_refl _)
        | true =>
          have q1 : limOut (partG xs ls e.i e.j) = partG xs ls e.i e.j := by unfold limOut; rw [hq]; rfl
          have q2 : limCode (partG xs ls e.i e.j) = 0 := by unfold limCode; rw [hq]; rfl
          have HQ := Lib.hid (show invOut xs e = invD e ++ [insE e.i (partG xs ls e.i e.j)] ∧ invCode xs e = 0 by rw [HIO.out, HIC.out]; unfold invL; have := HKE.out; rw [if_neg (by omega), if_neg hz, if_neg (by omega), if_neg (by omega), if_neg (by omega), hq]; exact ⟨rfl, rfl⟩)
          rw [q1] at HZ4 HO4
          rw [q2]
          clear q1 q2 hq HY
          generalize partG xs ls e.i e.j = p at *
          have KZ5 := HZ4.out
          have lZ := KZ5.lt
          have bA := (Below.refl w4.heap.size w4).alloc (Nat.le_refl _) (Obj.cells #[] 36)
          have HKO := Lib.hid (oedp_empty (W := w4) (lo := w2.heap.size) rfl hs34)
          have HO5 := Lib.hid (OwnRules.below HO4.out bA)
          have hs5 : w4.heap.size < (w4.alloc (Obj.cells #[] 36)).heap.size := by simp
          go_upto_region 23 with fail
          generalize w4.alloc (Obj.cells #[] 36) = w5 at *
          have hb_61 := bA
          have z_w5 : w4.heap.size ≤ w5.heap.size := hb_61.size
          have KG_62 := Lib.hid (KG_56.out.up hb_61)
          have KR_63 := Lib.hid (KR_57.out.up hb_61)
          have KE_64 := Blk.up KE_58 hb_61
          have KP_65 := Blk.up KP_59 hb_61
          have KB_66 := Lib.hid (Below.tr KB_60.out hb_61)
          have KZ_67 := Blk.up KZ5 hb_61
          clear hb_55 KG_56 KR_57 KE_58 KP_59 KB_60 KZ5
          have HD := Lib.hid (show invD e = [] by unfold invD; rw [if_pos HKE.out])
          have cE0_68 := Blk.cell (i := 0) (v := .int .i64 e.kind) KE_64 rfl
          have cE1_69 := Blk.cell (i := 1) (v := .int .i64 e.i) KE_64 rfl
          have cE2_70 := Blk.cell (i := 2) (v := .int .i64 e.j) KE_64 rfl
          have cE3_71 := Blk.cell (i := 3) (v := .int .i64 e.k) KE_64 rfl
          have cE4_72 := Blk.cell (i := 4) (v := .slice AR e.part.length cR) KE_64 rfl
          have cE5_73 := Blk.cell (i := 5) (v := .string e.map) KE_64 rfl
          have lE_74 := Blk.lt KE_64
          have cZ0_75 := Blk.cell (i := 0) (v := .slice A9 p.length c9) KZ_67 rfl
          have lZ_76 := Blk.lt KZ_67
          rw [HKE.out] at cE0_68
          go_wp2_with (first
            | (at_builtin; refine push_edit (W := w5) (N := w5.heap.size) (e := insE e.i p) (u := .slice A9 p.length c9) (lo := w2.heap.size) (hp := w2.heap.size) (pa := w2.heap.size) (pb := w4.heap.size) (v := .slice (some ⟨w4.heap.size, 0, none⟩) 0 0) (es := []) rfl _ _ rfl rfl rfl rfl HKO.out (by simp) (by omega) (by simp [Value.oneCell']) ⟨.inr ⟨HO5.out, fun g hg => (World.ownsRow.lt HO4.out g hg).2, (by omega)⟩, fun g hg => by simp [Value.ownBlock] at hg; omega⟩ (Nat.le_refl _) hs34 (by omega) (Nat.le_refl _) ?_; intro g9 c9' w9 own9 hg9 hgr9 hb9))
          refine bodyPost_ret (v := .tuple #[.slice (some ⟨g9, 0, none⟩) 1 c9', .int .i64 0]) (by simp [results, Tryz.results27, go_sem]) rfl ?_
          rw [HQ.out.1, HQ.out.2, HD.out]
          exact ERes.mk1 (lo := w2.heap.size) (Below.trans KB_66.out (hb9.mono hs2)) (OEdP.oeds own9 (by have h : w5.heap.size ≤ w9.heap.size := hb9.size; omega)) hs2
    · skip
      have cE0_77 := Blk.cell (i := 0) (v := .int .i64 e.kind) KE_17 rfl
      have cE1_78 := Blk.cell (i := 1) (v := .int .i64 e.i) KE_17 rfl
      have cE2_79 := Blk.cell (i := 2) (v := .int .i64 e.j) KE_17 rfl
      have cE3_80 := Blk.cell (i := 3) (v := .int .i64 e.k) KE_17 rfl
      have cE4_81 := Blk.cell (i := 4) (v := .slice AR e.part.length cR) KE_17 rfl
      have cE5_82 := Blk.cell (i := 5) (v := .string e.map) KE_17 rfl
      have lE_83 := Blk.lt KE_17
      rw [hk] at cE0_77
      have HKE := Lib.hid hk
      have hij : 0 ≤ e.i ∧ e.i ≤ e.j ∧ e.j ≤ 1000000000000000 := by have h0 := HF.out.1; have h1 := HF.out.2.2.1 (by omega); have := HGB.out; omega
      have ws : IntKind.i64.wrap (e.j - e.i) = e.j - e.i := IntWalk.i64_in _ (by omega)
      by_cases hz : e.j - e.i = 0
      · have HQ := Lib.hid (show invOut xs e = [] ∧ invCode xs e = 0 by rw [HIO.out, HIC.out]; unfold invL; rw [if_neg (by omega), if_pos hz]; exact ⟨rfl, rfl⟩)
        clear hk
        go_wp2_with fail
        refine bodyPost_ret (v := .tuple #[.slice none 0 0, .int .i64 0]) (by simp [results, Tryz.results27, go_sem]) rfl ?_
        rw [HQ.out.1, HQ.out.2]
        exact ERes.mk1 (lo := w.heap.size) KB_19.out (oeds_zero (Below.size KB_19.out)) (Nat.le_refl _)
      · have HQ := Lib.hid (show invOut xs e = [delE e.k (e.k + (e.j - e.i))] ∧ invCode xs e = 0 by rw [HIO.out, HIC.out]; unfold invL; rw [if_neg (by omega), if_neg hz, if_pos hk]; exact ⟨rfl, rfl⟩)
        have hkb : 0 ≤ e.k ∧ e.k ≤ 1000000000000000 := by have h1 := HF.out.2.2.2.1 hk; have := HGB.out; omega
        have wk : IntKind.i64.wrap (e.k + (e.j - e.i)) = e.k + (e.j - e.i) := IntWalk.i64_in _ (by omega)
        clear hk
        go_wp2_with fail
        refine bodyPost_ret (v := .tuple #[.slice (some ⟨w2.heap.size, 0, none⟩) 1 1, .int .i64 0]) (by simp [results, Tryz.results27, go_sem]) rfl ?_
        rw [HQ.out.1, HQ.out.2]
        exact ERes.mk1 (lo := w.heap.size) (Below.alloc KB_19.out (Below.size KB_19.out) _) (oeds_one (e := delE e.k (e.k + (e.j - e.i))) (u := .slice none 0 0) rfl (Below.size KB_19.out) (.inl ⟨rfl, none, 0, rfl, Nat.zero_le _⟩)) (Nat.le_refl _)
    · skip
      have cE0_84 := Blk.cell (i := 0) (v := .int .i64 e.kind) KE_17 rfl
      have cE1_85 := Blk.cell (i := 1) (v := .int .i64 e.i) KE_17 rfl
      have cE2_86 := Blk.cell (i := 2) (v := .int .i64 e.j) KE_17 rfl
      have cE3_87 := Blk.cell (i := 3) (v := .int .i64 e.k) KE_17 rfl
      have cE4_88 := Blk.cell (i := 4) (v := .slice AR e.part.length cR) KE_17 rfl
      have cE5_89 := Blk.cell (i := 5) (v := .string e.map) KE_17 rfl
      have lE_90 := Blk.lt KE_17
      rw [hk] at cE0_84
      have HKE := Lib.hid hk
      have hij : 0 ≤ e.i ∧ e.i ≤ e.j ∧ e.j ≤ 1000000000000000 := by have h0 := HF.out.1; have h1 := HF.out.2.2.1 (by omega); have := HGB.out; omega
      have ws : IntKind.i64.wrap (e.j - e.i) = e.j - e.i := IntWalk.i64_in _ (by omega)
      by_cases hz : e.j - e.i = 0
      · have HQ := Lib.hid (show invOut xs e = [] ∧ invCode xs e = 0 by rw [HIO.out, HIC.out]; unfold invL; rw [if_neg (by omega), if_pos hz]; exact ⟨rfl, rfl⟩)
        clear hk
        go_wp2_with fail
        refine bodyPost_ret (v := .tuple #[.slice none 0 0, .int .i64 0]) (by simp [results, Tryz.results27, go_sem]) rfl ?_
        rw [HQ.out.1, HQ.out.2]
        exact ERes.mk1 (lo := w.heap.size) KB_19.out (oeds_zero (Below.size KB_19.out)) (Nat.le_refl _)
      · have hkb : 0 ≤ e.k ∧ e.k ≤ 1000000000000000 := by have h1 := HF.out.2.2.2.2 hk; have := HGB.out; omega
        have wk : IntKind.i64.wrap (e.k + (e.j - e.i)) = e.k + (e.j - e.i) := IntWalk.i64_in _ (by omega)
        have wl : IntKind.i64.wrap (e.k - (e.j - e.i)) = e.k - (e.j - e.i) := IntWalk.i64_in _ (by omega)
        by_cases hki : e.k ≤ e.i
        · have HQ := Lib.hid (show invOut xs e = [movE e.k (e.k + (e.j - e.i)) e.j] ∧ invCode xs e = 0 by rw [HIO.out, HIC.out]; unfold invL; rw [if_neg (by omega), if_neg hz, if_neg (by omega), if_pos hk, if_pos hki]; exact ⟨rfl, rfl⟩)
          clear hk
          go_wp2_with fail
          refine bodyPost_ret (v := .tuple #[.slice (some ⟨w2.heap.size, 0, none⟩) 1 1, .int .i64 0]) (by simp [results, Tryz.results27, go_sem]) rfl ?_
          rw [HQ.out.1, HQ.out.2]
          exact ERes.mk1 (lo := w.heap.size) (Below.alloc KB_19.out (Below.size KB_19.out) _) (oeds_one (e := movE e.k (e.k + (e.j - e.i)) e.j) (u := .slice none 0 0) rfl (Below.size KB_19.out) (.inl ⟨rfl, none, 0, rfl, Nat.zero_le _⟩)) (Nat.le_refl _)
        · have HQ := Lib.hid (show invOut xs e = [movE (e.k - (e.j - e.i)) e.k e.i] ∧ invCode xs e = 0 by rw [HIO.out, HIC.out]; unfold invL; rw [if_neg (by omega), if_neg hz, if_neg (by omega), if_pos hk, if_neg hki]; exact ⟨rfl, rfl⟩)
          clear hk
          go_wp2_with fail
          refine bodyPost_ret (v := .tuple #[.slice (some ⟨w2.heap.size, 0, none⟩) 1 1, .int .i64 0]) (by simp [results, Tryz.results27, go_sem]) rfl ?_
          rw [HQ.out.1, HQ.out.2]
          exact ERes.mk1 (lo := w.heap.size) (Below.alloc KB_19.out (Below.size KB_19.out) _) (oeds_one (e := movE (e.k - (e.j - e.i)) e.k e.i) (u := .slice none 0 0) rfl (Below.size KB_19.out) (.inl ⟨rfl, none, 0, rfl, Nat.zero_le _⟩)) (Nat.le_refl _)
    · have HCK := Lib.hid hkk
      have hk567 : e.kind = 5 ∨ e.kind = 6 ∨ e.kind = 7 := by unfold chgOK at hkk; omega
      clear hkk
      rcases hk567 with hk | hk | hk
      · skip
        have cE0_91 := Blk.cell (i := 0) (v := .int .i64 e.kind) KE_17 rfl
        have cE1_92 := Blk.cell (i := 1) (v := .int .i64 e.i) KE_17 rfl
        have cE2_93 := Blk.cell (i := 2) (v := .int .i64 e.j) KE_17 rfl
        have cE3_94 := Blk.cell (i := 3) (v := .int .i64 e.k) KE_17 rfl
        have cE4_95 := Blk.cell (i := 4) (v := .slice AR e.part.length cR) KE_17 rfl
        have cE5_96 := Blk.cell (i := 5) (v := .string e.map) KE_17 rfl
        have lE_97 := Blk.lt KE_17
        rw [hk] at cE0_91
        have HKE := Lib.hid hk
        have hij : 0 ≤ e.i ∧ e.i ≤ e.j ∧ e.j ≤ 1000000000000000 := by have h0 := HF.out.1; have h1 := HF.out.2.2.1 (by omega); have := HGB.out; omega
        have ws : IntKind.i64.wrap (e.j - e.i) = e.j - e.i := IntWalk.i64_in _ (by omega)
        by_cases hz : e.j - e.i = 0
        · have HQ := Lib.hid (show invOut xs e = [] ∧ invCode xs e = 0 by rw [HIO.out, HIC.out]; unfold invL; rw [if_neg (by omega), if_pos hz]; exact ⟨rfl, rfl⟩)
          clear hk
          go_wp2_with fail
          refine bodyPost_ret (v := .tuple #[.slice none 0 0, .int .i64 0]) (by simp [results, Tryz.results27, go_sem]) rfl ?_
          rw [HQ.out.1, HQ.out.2]
          exact ERes.mk1 (lo := w.heap.size) KB_19.out (oeds_zero (Below.size KB_19.out)) (Nat.le_refl _)
        · obtain ⟨hts, htp⟩ := turn_same HAK.out.2.1 hk
          have HQ := Lib.hid (show invOut xs e = [e] ∧ invCode xs e = 0 by rw [HIO.out, HIC.out]; unfold invL; rw [if_neg (by omega), if_neg hz, if_neg (by omega), if_neg (by omega), if_pos hk]; exact ⟨by rw [← hts]; rfl, rfl⟩)
          have HTP := Lib.hid htp
          have hlp : e.part.length = 0 := by rw [htp]; rfl
          have HKE5 := Lib.hid hk
          clear hk hts htp
          go_wp2_with fail
          refine bodyPost_ret (v := .tuple #[.slice (some ⟨w2.heap.size, 0, none⟩) 1 1, .int .i64 0]) (by simp [results, Tryz.results27, go_sem]) rfl ?_
          rw [HQ.out.1, HQ.out.2]
          have h1 := oeds_one (W := w2) (lo := w.heap.size) (e := e) (u := .slice AR e.part.length cR) rfl (Below.size KB_19.out) (.inl ⟨HTP.out, AR, cR, by rw [hlp], hAc.2.1⟩)
          rw [HKE5.out] at h1
          rw [hlp] at h1
          exact ERes.mk1 (lo := w.heap.size) (Below.alloc KB_19.out (Below.size KB_19.out) _) h1 (Nat.le_refl _)
      · skip
        have cE0_98 := Blk.cell (i := 0) (v := .int .i64 e.kind) KE_17 rfl
        have cE1_99 := Blk.cell (i := 1) (v := .int .i64 e.i) KE_17 rfl
        have cE2_100 := Blk.cell (i := 2) (v := .int .i64 e.j) KE_17 rfl
        have cE3_101 := Blk.cell (i := 3) (v := .int .i64 e.k) KE_17 rfl
        have cE4_102 := Blk.cell (i := 4) (v := .slice AR e.part.length cR) KE_17 rfl
        have cE5_103 := Blk.cell (i := 5) (v := .string e.map) KE_17 rfl
        have lE_104 := Blk.lt KE_17
        rw [hk] at cE0_98
        have HKE := Lib.hid hk
        have hij : 0 ≤ e.i ∧ e.i ≤ e.j ∧ e.j ≤ 1000000000000000 := by have h0 := HF.out.1; have h1 := HF.out.2.2.1 (by omega); have := HGB.out; omega
        have ws : IntKind.i64.wrap (e.j - e.i) = e.j - e.i := IntWalk.i64_in _ (by omega)
        by_cases hz : e.j - e.i = 0
        · have HQ := Lib.hid (show invOut xs e = [] ∧ invCode xs e = 0 by rw [HIO.out, HIC.out]; unfold invL; rw [if_neg (by omega), if_pos hz]; exact ⟨rfl, rfl⟩)
          clear hk
          go_wp2_with fail
          refine bodyPost_ret (v := .tuple #[.slice none 0 0, .int .i64 0]) (by simp [results, Tryz.results27, go_sem]) rfl ?_
          rw [HQ.out.1, HQ.out.2]
          exact ERes.mk1 (lo := w.heap.size) KB_19.out (oeds_zero (Below.size KB_19.out)) (Nat.le_refl _)
        · skip
          have hs2 := Below.size KB_19.out
          have hrange : 0 ≤ e.i ∧ e.i ≤ e.j ∧ e.j ≤ lastI ls := by have h0 := HF.out.1; have h1 := HF.out.2.2.1 (by omega); have := HGL.out; omega
          have HY := Lib.hid (partOut_yes HAK.out.1 HL.out hrange)
          have HGP := Lib.hid (partG_gramLen HL.out hrange.1 hrange.2.1 hrange.2.2)
          have HRB := Lib.hid (rep_bound HC0.out HKE.out HL.out HGP.out)
          clear hk
          have cP0_105 := Blk.cell (i := 0) (v := .slice AG xs.length cG) KP_18 rfl
          have lP_106 := Blk.lt KP_18
          go_wp2_with fail
          refine (implPart_any _ xs e.i e.j _ (KG_15.out.up (by repeat (first | exact Below.refl _ _ | (refine Below.alloc ?_ (by first | omega | (simp; done) | (simp; omega)) _) | (refine Below.setCell ?_ (by first | exact Nat.le_refl _ | (show _ ≤ _; omega) | (simp; done) | (simp; omega)) _) | refine below_drewN ?_ _ | refine Below.drew ?_))) hn).mono ?_
          rintro e w3 ⟨hb_107, v9, own9, rfl⟩
          have z_w3 : w2.heap.size ≤ w3.heap.size := hb_107.size
          have KG_108 := Lib.hid (KG_15.out.up hb_107)
          have KR_109 := Lib.hid (KR_16.out.up hb_107)
          have KE_110 := Blk.up KE_17 hb_107
          have KP_111 := Blk.up KP_18 hb_107
          have KB_112 := Lib.hid (Below.tr KB_19.out hb_107)
          clear hb_14 cE0_98 cE1_99 cE2_100 cE3_101 cE4_102 cE5_103 lE_104 cP0_105 lP_106 KG_15 KR_16 KE_17 KP_18 KB_19
          rw [HY.out.1] at own9
          rw [HY.out.2]
          obtain ⟨A9, c9, rfl, _⟩ := own_nil own9
          have bZ := (Below.refl w3.heap.size w3).alloc (Nat.le_refl _) (Obj.cells #[.slice A9 (limOut (partG xs ls e.i e.j)).length c9] 31)
          have KZ := Blk.new w3 #[.slice A9 (limOut (partG xs ls e.i e.j)).length c9] 31
          have KO4 := OwnRules.below own9 bZ
          go_upto_region 20 with fail
          generalize w3.alloc (Obj.cells #[Value.slice A9 (limOut (partG xs ls e.i e.j)).length c9] 31) = w4 at *
          clear own9
          have hb_113 := bZ
          have z_w4 : w3.heap.size ≤ w4.heap.size := hb_113.size
          have KG_114 := Lib.hid (KG_108.out.up hb_113)
          have KR_115 := Lib.hid (KR_109.out.up hb_113)
          have KE_116 := Blk.up KE_110 hb_113
          have KP_117 := Blk.up KP_111 hb_113
          have KB_118 := Lib.hid (Below.tr KB_112.out hb_113)
          clear hb_107 KG_108 KR_109 KE_110 KP_111 KB_112
          have HO4 := Lib.hid KO4
          have HZ4 := Lib.hid KZ
          clear KO4 KZ
          have hs34 : w2.heap.size ≤ w4.heap.size := by omega
          have lE4 := Blk.lt KE_116
          cases hq : gramOk (partG xs ls e.i e.j) with
          | false =>
            have q2 : limCode (partG xs ls e.i e.j) = 3 := by unfold limCode; rw [hq]; rfl
            have HQ := Lib.hid (show invOut xs e = [] ∧ invCode xs e = 3 by rw [HIO.out, HIC.out]; unfold invL; have := HKE.out; rw [if_neg (by omega), if_neg hz, if_neg (by omega), if_neg (by omega), if_neg (by omega), hq]; exact ⟨rfl, rfl⟩)
            rw [q2]
            clear hq q2
            go_wp2_with fail
            refine bodyPost_ret (v := .tuple #[.slice none 0 0, .int .i64 3]) (by simp [results, Tryz.results27, go_sem]) rfl ?_
            rw [HQ.out.1, HQ.out.2]
            exact ERes.mk1 (lo := w.heap.size) KB_118.out (oeds_zero (Below.size KB_118.out)) (Nat.le_refl _)
          | true =>
            have q1 : limOut (partG xs ls e.i e.j) = partG xs ls e.i e.j := by unfold limOut; rw [hq]; rfl
            have q2 : limCode (partG xs ls e.i e.j) = 0 := by unfold limCode; rw [hq]; rfl
            have HQ := Lib.hid (show invOut xs e = invD e ++ [insE e.i (partG xs ls e.i e.j)] ∧ invCode xs e = 0 by rw [HIO.out, HIC.out]; unfold invL; have := HKE.out; rw [if_neg (by omega), if_neg hz, if_neg (by omega), if_neg (by omega), if_neg (by omega), hq]; exact ⟨rfl, rfl⟩)
            rw [q1] at HZ4 HO4
            rw [q2]
            clear q1 q2 hq HY
            generalize partG xs ls e.i e.j = p at *
            have KZ5 := HZ4.out
            have lZ := KZ5.lt
            have bA := (Below.refl w4.heap.size w4).alloc (Nat.le_refl _) (Obj.cells #[] 36)
            have HKO := Lib.hid (oedp_empty (W := w4) (lo := w2.heap.size) rfl hs34)
            have HO5 := Lib.hid (OwnRules.below HO4.out bA)
            have hs5 : w4.heap.size < (w4.alloc (Obj.cells #[] 36)).heap.size := by simp
            go_upto_region 23 with fail
            generalize w4.alloc (Obj.cells #[] 36) = w5 at *
            have hb_119 := bA
            have z_w5 : w4.heap.size ≤ w5.heap.size := hb_119.size
            have KG_120 := Lib.hid (KG_114.out.up hb_119)
            have KR_121 := Lib.hid (KR_115.out.up hb_119)
            have KE_122 := Blk.up KE_116 hb_119
            have KP_123 := Blk.up KP_117 hb_119
            have KB_124 := Lib.hid (Below.tr KB_118.out hb_119)
            have KZ_125 := Blk.up KZ5 hb_119
            clear hb_113 KG_114 KR_115 KE_116 KP_117 KB_118 KZ5
            have hk0 : 0 ≤ e.k := by rcases HK.out.1 with h | h | h | h | h | ⟨_, h, _⟩ | ⟨h, _⟩ <;> (have := HKE.out; omega)
            have hrb := HRB.out
            rw [Int.mul_comm] at hrb
            have wm : IntKind.i64.wrap (e.k * (e.j - e.i)) = e.k * (e.j - e.i) := IntWalk.i64_in _ (by have := Int.mul_nonneg hk0 (show 0 ≤ e.j - e.i by omega); omega)
            have hm0 : 0 ≤ e.k * (e.j - e.i) := Int.mul_nonneg hk0 (by omega)
            by_cases h0 : 0 < e.k
            · have hmp : 0 < e.k * (e.j - e.i) := Int.mul_pos h0 (by omega)
              obtain ⟨M, hM⟩ : ∃ M, e.k * (e.j - e.i) = M := ⟨_, rfl⟩
              rw [hM] at wm hrb hm0 hmp
              have HM := Lib.hid hM
              have HD := Lib.hid (show invD e = [delE e.i (e.i + M)] by unfold invD; rw [if_neg (by have := HKE.out; omega), if_pos HKE.out, Int.mul_comm, hM, if_pos hmp])
              have wa : IntKind.i64.wrap (e.i + M) = e.i + M := IntWalk.i64_in _ (by omega)
              have cE0_126 := Blk.cell (i := 0) (v := .int .i64 e.kind) KE_122 rfl
              have cE1_127 := Blk.cell (i := 1) (v := .int .i64 e.i) KE_122 rfl
              have cE2_128 := Blk.cell (i := 2) (v := .int .i64 e.j) KE_122 rfl
              have cE3_129 := Blk.cell (i := 3) (v := .int .i64 e.k) KE_122 rfl
              have cE4_130 := Blk.cell (i := 4) (v := .slice AR e.part.length cR) KE_122 rfl
              have cE5_131 := Blk.cell (i := 5) (v := .string e.map) KE_122 rfl
              have lE_132 := Blk.lt KE_122
              have cZ0_133 := Blk.cell (i := 0) (v := .slice A9 p.length c9) KZ_125 rfl
              have lZ_134 := Blk.lt KZ_125
              rw [HKE.out] at cE0_126
              have hlE := Blk.lt KE_122
              go_upto_region 27 with (first
                | (at_builtin; refine push_edit (W := w5) (N := w5.heap.size) (e := delE e.i (e.i + M)) (u := .slice none 0 0) (lo := w2.heap.size) (hp := w2.heap.size) (pa := w2.heap.size) (pb := w2.heap.size) (v := .slice (some ⟨w4.heap.size, 0, none⟩) 0 0) (es := []) rfl _ _ rfl rfl rfl rfl HKO.out (by simp) (by omega) (by simp [Value.oneCell']) ⟨.inl ⟨rfl, none, 0, rfl, Nat.zero_le _⟩, fun g hg => by simp [Value.ownBlock] at hg; omega⟩ (Nat.le_refl _) (Nat.le_refl _) (by omega) (Nat.le_refl _) ?_; intro g6 c6 w6 own6 hg6 hgr6 hb6))
              have keep6 : ∀ x, x < w4.heap.size → w6.heap[x]? = w5.heap[x]? := fun x hx => hgr6.block x (by omega) (fun e => by simp [Value.ownBlock] at e; omega)
              have hg66 : w4.heap.size ≤ g6 := by
                rcases hg6 with h | h
                · simp [Value.ownBlock] at h; omega
                · omega
              have KE6 : Blk w6 (w.heap.size + 1) #[.int .i64 e.kind, .int .i64 e.i, .int .i64 e.j, .int .i64 e.k, .slice AR e.part.length cR, .string e.map] 36 := (keep6 _ lE4).trans KE_122
              have KZ6 : Blk w6 w3.heap.size #[.slice A9 p.length c9] 31 := (keep6 _ lZ).trans KZ_125
              have HO6 := Lib.hid (own_keep HO5.out (fun g hg => keep6 g (World.ownsRow.lt HO4.out g hg).2))
              have HO66 := Lib.hid own6
              have HB6 := Lib.hid (Below.trans KB_124.out (hb6.mono hs2))
              have hs56 : w5.heap.size ≤ w6.heap.size := hgr6.size
              clear hb_119 cE0_126 cE1_127 cE2_128 cE3_129 cE4_130 cE5_131 lE_132 cZ0_133 lZ_134
              clear own6 hg6 hgr6 hb6 keep6 hlE
              have cE0_135 := Blk.cell (i := 0) (v := .int .i64 e.kind) KE6 rfl
              have cE1_136 := Blk.cell (i := 1) (v := .int .i64 e.i) KE6 rfl
              have cE2_137 := Blk.cell (i := 2) (v := .int .i64 e.j) KE6 rfl
              have cE3_138 := Blk.cell (i := 3) (v := .int .i64 e.k) KE6 rfl
              have cE4_139 := Blk.cell (i := 4) (v := .slice AR e.part.length cR) KE6 rfl
              have cE5_140 := Blk.cell (i := 5) (v := .string e.map) KE6 rfl
              have lE_141 := Blk.lt KE6
              have cZ0_142 := Blk.cell (i := 0) (v := .slice A9 p.length c9) KZ6 rfl
              have lZ_143 := Blk.lt KZ6
              rw [HKE.out] at cE0_135
              go_wp2_with (first
                | (at_builtin; refine push_edit (W := w6) (N := w6.heap.size) (e := insE e.i p) (u := .slice A9 p.length c9) (lo := w2.heap.size) (hp := w2.heap.size) (pa := w2.heap.size) (pb := w4.heap.size) (v := .slice (some ⟨g6, 0, none⟩) 1 c6) (es := [delE e.i (e.i + M)]) rfl _ _ rfl rfl rfl rfl HO66.out (by simp) (by omega) (by simp [Value.oneCell']) ⟨.inr ⟨HO6.out, fun g hg => (World.ownsRow.lt HO4.out g hg).2, (by omega)⟩, fun g hg => by simp [Value.ownBlock] at hg; omega⟩ (Nat.le_refl _) hs34 (by omega) (Nat.le_refl _) ?_; intro g9 c9' w9 own9 hg9 hgr9 hb9))
              refine bodyPost_ret (v := .tuple #[.slice (some ⟨g9, 0, none⟩) 2 c9', .int .i64 0]) (by simp [results, Tryz.results27, go_sem]) rfl ?_
              rw [HQ.out.1, HQ.out.2, HD.out]
              exact ERes.mk1 (lo := w2.heap.size) (Below.trans HB6.out (hb9.mono hs2)) (OEdP.oeds own9 (by have h : w6.heap.size ≤ w9.heap.size := hb9.size; omega)) hs2
            · have hk00 : e.k = 0 := by omega
              have HD := Lib.hid (show invD e = [] by unfold invD; rw [if_neg (by have := HKE.out; omega), if_pos HKE.out, hk00, Int.mul_zero]; rfl)
              clear hk00
              have hkd : decide (0 < e.k) = false := by simp; omega
              have cE0_144 := Blk.cell (i := 0) (v := .int .i64 e.kind) KE_122 rfl
              have cE1_145 := Blk.cell (i := 1) (v := .int .i64 e.i) KE_122 rfl
              have cE2_146 := Blk.cell (i := 2) (v := .int .i64 e.j) KE_122 rfl
              have cE3_147 := Blk.cell (i := 3) (v := .int .i64 e.k) KE_122 rfl
              have cE4_148 := Blk.cell (i := 4) (v := .slice AR e.part.length cR) KE_122 rfl
              have cE5_149 := Blk.cell (i := 5) (v := .string e.map) KE_122 rfl
              have lE_150 := Blk.lt KE_122
              have cZ0_151 := Blk.cell (i := 0) (v := .slice A9 p.length c9) KZ_125 rfl
              have lZ_152 := Blk.lt KZ_125
              rw [HKE.out] at cE0_144
              go_wp2_with (first
                | (at_builtin; refine push_edit (W := w5) (N := w5.heap.size) (e := insE e.i p) (u := .slice A9 p.length c9) (lo := w2.heap.size) (hp := w2.heap.size) (pa := w2.heap.size) (pb := w4.heap.size) (v := .slice (some ⟨w4.heap.size, 0, none⟩) 0 0) (es := []) rfl _ _ rfl rfl rfl rfl HKO.out (by simp) (by omega) (by simp [Value.oneCell']) ⟨.inr ⟨HO5.out, fun g hg => (World.ownsRow.lt HO4.out g hg).2, (by omega)⟩, fun g hg => by simp [Value.ownBlock] at hg; omega⟩ (Nat.le_refl _) hs34 (by omega) (Nat.le_refl _) ?_; intro g9 c9' w9 own9 hg9 hgr9 hb9))
              refine bodyPost_ret (v := .tuple #[.slice (some ⟨g9, 0, none⟩) 1 c9', .int .i64 0]) (by simp [results, Tryz.results27, go_sem]) rfl ?_
              rw [HQ.out.1, HQ.out.2, HD.out]
              exact ERes.mk1 (lo := w2.heap.size) (Below.trans KB_124.out (hb9.mono hs2)) (OEdP.oeds own9 (by have h : w5.heap.size ≤ w9.heap.size := hb9.size; omega)) hs2
      · skip
        have cE0_153 := Blk.cell (i := 0) (v := .int .i64 e.kind) KE_17 rfl
        have cE1_154 := Blk.cell (i := 1) (v := .int .i64 e.i) KE_17 rfl
        have cE2_155 := Blk.cell (i := 2) (v := .int .i64 e.j) KE_17 rfl
        have cE3_156 := Blk.cell (i := 3) (v := .int .i64 e.k) KE_17 rfl
        have cE4_157 := Blk.cell (i := 4) (v := .slice AR e.part.length cR) KE_17 rfl
        have cE5_158 := Blk.cell (i := 5) (v := .string e.map) KE_17 rfl
        have lE_159 := Blk.lt KE_17
        rw [hk] at cE0_153
        have HKE := Lib.hid hk
        have hij : 0 ≤ e.i ∧ e.i ≤ e.j ∧ e.j ≤ 1000000000000000 := by have h0 := HF.out.1; have h1 := HF.out.2.2.1 (by omega); have := HGB.out; omega
        have ws : IntKind.i64.wrap (e.j - e.i) = e.j - e.i := IntWalk.i64_in _ (by omega)
        by_cases hz : e.j - e.i = 0
        · have HQ := Lib.hid (show invOut xs e = [] ∧ invCode xs e = 0 by rw [HIO.out, HIC.out]; unfold invL; rw [if_neg (by omega), if_pos hz]; exact ⟨rfl, rfl⟩)
          clear hk
          go_wp2_with fail
          refine bodyPost_ret (v := .tuple #[.slice none 0 0, .int .i64 0]) (by simp [results, Tryz.results27, go_sem]) rfl ?_
          rw [HQ.out.1, HQ.out.2]
          exact ERes.mk1 (lo := w.heap.size) KB_19.out (oeds_zero (Below.size KB_19.out)) (Nat.le_refl _)
        · skip
          have hs2 := Below.size KB_19.out
          have hrange : 0 ≤ e.i ∧ e.i ≤ e.j ∧ e.j ≤ lastI ls := by have h0 := HF.out.1; have h1 := HF.out.2.2.1 (by omega); have := HGL.out; omega
          have HY := Lib.hid (partOut_yes HAK.out.1 HL.out hrange)
          have HGP := Lib.hid (partG_gramLen HL.out hrange.1 hrange.2.1 hrange.2.2)
          clear hk
          have cP0_160 := Blk.cell (i := 0) (v := .slice AG xs.length cG) KP_18 rfl
          have lP_161 := Blk.lt KP_18
          go_wp2_with fail
          refine (implPart_any _ xs e.i e.j _ (KG_15.out.up (by repeat (first | exact Below.refl _ _ | (refine Below.alloc ?_ (by first | omega | (simp; done) | (simp; omega)) _) | (refine Below.setCell ?_ (by first | exact Nat.le_refl _ | (show _ ≤ _; omega) | (simp; done) | (simp; omega)) _) | refine below_drewN ?_ _ | refine Below.drew ?_))) hn).mono ?_
          rintro e w3 ⟨hb_162, v9, own9, rfl⟩
          have z_w3 : w2.heap.size ≤ w3.heap.size := hb_162.size
          have KG_163 := Lib.hid (KG_15.out.up hb_162)
          have KR_164 := Lib.hid (KR_16.out.up hb_162)
          have KE_165 := Blk.up KE_17 hb_162
          have KP_166 := Blk.up KP_18 hb_162
          have KB_167 := Lib.hid (Below.tr KB_19.out hb_162)
          clear hb_14 cE0_153 cE1_154 cE2_155 cE3_156 cE4_157 cE5_158 lE_159 cP0_160 lP_161 KG_15 KR_16 KE_17 KP_18 KB_19
          rw [HY.out.1] at own9
          rw [HY.out.2]
          obtain ⟨A9, c9, rfl, _⟩ := own_nil own9
          have bZ := (Below.refl w3.heap.size w3).alloc (Nat.le_refl _) (Obj.cells #[.slice A9 (limOut (partG xs ls e.i e.j)).length c9] 31)
          have KZ := Blk.new w3 #[.slice A9 (limOut (partG xs ls e.i e.j)).length c9] 31
          have KO4 := OwnRules.below own9 bZ
          go_upto_region 20 with fail
          generalize w3.alloc (Obj.cells #[Value.slice A9 (limOut (partG xs ls e.i e.j)).length c9] 31) = w4 at *
          clear own9
          have hb_168 := bZ
          have z_w4 : w3.heap.size ≤ w4.heap.size := hb_168.size
          have KG_169 := Lib.hid (KG_163.out.up hb_168)
          have KR_170 := Lib.hid (KR_164.out.up hb_168)
          have KE_171 := Blk.up KE_165 hb_168
          have KP_172 := Blk.up KP_166 hb_168
          have KB_173 := Lib.hid (Below.tr KB_167.out hb_168)
          clear hb_162 KG_163 KR_164 KE_165 KP_166 KB_167
          have HO4 := Lib.hid KO4
          have HZ4 := Lib.hid KZ
          clear KO4 KZ
          have hs34 : w2.heap.size ≤ w4.heap.size := by omega
          have lE4 := Blk.lt KE_171
          cases hq : gramOk (partG xs ls e.i e.j) with
          | false =>
            have q2 : limCode (partG xs ls e.i e.j) = 3 := by unfold limCode; rw [hq]; rfl
            have HQ := Lib.hid (show invOut xs e = [] ∧ invCode xs e = 3 by rw [HIO.out, HIC.out]; unfold invL; have := HKE.out; rw [if_neg (by omega), if_neg hz, if_neg (by omega), if_neg (by omega), if_neg (by omega), hq]; exact ⟨rfl, rfl⟩)
            rw [q2]
            clear hq q2
            go_wp2_with fail
            refine bodyPost_ret (v := .tuple #[.slice none 0 0, .int .i64 3]) (by simp [results, Tryz.results27, go_sem]) rfl ?_
            rw [HQ.out.1, HQ.out.2]
            exact ERes.mk1 (lo := w.heap.size) KB_173.out (oeds_zero (Below.size KB_173.out)) (Nat.le_refl _)
          | true =>
            have q1 : limOut (partG xs ls e.i e.j) = partG xs ls e.i e.j := by unfold limOut; rw [hq]; rfl
            have q2 : limCode (partG xs ls e.i e.j) = 0 := by unfold limCode; rw [hq]; rfl
            have HQ := Lib.hid (show invOut xs e = invD e ++ [insE e.i (partG xs ls e.i e.j)] ∧ invCode xs e = 0 by rw [HIO.out, HIC.out]; unfold invL; have := HKE.out; rw [if_neg (by omega), if_neg hz, if_neg (by omega), if_neg (by omega), if_neg (by omega), hq]; exact ⟨rfl, rfl⟩)
            rw [q1] at HZ4 HO4
            rw [q2]
            clear q1 q2 hq HY
            generalize partG xs ls e.i e.j = p at *
            have KZ5 := HZ4.out
            have lZ := KZ5.lt
            have bA := (Below.refl w4.heap.size w4).alloc (Nat.le_refl _) (Obj.cells #[] 36)
            have HKO := Lib.hid (oedp_empty (W := w4) (lo := w2.heap.size) rfl hs34)
            have HO5 := Lib.hid (OwnRules.below HO4.out bA)
            have hs5 : w4.heap.size < (w4.alloc (Obj.cells #[] 36)).heap.size := by simp
            go_upto_region 23 with fail
            generalize w4.alloc (Obj.cells #[] 36) = w5 at *
            have hb_174 := bA
            have z_w5 : w4.heap.size ≤ w5.heap.size := hb_174.size
            have KG_175 := Lib.hid (KG_169.out.up hb_174)
            have KR_176 := Lib.hid (KR_170.out.up hb_174)
            have KE_177 := Blk.up KE_171 hb_174
            have KP_178 := Blk.up KP_172 hb_174
            have KB_179 := Lib.hid (Below.tr KB_173.out hb_174)
            have KZ_180 := Blk.up KZ5 hb_174
            clear hb_168 KG_169 KR_170 KE_171 KP_172 KB_173 KZ5
            have HD := Lib.hid (show invD e = [delE e.i e.j] by unfold invD; rw [if_neg (by have := HKE.out; omega), if_neg (by have := HKE.out; omega)])
            have cE0_181 := Blk.cell (i := 0) (v := .int .i64 e.kind) KE_177 rfl
            have cE1_182 := Blk.cell (i := 1) (v := .int .i64 e.i) KE_177 rfl
            have cE2_183 := Blk.cell (i := 2) (v := .int .i64 e.j) KE_177 rfl
            have cE3_184 := Blk.cell (i := 3) (v := .int .i64 e.k) KE_177 rfl
            have cE4_185 := Blk.cell (i := 4) (v := .slice AR e.part.length cR) KE_177 rfl
            have cE5_186 := Blk.cell (i := 5) (v := .string e.map) KE_177 rfl
            have lE_187 := Blk.lt KE_177
            have cZ0_188 := Blk.cell (i := 0) (v := .slice A9 p.length c9) KZ_180 rfl
            have lZ_189 := Blk.lt KZ_180
            rw [HKE.out] at cE0_181
            have hlE := Blk.lt KE_177
            go_upto_region 27 with (first
              | (at_builtin; refine push_edit (W := w5) (N := w5.heap.size) (e := delE e.i (e.j)) (u := .slice none 0 0) (lo := w2.heap.size) (hp := w2.heap.size) (pa := w2.heap.size) (pb := w2.heap.size) (v := .slice (some ⟨w4.heap.size, 0, none⟩) 0 0) (es := []) rfl _ _ rfl rfl rfl rfl HKO.out (by simp) (by omega) (by simp [Value.oneCell']) ⟨.inl ⟨rfl, none, 0, rfl, Nat.zero_le _⟩, fun g hg => by simp [Value.ownBlock] at hg; omega⟩ (Nat.le_refl _) (Nat.le_refl _) (by omega) (Nat.le_refl _) ?_; intro g6 c6 w6 own6 hg6 hgr6 hb6))
            have keep6 : ∀ x, x < w4.heap.size → w6.heap[x]? = w5.heap[x]? := fun x hx => hgr6.block x (by omega) (fun e => by simp [Value.ownBlock] at e; omega)
            have hg66 : w4.heap.size ≤ g6 := by
              rcases hg6 with h | h
              · simp [Value.ownBlock] at h; omega
              · omega
            have KE6 : Blk w6 (w.heap.size + 1) #[.int .i64 e.kind, .int .i64 e.i, .int .i64 e.j, .int .i64 e.k, .slice AR e.part.length cR, .string e.map] 36 := (keep6 _ lE4).trans KE_177
            have KZ6 : Blk w6 w3.heap.size #[.slice A9 p.length c9] 31 := (keep6 _ lZ).trans KZ_180
            have HO6 := Lib.hid (own_keep HO5.out (fun g hg => keep6 g (World.ownsRow.lt HO4.out g hg).2))
            have HO66 := Lib.hid own6
            have HB6 := Lib.hid (Below.trans KB_179.out (hb6.mono hs2))
            have hs56 : w5.heap.size ≤ w6.heap.size := hgr6.size
            clear hb_174 cE0_181 cE1_182 cE2_183 cE3_184 cE4_185 cE5_186 lE_187 cZ0_188 lZ_189
            clear own6 hg6 hgr6 hb6 keep6 hlE
            have cE0_190 := Blk.cell (i := 0) (v := .int .i64 e.kind) KE6 rfl
            have cE1_191 := Blk.cell (i := 1) (v := .int .i64 e.i) KE6 rfl
            have cE2_192 := Blk.cell (i := 2) (v := .int .i64 e.j) KE6 rfl
            have cE3_193 := Blk.cell (i := 3) (v := .int .i64 e.k) KE6 rfl
            have cE4_194 := Blk.cell (i := 4) (v := .slice AR e.part.length cR) KE6 rfl
            have cE5_195 := Blk.cell (i := 5) (v := .string e.map) KE6 rfl
            have lE_196 := Blk.lt KE6
            have cZ0_197 := Blk.cell (i := 0) (v := .slice A9 p.length c9) KZ6 rfl
            have lZ_198 := Blk.lt KZ6
            rw [HKE.out] at cE0_190
            go_wp2_with (first
              | (at_builtin; refine push_edit (W := w6) (N := w6.heap.size) (e := insE e.i p) (u := .slice A9 p.length c9) (lo := w2.heap.size) (hp := w2.heap.size) (pa := w2.heap.size) (pb := w4.heap.size) (v := .slice (some ⟨g6, 0, none⟩) 1 c6) (es := [delE e.i (e.j)]) rfl _ _ rfl rfl rfl rfl HO66.out (by simp) (by omega) (by simp [Value.oneCell']) ⟨.inr ⟨HO6.out, fun g hg => (World.ownsRow.lt HO4.out g hg).2, (by omega)⟩, fun g hg => by simp [Value.ownBlock] at hg; omega⟩ (Nat.le_refl _) hs34 (by omega) (Nat.le_refl _) ?_; intro g9 c9' w9 own9 hg9 hgr9 hb9))
            refine bodyPost_ret (v := .tuple #[.slice (some ⟨g9, 0, none⟩) 2 c9', .int .i64 0]) (by simp [results, Tryz.results27, go_sem]) rfl ?_
            rw [HQ.out.1, HQ.out.2, HD.out]
            exact ERes.mk1 (lo := w2.heap.size) (Below.trans HB6.out (hb9.mono hs2)) (OEdP.oeds own9 (by have h : w6.heap.size ≤ w9.heap.size := hb9.size; omega)) hs2
end Go.Proofs.YtfapnipmgmpgaaaGreatDoor

namespace Go.Proofs.YtfapnipmgmpgaaaGreatDoor
open Go.RowKit

end Go.Proofs.YtfapnipmgmpgaaaGreatDoor

namespace Go.Proofs.YtfapnipmgmpgaaaGreatDoor
open Go.RowKit

theorem markEnd_small (es : List GEdit) (k : Nat) (h : ∀ x ∈ es, x.part.length ≤ 400) : markEnd k es ≤ k + es.length * 1205 := by
  induction es generalizing k with
  | nil => simp [markEnd]
  | cons x xs ih =>
    have h1 := ih (mkK k x) (fun y hy => h y (by simp [hy]))
    have h2 := h x (by simp)
    unfold markEnd
    unfold mkK at h1 ⊢
    rw [List.length_cons]
    omega
theorem invL_small {xs : List GRule} {ls : List Int} {e : GEdit} {l : List GEdit} (h : invL xs ls e = some l) : l.length ≤ 2 ∧ ∀ x ∈ l, x.part.length ≤ 400 := by
  unfold invL at h
  repeat' split at h
  all_goals (try cases h)
  all_goals (try (refine ⟨by simp, ?_⟩; simp [delE, movE, turnE]; done))
  rename_i hg
  have h4 := gram_len400 hg
  unfold invD
  repeat' split
  all_goals
    refine ⟨by simp, ?_⟩
    simp [delE, insE]
    omega
theorem inv_small (xs : List GRule) (e : GEdit) : (invOut xs e).length ≤ 2 ∧ ∀ x ∈ invOut xs e, x.part.length ≤ 400 := by
  unfold invOut
  split
  · cases h : invL xs (lsOf xs) e with
    | none => exact ⟨by simp, by simp⟩
    | some l => exact invL_small h
  · exact ⟨by simp, by simp⟩
end Go.Proofs.YtfapnipmgmpgaaaGreatDoor

namespace Go.Proofs.YtfapnipmgmpgaaaGreatDoor
open Go.RowKit

/-- An edit in a row, below B. -/
structure EditAtO (w : World) (B b o : Nat) (e : GEdit) (vR : Value) : Prop where
  box : EC w b o e vR
  lt : b < B
  sl : Sl RuleE w B vR e.part
theorem EditAtO.up {w w' : World} {b o : Nat} {e : GEdit} {vR : Value} (h : EditAtO w w.heap.size b o e vR) (hb : Below w.heap.size w w') : EditAtO w' w'.heap.size b o e vR :=
  ⟨h.box.up hb, Nat.lt_of_lt_of_le h.lt hb.size, h.sl.up hb⟩
set_option maxRecDepth 100000 in
set_option maxHeartbeats 4000000 in
theorem l07OkO_any (b o : Nat) (vR : Value) (e : GEdit) (w : World) (h : EditAtO w w.heap.size b o e vR) (hsm : SmallL e.part) (hn : e.part.length ≤ 1099511627776) (hm : e.map.size ≤ maxLen) :
    Calls Tryz.prog 38 #[.pointer (some ⟨b, o, none⟩)] w fun r w' => r = .returned (.bool (editOk e)) ∧ Below w.heap.size w w' := by
  have HH := Lib.hid h
  obtain ⟨⟨x0, x1, x2, x3, x4, x5, _⟩, hlt, hR⟩ := h
  have HR := Lib.hid hR
  obtain ⟨AR, cR, rfl, _⟩ := hR
  by_cases hk : inR e.kind 1 7 = true
  · have HK := Lib.hid hk
    have HE := Lib.hid (ok_split hk)
    obtain ⟨u1, u2, u3, u4, u5⟩ := uses_has hk
    obtain ⟨S, hS⟩ : ∃ S, usesS e.kind = S := ⟨_, rfl⟩
    rw [hS] at u1 u2 u3 u4 u5
    have HS := Lib.hid hS
    have hSm : S.size ≤ maxLen := by unfold maxLen; omega
    have HU := Lib.hid (And.intro u1 (And.intro u2 (And.intro u3 u4)))
    have H4 : (usesJ e.kind = false ∧ usesK e.kind = false ∧ (e.kind == 1) = true ∧ (e.kind == 7) = false) ∨ (usesJ e.kind = true ∧ usesK e.kind = false ∧ (e.kind == 1) = false ∧ (e.kind == 7) = false) ∨ (usesJ e.kind = true ∧ usesK e.kind = true ∧ (e.kind == 1) = false ∧ (e.kind == 7) = false) ∨ (usesJ e.kind = true ∧ usesK e.kind = false ∧ (e.kind == 1) = false ∧ (e.kind == 7) = true) := by
      rcases kind7 hk with h | h | h | h | h | h | h <;> rw [h] <;> simp [usesJ, usesK]
    clear hk hS u1 u2 u3 u4 u5
    go_enter Tryz.func38, Tryz.ntmps38
    go_wp2_with fail
    refine (l00In_yes _ _ _ _ HK.out).mono ?_
    rintro r w' ⟨rfl, rfl⟩
    go_wp2_with fail
    refine (l07Uses_any _ _ HK.out).mono ?_
    rintro r w1 ⟨rfl, hb1⟩
    rw [HS.out]
    have HH1 := Lib.hid (HH.out.up hb1)
    have HB1 := Lib.hid hb1
    have z1 : b < w1.heap.size := Nat.lt_of_lt_of_le hlt hb1.size
    clear hb1 x0 x1 x2 x3 x4 x5
    obtain ⟨x0, x1, x2, x3, x4, x5, _⟩ := HH1.out.box
    go_wp2_with fail
    rcases H4 with ⟨u1, u2, u3, u4⟩ | ⟨u1, u2, u3, u4⟩ | ⟨u1, u2, u3, u4⟩ | ⟨u1, u2, u3, u4⟩
    · rw [u1, u2, u3, u4] at HE HU
      obtain ⟨hJ', hK', hP', hM'⟩ := HU.out
      have CJ := l07Has_lit S 74 74 _ hSm rfl hJ'
      have CK := l07Has_lit S 75 75 _ hSm rfl hK'
      have CP := l07Has_lit S 80 80 _ hSm rfl hP'
      have CM := l07Has_lit S 77 77 _ hSm rfl hM'
      clear hJ' hK' hP' hM'
      clear u1 u2 u3 u4
      by_cases ni : numOk e.i true = true
      · have Ni := Lib.hid ni
        have Di := l07Number_lit e.i true _ ni
        clear ni
        by_cases nj : numOk e.j false = true
        · have Nj := Lib.hid nj
          have Dj := l07Number_lit e.j _ _ nj
          clear nj
          by_cases nk : numOk e.k false = true
          · have Nk := Lib.hid nk
            have Dk := l07Number_lit e.k _ _ nk
            clear nk
            go_quiet (first
              | (go_at_call 80; first | with_reducible exact quiet_left (CJ.out _) | with_reducible exact quiet_left (CK.out _))
              | (go_at_call 79; first | with_reducible exact quiet_left (Di.out _) | with_reducible exact quiet_left (Dj.out _) | with_reducible exact quiet_left (Dk.out _)))
            go_wp2_with fail
            have Ni2 := Lib.hid (show inR e.i 0 1000000000000000 = true from Ni.out)
            have HH2 := Lib.hid (HH1.out.up (below_drewN (Below.refl w1.heap.size w1) nq))
            have HB2 := Lib.hid (HB1.out.trans ((below_drewN (Below.refl w1.heap.size w1) nq).mono HB1.out.size))
            clear x0 x1 x2 x3 x4 x5 z1
            generalize w1.drewN nq = w2 at *
            have z2 : b < w2.heap.size := HH2.out.lt
            obtain ⟨x0, x1, x2, x3, x4, x5, _⟩ := HH2.out.box
            have KB := And.intro (Below.drew (Below.refl w2.heap.size w2)) (show w2.drew.cell? ⟨b, o + 4, none⟩ = _ from x4)
            have Y4 := Lib.hid KB.2
            have Z4 := Lib.hid (show b < w2.drew.heap.size from z2)
            have R4 := Lib.hid (HH2.out.sl.up (Below.drew (Below.refl w2.heap.size w2)))
            by_cases cl : 0 < e.part.length
            · have Cl := Lib.hid cl
              have cl' : decide (0 < e.part.length) = true := by simp [cl]
              by_cases cg : gramOk e.part = true
              · have Cg := Lib.hid cg
                go_region_held3 (fun w' => Below w2.heap.size w2 w' ∧ w'.cell? ⟨b, o + 4, none⟩ = some (.slice AR e.part.length cR))
                  (first | (with_reducible exact KB) | (with_reducible exact keepEd KB hb3 z2))
                  (first
                    | (go_at_call 80; refine (CP.out _).mono ?_; rintro r w' ⟨rfl, rfl⟩)
                    | (go_at_call 37; refine (l02Ok_any b (o + 4) _ e.part _ Y4.out Z4.out R4.out hsm).mono ?_; rintro r w3 ⟨rfl, hb3⟩))
                have HB3 := Lib.hid (HB2.out.trans (((Below.drew (Below.refl w2.heap.size w2)).trans hb3).mono HB2.out.size))
                have y5 := (hb3.cell (p := ⟨b, o + 5, none⟩) z2).trans (show w2.drew.cell? ⟨b, o + 5, none⟩ = _ from x5)
                clear KB hb3 x0 x1 x2 x3 x4 x5
                go_wp2_with fail
                refine (CM.out _).mono ?_
                rintro r w' ⟨rfl, rfl⟩
                by_cases cm : e.map.size = 0
                · have Cm := Lib.hid cm
                  have gm := str_empty e.map
                  rw [show (e.map.size == 0) = true by simp [cm]] at gm
                  clear cm
                  go_wp2_with fail
                  go_ret
                  exact ⟨ret_bool (by rw [HE.out]; simp [Ni2.out, Nj.out, Nk.out, Cl.out, Cg.out, Cm.out]), (by repeat (first | exact HB3.out | (refine Below.alloc ?_ (by first | omega | (simp; done) | (simp; omega)) _) | refine below_drewN ?_ _ | refine Below.drew ?_))⟩
                · have Cm := Lib.hid cm
                  have gm := str_empty e.map
                  rw [show (e.map.size == 0) = false by simp [cm]] at gm
                  clear cm
                  go_wp2_with fail
                  go_ret
                  exact ⟨ret_bool (by rw [HE.out]; simp [Ni2.out, Nj.out, Nk.out, Cl.out, Cg.out, Cm.out]), (by repeat (first | exact HB3.out | (refine Below.alloc ?_ (by first | omega | (simp; done) | (simp; omega)) _) | refine below_drewN ?_ _ | refine Below.drew ?_))⟩
              · have cg' : gramOk e.part = false := by simpa using cg
                have Cg := Lib.hid cg'
                clear cg
                go_region_held3 (fun w' => Below w2.heap.size w2 w' ∧ w'.cell? ⟨b, o + 4, none⟩ = some (.slice AR e.part.length cR))
                  (first | (with_reducible exact KB) | (with_reducible exact keepEd KB hb3 z2))
                  (first
                    | (go_at_call 80; refine (CP.out _).mono ?_; rintro r w' ⟨rfl, rfl⟩)
                    | (go_at_call 37; refine (l02Ok_any b (o + 4) _ e.part _ Y4.out Z4.out R4.out hsm).mono ?_; rintro r w3 ⟨rfl, hb3⟩))
                have HB3 := Lib.hid (HB2.out.trans (((Below.drew (Below.refl w2.heap.size w2)).trans hb3).mono HB2.out.size))
                have y5 := (hb3.cell (p := ⟨b, o + 5, none⟩) z2).trans (show w2.drew.cell? ⟨b, o + 5, none⟩ = _ from x5)
                clear KB hb3 x0 x1 x2 x3 x4 x5
                go_wp2_with fail
                go_ret
                exact ⟨ret_bool (by rw [HE.out]; simp [Cg.out]), (by repeat (first | exact HB3.out | (refine Below.alloc ?_ (by first | omega | (simp; done) | (simp; omega)) _) | refine below_drewN ?_ _ | refine Below.drew ?_))⟩
            · have hL : e.part.length = 0 := by omega
              have Cl := Lib.hid cl
              rw [hL] at KB Y4 R4 x4
              clear cl hL
              go_quiet ((go_at_call 80; with_reducible exact quiet_left (CP.out _)))
              have HB3 := Lib.hid (HB2.out.trans ((below_drewN (Below.refl w2.heap.size w2) nq).mono HB2.out.size))
              go_wp2_with fail
              go_ret
              exact ⟨ret_bool (by rw [HE.out]; simp [Cl.out]), (by repeat (first | exact HB3.out | (refine Below.alloc ?_ (by first | omega | (simp; done) | (simp; omega)) _) | refine below_drewN ?_ _ | refine Below.drew ?_))⟩
          · have nk' : numOk e.k false = false := by simpa using nk
            have Nk := Lib.hid nk'
            have Dk := l07Number_lit e.k _ _ nk'
            clear nk nk'
            go_quiet (first
              | (go_at_call 80; first | with_reducible exact quiet_left (CJ.out _) | with_reducible exact quiet_left (CK.out _))
              | (go_at_call 79; first | with_reducible exact quiet_left (Di.out _) | with_reducible exact quiet_left (Dj.out _) | with_reducible exact quiet_left (Dk.out _)))
            go_wp2_with fail
            go_ret
            exact ⟨ret_bool (by rw [HE.out]; simp [Nk.out]), (by repeat (first | exact HB1.out | (refine Below.alloc ?_ (by first | omega | (simp; done) | (simp; omega)) _) | refine below_drewN ?_ _ | refine Below.drew ?_))⟩
        · have nj' : numOk e.j false = false := by simpa using nj
          have Nj := Lib.hid nj'
          have Dj := l07Number_lit e.j _ _ nj'
          clear nj nj'
          go_quiet (first
            | (go_at_call 80; first | with_reducible exact quiet_left (CJ.out _) | with_reducible exact quiet_left (CK.out _))
            | (go_at_call 79; first | with_reducible exact quiet_left (Di.out _) | with_reducible exact quiet_left (Dj.out _) | with_reducible exact quiet_left (Dk.out _)))
          go_wp2_with fail
          go_ret
          exact ⟨ret_bool (by rw [HE.out]; simp [Nj.out]), (by repeat (first | exact HB1.out | (refine Below.alloc ?_ (by first | omega | (simp; done) | (simp; omega)) _) | refine below_drewN ?_ _ | refine Below.drew ?_))⟩
      · have ni' : numOk e.i true = false := by simpa using ni
        have Ni := Lib.hid ni'
        have Ni2 := Lib.hid (show inR e.i 0 1000000000000000 = false from ni')
        have Di := l07Number_lit e.i true _ ni'
        clear ni ni'
        go_quiet (first
          | (go_at_call 80; first | with_reducible exact quiet_left (CJ.out _) | with_reducible exact quiet_left (CK.out _))
          | (go_at_call 79; first | with_reducible exact quiet_left (Di.out _) | with_reducible exact quiet_left (Dj.out _) | with_reducible exact quiet_left (Dk.out _)))
        go_wp2_with fail
        go_ret
        exact ⟨ret_bool (by rw [HE.out]; simp [Ni2.out]), (by repeat (first | exact HB1.out | (refine Below.alloc ?_ (by first | omega | (simp; done) | (simp; omega)) _) | refine below_drewN ?_ _ | refine Below.drew ?_))⟩
    · rw [u1, u2, u3, u4] at HE HU
      obtain ⟨hJ', hK', hP', hM'⟩ := HU.out
      have CJ := l07Has_lit S 74 74 _ hSm rfl hJ'
      have CK := l07Has_lit S 75 75 _ hSm rfl hK'
      have CP := l07Has_lit S 80 80 _ hSm rfl hP'
      have CM := l07Has_lit S 77 77 _ hSm rfl hM'
      clear hJ' hK' hP' hM'
      clear u1 u2 u3 u4
      by_cases ni : numOk e.i true = true
      · have Ni := Lib.hid ni
        have Di := l07Number_lit e.i true _ ni
        clear ni
        by_cases nj : numOk e.j true = true
        · have Nj := Lib.hid nj
          have Dj := l07Number_lit e.j _ _ nj
          clear nj
          by_cases nk : numOk e.k false = true
          · have Nk := Lib.hid nk
            have Dk := l07Number_lit e.k _ _ nk
            clear nk
            by_cases nij : e.j < e.i
            · have Nij := Lib.hid nij
              go_quiet (first
                | (go_at_call 80; first | with_reducible exact quiet_left (CJ.out _) | with_reducible exact quiet_left (CK.out _))
                | (go_at_call 79; first | with_reducible exact quiet_left (Di.out _) | with_reducible exact quiet_left (Dj.out _) | with_reducible exact quiet_left (Dk.out _)))
              go_wp2_with fail
              go_ret
              exact ⟨ret_bool (by rw [HE.out]; simp [Nij.out]), (by repeat (first | exact HB1.out | (refine Below.alloc ?_ (by first | omega | (simp; done) | (simp; omega)) _) | refine below_drewN ?_ _ | refine Below.drew ?_))⟩
            · have nij' : decide (e.j < e.i) = false := by simp; omega
              have Nij := Lib.hid nij'
              go_quiet (first
                | (go_at_call 80; first | with_reducible exact quiet_left (CJ.out _) | with_reducible exact quiet_left (CK.out _))
                | (go_at_call 79; first | with_reducible exact quiet_left (Di.out _) | with_reducible exact quiet_left (Dj.out _) | with_reducible exact quiet_left (Dk.out _)))
              go_wp2_with fail
              have Ni2 := Lib.hid (show inR e.i 0 1000000000000000 = true from Ni.out)
              have HH2 := Lib.hid (HH1.out.up (below_drewN (Below.refl w1.heap.size w1) nq))
              have HB2 := Lib.hid (HB1.out.trans ((below_drewN (Below.refl w1.heap.size w1) nq).mono HB1.out.size))
              clear x0 x1 x2 x3 x4 x5 z1
              generalize w1.drewN nq = w2 at *
              have z2 : b < w2.heap.size := HH2.out.lt
              obtain ⟨x0, x1, x2, x3, x4, x5, _⟩ := HH2.out.box
              have KB := And.intro (Below.drew (Below.refl w2.heap.size w2)) (show w2.drew.cell? ⟨b, o + 4, none⟩ = _ from x4)
              have Y4 := Lib.hid KB.2
              have Z4 := Lib.hid (show b < w2.drew.heap.size from z2)
              have R4 := Lib.hid (HH2.out.sl.up (Below.drew (Below.refl w2.heap.size w2)))
              by_cases cl : 0 < e.part.length
              · have Cl := Lib.hid cl
                have cl' : decide (0 < e.part.length) = true := by simp [cl]
                go_quiet ((go_at_call 80; with_reducible exact quiet_left (CP.out _)))
                have HB3 := Lib.hid (HB2.out.trans ((below_drewN (Below.refl w2.heap.size w2) nq).mono HB2.out.size))
                go_wp2_with fail
                go_ret
                exact ⟨ret_bool (by rw [HE.out]; simp [Cl.out]), (by repeat (first | exact HB3.out | (refine Below.alloc ?_ (by first | omega | (simp; done) | (simp; omega)) _) | refine below_drewN ?_ _ | refine Below.drew ?_))⟩
              · have Cg := Lib.hid (emptyOk cl)
                have cg : gramOk e.part = true := emptyOk cl
                have hL : e.part.length = 0 := by omega
                have Cl := Lib.hid cl
                rw [hL] at KB Y4 R4 x4
                clear cl hL
                go_region_held3 (fun w' => Below w2.heap.size w2 w' ∧ w'.cell? ⟨b, o + 4, none⟩ = some (.slice AR 0 cR))
                  (first | (with_reducible exact KB) | (with_reducible exact keepEd KB hb3 z2))
                  (first
                    | (go_at_call 80; refine (CP.out _).mono ?_; rintro r w' ⟨rfl, rfl⟩)
                    | (go_at_call 37; refine (l02Ok_any b (o + 4) _ e.part _ Y4.out Z4.out R4.out hsm).mono ?_; rintro r w3 ⟨rfl, hb3⟩))
                have HB3 := Lib.hid (HB2.out.trans (((Below.drew (Below.refl w2.heap.size w2)).trans hb3).mono HB2.out.size))
                have y5 := (hb3.cell (p := ⟨b, o + 5, none⟩) z2).trans (show w2.drew.cell? ⟨b, o + 5, none⟩ = _ from x5)
                clear KB hb3 x0 x1 x2 x3 x4 x5
                go_wp2_with fail
                refine (CM.out _).mono ?_
                rintro r w' ⟨rfl, rfl⟩
                by_cases cm : e.map.size = 0
                · have Cm := Lib.hid cm
                  have gm := str_empty e.map
                  rw [show (e.map.size == 0) = true by simp [cm]] at gm
                  clear cm
                  go_wp2_with fail
                  go_ret
                  exact ⟨ret_bool (by rw [HE.out]; simp [Ni2.out, Nj.out, Nk.out, Nij.out, Cl.out, Cg.out, Cm.out]), (by repeat (first | exact HB3.out | (refine Below.alloc ?_ (by first | omega | (simp; done) | (simp; omega)) _) | refine below_drewN ?_ _ | refine Below.drew ?_))⟩
                · have Cm := Lib.hid cm
                  have gm := str_empty e.map
                  rw [show (e.map.size == 0) = false by simp [cm]] at gm
                  clear cm
                  go_wp2_with fail
                  go_ret
                  exact ⟨ret_bool (by rw [HE.out]; simp [Ni2.out, Nj.out, Nk.out, Nij.out, Cl.out, Cg.out, Cm.out]), (by repeat (first | exact HB3.out | (refine Below.alloc ?_ (by first | omega | (simp; done) | (simp; omega)) _) | refine below_drewN ?_ _ | refine Below.drew ?_))⟩
          · have nk' : numOk e.k false = false := by simpa using nk
            have Nk := Lib.hid nk'
            have Dk := l07Number_lit e.k _ _ nk'
            clear nk nk'
            go_quiet (first
              | (go_at_call 80; first | with_reducible exact quiet_left (CJ.out _) | with_reducible exact quiet_left (CK.out _))
              | (go_at_call 79; first | with_reducible exact quiet_left (Di.out _) | with_reducible exact quiet_left (Dj.out _) | with_reducible exact quiet_left (Dk.out _)))
            go_wp2_with fail
            go_ret
            exact ⟨ret_bool (by rw [HE.out]; simp [Nk.out]), (by repeat (first | exact HB1.out | (refine Below.alloc ?_ (by first | omega | (simp; done) | (simp; omega)) _) | refine below_drewN ?_ _ | refine Below.drew ?_))⟩
        · have nj' : numOk e.j true = false := by simpa using nj
          have Nj := Lib.hid nj'
          have Dj := l07Number_lit e.j _ _ nj'
          clear nj nj'
          go_quiet (first
            | (go_at_call 80; first | with_reducible exact quiet_left (CJ.out _) | with_reducible exact quiet_left (CK.out _))
            | (go_at_call 79; first | with_reducible exact quiet_left (Di.out _) | with_reducible exact quiet_left (Dj.out _) | with_reducible exact quiet_left (Dk.out _)))
          go_wp2_with fail
          go_ret
          exact ⟨ret_bool (by rw [HE.out]; simp [Nj.out]), (by repeat (first | exact HB1.out | (refine Below.alloc ?_ (by first | omega | (simp; done) | (simp; omega)) _) | refine below_drewN ?_ _ | refine Below.drew ?_))⟩
      · have ni' : numOk e.i true = false := by simpa using ni
        have Ni := Lib.hid ni'
        have Ni2 := Lib.hid (show inR e.i 0 1000000000000000 = false from ni')
        have Di := l07Number_lit e.i true _ ni'
        clear ni ni'
        go_quiet (first
          | (go_at_call 80; first | with_reducible exact quiet_left (CJ.out _) | with_reducible exact quiet_left (CK.out _))
          | (go_at_call 79; first | with_reducible exact quiet_left (Di.out _) | with_reducible exact quiet_left (Dj.out _) | with_reducible exact quiet_left (Dk.out _)))
        go_wp2_with fail
        go_ret
        exact ⟨ret_bool (by rw [HE.out]; simp [Ni2.out]), (by repeat (first | exact HB1.out | (refine Below.alloc ?_ (by first | omega | (simp; done) | (simp; omega)) _) | refine below_drewN ?_ _ | refine Below.drew ?_))⟩
    · rw [u1, u2, u3, u4] at HE HU
      obtain ⟨hJ', hK', hP', hM'⟩ := HU.out
      have CJ := l07Has_lit S 74 74 _ hSm rfl hJ'
      have CK := l07Has_lit S 75 75 _ hSm rfl hK'
      have CP := l07Has_lit S 80 80 _ hSm rfl hP'
      have CM := l07Has_lit S 77 77 _ hSm rfl hM'
      clear hJ' hK' hP' hM'
      clear u1 u2 u3 u4
      by_cases ni : numOk e.i true = true
      · have Ni := Lib.hid ni
        have Di := l07Number_lit e.i true _ ni
        clear ni
        by_cases nj : numOk e.j true = true
        · have Nj := Lib.hid nj
          have Dj := l07Number_lit e.j _ _ nj
          clear nj
          by_cases nk : numOk e.k true = true
          · have Nk := Lib.hid nk
            have Dk := l07Number_lit e.k _ _ nk
            clear nk
            by_cases nij : e.j < e.i
            · have Nij := Lib.hid nij
              go_quiet (first
                | (go_at_call 80; first | with_reducible exact quiet_left (CJ.out _) | with_reducible exact quiet_left (CK.out _))
                | (go_at_call 79; first | with_reducible exact quiet_left (Di.out _) | with_reducible exact quiet_left (Dj.out _) | with_reducible exact quiet_left (Dk.out _)))
              go_wp2_with fail
              go_ret
              exact ⟨ret_bool (by rw [HE.out]; simp [Nij.out]), (by repeat (first | exact HB1.out | (refine Below.alloc ?_ (by first | omega | (simp; done) | (simp; omega)) _) | refine below_drewN ?_ _ | refine Below.drew ?_))⟩
            · have nij' : decide (e.j < e.i) = false := by simp; omega
              have Nij := Lib.hid nij'
              go_quiet (first
                | (go_at_call 80; first | with_reducible exact quiet_left (CJ.out _) | with_reducible exact quiet_left (CK.out _))
                | (go_at_call 79; first | with_reducible exact quiet_left (Di.out _) | with_reducible exact quiet_left (Dj.out _) | with_reducible exact quiet_left (Dk.out _)))
              go_wp2_with fail
              have Ni2 := Lib.hid (show inR e.i 0 1000000000000000 = true from Ni.out)
              have HH2 := Lib.hid (HH1.out.up (below_drewN (Below.refl w1.heap.size w1) nq))
              have HB2 := Lib.hid (HB1.out.trans ((below_drewN (Below.refl w1.heap.size w1) nq).mono HB1.out.size))
              clear x0 x1 x2 x3 x4 x5 z1
              generalize w1.drewN nq = w2 at *
              have z2 : b < w2.heap.size := HH2.out.lt
              obtain ⟨x0, x1, x2, x3, x4, x5, _⟩ := HH2.out.box
              have KB := And.intro (Below.drew (Below.refl w2.heap.size w2)) (show w2.drew.cell? ⟨b, o + 4, none⟩ = _ from x4)
              have Y4 := Lib.hid KB.2
              have Z4 := Lib.hid (show b < w2.drew.heap.size from z2)
              have R4 := Lib.hid (HH2.out.sl.up (Below.drew (Below.refl w2.heap.size w2)))
              by_cases cl : 0 < e.part.length
              · have Cl := Lib.hid cl
                have cl' : decide (0 < e.part.length) = true := by simp [cl]
                go_quiet ((go_at_call 80; with_reducible exact quiet_left (CP.out _)))
                have HB3 := Lib.hid (HB2.out.trans ((below_drewN (Below.refl w2.heap.size w2) nq).mono HB2.out.size))
                go_wp2_with fail
                go_ret
                exact ⟨ret_bool (by rw [HE.out]; simp [Cl.out]), (by repeat (first | exact HB3.out | (refine Below.alloc ?_ (by first | omega | (simp; done) | (simp; omega)) _) | refine below_drewN ?_ _ | refine Below.drew ?_))⟩
              · have Cg := Lib.hid (emptyOk cl)
                have cg : gramOk e.part = true := emptyOk cl
                have hL : e.part.length = 0 := by omega
                have Cl := Lib.hid cl
                rw [hL] at KB Y4 R4 x4
                clear cl hL
                go_region_held3 (fun w' => Below w2.heap.size w2 w' ∧ w'.cell? ⟨b, o + 4, none⟩ = some (.slice AR 0 cR))
                  (first | (with_reducible exact KB) | (with_reducible exact keepEd KB hb3 z2))
                  (first
                    | (go_at_call 80; refine (CP.out _).mono ?_; rintro r w' ⟨rfl, rfl⟩)
                    | (go_at_call 37; refine (l02Ok_any b (o + 4) _ e.part _ Y4.out Z4.out R4.out hsm).mono ?_; rintro r w3 ⟨rfl, hb3⟩))
                have HB3 := Lib.hid (HB2.out.trans (((Below.drew (Below.refl w2.heap.size w2)).trans hb3).mono HB2.out.size))
                have y5 := (hb3.cell (p := ⟨b, o + 5, none⟩) z2).trans (show w2.drew.cell? ⟨b, o + 5, none⟩ = _ from x5)
                clear KB hb3 x0 x1 x2 x3 x4 x5
                go_wp2_with fail
                refine (CM.out _).mono ?_
                rintro r w' ⟨rfl, rfl⟩
                by_cases cm : e.map.size = 0
                · have Cm := Lib.hid cm
                  have gm := str_empty e.map
                  rw [show (e.map.size == 0) = true by simp [cm]] at gm
                  clear cm
                  go_wp2_with fail
                  go_ret
                  exact ⟨ret_bool (by rw [HE.out]; simp [Ni2.out, Nj.out, Nk.out, Nij.out, Cl.out, Cg.out, Cm.out]), (by repeat (first | exact HB3.out | (refine Below.alloc ?_ (by first | omega | (simp; done) | (simp; omega)) _) | refine below_drewN ?_ _ | refine Below.drew ?_))⟩
                · have Cm := Lib.hid cm
                  have gm := str_empty e.map
                  rw [show (e.map.size == 0) = false by simp [cm]] at gm
                  clear cm
                  go_wp2_with fail
                  go_ret
                  exact ⟨ret_bool (by rw [HE.out]; simp [Ni2.out, Nj.out, Nk.out, Nij.out, Cl.out, Cg.out, Cm.out]), (by repeat (first | exact HB3.out | (refine Below.alloc ?_ (by first | omega | (simp; done) | (simp; omega)) _) | refine below_drewN ?_ _ | refine Below.drew ?_))⟩
          · have nk' : numOk e.k true = false := by simpa using nk
            have Nk := Lib.hid nk'
            have Dk := l07Number_lit e.k _ _ nk'
            clear nk nk'
            go_quiet (first
              | (go_at_call 80; first | with_reducible exact quiet_left (CJ.out _) | with_reducible exact quiet_left (CK.out _))
              | (go_at_call 79; first | with_reducible exact quiet_left (Di.out _) | with_reducible exact quiet_left (Dj.out _) | with_reducible exact quiet_left (Dk.out _)))
            go_wp2_with fail
            go_ret
            exact ⟨ret_bool (by rw [HE.out]; simp [Nk.out]), (by repeat (first | exact HB1.out | (refine Below.alloc ?_ (by first | omega | (simp; done) | (simp; omega)) _) | refine below_drewN ?_ _ | refine Below.drew ?_))⟩
        · have nj' : numOk e.j true = false := by simpa using nj
          have Nj := Lib.hid nj'
          have Dj := l07Number_lit e.j _ _ nj'
          clear nj nj'
          go_quiet (first
            | (go_at_call 80; first | with_reducible exact quiet_left (CJ.out _) | with_reducible exact quiet_left (CK.out _))
            | (go_at_call 79; first | with_reducible exact quiet_left (Di.out _) | with_reducible exact quiet_left (Dj.out _) | with_reducible exact quiet_left (Dk.out _)))
          go_wp2_with fail
          go_ret
          exact ⟨ret_bool (by rw [HE.out]; simp [Nj.out]), (by repeat (first | exact HB1.out | (refine Below.alloc ?_ (by first | omega | (simp; done) | (simp; omega)) _) | refine below_drewN ?_ _ | refine Below.drew ?_))⟩
      · have ni' : numOk e.i true = false := by simpa using ni
        have Ni := Lib.hid ni'
        have Ni2 := Lib.hid (show inR e.i 0 1000000000000000 = false from ni')
        have Di := l07Number_lit e.i true _ ni'
        clear ni ni'
        go_quiet (first
          | (go_at_call 80; first | with_reducible exact quiet_left (CJ.out _) | with_reducible exact quiet_left (CK.out _))
          | (go_at_call 79; first | with_reducible exact quiet_left (Di.out _) | with_reducible exact quiet_left (Dj.out _) | with_reducible exact quiet_left (Dk.out _)))
        go_wp2_with fail
        go_ret
        exact ⟨ret_bool (by rw [HE.out]; simp [Ni2.out]), (by repeat (first | exact HB1.out | (refine Below.alloc ?_ (by first | omega | (simp; done) | (simp; omega)) _) | refine below_drewN ?_ _ | refine Below.drew ?_))⟩
    · rw [u1, u2, u3, u4] at HE HU
      obtain ⟨hJ', hK', hP', hM'⟩ := HU.out
      have CJ := l07Has_lit S 74 74 _ hSm rfl hJ'
      have CK := l07Has_lit S 75 75 _ hSm rfl hK'
      have CP := l07Has_lit S 80 80 _ hSm rfl hP'
      have CM := l07Has_lit S 77 77 _ hSm rfl hM'
      clear hJ' hK' hP' hM'
      clear u1 u2 u3 u4
      by_cases ni : numOk e.i true = true
      · have Ni := Lib.hid ni
        have Di := l07Number_lit e.i true _ ni
        clear ni
        by_cases nj : numOk e.j true = true
        · have Nj := Lib.hid nj
          have Dj := l07Number_lit e.j _ _ nj
          clear nj
          by_cases nk : numOk e.k false = true
          · have Nk := Lib.hid nk
            have Dk := l07Number_lit e.k _ _ nk
            clear nk
            by_cases nij : e.j < e.i
            · have Nij := Lib.hid nij
              go_quiet (first
                | (go_at_call 80; first | with_reducible exact quiet_left (CJ.out _) | with_reducible exact quiet_left (CK.out _))
                | (go_at_call 79; first | with_reducible exact quiet_left (Di.out _) | with_reducible exact quiet_left (Dj.out _) | with_reducible exact quiet_left (Dk.out _)))
              go_wp2_with fail
              go_ret
              exact ⟨ret_bool (by rw [HE.out]; simp [Nij.out]), (by repeat (first | exact HB1.out | (refine Below.alloc ?_ (by first | omega | (simp; done) | (simp; omega)) _) | refine below_drewN ?_ _ | refine Below.drew ?_))⟩
            · have nij' : decide (e.j < e.i) = false := by simp; omega
              have Nij := Lib.hid nij'
              go_quiet (first
                | (go_at_call 80; first | with_reducible exact quiet_left (CJ.out _) | with_reducible exact quiet_left (CK.out _))
                | (go_at_call 79; first | with_reducible exact quiet_left (Di.out _) | with_reducible exact quiet_left (Dj.out _) | with_reducible exact quiet_left (Dk.out _)))
              go_wp2_with fail
              have Ni2 := Lib.hid (show inR e.i 0 1000000000000000 = true from Ni.out)
              have HH2 := Lib.hid (HH1.out.up (below_drewN (Below.refl w1.heap.size w1) nq))
              have HB2 := Lib.hid (HB1.out.trans ((below_drewN (Below.refl w1.heap.size w1) nq).mono HB1.out.size))
              clear x0 x1 x2 x3 x4 x5 z1
              generalize w1.drewN nq = w2 at *
              have z2 : b < w2.heap.size := HH2.out.lt
              obtain ⟨x0, x1, x2, x3, x4, x5, _⟩ := HH2.out.box
              have KB := And.intro (Below.drew (Below.refl w2.heap.size w2)) (show w2.drew.cell? ⟨b, o + 4, none⟩ = _ from x4)
              have Y4 := Lib.hid KB.2
              have Z4 := Lib.hid (show b < w2.drew.heap.size from z2)
              have R4 := Lib.hid (HH2.out.sl.up (Below.drew (Below.refl w2.heap.size w2)))
              by_cases cl : 0 < e.part.length
              · have Cl := Lib.hid cl
                have cl' : decide (0 < e.part.length) = true := by simp [cl]
                go_quiet ((go_at_call 80; with_reducible exact quiet_left (CP.out _)))
                have HB3 := Lib.hid (HB2.out.trans ((below_drewN (Below.refl w2.heap.size w2) nq).mono HB2.out.size))
                go_wp2_with fail
                go_ret
                exact ⟨ret_bool (by rw [HE.out]; simp [Cl.out]), (by repeat (first | exact HB3.out | (refine Below.alloc ?_ (by first | omega | (simp; done) | (simp; omega)) _) | refine below_drewN ?_ _ | refine Below.drew ?_))⟩
              · have Cg := Lib.hid (emptyOk cl)
                have cg : gramOk e.part = true := emptyOk cl
                have hL : e.part.length = 0 := by omega
                have Cl := Lib.hid cl
                rw [hL] at KB Y4 R4 x4
                clear cl hL
                go_region_held3 (fun w' => Below w2.heap.size w2 w' ∧ w'.cell? ⟨b, o + 4, none⟩ = some (.slice AR 0 cR))
                  (first | (with_reducible exact KB) | (with_reducible exact keepEd KB hb3 z2))
                  (first
                    | (go_at_call 80; refine (CP.out _).mono ?_; rintro r w' ⟨rfl, rfl⟩)
                    | (go_at_call 37; refine (l02Ok_any b (o + 4) _ e.part _ Y4.out Z4.out R4.out hsm).mono ?_; rintro r w3 ⟨rfl, hb3⟩))
                have HB3 := Lib.hid (HB2.out.trans (((Below.drew (Below.refl w2.heap.size w2)).trans hb3).mono HB2.out.size))
                have y5 := (hb3.cell (p := ⟨b, o + 5, none⟩) z2).trans (show w2.drew.cell? ⟨b, o + 5, none⟩ = _ from x5)
                clear KB hb3 x0 x1 x2 x3 x4 x5
                go_wp2_with fail
                refine (CM.out _).mono ?_
                rintro r w' ⟨rfl, rfl⟩
                by_cases cs : e.map.size = 4
                · have Cs := Lib.hid cs
                  have gs : ((e.map.size : Int) == 4) = true := by simp [cs]
                  clear cs
                  go_wp2_with fail
                  refine (l01Ok_any _ _ hm).mono ?_
                  rintro r w' ⟨rfl, rfl⟩
                  go_wp2_with fail
                  go_ret
                  exact ⟨ret_bool (by rw [HE.out]; simp [Ni2.out, Nj.out, Nk.out, Nij.out, Cl.out, Cg.out, Cs.out]), (by repeat (first | exact HB3.out | (refine Below.alloc ?_ (by first | omega | (simp; done) | (simp; omega)) _) | refine below_drewN ?_ _ | refine Below.drew ?_))⟩
                · have Cs := Lib.hid cs
                  have gs : ((e.map.size : Int) == 4) = false := by rw [beq_eq_false_iff_ne]; omega
                  clear cs
                  go_wp2_with fail
                  go_ret
                  exact ⟨ret_bool (by rw [HE.out]; simp [Cs.out]), (by repeat (first | exact HB3.out | (refine Below.alloc ?_ (by first | omega | (simp; done) | (simp; omega)) _) | refine below_drewN ?_ _ | refine Below.drew ?_))⟩
          · have nk' : numOk e.k false = false := by simpa using nk
            have Nk := Lib.hid nk'
            have Dk := l07Number_lit e.k _ _ nk'
            clear nk nk'
            go_quiet (first
              | (go_at_call 80; first | with_reducible exact quiet_left (CJ.out _) | with_reducible exact quiet_left (CK.out _))
              | (go_at_call 79; first | with_reducible exact quiet_left (Di.out _) | with_reducible exact quiet_left (Dj.out _) | with_reducible exact quiet_left (Dk.out _)))
            go_wp2_with fail
            go_ret
            exact ⟨ret_bool (by rw [HE.out]; simp [Nk.out]), (by repeat (first | exact HB1.out | (refine Below.alloc ?_ (by first | omega | (simp; done) | (simp; omega)) _) | refine below_drewN ?_ _ | refine Below.drew ?_))⟩
        · have nj' : numOk e.j true = false := by simpa using nj
          have Nj := Lib.hid nj'
          have Dj := l07Number_lit e.j _ _ nj'
          clear nj nj'
          go_quiet (first
            | (go_at_call 80; first | with_reducible exact quiet_left (CJ.out _) | with_reducible exact quiet_left (CK.out _))
            | (go_at_call 79; first | with_reducible exact quiet_left (Di.out _) | with_reducible exact quiet_left (Dj.out _) | with_reducible exact quiet_left (Dk.out _)))
          go_wp2_with fail
          go_ret
          exact ⟨ret_bool (by rw [HE.out]; simp [Nj.out]), (by repeat (first | exact HB1.out | (refine Below.alloc ?_ (by first | omega | (simp; done) | (simp; omega)) _) | refine below_drewN ?_ _ | refine Below.drew ?_))⟩
      · have ni' : numOk e.i true = false := by simpa using ni
        have Ni := Lib.hid ni'
        have Ni2 := Lib.hid (show inR e.i 0 1000000000000000 = false from ni')
        have Di := l07Number_lit e.i true _ ni'
        clear ni ni'
        go_quiet (first
          | (go_at_call 80; first | with_reducible exact quiet_left (CJ.out _) | with_reducible exact quiet_left (CK.out _))
          | (go_at_call 79; first | with_reducible exact quiet_left (Di.out _) | with_reducible exact quiet_left (Dj.out _) | with_reducible exact quiet_left (Dk.out _)))
        go_wp2_with fail
        go_ret
        exact ⟨ret_bool (by rw [HE.out]; simp [Ni2.out]), (by repeat (first | exact HB1.out | (refine Below.alloc ?_ (by first | omega | (simp; done) | (simp; omega)) _) | refine below_drewN ?_ _ | refine Below.drew ?_))⟩
  · have hk' : inR e.kind 1 7 = false := by simpa using hk
    have HK := Lib.hid hk'
    clear hk hk'
    go_enter Tryz.func38, Tryz.ntmps38
    go_wp2_with fail
    refine (l00In_no _ _ _ _ HK.out).mono ?_
    rintro r w' ⟨rfl, rfl⟩
    go_wp2_with fail
    go_ret
    exact ⟨ret_bool (by simp [editOk, HK.out]), (by repeat (first | exact Below.refl _ _ | (refine Below.alloc ?_ (by first | omega | (simp; done) | (simp; omega)) _) | refine below_drewN ?_ _ | refine Below.drew ?_))⟩
end Go.Proofs.YtfapnipmgmpgaaaGreatDoor

