import Derived.Test.YtdacndamehiglaaGreatDoorM20
import Derived.Test.YtdacndamehiglaaGreatDoorM16
namespace Go.Proofs.YtdacndamehiglaaGreatDoor
open Go.RowKit
set_option maxRecDepth 100000 in
set_option maxHeartbeats 4000000 in
theorem implMerge_any (vG vE vF : Value) (xs : List GRule) (e f : GEdit) (w : World) (hG : Sl RuleE w w.heap.size vG xs) (hE : EditV w w.heap.size vE e) (hF : EditV w w.heap.size vF f) (hn0 : xs.length ≤ 1048576) (hn : e.part.length ≤ 1048576) (hn2 : f.part.length ≤ 1048576)
    (hm : e.map.size ≤ maxLen) (hm2 : f.map.size ≤ maxLen) (htab : Lib.TabIs Tryz.prog w "math/bits.deBruijn64tab" .u8 deB64) :
    Calls Tryz.prog 30 #[.agg #[vG], vE, vF] w (GRes (mrgOut xs e f) (mrgCode xs e f) w) := by
  obtain ⟨vR, rfl, hR⟩ := hE
  obtain ⟨vQ, rfl, hQ⟩ := hF
  have HG := Lib.hid hG
  have HSE := Lib.hid hR
  have HSF := Lib.hid hQ
  have HT := Lib.hid htab
  obtain ⟨AG, cG, rfl, _⟩ := hG
  obtain ⟨AE, cE, rfl, _⟩ := hR
  obtain ⟨AF, cF, rfl, _⟩ := hQ
  clear htab
  go_enter Tryz.func30, Tryz.ntmps30
  go_wp2_with fail
  refine (LengthOf_any _ xs _ (HG.out.up (by repeat (first | exact Below.refl _ _ | (refine Below.alloc ?_ (by first | omega | (simp; done) | (simp; omega)) _) | (refine Below.setCell ?_ (by first | exact Nat.le_refl _ | (show _ ≤ _; omega) | (simp; done) | (simp; omega)) _) | refine below_drewN ?_ _ | refine Below.drew ?_))) (by omega)).mono ?_
  rintro e w1 ⟨rfl, hb_1⟩
  have KR_2 : Blk w1 (w.heap.size + 1 + 1 + 1) #[.slice none 0 0] 26 := by have := (Below.unalloc hb_1).2; simpa [Blk] using this
  replace hb_1 := (Below.unalloc hb_1).1
  have KF_3 : Blk w1 (w.heap.size + 1 + 1) #[.int .i64 f.kind, .int .i64 f.i, .int .i64 f.j, .int .i64 f.k, .slice AF f.part.length cF, .string f.map] 30 := by have := (Below.unalloc hb_1).2; simpa [Blk] using this
  replace hb_1 := (Below.unalloc hb_1).1
  have KE_4 : Blk w1 (w.heap.size + 1) #[.int .i64 e.kind, .int .i64 e.i, .int .i64 e.j, .int .i64 e.k, .slice AE e.part.length cE, .string e.map] 30 := by have := (Below.unalloc hb_1).2; simpa [Blk] using this
  replace hb_1 := (Below.unalloc hb_1).1
  have KP_5 : Blk w1 (w.heap.size) #[.slice AG xs.length cG] 26 := by have := (Below.unalloc hb_1).2; simpa [Blk] using this
  replace hb_1 := (Below.unalloc hb_1).1
  have z_w1 : w.heap.size ≤ w1.heap.size := hb_1.size
  have KG_6 := Lib.hid (HG.out.up hb_1)
  have KSE_7 := Lib.hid (HSE.out.up hb_1)
  have KSF_8 := Lib.hid (HSF.out.up hb_1)
  have KB_9 := Lib.hid hb_1
  clear HG HSE HSF
  have lz1 := Blk.lt KR_2
  cases hg : gramOk xs with
  | false =>
    have q1 : lenC xs = 1 := by simp [lenC, hg]
    have HX := Lib.hid (mrg_bad (xs := xs) (e := e) (f := f) (c := 1) (by simp [mrgCode, hg]) (by decide))
    clear hg
    rw [q1]
    clear q1
    have cR0_10 := Blk.cell (i := 0) (v := .slice none 0 0) KR_2 rfl
    have zR0_11 := Blk.frozen KR_2 0
    have lR_12 := Blk.lt KR_2
    go_wp2_with fail
    refine bodyPost_ret (v := .tuple #[.agg #[.slice none 0 0], .int .i64 1]) (by simp [results, Tryz.results30, go_sem, cR0_10]) rfl ⟨Below.setCell KB_9.out (show w.heap.size ≤ w.heap.size + 3 by omega) _, .slice none 0 0, by rw [HX.out.1]; exact World.ownsRow_nil _ _ _ _, by rw [HX.out.2]⟩
  | true =>
    have q1 : lenC xs = 0 := by simp [lenC, hg]
    have q2 : lenV xs = gramLen xs := by simp [lenV, hg]
    rw [q1, q2]
    clear q1 q2
    have HGG := Lib.hid hg
    clear hg
    have cE0_13 := Blk.cell (i := 0) (v := .int .i64 e.kind) KE_4 rfl
    have cE1_14 := Blk.cell (i := 1) (v := .int .i64 e.i) KE_4 rfl
    have cE2_15 := Blk.cell (i := 2) (v := .int .i64 e.j) KE_4 rfl
    have cE3_16 := Blk.cell (i := 3) (v := .int .i64 e.k) KE_4 rfl
    have cE4_17 := Blk.cell (i := 4) (v := .slice AE e.part.length cE) KE_4 rfl
    have cE5_18 := Blk.cell (i := 5) (v := .string e.map) KE_4 rfl
    have lE_19 := Blk.lt KE_4
    have cF0_20 := Blk.cell (i := 0) (v := .int .i64 f.kind) KF_3 rfl
    have cF1_21 := Blk.cell (i := 1) (v := .int .i64 f.i) KF_3 rfl
    have cF2_22 := Blk.cell (i := 2) (v := .int .i64 f.j) KF_3 rfl
    have cF3_23 := Blk.cell (i := 3) (v := .int .i64 f.k) KF_3 rfl
    have cF4_24 := Blk.cell (i := 4) (v := .slice AF f.part.length cF) KF_3 rfl
    have cF5_25 := Blk.cell (i := 5) (v := .string f.map) KF_3 rfl
    have lF_26 := Blk.lt KF_3
    go_wp2_with fail
    refine (implValidEdit_any _ e _ ⟨_, rfl, KSE_7.out.up (by repeat (first | exact Below.refl _ _ | (refine Below.alloc ?_ (by first | omega | (simp; done) | (simp; omega)) _) | (refine Below.setCell ?_ (by first | exact Nat.le_refl _ | (show _ ≤ _; omega) | (simp; done) | (simp; omega)) _) | refine below_drewN ?_ _ | refine Below.drew ?_))⟩ (by omega) hm).mono ?_
    rintro e w2 ⟨rfl, hb_27⟩
    have z_w2 : w1.heap.size ≤ w2.heap.size := hb_27.size
    have KG_28 := Lib.hid (KG_6.out.up hb_27)
    have KSE_29 := Lib.hid (KSE_7.out.up hb_27)
    have KSF_30 := Lib.hid (KSF_8.out.up hb_27)
    have KR_31 := Blk.up KR_2 hb_27
    have KF_32 := Blk.up KF_3 hb_27
    have KE_33 := Blk.up KE_4 hb_27
    have KP_34 := Blk.up KP_5 hb_27
    have KB_35 := Lib.hid (Below.tr KB_9.out hb_27)
    clear hb_1 cE0_13 cE1_14 cE2_15 cE3_16 cE4_17 cE5_18 lE_19 cF0_20 cF1_21 cF2_22 cF3_23 cF4_24 cF5_25 lF_26 KG_6 KSE_7 KSF_8 KR_2 KF_3 KE_4 KP_5 KB_9
    cases he : editOk e with
    | false =>
      have HX := Lib.hid (mrg_bad (xs := xs) (e := e) (f := f) (c := 1) (by simp [mrgCode, he]) (by decide))
      clear he
      have cR0_36 := Blk.cell (i := 0) (v := .slice none 0 0) KR_31 rfl
      have zR0_37 := Blk.frozen KR_31 0
      have lR_38 := Blk.lt KR_31
      go_wp2_with fail
      refine bodyPost_ret (v := .tuple #[.agg #[.slice none 0 0], .int .i64 1]) (by simp [results, Tryz.results30, go_sem, cR0_36]) rfl ⟨Below.setCell KB_35.out (show w.heap.size ≤ w.heap.size + 3 by omega) _, .slice none 0 0, by rw [HX.out.1]; exact World.ownsRow_nil _ _ _ _, by rw [HX.out.2]⟩
    | true =>
      have HEO := Lib.hid he
      clear he
      have cE0_39 := Blk.cell (i := 0) (v := .int .i64 e.kind) KE_33 rfl
      have cE1_40 := Blk.cell (i := 1) (v := .int .i64 e.i) KE_33 rfl
      have cE2_41 := Blk.cell (i := 2) (v := .int .i64 e.j) KE_33 rfl
      have cE3_42 := Blk.cell (i := 3) (v := .int .i64 e.k) KE_33 rfl
      have cE4_43 := Blk.cell (i := 4) (v := .slice AE e.part.length cE) KE_33 rfl
      have cE5_44 := Blk.cell (i := 5) (v := .string e.map) KE_33 rfl
      have lE_45 := Blk.lt KE_33
      have cF0_46 := Blk.cell (i := 0) (v := .int .i64 f.kind) KF_32 rfl
      have cF1_47 := Blk.cell (i := 1) (v := .int .i64 f.i) KF_32 rfl
      have cF2_48 := Blk.cell (i := 2) (v := .int .i64 f.j) KF_32 rfl
      have cF3_49 := Blk.cell (i := 3) (v := .int .i64 f.k) KF_32 rfl
      have cF4_50 := Blk.cell (i := 4) (v := .slice AF f.part.length cF) KF_32 rfl
      have cF5_51 := Blk.cell (i := 5) (v := .string f.map) KF_32 rfl
      have lF_52 := Blk.lt KF_32
      go_wp2_with fail
      refine (implValidEdit_any _ f _ ⟨_, rfl, KSF_30.out.up (by repeat (first | exact Below.refl _ _ | (refine Below.alloc ?_ (by first | omega | (simp; done) | (simp; omega)) _) | (refine Below.setCell ?_ (by first | exact Nat.le_refl _ | (show _ ≤ _; omega) | (simp; done) | (simp; omega)) _) | refine below_drewN ?_ _ | refine Below.drew ?_))⟩ (by omega) hm2).mono ?_
      rintro e w3 ⟨rfl, hb_53⟩
      have z_w3 : w2.heap.size ≤ w3.heap.size := hb_53.size
      have KG_54 := Lib.hid (KG_28.out.up hb_53)
      have KSE_55 := Lib.hid (KSE_29.out.up hb_53)
      have KSF_56 := Lib.hid (KSF_30.out.up hb_53)
      have KR_57 := Blk.up KR_31 hb_53
      have KF_58 := Blk.up KF_32 hb_53
      have KE_59 := Blk.up KE_33 hb_53
      have KP_60 := Blk.up KP_34 hb_53
      have KB_61 := Lib.hid (Below.tr KB_35.out hb_53)
      clear hb_27 cE0_39 cE1_40 cE2_41 cE3_42 cE4_43 cE5_44 lE_45 cF0_46 cF1_47 cF2_48 cF3_49 cF4_50 cF5_51 lF_52 KG_28 KSE_29 KSF_30 KR_31 KF_32 KE_33 KP_34 KB_35
      cases hf : editOk f with
      | false =>
        have HX := Lib.hid (mrg_bad (xs := xs) (e := e) (f := f) (c := 1) (by simp [mrgCode, hf]) (by decide))
        clear hf
        have cR0_62 := Blk.cell (i := 0) (v := .slice none 0 0) KR_57 rfl
        have zR0_63 := Blk.frozen KR_57 0
        have lR_64 := Blk.lt KR_57
        go_wp2_with fail
        refine bodyPost_ret (v := .tuple #[.agg #[.slice none 0 0], .int .i64 1]) (by simp [results, Tryz.results30, go_sem, cR0_62]) rfl ⟨Below.setCell KB_61.out (show w.heap.size ≤ w.heap.size + 3 by omega) _, .slice none 0 0, by rw [HX.out.1]; exact World.ownsRow_nil _ _ _ _, by rw [HX.out.2]⟩
      | true =>
        have HFO := Lib.hid hf
        clear hf
        have cE0_65 := Blk.cell (i := 0) (v := .int .i64 e.kind) KE_59 rfl
        have cE1_66 := Blk.cell (i := 1) (v := .int .i64 e.i) KE_59 rfl
        have cE2_67 := Blk.cell (i := 2) (v := .int .i64 e.j) KE_59 rfl
        have cE3_68 := Blk.cell (i := 3) (v := .int .i64 e.k) KE_59 rfl
        have cE4_69 := Blk.cell (i := 4) (v := .slice AE e.part.length cE) KE_59 rfl
        have cE5_70 := Blk.cell (i := 5) (v := .string e.map) KE_59 rfl
        have lE_71 := Blk.lt KE_59
        have cF0_72 := Blk.cell (i := 0) (v := .int .i64 f.kind) KF_58 rfl
        have cF1_73 := Blk.cell (i := 1) (v := .int .i64 f.i) KF_58 rfl
        have cF2_74 := Blk.cell (i := 2) (v := .int .i64 f.j) KF_58 rfl
        have cF3_75 := Blk.cell (i := 3) (v := .int .i64 f.k) KF_58 rfl
        have cF4_76 := Blk.cell (i := 4) (v := .slice AF f.part.length cF) KF_58 rfl
        have cF5_77 := Blk.cell (i := 5) (v := .string f.map) KF_58 rfl
        have lF_78 := Blk.lt KF_58
        go_wp2_with fail
        refine (isSimple_any e _ _ (KSE_55.out.up (by repeat (first | exact Below.refl _ _ | (refine Below.alloc ?_ (by first | omega | (simp; done) | (simp; omega)) _) | (refine Below.setCell ?_ (by first | exact Nat.le_refl _ | (show _ ≤ _; omega) | (simp; done) | (simp; omega)) _) | refine below_drewN ?_ _ | refine Below.drew ?_)))).mono ?_
        rintro e w4 ⟨rfl, hb_79⟩
        have z_w4 : w3.heap.size ≤ w4.heap.size := hb_79.size
        have KG_80 := Lib.hid (KG_54.out.up hb_79)
        have KSE_81 := Lib.hid (KSE_55.out.up hb_79)
        have KSF_82 := Lib.hid (KSF_56.out.up hb_79)
        have KR_83 := Blk.up KR_57 hb_79
        have KF_84 := Blk.up KF_58 hb_79
        have KE_85 := Blk.up KE_59 hb_79
        have KP_86 := Blk.up KP_60 hb_79
        have KB_87 := Lib.hid (Below.tr KB_61.out hb_79)
        clear hb_53 cE0_65 cE1_66 cE2_67 cE3_68 cE4_69 cE5_70 lE_71 cF0_72 cF1_73 cF2_74 cF3_75 cF4_76 cF5_77 lF_78 KG_54 KSE_55 KSF_56 KR_57 KF_58 KE_59 KP_60 KB_61
        cases se : simE e with
        | false =>
          have HX := Lib.hid (mrg_bad (xs := xs) (e := e) (f := f) (c := 2) (by simp [mrgCode, se, HGG.out, HEO.out, HFO.out]) (by decide))
          clear se
          have cR0_88 := Blk.cell (i := 0) (v := .slice none 0 0) KR_83 rfl
          have zR0_89 := Blk.frozen KR_83 0
          have lR_90 := Blk.lt KR_83
          go_wp2_with fail
          refine bodyPost_ret (v := .tuple #[.agg #[.slice none 0 0], .int .i64 2]) (by simp [results, Tryz.results30, go_sem, cR0_88]) rfl ⟨Below.setCell KB_87.out (show w.heap.size ≤ w.heap.size + 3 by omega) _, .slice none 0 0, by rw [HX.out.1]; exact World.ownsRow_nil _ _ _ _, by rw [HX.out.2]⟩
        | true =>
          have HSIE := Lib.hid se
          clear se
          have cE0_91 := Blk.cell (i := 0) (v := .int .i64 e.kind) KE_85 rfl
          have cE1_92 := Blk.cell (i := 1) (v := .int .i64 e.i) KE_85 rfl
          have cE2_93 := Blk.cell (i := 2) (v := .int .i64 e.j) KE_85 rfl
          have cE3_94 := Blk.cell (i := 3) (v := .int .i64 e.k) KE_85 rfl
          have cE4_95 := Blk.cell (i := 4) (v := .slice AE e.part.length cE) KE_85 rfl
          have cE5_96 := Blk.cell (i := 5) (v := .string e.map) KE_85 rfl
          have lE_97 := Blk.lt KE_85
          have cF0_98 := Blk.cell (i := 0) (v := .int .i64 f.kind) KF_84 rfl
          have cF1_99 := Blk.cell (i := 1) (v := .int .i64 f.i) KF_84 rfl
          have cF2_100 := Blk.cell (i := 2) (v := .int .i64 f.j) KF_84 rfl
          have cF3_101 := Blk.cell (i := 3) (v := .int .i64 f.k) KF_84 rfl
          have cF4_102 := Blk.cell (i := 4) (v := .slice AF f.part.length cF) KF_84 rfl
          have cF5_103 := Blk.cell (i := 5) (v := .string f.map) KF_84 rfl
          have lF_104 := Blk.lt KF_84
          go_wp2_with fail
          refine (isSimple_any f _ _ (KSF_82.out.up (by repeat (first | exact Below.refl _ _ | (refine Below.alloc ?_ (by first | omega | (simp; done) | (simp; omega)) _) | (refine Below.setCell ?_ (by first | exact Nat.le_refl _ | (show _ ≤ _; omega) | (simp; done) | (simp; omega)) _) | refine below_drewN ?_ _ | refine Below.drew ?_)))).mono ?_
          rintro e w5 ⟨rfl, hb_105⟩
          have z_w5 : w4.heap.size ≤ w5.heap.size := hb_105.size
          have KG_106 := Lib.hid (KG_80.out.up hb_105)
          have KSE_107 := Lib.hid (KSE_81.out.up hb_105)
          have KSF_108 := Lib.hid (KSF_82.out.up hb_105)
          have KR_109 := Blk.up KR_83 hb_105
          have KF_110 := Blk.up KF_84 hb_105
          have KE_111 := Blk.up KE_85 hb_105
          have KP_112 := Blk.up KP_86 hb_105
          have KB_113 := Lib.hid (Below.tr KB_87.out hb_105)
          clear hb_79 cE0_91 cE1_92 cE2_93 cE3_94 cE4_95 cE5_96 lE_97 cF0_98 cF1_99 cF2_100 cF3_101 cF4_102 cF5_103 lF_104 KG_80 KSE_81 KSF_82 KR_83 KF_84 KE_85 KP_86 KB_87
          cases sf : simE f with
          | false =>
            have HX := Lib.hid (mrg_bad (xs := xs) (e := e) (f := f) (c := 2) (by simp [mrgCode, sf, HGG.out, HEO.out, HFO.out]) (by decide))
            clear sf
            have cR0_114 := Blk.cell (i := 0) (v := .slice none 0 0) KR_109 rfl
            have zR0_115 := Blk.frozen KR_109 0
            have lR_116 := Blk.lt KR_109
            go_wp2_with fail
            refine bodyPost_ret (v := .tuple #[.agg #[.slice none 0 0], .int .i64 2]) (by simp [results, Tryz.results30, go_sem, cR0_114]) rfl ⟨Below.setCell KB_113.out (show w.heap.size ≤ w.heap.size + 3 by omega) _, .slice none 0 0, by rw [HX.out.1]; exact World.ownsRow_nil _ _ _ _, by rw [HX.out.2]⟩
          | true =>
            have HSIF := Lib.hid sf
            clear sf
            have cE0_117 := Blk.cell (i := 0) (v := .int .i64 e.kind) KE_111 rfl
            have cE1_118 := Blk.cell (i := 1) (v := .int .i64 e.i) KE_111 rfl
            have cE2_119 := Blk.cell (i := 2) (v := .int .i64 e.j) KE_111 rfl
            have cE3_120 := Blk.cell (i := 3) (v := .int .i64 e.k) KE_111 rfl
            have cE4_121 := Blk.cell (i := 4) (v := .slice AE e.part.length cE) KE_111 rfl
            have cE5_122 := Blk.cell (i := 5) (v := .string e.map) KE_111 rfl
            have lE_123 := Blk.lt KE_111
            have cF0_124 := Blk.cell (i := 0) (v := .int .i64 f.kind) KF_110 rfl
            have cF1_125 := Blk.cell (i := 1) (v := .int .i64 f.i) KF_110 rfl
            have cF2_126 := Blk.cell (i := 2) (v := .int .i64 f.j) KF_110 rfl
            have cF3_127 := Blk.cell (i := 3) (v := .int .i64 f.k) KF_110 rfl
            have cF4_128 := Blk.cell (i := 4) (v := .slice AF f.part.length cF) KF_110 rfl
            have cF5_129 := Blk.cell (i := 5) (v := .string f.map) KF_110 rfl
            have lF_130 := Blk.lt KF_110
            go_wp2_with fail
            refine (fits_any _ e (gramLen xs) _ ⟨_, rfl, KSE_107.out.up (by repeat (first | exact Below.refl _ _ | (refine Below.alloc ?_ (by first | omega | (simp; done) | (simp; omega)) _) | (refine Below.setCell ?_ (by first | exact Nat.le_refl _ | (show _ ≤ _; omega) | (simp; done) | (simp; omega)) _) | refine below_drewN ?_ _ | refine Below.drew ?_))⟩ (kind_ok HEO.out).2.2.1 (kind_ok HEO.out).2.2.2).mono ?_
            rintro e w6 ⟨rfl, hb_131⟩
            have z_w6 : w5.heap.size ≤ w6.heap.size := hb_131.size
            have KG_132 := Lib.hid (KG_106.out.up hb_131)
            have KSE_133 := Lib.hid (KSE_107.out.up hb_131)
            have KSF_134 := Lib.hid (KSF_108.out.up hb_131)
            have KR_135 := Blk.up KR_109 hb_131
            have KF_136 := Blk.up KF_110 hb_131
            have KE_137 := Blk.up KE_111 hb_131
            have KP_138 := Blk.up KP_112 hb_131
            have KB_139 := Lib.hid (Below.tr KB_113.out hb_131)
            clear hb_105 cE0_117 cE1_118 cE2_119 cE3_120 cE4_121 cE5_122 lE_123 cF0_124 cF1_125 cF2_126 cF3_127 cF4_128 cF5_129 lF_130 KG_106 KSE_107 KSF_108 KR_109 KF_110 KE_111 KP_112 KB_113
            cases fe : editFits e (gramLen xs) with
            | false =>
              have HX := Lib.hid (mrg_bad (xs := xs) (e := e) (f := f) (c := 2) (by simp [mrgCode, fe, HGG.out, HEO.out, HFO.out]) (by decide))
              clear fe
              have cR0_140 := Blk.cell (i := 0) (v := .slice none 0 0) KR_135 rfl
              have zR0_141 := Blk.frozen KR_135 0
              have lR_142 := Blk.lt KR_135
              go_wp2_with fail
              refine bodyPost_ret (v := .tuple #[.agg #[.slice none 0 0], .int .i64 2]) (by simp [results, Tryz.results30, go_sem, cR0_140]) rfl ⟨Below.setCell KB_139.out (show w.heap.size ≤ w.heap.size + 3 by omega) _, .slice none 0 0, by rw [HX.out.1]; exact World.ownsRow_nil _ _ _ _, by rw [HX.out.2]⟩
            | true =>
              have HFE := Lib.hid fe
              clear fe
              have cE0_143 := Blk.cell (i := 0) (v := .int .i64 e.kind) KE_137 rfl
              have cE1_144 := Blk.cell (i := 1) (v := .int .i64 e.i) KE_137 rfl
              have cE2_145 := Blk.cell (i := 2) (v := .int .i64 e.j) KE_137 rfl
              have cE3_146 := Blk.cell (i := 3) (v := .int .i64 e.k) KE_137 rfl
              have cE4_147 := Blk.cell (i := 4) (v := .slice AE e.part.length cE) KE_137 rfl
              have cE5_148 := Blk.cell (i := 5) (v := .string e.map) KE_137 rfl
              have lE_149 := Blk.lt KE_137
              have cF0_150 := Blk.cell (i := 0) (v := .int .i64 f.kind) KF_136 rfl
              have cF1_151 := Blk.cell (i := 1) (v := .int .i64 f.i) KF_136 rfl
              have cF2_152 := Blk.cell (i := 2) (v := .int .i64 f.j) KF_136 rfl
              have cF3_153 := Blk.cell (i := 3) (v := .int .i64 f.k) KF_136 rfl
              have cF4_154 := Blk.cell (i := 4) (v := .slice AF f.part.length cF) KF_136 rfl
              have cF5_155 := Blk.cell (i := 5) (v := .string f.map) KF_136 rfl
              have lF_156 := Blk.lt KF_136
              go_wp2_with fail
              refine (fits_any _ f (gramLen xs) _ ⟨_, rfl, KSF_134.out.up (by repeat (first | exact Below.refl _ _ | (refine Below.alloc ?_ (by first | omega | (simp; done) | (simp; omega)) _) | (refine Below.setCell ?_ (by first | exact Nat.le_refl _ | (show _ ≤ _; omega) | (simp; done) | (simp; omega)) _) | refine below_drewN ?_ _ | refine Below.drew ?_))⟩ (kind_ok HFO.out).2.2.1 (kind_ok HFO.out).2.2.2).mono ?_
              rintro e w7 ⟨rfl, hb_157⟩
              have z_w7 : w6.heap.size ≤ w7.heap.size := hb_157.size
              have KG_158 := Lib.hid (KG_132.out.up hb_157)
              have KSE_159 := Lib.hid (KSE_133.out.up hb_157)
              have KSF_160 := Lib.hid (KSF_134.out.up hb_157)
              have KR_161 := Blk.up KR_135 hb_157
              have KF_162 := Blk.up KF_136 hb_157
              have KE_163 := Blk.up KE_137 hb_157
              have KP_164 := Blk.up KP_138 hb_157
              have KB_165 := Lib.hid (Below.tr KB_139.out hb_157)
              clear hb_131 cE0_143 cE1_144 cE2_145 cE3_146 cE4_147 cE5_148 lE_149 cF0_150 cF1_151 cF2_152 cF3_153 cF4_154 cF5_155 lF_156 KG_132 KSE_133 KSF_134 KR_135 KF_136 KE_137 KP_138 KB_139
              cases ff : editFits f (gramLen xs) with
              | false =>
                have HX := Lib.hid (mrg_bad (xs := xs) (e := e) (f := f) (c := 2) (by simp [mrgCode, ff, HGG.out, HEO.out, HFO.out]) (by decide))
                clear ff
                have cR0_166 := Blk.cell (i := 0) (v := .slice none 0 0) KR_161 rfl
                have zR0_167 := Blk.frozen KR_161 0
                have lR_168 := Blk.lt KR_161
                go_wp2_with fail
                refine bodyPost_ret (v := .tuple #[.agg #[.slice none 0 0], .int .i64 2]) (by simp [results, Tryz.results30, go_sem, cR0_166]) rfl ⟨Below.setCell KB_165.out (show w.heap.size ≤ w.heap.size + 3 by omega) _, .slice none 0 0, by rw [HX.out.1]; exact World.ownsRow_nil _ _ _ _, by rw [HX.out.2]⟩
              | true =>
                have HFF := Lib.hid ff
                clear ff
                have HMC := Lib.hid (show mrgOut xs e f = (match mrgS xs e f with | some o => o | none => []) ∧ mrgCode xs e f = (match mrgS xs e f with | some _ => 0 | none => 3) by
                  unfold mrgOut mrgCode; rw [HGG.out, HEO.out, HFO.out, HSIE.out, HSIF.out, HFE.out, HFF.out]; exact ⟨rfl, rfl⟩)
                have hls : lens xs = some (lsOf xs) := by
                  obtain ⟨ls, h⟩ := (gram_lens HGG.out).2
                  simp [lsOf, h]
                have q2 : editG (editS xs (lsOf xs) (lastI (lsOf xs)) e) = applyOut xs e ∧ editC (editS xs (lsOf xs) (lastI (lsOf xs)) e) = applyCode xs e := by simp [applyOut, applyCode, HGG.out, HEO.out, HFE.out, applyS]
                have HQ2 := Lib.hid q2
                have HLS := Lib.hid hls
                clear q2 hls
                have hsz8 : w.heap.size + 4 ≤ w7.heap.size := Blk.lt KR_161
                have cP0_169 := Blk.cell (i := 0) (v := .slice AG xs.length cG) KP_164 rfl
                have lP_170 := Blk.lt KP_164
                have cE0_171 := Blk.cell (i := 0) (v := .int .i64 e.kind) KE_163 rfl
                have cE1_172 := Blk.cell (i := 1) (v := .int .i64 e.i) KE_163 rfl
                have cE2_173 := Blk.cell (i := 2) (v := .int .i64 e.j) KE_163 rfl
                have cE3_174 := Blk.cell (i := 3) (v := .int .i64 e.k) KE_163 rfl
                have cE4_175 := Blk.cell (i := 4) (v := .slice AE e.part.length cE) KE_163 rfl
                have cE5_176 := Blk.cell (i := 5) (v := .string e.map) KE_163 rfl
                have lE_177 := Blk.lt KE_163
                have cF0_178 := Blk.cell (i := 0) (v := .int .i64 f.kind) KF_162 rfl
                have cF1_179 := Blk.cell (i := 1) (v := .int .i64 f.i) KF_162 rfl
                have cF2_180 := Blk.cell (i := 2) (v := .int .i64 f.j) KF_162 rfl
                have cF3_181 := Blk.cell (i := 3) (v := .int .i64 f.k) KF_162 rfl
                have cF4_182 := Blk.cell (i := 4) (v := .slice AF f.part.length cF) KF_162 rfl
                have cF5_183 := Blk.cell (i := 5) (v := .string f.map) KF_162 rfl
                have lF_184 := Blk.lt KF_162
                go_wp2_with fail
                refine (edited_any _ (.slice AE e.part.length cE) xs (lsOf xs) e _ (KG_158.out.up (by repeat (first | exact Below.refl _ _ | (refine Below.alloc ?_ (by first | omega | (simp; done) | (simp; omega)) _) | (refine Below.setCell ?_ (by first | exact Nat.le_refl _ | (show _ ≤ _; omega) | (simp; done) | (simp; omega)) _) | refine below_drewN ?_ _ | refine Below.drew ?_))) (KSE_159.out.up (by repeat (first | exact Below.refl _ _ | (refine Below.alloc ?_ (by first | omega | (simp; done) | (simp; omega)) _) | (refine Below.setCell ?_ (by first | exact Nat.le_refl _ | (show _ ≤ _; omega) | (simp; done) | (simp; omega)) _) | refine below_drewN ?_ _ | refine Below.drew ?_))) HLS.out hn0 (kind_ok HEO.out).1 (kind_ok HEO.out).2.1 (tabB HT.out KB_165.out)).mono ?_
                rintro e w9 ⟨hb_185, v9, own9, rfl⟩
                have z_w9 : w7.heap.size ≤ w9.heap.size := hb_185.size
                have KG_186 := Lib.hid (KG_158.out.up hb_185)
                have KSE_187 := Lib.hid (KSE_159.out.up hb_185)
                have KSF_188 := Lib.hid (KSF_160.out.up hb_185)
                have KR_189 := Blk.up KR_161 hb_185
                have KF_190 := Blk.up KF_162 hb_185
                have KE_191 := Blk.up KE_163 hb_185
                have KP_192 := Blk.up KP_164 hb_185
                have KB_193 := Lib.hid (Below.tr KB_165.out hb_185)
                clear hb_157 cP0_169 lP_170 cE0_171 cE1_172 cE2_173 cE3_174 cE4_175 cE5_176 lE_177 cF0_178 cF1_179 cF2_180 cF3_181 cF4_182 cF5_183 lF_184 KG_158 KSE_159 KSF_160 KR_161 KF_162 KE_163 KP_164 KB_165
                rw [HQ2.out.1] at own9
                rw [HQ2.out.2]
                obtain ⟨AN, cN, rfl, _⟩ := own_nil own9
                have KO9 := Lib.hid own9
                clear own9
                rcases code_03 HGG.out HEO.out HFE.out with hc | hc
                · have HAC := Lib.hid hc
                  rw [hc]
                  clear hc
                  have hpa := pass_all HAC.out HSIE.out HSIF.out HFO.out HFF.out
                  have hpc : pasCode f e false = 0 := by unfold pasCode; rw [HEO.out, HFO.out, HSIE.out, HSIF.out, hpa]; rfl
                  have hpo : pasOut f e false = passE f e false := by unfold pasOut; rw [if_pos hpc]
                  have HPC := Lib.hid hpc
                  have HPO := Lib.hid hpo
                  clear hpa hpc hpo
                  have cE0_194 := Blk.cell (i := 0) (v := .int .i64 e.kind) KE_191 rfl
                  have cE1_195 := Blk.cell (i := 1) (v := .int .i64 e.i) KE_191 rfl
                  have cE2_196 := Blk.cell (i := 2) (v := .int .i64 e.j) KE_191 rfl
                  have cE3_197 := Blk.cell (i := 3) (v := .int .i64 e.k) KE_191 rfl
                  have cE4_198 := Blk.cell (i := 4) (v := .slice AE e.part.length cE) KE_191 rfl
                  have cE5_199 := Blk.cell (i := 5) (v := .string e.map) KE_191 rfl
                  have lE_200 := Blk.lt KE_191
                  have cF0_201 := Blk.cell (i := 0) (v := .int .i64 f.kind) KF_190 rfl
                  have cF1_202 := Blk.cell (i := 1) (v := .int .i64 f.i) KF_190 rfl
                  have cF2_203 := Blk.cell (i := 2) (v := .int .i64 f.j) KF_190 rfl
                  have cF3_204 := Blk.cell (i := 3) (v := .int .i64 f.k) KF_190 rfl
                  have cF4_205 := Blk.cell (i := 4) (v := .slice AF f.part.length cF) KF_190 rfl
                  have cF5_206 := Blk.cell (i := 5) (v := .string f.map) KF_190 rfl
                  have lF_207 := Blk.lt KF_190
                  go_wp2_with fail
                  refine (implPassEdit_any _ _ f e false _ ⟨_, rfl, KSF_188.out.up (by repeat (first | exact Below.refl _ _ | (refine Below.alloc ?_ (by first | omega | (simp; done) | (simp; omega)) _) | (refine Below.setCell ?_ (by first | exact Nat.le_refl _ | (show _ ≤ _; omega) | (simp; done) | (simp; omega)) _) | refine below_drewN ?_ _ | refine Below.drew ?_))⟩ ⟨_, rfl, KSE_187.out.up (by repeat (first | exact Below.refl _ _ | (refine Below.alloc ?_ (by first | omega | (simp; done) | (simp; omega)) _) | (refine Below.setCell ?_ (by first | exact Nat.le_refl _ | (show _ ≤ _; omega) | (simp; done) | (simp; omega)) _) | refine below_drewN ?_ _ | refine Below.drew ?_))⟩ hn2 hn hm2 hm).mono ?_
                  rintro e w10 ⟨hb_208, v10, rfl, own10⟩
                  have KN_209 : Blk w10 (w9.heap.size) #[.slice AN (applyOut xs e).length cN] 26 := by have := (Below.unalloc hb_208).2; simpa [Blk] using this
                  replace hb_208 := (Below.unalloc hb_208).1
                  have z_w10 : w9.heap.size ≤ w10.heap.size := hb_208.size
                  have KG_210 := Lib.hid (KG_186.out.up hb_208)
                  have KSE_211 := Lib.hid (KSE_187.out.up hb_208)
                  have KSF_212 := Lib.hid (KSF_188.out.up hb_208)
                  have KR_213 := Blk.up KR_189 hb_208
                  have KF_214 := Blk.up KF_190 hb_208
                  have KE_215 := Blk.up KE_191 hb_208
                  have KP_216 := Blk.up KP_192 hb_208
                  have KB_217 := Lib.hid (Below.tr KB_193.out hb_208)
                  have KO_218 := Lib.hid (OwnRules.below KO9.out hb_208)
                  clear hb_185 cE0_194 cE1_195 cE2_196 cE3_197 cE4_198 cE5_199 lE_200 cF0_201 cF1_202 cF2_203 cF3_204 cF4_205 cF5_206 lF_207 KG_186 KSE_187 KSF_188 KR_189 KF_190 KE_191 KP_192 KB_193 KO9
                  rw [HPC.out]
                  rw [HPO.out] at own10
                  have hsz10 : w9.heap.size + 1 ≤ w10.heap.size := Blk.lt KN_209
                  obtain ⟨es, hes⟩ : ∃ es, passE f e false = es := ⟨_, rfl⟩
                  have HRS := Lib.hid (show RestOk (applyOut xs e) es ∧ mrgF (applyOut xs e) es = mrgS xs e f by rw [← hes]; exact ⟨merge_rest HAC.out HSIE.out HSIF.out HFO.out HFF.out, by unfold mrgS; rw [if_pos HAC.out]⟩)
                  have hsm := (pass_small (e := f) (f := e) (first := false) HFO.out).2
                  rw [hes] at own10 hsm
                  have HSM := Lib.hid hsm
                  clear hes hsm
                  obtain ⟨A1, c1, rfl, hc1, hm1, _⟩ := OEds.sl own10
                  unfold maxLen at hm1
                  have HOE := Lib.hid (show OEds w10 (w9.heap.size + 1) w10.heap.size (.slice A1 es.length c1) es by simpa using own10)
                  clear own10
                  go_wp2_with fail
                  go_loopw [9, 73] (fun d i wx => ∃ (k : Nat) (A : Option Addr) (c : Nat) (now : List GRule) (q : Int), k ≤ es.length ∧ d = .int .i64 q ∧ i = .int .i64 k ∧ Hid (Blk wx w9.heap.size #[.slice A now.length c] 26) ∧ Hid (Blk wx (w.heap.size + 3) #[.slice none 0 0] 26) ∧ Hid (OwnRules wx (w.heap.size + 4) (.slice A now.length c) now) ∧ Hid (Below w.heap.size w wx) ∧ Hid (OEds wx (w9.heap.size + 1) w10.heap.size (.slice A1 es.length c1) es) ∧ Hid ((q = 0 ∧ gramOk now = true ∧ RestOk now (es.drop k) ∧ mrgF now (es.drop k) = mrgS xs e f) ∨ (q = 3 ∧ mrgS xs e f = none))) (fun _ i _ => es.length - (intOf i).toNat)
                  case atStart => exact ⟨0, AN, cN, applyOut xs e, 0, Nat.zero_le _, rfl, rfl, Lib.hid KN_209, Lib.hid KR_213, Lib.hid (ownsRow_more KO_218.out (by omega)), Lib.hid KB_217.out, HOE, Lib.hid (.inl ⟨rfl, applyOut_ok _ _, HRS.out.1, HRS.out.2⟩)⟩
                  case round =>
                    obtain ⟨k, A, c, now, q, hk, rfl, rfl, HN, HR, HO, HB, HP, HF⟩ := hrel
                    by_cases hlt : k < es.length
                    · obtain ⟨_, _, hAE, _, _, hrow⟩ := OEds.sl HP.out
                      injection hAE with hA1 hA2 hA3
                      subst hA1 hA3
                      obtain ⟨b, o, rfl, hbl, hcell⟩ := hrow.edit (fun _ h => h) hlt
                      obtain ⟨x, hx⟩ : ∃ x, es[k]? = some x := ⟨_, List.getElem?_eq_getElem hlt⟩
                      obtain ⟨vX, hec, hRX⟩ := hcell k x hx
                      have hsx := HSM.out x (List.mem_of_getElem? hx)
                      have hdr : es.drop k = x :: es.drop (k + 1) := by
                        rw [List.drop_eq_getElem_cons hlt]; rw [List.getElem?_eq_getElem hlt] at hx; injection hx with hx; rw [hx]
                      have HRR := Lib.hid hRX
                      obtain ⟨AX, cX, rfl, _⟩ := hRX
                      obtain ⟨x0, x1, x2, x3, x4, x5, xl⟩ := hec
                      have xN := HN.out.cell (i := 0) (v := .slice A now.length c) rfl
                      have lN := HN.out.lt
                      have lR2 := HR.out.lt
                      have hbz := HB.out.size
                      have hi : (k : Int) < (es.length : Int) := by omega
                      clear hcell hx
                      rcases HF.out with ⟨hq, hgo, hre, hmf⟩ | ⟨hq, hno⟩
                      · subst hq
                        rw [hdr] at hre hmf
                        obtain ⟨hxo, hxf, hnx⟩ := hre
                        have HMF := Lib.hid (show (if applyCode now x = 0 then mrgF (applyOut now x) (es.drop (k + 1)) else none) = mrgS xs e f from hmf)
                        have HNX := Lib.hid hnx
                        have hc03 := code_03 hgo hxo hxf
                        have ho4 := gram_len400 hgo
                        clear hxo hxf hgo hdr hnx hmf HF
                        go_wp2_with fail
                        refine (implApply_any _ _ now x _ (HO.out.sl.up (by repeat (first | exact Below.refl _ _ | (refine Below.alloc ?_ (by first | omega | (simp; done) | (simp; omega)) _) | (refine Below.setCell ?_ (by first | exact Nat.le_refl _ | (show _ ≤ _; omega) | (simp; done) | (simp; omega)) _) | refine below_drewN ?_ _ | refine Below.drew ?_))) ⟨_, rfl, HRR.out.up (by repeat (first | exact Below.refl _ _ | (refine Below.alloc ?_ (by first | omega | (simp; done) | (simp; omega)) _) | (refine Below.setCell ?_ (by first | exact Nat.le_refl _ | (show _ ≤ _; omega) | (simp; done) | (simp; omega)) _) | refine below_drewN ?_ _ | refine Below.drew ?_))⟩ (by omega) (by omega) (by have := hsx.2; omega) (tabB HT.out (by repeat (first | exact HB.out | (refine Below.alloc ?_ (by first | omega | (simp; done) | (simp; omega)) _) | (refine Below.setCell ?_ (by first | exact Nat.le_refl _ | (show _ ≤ _; omega) | (simp; done) | (simp; omega)) _) | refine below_drewN ?_ _ | refine Below.drew ?_)))).mono ?_
                        rintro r w4 ⟨hb4', v4, own4', rfl⟩
                        have hb4 := (Below.unalloc hb4').1
                        have own4 : OwnRules w4 wr.heap.size v4 (applyOut now x) := ownsRow_more own4' (by simp)
                        clear hb4' own4' x0 x1 x2 x3 x4 x5 xl xN
                        obtain ⟨A4, c4, rfl, _⟩ := own_nil own4
                        have HN4 := Lib.hid (HN.out.up hb4)
                        have HR4 := Lib.hid (HR.out.up hb4)
                        have HB4 := Lib.hid (Below.tr HB.out hb4)
                        have HP4 := Lib.hid (OEds.up HP.out hb4)
                        have HO4 := Lib.hid own4
                        have z4 := hb4.size
                        clear hb4 own4 HN HR HO HP
                        have xN := HN4.out.cell (i := 0) (v := .slice A now.length c) rfl
                        have fN := HN4.out.frozen 0
                        have lN4 := HN4.out.lt
                        have hrel : ((applyCode now x = 0 ∧ gramOk (applyOut now x) = true ∧ RestOk (applyOut now x) (es.drop (k + 1)) ∧ mrgF (applyOut now x) (es.drop (k + 1)) = mrgS xs e f) ∨ (applyCode now x = 3 ∧ mrgS xs e f = none)) := by
                          have h1 := HMF.out
                          rcases hc03 with hc | hc
                          · rw [if_pos hc] at h1
                            exact .inl ⟨hc, applyOut_ok _ _, HNX.out hc, h1⟩
                          · rw [if_neg (by omega)] at h1
                            exact .inr ⟨hc, h1.symm⟩
                        have HREL := Lib.hid hrel
                        clear hrel hc03
                        go_wp2_with fail
                        go_roundw
                        case rel =>
                          refine ⟨k + 1, A4, c4, applyOut now x, applyCode now x, by omega, rfl, by go_num, ?_, ?_, ?_, ?_, ?_, HREL⟩
                          · exact Lib.hid (HN4.out.set 0 _)
                          · exact Lib.hid (HR4.out.other (p := ⟨w9.heap.size, 0, none⟩) (by show w.heap.size + 3 ≠ w9.heap.size; omega) _)
                          · exact Lib.hid (ownsRow_more (ownsRow_setCell_below HO4.out (a := ⟨w9.heap.size, 0, none⟩) lN _) (by omega))
                          · exact Lib.hid (Below.setCell HB4.out (by show w.heap.size ≤ w9.heap.size; omega) _)
                          · exact Lib.hid (OEds.setOther HP4.out (a := ⟨w9.heap.size, 0, none⟩) (by show w9.heap.size < w9.heap.size + 1; omega))
                        case measure => simp [intOf]; omega
                      · subst hq
                        have HNO := Lib.hid hno
                        clear hno hdr HF
                        have bA := (Below.refl wr.heap.size wr).alloc (Nat.le_refl _) (Obj.cells #[.int .i64 x.kind, .int .i64 x.i, .int .i64 x.j, .int .i64 x.k, .slice AX x.part.length cX, .string x.map] 30)
                        have HN4 := Lib.hid (HN.out.up bA)
                        have HR4 := Lib.hid (HR.out.up bA)
                        have HB4 := Lib.hid (Below.tr HB.out bA)
                        have HP4 := Lib.hid (OEds.up HP.out bA)
                        have HO4 := Lib.hid (OwnRules.below HO.out bA)
                        clear bA
                        go_wp2_with fail
                        go_roundw
                        case rel => exact ⟨k + 1, A, c, now, 3, by omega, rfl, by go_num, HN4, HR4, HO4, HB4, HP4, Lib.hid (.inr ⟨rfl, HNO.out⟩)⟩
                        case measure => simp [intOf]; omega
                    · have hkn : k = es.length := by omega
                      subst hkn
                      have xN := HN.out.cell (i := 0) (v := .slice A now.length c) rfl
                      have lN := HN.out.lt
                      have xR := HR.out.cell (i := 0) (v := .slice none 0 0) rfl
                      have fR := HR.out.frozen 0
                      have lR2 := HR.out.lt
                      rcases HF.out with ⟨hq, hgo, hre, hmf⟩ | ⟨hq, hno⟩
                      · subst hq
                        have hss : mrgS xs e f = some now := by rw [List.drop_length] at hmf; exact hmf.symm
                        have HX := Lib.hid (show mrgOut xs e f = now ∧ mrgCode xs e f = 0 by rw [HMC.out.1, HMC.out.2, hss]; exact ⟨rfl, rfl⟩)
                        clear hss HF hmf hgo hre
                        go_wp2_with fail
                        refine bodyPost_ret (v := .tuple #[.agg #[.slice A now.length c], .int .i64 0]) (by simp [results, Tryz.results30, go_sem, xR]) rfl ⟨Below.setCell HB.out (by show w.heap.size ≤ w.heap.size + 3; omega) _, .slice A now.length c, ?_, by rw [HX.out.2]⟩
                        rw [HX.out.1]
                        exact ownsRow_more (ownsRow_setCell_below HO.out (a := ⟨w.heap.size + 3, 0, none⟩) (by show w.heap.size + 3 < w.heap.size + 4; omega) _) (by omega)
                      · subst hq
                        have HX := Lib.hid (mrg_bad (xs := xs) (e := e) (f := f) (c := 3) (by rw [HMC.out.2, hno]) (by decide))
                        clear hno HF
                        go_wp2_with fail
                        refine bodyPost_ret (v := .tuple #[.agg #[.slice none 0 0], .int .i64 3]) (by simp [results, Tryz.results30, go_sem, xR]) rfl ⟨Below.setCell HB.out (by show w.heap.size ≤ w.heap.size + 3; omega) _, .slice none 0 0, by rw [HX.out.1]; exact World.ownsRow_nil _ _ _ _, by rw [HX.out.2]⟩
                · have HX := Lib.hid (mrg_bad (xs := xs) (e := e) (f := f) (c := 3) (by rw [HMC.out.2]; unfold mrgS; rw [if_neg (by omega)]) (by decide))
                  rw [hc]
                  clear hc
                  have cR0_219 := Blk.cell (i := 0) (v := .slice none 0 0) KR_189 rfl
                  have zR0_220 := Blk.frozen KR_189 0
                  have lR_221 := Blk.lt KR_189
                  go_wp2_with fail
                  have xR : ((w9.setCell ⟨w.heap.size + 1 + 1 + 1, 0, none⟩ (.slice none 0 0)).alloc (Obj.cells #[.slice AN (applyOut xs e).length cN] 26)).cell? ⟨w.heap.size + 1 + 1 + 1, 0, none⟩ = some (.slice none 0 0) := ((Blk.set KR_189 0 (.slice none 0 0)).alloc _).cell rfl
                  refine bodyPost_ret (v := .tuple #[.agg #[.slice none 0 0], .int .i64 3]) (by simp [results, Tryz.results30, go_sem, xR]) rfl ⟨Below.alloc (Below.setCell KB_193.out (show w.heap.size ≤ w.heap.size + 3 by omega) _) (by have := Below.size KB_193.out; simp [World.setCell]; omega) _, .slice none 0 0, by rw [HX.out.1]; exact World.ownsRow_nil _ _ _ _, by rw [HX.out.2]⟩
end Go.Proofs.YtdacndamehiglaaGreatDoor
