import Derived.Test.YtfapnipmgmpgaaaGreatDoorM9
import Derived.Test.YtfapnipmgmpgaaaGreatDoorM6
import Derived.Test.YtfapnipmgmpgaaaGreatDoorM7
import Derived.Test.YtfapnipmgmpgaaaGreatDoorM5
import Derived.Test.YtfapnipmgmpgaaaGreatDoorM3
namespace Go.Proofs.YtfapnipmgmpgaaaGreatDoor
open Go.RowKit

def lsOf (xs : List GRule) : List Int := (lens xs).getD []
def applyS (xs : List GRule) (e : GEdit) : Option (List GRule) := editS xs (lsOf xs) (lastI (lsOf xs)) e
def applyOut (xs : List GRule) (e : GEdit) : List GRule := if gramOk xs && editOk e then if editFits e (gramLen xs) then editG (applyS xs e) else [] else []
def applyCode (xs : List GRule) (e : GEdit) : Int := if gramOk xs && editOk e then if editFits e (gramLen xs) then editC (applyS xs e) else 2 else 1
theorem kind_ok {e : GEdit} (h : editOk e = true) : kindOk e ∧ gramOk e.part = true ∧ inR e.kind 1 7 = true ∧ (2 ≤ e.kind → e.i ≤ e.j) := by
  obtain ⟨k, i, j, kk, part, map⟩ := e
  simp only [editOk, Bool.and_eq_true, inR, decide_eq_true_eq, Bool.not_eq_true', Bool.and_eq_false_iff, decide_eq_false_iff_not] at h
  obtain ⟨⟨⟨⟨⟨⟨⟨⟨h1, h1'⟩, h2⟩, h3⟩, h4⟩, h5⟩, h6⟩, h7⟩, h8⟩ := h
  refine ⟨?_, h7, by simp [inR]; omega, fun hk => ?_⟩
  · unfold kindOk chgOK
    rcases (by omega : k = 1 ∨ k = 2 ∨ k = 3 ∨ k = 4 ∨ k = 5 ∨ k = 6 ∨ k = 7) with rfl | rfl | rfl | rfl | rfl | rfl | rfl
    · exact .inl rfl
    · exact .inr (.inl rfl)
    · exact .inr (.inr (.inl rfl))
    · exact .inr (.inr (.inr (.inl rfl)))
    · exact .inr (.inr (.inr (.inr (.inl rfl))))
    · refine .inr (.inr (.inr (.inr (.inr (.inl ⟨rfl, ?_⟩)))))
      simpa [numOk, usesK, inR] using h4
    · refine .inr (.inr (.inr (.inr (.inr (.inr ⟨rfl, ?_⟩)))))
      have : map.size = 4 ∧ wordOk map = true := by simpa using h8
      exact ⟨this.2, this.1⟩
  · rcases h5 with h5 | h5
    · simp [usesJ] at h5; simp only at hk; omega
    · simp only; omega
set_option maxRecDepth 100000 in
set_option maxHeartbeats 4000000 in
theorem implApply_any (vG v : Value) (xs : List GRule) (e : GEdit) (w : World) (hG : Sl RuleE w w.heap.size vG xs) (hE : EditV w w.heap.size v e) (hn : xs.length ≤ 1048576) (hn2 : e.part.length ≤ 1048576) (hm : e.map.size ≤ maxLen) (htab : Lib.TabIs Tryz.prog w "math/bits.deBruijn64tab" .u8 deB64) :
    Calls Tryz.prog 14 #[.agg #[vG], v] w (GRes (applyOut xs e) (applyCode xs e) w) := by
  obtain ⟨vR, rfl, hR⟩ := hE
  have HG := Lib.hid hG
  have HR := Lib.hid hR
  have HT := Lib.hid htab
  obtain ⟨AG, cG, rfl, _⟩ := hG
  obtain ⟨AR, cR, rfl, _⟩ := hR
  clear htab
  go_enter Tryz.func14, Tryz.ntmps14
  go_wp2_with fail
  refine (LengthOf_any _ xs _ (HG.out.up (by repeat (first | exact Below.refl _ _ | (refine Below.alloc ?_ (by first | omega | (simp; done) | (simp; omega)) _) | (refine Below.setCell ?_ (by first | exact Nat.le_refl _ | (show _ ≤ _; omega) | (simp; done) | (simp; omega)) _) | refine below_drewN ?_ _ | refine Below.drew ?_))) (by omega)).mono ?_
  rintro e w1 ⟨rfl, hb_1⟩
  have KQ_2 : Blk w1 (w.heap.size + 1 + 1) #[.slice none 0 0] 31 := by have := (Below.unalloc hb_1).2; simpa [Blk] using this
  replace hb_1 := (Below.unalloc hb_1).1
  have KE_3 : Blk w1 (w.heap.size + 1) #[.int .i64 e.kind, .int .i64 e.i, .int .i64 e.j, .int .i64 e.k, .slice AR e.part.length cR, .string e.map] 36 := by have := (Below.unalloc hb_1).2; simpa [Blk] using this
  replace hb_1 := (Below.unalloc hb_1).1
  have KP_4 : Blk w1 (w.heap.size) #[.slice AG xs.length cG] 31 := by have := (Below.unalloc hb_1).2; simpa [Blk] using this
  replace hb_1 := (Below.unalloc hb_1).1
  have z_w1 : w.heap.size ≤ w1.heap.size := hb_1.size
  have KG_5 := Lib.hid (HG.out.up hb_1)
  have KR_6 := Lib.hid (HR.out.up hb_1)
  have KB_7 := Lib.hid hb_1
  clear HG HR
  have lz1 := Blk.lt KQ_2
  cases hg : gramOk xs with
  | false =>
    have q1 : lenC xs = 1 := by simp [lenC, hg]
    have q2 : applyOut xs e = [] ∧ applyCode xs e = 1 := by simp [applyOut, applyCode, hg]
    have HQ2 := Lib.hid q2
    clear q2 hg
    rw [q1]
    clear q1
    have cP0_8 := Blk.cell (i := 0) (v := .slice AG xs.length cG) KP_4 rfl
    have lP_9 := Blk.lt KP_4
    have cQ0_10 := Blk.cell (i := 0) (v := .slice none 0 0) KQ_2 rfl
    have zQ0_11 := Blk.frozen KQ_2 0
    have lQ_12 := Blk.lt KQ_2
    have cE0_13 := Blk.cell (i := 0) (v := .int .i64 e.kind) KE_3 rfl
    have cE1_14 := Blk.cell (i := 1) (v := .int .i64 e.i) KE_3 rfl
    have cE2_15 := Blk.cell (i := 2) (v := .int .i64 e.j) KE_3 rfl
    have cE3_16 := Blk.cell (i := 3) (v := .int .i64 e.k) KE_3 rfl
    have cE4_17 := Blk.cell (i := 4) (v := .slice AR e.part.length cR) KE_3 rfl
    have cE5_18 := Blk.cell (i := 5) (v := .string e.map) KE_3 rfl
    have lE_19 := Blk.lt KE_3
    go_wp2_with fail
    refine bodyPost_ret (v := .tuple #[.agg #[.slice none 0 0], .int .i64 1]) (by simp [results, Tryz.results14, go_sem, cQ0_10]) rfl ⟨Below.setCell KB_7.out (show w.heap.size ≤ w.heap.size + 2 by omega) _, .slice none 0 0, by rw [HQ2.out.1]; exact World.ownsRow_nil _ _ _ _, by rw [HQ2.out.2]⟩
  | true =>
    have q1 : lenC xs = 0 := by simp [lenC, hg]
    have q2 : lenV xs = gramLen xs := by simp [lenV, hg]
    rw [q1, q2]
    clear q1 q2
    have HGG := Lib.hid hg
    clear hg
    have cP0_20 := Blk.cell (i := 0) (v := .slice AG xs.length cG) KP_4 rfl
    have lP_21 := Blk.lt KP_4
    have cQ0_22 := Blk.cell (i := 0) (v := .slice none 0 0) KQ_2 rfl
    have zQ0_23 := Blk.frozen KQ_2 0
    have lQ_24 := Blk.lt KQ_2
    have cE0_25 := Blk.cell (i := 0) (v := .int .i64 e.kind) KE_3 rfl
    have cE1_26 := Blk.cell (i := 1) (v := .int .i64 e.i) KE_3 rfl
    have cE2_27 := Blk.cell (i := 2) (v := .int .i64 e.j) KE_3 rfl
    have cE3_28 := Blk.cell (i := 3) (v := .int .i64 e.k) KE_3 rfl
    have cE4_29 := Blk.cell (i := 4) (v := .slice AR e.part.length cR) KE_3 rfl
    have cE5_30 := Blk.cell (i := 5) (v := .string e.map) KE_3 rfl
    have lE_31 := Blk.lt KE_3
    go_wp2_with fail
    refine (implValidEdit_any _ e _ ⟨_, rfl, KR_6.out.up (by repeat (first | exact Below.refl _ _ | (refine Below.alloc ?_ (by first | omega | (simp; done) | (simp; omega)) _) | (refine Below.setCell ?_ (by first | exact Nat.le_refl _ | (show _ ≤ _; omega) | (simp; done) | (simp; omega)) _) | refine below_drewN ?_ _ | refine Below.drew ?_))⟩ (by omega) hm).mono ?_
    rintro e w2 ⟨rfl, hb_32⟩
    have z_w2 : w1.heap.size ≤ w2.heap.size := hb_32.size
    have KG_33 := Lib.hid (KG_5.out.up hb_32)
    have KR_34 := Lib.hid (KR_6.out.up hb_32)
    have KQ_35 := Blk.up KQ_2 hb_32
    have KE_36 := Blk.up KE_3 hb_32
    have KP_37 := Blk.up KP_4 hb_32
    have KB_38 := Lib.hid (Below.tr KB_7.out hb_32)
    clear hb_1 cP0_20 lP_21 cQ0_22 zQ0_23 lQ_24 cE0_25 cE1_26 cE2_27 cE3_28 cE4_29 cE5_30 lE_31 KG_5 KR_6 KQ_2 KE_3 KP_4 KB_7
    cases he : editOk e with
    | false =>
      have q2 : applyOut xs e = [] ∧ applyCode xs e = 1 := by simp [applyOut, applyCode, he]
      have HQ2 := Lib.hid q2
      clear q2 he
      have cP0_39 := Blk.cell (i := 0) (v := .slice AG xs.length cG) KP_37 rfl
      have lP_40 := Blk.lt KP_37
      have cQ0_41 := Blk.cell (i := 0) (v := .slice none 0 0) KQ_35 rfl
      have zQ0_42 := Blk.frozen KQ_35 0
      have lQ_43 := Blk.lt KQ_35
      have cE0_44 := Blk.cell (i := 0) (v := .int .i64 e.kind) KE_36 rfl
      have cE1_45 := Blk.cell (i := 1) (v := .int .i64 e.i) KE_36 rfl
      have cE2_46 := Blk.cell (i := 2) (v := .int .i64 e.j) KE_36 rfl
      have cE3_47 := Blk.cell (i := 3) (v := .int .i64 e.k) KE_36 rfl
      have cE4_48 := Blk.cell (i := 4) (v := .slice AR e.part.length cR) KE_36 rfl
      have cE5_49 := Blk.cell (i := 5) (v := .string e.map) KE_36 rfl
      have lE_50 := Blk.lt KE_36
      go_wp2_with fail
      refine bodyPost_ret (v := .tuple #[.agg #[.slice none 0 0], .int .i64 1]) (by simp [results, Tryz.results14, go_sem, cQ0_41]) rfl ⟨Below.setCell KB_38.out (show w.heap.size ≤ w.heap.size + 2 by omega) _, .slice none 0 0, by rw [HQ2.out.1]; exact World.ownsRow_nil _ _ _ _, by rw [HQ2.out.2]⟩
    | true =>
      have HE := Lib.hid (kind_ok he)
      have HE0 := Lib.hid he
      clear he
      have cP0_51 := Blk.cell (i := 0) (v := .slice AG xs.length cG) KP_37 rfl
      have lP_52 := Blk.lt KP_37
      have cQ0_53 := Blk.cell (i := 0) (v := .slice none 0 0) KQ_35 rfl
      have zQ0_54 := Blk.frozen KQ_35 0
      have lQ_55 := Blk.lt KQ_35
      have cE0_56 := Blk.cell (i := 0) (v := .int .i64 e.kind) KE_36 rfl
      have cE1_57 := Blk.cell (i := 1) (v := .int .i64 e.i) KE_36 rfl
      have cE2_58 := Blk.cell (i := 2) (v := .int .i64 e.j) KE_36 rfl
      have cE3_59 := Blk.cell (i := 3) (v := .int .i64 e.k) KE_36 rfl
      have cE4_60 := Blk.cell (i := 4) (v := .slice AR e.part.length cR) KE_36 rfl
      have cE5_61 := Blk.cell (i := 5) (v := .string e.map) KE_36 rfl
      have lE_62 := Blk.lt KE_36
      go_wp2_with fail
      refine (fits_any _ e (gramLen xs) _ ⟨_, rfl, KR_34.out.up (by repeat (first | exact Below.refl _ _ | (refine Below.alloc ?_ (by first | omega | (simp; done) | (simp; omega)) _) | (refine Below.setCell ?_ (by first | exact Nat.le_refl _ | (show _ ≤ _; omega) | (simp; done) | (simp; omega)) _) | refine below_drewN ?_ _ | refine Below.drew ?_))⟩ HE.out.2.2.1 HE.out.2.2.2).mono ?_
      rintro e w3 ⟨rfl, hb_63⟩
      have z_w3 : w2.heap.size ≤ w3.heap.size := hb_63.size
      have KG_64 := Lib.hid (KG_33.out.up hb_63)
      have KR_65 := Lib.hid (KR_34.out.up hb_63)
      have KQ_66 := Blk.up KQ_35 hb_63
      have KE_67 := Blk.up KE_36 hb_63
      have KP_68 := Blk.up KP_37 hb_63
      have KB_69 := Lib.hid (Below.tr KB_38.out hb_63)
      clear hb_32 cP0_51 lP_52 cQ0_53 zQ0_54 lQ_55 cE0_56 cE1_57 cE2_58 cE3_59 cE4_60 cE5_61 lE_62 KG_33 KR_34 KQ_35 KE_36 KP_37 KB_38
      cases hf : editFits e (gramLen xs) with
      | false =>
        have q2 : applyOut xs e = [] ∧ applyCode xs e = 2 := by simp [applyOut, applyCode, HGG.out, HE0.out, hf]
        have HQ2 := Lib.hid q2
        clear q2 hf
        have cP0_70 := Blk.cell (i := 0) (v := .slice AG xs.length cG) KP_68 rfl
        have lP_71 := Blk.lt KP_68
        have cQ0_72 := Blk.cell (i := 0) (v := .slice none 0 0) KQ_66 rfl
        have zQ0_73 := Blk.frozen KQ_66 0
        have lQ_74 := Blk.lt KQ_66
        have cE0_75 := Blk.cell (i := 0) (v := .int .i64 e.kind) KE_67 rfl
        have cE1_76 := Blk.cell (i := 1) (v := .int .i64 e.i) KE_67 rfl
        have cE2_77 := Blk.cell (i := 2) (v := .int .i64 e.j) KE_67 rfl
        have cE3_78 := Blk.cell (i := 3) (v := .int .i64 e.k) KE_67 rfl
        have cE4_79 := Blk.cell (i := 4) (v := .slice AR e.part.length cR) KE_67 rfl
        have cE5_80 := Blk.cell (i := 5) (v := .string e.map) KE_67 rfl
        have lE_81 := Blk.lt KE_67
        go_wp2_with fail
        refine bodyPost_ret (v := .tuple #[.agg #[.slice none 0 0], .int .i64 2]) (by simp [results, Tryz.results14, go_sem, cQ0_72]) rfl ⟨Below.setCell KB_69.out (show w.heap.size ≤ w.heap.size + 2 by omega) _, .slice none 0 0, by rw [HQ2.out.1]; exact World.ownsRow_nil _ _ _ _, by rw [HQ2.out.2]⟩
      | true =>
        have hls : lens xs = some (lsOf xs) := by
          obtain ⟨ls, h⟩ := (gram_lens HGG.out).2
          simp [lsOf, h]
        have q2 : applyOut xs e = editG (editS xs (lsOf xs) (lastI (lsOf xs)) e) ∧ applyCode xs e = editC (editS xs (lsOf xs) (lastI (lsOf xs)) e) := by simp [applyOut, applyCode, HGG.out, HE0.out, hf, applyS]
        have HQ2 := Lib.hid q2
        have HLS := Lib.hid hls
        clear q2 hf hls
        have cP0_82 := Blk.cell (i := 0) (v := .slice AG xs.length cG) KP_68 rfl
        have lP_83 := Blk.lt KP_68
        have cQ0_84 := Blk.cell (i := 0) (v := .slice none 0 0) KQ_66 rfl
        have zQ0_85 := Blk.frozen KQ_66 0
        have lQ_86 := Blk.lt KQ_66
        have cE0_87 := Blk.cell (i := 0) (v := .int .i64 e.kind) KE_67 rfl
        have cE1_88 := Blk.cell (i := 1) (v := .int .i64 e.i) KE_67 rfl
        have cE2_89 := Blk.cell (i := 2) (v := .int .i64 e.j) KE_67 rfl
        have cE3_90 := Blk.cell (i := 3) (v := .int .i64 e.k) KE_67 rfl
        have cE4_91 := Blk.cell (i := 4) (v := .slice AR e.part.length cR) KE_67 rfl
        have cE5_92 := Blk.cell (i := 5) (v := .string e.map) KE_67 rfl
        have lE_93 := Blk.lt KE_67
        go_wp2_with fail
        refine (edited_any _ (.slice AR e.part.length cR) xs (lsOf xs) e _ (KG_64.out.up (by repeat (first | exact Below.refl _ _ | (refine Below.alloc ?_ (by first | omega | (simp; done) | (simp; omega)) _) | (refine Below.setCell ?_ (by first | exact Nat.le_refl _ | (show _ ≤ _; omega) | (simp; done) | (simp; omega)) _) | refine below_drewN ?_ _ | refine Below.drew ?_))) (KR_65.out.up (by repeat (first | exact Below.refl _ _ | (refine Below.alloc ?_ (by first | omega | (simp; done) | (simp; omega)) _) | (refine Below.setCell ?_ (by first | exact Nat.le_refl _ | (show _ ≤ _; omega) | (simp; done) | (simp; omega)) _) | refine below_drewN ?_ _ | refine Below.drew ?_))) HLS.out hn HE.out.1 HE.out.2.1 (tabB HT.out KB_69.out)).mono ?_
        rintro e w4 ⟨hb_94, v4, own4, rfl⟩
        have z_w4 : w3.heap.size ≤ w4.heap.size := hb_94.size
        have KG_95 := Lib.hid (KG_64.out.up hb_94)
        have KR_96 := Lib.hid (KR_65.out.up hb_94)
        have KQ_97 := Blk.up KQ_66 hb_94
        have KE_98 := Blk.up KE_67 hb_94
        have KP_99 := Blk.up KP_68 hb_94
        have KB_100 := Lib.hid (Below.tr KB_69.out hb_94)
        clear hb_63 cP0_82 lP_83 cQ0_84 zQ0_85 lQ_86 cE0_87 cE1_88 cE2_89 cE3_90 cE4_91 cE5_92 lE_93 KG_64 KR_65 KQ_66 KE_67 KP_68 KB_69
        obtain ⟨A4, k4, rfl, _⟩ := own_nil own4
        have HO4 := Lib.hid own4
        clear own4
        have cQ0_101 := Blk.cell (i := 0) (v := .slice none 0 0) KQ_97 rfl
        have zQ0_102 := Blk.frozen KQ_97 0
        have lQ_103 := Blk.lt KQ_97
        go_wp2_with fail
        refine bodyPost_ret (v := .tuple #[.agg #[.slice A4 (editG (editS xs (lsOf xs) (lastI (lsOf xs)) e)).length k4], .int .i64 (editC (editS xs (lsOf xs) (lastI (lsOf xs)) e))]) (by simp [results, Tryz.results14, go_sem, cQ0_101]) rfl ⟨Below.setCell KB_100.out (show w.heap.size ≤ w.heap.size + 2 by omega) _, .slice A4 (editG (editS xs (lsOf xs) (lastI (lsOf xs)) e)).length k4, ?_, by rw [HQ2.out.2]⟩
        rw [HQ2.out.1]
        exact ownsRow_more (ownsRow_setCell_below HO4.out (a := ⟨w.heap.size + 2, 0, none⟩) (by show w.heap.size + 2 < _; omega) _) (by omega)
end Go.Proofs.YtfapnipmgmpgaaaGreatDoor

namespace Go.Proofs.YtfapnipmgmpgaaaGreatDoor
open Go.RowKit

def foundK (s : ByteArray) (c : UInt8) (k : Nat) : List Int := ((List.range k).filter (fun j => s.data.getD j 0 == c)).map fun (j : Nat) => (j : Int)
theorem foundK_succ (s : ByteArray) (c : UInt8) (k : Nat) : foundK s c (k + 1) = if s.data.getD k 0 = c then foundK s c k ++ [(k : Int)] else foundK s c k := by
  unfold foundK
  rw [List.range_succ, List.filter_append, List.map_append]
  by_cases h : s.data.getD k 0 = c
  · rw [if_pos h]; simp at h; simp [h]
  · rw [if_neg h]; simp at h; simp [h]
theorem foundK_len (s : ByteArray) (c : UInt8) (k : Nat) : (foundK s c k).length ≤ k := by
  unfold foundK
  rw [List.length_map]
  exact Nat.le_trans (List.length_filter_le _ _) (by simp)
theorem foundK_pos (s : ByteArray) (c : UInt8) : 0 < (foundK s c s.size).length ↔ hasC s c = true := by
  unfold foundK hasC
  rw [List.length_map, List.length_pos_iff_exists_mem, List.contains_iff_mem]
  constructor
  · rintro ⟨j, hj⟩
    obtain ⟨h1, h2⟩ := List.mem_filter.1 hj
    have h3 := List.mem_range.1 h1
    rw [getD_data h3] at h2
    have : s[j] = c := by simpa using h2
    rw [← this]
    exact List.mem_of_getElem? (toList_getElem? s j h3)
  · intro h
    obtain ⟨j, hj⟩ := List.mem_iff_getElem?.1 h
    have hlt : j < s.size := by have := (List.getElem?_eq_some_iff.1 hj).1; simpa using this
    refine ⟨j, List.mem_filter.2 ⟨List.mem_range.2 hlt, ?_⟩⟩
    rw [toList_getElem? s j hlt] at hj
    rw [getD_data hlt]
    simpa using hj
theorem ext_one (s : ByteArray) (i : Nat) (h : i < s.size) : s.extract i (i + 1) = ⟨#[s.data.getD i 0]⟩ := by
  rw [getD_data h]
  apply ByteArray.ext
  apply Array.ext'
  show (s.extract i (i + 1)).data.toList = [s[i]]
  rw [Lib.extract_data, show i + 1 - i = 1 by omega]
  have h1 := toList_getElem? s i h
  have hl : i < s.data.toList.length := (List.getElem?_eq_some_iff.1 h1).1
  rw [List.drop_eq_getElem_cons hl]
  have h2 : s.data.toList[i] = s[i] := by
    have := List.getElem?_eq_getElem hl
    rw [h1] at this
    exact (Option.some.inj this).symm
  rw [h2]; rfl
set_option maxRecDepth 100000 in
set_option maxHeartbeats 1000000 in
theorem l01Found_any (s : ByteArray) (c : UInt8) (w : World) (hs : s.size ≤ 1048576) :
    Calls Tryz.prog 110 #[.string ⟨#[c]⟩, .string s] w fun e w' => ∃ v, e = .returned v ∧ OwnInts w' w.heap.size v (foundK s c s.size) ∧ Below w.heap.size w w' := by
  go_enter Tryz.func110, Tryz.ntmps110
  go_wp2_with fail
  go_loopw [5, 6] (fun out q wr => ∃ (i : Nat), i ≤ s.size ∧ q = .int .i64 (i : Int) ∧ Below w.heap.size w wr ∧ OwnInts wr w.heap.size out (foundK s c i)) (fun _ q _ => s.size - (intOf q).toNat)
  case atStart => exact ⟨0, by omega, rfl, (by repeat (first | exact Below.refl _ _ | (refine Below.alloc ?_ (by first | omega | (simp; done) | (simp; omega)) _) | (refine Below.setCell ?_ (by first | exact Nat.le_refl _ | (show _ ≤ _; omega) | (simp; done) | (simp; omega)) _) | refine below_drewN ?_ _ | refine Below.drew ?_)), OwnInts.empty (by simp) (by simp)⟩
  case round =>
    obtain ⟨i, hi, rfl, hb, hown⟩ := hrel
    have HB := Lib.hid hb
    have HO := Lib.hid hown
    have hsz : w.heap.size ≤ wr.heap.size := hb.size
    have hfl := foundK_len s c i
    clear hb
    by_cases hlt : i < s.size
    · have hE := ext_one s i hlt
      have HF := Lib.hid (foundK_succ s c i)
      by_cases hc : s.data.getD i 0 = c
      · have HC := Lib.hid hc
        rw [hc] at hE
        clear hc
        go_wp2_with (first
          | (at_builtin; go_must (refine push_ints rfl _ _ rfl rfl rfl (by simp) (by repeat (first | exact hown | apply OwnInts.alloc)) (by omega) (by first | omega | (simp; omega)) ?_)
             intro v' w1 hown1 hgrow hbw))
        go_roundw
        case rel => exact ⟨i + 1, by omega, by go_num, HB.out.trans hbw, by rw [HF.out, if_pos HC.out]; exact hown1⟩
        case measure => simp [intOf]; omega
      · have HC := Lib.hid hc
        have hne : ¬ (⟨#[s.data.getD i 0]⟩ : ByteArray) = ⟨#[c]⟩ := fun h => hc (by
          have h2 := congrArg ByteArray.data h
          simpa using h2)
        obtain ⟨d, hd⟩ : ∃ d, s.data.getD i 0 = d := ⟨_, rfl⟩
        rw [hd] at hne hE hc
        have hbq : (d == c) = false := by simpa using hc
        clear hd
        go_wp2_with fail
        go_roundw
        case rel => exact ⟨i + 1, by omega, by go_num, HB.out, by rw [HF.out, if_neg HC.out]; exact HO.out⟩
        case measure => simp [intOf]; omega
    · have hi2 : i = s.size := by omega
      subst hi2
      go_wp2_with fail
      go_ret
      exact ⟨_, rfl, HO.out, HB.out⟩
end Go.Proofs.YtfapnipmgmpgaaaGreatDoor

namespace Go.Proofs.YtfapnipmgmpgaaaGreatDoor
open Go.RowKit

theorem idx_at (s : ByteArray) {k : Nat} (hk : k < 4) (h : hasC s (ltr k) = true) : idxG s (ltr k) = (letsG s k).length := by
  have : k = 0 ∨ k = 1 ∨ k = 2 ∨ k = 3 := by omega
  have e01 : letR (ltr 0) ≠ letR (ltr 1) := by decide
  unfold idxG letsG
  rcases this with rfl | rfl | rfl | rfl <;> simp only [List.range_succ, List.range_zero, List.nil_append, List.cons_append, List.filter_cons, h] <;> (repeat' split) <;> first | rfl | decide | (simp_all; done)
/-- The places of the letters. -/
def TabI (s : ByteArray) (T : List Int) (k : Nat) : Prop := T.length = 4 ∧ ∀ j, j < k → hasC s (ltr j) = true → T.getD j 0 = (idxG s (ltr j) : Nat)
theorem TabI.next {s : ByteArray} {T : List Int} {k : Nat} (h : TabI s T k) (hn : ¬ hasC s (ltr k) = true) : TabI s T (k + 1) :=
  ⟨h.1, fun j hj hc => by
    rcases Nat.lt_succ_iff_lt_or_eq.1 hj with h1 | rfl
    · exact h.2 j h1 hc
    · exact absurd hc hn⟩
theorem TabI.put {s : ByteArray} {T : List Int} {k : Nat} (h : TabI s T k) (hk : k < 4) (hc : hasC s (ltr k) = true) : TabI s (T.set k ((letsG s k).length : Nat)) (k + 1) :=
  ⟨by rw [List.length_set]; exact h.1, fun j hj hcj => by
    rw [getD_set (by rw [h.1]; exact hk)]
    split
    · rename_i e; subst e; rw [idx_at s hk hc]
    · exact h.2 j (by omega) hcj⟩
theorem step_push_ruleW (W : World) {W' : World} {ops : Array Oper} {o : Oper} {a : Act} {K : Act → World → Prop} {Q : Exit → Act → World → Prop} {E : Prop} {t : ByteArray} {p q : Int} (hW : W' = W.alloc (.cells #[.string t, .int .i64 p, .int .i64 q] 123)) (hgd : o.guard = none) (s x : Operand)
    (ho : o.op = .call { callee := .builtin .append, args := #[s, x], argTypes := #[29, 29] }) {base : Nat} {v : Value} {l : List GRule}
    (hs : a.eval s = v) {N : Nat} (hx : a.eval x = .slice (some ⟨N, 0, none⟩) 1 1) (hN : N = W.heap.size) (hown : OwnRules W base v l) (hlen : l.length ≤ 1099511627775) (hbase : base ≤ W.heap.size)
    (h : ∀ v' w', OwnRules w' base v' (l ++ [⟨t, p, q⟩]) → (W.alloc (.cells #[.string t, .int .i64 p, .int .i64 q] 123)).grownBy w' v.ownBlock → Below base (W.alloc (.cells #[.string t, .int .i64 p, .int .i64 q] 123)) w' → K (a.put o.dst v') w') :
    if Region.wanted o (yielded ops a.tmps) = true then Oper.wp Tryz.prog o a W' K Q else E := by
  subst hW
  exact step_push_rule hgd s x ho hs hx hN hown hlen hbase h
theorem let_place {s : ByteArray} {T : List Int} (hw : wordOk s = true) (hT : TabI s T 4) {i : Nat} (h : i < s.size) : ∃ j : Nat, j < 4 ∧ ((s[i].toNat : Int) - 97) % 256 = (j : Int) ∧ IntKind.u8.wrap ((s[i].toNat : Int) - 97) = (j : Int) ∧ T.getD j 0 = ((idxG s (s.data.getD i 0) : Nat) : Int) := by
  obtain ⟨j, hj, e⟩ := let_ltr (letOk_at hw h)
  have hc := hasC_at h
  rw [getD_data h]
  rw [e] at hc ⊢
  have h1 : (((ltr j).toNat : Int) - 97) % 256 = (j : Int) := by
    rw [← ltr_nat hj]
    omega
  exact ⟨j, hj, h1, h1, hT.2 j hj hc⟩
set_option maxRecDepth 100000 in
set_option maxHeartbeats 4000000 in
theorem l02Plain_any (s : ByteArray) (w : World) (hs : wordOk s = true) :
    Calls Tryz.prog 70 #[.string s] w (GOwn (plainG s) w) := by
  have hsz : s.size ≤ 2000 := by unfold wordOk at hs; simp only [Bool.and_eq_true, decide_eq_true_eq] at hs; omega
  have HS := Lib.hid hs
  clear hs
  have hmk : ∀ W : World, (Instr.makeSlice 112 (.int .i64 4) (.int .i64 4)).run Tryz.prog W = .ok (.slice (some ⟨W.heap.size, 0, none⟩) 4 4) (W.alloc (.cells #[.int .i64 0, .int .i64 0, .int .i64 0, .int .i64 0] 2)) :=
    fun W => by
      have h := run_make_row' (P := Tryz.prog) 112 2 (.int .i64 0) 8 Tryz.underlying112 Tryz.infoI rfl .i64 .i64 4 (by omega) (by omega) W
      have e : madeCells #[Value.int .i64 0] 4 = #[.int .i64 0, .int .i64 0, .int .i64 0, .int .i64 0] := by
        have hr : Array.range 4 = #[0, 1, 2, 3] := by decide
        simp [madeCells, hr]
      rw [e] at h
      exact h
  go_enter Tryz.func70, Tryz.ntmps70
  go_wp2_with fail
  go_loopw [5, 6] (fun q u6 wr => ∃ (k : Nat) (vo : Value) (T : List Int), k ≤ 4 ∧ q = .int .i64 (k : Int) ∧ Below w.heap.size w wr ∧ Blk wr w.heap.size #[.slice none 0 0] 31 ∧ Boxed wr (w.heap.size + 1) 31 vo ∧ OwnRules wr (w.heap.size + 3) vo (letsG s k) ∧ Blk wr (w.heap.size + 2) ((T.map (Value.int .i64)).toArray) 2 ∧ TabI s T k) (fun q _ _ => 4 - (intOf q).toNat)
  case atStart =>
    refine ⟨0, .slice none 0 0, [0, 0, 0, 0], by omega, rfl, (by repeat (first | exact Below.refl _ _ | (refine Below.alloc ?_ (by first | omega | (simp; done) | (simp; omega)) _) | (refine Below.setCell ?_ (by first | exact Nat.le_refl _ | (show _ ≤ _; omega) | (simp; done) | (simp; omega)) _) | refine below_drewN ?_ _ | refine Below.drew ?_)), ?_, ?_, World.ownsRow_nil _ _ _ _, ?_, rfl, fun j hj => by omega⟩
    · repeat (first | (apply Blk.new'; simp; done) | apply Blk.alloc | apply Blk.drew)
    · show Blk _ _ #[.slice none 0 0] _
      repeat (first | (apply Blk.new'; simp; done) | apply Blk.alloc | apply Blk.drew)
    · show Blk _ _ #[.int .i64 0, .int .i64 0, .int .i64 0, .int .i64 0] _
      repeat (first | (apply Blk.new'; simp; done) | apply Blk.alloc | apply Blk.drew)
  case round =>
    obtain ⟨k, vo, T, hk, rfl, hb, h0, hbox, hown, hT, htab⟩ := hrel
    have HB := Lib.hid hb
    have H0 := Lib.hid h0
    have Hbox := Lib.hid hbox
    have Hown := Lib.hid hown
    have HT := Lib.hid hT
    have HTab := Lib.hid htab
    obtain ⟨Ao, co, rfl, _⟩ := own_nil hown
    clear hb h0 hbox hown hT htab
    by_cases hlt : k < 4
    · have hcv : (convert 139 9 (.slice (some ⟨wr.heap.size, 0, none⟩) 1 1)).run Tryz.prog (wr.alloc (.cells #[.int .u8 (97 + (k : Int))] 5)) = .ok (.string (letR (ltr k)).letter) (wr.alloc (.cells #[.int .u8 (97 + (k : Int))] 5)) := by
        have := convC wr _ rfl (ltr k)
        rw [← ltr_nat hlt, show ((97 + k : Nat) : Int) = 97 + (k : Int) by omega] at this
        exact this
      have HSu := Lib.hid (letsG_succ s k)
      have hTl := HTab.out.1
      have cT := HT.out.cell (i := k) (ints_cell (by omega))
      have fT := HT.out.frozen k
      have lT := HT.out.lt
      have cb := Hbox.out.cell
      have fb := Hbox.out.frozen
      have lb := Hbox.out.lt
      have hll := letsG_len s k
      go_wp2_with fail
      refine (l01Found_any s (ltr k) _ (by omega)).mono ?_
      rintro e w2 ⟨v2, rfl, own2, hb2⟩
      obtain ⟨A2, c2, rfl, _⟩ := OwnInts.sl own2
      obtain ⟨hb3, _⟩ := Below.unalloc hb2
      have z2 : wr.heap.size ≤ w2.heap.size := hb3.size
      have HB2 := Lib.hid (HB.out.trans (hb3.mono HB.out.size))
      have H02 := Lib.hid (H0.out.up hb3)
      have Hbox2 := Lib.hid (Boxed.up Hbox.out hb3 Hbox.out.lt)
      have Hown2 := Lib.hid (OwnRules.below Hown.out hb3)
      have HT2 := Lib.hid (HT.out.up hb3)
      have cT2 := HT2.out.cell (i := k) (ints_cell (by omega))
      have fT2 := HT2.out.frozen k
      have lT2 := HT2.out.lt
      have cb2 := Hbox2.out.cell
      have fb2 := Hbox2.out.frozen
      have lb2 := Hbox2.out.lt
      have hpos := foundK_pos s (ltr k)
      generalize (foundK s (ltr k) s.size).length = M at *
      clear hb2 own2 cT fT lT cb fb lb HB H0 Hbox Hown HT hb3
      by_cases hc : hasC s (ltr k) = true
      · have hM : 0 < M := hpos.2 hc
        have HC := Lib.hid hc
        clear hpos hc
        have KX : ∀ v, Boxed (w2.setCell ⟨w.heap.size + 2, k, none⟩ v) (w.heap.size + 1) 31 (.slice Ao (letsG s k).length co) := fun v => Blk.other Hbox2.out (by show w.heap.size + 1 ≠ w.heap.size + 2; omega) v
        have HKX := Lib.hid KX
        have HOX := Lib.hid (fun v => ownsRow_setCell_below Hown2.out (a := ⟨w.heap.size + 2, k, none⟩) (by show w.heap.size + 2 < w.heap.size + 3; omega) v)
        clear KX
        go_wp2_with (first
          | (at_builtin; refine list_push_rule (base := w.heap.size + 3) (t := ⟨#[ltr k]⟩) (p := 0) (q := 0) rfl _ _ rfl rfl rfl (by simp) (HOX.out _) (by omega) (by simp; omega) ?_; intro v3 w3 own3 hg3 hb3; have bx3 : Boxed w3 (w.heap.size + 1) 31 _ := Boxed.grown (HKX.out _) (by decide) (HOX.out _) hg3; obtain ⟨A3, c3, rfl, _⟩ := own_nil own3; have hcb3 := bx3.cell; have hfb3 := bx3.frozen; have hlb3 := bx3.lt))
        have hbz : Below (w.heap.size + 3) (w2.setCell ⟨w.heap.size + 2, k, none⟩ (.int .i64 ((letsG s k).length : Nat))) w3 := ((Below.refl _ _).alloc (by simp; omega) _).trans hb3
        have hby : Below w.heap.size w w3 := (HB2.out.setCell (by show w.heap.size ≤ w.heap.size + 2; omega) _).trans (hbz.mono (by omega))
        go_roundw
        case rel =>
          refine ⟨k + 1, _, T.set k ((letsG s k).length : Nat), by omega, by go_num, hby.setCell (by show w.heap.size ≤ w.heap.size + 1; omega) _, ((H02.out.other (by show w.heap.size ≠ w.heap.size + 2; omega) _).upB hbz (by omega)).other (by show w.heap.size ≠ w.heap.size + 1; omega) _, Boxed.set _ bx3, ?_, ?_, HTab.out.put hlt HC.out⟩
          · rw [HSu.out, if_pos HC.out]
            exact own_put bx3 own3 rfl (by simp)
          · rw [← ints_set]
            exact ((HT2.out.set k _).upB hbz (by omega)).other (by show w.heap.size + 2 ≠ w.heap.size + 1; omega) _
        case measure => simp [intOf]; omega
      · have hM : M = 0 := by
          rcases Nat.eq_zero_or_pos M with h | h
          · exact h
          · exact absurd (hpos.1 h) hc
        subst hM
        have HC := Lib.hid hc
        clear hpos hc
        go_wp2_with fail
        go_roundw
        case rel => exact ⟨k + 1, _, T, by omega, by go_num, HB2.out, H02.out, Hbox2.out, by rw [HSu.out, if_neg HC.out]; exact Hown2.out, HT2.out, HTab.out.next HC.out⟩
        case measure => simp [intOf]; omega
    · have hk4 : k = 4 := by omega
      subst hk4
      rw [show ((4 : Nat) : Int) = 4 from rfl]
      have hlen4 := letsG_len s 4
      obtain ⟨wo, rfl⟩ : ∃ wo : World, wo = wr := ⟨_, rfl⟩
      have hTl := HTab.out.1
      go_wp2_with fail
      go_loopw [7, 8] (fun q u8 wx => ∃ (i : Nat) (vo : Value), 1 ≤ i ∧ (i ≤ s.size ∨ i = 1) ∧ q = .int .i64 (i : Int) ∧ Below w.heap.size w wx ∧ Blk wx w.heap.size #[.slice none 0 0] 31 ∧ Boxed wx (w.heap.size + 1) 31 vo ∧
        OwnRules wx (w.heap.size + 3) vo (plainK s (i - 1)) ∧ Blk wx (w.heap.size + 2) ((T.map (Value.int .i64)).toArray) 2) (fun q _ _ => s.size + 1 - (intOf q).toNat)
      case atStart =>
        refine ⟨1, _, Nat.le_refl _, .inr rfl, rfl, HB.out, H0.out, Hbox.out, ?_, HT.out⟩
        rw [show 1 - 1 = 0 from rfl, plainK_zero]
        exact Hown.out
      case round =>
        obtain ⟨i, vo, hi1, hi2, rfl, hb, h0, hbox, hown, hT⟩ := hrel
        have HB2 := Lib.hid hb
        have HK0 := Lib.hid h0
        have HX := Lib.hid hbox
        have HO := Lib.hid hown
        have HT2 := Lib.hid hT
        have cb' := hbox.cell
        have fb' := hbox.frozen
        have lb' := hbox.lt
        have lT' := hT.lt
        have hlp := Lib.hid (plainK_len s (i - 1))
        obtain ⟨A2, c2, rfl, _⟩ := own_nil hown
        clear hb h0 hbox hown hT HB H0 Hbox Hown HT
        by_cases hlt2 : i < s.size
        · have HP := Lib.hid (plainK_succ s (i - 1))
          have HLn := Lib.hid (show (plainK s (i - 1)).length ≤ 1099511627775 by rw [hlp.out]; omega)
          have hpos : 0 < s.size := by omega
          have hpl1 : 1 ≤ (plainK s (i - 1)).length := by have := idxG_lt HS.out hpos; rw [hlp.out]; omega
          have hpl2 : (plainK s (i - 1)).length ≤ 4000 := by rw [hlp.out]; omega
          obtain ⟨j1, hj1, hn1, hw1, ht1⟩ := let_place HS.out HTab.out hlt2
          have hj1' : (j1 : Int) < 4 := by omega
          have cT1 := HT2.out.cell (i := j1) (ints_cell (by omega))
          obtain ⟨I, hI⟩ : ∃ I : Nat, I = idxG s (s.data.getD i 0) := ⟨_, rfl⟩
          rw [ht1, ← hI] at cT1
          obtain ⟨B, hB⟩ : ∃ B : Nat, (if i - 1 = 0 then (idxG s (s.data.getD 0 0) : Nat) else (letsG s 4).length + (i - 1) - 1) = B := ⟨_, rfl⟩
          have hBp : pairAt s (i - 1) = pairR (B : Int) (I : Int) := by
            unfold pairAt
            rw [show i - 1 + 1 = i by omega, ← hB, ← hI]
            split <;> rfl
          have HBp := Lib.hid hBp
          have HBq := Lib.hid hB
          clear hBp hB hI ht1
          go_upto_if 49 with fail
          go_cut [8] (fun u8 wx => u8 = .int .i64 (B : Int) ∧ wx = wr)
          case first =>
            by_cases h1i : i = 1
            · subst h1i
              obtain ⟨j0, hj0, hn0, hw0, ht0⟩ := let_place HS.out HTab.out hpos
              have cT0 := HT2.out.cell (i := j0) (ints_cell (by omega))
              rw [ht0] at cT0
              go_wp2_with fail
              go_meet
              exact ⟨by rw [← HBq.out, if_pos trivial, getD_data hpos]; rfl, rfl⟩
            · have hb1 : ((i : Int) == 1) = false := by rw [beq_eq_false_iff_ne]; omega
              go_wp2
              go_meet
              refine ⟨?_, rfl⟩
              rw [← HBq.out, if_neg (by omega), hlp.out]
              congr 1; omega
          case rest => 
            obtain ⟨rfl, rfl⟩ := hcut
            go_wp2_with fail
            go_region_law (refine step_push_ruleW wc.drew (base := w.heap.size + 3) (by rfl) (by rfl) _ _ (by rfl) (by rfl) (by first | rfl | simp) rfl HO.out.drew HLn.out (by show w.heap.size + 3 ≤ wc.heap.size; omega) ?_; intro v3 w3 own3 hg3 hb3; have bx3 : Boxed w3 (w.heap.size + 1) 31 _ := Boxed.grown (show Boxed wc.drew (w.heap.size + 1) 31 _ from HX.out) (by decide) HO.out.drew hg3; obtain ⟨A3, c3, rfl, _⟩ := own_nil own3; have hcb3 := bx3.cell; have hfb3 := bx3.frozen; have hlb3 := bx3.lt)
            all_goals
              have hbz : Below (w.heap.size + 3) wc w3 := (Below.drew (Below.refl _ _)).trans (((Below.refl _ _).alloc (by show w.heap.size + 3 ≤ wc.heap.size; omega) _).trans hb3)
              have HBZ := Lib.hid hbz
              have HO3 := Lib.hid own3
              have HX3 := Lib.hid bx3
              clear hbz own3 bx3 hb3 hg3
              go_wp2
              go_roundw
              case rel =>
                refine ⟨i + 1, _, by omega, .inl (by omega), by go_num, (HB2.out.trans (HBZ.out.mono (by omega))).setCell (by show w.heap.size ≤ w.heap.size + 1; omega) _, (HK0.out.upB HBZ.out (by omega)).other (by show w.heap.size ≠ w.heap.size + 1; omega) _, Boxed.set _ HX3.out, ?_, (HT2.out.upB HBZ.out (by omega)).other (by show w.heap.size + 2 ≠ w.heap.size + 1; omega) _⟩
                rw [show i + 1 - 1 = (i - 1) + 1 by omega, HP.out, HBp.out]
                exact own_put HX3.out HO3.out rfl (by simp)
              case measure => simp [intOf]; omega
        · have HE := Lib.hid (show plainK s (i - 1) = plainG s by rw [plainG]; congr 1; omega)
          have r1 := HK0.out.cell (i := 0) (v := .slice none 0 0) rfl
          have r2 := HK0.out.frozen 0
          have r3 := HK0.out.lt
          go_wp2
          rw [HE.out] at HO HX
          refine bodyPost_ret (v := .agg #[.slice A2 (plainG s).length c2]) (by simp [results, Tryz.results70, go_sem, r1, HE.out]) rfl ⟨HB2.out.setCell (by show w.heap.size ≤ w.heap.size; omega) _, _, ?_, rfl⟩
          exact ownsRow_more (ownsRow_setCell_below HO.out (a := ⟨w.heap.size, 0, none⟩) (by show w.heap.size < w.heap.size + 3; omega) _) (by omega)
end Go.Proofs.YtfapnipmgmpgaaaGreatDoor

namespace Go.Proofs.YtfapnipmgmpgaaaGreatDoor
open Go.RowKit

def usedK (xs : List GRule) (k i : Nat) : Bool := (xs.take i).any fun r => decide (r.letter = (letR (ltr k)).letter)
theorem usedK_succ {xs : List GRule} {k i : Nat} {r : GRule} (h : xs[i]? = some r) : usedK xs k (i + 1) = (usedK xs k i || decide (r.letter = (letR (ltr k)).letter)) := by
  unfold usedK
  rw [List.take_add_one, h, List.any_append]
  simp
theorem usedK_has {xs : List GRule} (hx : OkAll xs) (k : Nat) : usedK xs k xs.length = hasL xs k := by
  unfold usedK hasL
  rw [List.take_length, Bool.eq_iff_iff, List.any_eq_true, List.contains_iff_mem]
  constructor
  · rintro ⟨r, hr, he⟩
    have he2 : r.letter = (letR (ltr k)).letter := by simpa using he
    obtain ⟨i, hi⟩ := List.mem_iff_getElem?.1 hr
    have hp : r.pair = false := by
      unfold GRule.pair; rw [he2]; rfl
    obtain ⟨q1, q2, q3⟩ := okRule_let (hx i r hi) hp
    have : r = letR (ltr k) := by
      cases r
      simp only at he2 q2 q3
      simp [letR, he2, q2, q3]
    rw [← this]; exact hr
  · intro h
    exact ⟨_, h, by simp⟩
theorem okAll_smallL {xs : List GRule} (h : OkAll xs) : SmallL xs := by
  intro r hr
  obtain ⟨k, hk⟩ := List.mem_iff_getElem?.1 hr
  cases hp : r.pair with
  | true => have : r.letter.size = 0 := by simpa [GRule.pair] using hp
            omega
  | false => have := (okRule_let (h k r hk) hp).1
             omega
theorem stand_tailT {w2 W w3 : World} {M : Nat} {vs vo : Value} {T : List Int} {P : List GRule} {a : Array Value} {t : TypeId} {o : Obj} (hb : Below M w2 W) (hbox : Boxed W M 31 vo) (hown : OwnRules W (M + 2) vo P) (hi : OwnInts W (M + 2) vs T) (hst : Blk W (M + 1) a t)
    (hg : (W.alloc o).grownBy w3 vs.ownBlock) (hM : M + 2 ≤ W.heap.size) : Below M w2 w3 ∧ Boxed w3 M 31 vo ∧ OwnRules w3 (M + 2) vo P ∧ Blk w3 (M + 1) a t := by
  have hlt : ∀ k, vs.ownBlock = some k → M + 2 ≤ k := fun k hk => (World.ownsRow.lt hi k hk).1
  refine ⟨(hb.alloc (by omega) o).grown hg (by simp; omega) (fun k hk => by have := hlt k hk; omega), Boxed.kept (Boxed.alloc hbox o) hg (fun e => by have := hlt M e.symm; omega), keep_rules hown hi hg, ?_⟩
  exact (hg.block (M + 1) (by simp; omega) (fun e => by have := hlt (M + 1) e.symm; omega)).trans (hst.alloc o)
theorem raise_tail {x Z : Nat} {wr w2 w3 : World} {o : Obj} {v7 v3 vZ vG : Value} {G : List GRule} {t : TypeId} (hb : Below wr.heap.size wr w2) (hg : (w2.alloc o).grownBy w3 v7.ownBlock) (hor : v3.ownBlock = v7.ownBlock ∨ v3.ownBlock = some (w2.heap.size + 1))
    (hob : ∀ g, v7.ownBlock = some g → g < x ∨ Z < g) (hz : Blk wr Z #[vZ] t) (hs : SlS RuleE wr (fun b => x ≤ b ∧ b < Z) vG G) (hx : x ≤ Z) : Blk w3 Z #[vZ] t ∧ SlS RuleE w3 (fun b => x ≤ b ∧ b < Z) vG G ∧ ∀ g, v3.ownBlock = some g → g < x ∨ Z < g := by
  have hZ := hz.lt
  have h2 := hb.size
  have hne : ∀ b', x ≤ b' → b' ≤ Z → some b' ≠ v7.ownBlock := fun b' h1 h2 e => by rcases hob b' e.symm with h | h <;> omega
  refine ⟨(hg.block Z (by simp; omega) (hne Z hx (Nat.le_refl _))).trans ((hz.up hb).alloc _), hs.keep (fun b hb' => (hg.block b (by simp; omega) (hne b hb'.1 (by omega))).trans ((Below.heap_alloc _ _ _ (by omega)).trans (hb.block b (by omega)))), fun g hg' => ?_⟩
  rcases hor with h | h
  · exact hob g (h.symm.trans hg')
  · have h8 := Option.some.inj (h.symm.trans hg')
    right; omega
/-- One append to a row of the call's own: the row is the old one, or it is a new block. -/
theorem step_push_ruleN {W : World} {ops : Array Oper} {o : Oper} {a : Act} {K : Act → World → Prop} {Q : Exit → Act → World → Prop} {E : Prop} (hgd : o.guard = none) (s x : Operand)
    (ho : o.op = .call { callee := .builtin .append, args := #[s, x], argTypes := #[29, 29] }) {t : ByteArray} {p q : Int} {base : Nat} {v : Value} {l : List GRule}
    (hs : a.eval s = v) {N : Nat} (hx : a.eval x = .slice (some ⟨N, 0, none⟩) 1 1) (hN : N = W.heap.size) (hown : OwnRules W base v l) (hlen : l.length ≤ 1099511627775) (hbase : base ≤ W.heap.size)
    (h : ∀ v' w', OwnRules w' base v' (l ++ [⟨t, p, q⟩]) → (W.alloc (.cells #[.string t, .int .i64 p, .int .i64 q] 123)).grownBy w' v.ownBlock → (v'.ownBlock = v.ownBlock ∨ v'.ownBlock = some (W.heap.size + 1)) →
      Below base (W.alloc (.cells #[.string t, .int .i64 p, .int .i64 q] 123)) w' → K (a.put o.dst v') w') :
    if Region.wanted o (yielded ops a.tmps) = true then Oper.wp Tryz.prog o a (W.alloc (.cells #[.string t, .int .i64 p, .int .i64 q] 123)) K Q else E := by
  subst hN
  have hw : Region.wanted o (yielded ops a.tmps) = true := by simp [Region.wanted, hgd]
  rw [if_pos hw]
  obtain ⟨i0, hi0, hz0, hz1, hz2⟩ := info_parts Tryz.infoR
  have hsl : SlS RuleE (W.alloc (.cells #[.string t, .int .i64 p, .int .i64 q] 123)) (fun b => b = W.heap.size) (.slice (some ⟨W.heap.size, 0, none⟩) 1 1) [⟨t, p, q⟩] := ⟨_, 1, rfl, Nat.le_refl _, by simp [maxLen], fun _ => ⟨W.heap.size, 0, rfl, rfl, fun k r hk => ⟨r.cells, rfl, fun j u hu => by
    have hk0 : k = 0 := by
      have := (List.getElem?_eq_some_iff.1 hk).1
      simp at this; exact this
    subst hk0
    simp at hk
    subst hk
    have hc : (W.alloc (.cells #[.string t, .int .i64 p, .int .i64 q] 123)).cell? ⟨W.heap.size, j, none⟩ = (#[Value.string t, .int .i64 p, .int .i64 q] : Array Value)[j]? := cell_of_row _ _ _ _ 123 (0, 0) (heap_alloc_new W _)
    simp only [Nat.zero_mul, Nat.zero_add]
    rw [hc]
    simpa [GRule.cells] using hu⟩⟩⟩
  obtain ⟨A, c, e, hc, hm, hrow⟩ := hsl
  injection e with e1 e2 e3
  subst e1
  obtain ⟨v', w', hrun, h2, h3, _, h5⟩ := run_append_own_at (P := Tryz.prog) (W.alloc (.cells #[.string t, .int .i64 p, .int .i64 q] 123)) base 29 o.type 123 i0 _ 3 32 Tryz.underlying29 hi0 hz0 hz1 hz2 rfl (by decide) v _ _ (World.ownsRow.alloc hown _) ⟨W.heap.size, 0, none⟩ 1 1 (([⟨t, p, q⟩] : List GRule).flatMap GRule.cells)
    (cells_len _) (rules_cells hrow) (rules_one _) (by simp only [maxLen]; omega) (by omega) (by simp; omega)
  unfold Oper.wp execOp
  simp only [ho, resolve, invoke, builtin, Sem.run_bind, Sem.run_pure, Result.andThen_ok, List.map_toArray, List.map_cons, List.map_nil, hs, hx, hrun]
  refine h v' w' (by unfold OwnRules; simpa using h2) h3 ?_ ((Below.refl base _).grown h3 (by simp; omega) (fun k hk => (World.ownsRow.lt hown k hk).1))
  simpa using h5
set_option maxRecDepth 100000 in
set_option maxHeartbeats 8000000 in
theorem specMap_any (v vW : Value) (xs : List GRule) (ws : List ByteArray) (w : World) (h : Sl RuleE w w.heap.size v xs) (hW : Sl StrE w w.heap.size vW ws) (hsm : SmallL xs) (hx : gramOk xs = true) (hws : ∀ s ∈ ws, wordOk s = true) (hl4 : ws.length = 4) :
    Calls Tryz.prog 121 #[.agg #[v], vW] w (GRes (mapOut xs ws) (mapCode xs ws) w) := by
  have HS := Lib.hid h
  have HW := Lib.hid hW
  have HX := Lib.hid hx
  have HWS := Lib.hid hws
  have HL4 := Lib.hid hl4
  have hn4 : xs.length ≤ 400 := (gram_lens hx).1
  have hokx := Lib.hid (okAll_lens (gram_lens hx).2.choose_spec)
  have HSM := Lib.hid hsm
  obtain ⟨A, c, rfl, _⟩ := h
  obtain ⟨AW, cW, rfl, _⟩ := hW
  rw [hl4]
  clear hx hws hl4 hsm
  go_enter Tryz.func121, Tryz.ntmps121
  go_wp2_with fail
  refine (l02Ok_any w.heap.size 0 _ xs _ (by simp [go_sem]) (by simp; omega) (HS.out.up (by repeat (first | exact Below.refl _ _ | (refine Below.alloc ?_ (by first | omega | (simp; done) | (simp; omega)) _) | (refine Below.setCell ?_ (by first | exact Nat.le_refl _ | (show _ ≤ _; omega) | (simp; done) | (simp; omega)) _) | refine below_drewN ?_ _ | refine Below.drew ?_))) HSM.out).mono ?_
  rintro e w1 ⟨rfl, hb_1⟩
  have KQ_2 : Blk w1 (w.heap.size + 1) #[.slice none 0 0] 31 := by have := (Below.unalloc hb_1).2; simpa [Blk] using this
  replace hb_1 := (Below.unalloc hb_1).1
  have KP_3 : Blk w1 (w.heap.size) #[.slice A xs.length c] 31 := by have := (Below.unalloc hb_1).2; simpa [Blk] using this
  replace hb_1 := (Below.unalloc hb_1).1
  have z_w1 : w.heap.size ≤ w1.heap.size := hb_1.size
  have KB_4 := Lib.hid hb_1
  rw [HX.out]
  have HK0 := Lib.hid KP_3
  have HK1 := Lib.hid KQ_2
  have HB2 := Lib.hid KB_4.out
  have HW2 := Lib.hid (show Sl StrE w1 w1.heap.size (.slice AW 4 cW) ws by have := HW.out.up HB2.out; rw [HL4.out] at this; exact this)
  have HS2 := Lib.hid (HS.out.up HB2.out)
  go_wp2_with fail
  go_loopw [6] (fun q wr => ∃ k : Nat, k ≤ 4 ∧ q = .int .i64 (k : Int) ∧ wr = w1) (fun q _ => 4 - (intOf q).toNat)
  case atStart => exact ⟨0, by omega, rfl, rfl⟩
  case round =>
    obtain ⟨k, hk, rfl, rfl⟩ := hrel
    by_cases hlt : k < 4
    · obtain ⟨s, hs⟩ : ∃ s, ws[k]? = some s := ⟨_, List.getElem?_eq_getElem (by rw [HL4.out]; exact hlt)⟩
      obtain ⟨AW', cW', eW, _, _, hrow⟩ := HW2.out
      injection eW with eW1 eW2 eW3
      subst eW1
      obtain ⟨b, o, rfl, hbl, hcell⟩ := hrow.str (k := k) (by rw [HL4.out]; exact hlt)
      have hcw := hcell k s hs
      have hki : (k : Int) < 4 := by omega
      have HWk := Lib.hid (HWS.out s (List.mem_of_getElem? hs))
      clear hcell hrow hs eW2 eW3
      go_wp2_with fail
      refine (l01Ok_any s _ (by have h1 := HWk.out; unfold wordOk at h1; simp only [Bool.and_eq_true, decide_eq_true_eq] at h1; unfold maxLen; omega)).mono ?_
      rintro e w' ⟨rfl, rfl⟩
      rw [HWk.out]
      go_wp2_with fail
      go_roundw
      case rel => exact ⟨k + 1, by omega, by go_num, trivial⟩
      case measure => simp [intOf]; omega
    · have hk4 : k = 4 := by omega
      subst hk4
      rw [show ((4 : Nat) : Int) = 4 from rfl]
      obtain ⟨wo, rfl⟩ : ∃ wo : World, wo = wr := ⟨_, rfl⟩
      go_wp2_with fail
      obtain ⟨M, hM⟩ : ∃ M, M = wo.heap.size := ⟨_, rfl⟩
      have HM := Lib.hid hM
      rw [← hM]
      have hSt : Blk ((wo.alloc (Obj.cells #[Value.slice none 0 0] 31)).alloc (Obj.cells #[Value.int IntKind.i64 (-1), Value.int IntKind.i64 (-1), Value.int IntKind.i64 (-1), Value.int IntKind.i64 (-1)] 2)) (M + 1) #[Value.int IntKind.i64 (-1), Value.int IntKind.i64 (-1), Value.int IntKind.i64 (-1), Value.int IntKind.i64 (-1)] 2 := by
        rw [hM]; repeat (first | (apply Blk.new'; simp; done) | apply Blk.alloc | apply Blk.drew)
      have hOut : Blk ((wo.alloc (Obj.cells #[Value.slice none 0 0] 31)).alloc (Obj.cells #[Value.int IntKind.i64 (-1), Value.int IntKind.i64 (-1), Value.int IntKind.i64 (-1), Value.int IntKind.i64 (-1)] 2)) M #[.slice none 0 0] 31 := by
        rw [hM]; repeat (first | (apply Blk.new'; simp; done) | apply Blk.alloc | apply Blk.drew)
      have HSt := Lib.hid hSt
      have HOut := Lib.hid hOut
      have z20 : w.heap.size ≤ M := by rw [hM]; exact HB2.out.size
      have z21 : w.heap.size + 1 < M := by rw [hM]; exact HK1.out.lt
      clear hSt hOut hM KQ_2 KP_3 hb_1 z_w1 KB_4
      go_loopw [9, 10, 11, 12, 13, 14] (fun q _ _ _ _ _ wr => ∃ (k : Nat) (vo : Value), k ≤ 4 ∧ q = .int .i64 (k : Int) ∧ Below M wo wr ∧ Boxed wr M 31 vo ∧ OwnRules wr (M + 2) vo (baseG xs ws k).1 ∧ Blk wr (M + 1) (((baseG xs ws k).2.map (Value.int .i64)).toArray) 2) (fun q _ _ _ _ _ _ => 4 - (intOf q).toNat)
      case atStart =>
        refine ⟨0, _, by omega, rfl, ?_, HOut.out, World.ownsRow_nil _ _ _ _, HSt.out⟩
        rw [HM.out]; exact (by repeat (first | exact Below.refl _ _ | (refine Below.alloc ?_ (by first | omega | (simp; done) | (simp; omega)) _) | (refine Below.setCell ?_ (by first | exact Nat.le_refl _ | (show _ ≤ _; omega) | (simp; done) | (simp; omega)) _) | refine below_drewN ?_ _ | refine Below.drew ?_))
      case round =>
        obtain ⟨k, vo, hk, rfl, hb, hbox, hown, hst⟩ := hrel
        have hbase := base_ok xs ws HWS.out HL4.out k hk
        have hlen1 := hbase.len
        have hlen2 := hbase.l4
        have HBA := Lib.hid hbase
        have HBs := Lib.hid (baseG_succ xs ws k)
        clear hbase
        obtain ⟨O, S, hOS⟩ : ∃ O S, baseG xs ws k = (O, S) := ⟨_, _, rfl⟩
        rw [hOS] at hown hst hlen1 hlen2
        replace hown : OwnRules wr (M + 2) vo O := hown
        replace hst : Blk wr (M + 1) ((S.map (Value.int .i64)).toArray) 2 := hst
        replace hlen1 : O.length ≤ 2004 * k := hlen1
        replace hlen2 : S.length = 4 := hlen2
        have HOS := Lib.hid hOS
        have HB := Lib.hid hb
        have HX1 := Lib.hid hbox
        have HO := Lib.hid hown
        have HST := Lib.hid hst
        have HS4 := Lib.hid hlen2
        have c0 : wr.cell? ⟨w.heap.size, 0, none⟩ = some (.slice A xs.length c) := (HK0.out.upB hb (by omega)).cell rfl
        have lMw : M + 1 < wr.heap.size := hst.lt
        obtain ⟨Ao, co, rfl, _⟩ := own_nil hown
        clear hb hbox hown hst hOS hlen2
        by_cases hlt : k < 4
        · have hcv : ∀ W : World, (convert 139 9 (.slice (some ⟨W.heap.size, 0, none⟩) 1 1)).run Tryz.prog (W.alloc (.cells #[.int .u8 (97 + (k : Int))] 5)).drew = .ok (.string (letR (ltr k)).letter) (W.alloc (.cells #[.int .u8 (97 + (k : Int))] 5)).drew := fun W => by
            have := convC W.drew _ rfl (ltr k)
            rw [← ltr_nat hlt, show ((97 + k : Nat) : Int) = 97 + (k : Int) by omega] at this
            exact this
          obtain ⟨wq, rfl⟩ : ∃ wq : World, wq = wr := ⟨_, rfl⟩
          go_wp2_with fail
          go_loopw [10, 11] (fun u10 q wx => ∃ i : Nat, i ≤ xs.length ∧ q = .int .i64 (i : Int) ∧ u10 = .bool (usedK xs k i) ∧ Below wq.heap.size wq wx) (fun _ q _ => xs.length - (intOf q).toNat)
          case atStart => exact ⟨0, by omega, rfl, rfl, Below.refl _ _⟩
          case round =>
            obtain ⟨i, hi, rfl, rfl, hbx⟩ := hrel
            have HBX := Lib.hid hbx
            have c0' : wr.cell? ⟨w.heap.size, 0, none⟩ = some (.slice A xs.length c) := (hbx.cell (p := ⟨w.heap.size, 0, none⟩) (by show w.heap.size < wq.heap.size; omega)).trans c0
            have zq : wq.heap.size ≤ wr.heap.size := hbx.size
            by_cases hlt2 : i < xs.length
            · obtain ⟨AG, cG, eG, _, _, hrow⟩ := HS2.out
              injection eG with eG1 eG2 eG3
              subst eG1
              obtain ⟨b, o, rfl, hbl, hcell⟩ := hrow.rule hlt2
              obtain ⟨r, hr⟩ : ∃ r, xs[i]? = some r := ⟨_, List.getElem?_eq_getElem hlt2⟩
              obtain ⟨g0, g1, g2⟩ := hcell i r hr
              have hbl2 : b < M := by rw [HM.out]; exact hbl
              have hc0 := (hbx.cell (p := ⟨b, o + i * 3, none⟩) (by show b < wq.heap.size; omega)).trans ((HB.out.cell (p := ⟨b, o + i * 3, none⟩) hbl2).trans g0)
              have lbw : b < wr.heap.size := by omega
              have lP : w.heap.size < wr.heap.size := by omega
              have hs1 : IntKind.i64.wrap (97 + (k : Int)) = 97 + (k : Int) := IntWalk.i64_in _ (by omega)
              have hs2 : IntKind.u8.wrap (97 + (k : Int)) = 97 + (k : Int) := by rw [IntKind.wrap_u8]; omega
              have HU := Lib.hid (usedK_succ (k := k) hr)
              have hki : (i : Int) < (xs.length : Int) := by omega
              clear hcell hrow g0 g1 g2 hr eG2 eG3 hbx c0
              cases hu : usedK xs k i with
              | true =>
                rw [hu] at HU
                clear hu
                go_wp2_with fail
                go_region
                all_goals
                  go_wp2_with fail
                  go_roundw
                  case rel => exact ⟨i + 1, by omega, by go_num, by rw [HU.out]; rfl, Below.drew HBX.out⟩
                  case measure => simp [intOf]; omega
              | false =>
                rw [hu] at HU
                clear hu
                go_wp2_with fail
                by_cases hrl : r.letter = (letR (ltr k)).letter
                · have hdl : decide (r.letter = (letR (ltr k)).letter) = true := by simp [hrl]
                  rw [hdl] at HU
                  go_region
                  all_goals
                    go_wp2_with fail
                    go_roundw
                    case rel => exact ⟨i + 1, by omega, by go_num, by rw [HU.out]; rfl, Below.drew (HBX.out.alloc zq _)⟩
                    case measure => simp [intOf]; omega
                · have hdl : decide (r.letter = (letR (ltr k)).letter) = false := by simp [hrl]
                  have hdl2 : (r.letter.toList == (letR (ltr k)).letter.toList) = false := by
                    rw [beq_eq_false_iff_ne, ByteArray.toList_eq, ByteArray.toList_eq]
                    exact fun h => hrl (ByteArray.ext (Array.toList_inj.mp h))
                  rw [hdl] at HU
                  go_region
                  all_goals
                    go_wp2_with fail
                    go_roundw
                    case rel => exact ⟨i + 1, by omega, by go_num, by rw [HU.out]; rfl, Below.drew (HBX.out.alloc zq _)⟩
                    case measure => simp [intOf]; omega
            · have hik : i = xs.length := by omega
              subst hik
              rw [usedK_has hokx.out k]
              obtain ⟨ws3, rfl⟩ : ∃ ws3 : World, ws3 = wr := ⟨_, rfl⟩
              obtain ⟨s, hs⟩ : ∃ s, ws[k]? = some s := ⟨_, List.getElem?_eq_getElem (by rw [HL4.out]; exact hlt)⟩
              have hsg : ws.getD k ⟨#[]⟩ = s := by rw [List.getD_eq_getElem?_getD, hs]; rfl
              obtain ⟨AW', cW', eW, _, _, hrow⟩ := HW2.out
              injection eW with eW1 eW2 eW3
              subst eW1
              obtain ⟨b, o, rfl, hbl, hcell⟩ := hrow.str (k := k) (by rw [HL4.out]; exact hlt)
              have hbl2 : b < M := by rw [HM.out]; exact hbl
              have hcw : ws3.cell? ⟨b, o + k, none⟩ = some (.string s) := (hbx.cell (p := ⟨b, o + k, none⟩) (by show b < wq.heap.size; omega)).trans ((HB.out.cell (p := ⟨b, o + k, none⟩) hbl2).trans (hcell k s hs))
              have lbw : b < ws3.heap.size := by omega
              have hki : (k : Int) < 4 := by omega
              have HWk := Lib.hid (HWS.out s (List.mem_of_getElem? hs))
              have HSG := Lib.hid hsg
              have HXr := Lib.hid (Boxed.up HX1.out hbx HX1.out.lt)
              have HOr := Lib.hid (OwnRules.below HO.out hbx)
              have HSTr := Lib.hid (HST.out.up hbx)
              have HBr := Lib.hid (HB.out.trans (hbx.mono (by omega)))
              have lP : w.heap.size < ws3.heap.size := by omega
              clear hcell hrow hs hsg eW2 eW3 hbx HBX
              by_cases hcd : s.size ≠ 0 ∧ hasL xs k = true
              · have he1 : s.toList.isEmpty = false := by rw [isEmpty_size]; simp [hcd.1]
                have hL := hcd.2
                rw [hL]
                have HCD := Lib.hid hcd
                clear hcd
                have cX := HXr.out.cell
                have lX := HXr.out.lt
                go_wp2_with fail
                refine (l02Plain_any s _ HWk.out).mono ?_
                rintro e w4 ⟨hb4, v4, own4, rfl⟩
                have HXp := Lib.hid (Boxed.up HXr.out hb4 HXr.out.lt)
                have HOp := Lib.hid (OwnRules.below HOr.out hb4)
                have HSTp := Lib.hid (HSTr.out.up hb4)
                have HBp := Lib.hid (HBr.out.trans (hb4.mono (by omega)))
                have hsz : s.size ≤ 2000 := by have := HWk.out; unfold wordOk at this; simp only [Bool.and_eq_true, decide_eq_true_eq] at this; omega
                have hpl := plainG_len s
                have HP := Lib.hid (okAll_smallP (okAll_plainG HWk.out) (by omega))
                have hO8 : O.length ≤ 8016 := by omega
                obtain ⟨G, hG⟩ : ∃ G, plainG s = G := ⟨_, rfl⟩
                have HG := Lib.hid hG
                rw [hG] at hpl HP own4
                obtain ⟨A4, c4, rfl, _⟩ := own_nil own4
                have z4 : ws3.heap.size ≤ w4.heap.size := hb4.size
                have HG4 := Lib.hid (OwnRules.slS own4 (S := fun b => ws3.heap.size ≤ b ∧ b < w4.heap.size) fun g hg => World.ownsRow.lt own4 g hg)
                have cX4 := HXp.out.cell
                have lX4 := HXp.out.lt
                have hOB := Lib.hid (fun g (hg : (Value.slice Ao O.length co).ownBlock = some g) => (World.ownsRow.lt HOr.out g hg).2)
                clear hG hb4 own4 cX lX hcw
                go_wp2_with fail
                obtain ⟨Z, hZ⟩ : ∃ Z, Z = w4.heap.size := ⟨_, rfl⟩
                have hZc : Blk (w4.alloc (Obj.cells #[Value.slice A4 G.length c4] 31)) Z #[.slice A4 G.length c4] 31 := by rw [hZ]; exact Blk.new _ _ _
                have HZc := Lib.hid hZc
                have HZ := Lib.hid hZ
                rw [← hZ]
                rw [← hZ] at z4 lX4
                clear hZ hZc
                go_loopw [14] (fun q wx => ∃ (i : Nat) (vo : Value), i ≤ G.length ∧ q = .int .i64 (i : Int) ∧ Below M wo wx ∧ Boxed wx M 31 vo ∧ OwnRules wx (M + 2) vo (O ++ (G.take i).map (raiseR O.length)) ∧ Blk wx (M + 1) ((S.map (Value.int .i64)).toArray) 2 ∧
                  Blk wx Z #[.slice A4 G.length c4] 31 ∧ SlS RuleE wx (fun b => ws3.heap.size ≤ b ∧ b < Z) (.slice A4 G.length c4) G ∧ (∀ g, vo.ownBlock = some g → g < ws3.heap.size ∨ Z < g)) (fun q _ => G.length - (intOf q).toNat)
                case atStart =>
                  refine ⟨0, _, Nat.zero_le _, rfl, HBp.out.alloc (by rw [← HZ.out]; omega) _, Boxed.alloc HXp.out _, ?_, HSTp.out.alloc _, HZc.out, ?_, fun g hg => .inl (hOB.out g hg)⟩
                  · rw [List.take_zero, List.map_nil, List.append_nil]; exact HOp.out.alloc _
                  · rw [HZ.out]; exact HG4.out.keep ((Keep.of_below (B := w4.heap.size) ((Below.refl _ _).alloc (Nat.le_refl _) _)).mono fun _ hb => hb.2)
                case round =>
                  obtain ⟨i, vo, hi, rfl, hb, hbox, hown, hst, hzc, hsl, hob⟩ := hrel
                  obtain ⟨L, hL9⟩ : ∃ L, L = O ++ (G.take i).map (raiseR O.length) := ⟨_, rfl⟩
                  rw [← hL9] at hown
                  have hlk : L.length = O.length + i := by rw [hL9]; simp; omega
                  have HL9 := Lib.hid hL9
                  have HB7 := Lib.hid hb
                  have HX7 := Lib.hid hbox
                  have HO7 := Lib.hid hown
                  have HST7 := Lib.hid hst
                  have HZ7 := Lib.hid hzc
                  have HS7 := Lib.hid hsl
                  have HOB7 := Lib.hid hob
                  have cO := hbox.cell
                  have fO := hbox.frozen
                  have lO := hbox.lt
                  have cZ := hzc.cell (i := 0) (v := .slice A4 G.length c4) rfl
                  have lZ := hzc.lt
                  have l1 := hst.lt
                  obtain ⟨A7, c7, rfl, _⟩ := own_nil hown
                  have HLl := Lib.hid (show L.length ≤ 1099511627775 by omega)
                  have HLK := Lib.hid hlk
                  clear hb hbox hown hst hzc hob hL9 hlk
                  by_cases hlt3 : i < G.length
                  · obtain ⟨AZ, cZ', eZ, _, _, hrowZ⟩ := HS7.out
                    injection eZ with eZ1 eZ2 eZ3
                    subst eZ1
                    obtain ⟨b2, o2, rfl, hbl3, hcell⟩ := hrowZ.rule hlt3
                    obtain ⟨r, hr⟩ : ∃ r, G[i]? = some r := ⟨_, List.getElem?_eq_getElem hlt3⟩
                    obtain ⟨hg0, hg1, hg2⟩ := hcell i r hr
                    have lb2 : b2 < wr.heap.size := by omega
                    have hgi : (i : Int) < (G.length : Int) := by omega
                    have HPr := Lib.hid (HP.out r (List.mem_of_getElem? hr))
                    have hnx : O ++ (G.take (i + 1)).map (raiseR O.length) = L ++ [raiseR O.length r] := by rw [List.take_add_one, hr, List.map_append, ← List.append_assoc, ← HL9.out]; rfl
                    have HNX := Lib.hid hnx
                    clear hcell hrowZ hr hsl eZ2 eZ3 hnx
                    go_wp2_with fail
                    go_region_law (first
                      | (refine step_push_ruleN (base := M + 2) (v := .slice A7 L.length c7) (by rfl) _ _ (by rfl) (by rfl) (by first | rfl | simp) rfl (OwnRules.below HO7.out.drew hb2) HLl.out (by omega) ?_; intro v3 w3 own3 hg3 hor3 hb3; have bx3 : Boxed w3 M 31 _ := Boxed.grown (Boxed.up (Boxed.mk' HX7.out) hb2 lO) (by decide) (OwnRules.below HO7.out.drew hb2) hg3; obtain ⟨A3, c3, rfl, _⟩ := own_nil own3; have hcb3 := bx3.cell; have hfb3 := bx3.frozen)
                      | (go_simp; go_at_call 156; refine (l02Raised_any r O.length _ (by omega) HPr.out).mono ?_; rintro e w2 ⟨rfl, hb2⟩; have bx2 := Boxed.up (Boxed.mk' HX7.out) hb2 lO; have hcb2 := bx2.cell; have hfb2 := bx2.frozen; have hlb2 := bx2.lt; have z2 : wr.heap.size ≤ w2.heap.size := hb2.size))
                    all_goals
                      have h2 : Below wr.heap.size wr w2 := Below.undrew hb2
                      have hbz : Below (M + 2) wr w3 := (h2.mono (by omega)).trans (((Below.refl _ _).alloc (by omega) _).trans hb3)
                      obtain ⟨kZ, kS, kOB⟩ := raise_tail h2 hg3 hor3 HOB7.out HZ7.out HS7.out z4
                      have HBZ := Lib.hid hbz
                      have HO8 := Lib.hid own3
                      have HX8 := Lib.hid bx3
                      have HKZ := Lib.hid kZ
                      have HKS := Lib.hid kS
                      have HKO := Lib.hid kOB
                      clear hbz own3 bx3 hb2 hb3 hg3 hor3 h2 kZ kS kOB bx2
                      go_wp2_with fail
                      go_roundw
                      case rel =>
                        refine ⟨i + 1, .slice A3 (L.length + 1) c3, by omega, by go_num, (HB7.out.trans (HBZ.out.mono (by omega))).setCell (by show M ≤ M; omega) _, Boxed.set _ HX8.out, ?_, (HST7.out.upB HBZ.out (by omega)).other (by show M + 1 ≠ M; omega) _, HKZ.out.other (by show Z ≠ M; omega) _, HKS.out.keep fun b hb => Below.heap_setCell _ _ _ _ (by show b ≠ M; omega), fun g hg => HKO.out g (by rw [List.length_append]; exact hg)⟩
                        rw [HNX.out]
                        exact own_put HX8.out HO8.out rfl (by simp)
                      case measure => simp [intOf]; omega
                  · have hig : i = G.length := by omega
                    subst hig
                    have cS := HST7.out.cell (i := k) (v := .int .i64 (S.getD k 0)) (ints_cell (by rw [HS4.out]; exact hlt))
                    have fS := HST7.out.frozen k
                    have hO9 : L.length ≤ 12000 := by rw [HLK.out]; omega
                    have hHL : L = O ++ G.map (raiseR O.length) := by rw [HL9.out, List.take_length]
                    have HHL := Lib.hid hHL
                    clear hHL
                    go_wp2_with fail
                    go_roundw
                    case rel =>
                      have ebs : baseG xs ws (k + 1) = (L, S.set k ((L.length : Int) - 1)) := by
                        rw [HBs.out, baseStep, HSG.out, if_pos HCD.out, HOS.out, HG.out, HHL.out, List.length_append, List.length_map]
                      refine ⟨k + 1, _, by omega, by go_num, HB7.out.setCell (by show M ≤ M + 1; omega) _, Blk.other HX7.out (by show M ≠ M + 1; omega) _, ?_, ?_⟩
                      · rw [ebs]
                        exact ownsRow_setCell_below (a := ⟨M + 1, k, none⟩) HO7.out (by show M + 1 < M + 2; omega) _
                      · rw [ebs, ← ints_set]
                        exact HST7.out.set k _
                    case measure => simp [intOf]; omega
              · have e0 : ¬ ((ws.getD k ⟨#[]⟩).size ≠ 0 ∧ hasL xs k = true) := by rw [HSG.out]; exact hcd
                have E0 := Lib.hid e0
                cases hL : hasL xs k with
                | false =>
                  go_wp2_with fail
                  go_roundw
                  case rel => exact ⟨k + 1, _, by omega, by go_num, HBr.out, HXr.out, by rw [HBs.out, baseStep, if_neg E0.out, HOS.out]; exact HOr.out, by rw [HBs.out, baseStep, if_neg E0.out, HOS.out]; exact HSTr.out⟩
                  case measure => simp [intOf]; omega
                | true =>
                  have hs0 : s.size = 0 := by
                    rcases Nat.eq_zero_or_pos s.size with h | h
                    · exact h
                    · exact absurd ⟨by omega, hL⟩ hcd
                  have hse : s = ⟨#[]⟩ := ByteArray.ext (Array.eq_empty_of_size_eq_zero hs0)
                  have HSE := Lib.hid hse
                  rw [hse] at hcw
                  clear hse hs0
                  go_wp2_with fail
                  go_roundw
                  case rel => exact ⟨k + 1, _, by omega, by go_num, HBr.out, HXr.out, by rw [HBs.out, baseStep, if_neg E0.out, HOS.out]; exact HOr.out, by rw [HBs.out, baseStep, if_neg E0.out, HOS.out]; exact HSTr.out⟩
                  case measure => simp [intOf]; omega
        · have hk4 : k = 4 := by omega
          subst hk4
          obtain ⟨wq, rfl⟩ : ∃ wq : World, wq = wr := ⟨_, rfl⟩
          have HBO := Lib.hid (show (baseG xs ws 4).2 = S by rw [HOS.out])
          have HSK := Lib.hid (fun k hk => stand_ok xs ws HWS.out HL4.out hokx.out k hk)
          have HBl := Lib.hid (fun i hi => HBA.out.low i hi)
          rw [HOS.out] at HBl
          have hS0 := Lib.hid (show standG xs ws 0 = (O, []) by unfold standG; rw [HOS.out]; rfl)
          go_wp2_with fail
          go_loopw [15, 16, 17, 18, 19] (fun sv q _ _ _ wr => ∃ (k : Nat) (vo : Value), k ≤ xs.length ∧ q = .int .i64 (k : Int) ∧ Below M wo wr ∧ Boxed wr M 31 vo ∧ OwnRules wr (M + 2) vo (standG xs ws k).1 ∧ OwnInts wr (M + 2) sv (standG xs ws k).2 ∧ Blk wr (M + 1) ((S.map (Value.int .i64)).toArray) 2) (fun _ q _ _ _ _ => xs.length - (intOf q).toNat)
          case atStart =>
            refine ⟨0, _, Nat.zero_le _, rfl, HB.out.alloc (by omega) _, Boxed.alloc HX1.out _, ?_, ?_, HST.out.alloc _⟩
            · rw [hS0.out]; exact HO.out.alloc _
            · rw [hS0.out]; exact OwnInts.empty rfl (by omega)
          case round =>
            obtain ⟨k, vo, hk, rfl, hb, hbox, hown, hi, hst⟩ := hrel
            have hsk := HSK.out k hk
            have hlO := hsk.len
            have hlS := hsk.ls
            have hlow := hsk.low
            have HOK := Lib.hid hsk.ok
            have HNx := Lib.hid (fun r hr => standG_succ (xs := xs) (ws := ws) (k := k) (r := r) hr)
            rw [HBO.out] at HNx
            obtain ⟨P, T, hPT⟩ : ∃ P T, standG xs ws k = (P, T) := ⟨_, _, rfl⟩
            have HPT := Lib.hid hPT
            rw [hPT] at hown hi hlO hlS hlow HOK HNx
            replace hown : OwnRules wr (M + 2) vo P := hown
            replace hi : OwnInts wr (M + 2) u15 T := hi
            replace hlO : P.length ≤ 8016 + k := hlO
            replace hlS : T.length = k := hlS
            have HTl := Lib.hid hlS
            have HLow := Lib.hid hlow
            have HB5 := Lib.hid hb
            have HX5 := Lib.hid hbox
            have HO5 := Lib.hid hown
            have HI5 := Lib.hid hi
            have HST5 := Lib.hid hst
            have c05 : wr.cell? ⟨w.heap.size, 0, none⟩ = some (.slice A xs.length c) := (HK0.out.upB hb (by omega)).cell rfl
            have cb5 := hbox.cell
            have fb5 := hbox.frozen
            have lb5 := hbox.lt
            have l15 := hst.lt
            obtain ⟨A5, c5, rfl, _⟩ := own_nil hown
            obtain ⟨A7, c7, rfl, _⟩ := own_nil hi
            have HTl2 := Lib.hid (show T.length ≤ 1099511627775 by rw [hlS]; omega)
            have HPl2 := Lib.hid (show P.length ≤ 1099511627775 by omega)
            clear hb hbox hown hi hst hPT hsk hlow hlS c0
            by_cases hlt2 : k < xs.length
            · obtain ⟨AG, cG, eG, _, _, hrow⟩ := HS2.out
              injection eG with eG1 eG2 eG3
              subst eG1
              obtain ⟨b, o, rfl, hbl, hcell⟩ := hrow.rule hlt2
              obtain ⟨r, hr⟩ : ∃ r, xs[k]? = some r := ⟨_, List.getElem?_eq_getElem hlt2⟩
              obtain ⟨g0, g1, g2⟩ := hcell k r hr
              have hbl2 : b < M := by rw [HM.out]; exact hbl
              have hc0 := (HB5.out.cell (p := ⟨b, o + k * 3, none⟩) hbl2).trans g0
              have hc1 := (HB5.out.cell (p := ⟨b, o + k * 3 + 1, none⟩) hbl2).trans g1
              have hc2 := (HB5.out.cell (p := ⟨b, o + k * 3 + 2, none⟩) hbl2).trans g2
              have lbw : b < wr.heap.size := by omega
              have Hr := Lib.hid hr
              have hor := hokx.out k r hr
              have HN := Lib.hid (HNx.out r hr)
              have hki : (k : Int) < (xs.length : Int) := by omega
              clear hcell hrow g0 g1 g2 hr eG2 eG3 HNx
              cases hpr : r.pair with
              | false =>
                have he1 : r.letter.toList.isEmpty = false := by rw [isEmpty_size]; simpa [GRule.pair] using hpr
                have he2 : (!r.letter.toList.isEmpty) = true := by rw [he1]; rfl
                obtain ⟨q1, q2, q3⟩ := okRule_let hor hpr
                have hidx := letter_idx hor hpr
                have hpos : 0 < r.letter.size := by omega
                rw [getD_data hpos] at hidx
                obtain ⟨j, hj⟩ : ∃ j, j = r.letter[0].toNat - 97 := ⟨_, rfl⟩
                have hn1 : ((r.letter[0].toNat : Int) - 97) % 256 = (j : Int) := by omega
                have hw1 : IntKind.u8.wrap ((r.letter[0].toNat : Int) - 97) = (j : Int) := hn1
                have hj4 : (j : Int) < 4 := by omega
                have cS := Blk.cell (i := j) (v := .int .i64 (S.getD j 0)) HST5.out (ints_cell (by rw [HS4.out]; omega))
                obtain ⟨v, hv⟩ : ∃ v, S.getD j 0 = v := ⟨_, rfl⟩
                rw [hv] at cS
                have hst9 : standStep S (P, T) r = (P, T ++ [v]) := by
                  unfold standStep
                  rw [if_neg (by simp [hpr]), getD_data hpos, ← hj, hv]
                rw [hst9] at HN
                have Hq1 := Lib.hid q1
                have hs1 : (r.letter.size : Int) = 1 := by omega
                clear hst9 hv hor q1 q2 q3 hj hidx
                go_wp2_with (at_builtin; go_must (refine list_push_int (base := M + 2) (v := .slice A7 T.length c7) (l := T) rfl _ _ rfl rfl rfl (by simp) HI5.out HTl2.out (by omega) ?_); intro v3 w3 own3 hg3 hv3; obtain ⟨A3, c3, rfl, _⟩ := own_nil own3)
                obtain ⟨t1, t2, t3, t4⟩ := stand_tailT HB5.out HX5.out HO5.out HI5.out HST5.out hg3 (by omega)
                exact ⟨⟨k + 1, _, by omega, by go_num, t1, t2, by rw [HN.out]; exact t3, by rw [HN.out]; exact int_len own3, t4⟩, by simp [intOf]; omega⟩
              | true =>
                have he1 : r.letter.toList.isEmpty = true := by rw [isEmpty_size]; exact hpr
                have he2 : (!r.letter.toList.isEmpty) = false := by rw [he1]; rfl
                obtain ⟨q1, q2, q3, q4⟩ := okRule_at hor hpr
                obtain ⟨l1, hl1⟩ := Int.eq_ofNat_of_zero_le q1
                obtain ⟨l2, hl2⟩ := Int.eq_ofNat_of_zero_le q3
                have h1k : l1 < T.length := by rw [HTl.out]; omega
                have h2k : l2 < T.length := by rw [HTl.out]; omega
                obtain ⟨g, cap, e1, hgb, hgl, _, hgc⟩ := OwnInts.at_ HI5.out (j := l1) h1k
                injection e1 with e11 e12 e13
                subst e11
                have ca := hgc l1 h1k
                have cb' := hgc l2 h2k
                have hLa := HLow.out l1 (by rw [← HTl.out]; exact h1k)
                have hLb := HLow.out l2 (by rw [← HTl.out]; exact h2k)
                replace hLa : -1 ≤ T.getD l1 0 ∧ T.getD l1 0 < (P.length : Int) := hLa
                replace hLb : -1 ≤ T.getD l2 0 ∧ T.getD l2 0 < (P.length : Int) := hLb
                obtain ⟨a, ha⟩ : ∃ a, T.getD l1 0 = a := ⟨_, rfl⟩
                obtain ⟨bb, hbb⟩ : ∃ a, T.getD l2 0 = a := ⟨_, rfl⟩
                rw [ha] at ca hLa
                rw [hbb] at cb' hLb
                have hst9 : standStep S (P, T) r = if a < 0 then (P, T ++ [bb]) else if bb < 0 then (P, T ++ [a]) else (P ++ [pairR a bb], T ++ [(P.length : Int)]) := by
                  unfold standStep
                  rw [if_pos hpr, hl1, hl2, Int.toNat_natCast, Int.toNat_natCast, ha, hbb]
                rw [hst9] at HN
                rw [hl1] at hc1
                rw [hl2] at hc2
                have h1i : (l1 : Int) < (T.length : Int) := by omega
                have h2i : (l2 : Int) < (T.length : Int) := by omega
                clear hst9 hor q1 q2 q3 q4 hl1 hl2 ha hbb hgc e12 e13
                by_cases hA : a < 0
                · rw [if_pos hA] at HN
                  go_wp2_with (at_builtin; go_must (refine list_push_int (base := M + 2) (v := .slice (some ⟨g, 0, none⟩) T.length c7) (l := T) rfl _ _ rfl rfl rfl (by simp) HI5.out HTl2.out (by omega) ?_); intro v3 w3 own3 hg3 hv3; obtain ⟨A3, c3, rfl, _⟩ := own_nil own3)
                  obtain ⟨t1, t2, t3, t4⟩ := stand_tailT HB5.out HX5.out HO5.out HI5.out HST5.out hg3 (by omega)
                  exact ⟨⟨k + 1, _, by omega, by go_num, t1, t2, by rw [HN.out]; exact t3, by rw [HN.out]; exact int_len own3, t4⟩, by simp [intOf]; omega⟩
                · rw [if_neg hA] at HN
                  by_cases hB : bb < 0
                  · rw [if_pos hB] at HN
                    go_wp2_with (at_builtin; go_must (refine list_push_int (base := M + 2) (v := .slice (some ⟨g, 0, none⟩) T.length c7) (l := T) rfl _ _ rfl rfl rfl (by simp) HI5.out HTl2.out (by omega) ?_); intro v3 w3 own3 hg3 hv3; obtain ⟨A3, c3, rfl, _⟩ := own_nil own3)
                    obtain ⟨t1, t2, t3, t4⟩ := stand_tailT HB5.out HX5.out HO5.out HI5.out HST5.out hg3 (by omega)
                    exact ⟨⟨k + 1, _, by omega, by go_num, t1, t2, by rw [HN.out]; exact t3, by rw [HN.out]; exact int_len own3, t4⟩, by simp [intOf]; omega⟩
                  · rw [if_neg hB] at HN
                    have hp8 : P.length ≤ 8500 := by omega
                    go_wp2_with (first
                      | (at_builtin; refine list_push_rule (base := M + 2) (t := ⟨#[]⟩) (p := a) (q := bb) (v := .slice A5 P.length c5) (l := P) rfl _ _ rfl rfl rfl (by simp) HO5.out HPl2.out (by omega) ?_; intro v5 w5 own5 hg5 hb5; have own4 : OwnInts w5 (M + 2) (.slice (some ⟨g, 0, none⟩) T.length c7) T := keep_ints HI5.out HO5.out hg5; have bx5 : Boxed w5 M 31 _ := Boxed.grown HX5.out (by decide) HO5.out hg5; obtain ⟨A9, c9, rfl, _⟩ := own_nil own5; have cb9 := bx5.cell; have fb9 := bx5.frozen; have lb9 := bx5.lt; have lg9 := (World.ownsRow.lt own4 g rfl); have hbz : Below (M + 2) wr w5 := ((Below.refl _ _).alloc (by omega) _).trans hb5; have HO9 := Lib.hid own5; have HI9 := Lib.hid own4; have HX9 := Lib.hid bx5; have HBZ := Lib.hid hbz; clear own5 own4 hg5 hb5 hbz bx5)
                      | (at_builtin; go_must (refine list_push_int (base := M + 2) (v := .slice (some ⟨g, 0, none⟩) T.length c7) (l := T) rfl _ _ rfl rfl rfl (by simp) (ownsRow_setCell_below HI9.out (by show M < M + 2; omega) _) HTl2.out (by simp; omega) ?_); intro v3 w3 own3 hg3 hv3; obtain ⟨A3, c3, rfl, _⟩ := own_nil own3))
                    obtain ⟨t1, t2, t3, t4⟩ := stand_tailT (((HB5.out.trans (HBZ.out.mono (by omega))).setCell (by show M ≤ M; omega) _)) (Boxed.set _ HX9.out) (own_put HX9.out HO9.out rfl (by simp)) (ownsRow_setCell_below HI9.out (by show M < M + 2; omega) _) ((HST5.out.upB HBZ.out (by omega)).other (by show M + 1 ≠ M; omega) _) hg3 (by simp; omega)
                    refine ⟨⟨k + 1, _, by omega, by go_num, t1, t2, by rw [HN.out]; exact t3, ?_, t4⟩, by simp [intOf]; omega⟩
                    rw [HN.out]
                    have e8 : (P.length : Int) + 1 - 1 = (P.length : Int) := by omega
                    first
                      | exact int_len own3
                      | (rw [e8] at own3; exact int_len own3)
            · have hkn : k = xs.length := by omega
              subst hkn
              have HPM := Lib.hid (show mapP xs ws = (P, T) from HPT.out)
              have hmo : mapOut xs ws = if 400 < P.length then [] else if xs.length = 0 ∨ lastI T < 0 then [] else limOut (trimG (P.take ((lastI T).toNat + 1))) := by unfold mapOut; rw [HPM.out]
              have hmc : mapCode xs ws = if 400 < P.length then 3 else if xs.length = 0 ∨ lastI T < 0 then 0 else limCode (trimG (P.take ((lastI T).toNat + 1))) := by unfold mapCode; rw [HPM.out]
              have HMO := Lib.hid hmo
              have HMC := Lib.hid hmc
              have hKR := HK1.out.upB HB5.out z21
              have r1 := hKR.cell (i := 0) (v := .slice none 0 0) rfl
              have r2 := hKR.frozen 0
              have r3 := hKR.lt
              have HKR := Lib.hid hKR
              have HBw := Lib.hid (HB2.out.trans (HB5.out.mono (by omega)))
              clear hmo hmc hKR
              by_cases h400 : 400 < P.length
              · rw [if_pos h400] at HMO HMC
                go_wp2
                refine bodyPost_ret (v := .tuple #[.agg #[.slice none 0 0], .int .i64 3]) (by simp [results, Tryz.results121, go_sem, r1]) rfl ⟨HBw.out.setCell (by show w.heap.size ≤ w.heap.size + 1; omega) _, _, ?_, by rw [HMC.out]⟩
                rw [HMO.out]; exact World.ownsRow_nil _ _ _ _
              · rw [if_neg h400] at HMO HMC
                have hTx := HTl.out
                by_cases hx0 : xs.length = 0
                · rw [if_pos (.inl hx0)] at HMO HMC
                  have g0 : ((T.length : Int) == 0) = true := by rw [beq_iff_eq]; omega
                  have HX0 := Lib.hid hx0
                  clear hx0 hTx
                  go_wp2
                  refine bodyPost_ret (v := .tuple #[.agg #[.slice none 0 0], .int .i64 0]) (by simp [results, Tryz.results121, go_sem, r1]) rfl ⟨HBw.out.setCell (by show w.heap.size ≤ w.heap.size + 1; omega) _, _, ?_, by rw [HMC.out]⟩
                  rw [HMO.out]; exact World.ownsRow_nil _ _ _ _
                · have g0 : ((T.length : Int) == 0) = false := by rw [beq_eq_false_iff_ne]; omega
                  have hlq := HLow.out (xs.length - 1) (by omega)
                  replace hlq : -1 ≤ T.getD (xs.length - 1) 0 ∧ T.getD (xs.length - 1) 0 < (P.length : Int) := hlq
                  have hlT : lastI T = T.getD (xs.length - 1) 0 := by rw [lastI, hTx]
                  rw [← hlT] at hlq
                  obtain ⟨g, cap, e1, hgb, hgl, _, hgc⟩ := OwnInts.at_ HI5.out (j := T.length - 1) (by omega)
                  injection e1 with e11 e12 e13
                  subst e11
                  have cL := hgc (T.length - 1) (by omega)
                  obtain ⟨q, hq⟩ : ∃ q, lastI T = q := ⟨_, rfl⟩
                  have hq2 : T.getD (T.length - 1) 0 = q := hq
                  rw [hq2] at cL
                  rw [hq] at hlq HMO HMC
                  have hix : ((T.length : Int) - 1).toNat = T.length - 1 := by omega
                  have hi0 : 0 ≤ (T.length : Int) - 1 := by omega
                  have hi1 : (T.length : Int) - 1 < T.length := by omega
                  have hiw : IntKind.i64.wrap ((T.length : Int) - 1) = (T.length : Int) - 1 := IntWalk.i64_in _ (by omega)
                  clear hlT hTx hq hq2 hgc e12 e13
                  by_cases hq0 : q < 0
                  · rw [if_pos (.inr hq0)] at HMO HMC
                    go_wp2_with fail
                    refine bodyPost_ret (v := .tuple #[.agg #[.slice none 0 0], .int .i64 0]) (by simp [results, Tryz.results121, go_sem, r1]) rfl ⟨HBw.out.setCell (by show w.heap.size ≤ w.heap.size + 1; omega) _, _, ?_, by rw [HMC.out]⟩
                    rw [HMO.out]; exact World.ownsRow_nil _ _ _ _
                  · rw [if_neg (fun h => h.elim hx0 hq0)] at HMO HMC
                    obtain ⟨n, rfl⟩ := Int.eq_ofNat_of_zero_le (show 0 ≤ q by omega)
                    rw [Int.toNat_natCast] at HMO HMC
                    have hnP : n + 1 ≤ P.length := by omega
                    have hTrl : (trimG (P.take (n + 1))).length ≤ 8500 := by
                      have h1 := trimG_len (P.take (n + 1))
                      rw [List.length_take] at h1; omega
                    have HSmT := Lib.hid (show SmallL (trimG (P.take (n + 1))) from trimG_small (okAll_take HOK.out (n + 1)))
                    obtain ⟨Q9, hQ9⟩ : ∃ Q9, P.take (n + 1) = Q9 := ⟨_, rfl⟩
                    have HQl := Lib.hid (show Q9.length ≤ 4194304 by rw [← hQ9, List.length_take]; omega)
                    have HQok := Lib.hid (show OkAll (P.take (n + 1)) from okAll_take HOK.out (n + 1))
                    rw [hQ9] at HMO HMC HSmT HQok
                    have HSlq := Lib.hid (fun v => (sl_take (OwnRules.sl (show OwnRules (wr.setCell ⟨M, 0, none⟩ v) (M + 2) (.slice A5 P.length c5) P from ownsRow_setCell_below HO5.out (a := ⟨M, 0, none⟩) (by show M < M + 2; omega) v)) (m := n + 1) hnP))
                    rw [hQ9] at HSlq
                    have hcP : (P.length : Int) ≤ c5 := by omega
                    have htn : ((n : Int) + 1).toNat = n + 1 := by omega
                    have j1 : 0 ≤ (n : Int) + 1 := by omega
                    have j2 : (n : Int) + 1 ≤ (c5 : Int) := by omega
                    have j3 : IntKind.i64.wrap ((n : Int) + 1) = (n : Int) + 1 := IntWalk.i64_in _ (by omega)
                    clear hQ9 hq0 hlq
                    go_wp2_with fail
                    go_region
                    all_goals
                      go_wp2_with fail
                      refine (l02Trim_any M 0 (.slice A5 (n + 1) c5) Q9 _ (by simp [go_sem, cb5]) (by simp [World.drew]; omega) (SlS.dr (HSlq.out _)) HQl.out HQok.out).mono ?_
                      rintro e w6 ⟨hb6, v6, own6, rfl⟩
                      have hKR6 : Blk w6 (w.heap.size + 1) #[.slice none 0 0] 31 := by
                        refine Blk.up ?_ hb6
                        exact HKR.out.other (p := ⟨M, 0, none⟩) (by show w.heap.size + 1 ≠ M; omega) _
                      have hB6 : Below w.heap.size w w6 := by
                        refine Below.trans ?_ (hb6.mono (by simp [World.drew]; omega))
                        first
                          | exact (Below.setCell HBw.out (show w.heap.size ≤ (⟨M, 0, none⟩ : Addr).block from (by show w.heap.size ≤ M; omega)) _).drew
                          | exact Below.setCell (HBw.out.drew) (show w.heap.size ≤ (⟨M, 0, none⟩ : Addr).block from (by show w.heap.size ≤ M; omega)) _
                      have HB6 := Lib.hid hB6
                      obtain ⟨A6, c6, rfl, _⟩ := own_nil own6
                      clear hB6 r1 r2 r3 cb5 fb5 cL
                      go_wp2_with fail
                      refine (l02Told_any _ _ _ _ own6 HSmT.out).mono ?_
                      rintro e w7 ⟨hb7, v7, own7, rfl⟩
                      have hKR7 := hKR6.up hb7
                      have HB7 := Lib.hid (HB6.out.trans (hb7.mono HB6.out.size))
                      have s1 := hKR7.cell (i := 0) (v := .slice none 0 0) rfl
                      have s2 := hKR7.frozen 0
                      have s3 := hKR7.lt
                      obtain ⟨A7', c7', rfl, _⟩ := own_nil own7
                      have HO7 := Lib.hid own7
                      clear hb6 hb7 own6 own7
                      go_wp2_with fail
                      refine bodyPost_ret (v := .tuple #[.agg #[.slice A7' (limOut (trimG Q9)).length c7'], .int .i64 (limCode (trimG Q9))]) (by simp [results, Tryz.results121, go_sem, s1]) rfl ⟨HB7.out.setCell (by show w.heap.size ≤ w.heap.size + 1; omega) _, _, ?_, by rw [HMC.out]⟩
                      rw [HMO.out]
                      exact ownsRow_more (ownsRow_setCell_below HO7.out (a := ⟨w.heap.size + 1, 0, none⟩) (by simp [World.drew]; omega) _) (by simp [World.drew]; omega)
end Go.Proofs.YtfapnipmgmpgaaaGreatDoor

namespace Go.Proofs.YtfapnipmgmpgaaaGreatDoor
open Go.RowKit

theorem raiseR_letter (n : Nat) (r : GRule) : (raiseR n r).letter = r.letter := by unfold raiseR; split <;> rfl
theorem joinG_small {xs ys : List GRule} (h : SmallL xs) (h' : SmallL ys) : SmallL (joinG xs ys) := by
  unfold joinG
  split
  · exact h'
  split
  · exact h
  rename_i h0 h0'
  intro r hr
  rcases List.mem_append.1 hr with hr | hr
  · rcases List.mem_append.1 hr with hr | hr
    · exact h r hr
    · obtain ⟨a, ha, rfl⟩ := List.mem_map.1 hr
      rw [raiseR_letter]; exact h' a ha
  · rw [List.mem_singleton] at hr; subst hr; exact (by decide : (0 : Nat) ≤ 9223372036854775807)

set_option maxHeartbeats 1000000 in
theorem specJoin_any (v u : Value) (xs ys : List GRule) (w : World) (h : Sl RuleE w w.heap.size v xs) (h' : Sl RuleE w w.heap.size u ys) (hn : xs.length ≤ 1048576) (hn' : ys.length ≤ 1048576) (hs : SmallL xs) (hs' : SmallL ys) :
    Calls Tryz.prog 118 #[.agg #[v], .agg #[u]] w (GRes (joinOut xs ys) (joinCode xs ys) w) := by
  have h1 := fun o o' o'' => (h.below ((((Below.refl w.heap.size w).alloc (Nat.le_refl _) o).alloc (by simp) o').alloc (by first | omega | (simp; done) | (simp; omega)) o'')).le (B' := (((w.alloc o).alloc o').alloc o'').heap.size) (by simp; omega)
  have h2 := fun o o' o'' => (h'.below ((((Below.refl w.heap.size w).alloc (Nat.le_refl _) o).alloc (by simp) o').alloc (by first | omega | (simp; done) | (simp; omega)) o'')).le (B' := (((w.alloc o).alloc o').alloc o'').heap.size) (by simp; omega)
  have H1 := Lib.hid h1
  have H2 := Lib.hid h2
  have Hs := Lib.hid hs
  have Hs' := Lib.hid hs'
  clear h1 h2 hs hs'
  obtain ⟨A, c, rfl, hc, hm, hrow⟩ := h
  obtain ⟨A', c', rfl, hc', hm', hrow'⟩ := h'
  clear hm hm' hrow hrow'
  go_enter Tryz.func118, Tryz.ntmps118
  go_wp2_with fail
  refine (l02Ok_any _ _ _ _ _ (by simp [go_sem]) (by first | omega | (simp; done) | (simp; omega)) (H1.out _ _ _) Hs.out).mono ?_
  rintro e w1 ⟨rfl, hb1⟩
  obtain ⟨hc1, hf1⟩ := bcell hb1
  have hz1 : w.heap.size + 2 < w1.heap.size := by have := hb1.size; simp at this; omega
  have a1 : w1.cell? ⟨w.heap.size, 0, none⟩ = some (.slice A xs.length c) := by rw [hc1 _ _ (by first | omega | (simp; done) | (simp; omega))]; simp [go_sem]
  have b1 : w1.cell? ⟨w.heap.size + 1, 0, none⟩ = some (.slice A' ys.length c') := by rw [hc1 _ _ (by first | omega | (simp; done) | (simp; omega))]; simp [go_sem]
  have c1 : w1.cell? ⟨w.heap.size + 2, 0, none⟩ = some (.slice none 0 0) := by rw [hc1 _ _ (by first | omega | (simp; done) | (simp; omega))]; simp [go_sem]
  have f1 : w1.frozen? ⟨w.heap.size + 2, 0, none⟩ = false := by rw [hf1 _ _ (by first | omega | (simp; done) | (simp; omega))]; simp [go_sem]
  have S1 := Lib.hid ((H1.out (Obj.cells #[Value.slice A xs.length c] 31) (Obj.cells #[Value.slice A' ys.length c'] 31) (Obj.cells #[Value.slice none 0 0] 31)).up hb1)
  have T1 := Lib.hid ((H2.out (Obj.cells #[Value.slice A xs.length c] 31) (Obj.cells #[Value.slice A' ys.length c'] 31) (Obj.cells #[Value.slice none 0 0] 31)).up hb1)
  have B1 := Lib.hid ((((Below.refl w.heap.size w).alloc (Nat.le_refl _) (Obj.cells #[Value.slice A xs.length c] 31)).alloc (by simp) (Obj.cells #[Value.slice A' ys.length c'] 31)).alloc (by simp; omega) (Obj.cells #[Value.slice none 0 0] 31) |>.trans (hb1.mono (by simp; omega)))
  clear hc1 hf1 hb1
  by_cases hok : gramOk xs = true
  · have hok2 : (!gramOk xs) = false := by simp [hok]
    have Hok := Lib.hid hok
    clear hok
    go_wp2_with fail
    refine (l02Ok_any _ _ _ _ _ b1 (by omega) T1.out Hs'.out).mono ?_
    rintro e w2 ⟨rfl, hb2⟩
    have z2 : w1.heap.size ≤ w2.heap.size := hb2.size
    have hz2 : w.heap.size + 2 < w2.heap.size := by omega
    have a2 := cell_up a1 hb2 (by omega)
    have b2 := cell_up b1 hb2 (by omega)
    have c2 := cell_up c1 hb2 (by omega)
    have f2 : w2.frozen? ⟨w.heap.size + 2, 0, none⟩ = false := by rw [hb2.frozen hz1, f1]
    have S2 := Lib.hid (S1.out.up hb2)
    have T2 := Lib.hid (T1.out.up hb2)
    have B2 := Lib.hid (B1.out.trans (hb2.mono (by omega)))
    clear a1 b1 c1 f1 hb2
    by_cases hoky : gramOk ys = true
    · have hoky2 : (!gramOk ys) = false := by simp [hoky]
      have Hoky := Lib.hid hoky
      clear hoky
      go_wp2_with fail
      refine (l02Join_any _ _ _ _ _ _ _ _ _ a2 b2 (by omega) (by omega) S2.out T2.out hn hn' (gram_smallP Hoky.out)).mono ?_
      rintro e w3 ⟨hb3, v3, own3, rfl⟩
      have z3 : w2.heap.size ≤ w3.heap.size := hb3.size
      have hz3 : w.heap.size + 2 < w3.heap.size := by omega
      have c3 := cell_up c2 hb3 (by omega)
      have f3 : w3.frozen? ⟨w.heap.size + 2, 0, none⟩ = false := by rw [hb3.frozen hz2, f2]
      have B3 := Lib.hid (B2.out.trans (hb3.mono (by omega)))
      have O3 := Lib.hid own3
      clear a2 b2 c2 f2 hb3 own3
      go_wp2_with fail
      refine (l02Told_any _ _ _ _ O3.out (joinG_small Hs.out Hs'.out)).mono ?_
      rintro e w4 ⟨hb4, v4, own4, rfl⟩
      obtain ⟨A4, k4, rfl, _⟩ := own_nil own4
      have c4 := cell_up c3 hb4 (by omega)
      have f4 : w4.frozen? ⟨w.heap.size + 2, 0, none⟩ = false := by rw [hb4.frozen hz3, f3]
      have B4 := Lib.hid (B3.out.trans (hb4.mono (by omega)))
      have O4 := Lib.hid own4
      clear c3 f3 hb4 own4
      have e1 : joinOut xs ys = limOut (joinG xs ys) := by rw [joinOut, Hok.out, Hoky.out]; rfl
      have e2 : joinCode xs ys = limCode (joinG xs ys) := by rw [joinCode, Hok.out, Hoky.out]; rfl
      have E1 := Lib.hid e1
      have E2 := Lib.hid e2
      clear e1 e2
      go_wp2
      refine bodyPost_ret (v := .tuple #[.agg #[.slice A4 (limOut (joinG xs ys)).length k4], .int .i64 (limCode (joinG xs ys))]) (by simp [results, Tryz.results118, go_sem, c4]) rfl ⟨?_, _, ?_, by rw [E2.out]⟩
      · exact B4.out.setCell (by show w.heap.size ≤ w.heap.size + 2; omega) _
      · rw [E1.out]
        exact ownsRow_more (ownsRow_setCell_below O4.out (a := ⟨w.heap.size + 2, 0, none⟩) (by show w.heap.size + 2 < w2.heap.size; omega) _) (by omega)
    · have hoky2 : (!gramOk ys) = true := by simp [hoky]
      have Hoky := Lib.hid hoky
      clear hoky
      go_wp2
      refine bodyPost_ret (v := .tuple #[.agg #[.slice none 0 0], .int .i64 1]) (by simp [results, Tryz.results118, go_sem, c2]) rfl ⟨?_, _, ?_, by rw [joinCode, if_neg (by simp [Hoky.out])]⟩
      · exact B2.out.setCell (by show w.heap.size ≤ w.heap.size + 2; omega) _
      · rw [joinOut, if_neg (by simp [Hoky.out])]; exact World.ownsRow_nil _ _ _ _
  · have hok2 : (!gramOk xs) = true := by simp [hok]
    have Hok := Lib.hid hok
    clear hok
    go_wp2
    refine bodyPost_ret (v := .tuple #[.agg #[.slice none 0 0], .int .i64 1]) (by simp [results, Tryz.results118, go_sem, c1]) rfl ⟨?_, _, ?_, by rw [joinCode, if_neg (by simp [Hok.out])]⟩
    · exact B1.out.setCell (by show w.heap.size ≤ w.heap.size + 2; omega) _
    · rw [joinOut, if_neg (by simp [Hok.out])]; exact World.ownsRow_nil _ _ _ _
end Go.Proofs.YtfapnipmgmpgaaaGreatDoor

