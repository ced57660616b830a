import Derived.Test.YtbifijlenbibmaaGreatDoorM11
import Derived.Test.YtbifijlenbibmaaGreatDoorM8
import Derived.Test.YtbifijlenbibmaaGreatDoorM10
import Derived.Test.YtbifijlenbibmaaGreatDoorM2
import Derived.Test.YtbifijlenbibmaaGreatDoorM9
import Derived.WalkSmall
import Derived.Test.YtbifijlenbibmaaGreatDoorM7
namespace Go.Proofs.YtbifijlenbibmaaGreatDoor
open Go.RowKit

def lsOf (xs : List GRule) : List Int := (lens xs).getD []
def applyS (xs : List GRule) (e : GEdit) : Option (List GRule) := editS xs (lsOf xs) (lastI (lsOf xs)) e
def applyOut (xs : List GRule) (e : GEdit) : List GRule := if gramOk xs && editOk e then if editFits e (gramLen xs) then editG (applyS xs e) else [] else []
def applyCode (xs : List GRule) (e : GEdit) : Int := if gramOk xs && editOk e then if editFits e (gramLen xs) then editC (applyS xs e) else 2 else 1
theorem kind_ok {e : GEdit} (h : editOk e = true) : kindOk e ∧ gramOk e.part = true ∧ inR e.kind 1 7 = true ∧ (2 ≤ e.kind → e.i ≤ e.j) := by
  obtain ⟨k, i, j, kk, part, map⟩ := e
  simp only [editOk, Bool.and_eq_true, inR, decide_eq_true_eq, Bool.not_eq_true', Bool.and_eq_false_iff, decide_eq_false_iff_not] at h
  obtain ⟨⟨⟨⟨⟨⟨⟨⟨h1, h1'⟩, h2⟩, h3⟩, h4⟩, h5⟩, h6⟩, h7⟩, h8⟩ := h
  refine ⟨?_, h7, by simp [inR]; omega, fun hk => ?_⟩
  · unfold kindOk chgOK
    rcases (by omega : k = 1 ∨ k = 2 ∨ k = 3 ∨ k = 4 ∨ k = 5 ∨ k = 6 ∨ k = 7) with rfl | rfl | rfl | rfl | rfl | rfl | rfl
    · exact .inl rfl
    · exact .inr (.inl rfl)
    · exact .inr (.inr (.inl rfl))
    · exact .inr (.inr (.inr (.inl rfl)))
    · exact .inr (.inr (.inr (.inr (.inl rfl))))
    · refine .inr (.inr (.inr (.inr (.inr (.inl ⟨rfl, ?_⟩)))))
      simpa [numOk, usesK, inR] using h4
    · refine .inr (.inr (.inr (.inr (.inr (.inr ⟨rfl, ?_⟩)))))
      have : map.size = 4 ∧ wordOk map = true := by simpa using h8
      exact ⟨this.2, this.1⟩
  · rcases h5 with h5 | h5
    · simp [usesJ] at h5; simp only at hk; omega
    · simp only; omega
set_option maxRecDepth 100000 in
set_option maxHeartbeats 4000000 in
theorem implApply_any (vG v : Value) (xs : List GRule) (e : GEdit) (w : World) (hG : Sl RuleE w w.heap.size vG xs) (hE : EditV w w.heap.size v e) (hn : xs.length ≤ 1048576) (hn2 : e.part.length ≤ 1048576) (hm : e.map.size ≤ maxLen) (htab : Lib.TabIs Tryz.prog w "math/bits.deBruijn64tab" .u8 deB64) :
    Calls Tryz.prog 32 #[.agg #[vG], v] w (GRes (applyOut xs e) (applyCode xs e) w) := by
  obtain ⟨vR, rfl, hR⟩ := hE
  have HG := Lib.hid hG
  have HR := Lib.hid hR
  have HT := Lib.hid htab
  obtain ⟨AG, cG, rfl, _⟩ := hG
  obtain ⟨AR, cR, rfl, _⟩ := hR
  clear htab
  go_enter Tryz.func32, Tryz.ntmps32
  go_wp2_with fail
  refine (LengthOf_any _ xs _ (HG.out.up (by repeat (first | exact Below.refl _ _ | (refine Below.alloc ?_ (by first | omega | (simp; done) | (simp; omega)) _) | (refine Below.setCell ?_ (by first | exact Nat.le_refl _ | (show _ ≤ _; omega) | (simp; done) | (simp; omega)) _) | refine below_drewN ?_ _ | refine Below.drew ?_))) (by omega)).mono ?_
  rintro e w1 ⟨rfl, hb_1⟩
  have KQ_2 : Blk w1 (w.heap.size + 1 + 1) #[.slice none 0 0] 30 := by have := (Below.unalloc hb_1).2; simpa [Blk] using this
  replace hb_1 := (Below.unalloc hb_1).1
  have KE_3 : Blk w1 (w.heap.size + 1) #[.int .i64 e.kind, .int .i64 e.i, .int .i64 e.j, .int .i64 e.k, .slice AR e.part.length cR, .string e.map] 46 := by have := (Below.unalloc hb_1).2; simpa [Blk] using this
  replace hb_1 := (Below.unalloc hb_1).1
  have KP_4 : Blk w1 (w.heap.size) #[.slice AG xs.length cG] 30 := by have := (Below.unalloc hb_1).2; simpa [Blk] using this
  replace hb_1 := (Below.unalloc hb_1).1
  have z_w1 : w.heap.size ≤ w1.heap.size := hb_1.size
  have KG_5 := Lib.hid (HG.out.up hb_1)
  have KR_6 := Lib.hid (HR.out.up hb_1)
  have KB_7 := Lib.hid hb_1
  clear HG HR
  have lz1 := Blk.lt KQ_2
  cases hg : gramOk xs with
  | false =>
    have q1 : lenC xs = 1 := by simp [lenC, hg]
    have q2 : applyOut xs e = [] ∧ applyCode xs e = 1 := by simp [applyOut, applyCode, hg]
    have HQ2 := Lib.hid q2
    clear q2 hg
    rw [q1]
    clear q1
    have cP0_8 := Blk.cell (i := 0) (v := .slice AG xs.length cG) KP_4 rfl
    have lP_9 := Blk.lt KP_4
    have cQ0_10 := Blk.cell (i := 0) (v := .slice none 0 0) KQ_2 rfl
    have zQ0_11 := Blk.frozen KQ_2 0
    have lQ_12 := Blk.lt KQ_2
    have cE0_13 := Blk.cell (i := 0) (v := .int .i64 e.kind) KE_3 rfl
    have cE1_14 := Blk.cell (i := 1) (v := .int .i64 e.i) KE_3 rfl
    have cE2_15 := Blk.cell (i := 2) (v := .int .i64 e.j) KE_3 rfl
    have cE3_16 := Blk.cell (i := 3) (v := .int .i64 e.k) KE_3 rfl
    have cE4_17 := Blk.cell (i := 4) (v := .slice AR e.part.length cR) KE_3 rfl
    have cE5_18 := Blk.cell (i := 5) (v := .string e.map) KE_3 rfl
    have lE_19 := Blk.lt KE_3
    go_wp2_with fail
    refine bodyPost_ret (v := .tuple #[.agg #[.slice none 0 0], .int .i64 1]) (by simp [results, Tryz.results32, go_sem, cQ0_10]) rfl ⟨Below.setCell KB_7.out (show w.heap.size ≤ w.heap.size + 2 by omega) _, .slice none 0 0, by rw [HQ2.out.1]; exact World.ownsRow_nil _ _ _ _, by rw [HQ2.out.2]⟩
  | true =>
    have q1 : lenC xs = 0 := by simp [lenC, hg]
    have q2 : lenV xs = gramLen xs := by simp [lenV, hg]
    rw [q1, q2]
    clear q1 q2
    have HGG := Lib.hid hg
    clear hg
    have cP0_20 := Blk.cell (i := 0) (v := .slice AG xs.length cG) KP_4 rfl
    have lP_21 := Blk.lt KP_4
    have cQ0_22 := Blk.cell (i := 0) (v := .slice none 0 0) KQ_2 rfl
    have zQ0_23 := Blk.frozen KQ_2 0
    have lQ_24 := Blk.lt KQ_2
    have cE0_25 := Blk.cell (i := 0) (v := .int .i64 e.kind) KE_3 rfl
    have cE1_26 := Blk.cell (i := 1) (v := .int .i64 e.i) KE_3 rfl
    have cE2_27 := Blk.cell (i := 2) (v := .int .i64 e.j) KE_3 rfl
    have cE3_28 := Blk.cell (i := 3) (v := .int .i64 e.k) KE_3 rfl
    have cE4_29 := Blk.cell (i := 4) (v := .slice AR e.part.length cR) KE_3 rfl
    have cE5_30 := Blk.cell (i := 5) (v := .string e.map) KE_3 rfl
    have lE_31 := Blk.lt KE_3
    go_wp2_with fail
    refine (implValidEdit_any _ e _ ⟨_, rfl, KR_6.out.up (by repeat (first | exact Below.refl _ _ | (refine Below.alloc ?_ (by first | omega | (simp; done) | (simp; omega)) _) | (refine Below.setCell ?_ (by first | exact Nat.le_refl _ | (show _ ≤ _; omega) | (simp; done) | (simp; omega)) _) | refine below_drewN ?_ _ | refine Below.drew ?_))⟩ (by omega) hm).mono ?_
    rintro e w2 ⟨rfl, hb_32⟩
    have z_w2 : w1.heap.size ≤ w2.heap.size := hb_32.size
    have KG_33 := Lib.hid (KG_5.out.up hb_32)
    have KR_34 := Lib.hid (KR_6.out.up hb_32)
    have KQ_35 := Blk.up KQ_2 hb_32
    have KE_36 := Blk.up KE_3 hb_32
    have KP_37 := Blk.up KP_4 hb_32
    have KB_38 := Lib.hid (Below.tr KB_7.out hb_32)
    clear hb_1 cP0_20 lP_21 cQ0_22 zQ0_23 lQ_24 cE0_25 cE1_26 cE2_27 cE3_28 cE4_29 cE5_30 lE_31 KG_5 KR_6 KQ_2 KE_3 KP_4 KB_7
    cases he : editOk e with
    | false =>
      have q2 : applyOut xs e = [] ∧ applyCode xs e = 1 := by simp [applyOut, applyCode, he]
      have HQ2 := Lib.hid q2
      clear q2 he
      have cP0_39 := Blk.cell (i := 0) (v := .slice AG xs.length cG) KP_37 rfl
      have lP_40 := Blk.lt KP_37
      have cQ0_41 := Blk.cell (i := 0) (v := .slice none 0 0) KQ_35 rfl
      have zQ0_42 := Blk.frozen KQ_35 0
      have lQ_43 := Blk.lt KQ_35
      have cE0_44 := Blk.cell (i := 0) (v := .int .i64 e.kind) KE_36 rfl
      have cE1_45 := Blk.cell (i := 1) (v := .int .i64 e.i) KE_36 rfl
      have cE2_46 := Blk.cell (i := 2) (v := .int .i64 e.j) KE_36 rfl
      have cE3_47 := Blk.cell (i := 3) (v := .int .i64 e.k) KE_36 rfl
      have cE4_48 := Blk.cell (i := 4) (v := .slice AR e.part.length cR) KE_36 rfl
      have cE5_49 := Blk.cell (i := 5) (v := .string e.map) KE_36 rfl
      have lE_50 := Blk.lt KE_36
      go_wp2_with fail
      refine bodyPost_ret (v := .tuple #[.agg #[.slice none 0 0], .int .i64 1]) (by simp [results, Tryz.results32, go_sem, cQ0_41]) rfl ⟨Below.setCell KB_38.out (show w.heap.size ≤ w.heap.size + 2 by omega) _, .slice none 0 0, by rw [HQ2.out.1]; exact World.ownsRow_nil _ _ _ _, by rw [HQ2.out.2]⟩
    | true =>
      have HE := Lib.hid (kind_ok he)
      have HE0 := Lib.hid he
      clear he
      have cP0_51 := Blk.cell (i := 0) (v := .slice AG xs.length cG) KP_37 rfl
      have lP_52 := Blk.lt KP_37
      have cQ0_53 := Blk.cell (i := 0) (v := .slice none 0 0) KQ_35 rfl
      have zQ0_54 := Blk.frozen KQ_35 0
      have lQ_55 := Blk.lt KQ_35
      have cE0_56 := Blk.cell (i := 0) (v := .int .i64 e.kind) KE_36 rfl
      have cE1_57 := Blk.cell (i := 1) (v := .int .i64 e.i) KE_36 rfl
      have cE2_58 := Blk.cell (i := 2) (v := .int .i64 e.j) KE_36 rfl
      have cE3_59 := Blk.cell (i := 3) (v := .int .i64 e.k) KE_36 rfl
      have cE4_60 := Blk.cell (i := 4) (v := .slice AR e.part.length cR) KE_36 rfl
      have cE5_61 := Blk.cell (i := 5) (v := .string e.map) KE_36 rfl
      have lE_62 := Blk.lt KE_36
      go_wp2_with fail
      refine (fits_any _ e (gramLen xs) _ ⟨_, rfl, KR_34.out.up (by repeat (first | exact Below.refl _ _ | (refine Below.alloc ?_ (by first | omega | (simp; done) | (simp; omega)) _) | (refine Below.setCell ?_ (by first | exact Nat.le_refl _ | (show _ ≤ _; omega) | (simp; done) | (simp; omega)) _) | refine below_drewN ?_ _ | refine Below.drew ?_))⟩ HE.out.2.2.1 HE.out.2.2.2).mono ?_
      rintro e w3 ⟨rfl, hb_63⟩
      have z_w3 : w2.heap.size ≤ w3.heap.size := hb_63.size
      have KG_64 := Lib.hid (KG_33.out.up hb_63)
      have KR_65 := Lib.hid (KR_34.out.up hb_63)
      have KQ_66 := Blk.up KQ_35 hb_63
      have KE_67 := Blk.up KE_36 hb_63
      have KP_68 := Blk.up KP_37 hb_63
      have KB_69 := Lib.hid (Below.tr KB_38.out hb_63)
      clear hb_32 cP0_51 lP_52 cQ0_53 zQ0_54 lQ_55 cE0_56 cE1_57 cE2_58 cE3_59 cE4_60 cE5_61 lE_62 KG_33 KR_34 KQ_35 KE_36 KP_37 KB_38
      cases hf : editFits e (gramLen xs) with
      | false =>
        have q2 : applyOut xs e = [] ∧ applyCode xs e = 2 := by simp [applyOut, applyCode, HGG.out, HE0.out, hf]
        have HQ2 := Lib.hid q2
        clear q2 hf
        have cP0_70 := Blk.cell (i := 0) (v := .slice AG xs.length cG) KP_68 rfl
        have lP_71 := Blk.lt KP_68
        have cQ0_72 := Blk.cell (i := 0) (v := .slice none 0 0) KQ_66 rfl
        have zQ0_73 := Blk.frozen KQ_66 0
        have lQ_74 := Blk.lt KQ_66
        have cE0_75 := Blk.cell (i := 0) (v := .int .i64 e.kind) KE_67 rfl
        have cE1_76 := Blk.cell (i := 1) (v := .int .i64 e.i) KE_67 rfl
        have cE2_77 := Blk.cell (i := 2) (v := .int .i64 e.j) KE_67 rfl
        have cE3_78 := Blk.cell (i := 3) (v := .int .i64 e.k) KE_67 rfl
        have cE4_79 := Blk.cell (i := 4) (v := .slice AR e.part.length cR) KE_67 rfl
        have cE5_80 := Blk.cell (i := 5) (v := .string e.map) KE_67 rfl
        have lE_81 := Blk.lt KE_67
        go_wp2_with fail
        refine bodyPost_ret (v := .tuple #[.agg #[.slice none 0 0], .int .i64 2]) (by simp [results, Tryz.results32, go_sem, cQ0_72]) rfl ⟨Below.setCell KB_69.out (show w.heap.size ≤ w.heap.size + 2 by omega) _, .slice none 0 0, by rw [HQ2.out.1]; exact World.ownsRow_nil _ _ _ _, by rw [HQ2.out.2]⟩
      | true =>
        have hls : lens xs = some (lsOf xs) := by
          obtain ⟨ls, h⟩ := (gram_lens HGG.out).2
          simp [lsOf, h]
        have q2 : applyOut xs e = editG (editS xs (lsOf xs) (lastI (lsOf xs)) e) ∧ applyCode xs e = editC (editS xs (lsOf xs) (lastI (lsOf xs)) e) := by simp [applyOut, applyCode, HGG.out, HE0.out, hf, applyS]
        have HQ2 := Lib.hid q2
        have HLS := Lib.hid hls
        clear q2 hf hls
        have cP0_82 := Blk.cell (i := 0) (v := .slice AG xs.length cG) KP_68 rfl
        have lP_83 := Blk.lt KP_68
        have cQ0_84 := Blk.cell (i := 0) (v := .slice none 0 0) KQ_66 rfl
        have zQ0_85 := Blk.frozen KQ_66 0
        have lQ_86 := Blk.lt KQ_66
        have cE0_87 := Blk.cell (i := 0) (v := .int .i64 e.kind) KE_67 rfl
        have cE1_88 := Blk.cell (i := 1) (v := .int .i64 e.i) KE_67 rfl
        have cE2_89 := Blk.cell (i := 2) (v := .int .i64 e.j) KE_67 rfl
        have cE3_90 := Blk.cell (i := 3) (v := .int .i64 e.k) KE_67 rfl
        have cE4_91 := Blk.cell (i := 4) (v := .slice AR e.part.length cR) KE_67 rfl
        have cE5_92 := Blk.cell (i := 5) (v := .string e.map) KE_67 rfl
        have lE_93 := Blk.lt KE_67
        go_wp2_with fail
        refine (edited_any _ (.slice AR e.part.length cR) xs (lsOf xs) e _ (KG_64.out.up (by repeat (first | exact Below.refl _ _ | (refine Below.alloc ?_ (by first | omega | (simp; done) | (simp; omega)) _) | (refine Below.setCell ?_ (by first | exact Nat.le_refl _ | (show _ ≤ _; omega) | (simp; done) | (simp; omega)) _) | refine below_drewN ?_ _ | refine Below.drew ?_))) (KR_65.out.up (by repeat (first | exact Below.refl _ _ | (refine Below.alloc ?_ (by first | omega | (simp; done) | (simp; omega)) _) | (refine Below.setCell ?_ (by first | exact Nat.le_refl _ | (show _ ≤ _; omega) | (simp; done) | (simp; omega)) _) | refine below_drewN ?_ _ | refine Below.drew ?_))) HLS.out hn HE.out.1 HE.out.2.1 (tabB HT.out KB_69.out)).mono ?_
        rintro e w4 ⟨hb_94, v4, own4, rfl⟩
        have z_w4 : w3.heap.size ≤ w4.heap.size := hb_94.size
        have KG_95 := Lib.hid (KG_64.out.up hb_94)
        have KR_96 := Lib.hid (KR_65.out.up hb_94)
        have KQ_97 := Blk.up KQ_66 hb_94
        have KE_98 := Blk.up KE_67 hb_94
        have KP_99 := Blk.up KP_68 hb_94
        have KB_100 := Lib.hid (Below.tr KB_69.out hb_94)
        clear hb_63 cP0_82 lP_83 cQ0_84 zQ0_85 lQ_86 cE0_87 cE1_88 cE2_89 cE3_90 cE4_91 cE5_92 lE_93 KG_64 KR_65 KQ_66 KE_67 KP_68 KB_69
        obtain ⟨A4, k4, rfl, _⟩ := own_nil own4
        have HO4 := Lib.hid own4
        clear own4
        have cQ0_101 := Blk.cell (i := 0) (v := .slice none 0 0) KQ_97 rfl
        have zQ0_102 := Blk.frozen KQ_97 0
        have lQ_103 := Blk.lt KQ_97
        go_wp2_with fail
        refine bodyPost_ret (v := .tuple #[.agg #[.slice A4 (editG (editS xs (lsOf xs) (lastI (lsOf xs)) e)).length k4], .int .i64 (editC (editS xs (lsOf xs) (lastI (lsOf xs)) e))]) (by simp [results, Tryz.results32, go_sem, cQ0_101]) rfl ⟨Below.setCell KB_100.out (show w.heap.size ≤ w.heap.size + 2 by omega) _, .slice A4 (editG (editS xs (lsOf xs) (lastI (lsOf xs)) e)).length k4, ?_, by rw [HQ2.out.2]⟩
        rw [HQ2.out.1]
        exact ownsRow_more (ownsRow_setCell_below HO4.out (a := ⟨w.heap.size + 2, 0, none⟩) (by show w.heap.size + 2 < _; omega) _) (by omega)
end Go.Proofs.YtbifijlenbibmaaGreatDoor

namespace Go.Proofs.YtbifijlenbibmaaGreatDoor
open Go.RowKit
theorem addO_ok {s g : Option (List GRule)} {o : List GRule} (h : addO s g = some o) : gramOk o = true := by
  unfold addO at h
  split at h
  · split at h
    · rename_i h2; cases h; exact h2
    · cases h
  · cases h
theorem editS_ok {xs : List GRule} {ls : List Int} {n : Int} {e : GEdit} {o : List GRule} (h : editS xs ls n e = some o) : gramOk o = true := by
  unfold editS at h
  repeat' split at h
  all_goals exact addO_ok h
theorem applyOut_ok (xs : List GRule) (e : GEdit) : gramOk (applyOut xs e) = true := by
  unfold applyOut
  split
  · split
    · unfold editG applyS
      cases h : editS xs (lsOf xs) (lastI (lsOf xs)) e with
      | none => rfl
      | some o => exact gramOk_trim (editS_ok h)
    · rfl
  · rfl
end Go.Proofs.YtbifijlenbibmaaGreatDoor

namespace Go.Proofs.YtbifijlenbibmaaGreatDoor
open Go.RowKit

theorem up_long {xs : List GRule} (h : gramOk xs = true) (hl : ¬ (wordG xs).length ≤ 2000) : upV xs = [] ∧ upC xs = 3 := by
  unfold upV upC
  rw [h, decide_eq_false hl]
  simp [hl]
theorem up_ok {xs : List GRule} (h : gramOk xs = true) (hl : (wordG xs).length ≤ 2000) : upV xs = wordG xs ∧ upC xs = 0 := by
  unfold upV upC
  rw [h, decide_eq_true hl]
  simp [hl]
end Go.Proofs.YtbifijlenbibmaaGreatDoor

namespace Go.Proofs.YtbifijlenbibmaaGreatDoor
open Go.RowKit

/-! what a script answers -/
def atB : ByteArray := ⟨#[97, 116]⟩
def undoB : ByteArray := ⟨#[117, 110, 100, 111]⟩
def lengthB : ByteArray := ⟨#[108, 101, 110, 103, 116, 104]⟩
def wordB : ByteArray := ⟨#[119, 111, 114, 100]⟩
def whatB : ByteArray := ⟨#[119, 104, 97, 116]⟩
def okB : ByteArray := ⟨#[111, 107]⟩
def errP : ByteArray := ⟨#[101, 114, 114, 111, 114, 32]⟩
def nmsB : List ByteArray := [⟨#[111, 107]⟩, ⟨#[105, 110, 118, 97, 108, 105, 100]⟩, ⟨#[114, 97, 110, 103, 101]⟩, ⟨#[108, 105, 109, 105, 116]⟩, ⟨#[115, 116, 97, 116, 101]⟩, ⟨#[115, 121, 110, 116, 97, 120]⟩, ⟨#[110, 111, 116, 102, 111, 117, 110, 100]⟩, ⟨#[98, 117, 100, 103, 101, 116]⟩, ⟨#[112, 114, 111, 111, 102]⟩]
def codeNm (c : Int) : ByteArray := if 0 ≤ c ∧ c ≤ 8 then nmsB.getD c.toNat ⟨#[]⟩ else ⟨#[]⟩
def errB (c : Int) : ByteArray := errP ++ codeNm c
def spokB (t : ByteArray) (c : Int) : ByteArray := if c = 0 then t else errB c
structure ScS where
  gs : List (List GRule)
  n : Nat
def rsTop (l : List (List GRule)) : List GRule := l.getD (l.length - 1) []
def scEdit (s : ScS) (e : GEdit) : ByteArray × ScS :=
  if s.n = 60 then (errB 3, s)
  else if applyCode (rsTop s.gs) e = 0 then (okB, ⟨s.gs ++ [applyOut (rsTop s.gs) e], s.n + 1⟩) else (errB (applyCode (rsTop s.gs) e), s)
def scPlace (t : ByteArray) : Option Int := if t.data.toList.take 3 = [97, 116, 32] ∧ rdOk (t.data.toList.drop 3) = true then some (numV (t.data.toList.drop 3)) else none
def scLet (x : List GRule) (i : Int) : ByteArray := if i < lenV x then ⟨(cutL (wordG x) i (i + 1)).toArray⟩ else errB 2
def scRest (s : ScS) (t : ByteArray) : ByteArray × ScS :=
  match scPlace t with
  | some i => (scLet (rsTop s.gs) i, s)
  | none =>
    if t = undoB then (if s.gs.length = 1 then (errB 4, s) else (okB, ⟨s.gs.dropLast, s.n⟩))
    else if t = lengthB then (⟨(dec (lenV (rsTop s.gs))).toArray⟩, s)
    else if t = wordB then (spokB ⟨(upV (rsTop s.gs)).toArray⟩ (upC (rsTop s.gs)), s)
    else (whatB, s)
def scAns (s : ScS) (t : ByteArray) : ByteArray × ScS := if rdCode t = 0 then scEdit s (rdOut t) else scRest s t
def scStep (p : List UInt8 × ScS) (t : ByteArray) : List UInt8 × ScS := (p.1 ++ ((scAns p.2 t).1.data.toList ++ [10]), (scAns p.2 t).2)
def scRun (x : List GRule) (ls : List ByteArray) : List UInt8 × ScS := ls.foldl scStep ([], ⟨[x], 0⟩)
def scLines (t : ByteArray) : List ByteArray := if (splB 10 t).getLast? = some ⟨#[]⟩ then (splB 10 t).dropLast else splB 10 t
def scCode (x : List GRule) (t : ByteArray) : Int := if gramOk x then (if t.size ≤ 20000 ∧ (scLines t).length ≤ 120 then 0 else 2) else 1
def scOut (x : List GRule) (t : ByteArray) : List UInt8 := if scCode x t = 0 then (scRun x (scLines t)).1 else []

/-! what holds of a session's state -/
structure ScOk (s : ScS) : Prop where
  ok : ∀ g ∈ s.gs, gramOk g = true
  pos : 0 < s.gs.length
  len : s.gs.length ≤ s.n + 1
  most : s.n ≤ 60
theorem top_mem {l : List (List GRule)} (h : 0 < l.length) : rsTop l ∈ l := by
  unfold rsTop
  rw [List.getD_eq_getElem?_getD, List.getElem?_eq_getElem (by omega)]
  exact List.getElem_mem _
theorem ScOk.top {s : ScS} (h : ScOk s) : gramOk (rsTop s.gs) = true := h.ok _ (top_mem h.pos)
theorem ScOk.edit {s : ScS} (h : ScOk s) (e : GEdit) : ScOk (scEdit s e).2 := by
  unfold scEdit
  split
  · exact h
  · split
    · refine ⟨fun g hg => ?_, by simp, by have := h.len; simp; omega, by have := h.most; show s.n + 1 ≤ 60; omega⟩
      rcases List.mem_append.1 hg with hg | hg
      · exact h.ok g hg
      · simp at hg; rw [hg]; exact applyOut_ok _ _
    · exact h
theorem ScOk.rest {s : ScS} (h : ScOk s) (t : ByteArray) : ScOk (scRest s t).2 := by
  unfold scRest
  split
  · exact h
  · split
    · split
      · exact h
      · rename_i h1
        have := h.pos
        have := h.len
        exact ⟨fun g hg => h.ok g (List.dropLast_subset _ hg), by simp; omega, by simp; omega, h.most⟩
    · split
      · exact h
      · split <;> exact h
theorem ScOk.ans {s : ScS} (h : ScOk s) (t : ByteArray) : ScOk (scAns s t).2 := by
  unfold scAns
  split
  · exact h.edit _
  · exact h.rest _

/-! the place in a line -/
theorem place_hit {t x : ByteArray} (h : splB 32 t = [atB, x]) : t.data.toList = [97, 116, 32] ++ x.data.toList := by
  have h1 := splB_lists 32 t
  rw [h] at h1
  have h2 := glue_spl 32 t.data.toList []
  rw [← h1] at h2
  simpa [glue, atB] using h2.symm
theorem place_yes {t x : ByteArray} (h : splB 32 t = [atB, x]) (hx : rdOk x.data.toList = true) : scPlace t = some (numV x.data.toList) := by
  have := place_hit h
  unfold scPlace
  rw [this]
  simp [hx]
theorem place_no {t x : ByteArray} (h : splB 32 t = [atB, x]) (hx : rdOk x.data.toList = false) : scPlace t = none := by
  have := place_hit h
  unfold scPlace
  rw [this]
  simp [hx]
theorem rdOk_no32 {u : List UInt8} (h : rdOk u = true) : ∀ c ∈ u, c ≠ 32 := by
  have h4 := ((rdOk_iff u).1 h).2.2.2
  intro c hc e
  have := List.all_eq_true.1 h4 c hc
  rw [e] at this
  exact absurd this (by decide)
theorem place_some {t : ByteArray} {i : Int} (h : scPlace t = some i) : ∃ x, splB 32 t = [atB, x] ∧ rdOk x.data.toList = true ∧ i = numV x.data.toList ∧ x.data.toList = t.data.toList.drop 3 := by
  unfold scPlace at h
  split at h
  · rename_i hh
    obtain ⟨h1, h2⟩ := hh
    cases h
    have ht : t.data.toList = [97, 116] ++ 32 :: t.data.toList.drop 3 := by
      have := List.take_append_drop 3 t.data.toList
      rw [h1] at this
      exact this.symm
    refine ⟨⟨(t.data.toList.drop 3).toArray⟩, ?_, by simpa using h2, by simp, by simp⟩
    unfold splB
    rw [ht, spl_piece [97, 116] [] _ (by decide), spl_none _ [] (rdOk_no32 h2)]
    simp [atB]
  · cases h
/-! types of blocks that are kept -/
def TK (ts : TypeId → Prop) (w w' : World) : Prop := ∀ (b : Nat) cs t fz, ts t → w.heap[b]? = some (.cells cs t fz) → w'.heap[b]? = some (.cells cs t fz)
section
variable {ts ts' : TypeId → Prop} {w w' w'' : World}
theorem TK.refl : TK ts w w := fun _ _ _ _ _ h => h
theorem TK.tr (h : TK ts w w') (h2 : TK ts w' w'') : TK ts w w'' := fun b cs t fz ht hb => h2 b cs t fz ht (h b cs t fz ht hb)
theorem TK.of_below (h : Below w.heap.size w w') : TK ts w w' := fun b _ _ _ _ hb => (h.block b (Array.getElem?_eq_some_iff.1 hb).1).trans hb
theorem TK.sub (h : TK ts w w') (hs : ∀ t, ts' t → ts t) : TK ts' w w' := fun b cs t fz ht hb => h b cs t fz (hs t ht) hb
theorem TK.others {e tb : TypeId} {b : Nat} {c0 : Array Value} {f0 : Nat × Nat} (h : Lib.OthersKept e (some b) w w') (hb : w.heap[b]? = some (.cells c0 tb f0)) (he : ∀ t, ts t → t ≠ e ∧ t ≠ tb) : TK ts w w' := by
  intro k cs t fz ht hk
  refine h k _ hk (fun q => ?_) (fun c fz' q => ?_)
  · have : k = b := by simpa using q
    subst this
    rw [hk] at hb
    injection hb with hb
    injection hb with _ hb _
    exact (he t ht).2 hb
  · injection q with _ q _
    exact (he t ht).1 q
theorem TK.setCell {b i : Nat} {a : Array Value} {tb : TypeId} {v : Value} (hb : Blk w b a tb) (he : ∀ t, ts t → t ≠ tb) : TK ts w (w.setCell ⟨b, i, none⟩ v) := by
  intro k cs t fz ht hk
  rcases Nat.decEq k b with h | h
  · exact (Below.heap_setCell w ⟨b, i, none⟩ v k h).trans hk
  · subst h
    rw [show w.heap[k]? = _ from hb] at hk
    injection hk with hk
    injection hk with _ hk _
    exact absurd hk.symm (he t ht)
theorem TK.grown {base e size n : Nat} {v : Value} {xs : List Value} (h : w.ownsRow base e size v n xs) (hg : w.grownBy w' v.ownBlock) (he : ∀ t, ts t → t ≠ e) : TK ts w w' := by
  intro k cs t fz ht hk
  refine (hg.block k (Array.getElem?_eq_some_iff.1 hk).1 (fun q => ?_)).trans hk
  rcases h.2 with ⟨rfl, _⟩ | ⟨g, cap, cur, rfl, _, hh, _⟩
  · cases q
  · have : k = g := by simpa [Value.ownBlock] using q
    subst this
    rw [hk] at hh
    injection hh with hh
    injection hh with _ hh _
    exact he t ht hh
theorem TK.row {base e size n : Nat} {v : Value} {xs : List Value} (h : w.ownsRow base e size v n xs) (hk : TK ts w w') (he : ts e) : w'.ownsRow base e size v n xs := by
  refine ⟨h.1, ?_⟩
  rcases h.2 with h2 | ⟨g, cap, cur, rfl, hb, hh, r⟩
  · exact .inl h2
  · exact .inr ⟨g, cap, cur, rfl, hb, hk g _ _ _ he hh, r⟩
theorem TK.blk {b : Nat} {a : Array Value} {t : TypeId} (h : Blk w b a t) (hk : TK ts w w') (he : ts t) : Blk w' b a t := hk b _ _ _ he h
end

/-! a session in memory -/
theorem Tryz.infoGr2 : (Tryz.prog.info? 30).map (fun i => (i.zero, i.size, i.bytes)) = some (some (.agg #[.slice none 0 0]), 1, 24) := by kernel_rfl
/-- A grammar's rules: older than the session, or a row of one's own. -/
def GP (w : World) (lo : Nat) (u : Value) (x : List GRule) : Prop := Sl RuleE w lo u x ∨ OwnRules w lo u x
theorem GP.sl {w : World} {lo : Nat} {u : Value} {x : List GRule} (h : GP w lo u x) (hl : lo ≤ w.heap.size) : Sl RuleE w w.heap.size u x := by
  rcases h with h | h
  · exact h.le hl
  · exact OwnRules.sl h
theorem GP.one {w : World} {lo : Nat} {u : Value} {x : List GRule} (h : GP w lo u x) : u.oneCell' = true ∧ ∃ A c, u = .slice A x.length c := by
  rcases h with ⟨A, c, rfl, _⟩ | h
  · exact ⟨rfl, A, c, rfl⟩
  · obtain ⟨A, c, rfl, _⟩ := own_nil h
    exact ⟨rfl, A, c, rfl⟩
theorem GP.keep {w w' : World} {lo : Nat} {u : Value} {x : List GRule} {ts : TypeId → Prop} (h : GP w lo u x) (hb : Below lo w w') (hk : TK ts w w') (he : ts 165) : GP w' lo u x :=
  h.imp (fun h => h.below hb) (fun h => TK.row h hk he)
/-- The row of states. -/
def OGp (w : World) (lo : Nat) (v : Value) (gs : List (List GRule)) : Prop :=
  ∃ us : List Value, us.length = gs.length ∧ w.ownsRow lo 30 1 v gs.length us ∧ ∀ (i : Nat) u x, us[i]? = some u → gs[i]? = some x → GP w lo u x
theorem OGp.keep {w w' : World} {lo : Nat} {v : Value} {gs : List (List GRule)} {ts : TypeId → Prop} (h : OGp w lo v gs) (hb : Below lo w w') (hk : TK ts w w') (h1 : ts 165) (h2 : ts 30) : OGp w' lo v gs := by
  obtain ⟨us, a1, a2, a3⟩ := h
  exact ⟨us, a1, TK.row a2 hk h2, fun i u x hu hx => (a3 i u x hu hx).keep hb hk h1⟩
theorem OGp.up {w w' : World} {lo : Nat} {v : Value} {gs : List (List GRule)} (h : OGp w lo v gs) (hb : Below w.heap.size w w') (hl : lo ≤ w.heap.size) : OGp w' lo v gs :=
  h.keep (hb.mono hl) (TK.of_below (ts := fun _ => True) hb) trivial trivial
theorem OGp.at_ {w : World} {lo : Nat} {v : Value} {gs : List (List GRule)} (h : OGp w lo v gs) {i : Nat} {x : List GRule} (hx : gs[i]? = some x) :
    ∃ g cap u, v = .slice (some ⟨g, 0, none⟩) gs.length cap ∧ lo ≤ g ∧ g < w.heap.size ∧ gs.length ≤ cap ∧ cap ≤ maxLen ∧ w.cell? ⟨g, i, none⟩ = some u ∧ GP w lo u x := by
  obtain ⟨us, h1, h2, h3⟩ := h
  have hi : i < gs.length := (List.getElem?_eq_some_iff.1 hx).1
  obtain ⟨g, cap, rfl, h4, h5, h6, h7⟩ := own_form h2 (by omega)
  have hu : us[i]? = some us[i] := List.getElem?_eq_getElem (by omega)
  exact ⟨g, cap, us[i], rfl, h4, h5, h6.1, h6.2, h7 i _ hu, h3 i _ x hu hx⟩
theorem OGp.one {W : World} {lo N : Nat} {u : Value} {x : List GRule} (hN : N = W.heap.size) (h : lo ≤ W.heap.size) (hu : GP W lo u x) : OGp (W.alloc (.cells #[u] 30)) lo (.slice (some ⟨N, 0, none⟩) 1 1) [x] := by
  subst hN
  refine ⟨[u], rfl, World.ownsRow_lit W #[u] 1 h (by decide) rfl, fun i u' g hu' hg => ?_⟩
  have hi : i = 0 := by
    have := (List.getElem?_eq_some_iff.1 hg).1
    simp at this; exact this
  subst hi
  simp at hu' hg
  subst hu' hg
  have hb := (Below.refl W.heap.size W).alloc (Nat.le_refl _) (Obj.cells #[u] 30)
  exact hu.keep (hb.mono h) (TK.of_below (ts := fun _ => True) hb) trivial
theorem OGp.pop {w : World} {lo g c : Nat} {gs : List (List GRule)} (h : OGp w lo (.slice (some ⟨g, 0, none⟩) gs.length c) gs) (h0 : 0 < gs.length) : OGp w lo (.slice (some ⟨g, 0, none⟩) (gs.length - 1) c) gs.dropLast := by
  obtain ⟨us, h1, h2, h3⟩ := h
  have hu0 : us ≠ [] := by intro e; subst e; simp at h1; omega
  have hus : us.dropLast ++ [us.getLast hu0] = us := List.dropLast_concat_getLast hu0
  have hl : us.dropLast.length = gs.dropLast.length := by simp [h1]
  refine ⟨us.dropLast, hl, ?_, fun i u x hu hx => ?_⟩
  · rw [← hus, show gs.length = (gs.length - 1) + 1 by omega] at h2
    have := ownsRow_pop (by simp; omega) h2
    simpa using this
  · refine h3 i u x ?_ ?_
    · rw [List.getElem?_dropLast] at hu; split at hu
      · exact hu
      · cases hu
    · rw [List.getElem?_dropLast] at hx; split at hx
      · exact hx
      · cases hx
theorem OGp.snoc {W w' : World} {lo : Nat} {v v' : Value} {gs : List (List GRule)} {us : List Value} {u : Value} {y : List GRule} (h1 : us.length = gs.length) (hrow : W.ownsRow lo 30 1 v gs.length us) (h3 : ∀ (i : Nat) u x, us[i]? = some u → gs[i]? = some x → GP W lo u x)
    (hu : GP W lo u y) (hrow' : w'.ownsRow lo 30 1 v' (gs.length + 1) (us ++ [u])) (hg : W.grownBy w' v.ownBlock) (hb : Below lo W w') : OGp w' lo v' (gs ++ [y]) := by
  have hk : TK (fun t => t ≠ 30) W w' := TK.grown hrow hg (fun t ht => ht)
  refine ⟨us ++ [u], by simp [h1], by simpa using hrow', fun i u' g hu' hg' => ?_⟩
  rcases Nat.lt_or_ge i us.length with hlt | hge
  · rw [List.getElem?_append_left hlt] at hu'
    rw [List.getElem?_append_left (by omega)] at hg'
    exact (h3 i u' g hu' hg').keep hb hk (by decide)
  · rw [List.getElem?_append_right hge] at hu'
    rw [List.getElem?_append_right (by omega)] at hg'
    have hi0 : i - us.length = 0 := by
      have := (List.getElem?_eq_some_iff.1 hu').1
      simp at this; omega
    rw [hi0] at hu'
    rw [show i - gs.length = 0 by omega] at hg'
    simp at hu' hg'
    subst hu' hg'
    exact hu.keep hb hk (by decide)
/-- 'append(states, next)' in a region that draws its order. -/
theorem step_push_gp {W : World} {ops : Array Oper} {o : Oper} {a : Act} {K : Act → World → Prop} {Q : Exit → Act → World → Prop} {E : Prop} (hgd : o.guard = none) (s x : Operand)
    (ho : o.op = .call { callee := .builtin .append, args := #[s, x], argTypes := #[68, 68] }) {u : Value} {y : List GRule} {lo g c : Nat} {gs : List (List GRule)}
    (hs : a.eval s = .slice (some ⟨g, 0, none⟩) gs.length c) {N : Nat} (hx : a.eval x = .slice (some ⟨N, 0, none⟩) 1 1) (hc : W.cell? ⟨N, 0, none⟩ = some u) (hown : OGp W lo (.slice (some ⟨g, 0, none⟩) gs.length c) gs) (hlen : gs.length ≤ 1048576) (hbase : lo ≤ W.heap.size)
    (hu : GP W lo u y)
    (h : ∀ g' c' w', OGp w' lo (.slice (some ⟨g', 0, none⟩) (gs.length + 1) c') (gs ++ [y]) → Below lo W w' → TK (fun t => t ≠ 30) W w' → W.heap.size ≤ w'.heap.size → K (a.put o.dst (.slice (some ⟨g', 0, none⟩) (gs.length + 1) c')) w') :
    if Region.wanted o (yielded ops a.tmps) = true then Oper.wp Tryz.prog o a W K Q else E := by
  have hw : Region.wanted o (yielded ops a.tmps) = true := by simp [Region.wanted, hgd]
  rw [if_pos hw]
  obtain ⟨us, h1, hrow, h3⟩ := hown
  obtain ⟨i0, hi0, hz0, hz1, hz2⟩ := info_parts Tryz.infoGr2
  obtain ⟨v', w', hrun, k1, k2, _, k5⟩ := run_append_own_at (P := Tryz.prog) W lo 68 o.type 30 i0 _ 1 24 Tryz.underlying68 hi0 hz0 hz1 hz2 rfl (by decide) _ _ _ hrow ⟨N, 0, none⟩ 1 1 [u] rfl
    (fun j u' hu' => by
      cases j with
      | zero => simp at hu'; subst hu'; simpa [Addr.add] using hc
      | succ j => simp at hu') (by simpa using hu.one.1) (by simp only [maxLen]; omega) (by omega) hbase
  unfold Oper.wp execOp
  simp only [ho, resolve, invoke, builtin, Sem.run_bind, Sem.run_pure, Result.andThen_ok, List.map_toArray, List.map_cons, List.map_nil, hs, hx, hrun]
  have k1' : w'.ownsRow lo 30 1 v' (gs.length + 1) (us ++ [u]) := by simpa using k1
  have hb : Below lo W w' := (Below.refl lo W).grown k2 hbase (fun y hy => (World.ownsRow.lt hrow y hy).1)
  obtain ⟨g', c', rfl, _⟩ := own_form k1' (by omega)
  exact h g' c' w' (OGp.snoc h1 hrow h3 hu k1' k2 hb) hb (TK.grown hrow k2 (fun t ht => ht)) k2.size
/-- A session: its row of states and how many edits it has done, at block P of type T. -/
def Ses (T : TypeId) (w : World) (lo P : Nat) (s : ScS) : Prop :=
  ∃ g c, Blk w P #[.slice (some ⟨g, 0, none⟩) s.gs.length c, .int .i64 s.n] T ∧ lo ≤ P ∧ lo ≤ g ∧ g < w.heap.size ∧ g ≠ P ∧ c ≤ maxLen ∧ s.gs.length ≤ c ∧ OGp w lo (.slice (some ⟨g, 0, none⟩) s.gs.length c) s.gs
theorem Ses.keep {T : TypeId} {w w' : World} {lo P : Nat} {s : ScS} {ts : TypeId → Prop} (h : Ses T w lo P s) (hb : Below lo w w') (hk : TK ts w w') (hz : w.heap.size ≤ w'.heap.size) (h1 : ts 165) (h2 : ts 30) (h3 : ts T) : Ses T w' lo P s := by
  obtain ⟨g, c, a1, a2, a3, a4, a5, a6, a7, a8⟩ := h
  exact ⟨g, c, TK.blk a1 hk h3, a2, a3, by omega, a5, a6, a7, a8.keep hb hk h1 h2⟩
theorem Ses.up {T : TypeId} {w w' : World} {lo P : Nat} {s : ScS} (h : Ses T w lo P s) (hb : Below w.heap.size w w') : Ses T w' lo P s := by
  have hl : lo ≤ w.heap.size := by obtain ⟨g, c, a1, a2, a3, a4, _⟩ := h; omega
  exact h.keep (hb.mono hl) (TK.of_below (ts := fun _ => True) hb) hb.size trivial trivial trivial
theorem Ses.of {T : TypeId} {w : World} {lo P g c : Nat} {s : ScS} (hT : T ≠ 30) (kP : Blk w P #[.slice (some ⟨g, 0, none⟩) s.gs.length c, .int .i64 s.n] T) (hlo : lo ≤ P) (og : OGp w lo (.slice (some ⟨g, 0, none⟩) s.gs.length c) s.gs) : Ses T w lo P s := by
  have og' := og
  obtain ⟨us, _, hrow, _⟩ := og
  rcases hrow.2 with ⟨h1, _⟩ | ⟨g', cap, cur, h1, h2, h3, h4, h5, _⟩
  · cases h1
  · injection h1 with h1 _ h6
    injection h1 with h1
    injection h1 with h1
    subst h1 h6
    refine ⟨g, c, kP, hlo, h2, (Array.getElem?_eq_some_iff.1 h3).1, ?_, h5, h4, og'⟩
    rintro rfl
    rw [show w.heap[g]? = _ from kP] at h3
    injection h3 with h3
    injection h3 with _ h3 _
    exact hT h3
theorem OGp.setP {T : TypeId} {w : World} {lo P i : Nat} {v u : Value} {a : Array Value} {gs : List (List GRule)} (h : OGp w lo v gs) (kP : Blk w P a T) (hlo : lo ≤ P) (h1 : 165 ≠ T) (h2 : 30 ≠ T) : OGp (w.setCell ⟨P, i, none⟩ u) lo v gs :=
  h.keep (ts := fun t => t ≠ T) ((Below.refl lo w).setCell (p := ⟨P, i, none⟩) hlo u) (TK.setCell kP (fun _ ht => ht)) h1 h2
/-- What a session's answer leaves: all but rows of states and the session itself. -/
def SK (T : TypeId) (t : TypeId) : Prop := t ≠ 30 ∧ t ≠ T
/-- In the middle of an answer: nothing old has changed. -/
structure AnsSt (T : TypeId) (w wx : World) (lo P g c : Nat) (s : ScS) (D : Nat) (A : Option Addr) (cx : Nat) (x : List GRule) : Prop where
  bel : Below w.heap.size w wx
  kP : Blk wx P #[.slice (some ⟨g, 0, none⟩) s.gs.length c, .int .i64 s.n] T
  og : OGp wx lo (.slice (some ⟨g, 0, none⟩) s.gs.length c) s.gs
  kD : Blk wx D #[.slice A x.length cx] 30
  gx : Sl RuleE wx wx.heap.size (.slice A x.length cx) x
  wl : lo ≤ w.heap.size
theorem AnsSt.up {T : TypeId} {w wx w' : World} {lo P g c : Nat} {s : ScS} {D : Nat} {A : Option Addr} {cx : Nat} {x : List GRule} (h : AnsSt T w wx lo P g c s D A cx x) (hb : Below wx.heap.size wx w') : AnsSt T w w' lo P g c s D A cx x :=
  ⟨Below.tr h.bel hb, h.kP.up hb, h.og.up hb (Nat.le_trans h.wl h.bel.size), h.kD.up hb, h.gx.up hb, h.wl⟩
/-- What an answer is. -/
def AnsPost (T : TypeId) (lo P : Nat) (r : ByteArray × ScS) (w : World) (e : Ending) (w' : World) : Prop :=
  e = .returned (.string r.1) ∧ Ses T w' lo P r.2 ∧ Below lo w w' ∧ TK (SK T) w w' ∧ w.heap.size ≤ w'.heap.size
theorem AnsSt.same {T : TypeId} {w wx : World} {lo P g c : Nat} {s : ScS} {D : Nat} {A : Option Addr} {cx : Nat} {x : List GRule} (h : AnsSt T w wx lo P g c s D A cx x) (hT : T ≠ 30) (hlo : lo ≤ P) {b : ByteArray} {r : ByteArray × ScS} (hr : r = (b, s)) :
    AnsPost T lo P r w (.returned (.string b)) wx := by
  subst hr
  exact ⟨rfl, Ses.of hT h.kP hlo h.og, h.bel.mono h.wl, TK.of_below h.bel, h.bel.size⟩
end Go.Proofs.YtbifijlenbibmaaGreatDoor

namespace Go.Proofs.YtbifijlenbibmaaGreatDoor
open Go.RowKit

theorem codeNm_out {c : Int} (h : ¬ (0 ≤ c ∧ c ≤ 8)) : codeNm c = ⟨#[]⟩ := by unfold codeNm; rw [if_neg h]
theorem codeNm_size (c : Int) : (codeNm c).size ≤ 8 := by
  by_cases h : 0 ≤ c ∧ c ≤ 8
  · obtain ⟨h0, h8⟩ := h
    rcases (by omega : c = 0 ∨ c = 1 ∨ c = 2 ∨ c = 3 ∨ c = 4 ∨ c = 5 ∨ c = 6 ∨ c = 7 ∨ c = 8) with rfl | rfl | rfl | rfl | rfl | rfl | rfl | rfl | rfl <;> decide
  · rw [codeNm_out h]; decide
set_option maxRecDepth 100000 in
set_option maxHeartbeats 1000000 in
theorem implCodeName_any (c : Int) (w : World) : Calls Tryz.prog 187 #[.int .i64 c] w fun e w' => e = .returned (.string (codeNm c)) ∧ Below w.heap.size w w' := by
  by_cases h : 0 ≤ c ∧ c ≤ 8
  · obtain ⟨h0, h8⟩ := h
    rcases (by omega : c = 0 ∨ c = 1 ∨ c = 2 ∨ c = 3 ∨ c = 4 ∨ c = 5 ∨ c = 6 ∨ c = 7 ∨ c = 8) with rfl | rfl | rfl | rfl | rfl | rfl | rfl | rfl | rfl
    all_goals
      go_enter Tryz.func187, Tryz.ntmps187
      go_wp2_with fail
      go_ret
      exact ⟨rfl, (by repeat (first | exact Below.refl _ _ | (refine Below.alloc ?_ (by first | omega | (simp; done) | (simp; omega)) _) | (refine Below.setCell ?_ (by first | exact Nat.le_refl _ | (show _ ≤ _; omega) | (simp; done) | (simp; omega)) _) | refine below_drewN ?_ _ | refine Below.drew ?_))⟩
  · have HC := Lib.hid (codeNm_out h)
    rcases (by omega : c < 0 ∨ (¬ c < 0 ∧ 9 ≤ c)) with h1 | ⟨h1, h2⟩
    all_goals
      go_enter Tryz.func187, Tryz.ntmps187
      go_wp2_with fail
      go_ret
      exact ⟨by rw [HC.out]; rfl, (by repeat (first | exact Below.refl _ _ | (refine Below.alloc ?_ (by first | omega | (simp; done) | (simp; omega)) _) | (refine Below.setCell ?_ (by first | exact Nat.le_refl _ | (show _ ≤ _; omega) | (simp; done) | (simp; omega)) _) | refine below_drewN ?_ _ | refine Below.drew ?_))⟩
set_option maxRecDepth 100000 in
set_option maxHeartbeats 1000000 in
theorem specCodeName_any (c : Int) (w : World) : Calls Tryz.prog 115 #[.int .i64 c] w fun e w' => e = .returned (.string (codeNm c)) ∧ Below w.heap.size w w' := by
  by_cases h : 0 ≤ c ∧ c ≤ 8
  · obtain ⟨h0, h8⟩ := h
    rcases (by omega : c = 0 ∨ c = 1 ∨ c = 2 ∨ c = 3 ∨ c = 4 ∨ c = 5 ∨ c = 6 ∨ c = 7 ∨ c = 8) with rfl | rfl | rfl | rfl | rfl | rfl | rfl | rfl | rfl
    all_goals
      go_enter Tryz.func115, Tryz.ntmps115
      go_wp2_with fail
      refine (l00In_any _ _ _ _).mono ?_
      rintro e w1 ⟨rfl, rfl⟩
      go_wp2_with fail
      go_ret
      exact ⟨rfl, (by repeat (first | exact Below.refl _ _ | (refine Below.alloc ?_ (by first | omega | (simp; done) | (simp; omega)) _) | (refine Below.setCell ?_ (by first | exact Nat.le_refl _ | (show _ ≤ _; omega) | (simp; done) | (simp; omega)) _) | refine below_drewN ?_ _ | refine Below.drew ?_))⟩
  · have HC := Lib.hid (codeNm_out h)
    have hd : (decide (0 ≤ c) && decide (c ≤ 8)) = false := by rw [← Bool.not_eq_true]; simp; omega
    go_enter Tryz.func115, Tryz.ntmps115
    go_wp2_with fail
    refine (l00In_any _ _ _ _).mono ?_
    rintro e w1 ⟨rfl, rfl⟩
    rw [hd]
    go_wp2_with fail
    go_ret
    exact ⟨by rw [HC.out]; rfl, (by repeat (first | exact Below.refl _ _ | (refine Below.alloc ?_ (by first | omega | (simp; done) | (simp; omega)) _) | (refine Below.setCell ?_ (by first | exact Nat.le_refl _ | (show _ ≤ _; omega) | (simp; done) | (simp; omega)) _) | refine below_drewN ?_ _ | refine Below.drew ?_))⟩
set_option maxRecDepth 100000 in
theorem spoken_any (t : ByteArray) (c : Int) (w : World) : Calls Tryz.prog 119 #[.string t, .int .i64 c] w fun e w' => e = .returned (.string (spokB t c)) ∧ Below w.heap.size w w' := by
  by_cases h : c = 0
  · subst h
    go_enter Tryz.func119, Tryz.ntmps119
    go_wp2_with fail
    go_ret
    exact ⟨rfl, (by repeat (first | exact Below.refl _ _ | (refine Below.alloc ?_ (by first | omega | (simp; done) | (simp; omega)) _) | (refine Below.setCell ?_ (by first | exact Nat.le_refl _ | (show _ ≤ _; omega) | (simp; done) | (simp; omega)) _) | refine below_drewN ?_ _ | refine Below.drew ?_))⟩
  · have hb : (c != 0) = true := by simp [h]
    have HQ := Lib.hid (show spokB t c = errB c by unfold spokB; rw [if_neg h])
    have hsz := codeNm_size c
    clear h
    go_enter Tryz.func119, Tryz.ntmps119
    go_wp2_with fail
    refine (implCodeName_any c _).mono ?_
    rintro e w1 ⟨rfl, hb1⟩
    have HB := Lib.hid hb1
    go_wp2_with fail
    go_ret
    exact ⟨by rw [HQ.out]; rfl, HB.out⟩
set_option maxRecDepth 100000 in
theorem decimal_wide (n : Int) (w : World) (h : 0 ≤ n ∧ n ≤ 9223372036854775807) (htab : Lib.TabIs Tryz.prog w "internal/strconv.uint64pow10" .u64 Lib.pow10Tab) :
    Calls Tryz.prog 78 #[.int .i64 n] w fun e w' => e = .returned (.string ⟨(dec n).toArray⟩) ∧ Below w.heap.size w w' := by
  have hd : Lib.itoa n = dec n := by rw [Lib.itoa, if_neg (by omega)]; rfl
  have Hd := Lib.hid hd
  have HT := Lib.hid htab
  clear hd htab
  go_enter Tryz.func78, Tryz.ntmps78
  go_wp2_with fail
  refine (Tryz.strconv_FormatInt_10 n (by omega) (by omega) _ HT.out).mono ?_
  rintro e w' ⟨rfl, k, os, rfl⟩
  rw [Hd.out]
  go_wp2_with fail
  go_ret
  exact ⟨rfl, below_grow⟩
end Go.Proofs.YtbifijlenbibmaaGreatDoor

namespace Go.Proofs.YtbifijlenbibmaaGreatDoor
open Go.RowKit

set_option maxRecDepth 100000 in
theorem hasPrefix_at (s : ByteArray) (w : World) : Calls Tryz.prog 227 #[.string s, .string ⟨#[97, 116, 32]⟩] w fun e w' => e = .returned (.bool (decide (s.data.toList.take 3 = [97, 116, 32]))) ∧ w = w' := by
  by_cases h : 3 ≤ s.size
  · have h1 : (3 : Int) ≤ (s.size : Int) := by omega
    have hl : ((s.extract 0 3).toList == ([97, 116, 32] : List UInt8)) = decide (s.data.toList.take 3 = [97, 116, 32]) := by
      rw [ByteArray.toList_eq, ext_list, Bool.eq_iff_iff]
      simp
    have HL := Lib.hid hl
    clear hl
    go_enter Tryz.func227, Tryz.ntmps227
    go_wp2_with fail
    go_ret
    exact ⟨by rw [← HL.out]; rfl, rfl⟩
  · have h1 : ¬ (3 : Int) ≤ (s.size : Int) := by omega
    have HL := Lib.hid (show decide (s.data.toList.take 3 = [97, 116, 32]) = false by
      rw [decide_eq_false_iff_not]
      intro e
      have h2 := congrArg List.length e
      rw [List.length_take] at h2
      have h3 : s.data.toList.length = s.size := by rw [Array.length_toList]; rfl
      simp at h2
      omega)
    go_enter Tryz.func227, Tryz.ntmps227
    go_wp2_with fail
    go_ret
    exact ⟨by rw [HL.out]; rfl, rfl⟩

/-- What CutPrefix answers. -/
def CutPost (s : ByteArray) (w : World) (e : Ending) (w' : World) : Prop :=
  (s.data.toList.take 3 = [97, 116, 32] → e = .returned (.tuple #[.string (s.extract 3 s.size), .bool true])) ∧ (s.data.toList.take 3 ≠ [97, 116, 32] → e = .returned (.tuple #[.string s, .bool false])) ∧ w = w'
set_option maxRecDepth 100000 in
theorem cutPrefix0_at (s : ByteArray) (w : World) : Calls Tryz.prog 259 #[.string s, .string ⟨#[97, 116, 32]⟩] w (CutPost s w) := by
  by_cases h : s.data.toList.take 3 = [97, 116, 32]
  · have hd : decide (s.data.toList.take 3 = [97, 116, 32]) = true := decide_eq_true h
    have h3 : (3 : Int) ≤ (s.size : Int) := by
      have h2 := congrArg List.length h
      rw [List.length_take] at h2
      have h3 : s.data.toList.length = s.size := by rw [Array.length_toList]; rfl
      simp at h2
      omega
    have HH := Lib.hid h
    have HD := Lib.hid hd
    clear h hd
    go_enter Tryz.func259, Tryz.ntmps259
    go_wp2_with fail
    refine (hasPrefix_at s _).mono ?_
    rintro e w1 ⟨rfl, rfl⟩
    rw [HD.out]
    go_wp2_with fail
    go_ret2
    exact ⟨fun _ => rfl, fun h => absurd HH.out h, rfl⟩
  · have HH := Lib.hid h
    have HD := Lib.hid (decide_eq_false h)
    clear h
    go_enter Tryz.func259, Tryz.ntmps259
    go_wp2_with fail
    refine (hasPrefix_at s _).mono ?_
    rintro e w1 ⟨rfl, rfl⟩
    rw [HD.out]
    go_wp2_with fail
    go_ret2
    exact ⟨fun h => absurd h HH.out, fun _ => rfl, rfl⟩
set_option maxRecDepth 100000 in
theorem cutPrefix_at (s : ByteArray) (w : World) : Calls Tryz.prog 188 #[.string s, .string ⟨#[97, 116, 32]⟩] w (CutPost s w) := by
  go_enter Tryz.func188, Tryz.ntmps188
  go_wp2_with fail
  refine (cutPrefix0_at s _).mono ?_
  rintro e w1 ⟨h1, h2, rfl⟩
  by_cases h : s.data.toList.take 3 = [97, 116, 32]
  · have HH := Lib.hid h
    obtain rfl := h1 h
    clear h1 h2 h
    go_wp2_with fail
    go_ret2
    exact ⟨fun _ => rfl, fun h => absurd HH.out h, rfl⟩
  · have HH := Lib.hid h
    obtain rfl := h2 h
    clear h1 h2 h
    go_wp2_with fail
    go_ret2
    exact ⟨fun h => absurd h HH.out, fun _ => rfl, rfl⟩
theorem dec_rdOk18 {n : Int} (h1 : (dec n).length ≤ 18) (h0 : 0 ≤ n) : rdOk (dec n) = true ∧ numV (dec n) = n := by
  obtain ⟨k, rfl⟩ := Int.eq_ofNat_of_zero_le h0
  obtain ⟨a1, a2, a3, a4, _⟩ := decD_num k
  have hok : rdOk (dec (k : Int)) = true := by
    rw [rdOk_iff]
    refine ⟨?_, h1, ?_, ?_⟩
    · unfold dec; rw [Int.toNat_natCast]; exact List.length_pos_iff.2 a3
    · unfold dec; rw [Int.toNat_natCast]; exact fun h => a4 h.2 h.1
    · unfold dec; rw [Int.toNat_natCast]; exact a2
  refine ⟨hok, ?_⟩
  unfold numV
  rw [if_pos hok]
  unfold dec
  rw [Int.toNat_natCast, a1]
theorem place_off {t : ByteArray} (h : t.data.toList.take 3 ≠ [97, 116, 32]) : scPlace t = none := by unfold scPlace; rw [if_neg (fun q => h q.1)]
theorem place_on {t : ByteArray} (h : t.data.toList.take 3 = [97, 116, 32]) : (rdOk (t.extract 3 t.size).data.toList = true → scPlace t = some (numV (t.extract 3 t.size).data.toList)) ∧ (rdOk (t.extract 3 t.size).data.toList = false → scPlace t = none) := by
  have he : (t.extract 3 t.size).data.toList = t.data.toList.drop 3 := by
    rw [ext_list, List.take_of_length_le (by rw [Array.length_toList]; exact Nat.le_refl _)]
  rw [he]
  unfold scPlace
  exact ⟨fun q => if_pos ⟨h, q⟩, fun q => if_neg (fun q2 => by rw [q] at q2; exact absurd q2.2 (by decide))⟩
/-- What readPlace answers. -/
def PlPost (t : ByteArray) (w : World) (e : Ending) (w' : World) : Prop :=
  Below w.heap.size w w' ∧ ∃ n : Int, e = .returned (.tuple #[.int .i64 n, .bool (scPlace t).isSome]) ∧ ∀ i, scPlace t = some i → n = i
set_option maxRecDepth 100000 in
set_option maxHeartbeats 2000000 in
theorem readPlace_any (t : ByteArray) (w : World) (hs : t.size ≤ 1048576) (hv : RdVars w) : Calls Tryz.prog 120 #[.string t] w (PlPost t w) := by
  have HV := Lib.hid hv
  clear hv
  go_enter Tryz.func120, Tryz.ntmps120
  go_wp2_with fail
  refine (cutPrefix_at t _).mono ?_
  rintro e w1 ⟨h1, h2, rfl⟩
  by_cases h : t.data.toList.take 3 = [97, 116, 32]
  · obtain rfl := h1 h
    have HP := Lib.hid (place_on h)
    obtain ⟨u, hu⟩ : ∃ u, t.extract 3 t.size = u := ⟨_, rfl⟩
    have hus : u.size ≤ 1048576 := by rw [← hu, ByteArray.size_extract]; omega
    rw [hu] at HP ⊢
    clear h1 h2 h hu
    obtain ⟨_, ⟨tp, p, hv2⟩, ⟨tq, q, hv3⟩, htab⟩ := HV.out
    have HT := Lib.hid htab
    go_wp2_with fail
    cases hq : Lib.parseIntB 64 u.data.toList with
    | ok v =>
      have HQ := Lib.hid hq
      refine (Tryz.strconv_ParseInt_10_at64_ok u (by omega) v hq _).mono ?_
      rintro e w2 ⟨rfl, hw⟩
      have hb2 : Below w.heap.size w w2 := by
        rcases hw with rfl | ⟨t, rfl⟩
        · exact Below.refl _ _
        · exact Lib.bytesWorld_below _ _ _
      have HB2 := Lib.hid hb2
      have HT2 := Lib.hid (tabB HT.out hb2)
      have hvb := Lib.parseIntB_bounds hq
      have hvb2 : v ≤ 9223372036854775807 := by have := hvb.2; simp at this; omega
      clear hw hb2 hq hvb hv2 hv3 htab
      by_cases h0 : 0 ≤ v
      · have HD := Lib.hid (fun (W : World) (hW : Below w2.heap.size w2 W) => decimal_wide v W ⟨h0, hvb2⟩ (tabB HT2.out hW))
        cases he : ((dec v) == u.toList) with
        | true =>
          have heq : dec v = u.data.toList := by rw [← ByteArray.toList_eq]; exact beq_iff_eq.1 he
          by_cases h18 : u.size ≤ 18
          · have h18i : (u.size : Int) ≤ 18 := by omega
            have hl : (dec v).length ≤ 18 := by rw [heq, Array.length_toList]; exact h18
            have hr := dec_rdOk18 hl h0
            have HR := Lib.hid (show scPlace t = some v by have := HP.out.1 (by rw [← heq]; exact hr.1); rw [this, ← heq, hr.2])
            clear heq hl hr
            go_wp2_with fail
            refine (HD.out _ (by repeat (first | exact Below.refl _ _ | (refine Below.alloc ?_ (by first | omega | (simp; done) | (simp; omega)) _) | (refine Below.setCell ?_ (by first | exact Nat.le_refl _ | (show _ ≤ _; omega) | (simp; done) | (simp; omega)) _) | refine below_drewN ?_ _ | refine Below.drew ?_))).mono ?_
            rintro e w3 ⟨rfl, hb3⟩
            have HB3 := Lib.hid (Below.tr HB2.out hb3)
            go_wp2_with fail
            refine bodyPost_ret (v := .tuple #[.int .i64 v, .bool true]) (by simp [results, Tryz.results120, go_sem]) rfl ⟨HB3.out, v, by rw [HR.out]; rfl, fun i hi => by rw [HR.out] at hi; exact Option.some.inj hi⟩
          · have h18i : 18 < (u.size : Int) := by omega
            have HR := Lib.hid (show scPlace t = none by
              refine HP.out.2 ?_
              rw [← Bool.not_eq_true, rdOk_iff, Array.length_toList]
              intro q
              exact h18 q.2.1)
            clear heq
            go_wp2_with fail
            refine (HD.out _ (by repeat (first | exact Below.refl _ _ | (refine Below.alloc ?_ (by first | omega | (simp; done) | (simp; omega)) _) | (refine Below.setCell ?_ (by first | exact Nat.le_refl _ | (show _ ≤ _; omega) | (simp; done) | (simp; omega)) _) | refine below_drewN ?_ _ | refine Below.drew ?_))).mono ?_
            rintro e w3 ⟨rfl, hb3⟩
            have HB3 := Lib.hid (Below.tr HB2.out hb3)
            go_wp2_with fail
            refine bodyPost_ret (v := .tuple #[.int .i64 v, .bool false]) (by simp [results, Tryz.results120, go_sem, h18i]) rfl ⟨HB3.out, v, by rw [HR.out]; rfl, fun i hi => by rw [HR.out] at hi; cases hi⟩
        | false =>
          have HR := Lib.hid (show scPlace t = none by
            refine HP.out.2 ?_
            rw [← Bool.not_eq_true]
            intro q
            have k1 := pI_num q
            rw [HQ.out] at k1
            have k2 : v = numV u.data.toList := by have := k1.2; injection this
            have k3 := (rdOk_dec q).1
            rw [← k2, ← ByteArray.toList_eq] at k3
            rw [k3] at he
            simp at he)
          go_wp2_with fail
          refine (HD.out _ (by repeat (first | exact Below.refl _ _ | (refine Below.alloc ?_ (by first | omega | (simp; done) | (simp; omega)) _) | (refine Below.setCell ?_ (by first | exact Nat.le_refl _ | (show _ ≤ _; omega) | (simp; done) | (simp; omega)) _) | refine below_drewN ?_ _ | refine Below.drew ?_))).mono ?_
          rintro e w3 ⟨rfl, hb3⟩
          have HB3 := Lib.hid (Below.tr HB2.out hb3)
          go_wp2_with fail
          refine bodyPost_ret (v := .tuple #[.int .i64 v, .bool false]) (by simp [results, Tryz.results120, go_sem]) rfl ⟨HB3.out, v, by rw [HR.out]; rfl, fun i hi => by rw [HR.out] at hi; cases hi⟩
      · have HR := Lib.hid (show scPlace t = none by
          refine HP.out.2 ?_
          rw [← Bool.not_eq_true]
          intro q
          have k1 := pI_num q
          rw [HQ.out] at k1
          have k2 : v = numV u.data.toList := by have := k1.2; injection this
          have k3 := (rdOk_dec q).2
          rw [← k2] at k3
          exact h0 k3)
        go_wp2_with fail
        refine bodyPost_ret (v := .tuple #[.int .i64 v, .bool false]) (by simp [results, Tryz.results120, go_sem]) rfl ⟨HB2.out, v, by rw [HR.out]; rfl, fun i hi => by rw [HR.out] at hi; cases hi⟩
    | «syntax» =>
      have HR := Lib.hid (show scPlace t = none by
        refine HP.out.2 ?_
        rw [← Bool.not_eq_true]
        intro q
        have k1 := (pI_num q).2
        rw [hq] at k1
        cases k1)
      refine (Tryz.strconv_ParseInt_10_at64_syntax_var u (by omega) hq tp p _ hv2).mono ?_
      rintro e w2 ⟨N, rfl, _, _, hb2⟩
      have HB2 := Lib.hid hb2
      clear hv2 hv3 htab hq
      go_wp2_with fail
      refine bodyPost_ret (v := .tuple #[.int .i64 0, .bool false]) (by simp [results, Tryz.results120, go_sem]) rfl ⟨HB2.out, 0, by rw [HR.out]; rfl, fun i hi => by rw [HR.out] at hi; cases hi⟩
    | range =>
      have HR := Lib.hid (show scPlace t = none by
        refine HP.out.2 ?_
        rw [← Bool.not_eq_true]
        intro q
        have k1 := (pI_num q).2
        rw [hq] at k1
        cases k1)
      refine (Tryz.strconv_ParseInt_10_at64_range_var u (by omega) hq tq q _ hv3).mono ?_
      rintro e w2 ⟨N, rfl, _, _, hb2⟩
      have HB2 := Lib.hid hb2
      clear hv2 hv3 htab hq
      go_wp2_with fail
      refine bodyPost_ret (v := .tuple #[.int .i64 (Lib.intSat 64 u.data.toList), .bool false]) (by simp [results, Tryz.results120, go_sem]) rfl ⟨HB2.out, _, by rw [HR.out]; rfl, fun i hi => by rw [HR.out] at hi; cases hi⟩
  · obtain rfl := h2 h
    have HR := Lib.hid (place_off h)
    clear h1 h2 h
    go_wp2_with fail
    refine (parseInt_any t _ hs HV.out).mono ?_
    rintro e w2 ⟨hb2, ev, rfl⟩
    have HB2 := Lib.hid hb2
    go_wp2_with fail
    refine bodyPost_ret (v := .tuple #[.int .i64 (pI t.data.toList), .bool false]) (by simp [results, Tryz.results120, go_sem]) rfl ⟨HB2.out, _, by rw [HR.out]; rfl, fun i hi => by rw [HR.out] at hi; cases hi⟩
end Go.Proofs.YtbifijlenbibmaaGreatDoor

namespace Go.Proofs.YtbifijlenbibmaaGreatDoor
open Go.RowKit

theorem cut_one {xs : List GRule} {ls : List Int} {i : Int} (hl : lens xs = some ls) (h0 : 0 ≤ i) (h1 : i + 1 ≤ lastI ls) : (cutL (wordG xs) i (i + 1)).length = 1 := by
  have hw := wordG_len hl
  have := cutL_len (l := wordG xs) h0 (show i ≤ i + 1 by omega) (by omega)
  omega
set_option maxRecDepth 100000 in
set_option maxHeartbeats 1000000 in
/-- LetterAt of a right grammar. -/
theorem letterAt_any (v : Value) (xs : List GRule) (i : Int) (w : World) (h : Sl RuleE w w.heap.size v xs) (hg : gramOk xs = true) (h0 : 0 ≤ i) (hi : i ≤ 1000000000000000000) :
    Calls Tryz.prog 121 #[.agg #[v], .int .i64 i] w fun e w' => (∃ s c, e = .returned (.tuple #[.string s, .int .i64 c]) ∧ spokB s c = scLet xs i) ∧ Below w.heap.size w w' := by
  obtain ⟨hn, ls, hl⟩ := gram_lens hg
  have hV : lenV xs = lastI ls := by simp [lenV, hg, gramLen_of hl]
  have h1 := fun o => (h.below ((Below.refl w.heap.size w).alloc (Nat.le_refl _) o)).le (B' := (w.alloc o).heap.size) (by simp)
  have H1 := Lib.hid h1
  have HV := Lib.hid hV
  clear h1 hV
  obtain ⟨A, c, rfl, _⟩ := h
  have Hl := Lib.hid hl
  have hlast : 0 ≤ lastI ls ∧ lastI ls ≤ 1000000000000000 := lastI_bounds hl
  clear hl
  go_enter Tryz.func121, Tryz.ntmps121
  go_wp2_with fail
  refine (lengths_any _ xs _ (H1.out _) (by omega)).mono ?_
  rintro e w1 ⟨hb1, hpost⟩
  have hcase : ∃ vv, e = .returned (.tuple #[vv, .bool true]) ∧ Sl IntE w1 w1.heap.size vv ls := by
    rcases hpost with ⟨l2, vv, hl2, he, ho⟩ | ⟨hl2, he⟩
    · have e2 : l2 = ls := by have := Hl.out; rw [hl2] at this; exact Option.some.inj this
      subst e2
      exact ⟨vv, by rw [he]; simp [hn], ho.sl⟩
    · rw [Hl.out] at hl2; cases hl2
  obtain ⟨vv, rfl, hL⟩ := hcase
  have hz1 : w.heap.size < w1.heap.size := by have := hb1.size; simp at this; omega
  have a1 : w1.cell? ⟨w.heap.size, 0, none⟩ = some (.slice A xs.length c) := (hb1.cell (p := ⟨w.heap.size, 0, none⟩) (by simp)).trans (by simp [go_sem])
  have S1 := Lib.hid ((H1.out (Obj.cells #[Value.slice A xs.length c] 30)).up hb1)
  have B1 := Lib.hid (((Below.refl w.heap.size w).alloc (Nat.le_refl _) (Obj.cells #[Value.slice A xs.length c] 30)).trans (hb1.mono (by simp)))
  have HL := Lib.hid hL
  obtain ⟨AL, cL, rfl, _⟩ := hL
  have HLA := Lib.hid (fun (W : World) (hW : Below w1.heap.size w1 W) => last_any _ ls W (HL.out.up hW))
  clear hb1 hpost
  by_cases hlt : i < lastI ls
  · have hw1 : inR i 0 (lastI ls - 1) = true := by simp [inR, h0]; omega
    have HC := Lib.hid (cut_one Hl.out h0 (by omega))
    have HQ := Lib.hid (show scLet xs i = ⟨(cutL (wordG xs) i (i + 1)).toArray⟩ by unfold scLet; rw [HV.out, if_pos hlt])
    clear hlt
    go_wp2_with fail
    refine (HLA.out _ (by repeat (first | exact Below.refl _ _ | (refine Below.alloc ?_ (by first | omega | (simp; done) | (simp; omega)) _) | (refine Below.setCell ?_ (by first | exact Nat.le_refl _ | (show _ ≤ _; omega) | (simp; done) | (simp; omega)) _) | refine below_drewN ?_ _ | refine Below.drew ?_))).mono ?_
    rintro e w' ⟨rfl, rfl⟩
    go_wp2_with fail
    refine (within_yes _ _ _ _ hw1).mono ?_
    rintro e w' ⟨rfl, rfl⟩
    go_wp2_with fail
    refine (unpack_any _ _ xs ls i (i + 1) _ S1.out HL.out Hl.out (by omega) (by rw [HC.out]; omega)).mono ?_
    rintro e w2 ⟨rfl, hb2⟩
    go_wp2_with fail
    go_ret2
    exact ⟨⟨_, _, rfl, by rw [HQ.out]; rfl⟩, B1.out.trans (hb2.mono (by omega))⟩
  · have hw1 : inR i 0 (lastI ls - 1) = false := by rw [← Bool.not_eq_true]; simp [inR]; omega
    have HQ := Lib.hid (show scLet xs i = errB 2 by unfold scLet; rw [HV.out, if_neg hlt])
    clear hlt
    go_wp2_with fail
    refine (HLA.out _ (by repeat (first | exact Below.refl _ _ | (refine Below.alloc ?_ (by first | omega | (simp; done) | (simp; omega)) _) | (refine Below.setCell ?_ (by first | exact Nat.le_refl _ | (show _ ≤ _; omega) | (simp; done) | (simp; omega)) _) | refine below_drewN ?_ _ | refine Below.drew ?_))).mono ?_
    rintro e w' ⟨rfl, rfl⟩
    go_wp2_with fail
    refine (within_no _ _ _ _ hw1).mono ?_
    rintro e w' ⟨rfl, rfl⟩
    go_wp2_with fail
    go_ret2
    exact ⟨⟨_, _, rfl, by rw [HQ.out]; rfl⟩, B1.out⟩
end Go.Proofs.YtbifijlenbibmaaGreatDoor

namespace Go.Proofs.YtbifijlenbibmaaGreatDoor
open Go.RowKit

/-- The pieces, and four empty ones. -/
def pcs (t : ByteArray) : List ByteArray := splB 32 t ++ [⟨#[]⟩, ⟨#[]⟩, ⟨#[]⟩, ⟨#[]⟩]
theorem pcs_get (t : ByteArray) (i : Nat) (h : i < 4) : (pcs t)[i]? = some ((splB 32 t).getD i eB) := by
  unfold pcs
  rcases Nat.lt_or_ge i (splB 32 t).length with hl | hl
  · rw [List.getElem?_append_left hl, List.getD_eq_getElem?_getD, List.getElem?_eq_getElem hl]; rfl
  · rw [List.getElem?_append_right hl, List.getD_eq_getElem?_getD, List.getElem?_eq_none hl]
    have : i - (splB 32 t).length < 4 := by omega
    generalize i - (splB 32 t).length = j at this
    have : j = 0 ∨ j = 1 ∨ j = 2 ∨ j = 3 := by omega
    rcases this with rfl | rfl | rfl | rfl <;> rfl
theorem pcs_size (t : ByteArray) (i : Nat) : ((splB 32 t).getD i eB).size ≤ t.size := by
  rw [List.getD_eq_getElem?_getD]
  cases h : (splB 32 t)[i]? with
  | none => exact Nat.zero_le _
  | some x => exact splB_size (List.mem_of_getElem? h)
/-- The edit, the form of its kind, and what stood there before. -/
structure RdF (wP w4 w6 wx : World) (X : ByteArray) (bJ bK b1 b7 : Bool) (e : GEdit) (v : Value) : Prop where
  bel : Below wP.heap.size wP wx
  frm : Blk wx w4.heap.size #[.string X, .bool bJ, .bool bK, .bool b1, .bool b7] 121
  st : RdSt w6 wx e v
theorem RdF.up {wP w4 w6 wx w' : World} {X : ByteArray} {bJ bK b1 b7 : Bool} {e : GEdit} {v : Value} (h : RdF wP w4 w6 wx X bJ bK b1 b7 e v) (hb : Below wx.heap.size wx w') : RdF wP w4 w6 w' X bJ bK b1 b7 e v :=
  ⟨Below.tr h.bel hb, h.frm.up hb, h.st.up hb⟩
theorem RdF.put {wP w4 w6 wx : World} {X : ByteArray} {bJ bK b1 b7 : Bool} {e e' : GEdit} {v v' u : Value} {o : Nat} (h : RdF wP w4 w6 wx X bJ bK b1 b7 e v) (hs : RdSt w6 (wx.setCell ⟨w6.heap.size, o, none⟩ u) e' v') (h1 : wP.heap.size ≤ w6.heap.size) (h2 : w4.heap.size < w6.heap.size) : RdF wP w4 w6 (wx.setCell ⟨w6.heap.size, o, none⟩ u) X bJ bK b1 b7 e' v' :=
  ⟨Below.setCell h.bel h1 _, Blk.other h.frm (p := ⟨w6.heap.size, o, none⟩) (Nat.ne_of_lt h2) _, hs⟩
set_option maxRecDepth 100000 in
set_option maxHeartbeats 8000000 in
theorem implRead_any (t : ByteArray) (w : World) (hs : t.size ≤ 1048576) (hv : RdVars w) :
    Calls Tryz.prog 21 #[.string t] w (RERes (rdOut t) (rdCode t) w) := by
  have HV := Lib.hid hv
  clear hv
  have HV1 := Lib.hid (fun o => HV.out.up ((Below.refl w.heap.size w).alloc (Nat.le_refl _) o))
  go_enter Tryz.func21, Tryz.ntmps21
  go_wp2_with fail
  refine (split_any t _ hs (HV1.out _)).mono ?_
  rintro e w1 ⟨hb1, v, own, rfl⟩
  have KR1 : Blk w1 w.heap.size #[.int .i64 0, .int .i64 0, .int .i64 0, .int .i64 0, .slice none 0 0, .string ⟨#[]⟩] 46 := by have := (Below.unalloc hb1).2; simpa [Blk] using this
  replace hb1 := (Below.unalloc hb1).1
  have hll : (splB 32 t).length ≤ 1099511627776 := by
    have : (splB 32 t).length ≤ 1048577 := by
      rw [← splitB_eq, Lib.splitB_all ⟨#[32]⟩ (by decide) 0 _ t rfl]
      have := Lib.countB_le ⟨#[32]⟩ (by decide) t.size t (Nat.le_refl _); omega
    omega
  have HLL := Lib.hid hll
  have HO1 := Lib.hid own
  have HB1 := Lib.hid hb1
  have HK1 := Lib.hid KR1
  have hz1 : (w.alloc (.cells #[.int .i64 0, .int .i64 0, .int .i64 0, .int .i64 0, .slice none 0 0, .string ⟨#[]⟩] 46)).heap.size ≤ w1.heap.size := by simp; exact KR1.lt
  have HZ1 := Lib.hid hz1
  clear hll own hb1 KR1 hz1
  go_wp2_with (first
    | (at_builtin; refine push_word4 rfl _ _ rfl (by rfl) (by rfl) rfl HO1.out HLL.out HZ1.out ?_; intro v3 w3 own3 hb3; obtain ⟨g, cL, rfl, _, hgl, _⟩ := own_form own3 (by simp)))
  have KR3 : Blk w3 w.heap.size #[.int .i64 0, .int .i64 0, .int .i64 0, .int .i64 0, .slice none 0 0, .string ⟨#[]⟩] 46 := (hb3.block _ (by simp)).trans HK1.out
  have HB3 : Below w.heap.size w w3 := Below.trans HB1.out (Below.mono hb3 (by simp))
  obtain ⟨L, hL⟩ : ∃ L, splB 32 t ++ [⟨#[]⟩, ⟨#[]⟩, ⟨#[]⟩, ⟨#[]⟩] = L := ⟨_, rfl⟩
  rw [hL] at own3
  have eL : (splB 32 t).length + 4 = L.length := by rw [← hL]; simp
  rw [eL]
  have ba := (Below.refl w3.heap.size w3).alloc (Nat.le_refl _) (.cells #[.slice (some ⟨g, 0, none⟩) L.length cL] 77)
  have HPP := Lib.hid (Blk.new w3 #[.slice (some ⟨g, 0, none⟩) L.length cL] 77)
  have HLP := Lib.hid (show OwnW _ _ _ L from ownsRow_below own3 ba)
  have HRP := Lib.hid (KR3.up ba)
  have HBP := Lib.hid (Below.tr HB3 ba)
  have HVP := Lib.hid (HV.out.up HBP.out)
  have hzP : w3.heap.size < (w3.alloc (.cells #[.slice (some ⟨g, 0, none⟩) L.length cL] 77)).heap.size := by simp
  have HL := Lib.hid hL
  clear own3 hb3 KR3 HB3 ba HV HV1 HO1 HB1 HK1 HZ1 HLL eL hL
  revert HPP HLP HRP HBP HVP hzP
  generalize (w3.alloc (.cells #[.slice (some ⟨g, 0, none⟩) L.length cL] 77)) = wP
  intro HPP HLP HRP HBP HVP hzP
  have hgP : g < wP.heap.size := Nat.lt_trans hgl hzP
  obtain ⟨X, hX⟩ : ∃ X, (splB 32 t).getD 0 eB = X := ⟨_, rfl⟩
  have HX := Lib.hid hX
  have hL4 : 4 ≤ L.length := by rw [← HL.out]; simp
  have hget : ∀ i, i < 4 → L[i]? = some ((splB 32 t).getD i eB) := fun i hi => by rw [← HL.out]; exact pcs_get t i hi
  have HG := Lib.hid hget
  have hXh : (splB 32 t).headD eB = X := by rw [← hX]; cases splB 32 t <;> rfl
  have HXH := Lib.hid hXh
  clear hX hget hXh
  go_loopw [6] (fun k wx => ∃ m : Nat, 1 ≤ m ∧ m ≤ 8 ∧ k = .int .i64 m ∧ Hid (Below wP.heap.size wP wx) ∧ Hid (∀ j : Nat, 1 ≤ j → j < m → (⟨(wordE (j : Int)).toArray⟩ : ByteArray) = X → rdTry (j : Int) (splB 32 t) t = none)) (fun k _ => 8 - (intOf k).toNat)
  case atStart => exact ⟨1, Nat.le_refl _, by omega, rfl, Lib.hid (Below.refl _ _), Lib.hid (fun j h1 h2 => by omega)⟩
  case round =>
    obtain ⟨m, hm1, hm8, rfl, HB, HN⟩ := hrel
    by_cases hlt : m < 8
    · have hm7 : (m : Int) ≤ 7 := by omega
      have hk7 : inR (m : Int) 1 7 = true := by simp [inR]; omega
      go_wp2_with fail
      refine (formOf_word (m : Int) _ hk7).mono ?_
      rintro e w4 ⟨rfl, hb4⟩
      obtain ⟨bJ, hbJ⟩ : ∃ b, usesJ (m : Int) = b := ⟨_, rfl⟩
      obtain ⟨bK, hbK⟩ : ∃ b, usesK (m : Int) = b := ⟨_, rfl⟩
      obtain ⟨b1, hb1⟩ : ∃ b, ((m : Int) == 1) = b := ⟨_, rfl⟩
      obtain ⟨b7, hb7⟩ : ∃ b, ((m : Int) == 7) = b := ⟨_, rfl⟩
      rw [hbJ, hbK, hb1, hb7]
      have HFJ := Lib.hid hbJ
      have HFK := Lib.hid hbK
      have HF1 := Lib.hid hb1
      have HF7 := Lib.hid hb7
      clear hbJ hbK hb1 hb7
      have HB4 := Lib.hid (Below.tr HB.out hb4)
      have cP := Blk.cell (i := 0) (v := .slice (some ⟨g, 0, none⟩) L.length cL) (HPP.out.up HB4.out) rfl
      have lP := Blk.lt (HPP.out.up HB4.out)
      have cX := (HB4.out.cell (p := ⟨g, 0, none⟩) hgP).trans (OwnW.at HLP.out (k := 0) (x := X) (by rw [HG.out 0 (by omega), HX.out]))
      have hgw : g < w4.heap.size := Nat.lt_of_lt_of_le hgP HB4.out.size
      clear hb4
      cases hq : (wordE (m : Int) == X.toList) with
      | false =>
        have HN2 : Hid (∀ j : Nat, 1 ≤ j → j < m + 1 → (⟨(wordE (j : Int)).toArray⟩ : ByteArray) = X → rdTry (j : Int) (splB 32 t) t = none) := by
          intro j h1 h2 h3
          rcases Nat.lt_or_ge j m with h | h
          · exact HN.out j h1 h h3
          · have : j = m := by omega
            subst this
            rw [(weq _ _).2 h3] at hq; cases hq
        go_wp2_with fail
        go_quiet (fail)
        go_wp2_with fail
        exact ⟨⟨m + 1, by omega, by omega, by go_num, Lib.hid (below_drewN (Below.alloc HB4.out (Below.size HB4.out) _) nq), HN2⟩, by simp [intOf]; omega⟩
      | true =>
        have hqX := (weq _ _).1 hq
        have HQX := Lib.hid hqX
        obtain ⟨x1, hx1⟩ : ∃ x, (splB 32 t).getD 1 eB = x := ⟨_, rfl⟩
        obtain ⟨x2, hx2⟩ : ∃ x, (splB 32 t).getD 2 eB = x := ⟨_, rfl⟩
        obtain ⟨x3, hx3⟩ : ∃ x, (splB 32 t).getD 3 eB = x := ⟨_, rfl⟩
        have HS1 := Lib.hid (show x1.size ≤ 1048576 by rw [← hx1]; exact Nat.le_trans (pcs_size t 1) hs)
        have HS2 := Lib.hid (show x2.size ≤ 1048576 by rw [← hx2]; exact Nat.le_trans (pcs_size t 2) hs)
        have HS3 := Lib.hid (show x3.size ≤ 1048576 by rw [← hx3]; exact Nat.le_trans (pcs_size t 3) hs)
        have HC1 := Lib.hid (OwnW.at HLP.out (k := 1) (x := x1) (by rw [HG.out 1 (by omega), hx1]))
        have HC2 := Lib.hid (OwnW.at HLP.out (k := 2) (x := x2) (by rw [HG.out 2 (by omega), hx2]))
        have HC3 := Lib.hid (OwnW.at HLP.out (k := 3) (x := x3) (by rw [HG.out 3 (by omega), hx3]))
        have HMK := Lib.hid (show rdMk (m : Int) (splB 32 t) = ⟨(m : Int), pI x1.data.toList, if usesJ (m : Int) then pI x2.data.toList else 0, if usesK (m : Int) then pI x3.data.toList else 0, if (m : Int) == 1 then plainG x2 else [], if (m : Int) == 7 then x3 else eB⟩ by unfold rdMk; rw [hx1, hx2, hx3])
        have HX2 := Lib.hid hx2
        have h1L : (1 : Nat) < L.length := by omega
        have h2L : (2 : Nat) < L.length := by omega
        have h3L : (3 : Nat) < L.length := by omega
        clear hx1 hx2 hx3
        go_wp2_with fail
        go_quiet (fail)
        go_wp2_with fail
        have HB5 := Lib.hid (below_drewN (Below.alloc HB4.out (Below.size HB4.out) (.cells #[.string X, .bool bJ, .bool bK, .bool b1, .bool b7] 121)) nq)
        have KF5 := Lib.hid (show Blk ((w4.alloc (.cells #[.string X, .bool bJ, .bool bK, .bool b1, .bool b7] 121)).drewN nq) w4.heap.size _ _ from Blk.new w4 #[.string X, .bool bJ, .bool bK, .bool b1, .bool b7] 121)
        clear cP lP cX
        revert HB5 KF5
        generalize ((w4.alloc (.cells #[.string X, .bool bJ, .bool bK, .bool b1, .bool b7] 121)).drewN nq) = w5
        intro HB5 KF5
        refine (number_any w3.heap.size g cL 1 L x1 _ (HPP.out.up HB5.out) ((HB5.out.cell (p := ⟨g, 1, none⟩) hgP).trans HC1.out) h1L HS1.out (HVP.out.up HB5.out)).mono ?_
        rintro r w6 ⟨hb6, rfl⟩
        have HB6 := Lib.hid (Below.tr HB5.out hb6)
        have KF6 := Lib.hid (KF5.out.up hb6)
        have h46 : w4.heap.size < w6.heap.size := Blk.lt KF6.out
        have hP6 : wP.heap.size ≤ w6.heap.size := HB6.out.size
        obtain ⟨i1, hi1⟩ : ∃ i, pI x1.data.toList = i := ⟨_, rfl⟩
        rw [hi1] at HMK
        rw [hi1]
        obtain ⟨jj, hjj⟩ : ∃ j, (if usesJ (m : Int) then pI x2.data.toList else 0) = j := ⟨_, rfl⟩
        obtain ⟨kk, hkk⟩ : ∃ j, (if usesK (m : Int) then pI x3.data.toList else 0) = j := ⟨_, rfl⟩
        obtain ⟨pp, hpp⟩ : ∃ j, (if (m : Int) == 1 then plainG x2 else []) = j := ⟨_, rfl⟩
        obtain ⟨mm, hmm⟩ : ∃ j, (if (m : Int) == 7 then x3 else eB) = j := ⟨_, rfl⟩
        rw [hjj, hkk, hpp, hmm] at HMK
        have HJJ := Lib.hid hjj
        have HKK := Lib.hid hkk
        have HPQ := Lib.hid hpp
        have HMM := Lib.hid hmm
        clear hi1 hjj hkk hpp hmm hb6
        have ba := (Below.refl w6.heap.size w6).alloc (Nat.le_refl _) (.cells #[.int .i64 m, .int .i64 i1, .int .i64 0, .int .i64 0, .slice none 0 0, .string ⟨#[]⟩] 46)
        have F7 := Lib.hid (show RdF wP w4 w6 (w6.alloc (.cells #[.int .i64 m, .int .i64 i1, .int .i64 0, .int .i64 0, .slice none 0 0, .string ⟨#[]⟩] 46)) X bJ bK b1 b7 ⟨(m : Int), i1, 0, 0, [], ⟨#[]⟩⟩ (.slice none 0 0) from ⟨Below.tr HB6.out ba, KF6.out.up ba, ⟨ba, Blk.new _ _ _, World.ownsRow_nil _ _ _ _⟩⟩)
        clear ba
        go_upto_region 9 with fail
        revert F7
        generalize (w6.alloc (.cells #[.int .i64 m, .int .i64 i1, .int .i64 0, .int .i64 0, .slice none 0 0, .string ⟨#[]⟩] 46)) = w7
        intro F7
        have f1 := Blk.cell (i := 1) (v := .bool bJ) F7.out.frm rfl
        have lf := Blk.lt F7.out.frm
        go_upto_if 37 with fail
        clear f1 lf
        go_cut [] from 38 to 40 (fun wx => RdF wP w4 w6 wx X bJ bK b1 b7 ⟨(m : Int), i1, jj, 0, [], ⟨#[]⟩⟩ (.slice none 0 0))
        case first =>
          cases bJ with
          | false =>
            have : jj = 0 := by rw [← HJJ.out, HFJ.out]; rfl
            subst this
            go_wp2
            go_meet
            exact F7.out
          | true =>
            have : pI x2.data.toList = jj := by rw [← HJJ.out, HFJ.out]; rfl
            go_wp2_with fail
            refine (number_any w3.heap.size g cL 2 L x2 _ (HPP.out.up F7.out.bel) ((F7.out.bel.cell (p := ⟨g, 2, none⟩) hgP).trans HC2.out) h2L HS2.out (HVP.out.up F7.out.bel)).mono ?_
            rintro r w8 ⟨hb8, rfl⟩
            rw [this]
            have F8 := Lib.hid (F7.out.up hb8)
            have ce := Blk.cell (i := 2) (v := .int .i64 0) F8.out.st.box rfl
            have ze := Blk.frozen F8.out.st.box 2
            have le := Blk.lt F8.out.st.box
            clear hb8
            go_wp2_with fail
            go_meet
            exact F8.out.put (F8.out.st.set2 jj) hP6 h46
        case rest =>
          revert hcut
          generalize wc = w9
          intro hcut
          have F9 := Lib.hid hcut
          clear hcut F7
          have f2 := Blk.cell (i := 2) (v := .bool bK) F9.out.frm rfl
          have lf := Blk.lt F9.out.frm
          go_upto_if 42 with fail
          clear f2 lf
          go_cut [] from 43 to 45 (fun wx => RdF wP w4 w6 wx X bJ bK b1 b7 ⟨(m : Int), i1, jj, kk, [], ⟨#[]⟩⟩ (.slice none 0 0))
          case first =>
            cases bK with
            | false =>
              have : kk = 0 := by rw [← HKK.out, HFK.out]; rfl
              subst this
              go_wp2
              go_meet
              exact F9.out
            | true =>
              have : pI x3.data.toList = kk := by rw [← HKK.out, HFK.out]; rfl
              go_wp2_with fail
              refine (number_any w3.heap.size g cL 3 L x3 _ (HPP.out.up F9.out.bel) ((F9.out.bel.cell (p := ⟨g, 3, none⟩) hgP).trans HC3.out) h3L HS3.out (HVP.out.up F9.out.bel)).mono ?_
              rintro r w10 ⟨hb10, rfl⟩
              rw [this]
              have F10 := Lib.hid (F9.out.up hb10)
              have ce := Blk.cell (i := 3) (v := .int .i64 0) F10.out.st.box rfl
              have ze := Blk.frozen F10.out.st.box 3
              have le := Blk.lt F10.out.st.box
              clear hb10
              go_wp2_with fail
              go_meet
              exact F10.out.put (F10.out.st.set3 kk) hP6 h46
          case rest =>
            revert hcut
            generalize wc = w11
            intro hcut
            have F11 := Lib.hid hcut
            clear hcut F9
            have f3 := Blk.cell (i := 3) (v := .bool b1) F11.out.frm rfl
            have lf := Blk.lt F11.out.frm
            go_upto_if 47 with fail
            clear f3 lf
            go_cut [10, 11] from 48 to 59 (fun _ _ wx => ∃ (AP : Option Addr) (cP : Nat), RdF wP w4 w6 wx X bJ bK b1 b7 ⟨(m : Int), i1, jj, kk, pp, ⟨#[]⟩⟩ (.slice AP pp.length cP) ∧ (b1 = true → pgOk x2 = true))
            case first =>
              cases b1 with
              | false =>
                have : pp = [] := by rw [← HPQ.out, HF1.out]; rfl
                subst this
                go_wp2
                go_meet
                exact ⟨none, 0, F11.out, fun h => by cases h⟩
              | true =>
                have HPE := Lib.hid (show plainG x2 = pp by rw [← HPQ.out, HF1.out]; rfl)
                have cP := Blk.cell (i := 0) (v := .slice (some ⟨g, 0, none⟩) L.length cL) (HPP.out.up F11.out.bel) rfl
                have lP := Blk.lt (HPP.out.up F11.out.bel)
                have c2 := (F11.out.bel.cell (p := ⟨g, 2, none⟩) hgP).trans HC2.out
                have h2I : (2 : Int) < (L.length : Int) := by omega
                go_wp2_with fail
                refine (implPlainG_any x2 _ HS2.out).mono ?_
                rintro r w12 ⟨hb12, v12, own12, rfl⟩
                have F12 := Lib.hid (F11.out.up hb12)
                obtain ⟨A12, c12, rfl, _⟩ := own_nil own12
                have HO12 := Lib.hid own12
                have h612 : w6.heap.size < w11.heap.size := Blk.lt F11.out.st.box
                clear own12 hb12 cP lP c2
                cases hpg : pgOk x2 with
                | false =>
                  have HNO := Lib.hid (show rdSpec t = none by rw [← rd_eq]; unfold rdImp; rw [HXH.out, kf_eq hm1 hlt HQX.out, if_neg (by omega)]; unfold rdTry; rw [HF1.out]; have := HX2.out; rw [this, hpg]; rfl)
                  have hc := pg_no hpg
                  obtain ⟨cd, hcd⟩ : ∃ c, pgCode x2 = c := ⟨_, rfl⟩
                  have hc0 : ¬ cd = 0 := by rw [← hcd]; rcases hc with h | h <;> rw [h] <;> decide
                  rw [hcd]
                  clear hc hcd hpg
                  have ba := Below.alloc (Below.refl w12.heap.size w12) (Nat.le_refl _) (.cells #[.slice A12 (pgOut x2).length c12] 30)
                  have HBA := Lib.hid (Below.tr F12.out.bel ba)
                  clear ba
                  have KR := HRP.out.up HBA.out
                  have hbW := Lib.hid (Below.tr HBP.out HBA.out)
                  have r0 := Blk.cell (i := 0) (v := .int .i64 0) KR rfl
                  have q0 := Blk.frozen KR 0
                  have r1 := Blk.cell (i := 1) (v := .int .i64 0) KR rfl
                  have q1 := Blk.frozen KR 1
                  have r2 := Blk.cell (i := 2) (v := .int .i64 0) KR rfl
                  have q2 := Blk.frozen KR 2
                  have r3 := Blk.cell (i := 3) (v := .int .i64 0) KR rfl
                  have q3 := Blk.frozen KR 3
                  have r4 := Blk.cell (i := 4) (v := .slice none 0 0) KR rfl
                  have q4 := Blk.frozen KR 4
                  have r5 := Blk.cell (i := 5) (v := .string ⟨#[]⟩) KR rfl
                  have q5 := Blk.frozen KR 5
                  have lR := Blk.lt KR
                  have HKX := Lib.hid KR
                  clear KR
                  go_wp2_with fail
                  obtain ⟨⟨hf, _⟩, x0, x1, x2, x3, x4, x5⟩ := fin6 HKX.out hbW.out (.int .i64 0) (.int .i64 0) (.int .i64 0) (.int .i64 0) (.slice none 0 0) (.string ⟨#[]⟩)
                  exact bodyPost_ret (v := .tuple #[.agg #[.int .i64 0, .int .i64 0, .int .i64 0, .int .i64 0, .slice none 0 0, .string ⟨#[]⟩], .int .i64 5]) (by simp [results, Tryz.results21, go_sem, x0, x1, x2, x3, x4, x5]) rfl ⟨hf, .slice none 0 0, by rw [(rd_none HNO.out).1]; exact World.ownsRow_nil _ _ _ _, by rw [(rd_none HNO.out).1, (rd_none HNO.out).2]; rfl⟩
                | true =>
                  have hp := pg_yes hpg
                  have HPY := Lib.hid hpg
                  rw [hp.1]
                  have hpo : pgOut x2 = pp := by rw [hp.2, HPE.out]
                  rw [hpo] at HO12
                  rw [hpo]
                  have ba := Below.alloc (Below.refl w12.heap.size w12) (Nat.le_refl _) (.cells #[.slice A12 pp.length c12] 30)
                  have F13 := Lib.hid (F12.out.up ba)
                  have HO13 := Lib.hid (OwnRules.below HO12.out ba)
                  have KP13 := Lib.hid (Blk.new w12 #[.slice A12 pp.length c12] 30)
                  clear hp hpg hpo ba HO12 F12
                  go_upto_region 15 with fail
                  revert F13 HO13 KP13
                  generalize (w12.alloc (.cells #[.slice A12 pp.length c12] 30)) = w13
                  intro F13 HO13 KP13
                  have cp := Blk.cell (i := 0) (v := .slice A12 pp.length c12) KP13.out rfl
                  have lp := Blk.lt KP13.out
                  have ce := Blk.cell (i := 4) (v := .slice none 0 0) F13.out.st.box rfl
                  have ze := Blk.frozen F13.out.st.box 4
                  have le := Blk.lt F13.out.st.box
                  go_wp2_with fail
                  go_meet
                  exact ⟨A12, c12, F13.out.put (F13.out.st.set4 HO13.out h612) hP6 h46, fun _ => HPY.out⟩
            case rest =>
              revert hcut
              generalize wc = w14
              intro hcut
              obtain ⟨AP, cP, hF, hpg⟩ := hcut
              have F14 := Lib.hid hF
              have HPG := Lib.hid hpg
              clear hF hpg F11
              have f4 := Blk.cell (i := 4) (v := .bool b7) F14.out.frm rfl
              have lf := Blk.lt F14.out.frm
              go_upto_if 61 with fail
              clear f4 lf
              go_cut [] from 62 to 65 (fun wx => RdF wP w4 w6 wx X bJ bK b1 b7 ⟨(m : Int), i1, jj, kk, pp, mm⟩ (.slice AP pp.length cP))
              case first =>
                cases b7 with
                | false =>
                  have : mm = ⟨#[]⟩ := by rw [← HMM.out, HF7.out]; rfl
                  subst this
                  go_wp2
                  go_meet
                  exact F14.out
                | true =>
                  have : x3 = mm := by rw [← HMM.out, HF7.out]; rfl
                  have cPP := Blk.cell (i := 0) (v := .slice (some ⟨g, 0, none⟩) L.length cL) (HPP.out.up F14.out.bel) rfl
                  have lP := Blk.lt (HPP.out.up F14.out.bel)
                  have c3 := (F14.out.bel.cell (p := ⟨g, 3, none⟩) hgP).trans HC3.out
                  have h3I : (3 : Int) < (L.length : Int) := by omega
                  rw [this] at c3
                  have ce := Blk.cell (i := 5) (v := .string ⟨#[]⟩) F14.out.st.box rfl
                  have ze := Blk.frozen F14.out.st.box 5
                  have le := Blk.lt F14.out.st.box
                  clear this
                  go_wp2_with fail
                  go_meet
                  exact F14.out.put (F14.out.st.set5 mm) hP6 h46
              case rest =>
                revert hcut
                generalize wc = w15
                intro hcut
                have F15 := Lib.hid hcut
                clear hcut F14
                have hppl : pp.length ≤ 1048576 := by
                  rw [← HPQ.out]
                  rw [HF1.out]
                  cases hb : b1 with
                  | false => simp
                  | true =>
                    have hp := HPG.out hb
                    simp only [pgOk, Bool.and_eq_true] at hp
                    have := (gram_lens hp.2).1
                    simp only [if_true]
                    omega
                have hmml : mm.size ≤ maxLen := by
                  rw [← HMM.out]
                  split
                  · have := HS3.out; unfold maxLen; omega
                  · exact Nat.zero_le _
                have HC0 := Lib.hid (show ((m : Int) == 1 && !pgOk ((splB 32 t).getD 2 eB)) = false by
                  rw [HF1.out]; have := HX2.out; rw [this]
                  cases hb : b1 with
                  | false => rfl
                  | true => rw [HPG.out hb]; rfl)
                have HTRY := Lib.hid (show rdTry (m : Int) (splB 32 t) t = if editOk ⟨(m : Int), i1, jj, kk, pp, mm⟩ && (etV ⟨(m : Int), i1, jj, kk, pp, mm⟩ == t.data.toList) then some ⟨(m : Int), i1, jj, kk, pp, mm⟩ else none by unfold rdTry; rw [HC0.out, HMK.out]; rfl)
                have HPPL := Lib.hid hppl
                have HMML := Lib.hid hmml
                have HN3 := Lib.hid (fun (hn : rdTry (m : Int) (splB 32 t) t = none) => (show ∀ j : Nat, 1 ≤ j → j < m + 1 → (⟨(wordE (j : Int)).toArray⟩ : ByteArray) = X → rdTry (j : Int) (splB 32 t) t = none from fun j h1 h2 h3 => by
                  rcases Nat.lt_or_ge j m with h | h
                  · exact HN.out j h1 h h3
                  · have : j = m := by omega
                    subst this
                    exact hn))
                clear hppl hmml
                have g0 := Blk.cell (i := 0) (v := .int .i64 (m : Int)) F15.out.st.box rfl
                have g1 := Blk.cell (i := 1) (v := .int .i64 i1) F15.out.st.box rfl
                have g2 := Blk.cell (i := 2) (v := .int .i64 jj) F15.out.st.box rfl
                have g3 := Blk.cell (i := 3) (v := .int .i64 kk) F15.out.st.box rfl
                have g4 := Blk.cell (i := 4) (v := .slice AP pp.length cP) F15.out.st.box rfl
                have g5 := Blk.cell (i := 5) (v := .string mm) F15.out.st.box rfl
                have lE := Blk.lt F15.out.st.box
                go_wp2_with fail
                refine (implValidEdit_any _ ⟨(m : Int), i1, jj, kk, pp, mm⟩ _ ⟨_, rfl, OwnRules.sl F15.out.st.own⟩ (by have := HPPL.out; show pp.length ≤ _; omega) HMML.out).mono ?_
                rintro r w16 ⟨rfl, hb16⟩
                have F16 := Lib.hid (F15.out.up hb16)
                clear hb16 g0 g1 g2 g3 g4 g5 lE
                cases hok : editOk ⟨(m : Int), i1, jj, kk, pp, mm⟩ with
                | false =>
                  have HNN := Lib.hid (HN3.out (by rw [HTRY.out, hok]; rfl))
                  clear hok
                  go_wp2_with fail
                  exact ⟨⟨m + 1, by omega, by omega, by go_num, Lib.hid F16.out.bel, HNN⟩, by simp [intOf]; omega⟩
                | true =>
                  have HOK := Lib.hid hok
                  clear hok
                  have g0 := Blk.cell (i := 0) (v := .int .i64 (m : Int)) F16.out.st.box rfl
                  have g1 := Blk.cell (i := 1) (v := .int .i64 i1) F16.out.st.box rfl
                  have g2 := Blk.cell (i := 2) (v := .int .i64 jj) F16.out.st.box rfl
                  have g3 := Blk.cell (i := 3) (v := .int .i64 kk) F16.out.st.box rfl
                  have g4 := Blk.cell (i := 4) (v := .slice AP pp.length cP) F16.out.st.box rfl
                  have g5 := Blk.cell (i := 5) (v := .string mm) F16.out.st.box rfl
                  have lE := Blk.lt F16.out.st.box
                  go_wp2_with fail
                  refine (implEditText_any _ ⟨(m : Int), i1, jj, kk, pp, mm⟩ _ ⟨_, rfl, OwnRules.sl F16.out.st.own⟩ HPPL.out HMML.out (HVP.out.up F16.out.bel).tab).mono ?_
                  rintro r w17 ⟨rfl, hb17⟩
                  have F17 := Lib.hid (F16.out.up hb17)
                  clear hb17 g0 g1 g2 g3 g4 g5 lE
                  cases hcmp : (etV ⟨(m : Int), i1, jj, kk, pp, mm⟩ == t.toList) with
                  | false =>
                    have HNN := Lib.hid (HN3.out (by rw [HTRY.out, HOK.out, ← ByteArray.toList_eq, hcmp]; rfl))
                    go_wp2_with fail
                    exact ⟨⟨m + 1, by omega, by omega, by go_num, Lib.hid F17.out.bel, HNN⟩, by simp [intOf]; omega⟩
                  | true =>
                    have HYES := Lib.hid (show rdSpec t = some ⟨(m : Int), i1, jj, kk, pp, mm⟩ by rw [← rd_eq]; unfold rdImp; rw [HXH.out, kf_eq hm1 hlt HQX.out, if_neg (by omega), HTRY.out, HOK.out, ← ByteArray.toList_eq, hcmp]; rfl)
                    have KR := HRP.out.up F17.out.bel
                    have hbW := Lib.hid (Below.tr HBP.out F17.out.bel)
                    have r0 := Blk.cell (i := 0) (v := .int .i64 0) KR rfl
                    have q0 := Blk.frozen KR 0
                    have r1 := Blk.cell (i := 1) (v := .int .i64 0) KR rfl
                    have q1 := Blk.frozen KR 1
                    have r2 := Blk.cell (i := 2) (v := .int .i64 0) KR rfl
                    have q2 := Blk.frozen KR 2
                    have r3 := Blk.cell (i := 3) (v := .int .i64 0) KR rfl
                    have q3 := Blk.frozen KR 3
                    have r4 := Blk.cell (i := 4) (v := .slice none 0 0) KR rfl
                    have q4 := Blk.frozen KR 4
                    have r5 := Blk.cell (i := 5) (v := .string ⟨#[]⟩) KR rfl
                    have q5 := Blk.frozen KR 5
                    have g0 := Blk.cell (i := 0) (v := .int .i64 (m : Int)) F17.out.st.box rfl
                    have g1 := Blk.cell (i := 1) (v := .int .i64 i1) F17.out.st.box rfl
                    have g2 := Blk.cell (i := 2) (v := .int .i64 jj) F17.out.st.box rfl
                    have g3 := Blk.cell (i := 3) (v := .int .i64 kk) F17.out.st.box rfl
                    have g4 := Blk.cell (i := 4) (v := .slice AP pp.length cP) F17.out.st.box rfl
                    have g5 := Blk.cell (i := 5) (v := .string mm) F17.out.st.box rfl
                    have lE := Blk.lt F17.out.st.box
                    have lR := Blk.lt KR
                    have HKX := Lib.hid KR
                    have hwE : w.heap.size < w6.heap.size := Nat.lt_of_lt_of_le (Blk.lt HRP.out) hP6
                    clear KR
                    go_wp2_with fail
                    obtain ⟨⟨hf, hh⟩, x0, x1, x2, x3, x4, x5⟩ := fin6 HKX.out hbW.out (.int .i64 (m : Int)) (.int .i64 i1) (.int .i64 jj) (.int .i64 kk) (.slice AP pp.length cP) (.string mm)
                    exact bodyPost_ret (v := .tuple #[.agg #[.int .i64 (m : Int), .int .i64 i1, .int .i64 jj, .int .i64 kk, .slice AP pp.length cP, .string mm], .int .i64 0]) (by simp [results, Tryz.results21, go_sem, x0, x1, x2, x3, x4, x5]) rfl ⟨hf, .slice AP pp.length cP, by rw [(rd_some HYES.out).1]; exact ownsRow_more (own_keep F17.out.st.own (fun g hg => hh g (by have := (World.ownsRow.lt F17.out.st.own g hg).1; omega))) (by omega), by rw [(rd_some HYES.out).1, (rd_some HYES.out).2]⟩
    · have hm : m = 8 := by omega
      subst hm
      have HNO := Lib.hid (show rdSpec t = none by
        rw [← rd_eq]; unfold rdImp; rw [HXH.out]
        split
        · rfl
        · rename_i hk
          obtain ⟨k, h1, h2, h3, h4⟩ := kf_word X 8 hk
          rw [h1]; exact HN.out k h2 h3 h4)
      have KR := HRP.out.up HB.out
      have hbW := Lib.hid (Below.tr HBP.out HB.out)
      have r0 := Blk.cell (i := 0) (v := .int .i64 0) KR rfl
      have q0 := Blk.frozen KR 0
      have r1 := Blk.cell (i := 1) (v := .int .i64 0) KR rfl
      have q1 := Blk.frozen KR 1
      have r2 := Blk.cell (i := 2) (v := .int .i64 0) KR rfl
      have q2 := Blk.frozen KR 2
      have r3 := Blk.cell (i := 3) (v := .int .i64 0) KR rfl
      have q3 := Blk.frozen KR 3
      have r4 := Blk.cell (i := 4) (v := .slice none 0 0) KR rfl
      have q4 := Blk.frozen KR 4
      have r5 := Blk.cell (i := 5) (v := .string ⟨#[]⟩) KR rfl
      have q5 := Blk.frozen KR 5
      have lR := Blk.lt KR
      have HKX := Lib.hid KR
      clear KR
      go_wp2_with fail
      obtain ⟨⟨hf, _⟩, x0, x1, x2, x3, x4, x5⟩ := fin6 HKX.out hbW.out (.int .i64 0) (.int .i64 0) (.int .i64 0) (.int .i64 0) (.slice none 0 0) (.string ⟨#[]⟩)
      exact bodyPost_ret (v := .tuple #[.agg #[.int .i64 0, .int .i64 0, .int .i64 0, .int .i64 0, .slice none 0 0, .string ⟨#[]⟩], .int .i64 5]) (by simp [results, Tryz.results21, go_sem, x0, x1, x2, x3, x4, x5]) rfl ⟨hf, .slice none 0 0, by rw [(rd_none HNO.out).1]; exact World.ownsRow_nil _ _ _ _, by rw [(rd_none HNO.out).1, (rd_none HNO.out).2]; rfl⟩
end Go.Proofs.YtbifijlenbibmaaGreatDoor

