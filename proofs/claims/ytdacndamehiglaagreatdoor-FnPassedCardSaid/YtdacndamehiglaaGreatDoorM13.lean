import Derived.Test.YtdacndamehiglaaGreatDoorM12
import Derived.Test.YtdacndamehiglaaGreatDoorM11
import Derived.Test.YtdacndamehiglaaGreatDoorM3
import Derived.Test.YtdacndamehiglaaGreatDoorM7
import Derived.Test.YtdacndamehiglaaGreatDoorM8
import Derived.Test.YtdacndamehiglaaGreatDoorM9
import Derived.Test.YtdacndamehiglaaGreatDoorM6
import Derived.Test.YtdacndamehiglaaGreatDoorM10
import Derived.Test.YtdacndamehiglaaGreatDoorM2
import Derived.Test.YtdacndamehiglaaGreatDoorM1
namespace Go.Proofs.YtdacndamehiglaaGreatDoor
open Go.RowKit
def lsOf (xs : List GRule) : List Int := (lens xs).getD []
def applyS (xs : List GRule) (e : GEdit) : Option (List GRule) := editS xs (lsOf xs) (lastI (lsOf xs)) e
def applyOut (xs : List GRule) (e : GEdit) : List GRule := if gramOk xs && editOk e then if editFits e (gramLen xs) then editG (applyS xs e) else [] else []
def applyCode (xs : List GRule) (e : GEdit) : Int := if gramOk xs && editOk e then if editFits e (gramLen xs) then editC (applyS xs e) else 2 else 1
theorem kind_ok {e : GEdit} (h : editOk e = true) : kindOk e ∧ gramOk e.part = true ∧ inR e.kind 1 7 = true ∧ (2 ≤ e.kind → e.i ≤ e.j) := by
  obtain ⟨k, i, j, kk, part, map⟩ := e
  simp only [editOk, Bool.and_eq_true, inR, decide_eq_true_eq, Bool.not_eq_true', Bool.and_eq_false_iff, decide_eq_false_iff_not] at h
  obtain ⟨⟨⟨⟨⟨⟨⟨⟨h1, h1'⟩, h2⟩, h3⟩, h4⟩, h5⟩, h6⟩, h7⟩, h8⟩ := h
  refine ⟨?_, h7, by simp [inR]; omega, fun hk => ?_⟩
  · unfold kindOk chgOK
    rcases (by omega : k = 1 ∨ k = 2 ∨ k = 3 ∨ k = 4 ∨ k = 5 ∨ k = 6 ∨ k = 7) with rfl | rfl | rfl | rfl | rfl | rfl | rfl
    · exact .inl rfl
    · exact .inr (.inl rfl)
    · exact .inr (.inr (.inl rfl))
    · exact .inr (.inr (.inr (.inl rfl)))
    · exact .inr (.inr (.inr (.inr (.inl rfl))))
    · refine .inr (.inr (.inr (.inr (.inr (.inl ⟨rfl, ?_⟩)))))
      simpa [numOk, usesK, inR] using h4
    · refine .inr (.inr (.inr (.inr (.inr (.inr ⟨rfl, ?_⟩)))))
      have : map.size = 4 ∧ wordOk map = true := by simpa using h8
      exact ⟨this.2, this.1⟩
  · rcases h5 with h5 | h5
    · simp [usesJ] at h5; simp only at hk; omega
    · simp only; omega
set_option maxRecDepth 100000 in
set_option maxHeartbeats 4000000 in
theorem implApply_any (vG v : Value) (xs : List GRule) (e : GEdit) (w : World) (hG : Sl RuleE w w.heap.size vG xs) (hE : EditV w w.heap.size v e) (hn : xs.length ≤ 1048576) (hn2 : e.part.length ≤ 1048576) (hm : e.map.size ≤ maxLen) (htab : Lib.TabIs Tryz.prog w "math/bits.deBruijn64tab" .u8 deB64) :
    Calls Tryz.prog 11 #[.agg #[vG], v] w (GRes (applyOut xs e) (applyCode xs e) w) := by
  obtain ⟨vR, rfl, hR⟩ := hE
  have HG := Lib.hid hG
  have HR := Lib.hid hR
  have HT := Lib.hid htab
  obtain ⟨AG, cG, rfl, _⟩ := hG
  obtain ⟨AR, cR, rfl, _⟩ := hR
  clear htab
  go_enter Tryz.func11, Tryz.ntmps11
  go_wp2_with fail
  refine (LengthOf_any _ xs _ (HG.out.up (by repeat (first | exact Below.refl _ _ | (refine Below.alloc ?_ (by first | omega | (simp; done) | (simp; omega)) _) | (refine Below.setCell ?_ (by first | exact Nat.le_refl _ | (show _ ≤ _; omega) | (simp; done) | (simp; omega)) _) | refine below_drewN ?_ _ | refine Below.drew ?_))) (by omega)).mono ?_
  rintro e w1 ⟨rfl, hb_1⟩
  have KQ_2 : Blk w1 (w.heap.size + 1 + 1) #[.slice none 0 0] 26 := by have := (Below.unalloc hb_1).2; simpa [Blk] using this
  replace hb_1 := (Below.unalloc hb_1).1
  have KE_3 : Blk w1 (w.heap.size + 1) #[.int .i64 e.kind, .int .i64 e.i, .int .i64 e.j, .int .i64 e.k, .slice AR e.part.length cR, .string e.map] 30 := by have := (Below.unalloc hb_1).2; simpa [Blk] using this
  replace hb_1 := (Below.unalloc hb_1).1
  have KP_4 : Blk w1 (w.heap.size) #[.slice AG xs.length cG] 26 := by have := (Below.unalloc hb_1).2; simpa [Blk] using this
  replace hb_1 := (Below.unalloc hb_1).1
  have z_w1 : w.heap.size ≤ w1.heap.size := hb_1.size
  have KG_5 := Lib.hid (HG.out.up hb_1)
  have KR_6 := Lib.hid (HR.out.up hb_1)
  have KB_7 := Lib.hid hb_1
  clear HG HR
  have lz1 := Blk.lt KQ_2
  cases hg : gramOk xs with
  | false =>
    have q1 : lenC xs = 1 := by simp [lenC, hg]
    have q2 : applyOut xs e = [] ∧ applyCode xs e = 1 := by simp [applyOut, applyCode, hg]
    have HQ2 := Lib.hid q2
    clear q2 hg
    rw [q1]
    clear q1
    have cP0_8 := Blk.cell (i := 0) (v := .slice AG xs.length cG) KP_4 rfl
    have lP_9 := Blk.lt KP_4
    have cQ0_10 := Blk.cell (i := 0) (v := .slice none 0 0) KQ_2 rfl
    have zQ0_11 := Blk.frozen KQ_2 0
    have lQ_12 := Blk.lt KQ_2
    have cE0_13 := Blk.cell (i := 0) (v := .int .i64 e.kind) KE_3 rfl
    have cE1_14 := Blk.cell (i := 1) (v := .int .i64 e.i) KE_3 rfl
    have cE2_15 := Blk.cell (i := 2) (v := .int .i64 e.j) KE_3 rfl
    have cE3_16 := Blk.cell (i := 3) (v := .int .i64 e.k) KE_3 rfl
    have cE4_17 := Blk.cell (i := 4) (v := .slice AR e.part.length cR) KE_3 rfl
    have cE5_18 := Blk.cell (i := 5) (v := .string e.map) KE_3 rfl
    have lE_19 := Blk.lt KE_3
    go_wp2_with fail
    refine bodyPost_ret (v := .tuple #[.agg #[.slice none 0 0], .int .i64 1]) (by simp [results, Tryz.results11, go_sem, cQ0_10]) rfl ⟨Below.setCell KB_7.out (show w.heap.size ≤ w.heap.size + 2 by omega) _, .slice none 0 0, by rw [HQ2.out.1]; exact World.ownsRow_nil _ _ _ _, by rw [HQ2.out.2]⟩
  | true =>
    have q1 : lenC xs = 0 := by simp [lenC, hg]
    have q2 : lenV xs = gramLen xs := by simp [lenV, hg]
    rw [q1, q2]
    clear q1 q2
    have HGG := Lib.hid hg
    clear hg
    have cP0_20 := Blk.cell (i := 0) (v := .slice AG xs.length cG) KP_4 rfl
    have lP_21 := Blk.lt KP_4
    have cQ0_22 := Blk.cell (i := 0) (v := .slice none 0 0) KQ_2 rfl
    have zQ0_23 := Blk.frozen KQ_2 0
    have lQ_24 := Blk.lt KQ_2
    have cE0_25 := Blk.cell (i := 0) (v := .int .i64 e.kind) KE_3 rfl
    have cE1_26 := Blk.cell (i := 1) (v := .int .i64 e.i) KE_3 rfl
    have cE2_27 := Blk.cell (i := 2) (v := .int .i64 e.j) KE_3 rfl
    have cE3_28 := Blk.cell (i := 3) (v := .int .i64 e.k) KE_3 rfl
    have cE4_29 := Blk.cell (i := 4) (v := .slice AR e.part.length cR) KE_3 rfl
    have cE5_30 := Blk.cell (i := 5) (v := .string e.map) KE_3 rfl
    have lE_31 := Blk.lt KE_3
    go_wp2_with fail
    refine (implValidEdit_any _ e _ ⟨_, rfl, KR_6.out.up (by repeat (first | exact Below.refl _ _ | (refine Below.alloc ?_ (by first | omega | (simp; done) | (simp; omega)) _) | (refine Below.setCell ?_ (by first | exact Nat.le_refl _ | (show _ ≤ _; omega) | (simp; done) | (simp; omega)) _) | refine below_drewN ?_ _ | refine Below.drew ?_))⟩ (by omega) hm).mono ?_
    rintro e w2 ⟨rfl, hb_32⟩
    have z_w2 : w1.heap.size ≤ w2.heap.size := hb_32.size
    have KG_33 := Lib.hid (KG_5.out.up hb_32)
    have KR_34 := Lib.hid (KR_6.out.up hb_32)
    have KQ_35 := Blk.up KQ_2 hb_32
    have KE_36 := Blk.up KE_3 hb_32
    have KP_37 := Blk.up KP_4 hb_32
    have KB_38 := Lib.hid (Below.tr KB_7.out hb_32)
    clear hb_1 cP0_20 lP_21 cQ0_22 zQ0_23 lQ_24 cE0_25 cE1_26 cE2_27 cE3_28 cE4_29 cE5_30 lE_31 KG_5 KR_6 KQ_2 KE_3 KP_4 KB_7
    cases he : editOk e with
    | false =>
      have q2 : applyOut xs e = [] ∧ applyCode xs e = 1 := by simp [applyOut, applyCode, he]
      have HQ2 := Lib.hid q2
      clear q2 he
      have cP0_39 := Blk.cell (i := 0) (v := .slice AG xs.length cG) KP_37 rfl
      have lP_40 := Blk.lt KP_37
      have cQ0_41 := Blk.cell (i := 0) (v := .slice none 0 0) KQ_35 rfl
      have zQ0_42 := Blk.frozen KQ_35 0
      have lQ_43 := Blk.lt KQ_35
      have cE0_44 := Blk.cell (i := 0) (v := .int .i64 e.kind) KE_36 rfl
      have cE1_45 := Blk.cell (i := 1) (v := .int .i64 e.i) KE_36 rfl
      have cE2_46 := Blk.cell (i := 2) (v := .int .i64 e.j) KE_36 rfl
      have cE3_47 := Blk.cell (i := 3) (v := .int .i64 e.k) KE_36 rfl
      have cE4_48 := Blk.cell (i := 4) (v := .slice AR e.part.length cR) KE_36 rfl
      have cE5_49 := Blk.cell (i := 5) (v := .string e.map) KE_36 rfl
      have lE_50 := Blk.lt KE_36
      go_wp2_with fail
      refine bodyPost_ret (v := .tuple #[.agg #[.slice none 0 0], .int .i64 1]) (by simp [results, Tryz.results11, go_sem, cQ0_41]) rfl ⟨Below.setCell KB_38.out (show w.heap.size ≤ w.heap.size + 2 by omega) _, .slice none 0 0, by rw [HQ2.out.1]; exact World.ownsRow_nil _ _ _ _, by rw [HQ2.out.2]⟩
    | true =>
      have HE := Lib.hid (kind_ok he)
      have HE0 := Lib.hid he
      clear he
      have cP0_51 := Blk.cell (i := 0) (v := .slice AG xs.length cG) KP_37 rfl
      have lP_52 := Blk.lt KP_37
      have cQ0_53 := Blk.cell (i := 0) (v := .slice none 0 0) KQ_35 rfl
      have zQ0_54 := Blk.frozen KQ_35 0
      have lQ_55 := Blk.lt KQ_35
      have cE0_56 := Blk.cell (i := 0) (v := .int .i64 e.kind) KE_36 rfl
      have cE1_57 := Blk.cell (i := 1) (v := .int .i64 e.i) KE_36 rfl
      have cE2_58 := Blk.cell (i := 2) (v := .int .i64 e.j) KE_36 rfl
      have cE3_59 := Blk.cell (i := 3) (v := .int .i64 e.k) KE_36 rfl
      have cE4_60 := Blk.cell (i := 4) (v := .slice AR e.part.length cR) KE_36 rfl
      have cE5_61 := Blk.cell (i := 5) (v := .string e.map) KE_36 rfl
      have lE_62 := Blk.lt KE_36
      go_wp2_with fail
      refine (fits_any _ e (gramLen xs) _ ⟨_, rfl, KR_34.out.up (by repeat (first | exact Below.refl _ _ | (refine Below.alloc ?_ (by first | omega | (simp; done) | (simp; omega)) _) | (refine Below.setCell ?_ (by first | exact Nat.le_refl _ | (show _ ≤ _; omega) | (simp; done) | (simp; omega)) _) | refine below_drewN ?_ _ | refine Below.drew ?_))⟩ HE.out.2.2.1 HE.out.2.2.2).mono ?_
      rintro e w3 ⟨rfl, hb_63⟩
      have z_w3 : w2.heap.size ≤ w3.heap.size := hb_63.size
      have KG_64 := Lib.hid (KG_33.out.up hb_63)
      have KR_65 := Lib.hid (KR_34.out.up hb_63)
      have KQ_66 := Blk.up KQ_35 hb_63
      have KE_67 := Blk.up KE_36 hb_63
      have KP_68 := Blk.up KP_37 hb_63
      have KB_69 := Lib.hid (Below.tr KB_38.out hb_63)
      clear hb_32 cP0_51 lP_52 cQ0_53 zQ0_54 lQ_55 cE0_56 cE1_57 cE2_58 cE3_59 cE4_60 cE5_61 lE_62 KG_33 KR_34 KQ_35 KE_36 KP_37 KB_38
      cases hf : editFits e (gramLen xs) with
      | false =>
        have q2 : applyOut xs e = [] ∧ applyCode xs e = 2 := by simp [applyOut, applyCode, HGG.out, HE0.out, hf]
        have HQ2 := Lib.hid q2
        clear q2 hf
        have cP0_70 := Blk.cell (i := 0) (v := .slice AG xs.length cG) KP_68 rfl
        have lP_71 := Blk.lt KP_68
        have cQ0_72 := Blk.cell (i := 0) (v := .slice none 0 0) KQ_66 rfl
        have zQ0_73 := Blk.frozen KQ_66 0
        have lQ_74 := Blk.lt KQ_66
        have cE0_75 := Blk.cell (i := 0) (v := .int .i64 e.kind) KE_67 rfl
        have cE1_76 := Blk.cell (i := 1) (v := .int .i64 e.i) KE_67 rfl
        have cE2_77 := Blk.cell (i := 2) (v := .int .i64 e.j) KE_67 rfl
        have cE3_78 := Blk.cell (i := 3) (v := .int .i64 e.k) KE_67 rfl
        have cE4_79 := Blk.cell (i := 4) (v := .slice AR e.part.length cR) KE_67 rfl
        have cE5_80 := Blk.cell (i := 5) (v := .string e.map) KE_67 rfl
        have lE_81 := Blk.lt KE_67
        go_wp2_with fail
        refine bodyPost_ret (v := .tuple #[.agg #[.slice none 0 0], .int .i64 2]) (by simp [results, Tryz.results11, go_sem, cQ0_72]) rfl ⟨Below.setCell KB_69.out (show w.heap.size ≤ w.heap.size + 2 by omega) _, .slice none 0 0, by rw [HQ2.out.1]; exact World.ownsRow_nil _ _ _ _, by rw [HQ2.out.2]⟩
      | true =>
        have hls : lens xs = some (lsOf xs) := by
          obtain ⟨ls, h⟩ := (gram_lens HGG.out).2
          simp [lsOf, h]
        have q2 : applyOut xs e = editG (editS xs (lsOf xs) (lastI (lsOf xs)) e) ∧ applyCode xs e = editC (editS xs (lsOf xs) (lastI (lsOf xs)) e) := by simp [applyOut, applyCode, HGG.out, HE0.out, hf, applyS]
        have HQ2 := Lib.hid q2
        have HLS := Lib.hid hls
        clear q2 hf hls
        have cP0_82 := Blk.cell (i := 0) (v := .slice AG xs.length cG) KP_68 rfl
        have lP_83 := Blk.lt KP_68
        have cQ0_84 := Blk.cell (i := 0) (v := .slice none 0 0) KQ_66 rfl
        have zQ0_85 := Blk.frozen KQ_66 0
        have lQ_86 := Blk.lt KQ_66
        have cE0_87 := Blk.cell (i := 0) (v := .int .i64 e.kind) KE_67 rfl
        have cE1_88 := Blk.cell (i := 1) (v := .int .i64 e.i) KE_67 rfl
        have cE2_89 := Blk.cell (i := 2) (v := .int .i64 e.j) KE_67 rfl
        have cE3_90 := Blk.cell (i := 3) (v := .int .i64 e.k) KE_67 rfl
        have cE4_91 := Blk.cell (i := 4) (v := .slice AR e.part.length cR) KE_67 rfl
        have cE5_92 := Blk.cell (i := 5) (v := .string e.map) KE_67 rfl
        have lE_93 := Blk.lt KE_67
        go_wp2_with fail
        refine (edited_any _ (.slice AR e.part.length cR) xs (lsOf xs) e _ (KG_64.out.up (by repeat (first | exact Below.refl _ _ | (refine Below.alloc ?_ (by first | omega | (simp; done) | (simp; omega)) _) | (refine Below.setCell ?_ (by first | exact Nat.le_refl _ | (show _ ≤ _; omega) | (simp; done) | (simp; omega)) _) | refine below_drewN ?_ _ | refine Below.drew ?_))) (KR_65.out.up (by repeat (first | exact Below.refl _ _ | (refine Below.alloc ?_ (by first | omega | (simp; done) | (simp; omega)) _) | (refine Below.setCell ?_ (by first | exact Nat.le_refl _ | (show _ ≤ _; omega) | (simp; done) | (simp; omega)) _) | refine below_drewN ?_ _ | refine Below.drew ?_))) HLS.out hn HE.out.1 HE.out.2.1 (tabB HT.out KB_69.out)).mono ?_
        rintro e w4 ⟨hb_94, v4, own4, rfl⟩
        have z_w4 : w3.heap.size ≤ w4.heap.size := hb_94.size
        have KG_95 := Lib.hid (KG_64.out.up hb_94)
        have KR_96 := Lib.hid (KR_65.out.up hb_94)
        have KQ_97 := Blk.up KQ_66 hb_94
        have KE_98 := Blk.up KE_67 hb_94
        have KP_99 := Blk.up KP_68 hb_94
        have KB_100 := Lib.hid (Below.tr KB_69.out hb_94)
        clear hb_63 cP0_82 lP_83 cQ0_84 zQ0_85 lQ_86 cE0_87 cE1_88 cE2_89 cE3_90 cE4_91 cE5_92 lE_93 KG_64 KR_65 KQ_66 KE_67 KP_68 KB_69
        obtain ⟨A4, k4, rfl, _⟩ := own_nil own4
        have HO4 := Lib.hid own4
        clear own4
        have cQ0_101 := Blk.cell (i := 0) (v := .slice none 0 0) KQ_97 rfl
        have zQ0_102 := Blk.frozen KQ_97 0
        have lQ_103 := Blk.lt KQ_97
        go_wp2_with fail
        refine bodyPost_ret (v := .tuple #[.agg #[.slice A4 (editG (editS xs (lsOf xs) (lastI (lsOf xs)) e)).length k4], .int .i64 (editC (editS xs (lsOf xs) (lastI (lsOf xs)) e))]) (by simp [results, Tryz.results11, go_sem, cQ0_101]) rfl ⟨Below.setCell KB_100.out (show w.heap.size ≤ w.heap.size + 2 by omega) _, .slice A4 (editG (editS xs (lsOf xs) (lastI (lsOf xs)) e)).length k4, ?_, by rw [HQ2.out.2]⟩
        rw [HQ2.out.1]
        exact ownsRow_more (ownsRow_setCell_below HO4.out (a := ⟨w.heap.size + 2, 0, none⟩) (by show w.heap.size + 2 < _; omega) _) (by omega)
def NilP (e : GEdit) (u : Value) : Prop := e.part = [] ∧ ∃ A c, u = .slice A 0 c ∧ c ≤ maxLen
theorem oeds_zero {W : World} {lo : Nat} (h : lo ≤ W.heap.size) : OEds W lo W.heap.size (.slice none 0 0) [] :=
  ⟨[], _, rfl, World.ownsRow_nil _ _ _ _, fun _ h => (by simp [Value.ownBlock] at h), Nat.le_refl _, PartsR.nil h⟩
theorem oeds_one {W : World} {lo N : Nat} {e : GEdit} {u : Value} (hN : N = W.heap.size) (h : lo ≤ W.heap.size) (hu : NilP e u ∨ OwnR W lo W.heap.size u e.part) :
    OEds (W.alloc (Obj.cells #[.int .i64 e.kind, .int .i64 e.i, .int .i64 e.j, .int .i64 e.k, u, .string e.map] 30)) lo (W.heap.size + 1) (.slice (some ⟨N, 0, none⟩) 1 1) [e] := by
  subst hN
  have hrow := World.ownsRow_lit (e := 30) (size := 6) W #[.int .i64 e.kind, .int .i64 e.i, .int .i64 e.j, .int .i64 e.k, u, .string e.map] 1 h (by decide) rfl
  refine ⟨[(e, u)], fun j => if j = 0 then lo else W.heap.size, rfl, hrow, fun g hg => by simp [Value.ownBlock] at hg; omega, by simp, Nat.le_refl _, ?_, ?_, ?_⟩
  · intro i j hij
    show (if i = 0 then lo else W.heap.size) ≤ (if j = 0 then lo else W.heap.size)
    repeat' split
    all_goals omega
  · intro i
    show (if i = 0 then lo else W.heap.size) ≤ W.heap.size + 1
    split <;> omega
  · intro i p hp
    have hi : i = 0 := by
      have := (List.getElem?_eq_some_iff.1 hp).1
      simp at this; exact this
    subst hi
    simp at hp
    subst hp
    refine ⟨?_, fun g hg => by simp [Value.ownBlock] at hg; simp; omega⟩
    rcases hu with hu | hu
    · exact .inl hu
    · exact .inr (by simpa using hu.alloc _)
end Go.Proofs.YtdacndamehiglaaGreatDoor
namespace Go.Proofs
end Go.Proofs
namespace Go.Proofs.YtdacndamehiglaaGreatDoor
open Go.RowKit
theorem fits_nums {e : GEdit} {n : Int} (h : editOk e = true) (hf : editFits e n = true) :
    0 ≤ e.i ∧ (e.kind = 1 → e.i ≤ n) ∧ (2 ≤ e.kind → e.i ≤ e.j ∧ e.j ≤ n) ∧ (e.kind = 3 → 0 ≤ e.k ∧ e.k ≤ n) ∧ (e.kind = 4 → 0 ≤ e.k ∧ (e.k ≤ e.i ∨ (e.j ≤ e.k ∧ e.k ≤ n))) := by
  obtain ⟨k, i, j, kk, part, map⟩ := e
  have hk := (kind_ok h).2.2.2
  have hr := (kind_ok h).2.2.1
  simp only [editOk, Bool.and_eq_true, inR, decide_eq_true_eq] at h
  obtain ⟨⟨⟨⟨⟨⟨⟨⟨h1, h1'⟩, h2⟩, h3⟩, h4⟩, h5⟩, h6⟩, h7⟩, h8⟩ := h
  simp only at h1 h1' h2 h3 h4 hk hr ⊢
  rcases (by omega : k = 1 ∨ k = 2 ∨ k = 3 ∨ k = 4 ∨ k = 5 ∨ k = 6 ∨ k = 7) with rfl | rfl | rfl | rfl | rfl | rfl | rfl
  all_goals
    simp [editFits, numOk, usesJ, usesK, inR] at hf h3 h4 hk ⊢
    omega
def delE (i j : Int) : GEdit := ⟨2, i, j, 0, [], ⟨#[]⟩⟩
def insE (i : Int) (p : List GRule) : GEdit := ⟨1, i, 0, 0, p, ⟨#[]⟩⟩
def ERes (es : List GEdit) (c : Int) (w : World) (r : Ending) (w' : World) : Prop :=
  Below w.heap.size w w' ∧ ∃ v, r = .returned (.tuple #[v, .int .i64 c]) ∧ OEds w' w.heap.size w'.heap.size v es
theorem applyCode_ok {xs : List GRule} {e : GEdit} (h : applyCode xs e = 0) : gramOk xs = true ∧ editOk e = true ∧ editFits e (gramLen xs) = true := by
  unfold applyCode at h
  split at h
  · rename_i h1
    rw [Bool.and_eq_true] at h1
    split at h
    · rename_i h2; exact ⟨h1.1, h1.2, h2⟩
    · cases h
  · cases h
theorem ERes.mk1 {w W : World} {es : List GEdit} {c : Int} {lo hi : Nat} {v : Value} (hb : Below w.heap.size w W) (h : OEds W lo hi v es) (hl : w.heap.size ≤ lo) : ERes es c w (.returned (.tuple #[v, .int .i64 c])) W := by
  refine ⟨hb, v, rfl, ?_⟩
  obtain ⟨ps, r, h1, h2, h3, h4, h5⟩ := h
  exact ⟨ps, r, h1, ownsRow_more h2 hl, fun g hg => by have := h3 g hg; omega, Nat.le_refl _, h5.le hl h4⟩
theorem raise_len {n : Nat} {lx a : List Int} {r : GRule} (hn : lx.length = n) (h : okRule a.length r = true) : ruleLen (lx ++ a) (raiseR n r) = ruleLen a r := by
  unfold raiseR
  cases hp : r.pair with
  | false => simp [ruleLen, hp]
  | true =>
    have h2 := okRule_at h hp
    have hp2 : ({ letter := r.letter, left := r.left + n, right := r.right + n } : GRule).pair = true := hp
    simp only [if_true]
    unfold ruleLen
    rw [if_pos hp2, if_pos hp]
    have e1 : (r.left + (n : Int)).toNat = n + r.left.toNat := by omega
    have e2 : (r.right + (n : Int)).toNat = n + r.right.toNat := by omega
    show (lx ++ a).getD (r.left + n).toNat 0 + (lx ++ a).getD (r.right + n).toNat 0 = _
    rw [e1, e2, List.getD_eq_getElem?_getD, List.getD_eq_getElem?_getD, List.getElem?_append_right (by omega), List.getElem?_append_right (by omega), hn, Nat.add_sub_cancel_left, Nat.add_sub_cancel_left]
    rw [← List.getD_eq_getElem?_getD, ← List.getD_eq_getElem?_getD]
theorem lens_raise {xs ys : List GRule} {lx ly : List Int} (hx : lens xs = some lx) (hy : lens ys = some ly) : lens (xs ++ ys.map (raiseR xs.length)) = some (lx ++ ly) := by
  rw [lens_app, hx]
  have hn : lx.length = xs.length := lens_length hx
  suffices H : ∀ (l : List GRule) (a o : List Int), l.foldl lensStep (some a) = some o → (l.map (raiseR xs.length)).foldl lensStep (some (lx ++ a)) = some (lx ++ o) by simpa using H ys [] ly hy
  intro l
  induction l with
  | nil => intro a o h; simp at h; simp [h]
  | cons y l ih =>
    intro a o h
    rw [List.map_cons, List.foldl_cons]
    rw [List.foldl_cons] at h
    cases hs : lensStep (some a) y with
    | none => rw [hs, lens_none] at h; cases h
    | some b =>
      rw [hs] at h
      simp only [lensStep, Option.bind_some] at hs
      split at hs
      · rename_i hok
        cases hs
        have e1 : okRule (lx ++ a).length (raiseR xs.length y) = true := by rw [List.length_append, hn]; exact raiseR_ok hok.1
        have e2 : ruleLen (lx ++ a) (raiseR xs.length y) = ruleLen a y := raise_len hn hok.1
        have e3 : lensStep (some (lx ++ a)) (raiseR xs.length y) = some (lx ++ (a ++ [ruleLen a y])) := by
          simp only [lensStep, Option.bind_some]
          rw [e2, if_pos ⟨e1, hok.2⟩, List.append_assoc]
        rw [e3]
        exact ih _ _ h
      · cases hs
theorem joinG_gramLen {xs ys : List GRule} (hx : gramOk xs = true) (hy : gramOk ys = true) (hj : gramOk (joinG xs ys) = true) : gramLen (joinG xs ys) = gramLen xs + gramLen ys := by
  obtain ⟨_, lx, h1⟩ := gram_lens hx
  obtain ⟨_, ly, h2⟩ := gram_lens hy
  obtain ⟨_, l, h3⟩ := gram_lens hj
  rw [gramLen_of h1, gramLen_of h2, gramLen_of h3]
  have hxl := lens_length h1
  have hyl := lens_length h2
  unfold joinG at h3
  by_cases c1 : xs.length = 0
  · rw [if_pos c1] at h3
    rw [h2] at h3
    cases h3
    have : lx = [] := List.eq_nil_of_length_eq_zero (by omega)
    rw [this]; simp [lastI]
  · rw [if_neg c1] at h3
    by_cases c2 : ys.length = 0
    · rw [if_pos c2] at h3
      rw [h1] at h3
      cases h3
      have : ly = [] := List.eq_nil_of_length_eq_zero (by omega)
      rw [this]; simp [lastI]
    · rw [if_neg c2] at h3
      have hr := lens_raise h1 h2
      have hlen : (xs ++ ys.map (raiseR xs.length)).length = xs.length + ys.length := by simp
      have e1 : ((xs.length : Int) - 1) = ((xs.length - 1 : Nat) : Int) := by omega
      have e2 : ((xs.length : Int) + ys.length - 1) = ((xs.length + ys.length - 1 : Nat) : Int) := by omega
      rw [e1, e2] at h3
      have hl3 := lens_length h3
      have hw := W1_snoc h3 (by omega) (by omega)
      have k1 := W1_len h3 (xs.length + ys.length) (by simp)
      rw [hlen] at hw
      rw [hw, List.length_append] at k1
      have k2 := W1_len hr (xs.length - 1) (by omega)
      have k3 := W1_len hr (xs.length + ys.length - 1) (by omega)
      have g2 : (lx ++ ly).getD (xs.length - 1) 0 = lastI lx := by
        rw [lastI, List.getD_eq_getElem?_getD, List.getElem?_append_left (by omega), ← List.getD_eq_getElem?_getD, hxl]
      have g3 : (lx ++ ly).getD (xs.length + ys.length - 1) 0 = lastI ly := by
        rw [lastI, List.getD_eq_getElem?_getD, List.getElem?_append_right (by omega), ← List.getD_eq_getElem?_getD, hxl, hyl]
        congr 1; omega
      rw [g2] at k2
      rw [g3] at k3
      have g1 : lastI l = l.getD (xs.length + ys.length) 0 := by
        rw [lastI, hl3]; simp
      rw [g1, ← k1, ← k2, ← k3]
      omega
theorem trimG_gramLen {xs : List GRule} (h : gramOk xs = true) : gramLen (trimG xs) = gramLen xs := by
  obtain ⟨_, ls, h1⟩ := gram_lens h
  obtain ⟨l2, h2, h3, _⟩ := trimG_sem h1
  rw [gramLen_of h2, gramLen_of h1, ← wordG_len h2, ← wordG_len h1, h3]
theorem addO_some {s g : Option (List GRule)} {o : List GRule} (h : addO s g = some o) : ∃ a b, s = some a ∧ g = some b ∧ o = joinG a b ∧ gramOk (joinG a b) = true := by
  unfold addO at h
  split at h
  · rename_i a b
    split at h
    · rename_i h2; cases h; exact ⟨a, b, rfl, rfl, rfl, h2⟩
    · cases h
  · cases h
theorem limO_some {x o : List GRule} (h : limO x = some o) : o = x ∧ gramOk x = true := by
  unfold limO at h
  split at h
  · rename_i h2; cases h; exact ⟨rfl, h2⟩
  · cases h
theorem apply_len {xs : List GRule} {e : GEdit} (h : applyCode xs e = 0) (hk : e.kind = 1 ∨ e.kind = 2) : gramLen (applyOut xs e) = editLen e (gramLen xs) ∧ gramOk (applyOut xs e) = true := by
  obtain ⟨h1, h2, h3⟩ := applyCode_ok h
  obtain ⟨_, ls, hl⟩ := gram_lens h1
  have hlq : lsOf xs = ls := by simp [lsOf, hl]
  have hgl := gramLen_of hl
  have hF := fits_nums h2 h3
  have hb := gramLen_bounds xs
  obtain ⟨o, ho⟩ : ∃ o, editS xs ls (lastI ls) e = some o := by
    cases hs : editS xs ls (lastI ls) e with
    | some o => exact ⟨o, rfl⟩
    | none =>
      exfalso
      unfold applyCode applyS at h
      rw [hlq, hs] at h
      simp [h1, h2, h3, editC] at h
  have hout : applyOut xs e = trimG o := by
    unfold applyOut applyS
    rw [hlq, ho]
    simp [h1, h2, h3, editG]
  rw [hout]
  have p0 : ∀ i j, 0 ≤ i → i ≤ j → j ≤ lastI ls → gramLen (partG xs ls i j) = j - i := fun i j a b c => partG_gramLen hl a b c
  unfold editS at ho
  rcases hk with hk | hk
  · rw [if_pos hk] at ho
    obtain ⟨a1, b1, s1, s2, rfl, s4⟩ := addO_some ho
    obtain ⟨a2, b2, t1, t2, rfl, t4⟩ := addO_some s1
    obtain ⟨a3, b3, u1, u2, rfl, u4⟩ := addO_some t1
    cases u1
    cases t2
    obtain ⟨rfl, v1⟩ := limO_some u2
    obtain ⟨rfl, v2⟩ := limO_some s2
    have hi := hF.2.1 hk
    have k1 := joinG_gramLen gramOk_nil v1 u4
    have k2 := joinG_gramLen u4 (kind_ok h2).2.1 t4
    have k3 := joinG_gramLen t4 v2 s4
    have hz : gramLen [] = 0 := rfl
    rw [p0 0 e.i (by omega) hF.1 (by omega)] at k1
    rw [p0 e.i (lastI ls) hF.1 (by omega) (by omega)] at k3
    refine ⟨?_, gramOk_trim s4⟩
    rw [trimG_gramLen s4, k3, k2, k1, hz]
    unfold editLen
    rw [if_pos hk]
    omega
  · rw [if_neg (by omega), if_pos hk] at ho
    obtain ⟨a1, b1, s1, s2, rfl, s4⟩ := addO_some ho
    obtain ⟨a3, b3, u1, u2, rfl, u4⟩ := addO_some s1
    cases u1
    obtain ⟨rfl, v1⟩ := limO_some u2
    obtain ⟨rfl, v2⟩ := limO_some s2
    have hi := hF.2.2.1 (by omega)
    have k1 := joinG_gramLen gramOk_nil v1 u4
    have k3 := joinG_gramLen u4 v2 s4
    have hz : gramLen [] = 0 := rfl
    rw [p0 0 e.i (by omega) hF.1 (by omega)] at k1
    rw [p0 e.j (lastI ls) (by omega) (by omega) (by omega)] at k3
    refine ⟨?_, gramOk_trim s4⟩
    rw [trimG_gramLen s4, k3, k1, hz]
    unfold editLen
    rw [if_neg (by omega), if_pos hk]
    omega
theorem joinG_lens {xs ys : List GRule} {lx ly : List Int} (h1 : lens xs = some lx) (h2 : lens ys = some ly) (hm : lastI lx + lastI ly ≤ maxL) : ∃ l, lens (joinG xs ys) = some l ∧ lastI l = lastI lx + lastI ly := by
  have hxl := lens_length h1
  have hyl := lens_length h2
  unfold joinG
  by_cases c1 : xs.length = 0
  · rw [if_pos c1]
    have : lx = [] := List.eq_nil_of_length_eq_zero (by omega)
    exact ⟨ly, h2, by rw [this]; simp [lastI]⟩
  · rw [if_neg c1]
    by_cases c2 : ys.length = 0
    · rw [if_pos c2]
      have : ly = [] := List.eq_nil_of_length_eq_zero (by omega)
      exact ⟨lx, h1, by rw [this]; simp [lastI]⟩
    · rw [if_neg c2]
      have hr := lens_raise h1 h2
      have hlen : (xs ++ ys.map (raiseR xs.length)).length = xs.length + ys.length := by simp
      have e1 : ((xs.length : Int) - 1) = ((xs.length - 1 : Nat) : Int) := by omega
      have e2 : ((xs.length : Int) + ys.length - 1) = ((xs.length + ys.length - 1 : Nat) : Int) := by omega
      have g2 : (lx ++ ly).getD (xs.length - 1) 0 = lastI lx := by
        rw [lastI, List.getD_eq_getElem?_getD, List.getElem?_append_left (by omega), ← List.getD_eq_getElem?_getD, hxl]
      have g3 : (lx ++ ly).getD (xs.length + ys.length - 1) 0 = lastI ly := by
        rw [lastI, List.getD_eq_getElem?_getD, List.getElem?_append_right (by omega), ← List.getD_eq_getElem?_getD, hxl, hyl]
        congr 1; omega
      rw [e1, e2]
      have h3 := lens_snoc (a := xs.length - 1) (b := xs.length + ys.length - 1) hr (by omega) (by omega) (by rw [g2, g3]; exact hm)
      rw [g2, g3] at h3
      exact ⟨_, h3, by simp [lastI]⟩
theorem joinG_len2 (xs ys : List GRule) : (joinG xs ys).length ≤ xs.length + ys.length + 1 := by
  unfold joinG
  split
  · omega
  · split
    · omega
    · simp; omega
theorem getR_right {xs ys : List GRule} {n r : Nat} (hr : r < ys.length) : getR (xs ++ ys.map (raiseR n)) (xs.length + r) = raiseR n (getR ys r) := by
  unfold getR
  rw [List.getD_eq_getElem?_getD, List.getElem?_append_right (by omega), List.getD_eq_getElem?_getD]
  rw [show xs.length + r - xs.length = r by omega, List.getElem?_map, List.getElem?_eq_getElem hr]
  rfl
theorem getR_turn {xs : List GRule} {r : Nat} (hr : r < xs.length) : getR (xs.map turnR) r = turnR (getR xs r) := by
  unfold getR
  rw [List.getD_eq_getElem?_getD, List.getD_eq_getElem?_getD, List.getElem?_map, List.getElem?_eq_getElem hr]
  rfl
theorem raise_pair (n : Nat) (r : GRule) : (raiseR n r).pair = r.pair := by
  unfold raiseR; split <;> rfl
theorem wordR_raise {xs ys : List GRule} {ly : List Int} (hy : lens ys = some ly) : ∀ (f r : Nat), r < ys.length → wordR (xs ++ ys.map (raiseR xs.length)) f (xs.length + r) = wordR ys f r := by
  intro f
  induction f with
  | zero => intro r _; rfl
  | succ f ih =>
    intro r hr
    rw [wordR, wordR, getR_right hr, raise_pair]
    cases hp : (getR ys r).pair with
    | false => simp [raiseR, hp]
    | true =>
      obtain ⟨q1, q2, q3, q4, q5⟩ := lens_pair hy hr hp
      rw [if_pos rfl, if_pos rfl, ← ih _ (show (getR ys r).left.toNat < ys.length by omega), ← ih _ (show (getR ys r).right.toNat < ys.length by omega)]
      have e1 : (raiseR xs.length (getR ys r)).left.toNat = xs.length + (getR ys r).left.toNat := by simp only [raiseR, hp, if_true]; omega
      have e2 : (raiseR xs.length (getR ys r)).right.toNat = xs.length + (getR ys r).right.toNat := by simp only [raiseR, hp, if_true]; omega
      rw [e1, e2]
theorem wordR_turn {xs : List GRule} {ls : List Int} (h : lens xs = some ls) : ∀ (f r : Nat), r < xs.length → wordR (xs.map turnR) f r = (wordR xs f r).reverse := by
  intro f
  induction f with
  | zero => intro r _; rfl
  | succ f ih =>
    intro r hr
    rw [wordR, wordR, getR_turn hr, show (turnR (getR xs r)).pair = (getR xs r).pair from rfl]
    cases hp : (getR xs r).pair with
    | false =>
      have h1 := isLet_size (lens_isLet h hr hp)
      have h2 : (getR xs r).letter.data.toList.length = 1 := by rw [Array.length_toList]; exact h1
      obtain ⟨x, hx⟩ := List.length_eq_one_iff.1 h2
      simp [turnR, hx]
    | true =>
      obtain ⟨q1, q2, q3, q4, q5⟩ := lens_pair h hr hp
      simp only [if_true]
      rw [List.reverse_append, ← ih _ (show (getR xs r).left.toNat < xs.length by omega), ← ih _ (show (getR xs r).right.toNat < xs.length by omega)]
      rfl
theorem wordG_turn {xs : List GRule} {ls : List Int} (h : lens xs = some ls) : wordG (xs.map turnR) = (wordG xs).reverse := by
  by_cases h0 : xs.length = 0
  · have : xs = [] := List.eq_nil_of_length_eq_zero h0
    subst this; rfl
  · rw [wordG_pos (by simp; omega), wordG_pos (by omega), List.length_map]
    exact wordR_turn h _ _ (by omega)
theorem joinG_word {xs ys : List GRule} {lx ly : List Int} (h1 : lens xs = some lx) (h2 : lens ys = some ly) (hm : lastI lx + lastI ly ≤ maxL) : wordG (joinG xs ys) = wordG xs ++ wordG ys := by
  obtain ⟨l, hl, _⟩ := joinG_lens h1 h2 hm
  unfold joinG at hl ⊢
  by_cases c1 : xs.length = 0
  · have : xs = [] := List.eq_nil_of_length_eq_zero c1
    subst this; simp [wordG]
  · rw [if_neg c1] at hl ⊢
    by_cases c2 : ys.length = 0
    · have : ys = [] := List.eq_nil_of_length_eq_zero c2
      subst this; simp [wordG]
    · rw [if_neg c2] at hl ⊢
      have hr := lens_raise h1 h2
      have hlen : (xs ++ ys.map (raiseR xs.length)).length = xs.length + ys.length := by simp
      have e1 : ((xs.length : Int) - 1) = ((xs.length - 1 : Nat) : Int) := by omega
      have e2 : ((xs.length : Int) + ys.length - 1) = ((xs.length + (ys.length - 1) : Nat) : Int) := by omega
      rw [e1, e2] at hl ⊢
      rw [wordG_snoc, W1_snoc hl (by omega) (by omega), W1_appL h1 (by omega), wordG_pos (by omega), wordG_pos (show 0 < ys.length by omega)]
      congr 1
      have hw := wordR_fuel hr (xs.length + (ys.length - 1) + 1) (xs.length + (ys.length - 1)) (by omega) (by omega)
      rw [← hw, wordR_raise h2 _ _ (by omega)]
      exact wordR_fuel h2 _ _ (by omega) (by omega)
theorem EC.at_ {w : World} {E : Nat} {e : GEdit} {vR : Value} (h : EC w E 0 e vR) (hR : Sl RuleE w w.heap.size vR e.part) : EditAt w w.heap.size E e vR :=
  ⟨⟨h.c0, by simpa using h.c1, by simpa using h.c2, by simpa using h.c3, by simpa using h.c4, by simpa using h.c5⟩, h.lt, hR⟩
section
variable {α : Type}
end
theorem one_plain {x : ByteArray} (hw : wordOk x = true) (h1 : x.size = 1) : ∃ k, k < 4 ∧ plainG x = [letR (ltr k)] := by
  obtain ⟨⟨l⟩⟩ := x
  have hl : l.length = 1 := h1
  obtain ⟨c, rfl⟩ := List.length_eq_one_iff.1 hl
  have hc : letOk c = true := by
    unfold wordOk at hw
    simp only [Bool.and_eq_true] at hw
    simpa using hw.2
  obtain ⟨k, hk, rfl⟩ := let_ltr hc
  refine ⟨k, hk, ?_⟩
  have : k = 0 ∨ k = 1 ∨ k = 2 ∨ k = 3 := by omega
  rcases this with rfl | rfl | rfl | rfl <;> decide
theorem letR_np (c : UInt8) : (letR c).pair = false := rfl
theorem raise_letR (n : Nat) (c : UInt8) : raiseR n (letR c) = letR c := by
  unfold raiseR
  rw [if_neg (by rw [letR_np]; simp)]
structure BaseW (xs : List GRule) (k : Nat) (p : List GRule × List Int) : Prop where
  ok : OkAll p.1
  l4 : p.2.length = 4
  at_ : ∀ i, i < k → hasL xs i = true → 0 ≤ p.2.getD i 0 ∧ p.2.getD i 0 < p.1.length
  np : ∀ r, r < p.1.length → (getR p.1 r).pair = false
theorem base_w (xs : List GRule) (ws : List ByteArray) (hw : ∀ s ∈ ws, wordOk s = true ∧ s.size = 1) (hl : ws.length = 4) : ∀ k, k ≤ 4 → BaseW xs k (baseG xs ws k) := by
  intro k
  induction k with
  | zero => intro _; exact ⟨okAll_nil, rfl, fun i hi => absurd hi (by omega), fun r hr => absurd hr (by simp [baseG])⟩
  | succ k ih =>
    intro hk
    have H := ih (by omega)
    rw [baseG_succ]
    obtain ⟨O, S, hp⟩ : ∃ O S, baseG xs ws k = (O, S) := ⟨_, _, rfl⟩
    rw [hp] at H ⊢
    have hO : OkAll O := H.ok
    have hS : S.length = 4 := H.l4
    have hat : ∀ i, i < k → hasL xs i = true → 0 ≤ S.getD i 0 ∧ S.getD i 0 < (O.length : Int) := H.at_
    have hnp : ∀ r, r < O.length → (getR O r).pair = false := H.np
    obtain ⟨hwk, h1k⟩ := hw (ws.getD k ⟨#[]⟩) (by rw [List.getD_eq_getElem?_getD, List.getElem?_eq_getElem (by omega)]; exact List.getElem_mem _)
    obtain ⟨c, hc, hpl⟩ := one_plain hwk h1k
    unfold baseStep
    rw [hpl]
    split
    · rename_i hcond
      have e1 : ([letR (ltr c)].map (raiseR O.length)) = [letR (ltr c)] := by rw [List.map_singleton, raise_letR]
      refine ⟨?_, by simp [hS], ?_, ?_⟩
      · show OkAll (O ++ [letR (ltr c)].map (raiseR O.length))
        exact okAll_raise hO (by rw [← hpl]; exact okAll_plainG hwk)
      · intro i hi hh
        show 0 ≤ (S.set k _).getD i 0 ∧ (S.set k _).getD i 0 < ((O ++ [letR (ltr c)].map (raiseR O.length)).length : Int)
        rw [getD_set (by omega), e1, List.length_append, List.length_singleton]
        by_cases hik : k = i
        · rw [if_pos hik]
          have e0 : ((O, S) : List GRule × List Int).fst.length = O.length := rfl
          omega
        · rw [if_neg hik]
          have := hat i (by omega) hh
          omega
      · intro r hr
        show (getR (O ++ [letR (ltr c)].map (raiseR O.length)) r).pair = false
        rw [e1]
        have hr' : r < O.length + 1 := by
          have : r < (O ++ [letR (ltr c)].map (raiseR O.length)).length := hr
          rw [e1, List.length_append, List.length_singleton] at this; exact this
        by_cases hro : r < O.length
        · rw [getR_append hro]; exact hnp r hro
        · have : r = O.length := by omega
          subst this
          rw [getR_last]; exact letR_np _
    · rename_i hcond
      refine ⟨hO, hS, ?_, hnp⟩
      intro i hi hh
      by_cases hik : i < k
      · exact hat i hik hh
      · have : i = k := by omega
        subst this
        exact absurd ⟨by omega, hh⟩ hcond
theorem letR_of {r : GRule} {k : Nat} (h : okRule k r = true) (hp : r.pair = false) : ∃ c, c < 4 ∧ r = letR (ltr c) ∧ (r.letter.data.getD 0 0).toNat - 97 = c := by
  obtain ⟨h1, h2, h3⟩ := okRule_let h hp
  obtain ⟨⟨⟨l⟩⟩, a, b⟩ := r
  have hl : l.length = 1 := h1
  obtain ⟨x, rfl⟩ := List.length_eq_one_iff.1 hl
  have hi := letter_idx h hp
  have hx : 97 ≤ x.toNat ∧ x.toNat ≤ 100 := by simpa using hi
  have h2' : a = 0 := h2
  have h3' : b = 0 := h3
  subst h2' h3'
  refine ⟨x.toNat - 97, by omega, ?_, by simp⟩
  unfold letR ltr
  rw [show 97 + (x.toNat - 97) = x.toNat by omega]
  simp
structure StandW (xs : List GRule) (k : Nat) (p : List GRule × List Int) : Prop where
  ok : OkAll p.1
  ls : p.2.length = k
  at_ : ∀ i, i < k → 0 ≤ p.2.getD i 0 ∧ p.2.getD i 0 < p.1.length ∧ (W1 p.1 (p.2.getD i 0).toNat).length = (W1 xs i).length
  most : ∀ r, r < p.1.length → ((W1 p.1 r).length : Int) ≤ maxL
theorem stand_w {xs : List GRule} {lsx : List Int} (ws : List ByteArray) (hw : ∀ s ∈ ws, wordOk s = true ∧ s.size = 1) (hl : ws.length = 4) (hx : lens xs = some lsx) : ∀ k, k ≤ xs.length → StandW xs k (standG xs ws k) := by
  have HB := base_w xs ws hw hl 4 (Nat.le_refl _)
  have hA := okAll_lens hx
  intro k
  induction k with
  | zero =>
    intro _
    refine ⟨HB.ok, rfl, fun i hi => absurd hi (by omega), fun r hr => ?_⟩
    have := W1_let1 HB.ok hr (HB.np r hr)
    show ((W1 (baseG xs ws 4).1 r).length : Int) ≤ maxL
    rw [this]; decide
  | succ k ih =>
    intro hk
    have H := ih (by omega)
    obtain ⟨r, hr⟩ : ∃ r, xs[k]? = some r := ⟨_, List.getElem?_eq_getElem (by omega)⟩
    have hor := hA k r hr
    have hgr := getR_some hr
    have hpre : ∃ t, (standG xs ws k).1 = (baseG xs ws 4).1 ++ t := by
      clear H hor
      unfold standG
      suffices G : ∀ (l : List GRule) (p : List GRule × List Int), ∃ t, (l.foldl (standStep (baseG xs ws 4).2) p).1 = p.1 ++ t by exact G (xs.take k) ((baseG xs ws 4).1, [])
      intro l
      induction l with
      | nil => intro p; exact ⟨[], by simp⟩
      | cons a l ih2 =>
        intro p
        obtain ⟨t, ht⟩ := ih2 (standStep (baseG xs ws 4).2 p a)
        have : ∃ u, (standStep (baseG xs ws 4).2 p a).1 = p.1 ++ u := by
          unfold standStep
          split
          · split
            · exact ⟨[], by simp⟩
            · split
              · exact ⟨[], by simp⟩
              · exact ⟨_, rfl⟩
          · exact ⟨[], by simp⟩
        obtain ⟨u, hu⟩ := this
        exact ⟨u ++ t, by rw [List.foldl_cons, ht, hu, List.append_assoc]⟩
    rw [standG_succ hr]
    obtain ⟨O, S, hp⟩ : ∃ O S, standG xs ws k = (O, S) := ⟨_, _, rfl⟩
    rw [hp] at H hpre ⊢
    obtain ⟨t, hpre⟩ := hpre
    have hO : OkAll O := H.ok
    have hS : S.length = k := H.ls
    have hat : ∀ i, i < k → 0 ≤ S.getD i 0 ∧ S.getD i 0 < (O.length : Int) ∧ (W1 O (S.getD i 0).toNat).length = (W1 xs i).length := H.at_
    have hmost : ∀ r, r < O.length → ((W1 O r).length : Int) ≤ maxL := H.most
    have hpre : O = (baseG xs ws 4).1 ++ t := hpre
    unfold standStep
    cases hpr : r.pair with
    | true =>
      obtain ⟨q1, q2, q3, q4⟩ := okRule_at hor hpr
      obtain ⟨a1, a2, a3⟩ := hat _ q2
      obtain ⟨b1, b2, b3⟩ := hat _ q4
      rw [if_pos rfl, if_neg (show ¬ S.getD r.left.toNat 0 < 0 by omega), if_neg (show ¬ S.getD r.right.toNat 0 < 0 by omega)]
      have hO2 : OkAll (O ++ [pairR (S.getD r.left.toNat 0) (S.getD r.right.toNat 0)]) := hO.snoc (okRule_pair ⟨a1, a2⟩ ⟨b1, b2⟩)
      have hW2 : W1 (O ++ [pairR (S.getD r.left.toNat 0) (S.getD r.right.toNat 0)]) O.length = W1 O (S.getD r.left.toNat 0).toNat ++ W1 O (S.getD r.right.toNat 0).toNat := by
        have hg := getR_last O (pairR (S.getD r.left.toNat 0) (S.getD r.right.toNat 0))
        rw [W1_pairA hO2 (by simp) (by rw [hg]; rfl), hg]
        show W1 _ (S.getD r.left.toNat 0).toNat ++ W1 _ (S.getD r.right.toNat 0).toNat = _
        rw [W1_app hO hO2 _ (by omega), W1_app hO hO2 _ (by omega)]
      have hWx : W1 xs k = W1 xs r.left.toNat ++ W1 xs r.right.toNat := by
        have := W1_pairA hA (r := k) (by omega) (by rw [hgr]; exact hpr)
        rw [hgr] at this; exact this
      have hlen : (W1 (O ++ [pairR (S.getD r.left.toNat 0) (S.getD r.right.toNat 0)]) O.length).length = (W1 xs k).length := by
        rw [hW2, hWx, List.length_append, List.length_append, a3, b3]
      refine ⟨hO2, by simp [hS], ?_, ?_⟩
      · intro i hi
        show 0 ≤ (S ++ [(O.length : Int)]).getD i 0 ∧ (S ++ [(O.length : Int)]).getD i 0 < (((O ++ [pairR (S.getD r.left.toNat 0) (S.getD r.right.toNat 0)]).length : Nat) : Int) ∧ _
        by_cases hik : i < k
        · have h0 : (S ++ [(O.length : Int)]).getD i 0 = S.getD i 0 := getI_append (by omega)
          obtain ⟨c1, c2, c3⟩ := hat i hik
          show 0 ≤ (S ++ [(O.length : Int)]).getD i 0 ∧ _ ∧ (W1 (O ++ [pairR (S.getD r.left.toNat 0) (S.getD r.right.toNat 0)]) ((S ++ [(O.length : Int)]).getD i 0).toNat).length = _
          rw [h0]
          exact ⟨c1, by rw [List.length_append]; omega, by rw [W1_app hO hO2 _ (by omega)]; exact c3⟩
        · have hik2 : i = S.length := by omega
          subst hik2
          show 0 ≤ (S ++ [(O.length : Int)]).getD S.length 0 ∧ _ ∧ (W1 (O ++ [pairR (S.getD r.left.toNat 0) (S.getD r.right.toNat 0)]) ((S ++ [(O.length : Int)]).getD S.length 0).toNat).length = _
          rw [getI_last, Int.toNat_natCast]
          exact ⟨by omega, by rw [List.length_append, List.length_singleton]; omega, by rw [hlen, hS]⟩
      · intro y hy
        have hy' : y < O.length + 1 := by
          have : y < (O ++ [pairR (S.getD r.left.toNat 0) (S.getD r.right.toNat 0)]).length := hy
          rw [List.length_append, List.length_singleton] at this; exact this
        show ((W1 (O ++ [pairR (S.getD r.left.toNat 0) (S.getD r.right.toNat 0)]) y).length : Int) ≤ maxL
        by_cases hyo : y < O.length
        · rw [W1_app hO hO2 _ hyo]; exact hmost y hyo
        · have : y = O.length := by omega
          subst this
          rw [hlen]; exact lens_W1 hx (by omega)
    | false =>
      rw [if_neg (by simp)]
      obtain ⟨c, hc4, hrc, hidx⟩ := letR_of hor hpr
      rw [hidx]
      have hhas : hasL xs c = true := by
        unfold hasL
        rw [List.contains_iff_mem, ← hrc]
        exact List.mem_of_getElem? hr
      obtain ⟨d1, d2⟩ := HB.at_ c hc4 hhas
      have hOl : (baseG xs ws 4).1.length ≤ O.length := by rw [hpre, List.length_append]; omega
      have hgO : getR O ((baseG xs ws 4).2.getD c 0).toNat = getR (baseG xs ws 4).1 ((baseG xs ws 4).2.getD c 0).toNat := by rw [hpre]; exact getR_append (by omega)
      have h1 : (W1 O ((baseG xs ws 4).2.getD c 0).toNat).length = 1 := W1_let1 hO (by omega) (by rw [hgO]; exact HB.np _ (by omega))
      have hx1 : (W1 xs k).length = 1 := W1_let1 hA (by omega) (by rw [hgr]; exact hpr)
      refine ⟨hO, by simp [hS], ?_, hmost⟩
      intro i hi
      show 0 ≤ (S ++ [(baseG xs ws 4).2.getD c 0]).getD i 0 ∧ (S ++ [(baseG xs ws 4).2.getD c 0]).getD i 0 < (O.length : Int) ∧ (W1 O ((S ++ [(baseG xs ws 4).2.getD c 0]).getD i 0).toNat).length = _
      by_cases hik : i < k
      · rw [getI_append (by omega)]; exact hat i hik
      · have hik2 : i = S.length := by omega
        subst hik2
        rw [getI_last, hS, hx1]
        exact ⟨d1, by omega, h1⟩
theorem mapO_len {xs q : List GRule} {ws : List ByteArray} (hw : ∀ s ∈ ws, wordOk s = true ∧ s.size = 1) (hl : ws.length = 4) (hx : gramOk xs = true) (h : mapO xs ws = some q) : gramOk q = true ∧ (wordG q).length = (wordG xs).length := by
  obtain ⟨_, lsx, hlx⟩ := gram_lens hx
  unfold mapO at h
  split at h
  · cases h
  · split at h
    · rename_i hc
      cases h
      refine ⟨rfl, ?_⟩
      by_cases h0 : xs.length = 0
      · have : xs = [] := List.eq_nil_of_length_eq_zero h0
        rw [this]
      · exfalso
        have H := stand_w ws hw hl hlx xs.length (Nat.le_refl _)
        have h1 := (H.at_ (xs.length - 1) (by omega)).1
        have h2 : lastI (mapP xs ws).2 = (mapP xs ws).2.getD (xs.length - 1) 0 := by
          unfold lastI
          rw [show (mapP xs ws).2.length = xs.length from H.ls]
        have h3 : 0 ≤ (mapP xs ws).2.getD (xs.length - 1) 0 := h1
        omega
    · rename_i hc
      have h0 : xs.length ≠ 0 := fun e => hc (.inl e)
      have H := stand_w ws hw hl hlx xs.length (Nat.le_refl _)
      obtain ⟨O, S, hp⟩ : ∃ O S, mapP xs ws = (O, S) := ⟨_, _, rfl⟩
      have hp' : standG xs ws xs.length = (O, S) := hp
      rw [hp'] at H
      have hO : OkAll O := H.ok
      have hS : S.length = xs.length := H.ls
      have hmost : ∀ r, r < O.length → ((W1 O r).length : Int) ≤ maxL := H.most
      obtain ⟨a1, a2, a3⟩ := H.at_ (xs.length - 1) (by omega)
      have a1 : 0 ≤ S.getD (xs.length - 1) 0 := a1
      have a2 : S.getD (xs.length - 1) 0 < (O.length : Int) := a2
      have a3 : (W1 O (S.getD (xs.length - 1) 0).toNat).length = (W1 xs (xs.length - 1)).length := a3
      rw [hp] at h
      have hla : lastI S = S.getD (xs.length - 1) 0 := by unfold lastI; rw [hS]
      have h : limO (trimG (O.take ((lastI S).toNat + 1))) = some q := h
      rw [hla] at h
      generalize hm : (S.getD (xs.length - 1) 0).toNat = m at h a3
      have hmO : m < O.length := by omega
      obtain ⟨rfl, hq⟩ := limO_some h
      refine ⟨hq, ?_⟩
      have htd : O = O.take (m + 1) ++ O.drop (m + 1) := (List.take_append_drop _ _).symm
      have hOt : OkAll (O.take (m + 1)) := fun k r hk => by
        rw [List.getElem?_take] at hk
        split at hk
        · exact hO k r hk
        · cases hk
      have hlt : (O.take (m + 1)).length = m + 1 := by rw [List.length_take]; omega
      have hWt : ∀ r, r < m + 1 → W1 (O.take (m + 1)) r = W1 O r := fun r hr => by
        have := W1_app (ys := O.drop (m + 1)) hOt (by rw [← htd]; exact hO) r (by omega)
        rw [← htd] at this; exact this.symm
      obtain ⟨lt, hlens⟩ := lens_ofA hOt fun r hr => by rw [hWt r (by omega)]; exact hmost r (by omega)
      obtain ⟨_, _, h4, _⟩ := trimG_sem hlens
      rw [h4, wordG_pos (by omega), wordG_pos (by omega), hlt, Nat.add_sub_cancel, hWt m (by omega), a3]
theorem map_ones {t : ByteArray} (hw : wordOk t = true) (h4 : t.size = 4) : ∀ s ∈ mapW t, wordOk s = true ∧ s.size = 1 := by
  intro s hs
  refine ⟨(map_words hw h4).2 s hs, ?_⟩
  unfold mapW Lib.charsB Lib.charsUpTo at hs
  obtain ⟨k, hk, rfl⟩ := List.mem_map.1 hs
  have hk4 : k < t.size := by rw [List.mem_range] at hk; exact hk
  rw [ByteArray.size_extract]; omega
def EwP (e : GEdit) (w u : List UInt8) : Prop :=
  if e.kind = 1 then u = cutL w 0 e.i ++ wordG e.part ++ cutL w e.i w.length
  else if e.kind = 2 then u = cutL w 0 e.i ++ cutL w e.j w.length
  else if e.kind = 3 then u = cutL w 0 e.k ++ cutL w e.i e.j ++ cutL w e.k w.length
  else if e.kind = 4 then
    if e.k ≤ e.i then u = cutL w 0 e.k ++ cutL w e.i e.j ++ cutL w e.k e.i ++ cutL w e.j w.length
    else u = cutL w 0 e.i ++ cutL w e.j e.k ++ cutL w e.i e.j ++ cutL w e.k w.length
  else ∃ m, u = cutL w 0 e.i ++ m ++ cutL w e.j w.length ∧ (e.kind = 5 → m = (cutL w e.i e.j).reverse) ∧ (e.kind = 6 → m = repW (cutL w e.i e.j) e.k.toNat) ∧ (e.kind = 7 → m.length = (cutL w e.i e.j).length)
theorem joinW {a b : List GRule} (ha : gramOk a = true) (hb : gramOk b = true) (h : gramOk (joinG a b) = true) : wordG (joinG a b) = wordG a ++ wordG b := by
  obtain ⟨_, la, h1⟩ := gram_lens ha
  obtain ⟨_, lb, h2⟩ := gram_lens hb
  have h3 := joinG_gramLen ha hb h
  have h4 := (gramLen_bounds (joinG a b))
  rw [gramLen_of h1, gramLen_of h2] at h3
  exact joinG_word h1 h2 (by unfold maxL; omega)
def GwO (s : Option (List GRule)) (w : List UInt8) : Prop := ∀ o, s = some o → gramOk o = true ∧ wordG o = w
theorem GwO.add {s g : Option (List GRule)} {w u : List UInt8} (h : GwO s w) (h2 : GwO g u) : GwO (addO s g) (w ++ u) := by
  intro o ho
  obtain ⟨a, b, ha, hb, rfl, h4⟩ := addO_some ho
  obtain ⟨k1, k2⟩ := h a ha
  obtain ⟨k3, k4⟩ := h2 b hb
  exact ⟨h4, by rw [joinW k1 k3 h4, k2, k4]⟩
theorem GwO.nil : GwO (some []) [] := by
  intro o ho; cases ho; exact ⟨rfl, rfl⟩
theorem GwO.part {xs : List GRule} {ls : List Int} (h : lens xs = some ls) {i j : Int} (hi : 0 ≤ i) (hij : i ≤ j) (hj : j ≤ lastI ls) : GwO (limO (partG xs ls i j)) (cutL (wordG xs) i j) := by
  intro o ho
  obtain ⟨rfl, hg⟩ := limO_some ho
  obtain ⟨_, _, h2⟩ := partG_word h hi hij hj
  exact ⟨hg, h2⟩
theorem edit_word {xs : List GRule} {e : GEdit} (h : applyCode xs e = 0) : EwP e (wordG xs) (wordG (applyOut xs e)) := by
  obtain ⟨h1, h2, h3⟩ := applyCode_ok h
  obtain ⟨_, ls, hl⟩ := gram_lens h1
  have hlq : lsOf xs = ls := by simp [lsOf, hl]
  have hgl := gramLen_of hl
  have hwl := wordG_len hl
  obtain ⟨hk, hi, hj, hq, hij, hj0, hgp⟩ := editOk_get h2
  obtain ⟨o, ho⟩ : ∃ o, editS xs ls (lastI ls) e = some o := by
    cases hs : editS xs ls (lastI ls) e with
    | some o => exact ⟨o, rfl⟩
    | none =>
      exfalso
      unfold applyCode applyS at h
      rw [hlq, hs] at h
      simp [h1, h2, h3, editC] at h
  have hout : applyOut xs e = trimG o := by
    unfold applyOut applyS
    rw [hlq, ho]
    simp [h1, h2, h3, editG]
  have hfin : ∀ w, GwO (editS xs ls (lastI ls) e) w → wordG (applyOut xs e) = w := by
    intro w hw
    obtain ⟨g1, g2⟩ := hw o ho
    obtain ⟨_, lo, hlo⟩ := gram_lens g1
    obtain ⟨_, _, h4, _⟩ := trimG_sem hlo
    rw [hout, h4, g2]
  rw [hgl] at h3
  unfold editFits at h3
  unfold EwP
  rw [hwl]
  rcases kind7 hk with k1 | k1 | k1 | k1 | k1 | k1 | k1
  · rw [if_pos k1]
    rw [if_pos k1] at h3
    have h3 : e.i ≤ lastI ls := by simpa using h3
    apply hfin
    unfold editS
    rw [if_pos k1]
    have hp : GwO (some e.part) (wordG e.part) := fun o ho => by cases ho; exact ⟨hgp, rfl⟩
    have := ((GwO.nil.add (GwO.part hl (Int.le_refl 0) hi.1 h3)).add hp).add (GwO.part hl hi.1 h3 (Int.le_refl _))
    simpa using this
  · rw [if_neg (by omega), if_pos k1]
    rw [if_neg (by omega), if_neg (by omega), if_neg (by omega)] at h3
    have h3 : e.j ≤ lastI ls := by simpa using h3
    have hij := hij (by omega)
    apply hfin
    unfold editS
    rw [if_neg (by omega), if_pos k1]
    have := (GwO.nil.add (GwO.part hl (Int.le_refl 0) hi.1 (Int.le_trans hij h3))).add (GwO.part hl hj.1 h3 (Int.le_refl _))
    simpa using this
  · rw [if_neg (by omega), if_neg (by omega), if_pos k1]
    rw [if_neg (by omega), if_pos k1] at h3
    have h3 : e.j ≤ lastI ls ∧ e.k ≤ lastI ls := by simpa using h3
    have hij := hij (by omega)
    apply hfin
    unfold editS
    rw [if_neg (by omega), if_neg (by omega), if_pos k1]
    have := ((GwO.nil.add (GwO.part hl (Int.le_refl 0) hq.1 h3.2)).add (GwO.part hl hi.1 hij h3.1)).add (GwO.part hl hq.1 h3.2 (Int.le_refl _))
    simpa using this
  · rw [if_neg (by omega), if_neg (by omega), if_neg (by omega), if_pos k1]
    rw [if_neg (by omega), if_neg (by omega), if_pos k1] at h3
    have h3 : e.j ≤ lastI ls ∧ (e.k ≤ e.i ∨ (e.j ≤ e.k ∧ e.k ≤ lastI ls)) := by simpa using h3
    have hij := hij (by omega)
    by_cases hki : e.k ≤ e.i
    · rw [if_pos hki]
      apply hfin
      unfold editS
      rw [if_neg (by omega), if_neg (by omega), if_neg (by omega), if_pos k1, if_pos hki]
      have := (((GwO.nil.add (GwO.part hl (Int.le_refl 0) hq.1 (by omega))).add (GwO.part hl hi.1 hij h3.1)).add (GwO.part hl hq.1 hki (by omega))).add (GwO.part hl hj.1 h3.1 (Int.le_refl _))
      simpa using this
    · rw [if_neg hki]
      obtain ⟨c1, c2⟩ : e.j ≤ e.k ∧ e.k ≤ lastI ls := by
        rcases h3.2 with hh | hh
        · exact absurd hh hki
        · exact hh
      apply hfin
      unfold editS
      rw [if_neg (by omega), if_neg (by omega), if_neg (by omega), if_pos k1, if_neg hki]
      have := (((GwO.nil.add (GwO.part hl (Int.le_refl 0) hi.1 (by omega))).add (GwO.part hl hj.1 c1 c2)).add (GwO.part hl hi.1 hij h3.1)).add (GwO.part hl hq.1 c2 (Int.le_refl _))
      simpa using this
  all_goals
    rw [if_neg (by omega), if_neg (by omega), if_neg (by omega), if_neg (by omega)]
    rw [if_neg (by omega), if_neg (by omega), if_neg (by omega)] at h3
    have h3 : e.j ≤ lastI ls := by simpa using h3
    have hij := hij (by omega)
    have hE : editS xs ls (lastI ls) e = addO (addO (addO (some []) (limO (partG xs ls 0 e.i))) ((limO (partG xs ls e.i e.j)).bind (chgO e))) (limO (partG xs ls e.j (lastI ls))) := by
      unfold editS
      rw [if_neg (by omega), if_neg (by omega), if_neg (by omega), if_neg (by omega)]
    obtain ⟨q, hq1⟩ : ∃ q, (limO (partG xs ls e.i e.j)).bind (chgO e) = some q := by
      rw [hE] at ho
      obtain ⟨a, b, ha, hb, _, _⟩ := addO_some ho
      obtain ⟨a', b', ha', hb', _, _⟩ := addO_some ha
      exact ⟨b', hb'⟩
    obtain ⟨p, hp1, hp2⟩ := Option.bind_eq_some_iff.1 hq1
    obtain ⟨g1, g2⟩ := GwO.part hl hi.1 hij h3 p hp1
    have hgo : ∀ w, gramOk q = true → wordG q = w → wordG (applyOut xs e) = cutL (wordG xs) 0 e.i ++ w ++ cutL (wordG xs) e.j (lastI ls) := by
      intro w hg hw
      apply hfin
      rw [hE]
      have hqq : GwO ((limO (partG xs ls e.i e.j)).bind (chgO e)) w := fun o ho => by
        rw [hq1] at ho; cases ho; exact ⟨hg, hw⟩
      have := ((GwO.nil.add (GwO.part hl (Int.le_refl 0) hi.1 (Int.le_trans hij h3))).add hqq).add (GwO.part hl hj.1 h3 (Int.le_refl _))
      simpa using this
    unfold chgO at hp2
  · rw [if_pos k1] at hp2
    cases hp2
    obtain ⟨_, lp, hlp⟩ := gram_lens g1
    refine ⟨_, hgo _ (gramOk_turn g1) rfl, fun _ => ?_, fun hh => by omega, fun hh => by omega⟩
    rw [wordG_turn hlp, g2]
  · rw [if_neg (by omega), if_pos k1] at hp2
    obtain ⟨rfl, hgq⟩ := limO_some hp2
    obtain ⟨_, lp, hlp⟩ := gram_lens g1
    obtain ⟨_, lq, hlq2⟩ := gram_lens hgq
    refine ⟨_, hgo _ hgq rfl, fun hh => by omega, fun _ => ?_, fun hh => by omega⟩
    rw [powG_word hlp hlq2, g2]
  · rw [if_neg (by omega), if_neg (by omega)] at hp2
    have hm : e.map.size = 4 ∧ wordOk e.map = true := by
      unfold editOk at h2
      simp only [Bool.and_eq_true] at h2
      have := h2.2
      rw [if_pos (by simp [k1]), Bool.and_eq_true] at this
      exact ⟨by simpa using this.1, this.2⟩
    obtain ⟨c1, c2⟩ := mapO_len (map_ones hm.2 hm.1) (map_words hm.2 hm.1).1 g1 hp2
    refine ⟨_, hgo _ c1 rfl, fun hh => by omega, fun hh => by omega, fun _ => ?_⟩
    rw [c2, g2]
theorem addO_ok {s g : Option (List GRule)} {o : List GRule} (h : addO s g = some o) : gramOk o = true := by
  unfold addO at h
  split at h
  · split at h
    · rename_i h2; cases h; exact h2
    · cases h
  · cases h
theorem editS_ok {xs : List GRule} {ls : List Int} {n : Int} {e : GEdit} {o : List GRule} (h : editS xs ls n e = some o) : gramOk o = true := by
  unfold editS at h
  repeat' split at h
  all_goals exact addO_ok h
theorem applyOut_ok (xs : List GRule) (e : GEdit) : gramOk (applyOut xs e) = true := by
  unfold applyOut
  split
  · split
    · unfold editG applyS
      cases h : editS xs (lsOf xs) (lastI (lsOf xs)) e with
      | none => rfl
      | some o => exact gramOk_trim (editS_ok h)
    · rfl
  · rfl
end Go.Proofs.YtdacndamehiglaaGreatDoor
