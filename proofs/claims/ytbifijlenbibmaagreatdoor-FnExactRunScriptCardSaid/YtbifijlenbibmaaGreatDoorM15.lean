import Derived.Test.YtbifijlenbibmaaGreatDoorM14
import Derived.Test.YtbifijlenbibmaaGreatDoorM12
import Derived.Test.YtbifijlenbibmaaGreatDoorM5
import Derived.Test.YtbifijlenbibmaaGreatDoorM3
import Derived.Test.YtbifijlenbibmaaGreatDoorM10
import Derived.Test.YtbifijlenbibmaaGreatDoorM9
namespace Go.Proofs.YtbifijlenbibmaaGreatDoor
open Go.RowKit

/-- The state of the making of an edited grammar: R the result's cell, b the maker. -/
structure MkJ (w0 : World) (P oP E oE R b : Nat) (e : GEdit) (vR vG : Value) (s : Option (List GRule)) (W : World) : Prop where
  bel : Below w0.heap.size w0 W
  hM : Mk W b P oP s
  cP : C1 W ⟨P, oP, none⟩ vG
  hE : EC W E oE e vR
  hR : Blk W R #[.slice none 0 0] 30
  neP : P ≠ b
  neE : E ≠ b
  neR : R ≠ b
  le : w0.heap.size ≤ b
  ltR : w0.heap.size ≤ R
theorem MkJ.next {w0 W W' : World} {P oP E oE R b : Nat} {e : GEdit} {vR vG : Value} {s s' : Option (List GRule)} (h : MkJ w0 P oP E oE R b e vR vG s W) (hb : But b W W') (ha : Mk W' b P oP s') : MkJ w0 P oP E oE R b e vR vG s' W' :=
  ⟨h.bel.trans (hb.below h.le h.bel.size), ha, h.cP.but hb h.neP, h.hE.but hb h.neE, h.hR.but hb h.neR, h.neP, h.neE, h.neR, h.le, h.ltR⟩
theorem MkJ.drewN {w0 W : World} {P oP E oE R b : Nat} {e : GEdit} {vR vG : Value} {s : Option (List GRule)} (h : MkJ w0 P oP E oE R b e vR vG s W) (n : Nat) : MkJ w0 P oP E oE R b e vR vG s (W.drewN n) :=
  h.next ((But.refl b W).drewN n) (h.hM.up (below_drewN (Below.refl _ _) n))
theorem MkJ.drew {w0 W : World} {P oP E oE R b : Nat} {e : GEdit} {vR vG : Value} {s : Option (List GRule)} (h : MkJ w0 P oP E oE R b e vR vG s W) : MkJ w0 P oP E oE R b e vR vG s W.drew :=
  h.next (But.refl b W).drew (h.hM.up (Below.drew (Below.refl _ _)))
theorem mk_start {W : World} {P oP : Nat} {b : Nat} (h : Blk W b #[.pointer (some ⟨P, oP, none⟩), .slice none 0 0, .bool false] 177) : Mk W b P oP (some []) :=
  ⟨_, [], h, World.ownsRow_nil _ _ _ _, fun _ h => (Option.some.inj h).symm, rfl⟩
/-- The numbers of an edit that fits. -/
theorem fits_nums {e : GEdit} {n : Int} (h : editOk e = true) (hf : editFits e n = true) :
    0 ≤ e.i ∧ (e.kind = 1 → e.i ≤ n) ∧ (2 ≤ e.kind → e.i ≤ e.j ∧ e.j ≤ n) ∧ (e.kind = 3 → 0 ≤ e.k ∧ e.k ≤ n) ∧ (e.kind = 4 → 0 ≤ e.k ∧ (e.k ≤ e.i ∨ (e.j ≤ e.k ∧ e.k ≤ n))) := by
  obtain ⟨k, i, j, kk, part, map⟩ := e
  have hk := (kind_ok h).2.2.2
  have hr := (kind_ok h).2.2.1
  simp only [editOk, Bool.and_eq_true, inR, decide_eq_true_eq] at h
  obtain ⟨⟨⟨⟨⟨⟨⟨⟨h1, h1'⟩, h2⟩, h3⟩, h4⟩, h5⟩, h6⟩, h7⟩, h8⟩ := h
  simp only at h1 h1' h2 h3 h4 hk hr ⊢
  rcases (by omega : k = 1 ∨ k = 2 ∨ k = 3 ∨ k = 4 ∨ k = 5 ∨ k = 6 ∨ k = 7) with rfl | rfl | rfl | rfl | rfl | rfl | rfl
  all_goals
    simp [editFits, numOk, usesJ, usesK, inR] at hf h3 h4 hk ⊢
    omega
set_option maxRecDepth 100000 in
set_option maxHeartbeats 4000000 in
theorem l07Apply_any (P oP E oE : Nat) (vG vR : Value) (xs : List GRule) (e : GEdit) (w : World) (hP : C1 w ⟨P, oP, none⟩ vG) (hE : EC w E oE e vR) (hG : Sl RuleE w w.heap.size vG xs) (hR : Sl RuleE w w.heap.size vR e.part) (hg : gramOk xs = true) (hk : editOk e = true) :
    Calls Tryz.prog 61 #[.pointer (some ⟨P, oP, none⟩), .pointer (some ⟨E, oE, none⟩)] w (GRes (applyOut xs e) (applyCode xs e) w) := by
  have hls : lens xs = some (lsOf xs) := by
    obtain ⟨ls, h⟩ := (gram_lens hg).2
    simp [lsOf, h]
  obtain ⟨ls, hlq⟩ : ∃ ls, lsOf xs = ls := ⟨_, rfl⟩
  rw [hlq] at hls
  have HG := Lib.hid hG
  have HR := Lib.hid hR
  have HL := Lib.hid hls
  have HOK := Lib.hid hg
  have HK := Lib.hid (kind_ok hk)
  have HEK := Lib.hid hk
  have hn : xs.length ≤ 1048576 := by have := gram_len400 hg; omega
  have sm := Lib.hid (okAll_smallL (okAll_lens (gram_lens hg).2.choose_spec))
  have hgl : gramLen xs = lastI ls := gramLen_of hls
  have HAO := Lib.hid (show applyOut xs e = if editFits e (lastI ls) then editG (editS xs ls (lastI ls) e) else [] by simp [applyOut, hg, hk, hgl, applyS, hlq])
  have HAC := Lib.hid (show applyCode xs e = if editFits e (lastI ls) then editC (editS xs ls (lastI ls) e) else 2 by simp [applyCode, hg, hk, hgl, applyS, hlq])
  obtain ⟨AG, cG, rfl, _⟩ := hG
  obtain ⟨AR, cR, rfl, _⟩ := hR
  have HP := Lib.hid hP
  have HE := Lib.hid hE
  have KR := Blk.new w #[.slice none 0 0] 30
  have bA := (Below.refl w.heap.size w).alloc (Nat.le_refl _) (.cells #[.slice none 0 0] 30)
  clear hls hlq hg hk hgl hP hE
  go_enter Tryz.func61, Tryz.ntmps61
  go_wp2_with fail
  refine (l02Length_any P oP _ xs ls _ HL.out (HP.out.up bA).c (HP.out.up bA).lt (HG.out.up bA) sm.out (by omega)).mono ?_
  rintro e1 w1 ⟨rfl, hb1⟩
  have HP1 := Lib.hid ((HP.out.up bA).up hb1)
  have HE1 := Lib.hid ((HE.out.up bA).up hb1)
  have HR1 := Lib.hid (KR.up hb1)
  have HB1 := Lib.hid (Below.tr bA hb1)
  clear HP HE KR bA hb1
  go_wp2_with fail
  refine (l07RangeO_any E oE _ e _ _ HE1.out HK.out.2.2.1).mono ?_
  rintro e2 w2 ⟨rfl, hb2⟩
  have HP2 := Lib.hid (HP1.out.up hb2)
  have HE2 := Lib.hid (HE1.out.up hb2)
  have HR2 := Lib.hid (HR1.out.up hb2)
  have HB2 := Lib.hid (Below.tr HB1.out hb2)
  clear HP1 HE1 HR1 HB1 hb2
  have rl := HR2.out.lt
  have rf := HR2.out.frozen 0
  have rc := HR2.out.cell (i := 0) (v := .slice none 0 0) rfl
  cases hf : editFits e (lastI ls) with
  | false =>
    have q1 : applyOut xs e = [] ∧ applyCode xs e = 2 := by rw [HAO.out, HAC.out, hf]; exact ⟨rfl, rfl⟩
    have HQ := Lib.hid q1
    clear q1 hf
    go_wp2_with fail
    refine bodyPost_ret (v := .tuple #[.agg #[.slice none 0 0], .int .i64 2]) (by simp [results, Tryz.results61, go_sem, rc]) rfl ⟨Below.setCell HB2.out (by show w.heap.size ≤ w.heap.size; omega) _, .slice none 0 0, by rw [HQ.out.1]; exact World.ownsRow_nil _ _ _ _, by rw [HQ.out.2]⟩
  | true =>
    have hao : applyOut xs e = editG (editS xs ls (lastI ls) e) ∧ applyCode xs e = editC (editS xs ls (lastI ls) e) := by rw [HAO.out, HAC.out, hf]; exact ⟨rfl, rfl⟩
    have HQA := Lib.hid hao
    have HF := Lib.hid (fits_nums HEK.out hf)
    have hs2 := HB2.out.size
    have KM := Blk.new w2 #[.pointer (some ⟨P, oP, none⟩), .slice none 0 0, .bool false] 177
    have bM := (Below.refl w2.heap.size w2).alloc (Nat.le_refl _) (.cells #[.pointer (some ⟨P, oP, none⟩), .slice none 0 0, .bool false] 177)
    have lp := HP2.out.lt
    have le := HE2.out.lt
    have hj : MkJ w P oP E oE w.heap.size w2.heap.size e (.slice AR e.part.length cR) (.slice AG xs.length cG) (some []) (w2.alloc (.cells #[.pointer (some ⟨P, oP, none⟩), .slice none 0 0, .bool false] 177)) :=
      ⟨Below.tr HB2.out bM, mk_start KM, HP2.out.up bM, HE2.out.up bM, HR2.out.up bM, by show P ≠ _; have : P < w2.heap.size := lp; omega, by omega, by omega, hs2, Nat.le_refl _⟩
    have HJ1 := Lib.hid hj
    clear hao hf hj KM bM rl rf rc lp HP2 HE2 HR2 HB2 HAO HAC
    go_upto_region 8 with fail
    generalize w2.alloc (.cells #[.pointer (some ⟨P, oP, none⟩), .slice none 0 0, .bool false] 177) = W1 at *
    obtain ⟨b, hbq⟩ : ∃ b, w2.heap.size = b := ⟨_, rfl⟩
    rw [hbq] at HJ1 ⊢
    clear hbq
    rcases HK.out.1 with hk | hk | hk | hk | hkk
    · have x0 := HJ1.out.hE.c0
      rw [hk] at x0
      have HKE := Lib.hid hk
      clear hk
      have aE1 := HJ1.out.hE.c1
      have aE := HJ1.out.hE.lt
      have aB := HJ1.out.hM.lt
      go_wp2_with fail
      refine (mkPart_any b P oP _ xs ls _ 0 (e.i) _ HJ1.out.hM HJ1.out.cP.c HJ1.out.cP.lt ((HG.out.below HJ1.out.bel).le HJ1.out.le) HOK.out HL.out (by first | (have := HF.out; have := HKE.out; omega) | (have := HF.out; have := HKE.out; have := HKI.out; omega))).mono ?_
      rintro e6 W2 ⟨rfl, hb1, ha1⟩
      have HJ2 := Lib.hid (HJ1.out.next hb1 ha1)
      clear aE1 aE aB hb1 ha1 HJ1
      have aE4 := HJ2.out.hE.c4
      have aE := HJ2.out.hE.lt
      have aB := HJ2.out.hM.lt
      go_wp2_with fail
      refine (mkAdd_any b P oP _ (some e.part) (.slice AR e.part.length cR) e.part 0 _ HJ2.out.hM (sl_ne (HR.out.below HJ2.out.bel) HJ2.out.le HJ2.out.hM.lt) (.inl ⟨rfl, rfl, HK.out.2.1⟩)).mono ?_
      rintro e7 W3 ⟨rfl, hb2, ha2⟩
      have HJ3 := Lib.hid (HJ2.out.next hb2 ha2)
      clear aE4 aE aB hb2 ha2 HJ2
      have aE1 := HJ3.out.hE.c1
      have aE := HJ3.out.hE.lt
      have aB := HJ3.out.hM.lt
      go_wp2_with fail
      refine (mkPart_any b P oP _ xs ls _ e.i (lastI ls) _ HJ3.out.hM HJ3.out.cP.c HJ3.out.cP.lt ((HG.out.below HJ3.out.bel).le HJ3.out.le) HOK.out HL.out (by first | (have := HF.out; have := HKE.out; omega) | (have := HF.out; have := HKE.out; have := HKI.out; omega))).mono ?_
      rintro e8 W4 ⟨rfl, hb3, ha3⟩
      have HJ4 := Lib.hid (HJ3.out.next hb3 ha3)
      clear aE1 aE aB hb3 ha3 HJ3
      have hQ : editS xs ls (lastI ls) e = addO (addO (addO (some []) (limO (partG xs ls 0 (e.i)))) (some e.part)) (limO (partG xs ls e.i (lastI ls))) := by unfold editS; rw [if_pos HKE.out]
      have HQ := Lib.hid hQ
      clear hQ
      obtain ⟨vO, out, hB9, hO9, hs9, hok9⟩ := HJ4.out.hM
      obtain ⟨AO, kO, rfl, _⟩ := own_nil hO9
      have HOut := Lib.hid hok9
      have HO9 := Lib.hid hO9
      have lb := hB9.lt
      have rl := HJ4.out.hR.lt
      have rf := HJ4.out.hR.frozen 0
      have rc := HJ4.out.hR.cell (i := 0) (v := .slice none 0 0) rfl
      have HBE := Lib.hid HJ4.out.bel
      have HRR := Lib.hid HJ4.out.hR
      have hle := HJ4.out.le
      clear hok9 hO9 HJ4
      rw [← HQ.out] at hB9 hs9
      cases hS : editS xs ls (lastI ls) e with
      | none =>
        have q1 : applyOut xs e = [] ∧ applyCode xs e = 3 := by rw [HQA.out.1, HQA.out.2, hS]; exact ⟨rfl, rfl⟩
        have HX := Lib.hid q1
        have a2 := hB9.cell (i := 2) (v := .bool true) (by rw [hS]; rfl)
        clear hS hs9 hB9 q1
        go_wp2_with fail
        refine bodyPost_ret (v := .tuple #[.agg #[.slice none 0 0], .int .i64 3]) (by simp [results, Tryz.results61, go_sem, rc]) rfl ⟨Below.setCell HBE.out (by show w.heap.size ≤ w.heap.size; omega) _, .slice none 0 0, by rw [HX.out.1]; exact World.ownsRow_nil _ _ _ _, by rw [HX.out.2]⟩
      | some o =>
        have e9 := hs9 o hS
        subst e9
        have q1 : applyOut xs e = trimG o ∧ applyCode xs e = 0 := by rw [HQA.out.1, HQA.out.2, hS]; exact ⟨rfl, rfl⟩
        have HX := Lib.hid q1
        have a1 := hB9.cell (i := 1) (v := .slice AO o.length kO) rfl
        have a2 := hB9.cell (i := 2) (v := .bool false) (by rw [hS]; rfl)
        clear hS hs9 hB9 q1
        go_wp2_with fail
        refine (l02Trim_any b 1 _ o _ a1 lb HO9.out.sl (by have := gram_len400 HOut.out; omega) (okAll_lens (gram_lens HOut.out).2.choose_spec)).mono ?_
        rintro e10 w10 ⟨hb10, v10, own10, rfl⟩
        have HR10 := Lib.hid (HRR.out.up hb10)
        have HB10 := Lib.hid (Below.tr HBE.out hb10)
        have HO10 := Lib.hid own10
        obtain ⟨A10, k10, rfl, _⟩ := own_nil own10
        have b0 := HR10.out.cell (i := 0) (v := .slice none 0 0) rfl
        have b1 := HR10.out.frozen 0
        have b2 := HR10.out.lt
        have hzz := HBE.out.size
        clear hb10 own10 a1 a2 rl rf rc
        go_wp2_with fail
        refine bodyPost_ret (v := .tuple #[.agg #[.slice A10 (trimG o).length k10], .int .i64 0]) (by simp [results, Tryz.results61, go_sem, b0]) rfl ⟨HB10.out.setCell (by show w.heap.size ≤ w.heap.size; omega) _, .slice A10 (trimG o).length k10, ?_, by rw [HX.out.2]⟩
        rw [HX.out.1]
        exact ownsRow_more (ownsRow_setCell_below HO10.out (a := ⟨w.heap.size, 0, none⟩) (by show w.heap.size < _; omega) _) (by omega)
    · have x0 := HJ1.out.hE.c0
      rw [hk] at x0
      have HKE := Lib.hid hk
      clear hk
      have aE1 := HJ1.out.hE.c1
      have aE := HJ1.out.hE.lt
      have aB := HJ1.out.hM.lt
      go_wp2_with fail
      refine (mkPart_any b P oP _ xs ls _ 0 (e.i) _ HJ1.out.hM HJ1.out.cP.c HJ1.out.cP.lt ((HG.out.below HJ1.out.bel).le HJ1.out.le) HOK.out HL.out (by first | (have := HF.out; have := HKE.out; omega) | (have := HF.out; have := HKE.out; have := HKI.out; omega))).mono ?_
      rintro e6 W2 ⟨rfl, hb1, ha1⟩
      have HJ2 := Lib.hid (HJ1.out.next hb1 ha1)
      clear aE1 aE aB hb1 ha1 HJ1
      have aE2 := HJ2.out.hE.c2
      have aE := HJ2.out.hE.lt
      have aB := HJ2.out.hM.lt
      go_wp2_with fail
      refine (mkPart_any b P oP _ xs ls _ e.j (lastI ls) _ HJ2.out.hM HJ2.out.cP.c HJ2.out.cP.lt ((HG.out.below HJ2.out.bel).le HJ2.out.le) HOK.out HL.out (by first | (have := HF.out; have := HKE.out; omega) | (have := HF.out; have := HKE.out; have := HKI.out; omega))).mono ?_
      rintro e7 W3 ⟨rfl, hb2, ha2⟩
      have HJ3 := Lib.hid (HJ2.out.next hb2 ha2)
      clear aE2 aE aB hb2 ha2 HJ2
      have hQ : editS xs ls (lastI ls) e = addO (addO (some []) (limO (partG xs ls 0 (e.i)))) (limO (partG xs ls e.j (lastI ls))) := by unfold editS; rw [if_neg (by rw [HKE.out]; decide), if_pos HKE.out]
      have HQ := Lib.hid hQ
      clear hQ
      obtain ⟨vO, out, hB9, hO9, hs9, hok9⟩ := HJ3.out.hM
      obtain ⟨AO, kO, rfl, _⟩ := own_nil hO9
      have HOut := Lib.hid hok9
      have HO9 := Lib.hid hO9
      have lb := hB9.lt
      have rl := HJ3.out.hR.lt
      have rf := HJ3.out.hR.frozen 0
      have rc := HJ3.out.hR.cell (i := 0) (v := .slice none 0 0) rfl
      have HBE := Lib.hid HJ3.out.bel
      have HRR := Lib.hid HJ3.out.hR
      have hle := HJ3.out.le
      clear hok9 hO9 HJ3
      rw [← HQ.out] at hB9 hs9
      cases hS : editS xs ls (lastI ls) e with
      | none =>
        have q1 : applyOut xs e = [] ∧ applyCode xs e = 3 := by rw [HQA.out.1, HQA.out.2, hS]; exact ⟨rfl, rfl⟩
        have HX := Lib.hid q1
        have a2 := hB9.cell (i := 2) (v := .bool true) (by rw [hS]; rfl)
        clear hS hs9 hB9 q1
        go_wp2_with fail
        refine bodyPost_ret (v := .tuple #[.agg #[.slice none 0 0], .int .i64 3]) (by simp [results, Tryz.results61, go_sem, rc]) rfl ⟨Below.setCell HBE.out (by show w.heap.size ≤ w.heap.size; omega) _, .slice none 0 0, by rw [HX.out.1]; exact World.ownsRow_nil _ _ _ _, by rw [HX.out.2]⟩
      | some o =>
        have e9 := hs9 o hS
        subst e9
        have q1 : applyOut xs e = trimG o ∧ applyCode xs e = 0 := by rw [HQA.out.1, HQA.out.2, hS]; exact ⟨rfl, rfl⟩
        have HX := Lib.hid q1
        have a1 := hB9.cell (i := 1) (v := .slice AO o.length kO) rfl
        have a2 := hB9.cell (i := 2) (v := .bool false) (by rw [hS]; rfl)
        clear hS hs9 hB9 q1
        go_wp2_with fail
        refine (l02Trim_any b 1 _ o _ a1 lb HO9.out.sl (by have := gram_len400 HOut.out; omega) (okAll_lens (gram_lens HOut.out).2.choose_spec)).mono ?_
        rintro e10 w10 ⟨hb10, v10, own10, rfl⟩
        have HR10 := Lib.hid (HRR.out.up hb10)
        have HB10 := Lib.hid (Below.tr HBE.out hb10)
        have HO10 := Lib.hid own10
        obtain ⟨A10, k10, rfl, _⟩ := own_nil own10
        have b0 := HR10.out.cell (i := 0) (v := .slice none 0 0) rfl
        have b1 := HR10.out.frozen 0
        have b2 := HR10.out.lt
        have hzz := HBE.out.size
        clear hb10 own10 a1 a2 rl rf rc
        go_wp2_with fail
        refine bodyPost_ret (v := .tuple #[.agg #[.slice A10 (trimG o).length k10], .int .i64 0]) (by simp [results, Tryz.results61, go_sem, b0]) rfl ⟨HB10.out.setCell (by show w.heap.size ≤ w.heap.size; omega) _, .slice A10 (trimG o).length k10, ?_, by rw [HX.out.2]⟩
        rw [HX.out.1]
        exact ownsRow_more (ownsRow_setCell_below HO10.out (a := ⟨w.heap.size, 0, none⟩) (by show w.heap.size < _; omega) _) (by omega)
    · have x0 := HJ1.out.hE.c0
      rw [hk] at x0
      have HKE := Lib.hid hk
      clear hk
      have aE3 := HJ1.out.hE.c3
      have aE := HJ1.out.hE.lt
      have aB := HJ1.out.hM.lt
      go_wp2_with fail
      refine (mkPart_any b P oP _ xs ls _ 0 (e.k) _ HJ1.out.hM HJ1.out.cP.c HJ1.out.cP.lt ((HG.out.below HJ1.out.bel).le HJ1.out.le) HOK.out HL.out (by first | (have := HF.out; have := HKE.out; omega) | (have := HF.out; have := HKE.out; have := HKI.out; omega))).mono ?_
      rintro e6 W2 ⟨rfl, hb1, ha1⟩
      have HJ2 := Lib.hid (HJ1.out.next hb1 ha1)
      clear aE3 aE aB hb1 ha1 HJ1
      have aE1 := HJ2.out.hE.c1
      have aE2 := HJ2.out.hE.c2
      have aE := HJ2.out.hE.lt
      have aB := HJ2.out.hM.lt
      go_wp2_with fail
      go_still_tail 9, (by kernel_rfl)
      change wpList _ _ _ _ _ W2.drew
      replace HJ2 := Lib.hid HJ2.out.drew
      clear aE1 aE2 aE aB
      generalize W2.drew = W2 at *
      have aE1 := HJ2.out.hE.c1
      have aE2 := HJ2.out.hE.c2
      have aE := HJ2.out.hE.lt
      have aB := HJ2.out.hM.lt
      go_wp2_with fail
      refine (mkPart_any b P oP _ xs ls _ e.i (e.j) _ HJ2.out.hM HJ2.out.cP.c HJ2.out.cP.lt ((HG.out.below HJ2.out.bel).le HJ2.out.le) HOK.out HL.out (by first | (have := HF.out; have := HKE.out; omega) | (have := HF.out; have := HKE.out; have := HKI.out; omega))).mono ?_
      rintro e7 W3 ⟨rfl, hb2, ha2⟩
      have HJ3 := Lib.hid (HJ2.out.next hb2 ha2)
      clear aE1 aE2 aE aB hb2 ha2 HJ2
      have aE3 := HJ3.out.hE.c3
      have aE := HJ3.out.hE.lt
      have aB := HJ3.out.hM.lt
      go_wp2_with fail
      refine (mkPart_any b P oP _ xs ls _ e.k (lastI ls) _ HJ3.out.hM HJ3.out.cP.c HJ3.out.cP.lt ((HG.out.below HJ3.out.bel).le HJ3.out.le) HOK.out HL.out (by first | (have := HF.out; have := HKE.out; omega) | (have := HF.out; have := HKE.out; have := HKI.out; omega))).mono ?_
      rintro e8 W4 ⟨rfl, hb3, ha3⟩
      have HJ4 := Lib.hid (HJ3.out.next hb3 ha3)
      clear aE3 aE aB hb3 ha3 HJ3
      have hQ : editS xs ls (lastI ls) e = addO (addO (addO (some []) (limO (partG xs ls 0 (e.k)))) (limO (partG xs ls e.i (e.j)))) (limO (partG xs ls e.k (lastI ls))) := by unfold editS; rw [if_neg (by rw [HKE.out]; decide), if_neg (by rw [HKE.out]; decide), if_pos HKE.out]
      have HQ := Lib.hid hQ
      clear hQ
      obtain ⟨vO, out, hB9, hO9, hs9, hok9⟩ := HJ4.out.hM
      obtain ⟨AO, kO, rfl, _⟩ := own_nil hO9
      have HOut := Lib.hid hok9
      have HO9 := Lib.hid hO9
      have lb := hB9.lt
      have rl := HJ4.out.hR.lt
      have rf := HJ4.out.hR.frozen 0
      have rc := HJ4.out.hR.cell (i := 0) (v := .slice none 0 0) rfl
      have HBE := Lib.hid HJ4.out.bel
      have HRR := Lib.hid HJ4.out.hR
      have hle := HJ4.out.le
      clear hok9 hO9 HJ4
      rw [← HQ.out] at hB9 hs9
      cases hS : editS xs ls (lastI ls) e with
      | none =>
        have q1 : applyOut xs e = [] ∧ applyCode xs e = 3 := by rw [HQA.out.1, HQA.out.2, hS]; exact ⟨rfl, rfl⟩
        have HX := Lib.hid q1
        have a2 := hB9.cell (i := 2) (v := .bool true) (by rw [hS]; rfl)
        clear hS hs9 hB9 q1
        go_wp2_with fail
        refine bodyPost_ret (v := .tuple #[.agg #[.slice none 0 0], .int .i64 3]) (by simp [results, Tryz.results61, go_sem, rc]) rfl ⟨Below.setCell HBE.out (by show w.heap.size ≤ w.heap.size; omega) _, .slice none 0 0, by rw [HX.out.1]; exact World.ownsRow_nil _ _ _ _, by rw [HX.out.2]⟩
      | some o =>
        have e9 := hs9 o hS
        subst e9
        have q1 : applyOut xs e = trimG o ∧ applyCode xs e = 0 := by rw [HQA.out.1, HQA.out.2, hS]; exact ⟨rfl, rfl⟩
        have HX := Lib.hid q1
        have a1 := hB9.cell (i := 1) (v := .slice AO o.length kO) rfl
        have a2 := hB9.cell (i := 2) (v := .bool false) (by rw [hS]; rfl)
        clear hS hs9 hB9 q1
        go_wp2_with fail
        refine (l02Trim_any b 1 _ o _ a1 lb HO9.out.sl (by have := gram_len400 HOut.out; omega) (okAll_lens (gram_lens HOut.out).2.choose_spec)).mono ?_
        rintro e10 w10 ⟨hb10, v10, own10, rfl⟩
        have HR10 := Lib.hid (HRR.out.up hb10)
        have HB10 := Lib.hid (Below.tr HBE.out hb10)
        have HO10 := Lib.hid own10
        obtain ⟨A10, k10, rfl, _⟩ := own_nil own10
        have b0 := HR10.out.cell (i := 0) (v := .slice none 0 0) rfl
        have b1 := HR10.out.frozen 0
        have b2 := HR10.out.lt
        have hzz := HBE.out.size
        clear hb10 own10 a1 a2 rl rf rc
        go_wp2_with fail
        refine bodyPost_ret (v := .tuple #[.agg #[.slice A10 (trimG o).length k10], .int .i64 0]) (by simp [results, Tryz.results61, go_sem, b0]) rfl ⟨HB10.out.setCell (by show w.heap.size ≤ w.heap.size; omega) _, .slice A10 (trimG o).length k10, ?_, by rw [HX.out.2]⟩
        rw [HX.out.1]
        exact ownsRow_more (ownsRow_setCell_below HO10.out (a := ⟨w.heap.size, 0, none⟩) (by show w.heap.size < _; omega) _) (by omega)
    · have x0 := HJ1.out.hE.c0
      rw [hk] at x0
      have HKE := Lib.hid hk
      clear hk
      by_cases hki : e.k ≤ e.i
      · have HKI := Lib.hid hki
        have y1 := HJ1.out.hE.c1
        have y3 := HJ1.out.hE.c3
        have yl := HJ1.out.hE.lt
        go_wp2_with fail
        go_quiet (fail)
        replace HJ1 := Lib.hid (HJ1.out.drewN nq)
        clear x0 y1 y3 yl
        generalize W1.drewN nq = W1 at *
        have x0 := HJ1.out.hE.c0
        rw [HKE.out] at x0
        have yl := HJ1.out.hE.lt
        clear hki
        have aE3 := HJ1.out.hE.c3
        have aE := HJ1.out.hE.lt
        have aB := HJ1.out.hM.lt
        go_wp2_with fail
        refine (mkPart_any b P oP _ xs ls _ 0 (e.k) _ HJ1.out.hM HJ1.out.cP.c HJ1.out.cP.lt ((HG.out.below HJ1.out.bel).le HJ1.out.le) HOK.out HL.out (by first | (have := HF.out; have := HKE.out; omega) | (have := HF.out; have := HKE.out; have := HKI.out; omega))).mono ?_
        rintro e6 W2 ⟨rfl, hb1, ha1⟩
        have HJ2 := Lib.hid (HJ1.out.next hb1 ha1)
        clear aE3 aE aB hb1 ha1 HJ1
        have aE1 := HJ2.out.hE.c1
        have aE2 := HJ2.out.hE.c2
        have aE := HJ2.out.hE.lt
        have aB := HJ2.out.hM.lt
        go_wp2_with fail
        go_still_tail 9, (by kernel_rfl)
        change wpList _ _ _ _ _ W2.drew
        replace HJ2 := Lib.hid HJ2.out.drew
        clear aE1 aE2 aE aB
        generalize W2.drew = W2 at *
        have aE1 := HJ2.out.hE.c1
        have aE2 := HJ2.out.hE.c2
        have aE := HJ2.out.hE.lt
        have aB := HJ2.out.hM.lt
        go_wp2_with fail
        refine (mkPart_any b P oP _ xs ls _ e.i (e.j) _ HJ2.out.hM HJ2.out.cP.c HJ2.out.cP.lt ((HG.out.below HJ2.out.bel).le HJ2.out.le) HOK.out HL.out (by first | (have := HF.out; have := HKE.out; omega) | (have := HF.out; have := HKE.out; have := HKI.out; omega))).mono ?_
        rintro e7 W3 ⟨rfl, hb2, ha2⟩
        have HJ3 := Lib.hid (HJ2.out.next hb2 ha2)
        clear aE1 aE2 aE aB hb2 ha2 HJ2
        have aE1 := HJ3.out.hE.c1
        have aE3 := HJ3.out.hE.c3
        have aE := HJ3.out.hE.lt
        have aB := HJ3.out.hM.lt
        go_wp2_with fail
        go_still_tail 9, (by kernel_rfl)
        change wpList _ _ _ _ _ W3.drew
        replace HJ3 := Lib.hid HJ3.out.drew
        clear aE1 aE3 aE aB
        generalize W3.drew = W3 at *
        have aE1 := HJ3.out.hE.c1
        have aE3 := HJ3.out.hE.c3
        have aE := HJ3.out.hE.lt
        have aB := HJ3.out.hM.lt
        go_wp2_with fail
        refine (mkPart_any b P oP _ xs ls _ e.k (e.i) _ HJ3.out.hM HJ3.out.cP.c HJ3.out.cP.lt ((HG.out.below HJ3.out.bel).le HJ3.out.le) HOK.out HL.out (by first | (have := HF.out; have := HKE.out; omega) | (have := HF.out; have := HKE.out; have := HKI.out; omega))).mono ?_
        rintro e8 W4 ⟨rfl, hb3, ha3⟩
        have HJ4 := Lib.hid (HJ3.out.next hb3 ha3)
        clear aE1 aE3 aE aB hb3 ha3 HJ3
        have aE2 := HJ4.out.hE.c2
        have aE := HJ4.out.hE.lt
        have aB := HJ4.out.hM.lt
        go_wp2_with fail
        refine (mkPart_any b P oP _ xs ls _ e.j (lastI ls) _ HJ4.out.hM HJ4.out.cP.c HJ4.out.cP.lt ((HG.out.below HJ4.out.bel).le HJ4.out.le) HOK.out HL.out (by first | (have := HF.out; have := HKE.out; omega) | (have := HF.out; have := HKE.out; have := HKI.out; omega))).mono ?_
        rintro e9 W5 ⟨rfl, hb4, ha4⟩
        have HJ5 := Lib.hid (HJ4.out.next hb4 ha4)
        clear aE2 aE aB hb4 ha4 HJ4
        have hQ : editS xs ls (lastI ls) e = addO (addO (addO (addO (some []) (limO (partG xs ls 0 (e.k)))) (limO (partG xs ls e.i (e.j)))) (limO (partG xs ls e.k (e.i)))) (limO (partG xs ls e.j (lastI ls))) := by unfold editS; rw [if_neg (by rw [HKE.out]; decide), if_neg (by rw [HKE.out]; decide), if_neg (by rw [HKE.out]; decide), if_pos HKE.out, if_pos HKI.out]
        have HQ := Lib.hid hQ
        clear hQ
        obtain ⟨vO, out, hB9, hO9, hs9, hok9⟩ := HJ5.out.hM
        obtain ⟨AO, kO, rfl, _⟩ := own_nil hO9
        have HOut := Lib.hid hok9
        have HO9 := Lib.hid hO9
        have lb := hB9.lt
        have rl := HJ5.out.hR.lt
        have rf := HJ5.out.hR.frozen 0
        have rc := HJ5.out.hR.cell (i := 0) (v := .slice none 0 0) rfl
        have HBE := Lib.hid HJ5.out.bel
        have HRR := Lib.hid HJ5.out.hR
        have hle := HJ5.out.le
        clear hok9 hO9 HJ5
        rw [← HQ.out] at hB9 hs9
        cases hS : editS xs ls (lastI ls) e with
        | none =>
          have q1 : applyOut xs e = [] ∧ applyCode xs e = 3 := by rw [HQA.out.1, HQA.out.2, hS]; exact ⟨rfl, rfl⟩
          have HX := Lib.hid q1
          have a2 := hB9.cell (i := 2) (v := .bool true) (by rw [hS]; rfl)
          clear hS hs9 hB9 q1
          go_wp2_with fail
          refine bodyPost_ret (v := .tuple #[.agg #[.slice none 0 0], .int .i64 3]) (by simp [results, Tryz.results61, go_sem, rc]) rfl ⟨Below.setCell HBE.out (by show w.heap.size ≤ w.heap.size; omega) _, .slice none 0 0, by rw [HX.out.1]; exact World.ownsRow_nil _ _ _ _, by rw [HX.out.2]⟩
        | some o =>
          have e9 := hs9 o hS
          subst e9
          have q1 : applyOut xs e = trimG o ∧ applyCode xs e = 0 := by rw [HQA.out.1, HQA.out.2, hS]; exact ⟨rfl, rfl⟩
          have HX := Lib.hid q1
          have a1 := hB9.cell (i := 1) (v := .slice AO o.length kO) rfl
          have a2 := hB9.cell (i := 2) (v := .bool false) (by rw [hS]; rfl)
          clear hS hs9 hB9 q1
          go_wp2_with fail
          refine (l02Trim_any b 1 _ o _ a1 lb HO9.out.sl (by have := gram_len400 HOut.out; omega) (okAll_lens (gram_lens HOut.out).2.choose_spec)).mono ?_
          rintro e10 w10 ⟨hb10, v10, own10, rfl⟩
          have HR10 := Lib.hid (HRR.out.up hb10)
          have HB10 := Lib.hid (Below.tr HBE.out hb10)
          have HO10 := Lib.hid own10
          obtain ⟨A10, k10, rfl, _⟩ := own_nil own10
          have b0 := HR10.out.cell (i := 0) (v := .slice none 0 0) rfl
          have b1 := HR10.out.frozen 0
          have b2 := HR10.out.lt
          have hzz := HBE.out.size
          clear hb10 own10 a1 a2 rl rf rc
          go_wp2_with fail
          refine bodyPost_ret (v := .tuple #[.agg #[.slice A10 (trimG o).length k10], .int .i64 0]) (by simp [results, Tryz.results61, go_sem, b0]) rfl ⟨HB10.out.setCell (by show w.heap.size ≤ w.heap.size; omega) _, .slice A10 (trimG o).length k10, ?_, by rw [HX.out.2]⟩
          rw [HX.out.1]
          exact ownsRow_more (ownsRow_setCell_below HO10.out (a := ⟨w.heap.size, 0, none⟩) (by show w.heap.size < _; omega) _) (by omega)
      · have HKI := Lib.hid hki
        have hkd : decide (e.k ≤ e.i) = false := by simp; omega
        have y1 := HJ1.out.hE.c1
        have y3 := HJ1.out.hE.c3
        have yl := HJ1.out.hE.lt
        go_wp2_with fail
        go_quiet (fail)
        replace HJ1 := Lib.hid (HJ1.out.drewN nq)
        clear x0 y1 y3 yl
        generalize W1.drewN nq = W1 at *
        have x0 := HJ1.out.hE.c0
        rw [HKE.out] at x0
        have yl := HJ1.out.hE.lt
        clear hki hkd
        have aE1 := HJ1.out.hE.c1
        have aE := HJ1.out.hE.lt
        have aB := HJ1.out.hM.lt
        go_wp2_with fail
        refine (mkPart_any b P oP _ xs ls _ 0 (e.i) _ HJ1.out.hM HJ1.out.cP.c HJ1.out.cP.lt ((HG.out.below HJ1.out.bel).le HJ1.out.le) HOK.out HL.out (by first | (have := HF.out; have := HKE.out; omega) | (have := HF.out; have := HKE.out; have := HKI.out; omega))).mono ?_
        rintro e6 W2 ⟨rfl, hb1, ha1⟩
        have HJ2 := Lib.hid (HJ1.out.next hb1 ha1)
        clear aE1 aE aB hb1 ha1 HJ1
        have aE2 := HJ2.out.hE.c2
        have aE3 := HJ2.out.hE.c3
        have aE := HJ2.out.hE.lt
        have aB := HJ2.out.hM.lt
        go_wp2_with fail
        go_still_tail 9, (by kernel_rfl)
        change wpList _ _ _ _ _ W2.drew
        replace HJ2 := Lib.hid HJ2.out.drew
        clear aE2 aE3 aE aB
        generalize W2.drew = W2 at *
        have aE2 := HJ2.out.hE.c2
        have aE3 := HJ2.out.hE.c3
        have aE := HJ2.out.hE.lt
        have aB := HJ2.out.hM.lt
        go_wp2_with fail
        refine (mkPart_any b P oP _ xs ls _ e.j (e.k) _ HJ2.out.hM HJ2.out.cP.c HJ2.out.cP.lt ((HG.out.below HJ2.out.bel).le HJ2.out.le) HOK.out HL.out (by first | (have := HF.out; have := HKE.out; omega) | (have := HF.out; have := HKE.out; have := HKI.out; omega))).mono ?_
        rintro e7 W3 ⟨rfl, hb2, ha2⟩
        have HJ3 := Lib.hid (HJ2.out.next hb2 ha2)
        clear aE2 aE3 aE aB hb2 ha2 HJ2
        have aE1 := HJ3.out.hE.c1
        have aE2 := HJ3.out.hE.c2
        have aE := HJ3.out.hE.lt
        have aB := HJ3.out.hM.lt
        go_wp2_with fail
        go_still_tail 9, (by kernel_rfl)
        change wpList _ _ _ _ _ W3.drew
        replace HJ3 := Lib.hid HJ3.out.drew
        clear aE1 aE2 aE aB
        generalize W3.drew = W3 at *
        have aE1 := HJ3.out.hE.c1
        have aE2 := HJ3.out.hE.c2
        have aE := HJ3.out.hE.lt
        have aB := HJ3.out.hM.lt
        go_wp2_with fail
        refine (mkPart_any b P oP _ xs ls _ e.i (e.j) _ HJ3.out.hM HJ3.out.cP.c HJ3.out.cP.lt ((HG.out.below HJ3.out.bel).le HJ3.out.le) HOK.out HL.out (by first | (have := HF.out; have := HKE.out; omega) | (have := HF.out; have := HKE.out; have := HKI.out; omega))).mono ?_
        rintro e8 W4 ⟨rfl, hb3, ha3⟩
        have HJ4 := Lib.hid (HJ3.out.next hb3 ha3)
        clear aE1 aE2 aE aB hb3 ha3 HJ3
        have aE3 := HJ4.out.hE.c3
        have aE := HJ4.out.hE.lt
        have aB := HJ4.out.hM.lt
        go_wp2_with fail
        refine (mkPart_any b P oP _ xs ls _ e.k (lastI ls) _ HJ4.out.hM HJ4.out.cP.c HJ4.out.cP.lt ((HG.out.below HJ4.out.bel).le HJ4.out.le) HOK.out HL.out (by first | (have := HF.out; have := HKE.out; omega) | (have := HF.out; have := HKE.out; have := HKI.out; omega))).mono ?_
        rintro e9 W5 ⟨rfl, hb4, ha4⟩
        have HJ5 := Lib.hid (HJ4.out.next hb4 ha4)
        clear aE3 aE aB hb4 ha4 HJ4
        have hQ : editS xs ls (lastI ls) e = addO (addO (addO (addO (some []) (limO (partG xs ls 0 (e.i)))) (limO (partG xs ls e.j (e.k)))) (limO (partG xs ls e.i (e.j)))) (limO (partG xs ls e.k (lastI ls))) := by unfold editS; rw [if_neg (by rw [HKE.out]; decide), if_neg (by rw [HKE.out]; decide), if_neg (by rw [HKE.out]; decide), if_pos HKE.out, if_neg (by have := HKI.out; omega)]
        have HQ := Lib.hid hQ
        clear hQ
        obtain ⟨vO, out, hB9, hO9, hs9, hok9⟩ := HJ5.out.hM
        obtain ⟨AO, kO, rfl, _⟩ := own_nil hO9
        have HOut := Lib.hid hok9
        have HO9 := Lib.hid hO9
        have lb := hB9.lt
        have rl := HJ5.out.hR.lt
        have rf := HJ5.out.hR.frozen 0
        have rc := HJ5.out.hR.cell (i := 0) (v := .slice none 0 0) rfl
        have HBE := Lib.hid HJ5.out.bel
        have HRR := Lib.hid HJ5.out.hR
        have hle := HJ5.out.le
        clear hok9 hO9 HJ5
        rw [← HQ.out] at hB9 hs9
        cases hS : editS xs ls (lastI ls) e with
        | none =>
          have q1 : applyOut xs e = [] ∧ applyCode xs e = 3 := by rw [HQA.out.1, HQA.out.2, hS]; exact ⟨rfl, rfl⟩
          have HX := Lib.hid q1
          have a2 := hB9.cell (i := 2) (v := .bool true) (by rw [hS]; rfl)
          clear hS hs9 hB9 q1
          go_wp2_with fail
          refine bodyPost_ret (v := .tuple #[.agg #[.slice none 0 0], .int .i64 3]) (by simp [results, Tryz.results61, go_sem, rc]) rfl ⟨Below.setCell HBE.out (by show w.heap.size ≤ w.heap.size; omega) _, .slice none 0 0, by rw [HX.out.1]; exact World.ownsRow_nil _ _ _ _, by rw [HX.out.2]⟩
        | some o =>
          have e9 := hs9 o hS
          subst e9
          have q1 : applyOut xs e = trimG o ∧ applyCode xs e = 0 := by rw [HQA.out.1, HQA.out.2, hS]; exact ⟨rfl, rfl⟩
          have HX := Lib.hid q1
          have a1 := hB9.cell (i := 1) (v := .slice AO o.length kO) rfl
          have a2 := hB9.cell (i := 2) (v := .bool false) (by rw [hS]; rfl)
          clear hS hs9 hB9 q1
          go_wp2_with fail
          refine (l02Trim_any b 1 _ o _ a1 lb HO9.out.sl (by have := gram_len400 HOut.out; omega) (okAll_lens (gram_lens HOut.out).2.choose_spec)).mono ?_
          rintro e10 w10 ⟨hb10, v10, own10, rfl⟩
          have HR10 := Lib.hid (HRR.out.up hb10)
          have HB10 := Lib.hid (Below.tr HBE.out hb10)
          have HO10 := Lib.hid own10
          obtain ⟨A10, k10, rfl, _⟩ := own_nil own10
          have b0 := HR10.out.cell (i := 0) (v := .slice none 0 0) rfl
          have b1 := HR10.out.frozen 0
          have b2 := HR10.out.lt
          have hzz := HBE.out.size
          clear hb10 own10 a1 a2 rl rf rc
          go_wp2_with fail
          refine bodyPost_ret (v := .tuple #[.agg #[.slice A10 (trimG o).length k10], .int .i64 0]) (by simp [results, Tryz.results61, go_sem, b0]) rfl ⟨HB10.out.setCell (by show w.heap.size ≤ w.heap.size; omega) _, .slice A10 (trimG o).length k10, ?_, by rw [HX.out.2]⟩
          rw [HX.out.1]
          exact ownsRow_more (ownsRow_setCell_below HO10.out (a := ⟨w.heap.size, 0, none⟩) (by show w.heap.size < _; omega) _) (by omega)
    · have HCK := Lib.hid hkk
      have hkc : ¬ e.kind = 1 ∧ ¬ e.kind = 2 ∧ ¬ e.kind = 3 ∧ ¬ e.kind = 4 ∧ (e.kind = 5 ∨ e.kind = 6 ∨ e.kind = 7) := by unfold chgOK at hkk; omega
      have HKC := Lib.hid hkc
      obtain ⟨_, _, _, _, hk⟩ := hkc
      clear hkk
      rcases hk with hk | hk | hk
      · have x0 := HJ1.out.hE.c0
        rw [hk] at x0
        have HKE := Lib.hid hk
        clear hk
        have y1 := HJ1.out.hE.c1
        have y3 := HJ1.out.hE.c3
        have yl := HJ1.out.hE.lt
        go_wp2_with fail
        go_quiet (fail)
        replace HJ1 := Lib.hid (HJ1.out.drewN nq)
        clear x0 y1 y3 yl
        generalize W1.drewN nq = W1 at *
        have x0 := HJ1.out.hE.c0
        rw [HKE.out] at x0
        have yl := HJ1.out.hE.lt
        have aE1 := HJ1.out.hE.c1
        have aE := HJ1.out.hE.lt
        have aB := HJ1.out.hM.lt
        go_wp2_with fail
        refine (mkPart_any b P oP _ xs ls _ 0 (e.i) _ HJ1.out.hM HJ1.out.cP.c HJ1.out.cP.lt ((HG.out.below HJ1.out.bel).le HJ1.out.le) HOK.out HL.out (by first | (have := HF.out; have := HKE.out; omega) | (have := HF.out; have := HKE.out; have := HKI.out; omega))).mono ?_
        rintro e6 W2 ⟨rfl, hb1, ha1⟩
        have HJ2 := Lib.hid (HJ1.out.next hb1 ha1)
        clear aE1 aE aB hb1 ha1 HJ1
        have aE := HJ2.out.hE.lt
        have aB := HJ2.out.hM.lt
        go_wp2_with fail
        refine (mkChanged_any b P oP E oE e _ _ xs ls _ _ HJ2.out.hM HJ2.out.cP HJ2.out.hE HJ2.out.neE ((HG.out.below HJ2.out.bel).le HJ2.out.le) HOK.out HL.out (by first | (have := HF.out; have := HKE.out; omega) | (have := HF.out; have := HKE.out; have := HKI.out; omega)) HCK.out).mono ?_
        rintro e7 W3 ⟨rfl, hb2, ha2⟩
        have HJ3 := Lib.hid (HJ2.out.next hb2 ha2)
        clear aE aB hb2 ha2 HJ2
        have aE2 := HJ3.out.hE.c2
        have aE := HJ3.out.hE.lt
        have aB := HJ3.out.hM.lt
        go_wp2_with fail
        refine (mkPart_any b P oP _ xs ls _ e.j (lastI ls) _ HJ3.out.hM HJ3.out.cP.c HJ3.out.cP.lt ((HG.out.below HJ3.out.bel).le HJ3.out.le) HOK.out HL.out (by first | (have := HF.out; have := HKE.out; omega) | (have := HF.out; have := HKE.out; have := HKI.out; omega))).mono ?_
        rintro e8 W4 ⟨rfl, hb3, ha3⟩
        have HJ4 := Lib.hid (HJ3.out.next hb3 ha3)
        clear aE2 aE aB hb3 ha3 HJ3
        have hQ : editS xs ls (lastI ls) e = addO (addO (addO (some []) (limO (partG xs ls 0 (e.i)))) ((limO (partG xs ls e.i e.j)).bind (chgO e))) (limO (partG xs ls e.j (lastI ls))) := by unfold editS; rw [if_neg HKC.out.1, if_neg HKC.out.2.1, if_neg HKC.out.2.2.1, if_neg HKC.out.2.2.2.1]
        have HQ := Lib.hid hQ
        clear hQ
        obtain ⟨vO, out, hB9, hO9, hs9, hok9⟩ := HJ4.out.hM
        obtain ⟨AO, kO, rfl, _⟩ := own_nil hO9
        have HOut := Lib.hid hok9
        have HO9 := Lib.hid hO9
        have lb := hB9.lt
        have rl := HJ4.out.hR.lt
        have rf := HJ4.out.hR.frozen 0
        have rc := HJ4.out.hR.cell (i := 0) (v := .slice none 0 0) rfl
        have HBE := Lib.hid HJ4.out.bel
        have HRR := Lib.hid HJ4.out.hR
        have hle := HJ4.out.le
        clear hok9 hO9 HJ4
        rw [← HQ.out] at hB9 hs9
        cases hS : editS xs ls (lastI ls) e with
        | none =>
          have q1 : applyOut xs e = [] ∧ applyCode xs e = 3 := by rw [HQA.out.1, HQA.out.2, hS]; exact ⟨rfl, rfl⟩
          have HX := Lib.hid q1
          have a2 := hB9.cell (i := 2) (v := .bool true) (by rw [hS]; rfl)
          clear hS hs9 hB9 q1
          go_wp2_with fail
          refine bodyPost_ret (v := .tuple #[.agg #[.slice none 0 0], .int .i64 3]) (by simp [results, Tryz.results61, go_sem, rc]) rfl ⟨Below.setCell HBE.out (by show w.heap.size ≤ w.heap.size; omega) _, .slice none 0 0, by rw [HX.out.1]; exact World.ownsRow_nil _ _ _ _, by rw [HX.out.2]⟩
        | some o =>
          have e9 := hs9 o hS
          subst e9
          have q1 : applyOut xs e = trimG o ∧ applyCode xs e = 0 := by rw [HQA.out.1, HQA.out.2, hS]; exact ⟨rfl, rfl⟩
          have HX := Lib.hid q1
          have a1 := hB9.cell (i := 1) (v := .slice AO o.length kO) rfl
          have a2 := hB9.cell (i := 2) (v := .bool false) (by rw [hS]; rfl)
          clear hS hs9 hB9 q1
          go_wp2_with fail
          refine (l02Trim_any b 1 _ o _ a1 lb HO9.out.sl (by have := gram_len400 HOut.out; omega) (okAll_lens (gram_lens HOut.out).2.choose_spec)).mono ?_
          rintro e10 w10 ⟨hb10, v10, own10, rfl⟩
          have HR10 := Lib.hid (HRR.out.up hb10)
          have HB10 := Lib.hid (Below.tr HBE.out hb10)
          have HO10 := Lib.hid own10
          obtain ⟨A10, k10, rfl, _⟩ := own_nil own10
          have b0 := HR10.out.cell (i := 0) (v := .slice none 0 0) rfl
          have b1 := HR10.out.frozen 0
          have b2 := HR10.out.lt
          have hzz := HBE.out.size
          clear hb10 own10 a1 a2 rl rf rc
          go_wp2_with fail
          refine bodyPost_ret (v := .tuple #[.agg #[.slice A10 (trimG o).length k10], .int .i64 0]) (by simp [results, Tryz.results61, go_sem, b0]) rfl ⟨HB10.out.setCell (by show w.heap.size ≤ w.heap.size; omega) _, .slice A10 (trimG o).length k10, ?_, by rw [HX.out.2]⟩
          rw [HX.out.1]
          exact ownsRow_more (ownsRow_setCell_below HO10.out (a := ⟨w.heap.size, 0, none⟩) (by show w.heap.size < _; omega) _) (by omega)
      · have x0 := HJ1.out.hE.c0
        rw [hk] at x0
        have HKE := Lib.hid hk
        clear hk
        have y1 := HJ1.out.hE.c1
        have y3 := HJ1.out.hE.c3
        have yl := HJ1.out.hE.lt
        go_wp2_with fail
        go_quiet (fail)
        replace HJ1 := Lib.hid (HJ1.out.drewN nq)
        clear x0 y1 y3 yl
        generalize W1.drewN nq = W1 at *
        have x0 := HJ1.out.hE.c0
        rw [HKE.out] at x0
        have yl := HJ1.out.hE.lt
        have aE1 := HJ1.out.hE.c1
        have aE := HJ1.out.hE.lt
        have aB := HJ1.out.hM.lt
        go_wp2_with fail
        refine (mkPart_any b P oP _ xs ls _ 0 (e.i) _ HJ1.out.hM HJ1.out.cP.c HJ1.out.cP.lt ((HG.out.below HJ1.out.bel).le HJ1.out.le) HOK.out HL.out (by first | (have := HF.out; have := HKE.out; omega) | (have := HF.out; have := HKE.out; have := HKI.out; omega))).mono ?_
        rintro e6 W2 ⟨rfl, hb1, ha1⟩
        have HJ2 := Lib.hid (HJ1.out.next hb1 ha1)
        clear aE1 aE aB hb1 ha1 HJ1
        have aE := HJ2.out.hE.lt
        have aB := HJ2.out.hM.lt
        go_wp2_with fail
        refine (mkChanged_any b P oP E oE e _ _ xs ls _ _ HJ2.out.hM HJ2.out.cP HJ2.out.hE HJ2.out.neE ((HG.out.below HJ2.out.bel).le HJ2.out.le) HOK.out HL.out (by first | (have := HF.out; have := HKE.out; omega) | (have := HF.out; have := HKE.out; have := HKI.out; omega)) HCK.out).mono ?_
        rintro e7 W3 ⟨rfl, hb2, ha2⟩
        have HJ3 := Lib.hid (HJ2.out.next hb2 ha2)
        clear aE aB hb2 ha2 HJ2
        have aE2 := HJ3.out.hE.c2
        have aE := HJ3.out.hE.lt
        have aB := HJ3.out.hM.lt
        go_wp2_with fail
        refine (mkPart_any b P oP _ xs ls _ e.j (lastI ls) _ HJ3.out.hM HJ3.out.cP.c HJ3.out.cP.lt ((HG.out.below HJ3.out.bel).le HJ3.out.le) HOK.out HL.out (by first | (have := HF.out; have := HKE.out; omega) | (have := HF.out; have := HKE.out; have := HKI.out; omega))).mono ?_
        rintro e8 W4 ⟨rfl, hb3, ha3⟩
        have HJ4 := Lib.hid (HJ3.out.next hb3 ha3)
        clear aE2 aE aB hb3 ha3 HJ3
        have hQ : editS xs ls (lastI ls) e = addO (addO (addO (some []) (limO (partG xs ls 0 (e.i)))) ((limO (partG xs ls e.i e.j)).bind (chgO e))) (limO (partG xs ls e.j (lastI ls))) := by unfold editS; rw [if_neg HKC.out.1, if_neg HKC.out.2.1, if_neg HKC.out.2.2.1, if_neg HKC.out.2.2.2.1]
        have HQ := Lib.hid hQ
        clear hQ
        obtain ⟨vO, out, hB9, hO9, hs9, hok9⟩ := HJ4.out.hM
        obtain ⟨AO, kO, rfl, _⟩ := own_nil hO9
        have HOut := Lib.hid hok9
        have HO9 := Lib.hid hO9
        have lb := hB9.lt
        have rl := HJ4.out.hR.lt
        have rf := HJ4.out.hR.frozen 0
        have rc := HJ4.out.hR.cell (i := 0) (v := .slice none 0 0) rfl
        have HBE := Lib.hid HJ4.out.bel
        have HRR := Lib.hid HJ4.out.hR
        have hle := HJ4.out.le
        clear hok9 hO9 HJ4
        rw [← HQ.out] at hB9 hs9
        cases hS : editS xs ls (lastI ls) e with
        | none =>
          have q1 : applyOut xs e = [] ∧ applyCode xs e = 3 := by rw [HQA.out.1, HQA.out.2, hS]; exact ⟨rfl, rfl⟩
          have HX := Lib.hid q1
          have a2 := hB9.cell (i := 2) (v := .bool true) (by rw [hS]; rfl)
          clear hS hs9 hB9 q1
          go_wp2_with fail
          refine bodyPost_ret (v := .tuple #[.agg #[.slice none 0 0], .int .i64 3]) (by simp [results, Tryz.results61, go_sem, rc]) rfl ⟨Below.setCell HBE.out (by show w.heap.size ≤ w.heap.size; omega) _, .slice none 0 0, by rw [HX.out.1]; exact World.ownsRow_nil _ _ _ _, by rw [HX.out.2]⟩
        | some o =>
          have e9 := hs9 o hS
          subst e9
          have q1 : applyOut xs e = trimG o ∧ applyCode xs e = 0 := by rw [HQA.out.1, HQA.out.2, hS]; exact ⟨rfl, rfl⟩
          have HX := Lib.hid q1
          have a1 := hB9.cell (i := 1) (v := .slice AO o.length kO) rfl
          have a2 := hB9.cell (i := 2) (v := .bool false) (by rw [hS]; rfl)
          clear hS hs9 hB9 q1
          go_wp2_with fail
          refine (l02Trim_any b 1 _ o _ a1 lb HO9.out.sl (by have := gram_len400 HOut.out; omega) (okAll_lens (gram_lens HOut.out).2.choose_spec)).mono ?_
          rintro e10 w10 ⟨hb10, v10, own10, rfl⟩
          have HR10 := Lib.hid (HRR.out.up hb10)
          have HB10 := Lib.hid (Below.tr HBE.out hb10)
          have HO10 := Lib.hid own10
          obtain ⟨A10, k10, rfl, _⟩ := own_nil own10
          have b0 := HR10.out.cell (i := 0) (v := .slice none 0 0) rfl
          have b1 := HR10.out.frozen 0
          have b2 := HR10.out.lt
          have hzz := HBE.out.size
          clear hb10 own10 a1 a2 rl rf rc
          go_wp2_with fail
          refine bodyPost_ret (v := .tuple #[.agg #[.slice A10 (trimG o).length k10], .int .i64 0]) (by simp [results, Tryz.results61, go_sem, b0]) rfl ⟨HB10.out.setCell (by show w.heap.size ≤ w.heap.size; omega) _, .slice A10 (trimG o).length k10, ?_, by rw [HX.out.2]⟩
          rw [HX.out.1]
          exact ownsRow_more (ownsRow_setCell_below HO10.out (a := ⟨w.heap.size, 0, none⟩) (by show w.heap.size < _; omega) _) (by omega)
      · have x0 := HJ1.out.hE.c0
        rw [hk] at x0
        have HKE := Lib.hid hk
        clear hk
        have y1 := HJ1.out.hE.c1
        have y3 := HJ1.out.hE.c3
        have yl := HJ1.out.hE.lt
        go_wp2_with fail
        go_quiet (fail)
        replace HJ1 := Lib.hid (HJ1.out.drewN nq)
        clear x0 y1 y3 yl
        generalize W1.drewN nq = W1 at *
        have x0 := HJ1.out.hE.c0
        rw [HKE.out] at x0
        have yl := HJ1.out.hE.lt
        have aE1 := HJ1.out.hE.c1
        have aE := HJ1.out.hE.lt
        have aB := HJ1.out.hM.lt
        go_wp2_with fail
        refine (mkPart_any b P oP _ xs ls _ 0 (e.i) _ HJ1.out.hM HJ1.out.cP.c HJ1.out.cP.lt ((HG.out.below HJ1.out.bel).le HJ1.out.le) HOK.out HL.out (by first | (have := HF.out; have := HKE.out; omega) | (have := HF.out; have := HKE.out; have := HKI.out; omega))).mono ?_
        rintro e6 W2 ⟨rfl, hb1, ha1⟩
        have HJ2 := Lib.hid (HJ1.out.next hb1 ha1)
        clear aE1 aE aB hb1 ha1 HJ1
        have aE := HJ2.out.hE.lt
        have aB := HJ2.out.hM.lt
        go_wp2_with fail
        refine (mkChanged_any b P oP E oE e _ _ xs ls _ _ HJ2.out.hM HJ2.out.cP HJ2.out.hE HJ2.out.neE ((HG.out.below HJ2.out.bel).le HJ2.out.le) HOK.out HL.out (by first | (have := HF.out; have := HKE.out; omega) | (have := HF.out; have := HKE.out; have := HKI.out; omega)) HCK.out).mono ?_
        rintro e7 W3 ⟨rfl, hb2, ha2⟩
        have HJ3 := Lib.hid (HJ2.out.next hb2 ha2)
        clear aE aB hb2 ha2 HJ2
        have aE2 := HJ3.out.hE.c2
        have aE := HJ3.out.hE.lt
        have aB := HJ3.out.hM.lt
        go_wp2_with fail
        refine (mkPart_any b P oP _ xs ls _ e.j (lastI ls) _ HJ3.out.hM HJ3.out.cP.c HJ3.out.cP.lt ((HG.out.below HJ3.out.bel).le HJ3.out.le) HOK.out HL.out (by first | (have := HF.out; have := HKE.out; omega) | (have := HF.out; have := HKE.out; have := HKI.out; omega))).mono ?_
        rintro e8 W4 ⟨rfl, hb3, ha3⟩
        have HJ4 := Lib.hid (HJ3.out.next hb3 ha3)
        clear aE2 aE aB hb3 ha3 HJ3
        have hQ : editS xs ls (lastI ls) e = addO (addO (addO (some []) (limO (partG xs ls 0 (e.i)))) ((limO (partG xs ls e.i e.j)).bind (chgO e))) (limO (partG xs ls e.j (lastI ls))) := by unfold editS; rw [if_neg HKC.out.1, if_neg HKC.out.2.1, if_neg HKC.out.2.2.1, if_neg HKC.out.2.2.2.1]
        have HQ := Lib.hid hQ
        clear hQ
        obtain ⟨vO, out, hB9, hO9, hs9, hok9⟩ := HJ4.out.hM
        obtain ⟨AO, kO, rfl, _⟩ := own_nil hO9
        have HOut := Lib.hid hok9
        have HO9 := Lib.hid hO9
        have lb := hB9.lt
        have rl := HJ4.out.hR.lt
        have rf := HJ4.out.hR.frozen 0
        have rc := HJ4.out.hR.cell (i := 0) (v := .slice none 0 0) rfl
        have HBE := Lib.hid HJ4.out.bel
        have HRR := Lib.hid HJ4.out.hR
        have hle := HJ4.out.le
        clear hok9 hO9 HJ4
        rw [← HQ.out] at hB9 hs9
        cases hS : editS xs ls (lastI ls) e with
        | none =>
          have q1 : applyOut xs e = [] ∧ applyCode xs e = 3 := by rw [HQA.out.1, HQA.out.2, hS]; exact ⟨rfl, rfl⟩
          have HX := Lib.hid q1
          have a2 := hB9.cell (i := 2) (v := .bool true) (by rw [hS]; rfl)
          clear hS hs9 hB9 q1
          go_wp2_with fail
          refine bodyPost_ret (v := .tuple #[.agg #[.slice none 0 0], .int .i64 3]) (by simp [results, Tryz.results61, go_sem, rc]) rfl ⟨Below.setCell HBE.out (by show w.heap.size ≤ w.heap.size; omega) _, .slice none 0 0, by rw [HX.out.1]; exact World.ownsRow_nil _ _ _ _, by rw [HX.out.2]⟩
        | some o =>
          have e9 := hs9 o hS
          subst e9
          have q1 : applyOut xs e = trimG o ∧ applyCode xs e = 0 := by rw [HQA.out.1, HQA.out.2, hS]; exact ⟨rfl, rfl⟩
          have HX := Lib.hid q1
          have a1 := hB9.cell (i := 1) (v := .slice AO o.length kO) rfl
          have a2 := hB9.cell (i := 2) (v := .bool false) (by rw [hS]; rfl)
          clear hS hs9 hB9 q1
          go_wp2_with fail
          refine (l02Trim_any b 1 _ o _ a1 lb HO9.out.sl (by have := gram_len400 HOut.out; omega) (okAll_lens (gram_lens HOut.out).2.choose_spec)).mono ?_
          rintro e10 w10 ⟨hb10, v10, own10, rfl⟩
          have HR10 := Lib.hid (HRR.out.up hb10)
          have HB10 := Lib.hid (Below.tr HBE.out hb10)
          have HO10 := Lib.hid own10
          obtain ⟨A10, k10, rfl, _⟩ := own_nil own10
          have b0 := HR10.out.cell (i := 0) (v := .slice none 0 0) rfl
          have b1 := HR10.out.frozen 0
          have b2 := HR10.out.lt
          have hzz := HBE.out.size
          clear hb10 own10 a1 a2 rl rf rc
          go_wp2_with fail
          refine bodyPost_ret (v := .tuple #[.agg #[.slice A10 (trimG o).length k10], .int .i64 0]) (by simp [results, Tryz.results61, go_sem, b0]) rfl ⟨HB10.out.setCell (by show w.heap.size ≤ w.heap.size; omega) _, .slice A10 (trimG o).length k10, ?_, by rw [HX.out.2]⟩
          rw [HX.out.1]
          exact ownsRow_more (ownsRow_setCell_below HO10.out (a := ⟨w.heap.size, 0, none⟩) (by show w.heap.size < _; omega) _) (by omega)
end Go.Proofs.YtbifijlenbibmaaGreatDoor

namespace Go.Proofs.YtbifijlenbibmaaGreatDoor
open Go.RowKit

theorem l01Split32 (s : ByteArray) (w : World) (hs : s.size ≤ 1048576) :
    Calls Tryz.prog 45 #[.string s, .int .u8 32] w fun e w' => Below w.heap.size w w' ∧ ∃ v, OwnW w' w.heap.size v (splB 32 s) ∧ e = .returned v := l01Split_any s 32 w hs
set_option maxRecDepth 100000 in
set_option maxHeartbeats 8000000 in
theorem specRead_any (t : ByteArray) (w : World) (hs : t.size ≤ 1048576) :
    Calls Tryz.prog 25 #[.string t] w (RERes (rdOut t) (rdCode t) w) := by
  obtain ⟨X, R, hXR⟩ : ∃ X R, splB 32 t = X :: R := by
    cases hq : splB 32 t with
    | nil => unfold splB at hq; exact absurd (List.map_eq_nil_iff.1 hq) (spl_pos 32 _ _)
    | cons x r => exact ⟨x, r, rfl⟩
  have HXR := Lib.hid hXR
  go_enter Tryz.func25, Tryz.ntmps25
  go_wp2_with fail
  refine (l01Split32 t _ hs).mono ?_
  rintro e w1 ⟨hb1, v, own, rfl⟩
  have KR1 : Blk w1 w.heap.size #[.int .i64 0, .int .i64 0, .int .i64 0, .int .i64 0, .slice none 0 0, .string ⟨#[]⟩] 46 := by have := (Below.unalloc hb1).2; simpa [Blk] using this
  replace hb1 := (Below.unalloc hb1).1
  rw [hXR] at own
  obtain ⟨g, cL, rfl, _, hgl, _⟩ := own_form own (by simp)
  have HO1 := Lib.hid own
  clear own hXR
  go_wp2_with fail
  refine (l07Words_any _).mono ?_
  rintro r w2 ⟨B, rfl, hb2, hB, hw2⟩
  have HW2 := Lib.hid hw2
  have HO2 := Lib.hid (show OwnW w2 _ _ (X :: R) from ownsRow_below HO1.out hb2)
  have HB2 := Lib.hid (Below.tr hb1 hb2)
  have HKR := Lib.hid (KR1.up hb2)
  have hgl2 : g < w2.heap.size := Nat.lt_of_lt_of_le hgl hb2.size
  clear hb1 hb2 KR1 HO1 hw2
  go_wp2_with fail
  go_loopw [7] (fun k wx => ∃ m : Nat, 1 ≤ m ∧ m ≤ 8 ∧ k = .int .i64 m ∧ Hid (RdSt w2 wx ⟨kf X m, 0, 0, 0, [], ⟨#[]⟩⟩ (.slice none 0 0))) (fun k _ => 8 - (intOf k).toNat)
  case atStart =>
    have e0 : kf X 1 = 0 := by simp [kf]
    exact ⟨1, Nat.le_refl _, by omega, rfl, Lib.hid ⟨(by repeat (first | exact Below.refl _ _ | (refine Below.alloc ?_ (by first | omega | (simp; done) | (simp; omega)) _) | (refine Below.setCell ?_ (by first | exact Nat.le_refl _ | (show _ ≤ _; omega) | (simp; done) | (simp; omega)) _) | refine below_drewN ?_ _ | refine Below.drew ?_)), by rw [e0]; exact Blk.new _ _ _, World.ownsRow_nil _ _ _ _⟩⟩
  case round =>
    obtain ⟨m, hm1, hm8, rfl, HJ⟩ := hrel
    by_cases hlt : m < 8
    · have hmI : (m : Int) < 8 := by omega
      have hcw := (HJ.out.bel.cell (p := ⟨B, m, none⟩) hB).trans (HW2.out m (by simp [inR]; omega))
      have hc0 := (HJ.out.bel.cell (p := ⟨g, 0, none⟩) hgl2).trans (OwnW.at HO2.out (k := 0) (x := X) rfl)
      have ce := Blk.cell (i := 0) (v := .int .i64 (kf X m)) HJ.out.box rfl
      have ze := Blk.frozen HJ.out.box 0
      have le := Blk.lt HJ.out.box
      cases hq2 : (wordE (m : Int) == X.toList) with
      | true =>
        have hq := (weq _ _).1 hq2
        have HN := Lib.hid (show kf X (m + 1) = (m : Int) by rw [kf, if_pos ⟨hm1, hq⟩])
        clear hq
        go_wp2_with fail
        go_quiet (fail)
        go_wp2_with fail
        exact ⟨⟨m + 1, by omega, by omega, by go_num, Lib.hid (by rw [HN.out]; exact (HJ.out.drewN _).setK _)⟩, by simp [intOf]; omega⟩
      | false =>
        have HN := Lib.hid (show kf X (m + 1) = kf X m by rw [kf, if_neg (fun h => by rw [(weq _ _).2 h.2] at hq2; cases hq2)])
        go_wp2_with fail
        go_quiet (fail)
        go_wp2_with fail
        exact ⟨⟨m + 1, by omega, by omega, by go_num, Lib.hid (by rw [HN.out]; exact (HJ.out.drewN _))⟩, by simp [intOf]; omega⟩
    · have hm : m = 8 := by omega
      subst hm
      obtain ⟨κ, hκ⟩ : ∃ κ, kf X 8 = κ := ⟨_, rfl⟩
      have HK := Lib.hid hκ
      have hin := kf_in X 8 (Nat.le_refl _)
      rw [hκ] at HJ hin
      clear hκ
      have ce := Blk.cell (i := 0) (v := .int .i64 κ) HJ.out.box rfl
      have le := Blk.lt HJ.out.box
      by_cases hk0 : κ = 0
      · have HNO := Lib.hid (show rdSpec t = none by rw [rdSpec_of HXR.out HK.out]; unfold rdK; rw [if_pos hk0])
        have KR := HKR.out.up (HJ.out.bel)
        have hbW := Lib.hid (Below.tr HB2.out (HJ.out.bel))
        have r0 := Blk.cell (i := 0) (v := .int .i64 0) KR rfl
        have q0 := Blk.frozen KR 0
        have r1 := Blk.cell (i := 1) (v := .int .i64 0) KR rfl
        have q1 := Blk.frozen KR 1
        have r2 := Blk.cell (i := 2) (v := .int .i64 0) KR rfl
        have q2 := Blk.frozen KR 2
        have r3 := Blk.cell (i := 3) (v := .int .i64 0) KR rfl
        have q3 := Blk.frozen KR 3
        have r4 := Blk.cell (i := 4) (v := .slice none 0 0) KR rfl
        have q4 := Blk.frozen KR 4
        have r5 := Blk.cell (i := 5) (v := .string ⟨#[]⟩) KR rfl
        have q5 := Blk.frozen KR 5
        have lR := Blk.lt KR
        have HKX := Lib.hid KR
        clear KR
        go_wp2_with fail
        obtain ⟨⟨hf, _⟩, x0, x1, x2, x3, x4, x5⟩ := fin6 HKX.out hbW.out (.int .i64 0) (.int .i64 0) (.int .i64 0) (.int .i64 0) (.slice none 0 0) (.string ⟨#[]⟩)
        exact bodyPost_ret (v := .tuple #[.agg #[.int .i64 0, .int .i64 0, .int .i64 0, .int .i64 0, .slice none 0 0, .string ⟨#[]⟩], .int .i64 5]) (by simp [results, Tryz.results25, go_sem, x0, x1, x2, x3, x4, x5]) rfl ⟨hf, .slice none 0 0, by rw [(rd_none HNO.out).1]; exact World.ownsRow_nil _ _ _ _, by rw [(rd_none HNO.out).1, (rd_none HNO.out).2]; rfl⟩
      · have hk7 : inR κ 1 7 = true := hin.resolve_left hk0
        clear hin
        go_wp2_with fail
        refine (l07Uses_any κ _ hk7).mono ?_
        rintro r w3 ⟨rfl, hb3⟩
        have J3 := Lib.hid (HJ.out.up hb3)
        obtain ⟨U, hU⟩ : ∃ U, usesS κ = U := ⟨_, rfl⟩
        have HU := Lib.hid hU
        have hUl : U.size ≤ 3 := by rw [← hU]; exact (uses_has hk7).2.2.2.2
        rw [hU]
        clear hU hb3 ce le
        by_cases hlen : (R.length : Int) + 1 = (U.size : Int) + 1
        · have hRl : R.length = U.size := by omega
          have w1 : IntKind.i64.wrap ((U.size : Int) + 1) = (U.size : Int) + 1 := IntWalk.i64_in _ (by omega)
          go_wp2_with fail
          go_loopw [9] (fun i wx => ∃ (m : Nat) (e : GEdit) (AP : Option Addr) (cP : Nat), m ≤ U.size ∧ i = .int .i64 m ∧ Hid (RdSt w2 wx e (.slice AP e.part.length cP)) ∧ Hid (rdRun (U.data.toList.drop m) (R.drop m) e = rdRun U.data.toList R ⟨κ, 0, 0, 0, [], ⟨#[]⟩⟩) ∧ Hid (SmallE e)) (fun i _ => U.size - (intOf i).toNat)
          case atStart => exact ⟨0, ⟨κ, 0, 0, 0, [], ⟨#[]⟩⟩, none, 0, Nat.zero_le _, rfl, J3, Lib.hid rfl, Lib.hid ⟨fun r hr => absurd hr (by simp), by simp, Nat.zero_le _⟩⟩
          case round =>
            obtain ⟨m, e, AP, cP, hm, rfl, HJ, HR, HSE⟩ := hrel
            by_cases hlt : m < U.size
            · have hmR : m < R.length := by omega
              obtain ⟨x, hx⟩ : ∃ x, R[m]? = some x := ⟨_, List.getElem?_eq_getElem hmR⟩
              have hxs : x.size ≤ 1048576 := Nat.le_trans (splB_size (b := 32) (s := t) (by rw [HXR.out]; exact List.mem_cons_of_mem _ (List.mem_of_getElem? hx))) hs
              have HXS := Lib.hid hxs
              have hcx := (HJ.out.bel.cell (p := ⟨g, m + 1, none⟩) hgl2).trans (OwnW.at HO2.out (k := m + 1) (x := x) (by simpa using hx))
              have hUm : U.data.toList[m]? = some U[m] := by rw [List.getElem?_eq_getElem (by rw [Array.length_toList]; exact hlt)]; simp; rfl
              have HST := Lib.hid (rdRun_step (e := e) hUm hx)
              rw [HR.out] at HST
              have w2' : IntKind.i64.wrap ((m : Int) + 1) = (m : Int) + 1 := IntWalk.i64_in _ (by omega)
              have hmI : (m : Int) + 1 < (R.length : Int) + 1 := by omega
              have hm0 : (0 : Int) ≤ (m : Int) + 1 := by omega
              clear hUm HR hx
              go_wp2_with fail
              refine (l01Number_any x _ HXS.out).mono ?_
              rintro r w4 ⟨hb4, rfl⟩
              have J4 := Lib.hid (HJ.out.up hb4)
              clear hb4 hcx
              by_cases c73 : U[m] = 73
              · have e73 : (U[m].toNat : Int) = 73 := by rw [c73]; rfl
                have ce := Blk.cell (i := 1) (v := .int .i64 e.i) J4.out.box rfl
                have ze := Blk.frozen J4.out.box 1
                have le := Blk.lt J4.out.box
                have J5 := Lib.hid (J4.out.set1 (numV x.data.toList))
                cases hrd : rdOk x.data.toList with
                | false =>
                  have hstep : rdStep e U[m] x = none := by unfold rdStep; rw [if_pos c73, hrd]; rfl
                  have HNO := Lib.hid (show rdSpec t = none by rw [rdSpec_of HXR.out HK.out]; unfold rdK; rw [if_neg hk0, HU.out, if_neg (by simp; omega)]; simp only [List.tail_cons]; rw [HST.out, hstep])
                  clear c73 hstep
                  have KR := HKR.out.up (J5.out.bel)
                  have hbW := Lib.hid (Below.tr HB2.out (J5.out.bel))
                  have r0 := Blk.cell (i := 0) (v := .int .i64 0) KR rfl
                  have q0 := Blk.frozen KR 0
                  have r1 := Blk.cell (i := 1) (v := .int .i64 0) KR rfl
                  have q1 := Blk.frozen KR 1
                  have r2 := Blk.cell (i := 2) (v := .int .i64 0) KR rfl
                  have q2 := Blk.frozen KR 2
                  have r3 := Blk.cell (i := 3) (v := .int .i64 0) KR rfl
                  have q3 := Blk.frozen KR 3
                  have r4 := Blk.cell (i := 4) (v := .slice none 0 0) KR rfl
                  have q4 := Blk.frozen KR 4
                  have r5 := Blk.cell (i := 5) (v := .string ⟨#[]⟩) KR rfl
                  have q5 := Blk.frozen KR 5
                  have lR := Blk.lt KR
                  have HKX := Lib.hid KR
                  clear KR
                  go_wp2_with fail
                  obtain ⟨⟨hf, _⟩, x0, x1, x2, x3, x4, x5⟩ := fin6 HKX.out hbW.out (.int .i64 0) (.int .i64 0) (.int .i64 0) (.int .i64 0) (.slice none 0 0) (.string ⟨#[]⟩)
                  exact bodyPost_ret (v := .tuple #[.agg #[.int .i64 0, .int .i64 0, .int .i64 0, .int .i64 0, .slice none 0 0, .string ⟨#[]⟩], .int .i64 5]) (by simp [results, Tryz.results25, go_sem, x0, x1, x2, x3, x4, x5]) rfl ⟨hf, .slice none 0 0, by rw [(rd_none HNO.out).1]; exact World.ownsRow_nil _ _ _ _, by rw [(rd_none HNO.out).1, (rd_none HNO.out).2]; rfl⟩
                | true =>
                  have hstep : rdStep e U[m] x = some ⟨e.kind, numV x.data.toList, e.j, e.k, e.part, e.map⟩ := by unfold rdStep; rw [if_pos c73, hrd]; rfl
                  have HST2 := Lib.hid (show rdRun (U.data.toList.drop (m + 1)) (R.drop (m + 1)) ⟨e.kind, numV x.data.toList, e.j, e.k, e.part, e.map⟩ = rdRun U.data.toList R ⟨κ, 0, 0, 0, [], ⟨#[]⟩⟩ by rw [HST.out, hstep])
                  clear c73 hstep
                  go_wp2_with fail
                  exact ⟨⟨m + 1, ⟨e.kind, numV x.data.toList, e.j, e.k, e.part, e.map⟩, AP, cP, by omega, by go_num, J5, HST2, HSE⟩, by simp [intOf]; omega⟩
              · have e73 : ¬ (U[m].toNat : Int) = 73 := fun h => c73 (UInt8.toNat_inj.1 (by have : (73 : UInt8).toNat = 73 := rfl; omega))
                by_cases c74 : U[m] = 74
                · have e74 : (U[m].toNat : Int) = 74 := by rw [c74]; rfl
                  have ce := Blk.cell (i := 2) (v := .int .i64 e.j) J4.out.box rfl
                  have ze := Blk.frozen J4.out.box 2
                  have le := Blk.lt J4.out.box
                  have J5 := Lib.hid (J4.out.set2 (numV x.data.toList))
                  cases hrd : rdOk x.data.toList with
                  | false =>
                    have hstep : rdStep e U[m] x = none := by unfold rdStep; rw [if_neg c73, if_pos c74, hrd]; rfl
                    have HNO := Lib.hid (show rdSpec t = none by rw [rdSpec_of HXR.out HK.out]; unfold rdK; rw [if_neg hk0, HU.out, if_neg (by simp; omega)]; simp only [List.tail_cons]; rw [HST.out, hstep])
                    clear c74 hstep
                    have KR := HKR.out.up (J5.out.bel)
                    have hbW := Lib.hid (Below.tr HB2.out (J5.out.bel))
                    have r0 := Blk.cell (i := 0) (v := .int .i64 0) KR rfl
                    have q0 := Blk.frozen KR 0
                    have r1 := Blk.cell (i := 1) (v := .int .i64 0) KR rfl
                    have q1 := Blk.frozen KR 1
                    have r2 := Blk.cell (i := 2) (v := .int .i64 0) KR rfl
                    have q2 := Blk.frozen KR 2
                    have r3 := Blk.cell (i := 3) (v := .int .i64 0) KR rfl
                    have q3 := Blk.frozen KR 3
                    have r4 := Blk.cell (i := 4) (v := .slice none 0 0) KR rfl
                    have q4 := Blk.frozen KR 4
                    have r5 := Blk.cell (i := 5) (v := .string ⟨#[]⟩) KR rfl
                    have q5 := Blk.frozen KR 5
                    have lR := Blk.lt KR
                    have HKX := Lib.hid KR
                    clear KR
                    go_wp2_with fail
                    obtain ⟨⟨hf, _⟩, x0, x1, x2, x3, x4, x5⟩ := fin6 HKX.out hbW.out (.int .i64 0) (.int .i64 0) (.int .i64 0) (.int .i64 0) (.slice none 0 0) (.string ⟨#[]⟩)
                    exact bodyPost_ret (v := .tuple #[.agg #[.int .i64 0, .int .i64 0, .int .i64 0, .int .i64 0, .slice none 0 0, .string ⟨#[]⟩], .int .i64 5]) (by simp [results, Tryz.results25, go_sem, x0, x1, x2, x3, x4, x5]) rfl ⟨hf, .slice none 0 0, by rw [(rd_none HNO.out).1]; exact World.ownsRow_nil _ _ _ _, by rw [(rd_none HNO.out).1, (rd_none HNO.out).2]; rfl⟩
                  | true =>
                    have hstep : rdStep e U[m] x = some ⟨e.kind, e.i, numV x.data.toList, e.k, e.part, e.map⟩ := by unfold rdStep; rw [if_neg c73, if_pos c74, hrd]; rfl
                    have HST2 := Lib.hid (show rdRun (U.data.toList.drop (m + 1)) (R.drop (m + 1)) ⟨e.kind, e.i, numV x.data.toList, e.k, e.part, e.map⟩ = rdRun U.data.toList R ⟨κ, 0, 0, 0, [], ⟨#[]⟩⟩ by rw [HST.out, hstep])
                    clear c74 hstep
                    go_wp2_with fail
                    exact ⟨⟨m + 1, ⟨e.kind, e.i, numV x.data.toList, e.k, e.part, e.map⟩, AP, cP, by omega, by go_num, J5, HST2, HSE⟩, by simp [intOf]; omega⟩
                · have e74 : ¬ (U[m].toNat : Int) = 74 := fun h => c74 (UInt8.toNat_inj.1 (by have : (74 : UInt8).toNat = 74 := rfl; omega))
                  by_cases c75 : U[m] = 75
                  · have e75 : (U[m].toNat : Int) = 75 := by rw [c75]; rfl
                    have ce := Blk.cell (i := 3) (v := .int .i64 e.k) J4.out.box rfl
                    have ze := Blk.frozen J4.out.box 3
                    have le := Blk.lt J4.out.box
                    have J5 := Lib.hid (J4.out.set3 (numV x.data.toList))
                    cases hrd : rdOk x.data.toList with
                    | false =>
                      have hstep : rdStep e U[m] x = none := by unfold rdStep; rw [if_neg c73, if_neg c74, if_pos c75, hrd]; rfl
                      have HNO := Lib.hid (show rdSpec t = none by rw [rdSpec_of HXR.out HK.out]; unfold rdK; rw [if_neg hk0, HU.out, if_neg (by simp; omega)]; simp only [List.tail_cons]; rw [HST.out, hstep])
                      clear c75 hstep
                      have KR := HKR.out.up (J5.out.bel)
                      have hbW := Lib.hid (Below.tr HB2.out (J5.out.bel))
                      have r0 := Blk.cell (i := 0) (v := .int .i64 0) KR rfl
                      have q0 := Blk.frozen KR 0
                      have r1 := Blk.cell (i := 1) (v := .int .i64 0) KR rfl
                      have q1 := Blk.frozen KR 1
                      have r2 := Blk.cell (i := 2) (v := .int .i64 0) KR rfl
                      have q2 := Blk.frozen KR 2
                      have r3 := Blk.cell (i := 3) (v := .int .i64 0) KR rfl
                      have q3 := Blk.frozen KR 3
                      have r4 := Blk.cell (i := 4) (v := .slice none 0 0) KR rfl
                      have q4 := Blk.frozen KR 4
                      have r5 := Blk.cell (i := 5) (v := .string ⟨#[]⟩) KR rfl
                      have q5 := Blk.frozen KR 5
                      have lR := Blk.lt KR
                      have HKX := Lib.hid KR
                      clear KR
                      go_wp2_with fail
                      obtain ⟨⟨hf, _⟩, x0, x1, x2, x3, x4, x5⟩ := fin6 HKX.out hbW.out (.int .i64 0) (.int .i64 0) (.int .i64 0) (.int .i64 0) (.slice none 0 0) (.string ⟨#[]⟩)
                      exact bodyPost_ret (v := .tuple #[.agg #[.int .i64 0, .int .i64 0, .int .i64 0, .int .i64 0, .slice none 0 0, .string ⟨#[]⟩], .int .i64 5]) (by simp [results, Tryz.results25, go_sem, x0, x1, x2, x3, x4, x5]) rfl ⟨hf, .slice none 0 0, by rw [(rd_none HNO.out).1]; exact World.ownsRow_nil _ _ _ _, by rw [(rd_none HNO.out).1, (rd_none HNO.out).2]; rfl⟩
                    | true =>
                      have hstep : rdStep e U[m] x = some ⟨e.kind, e.i, e.j, numV x.data.toList, e.part, e.map⟩ := by unfold rdStep; rw [if_neg c73, if_neg c74, if_pos c75, hrd]; rfl
                      have HST2 := Lib.hid (show rdRun (U.data.toList.drop (m + 1)) (R.drop (m + 1)) ⟨e.kind, e.i, e.j, numV x.data.toList, e.part, e.map⟩ = rdRun U.data.toList R ⟨κ, 0, 0, 0, [], ⟨#[]⟩⟩ by rw [HST.out, hstep])
                      clear c75 hstep
                      go_wp2_with fail
                      exact ⟨⟨m + 1, ⟨e.kind, e.i, e.j, numV x.data.toList, e.part, e.map⟩, AP, cP, by omega, by go_num, J5, HST2, HSE⟩, by simp [intOf]; omega⟩
                  · have e75 : ¬ (U[m].toNat : Int) = 75 := fun h => c75 (UInt8.toNat_inj.1 (by have : (75 : UInt8).toNat = 75 := rfl; omega))
                    by_cases c80 : U[m] = 80
                    · have e80 : (U[m].toNat : Int) = 80 := by rw [c80]; rfl
                      have hxm : x.size ≤ maxLen := by have := HXS.out; unfold maxLen; omega
                      have HXM := Lib.hid hxm
                      clear hxm
                      cases hwo : wordOk x with
                      | false =>
                        have hstep : rdStep e U[m] x = none := by unfold rdStep; rw [if_neg c73, if_neg c74, if_neg c75, if_pos c80, hwo]; rfl
                        have HNO := Lib.hid (show rdSpec t = none by rw [rdSpec_of HXR.out HK.out]; unfold rdK; rw [if_neg hk0, HU.out, if_neg (by simp; omega)]; simp only [List.tail_cons]; rw [HST.out, hstep])
                        have HWO := Lib.hid hwo
                        clear c80 hstep hwo
                        go_wp2_with fail
                        refine (l01Ok_any x _ HXM.out).mono ?_
                        rintro r w5 ⟨rfl, rfl⟩
                        rw [HWO.out]
                        have KR := HKR.out.up (J4.out.bel)
                        have hbW := Lib.hid (Below.tr HB2.out (J4.out.bel))
                        have r0 := Blk.cell (i := 0) (v := .int .i64 0) KR rfl
                        have q0 := Blk.frozen KR 0
                        have r1 := Blk.cell (i := 1) (v := .int .i64 0) KR rfl
                        have q1 := Blk.frozen KR 1
                        have r2 := Blk.cell (i := 2) (v := .int .i64 0) KR rfl
                        have q2 := Blk.frozen KR 2
                        have r3 := Blk.cell (i := 3) (v := .int .i64 0) KR rfl
                        have q3 := Blk.frozen KR 3
                        have r4 := Blk.cell (i := 4) (v := .slice none 0 0) KR rfl
                        have q4 := Blk.frozen KR 4
                        have r5 := Blk.cell (i := 5) (v := .string ⟨#[]⟩) KR rfl
                        have q5 := Blk.frozen KR 5
                        have lR := Blk.lt KR
                        have HKX := Lib.hid KR
                        clear KR
                        go_wp2_with fail
                        obtain ⟨⟨hf, _⟩, x0, x1, x2, x3, x4, x5⟩ := fin6 HKX.out hbW.out (.int .i64 0) (.int .i64 0) (.int .i64 0) (.int .i64 0) (.slice none 0 0) (.string ⟨#[]⟩)
                        exact bodyPost_ret (v := .tuple #[.agg #[.int .i64 0, .int .i64 0, .int .i64 0, .int .i64 0, .slice none 0 0, .string ⟨#[]⟩], .int .i64 5]) (by simp [results, Tryz.results25, go_sem, x0, x1, x2, x3, x4, x5]) rfl ⟨hf, .slice none 0 0, by rw [(rd_none HNO.out).1]; exact World.ownsRow_nil _ _ _ _, by rw [(rd_none HNO.out).1, (rd_none HNO.out).2]; rfl⟩
                      | true =>
                        have HWO := Lib.hid hwo
                        by_cases hl : x.size ≤ 400
                        · have hlI : (x.size : Int) ≤ 400 := by omega
                          have hstep : rdStep e U[m] x = some ⟨e.kind, e.i, e.j, e.k, plainG x, e.map⟩ := by unfold rdStep; rw [if_neg c73, if_neg c74, if_neg c75, if_pos c80, hwo, decide_eq_true hl]; rfl
                          have HST2 := Lib.hid (show rdRun (U.data.toList.drop (m + 1)) (R.drop (m + 1)) ⟨e.kind, e.i, e.j, e.k, plainG x, e.map⟩ = rdRun U.data.toList R ⟨κ, 0, 0, 0, [], ⟨#[]⟩⟩ by rw [HST.out, hstep])
                          have hpl := plainG_len x
                          have HPL := Lib.hid (show (plainG x).length ≤ 404 by omega)
                          clear c80 hstep hwo hpl
                          go_wp2_with fail
                          refine (l01Ok_any x _ HXM.out).mono ?_
                          rintro r w5 ⟨rfl, rfl⟩
                          rw [HWO.out]
                          go_wp2_with fail
                          refine (l02Plain_any x _ HWO.out).mono ?_
                          rintro r w6 ⟨hb6, v6, own6, rfl⟩
                          obtain ⟨A6, c6, rfl, _⟩ := own_nil own6
                          have J6 := Lib.hid (J4.out.up hb6)
                          have ce := Blk.cell (i := 4) (v := .slice AP e.part.length cP) J6.out.box rfl
                          have ze := Blk.frozen J6.out.box 4
                          have le := Blk.lt J6.out.box
                          have J7 := Lib.hid (J6.out.set4 own6 (Blk.lt J4.out.box))
                          clear own6 hb6
                          go_wp2_with fail
                          exact ⟨⟨m + 1, ⟨e.kind, e.i, e.j, e.k, plainG x, e.map⟩, A6, c6, by omega, by go_num, J7, HST2, Lib.hid ⟨plain_smallL HWO.out, HPL.out, HSE.out.2.2⟩⟩, by simp [intOf]; omega⟩
                        · have hlI : ¬ (x.size : Int) ≤ 400 := by omega
                          have hld : (decide ((x.size : Int) ≤ 400)) = false := by simp; omega
                          have hstep : rdStep e U[m] x = none := by unfold rdStep; rw [if_neg c73, if_neg c74, if_neg c75, if_pos c80, hwo, decide_eq_false hl]; rfl
                          have HNO := Lib.hid (show rdSpec t = none by rw [rdSpec_of HXR.out HK.out]; unfold rdK; rw [if_neg hk0, HU.out, if_neg (by simp; omega)]; simp only [List.tail_cons]; rw [HST.out, hstep])
                          clear c80 hstep hwo
                          go_wp2_with fail
                          refine (l01Ok_any x _ HXM.out).mono ?_
                          rintro r w5 ⟨rfl, rfl⟩
                          rw [HWO.out]
                          have KR := HKR.out.up (J4.out.bel)
                          have hbW := Lib.hid (Below.tr HB2.out (J4.out.bel))
                          have r0 := Blk.cell (i := 0) (v := .int .i64 0) KR rfl
                          have q0 := Blk.frozen KR 0
                          have r1 := Blk.cell (i := 1) (v := .int .i64 0) KR rfl
                          have q1 := Blk.frozen KR 1
                          have r2 := Blk.cell (i := 2) (v := .int .i64 0) KR rfl
                          have q2 := Blk.frozen KR 2
                          have r3 := Blk.cell (i := 3) (v := .int .i64 0) KR rfl
                          have q3 := Blk.frozen KR 3
                          have r4 := Blk.cell (i := 4) (v := .slice none 0 0) KR rfl
                          have q4 := Blk.frozen KR 4
                          have r5 := Blk.cell (i := 5) (v := .string ⟨#[]⟩) KR rfl
                          have q5 := Blk.frozen KR 5
                          have lR := Blk.lt KR
                          have HKX := Lib.hid KR
                          clear KR
                          go_wp2_with fail
                          obtain ⟨⟨hf, _⟩, x0, x1, x2, x3, x4, x5⟩ := fin6 HKX.out hbW.out (.int .i64 0) (.int .i64 0) (.int .i64 0) (.int .i64 0) (.slice none 0 0) (.string ⟨#[]⟩)
                          exact bodyPost_ret (v := .tuple #[.agg #[.int .i64 0, .int .i64 0, .int .i64 0, .int .i64 0, .slice none 0 0, .string ⟨#[]⟩], .int .i64 5]) (by simp [results, Tryz.results25, go_sem, x0, x1, x2, x3, x4, x5]) rfl ⟨hf, .slice none 0 0, by rw [(rd_none HNO.out).1]; exact World.ownsRow_nil _ _ _ _, by rw [(rd_none HNO.out).1, (rd_none HNO.out).2]; rfl⟩
                    · have e80 : ¬ (U[m].toNat : Int) = 80 := fun h => c80 (UInt8.toNat_inj.1 (by have : (80 : UInt8).toNat = 80 := rfl; omega))
                      have ce := Blk.cell (i := 5) (v := .string e.map) J4.out.box rfl
                      have ze := Blk.frozen J4.out.box 5
                      have le := Blk.lt J4.out.box
                      have J5 := Lib.hid (J4.out.set5 x)
                      have hstep : rdStep e U[m] x = some ⟨e.kind, e.i, e.j, e.k, e.part, x⟩ := by unfold rdStep; rw [if_neg c73, if_neg c74, if_neg c75, if_neg c80]
                      have HST2 := Lib.hid (show rdRun (U.data.toList.drop (m + 1)) (R.drop (m + 1)) ⟨e.kind, e.i, e.j, e.k, e.part, x⟩ = rdRun U.data.toList R ⟨κ, 0, 0, 0, [], ⟨#[]⟩⟩ by rw [HST.out, hstep])
                      clear hstep
                      go_wp2_with fail
                      exact ⟨⟨m + 1, ⟨e.kind, e.i, e.j, e.k, e.part, x⟩, AP, cP, by omega, by go_num, J5, HST2, Lib.hid ⟨HSE.out.1, HSE.out.2.1, HXS.out⟩⟩, by simp [intOf]; omega⟩
            · have hmU : m = U.size := by omega
              subst hmU
              have hre : rdRun U.data.toList R ⟨κ, 0, 0, 0, [], ⟨#[]⟩⟩ = some e := by
                rw [← HR.out]
                have : U.data.toList.drop U.size = [] := by rw [List.drop_eq_nil_iff, Array.length_toList]; exact Nat.le_refl _
                rw [this]; rfl
              have HRE := Lib.hid hre
              clear hre HR
              go_wp2_with fail
              refine (l07Ok_any w2.heap.size _ e _ (RdSt.at HJ.out) HSE.out.1 (by have := HSE.out.2.1; omega) (by have := HSE.out.2.2; unfold maxLen; omega)).mono ?_
              rintro r w5 ⟨rfl, hb5⟩
              have J5 := Lib.hid (HJ.out.up hb5)
              clear hb5
              cases hok : editOk e with
              | false =>
                have HNO := Lib.hid (show rdSpec t = none by rw [rdSpec_of HXR.out HK.out]; unfold rdK; rw [if_neg hk0, HU.out, if_neg (by simp; omega)]; simp only [List.tail_cons]; rw [HRE.out]; simp [hok])
                clear hok
                have KR := HKR.out.up (J5.out.bel)
                have hbW := Lib.hid (Below.tr HB2.out (J5.out.bel))
                have r0 := Blk.cell (i := 0) (v := .int .i64 0) KR rfl
                have q0 := Blk.frozen KR 0
                have r1 := Blk.cell (i := 1) (v := .int .i64 0) KR rfl
                have q1 := Blk.frozen KR 1
                have r2 := Blk.cell (i := 2) (v := .int .i64 0) KR rfl
                have q2 := Blk.frozen KR 2
                have r3 := Blk.cell (i := 3) (v := .int .i64 0) KR rfl
                have q3 := Blk.frozen KR 3
                have r4 := Blk.cell (i := 4) (v := .slice none 0 0) KR rfl
                have q4 := Blk.frozen KR 4
                have r5 := Blk.cell (i := 5) (v := .string ⟨#[]⟩) KR rfl
                have q5 := Blk.frozen KR 5
                have lR := Blk.lt KR
                have HKX := Lib.hid KR
                clear KR
                go_wp2_with fail
                obtain ⟨⟨hf, _⟩, x0, x1, x2, x3, x4, x5⟩ := fin6 HKX.out hbW.out (.int .i64 0) (.int .i64 0) (.int .i64 0) (.int .i64 0) (.slice none 0 0) (.string ⟨#[]⟩)
                exact bodyPost_ret (v := .tuple #[.agg #[.int .i64 0, .int .i64 0, .int .i64 0, .int .i64 0, .slice none 0 0, .string ⟨#[]⟩], .int .i64 5]) (by simp [results, Tryz.results25, go_sem, x0, x1, x2, x3, x4, x5]) rfl ⟨hf, .slice none 0 0, by rw [(rd_none HNO.out).1]; exact World.ownsRow_nil _ _ _ _, by rw [(rd_none HNO.out).1, (rd_none HNO.out).2]; rfl⟩
              | true =>
                have HYES := Lib.hid (show rdSpec t = some e by rw [rdSpec_of HXR.out HK.out]; unfold rdK; rw [if_neg hk0, HU.out, if_neg (by simp; omega)]; simp only [List.tail_cons]; rw [HRE.out]; simp [hok])
                clear hok
                have KR := HKR.out.up (J5.out.bel)
                have hbW := Lib.hid (Below.tr HB2.out J5.out.bel)
                have r0 := Blk.cell (i := 0) (v := .int .i64 0) KR rfl
                have q0 := Blk.frozen KR 0
                have r1 := Blk.cell (i := 1) (v := .int .i64 0) KR rfl
                have q1 := Blk.frozen KR 1
                have r2 := Blk.cell (i := 2) (v := .int .i64 0) KR rfl
                have q2 := Blk.frozen KR 2
                have r3 := Blk.cell (i := 3) (v := .int .i64 0) KR rfl
                have q3 := Blk.frozen KR 3
                have r4 := Blk.cell (i := 4) (v := .slice none 0 0) KR rfl
                have q4 := Blk.frozen KR 4
                have r5 := Blk.cell (i := 5) (v := .string ⟨#[]⟩) KR rfl
                have q5 := Blk.frozen KR 5
                have g0 := Blk.cell (i := 0) (v := .int .i64 e.kind) J5.out.box rfl
                have g1 := Blk.cell (i := 1) (v := .int .i64 e.i) J5.out.box rfl
                have g2 := Blk.cell (i := 2) (v := .int .i64 e.j) J5.out.box rfl
                have g3 := Blk.cell (i := 3) (v := .int .i64 e.k) J5.out.box rfl
                have g4 := Blk.cell (i := 4) (v := .slice AP e.part.length cP) J5.out.box rfl
                have g5 := Blk.cell (i := 5) (v := .string e.map) J5.out.box rfl
                have lE := Blk.lt J5.out.box
                have lR := Blk.lt KR
                have HKX := Lib.hid KR
                have hwE : w.heap.size < w2.heap.size := HKR.out.lt
                clear KR
                go_wp2_with fail
                obtain ⟨⟨hf, hh⟩, x0, x1, x2, x3, x4, x5⟩ := fin6 HKX.out hbW.out (.int .i64 e.kind) (.int .i64 e.i) (.int .i64 e.j) (.int .i64 e.k) (.slice AP e.part.length cP) (.string e.map)
                exact bodyPost_ret (v := .tuple #[.agg #[.int .i64 e.kind, .int .i64 e.i, .int .i64 e.j, .int .i64 e.k, .slice AP e.part.length cP, .string e.map], .int .i64 0]) (by simp [results, Tryz.results25, go_sem, x0, x1, x2, x3, x4, x5]) rfl ⟨hf, .slice AP e.part.length cP, by rw [(rd_some HYES.out).1]; exact ownsRow_more (own_keep J5.out.own (fun g hg => hh g (by have := (World.ownsRow.lt J5.out.own g hg).1; omega))) (by omega), by rw [(rd_some HYES.out).1, (rd_some HYES.out).2]⟩
        · have HNO := Lib.hid (show rdSpec t = none by rw [rdSpec_of HXR.out HK.out]; unfold rdK; rw [if_neg hk0, HU.out, if_pos (by simp; omega)])
          have w1 : IntKind.i64.wrap ((U.size : Int) + 1) = (U.size : Int) + 1 := IntWalk.i64_in _ (by omega)
          have KR := HKR.out.up (J3.out.bel)
          have hbW := Lib.hid (Below.tr HB2.out (J3.out.bel))
          have r0 := Blk.cell (i := 0) (v := .int .i64 0) KR rfl
          have q0 := Blk.frozen KR 0
          have r1 := Blk.cell (i := 1) (v := .int .i64 0) KR rfl
          have q1 := Blk.frozen KR 1
          have r2 := Blk.cell (i := 2) (v := .int .i64 0) KR rfl
          have q2 := Blk.frozen KR 2
          have r3 := Blk.cell (i := 3) (v := .int .i64 0) KR rfl
          have q3 := Blk.frozen KR 3
          have r4 := Blk.cell (i := 4) (v := .slice none 0 0) KR rfl
          have q4 := Blk.frozen KR 4
          have r5 := Blk.cell (i := 5) (v := .string ⟨#[]⟩) KR rfl
          have q5 := Blk.frozen KR 5
          have lR := Blk.lt KR
          have HKX := Lib.hid KR
          clear KR
          go_wp2_with fail
          obtain ⟨⟨hf, _⟩, x0, x1, x2, x3, x4, x5⟩ := fin6 HKX.out hbW.out (.int .i64 0) (.int .i64 0) (.int .i64 0) (.int .i64 0) (.slice none 0 0) (.string ⟨#[]⟩)
          exact bodyPost_ret (v := .tuple #[.agg #[.int .i64 0, .int .i64 0, .int .i64 0, .int .i64 0, .slice none 0 0, .string ⟨#[]⟩], .int .i64 5]) (by simp [results, Tryz.results25, go_sem, x0, x1, x2, x3, x4, x5]) rfl ⟨hf, .slice none 0 0, by rw [(rd_none HNO.out).1]; exact World.ownsRow_nil _ _ _ _, by rw [(rd_none HNO.out).1, (rd_none HNO.out).2]; rfl⟩
end Go.Proofs.YtbifijlenbibmaaGreatDoor

