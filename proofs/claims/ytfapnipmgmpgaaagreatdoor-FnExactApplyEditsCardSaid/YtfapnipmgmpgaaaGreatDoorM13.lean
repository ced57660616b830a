import Derived.Test.YtfapnipmgmpgaaaGreatDoorM12
import Derived.Test.YtfapnipmgmpgaaaGreatDoorM11
import Derived.Test.YtfapnipmgmpgaaaGreatDoorM6
import Derived.Test.YtfapnipmgmpgaaaGreatDoorM3
import Derived.Test.YtfapnipmgmpgaaaGreatDoorM10
namespace Go.Proofs.YtfapnipmgmpgaaaGreatDoor
open Go.RowKit

/-- The state of the making of an edited grammar: R the result's cell, b the maker. -/
structure MkJ (w0 : World) (P oP E oE R b : Nat) (e : GEdit) (vR vG : Value) (s : Option (List GRule)) (W : World) : Prop where
  bel : Below w0.heap.size w0 W
  hM : Mk W b P oP s
  cP : C1 W ⟨P, oP, none⟩ vG
  hE : EC W E oE e vR
  hR : Blk W R #[.slice none 0 0] 31
  neP : P ≠ b
  neE : E ≠ b
  neR : R ≠ b
  le : w0.heap.size ≤ b
  ltR : w0.heap.size ≤ R
theorem MkJ.next {w0 W W' : World} {P oP E oE R b : Nat} {e : GEdit} {vR vG : Value} {s s' : Option (List GRule)} (h : MkJ w0 P oP E oE R b e vR vG s W) (hb : But b W W') (ha : Mk W' b P oP s') : MkJ w0 P oP E oE R b e vR vG s' W' :=
  ⟨h.bel.trans (hb.below h.le h.bel.size), ha, h.cP.but hb h.neP, h.hE.but hb h.neE, h.hR.but hb h.neR, h.neP, h.neE, h.neR, h.le, h.ltR⟩
theorem MkJ.drewN {w0 W : World} {P oP E oE R b : Nat} {e : GEdit} {vR vG : Value} {s : Option (List GRule)} (h : MkJ w0 P oP E oE R b e vR vG s W) (n : Nat) : MkJ w0 P oP E oE R b e vR vG s (W.drewN n) :=
  h.next ((But.refl b W).drewN n) (h.hM.up (below_drewN (Below.refl _ _) n))
theorem MkJ.drew {w0 W : World} {P oP E oE R b : Nat} {e : GEdit} {vR vG : Value} {s : Option (List GRule)} (h : MkJ w0 P oP E oE R b e vR vG s W) : MkJ w0 P oP E oE R b e vR vG s W.drew :=
  h.next (But.refl b W).drew (h.hM.up (Below.drew (Below.refl _ _)))
theorem mk_start {W : World} {P oP : Nat} {b : Nat} (h : Blk W b #[.pointer (some ⟨P, oP, none⟩), .slice none 0 0, .bool false] 119) : Mk W b P oP (some []) :=
  ⟨_, [], h, World.ownsRow_nil _ _ _ _, fun _ h => (Option.some.inj h).symm, rfl⟩
/-- The numbers of an edit that fits. -/
theorem fits_nums {e : GEdit} {n : Int} (h : editOk e = true) (hf : editFits e n = true) :
    0 ≤ e.i ∧ (e.kind = 1 → e.i ≤ n) ∧ (2 ≤ e.kind → e.i ≤ e.j ∧ e.j ≤ n) ∧ (e.kind = 3 → 0 ≤ e.k ∧ e.k ≤ n) ∧ (e.kind = 4 → 0 ≤ e.k ∧ (e.k ≤ e.i ∨ (e.j ≤ e.k ∧ e.k ≤ n))) := by
  obtain ⟨k, i, j, kk, part, map⟩ := e
  have hk := (kind_ok h).2.2.2
  have hr := (kind_ok h).2.2.1
  simp only [editOk, Bool.and_eq_true, inR, decide_eq_true_eq] at h
  obtain ⟨⟨⟨⟨⟨⟨⟨⟨h1, h1'⟩, h2⟩, h3⟩, h4⟩, h5⟩, h6⟩, h7⟩, h8⟩ := h
  simp only at h1 h1' h2 h3 h4 hk hr ⊢
  rcases (by omega : k = 1 ∨ k = 2 ∨ k = 3 ∨ k = 4 ∨ k = 5 ∨ k = 6 ∨ k = 7) with rfl | rfl | rfl | rfl | rfl | rfl | rfl
  all_goals
    simp [editFits, numOk, usesJ, usesK, inR] at hf h3 h4 hk ⊢
    omega
set_option maxRecDepth 100000 in
set_option maxHeartbeats 4000000 in
theorem l07Apply_any (P oP E oE : Nat) (vG vR : Value) (xs : List GRule) (e : GEdit) (w : World) (hP : C1 w ⟨P, oP, none⟩ vG) (hE : EC w E oE e vR) (hG : Sl RuleE w w.heap.size vG xs) (hR : Sl RuleE w w.heap.size vR e.part) (hg : gramOk xs = true) (hk : editOk e = true) :
    Calls Tryz.prog 39 #[.pointer (some ⟨P, oP, none⟩), .pointer (some ⟨E, oE, none⟩)] w (GRes (applyOut xs e) (applyCode xs e) w) := by
  have hls : lens xs = some (lsOf xs) := by
    obtain ⟨ls, h⟩ := (gram_lens hg).2
    simp [lsOf, h]
  obtain ⟨ls, hlq⟩ : ∃ ls, lsOf xs = ls := ⟨_, rfl⟩
  rw [hlq] at hls
  have HG := Lib.hid hG
  have HR := Lib.hid hR
  have HL := Lib.hid hls
  have HOK := Lib.hid hg
  have HK := Lib.hid (kind_ok hk)
  have HEK := Lib.hid hk
  have hn : xs.length ≤ 1048576 := by have := gram_len400 hg; omega
  have sm := Lib.hid (okAll_smallL (okAll_lens (gram_lens hg).2.choose_spec))
  have hgl : gramLen xs = lastI ls := gramLen_of hls
  have HAO := Lib.hid (show applyOut xs e = if editFits e (lastI ls) then editG (editS xs ls (lastI ls) e) else [] by simp [applyOut, hg, hk, hgl, applyS, hlq])
  have HAC := Lib.hid (show applyCode xs e = if editFits e (lastI ls) then editC (editS xs ls (lastI ls) e) else 2 by simp [applyCode, hg, hk, hgl, applyS, hlq])
  obtain ⟨AG, cG, rfl, _⟩ := hG
  obtain ⟨AR, cR, rfl, _⟩ := hR
  have HP := Lib.hid hP
  have HE := Lib.hid hE
  have KR := Blk.new w #[.slice none 0 0] 31
  have bA := (Below.refl w.heap.size w).alloc (Nat.le_refl _) (.cells #[.slice none 0 0] 31)
  clear hls hlq hg hk hgl hP hE
  go_enter Tryz.func39, Tryz.ntmps39
  go_wp2_with fail
  refine (l02Length_any P oP _ xs ls _ HL.out (HP.out.up bA).c (HP.out.up bA).lt (HG.out.up bA) sm.out (by omega)).mono ?_
  rintro e1 w1 ⟨rfl, hb1⟩
  have HP1 := Lib.hid ((HP.out.up bA).up hb1)
  have HE1 := Lib.hid ((HE.out.up bA).up hb1)
  have HR1 := Lib.hid (KR.up hb1)
  have HB1 := Lib.hid (Below.tr bA hb1)
  clear HP HE KR bA hb1
  go_wp2_with fail
  refine (l07RangeO_any E oE _ e _ _ HE1.out HK.out.2.2.1).mono ?_
  rintro e2 w2 ⟨rfl, hb2⟩
  have HP2 := Lib.hid (HP1.out.up hb2)
  have HE2 := Lib.hid (HE1.out.up hb2)
  have HR2 := Lib.hid (HR1.out.up hb2)
  have HB2 := Lib.hid (Below.tr HB1.out hb2)
  clear HP1 HE1 HR1 HB1 hb2
  have rl := HR2.out.lt
  have rf := HR2.out.frozen 0
  have rc := HR2.out.cell (i := 0) (v := .slice none 0 0) rfl
  cases hf : editFits e (lastI ls) with
  | false =>
    have q1 : applyOut xs e = [] ∧ applyCode xs e = 2 := by rw [HAO.out, HAC.out, hf]; exact ⟨rfl, rfl⟩
    have HQ := Lib.hid q1
    clear q1 hf
    go_wp2_with fail
    refine bodyPost_ret (v := .tuple #[.agg #[.slice none 0 0], .int .i64 2]) (by simp [results, Tryz.results39, go_sem, rc]) rfl ⟨Below.setCell HB2.out (by show w.heap.size ≤ w.heap.size; omega) _, .slice none 0 0, by rw [HQ.out.1]; exact World.ownsRow_nil _ _ _ _, by rw [HQ.out.2]⟩
  | true =>
    have hao : applyOut xs e = editG (editS xs ls (lastI ls) e) ∧ applyCode xs e = editC (editS xs ls (lastI ls) e) := by rw [HAO.out, HAC.out, hf]; exact ⟨rfl, rfl⟩
    have HQA := Lib.hid hao
    have HF := Lib.hid (fits_nums HEK.out hf)
    have hs2 := HB2.out.size
    have KM := Blk.new w2 #[.pointer (some ⟨P, oP, none⟩), .slice none 0 0, .bool false] 119
    have bM := (Below.refl w2.heap.size w2).alloc (Nat.le_refl _) (.cells #[.pointer (some ⟨P, oP, none⟩), .slice none 0 0, .bool false] 119)
    have lp := HP2.out.lt
    have le := HE2.out.lt
    have hj : MkJ w P oP E oE w.heap.size w2.heap.size e (.slice AR e.part.length cR) (.slice AG xs.length cG) (some []) (w2.alloc (.cells #[.pointer (some ⟨P, oP, none⟩), .slice none 0 0, .bool false] 119)) :=
      ⟨Below.tr HB2.out bM, mk_start KM, HP2.out.up bM, HE2.out.up bM, HR2.out.up bM, by show P ≠ _; have : P < w2.heap.size := lp; omega, by omega, by omega, hs2, Nat.le_refl _⟩
    have HJ1 := Lib.hid hj
    clear hao hf hj KM bM rl rf rc lp HP2 HE2 HR2 HB2 HAO HAC
    go_upto_region 8 with fail
    generalize w2.alloc (.cells #[.pointer (some ⟨P, oP, none⟩), .slice none 0 0, .bool false] 119) = W1 at *
    obtain ⟨b, hbq⟩ : ∃ b, w2.heap.size = b := ⟨_, rfl⟩
    rw [hbq] at HJ1 ⊢
    clear hbq
    rcases HK.out.1 with hk | hk | hk | hk | hkk
    · have x0 := HJ1.out.hE.c0
      rw [hk] at x0
      have HKE := Lib.hid hk
      clear hk
      have aE1 := HJ1.out.hE.c1
      have aE := HJ1.out.hE.lt
      have aB := HJ1.out.hM.lt
      go_wp2_with fail
      refine (mkPart_any b P oP _ xs ls _ 0 (e.i) _ HJ1.out.hM HJ1.out.cP.c HJ1.out.cP.lt ((HG.out.below HJ1.out.bel).le HJ1.out.le) HOK.out HL.out (by first | (have := HF.out; have := HKE.out; omega) | (have := HF.out; have := HKE.out; have := HKI.out; omega))).mono ?_
      rintro e6 W2 ⟨rfl, hb1, ha1⟩
      have HJ2 := Lib.hid (HJ1.out.next hb1 ha1)
      clear aE1 aE aB hb1 ha1 HJ1
      have aE4 := HJ2.out.hE.c4
      have aE := HJ2.out.hE.lt
      have aB := HJ2.out.hM.lt
      go_wp2_with fail
      refine (mkAdd_any b P oP _ (some e.part) (.slice AR e.part.length cR) e.part 0 _ HJ2.out.hM (sl_ne (HR.out.below HJ2.out.bel) HJ2.out.le HJ2.out.hM.lt) (.inl ⟨rfl, rfl, HK.out.2.1⟩)).mono ?_
      rintro e7 W3 ⟨rfl, hb2, ha2⟩
      have HJ3 := Lib.hid (HJ2.out.next hb2 ha2)
      clear aE4 aE aB hb2 ha2 HJ2
      have aE1 := HJ3.out.hE.c1
      have aE := HJ3.out.hE.lt
      have aB := HJ3.out.hM.lt
      go_wp2_with fail
      refine (mkPart_any b P oP _ xs ls _ e.i (lastI ls) _ HJ3.out.hM HJ3.out.cP.c HJ3.out.cP.lt ((HG.out.below HJ3.out.bel).le HJ3.out.le) HOK.out HL.out (by first | (have := HF.out; have := HKE.out; omega) | (have := HF.out; have := HKE.out; have := HKI.out; omega))).mono ?_
      rintro e8 W4 ⟨rfl, hb3, ha3⟩
      have HJ4 := Lib.hid (HJ3.out.next hb3 ha3)
      clear aE1 aE aB hb3 ha3 HJ3
      have hQ : editS xs ls (lastI ls) e = addO (addO (addO (some []) (limO (partG xs ls 0 (e.i)))) (some e.part)) (limO (partG xs ls e.i (lastI ls))) := by unfold editS; rw [if_pos HKE.out]
      have HQ := Lib.hid hQ
      clear hQ
      obtain ⟨vO, out, hB9, hO9, hs9, hok9⟩ := HJ4.out.hM
      obtain ⟨AO, kO, rfl, _⟩ := own_nil hO9
      have HOut := Lib.hid hok9
      have HO9 := Lib.hid hO9
      have lb := hB9.lt
      have rl := HJ4.out.hR.lt
      have rf := HJ4.out.hR.frozen 0
      have rc := HJ4.out.hR.cell (i := 0) (v := .slice none 0 0) rfl
      have HBE := Lib.hid HJ4.out.bel
      have HRR := Lib.hid HJ4.out.hR
      have hle := HJ4.out.le
      clear hok9 hO9 HJ4
      rw [← HQ.out] at hB9 hs9
      cases hS : editS xs ls (lastI ls) e with
      | none =>
        have q1 : applyOut xs e = [] ∧ applyCode xs e = 3 := by rw [HQA.out.1, HQA.out.2, hS]; exact ⟨rfl, rfl⟩
        have HX := Lib.hid q1
        have a2 := hB9.cell (i := 2) (v := .bool true) (by rw [hS]; rfl)
        clear hS hs9 hB9 q1
        go_wp2_with fail
        refine bodyPost_ret (v := .tuple #[.agg #[.slice none 0 0], .int .i64 3]) (by simp [results, Tryz.results39, go_sem, rc]) rfl ⟨Below.setCell HBE.out (by show w.heap.size ≤ w.heap.size; omega) _, .slice none 0 0, by rw [HX.out.1]; exact World.ownsRow_nil _ _ _ _, by rw [HX.out.2]⟩
      | some o =>
        have e9 := hs9 o hS
        subst e9
        have q1 : applyOut xs e = trimG o ∧ applyCode xs e = 0 := by rw [HQA.out.1, HQA.out.2, hS]; exact ⟨rfl, rfl⟩
        have HX := Lib.hid q1
        have a1 := hB9.cell (i := 1) (v := .slice AO o.length kO) rfl
        have a2 := hB9.cell (i := 2) (v := .bool false) (by rw [hS]; rfl)
        clear hS hs9 hB9 q1
        go_wp2_with fail
        refine (l02Trim_any b 1 _ o _ a1 lb HO9.out.sl (by have := gram_len400 HOut.out; omega) (okAll_lens (gram_lens HOut.out).2.choose_spec)).mono ?_
        rintro e10 w10 ⟨hb10, v10, own10, rfl⟩
        have HR10 := Lib.hid (HRR.out.up hb10)
        have HB10 := Lib.hid (Below.tr HBE.out hb10)
        have HO10 := Lib.hid own10
        obtain ⟨A10, k10, rfl, _⟩ := own_nil own10
        have b0 := HR10.out.cell (i := 0) (v := .slice none 0 0) rfl
        have b1 := HR10.out.frozen 0
        have b2 := HR10.out.lt
        have hzz := HBE.out.size
        clear hb10 own10 a1 a2 rl rf rc
        go_wp2_with fail
        refine bodyPost_ret (v := .tuple #[.agg #[.slice A10 (trimG o).length k10], .int .i64 0]) (by simp [results, Tryz.results39, go_sem, b0]) rfl ⟨HB10.out.setCell (by show w.heap.size ≤ w.heap.size; omega) _, .slice A10 (trimG o).length k10, ?_, by rw [HX.out.2]⟩
        rw [HX.out.1]
        exact ownsRow_more (ownsRow_setCell_below HO10.out (a := ⟨w.heap.size, 0, none⟩) (by show w.heap.size < _; omega) _) (by omega)
    · have x0 := HJ1.out.hE.c0
      rw [hk] at x0
      have HKE := Lib.hid hk
      clear hk
      have aE1 := HJ1.out.hE.c1
      have aE := HJ1.out.hE.lt
      have aB := HJ1.out.hM.lt
      go_wp2_with fail
      refine (mkPart_any b P oP _ xs ls _ 0 (e.i) _ HJ1.out.hM HJ1.out.cP.c HJ1.out.cP.lt ((HG.out.below HJ1.out.bel).le HJ1.out.le) HOK.out HL.out (by first | (have := HF.out; have := HKE.out; omega) | (have := HF.out; have := HKE.out; have := HKI.out; omega))).mono ?_
      rintro e6 W2 ⟨rfl, hb1, ha1⟩
      have HJ2 := Lib.hid (HJ1.out.next hb1 ha1)
      clear aE1 aE aB hb1 ha1 HJ1
      have aE2 := HJ2.out.hE.c2
      have aE := HJ2.out.hE.lt
      have aB := HJ2.out.hM.lt
      go_wp2_with fail
      refine (mkPart_any b P oP _ xs ls _ e.j (lastI ls) _ HJ2.out.hM HJ2.out.cP.c HJ2.out.cP.lt ((HG.out.below HJ2.out.bel).le HJ2.out.le) HOK.out HL.out (by first | (have := HF.out; have := HKE.out; omega) | (have := HF.out; have := HKE.out; have := HKI.out; omega))).mono ?_
      rintro e7 W3 ⟨rfl, hb2, ha2⟩
      have HJ3 := Lib.hid (HJ2.out.next hb2 ha2)
      clear aE2 aE aB hb2 ha2 HJ2
      have hQ : editS xs ls (lastI ls) e = addO (addO (some []) (limO (partG xs ls 0 (e.i)))) (limO (partG xs ls e.j (lastI ls))) := by unfold editS; rw [if_neg (by rw [HKE.out]; decide), if_pos HKE.out]
      have HQ := Lib.hid hQ
      clear hQ
      obtain ⟨vO, out, hB9, hO9, hs9, hok9⟩ := HJ3.out.hM
      obtain ⟨AO, kO, rfl, _⟩ := own_nil hO9
      have HOut := Lib.hid hok9
      have HO9 := Lib.hid hO9
      have lb := hB9.lt
      have rl := HJ3.out.hR.lt
      have rf := HJ3.out.hR.frozen 0
      have rc := HJ3.out.hR.cell (i := 0) (v := .slice none 0 0) rfl
      have HBE := Lib.hid HJ3.out.bel
      have HRR := Lib.hid HJ3.out.hR
      have hle := HJ3.out.le
      clear hok9 hO9 HJ3
      rw [← HQ.out] at hB9 hs9
      cases hS : editS xs ls (lastI ls) e with
      | none =>
        have q1 : applyOut xs e = [] ∧ applyCode xs e = 3 := by rw [HQA.out.1, HQA.out.2, hS]; exact ⟨rfl, rfl⟩
        have HX := Lib.hid q1
        have a2 := hB9.cell (i := 2) (v := .bool true) (by rw [hS]; rfl)
        clear hS hs9 hB9 q1
        go_wp2_with fail
        refine bodyPost_ret (v := .tuple #[.agg #[.slice none 0 0], .int .i64 3]) (by simp [results, Tryz.results39, go_sem, rc]) rfl ⟨Below.setCell HBE.out (by show w.heap.size ≤ w.heap.size; omega) _, .slice none 0 0, by rw [HX.out.1]; exact World.ownsRow_nil _ _ _ _, by rw [HX.out.2]⟩
      | some o =>
        have e9 := hs9 o hS
        subst e9
        have q1 : applyOut xs e = trimG o ∧ applyCode xs e = 0 := by rw [HQA.out.1, HQA.out.2, hS]; exact ⟨rfl, rfl⟩
        have HX := Lib.hid q1
        have a1 := hB9.cell (i := 1) (v := .slice AO o.length kO) rfl
        have a2 := hB9.cell (i := 2) (v := .bool false) (by rw [hS]; rfl)
        clear hS hs9 hB9 q1
        go_wp2_with fail
        refine (l02Trim_any b 1 _ o _ a1 lb HO9.out.sl (by have := gram_len400 HOut.out; omega) (okAll_lens (gram_lens HOut.out).2.choose_spec)).mono ?_
        rintro e10 w10 ⟨hb10, v10, own10, rfl⟩
        have HR10 := Lib.hid (HRR.out.up hb10)
        have HB10 := Lib.hid (Below.tr HBE.out hb10)
        have HO10 := Lib.hid own10
        obtain ⟨A10, k10, rfl, _⟩ := own_nil own10
        have b0 := HR10.out.cell (i := 0) (v := .slice none 0 0) rfl
        have b1 := HR10.out.frozen 0
        have b2 := HR10.out.lt
        have hzz := HBE.out.size
        clear hb10 own10 a1 a2 rl rf rc
        go_wp2_with fail
        refine bodyPost_ret (v := .tuple #[.agg #[.slice A10 (trimG o).length k10], .int .i64 0]) (by simp [results, Tryz.results39, go_sem, b0]) rfl ⟨HB10.out.setCell (by show w.heap.size ≤ w.heap.size; omega) _, .slice A10 (trimG o).length k10, ?_, by rw [HX.out.2]⟩
        rw [HX.out.1]
        exact ownsRow_more (ownsRow_setCell_below HO10.out (a := ⟨w.heap.size, 0, none⟩) (by show w.heap.size < _; omega) _) (by omega)
    · have x0 := HJ1.out.hE.c0
      rw [hk] at x0
      have HKE := Lib.hid hk
      clear hk
      have aE3 := HJ1.out.hE.c3
      have aE := HJ1.out.hE.lt
      have aB := HJ1.out.hM.lt
      go_wp2_with fail
      refine (mkPart_any b P oP _ xs ls _ 0 (e.k) _ HJ1.out.hM HJ1.out.cP.c HJ1.out.cP.lt ((HG.out.below HJ1.out.bel).le HJ1.out.le) HOK.out HL.out (by first | (have := HF.out; have := HKE.out; omega) | (have := HF.out; have := HKE.out; have := HKI.out; omega))).mono ?_
      rintro e6 W2 ⟨rfl, hb1, ha1⟩
      have HJ2 := Lib.hid (HJ1.out.next hb1 ha1)
      clear aE3 aE aB hb1 ha1 HJ1
      have aE1 := HJ2.out.hE.c1
      have aE2 := HJ2.out.hE.c2
      have aE := HJ2.out.hE.lt
      have aB := HJ2.out.hM.lt
      go_wp2_with fail
      go_still_tail 9, (by kernel_rfl)
      change wpList _ _ _ _ _ W2.drew
      replace HJ2 := Lib.hid HJ2.out.drew
      clear aE1 aE2 aE aB
      generalize W2.drew = W2 at *
      have aE1 := HJ2.out.hE.c1
      have aE2 := HJ2.out.hE.c2
      have aE := HJ2.out.hE.lt
      have aB := HJ2.out.hM.lt
      go_wp2_with fail
      refine (mkPart_any b P oP _ xs ls _ e.i (e.j) _ HJ2.out.hM HJ2.out.cP.c HJ2.out.cP.lt ((HG.out.below HJ2.out.bel).le HJ2.out.le) HOK.out HL.out (by first | (have := HF.out; have := HKE.out; omega) | (have := HF.out; have := HKE.out; have := HKI.out; omega))).mono ?_
      rintro e7 W3 ⟨rfl, hb2, ha2⟩
      have HJ3 := Lib.hid (HJ2.out.next hb2 ha2)
      clear aE1 aE2 aE aB hb2 ha2 HJ2
      have aE3 := HJ3.out.hE.c3
      have aE := HJ3.out.hE.lt
      have aB := HJ3.out.hM.lt
      go_wp2_with fail
      refine (mkPart_any b P oP _ xs ls _ e.k (lastI ls) _ HJ3.out.hM HJ3.out.cP.c HJ3.out.cP.lt ((HG.out.below HJ3.out.bel).le HJ3.out.le) HOK.out HL.out (by first | (have := HF.out; have := HKE.out; omega) | (have := HF.out; have := HKE.out; have := HKI.out; omega))).mono ?_
      rintro e8 W4 ⟨rfl, hb3, ha3⟩
      have HJ4 := Lib.hid (HJ3.out.next hb3 ha3)
      clear aE3 aE aB hb3 ha3 HJ3
      have hQ : editS xs ls (lastI ls) e = addO (addO (addO (some []) (limO (partG xs ls 0 (e.k)))) (limO (partG xs ls e.i (e.j)))) (limO (partG xs ls e.k (lastI ls))) := by unfold editS; rw [if_neg (by rw [HKE.out]; decide), if_neg (by rw [HKE.out]; decide), if_pos HKE.out]
      have HQ := Lib.hid hQ
      clear hQ
      obtain ⟨vO, out, hB9, hO9, hs9, hok9⟩ := HJ4.out.hM
      obtain ⟨AO, kO, rfl, _⟩ := own_nil hO9
      have HOut := Lib.hid hok9
      have HO9 := Lib.hid hO9
      have lb := hB9.lt
      have rl := HJ4.out.hR.lt
      have rf := HJ4.out.hR.frozen 0
      have rc := HJ4.out.hR.cell (i := 0) (v := .slice none 0 0) rfl
      have HBE := Lib.hid HJ4.out.bel
      have HRR := Lib.hid HJ4.out.hR
      have hle := HJ4.out.le
      clear hok9 hO9 HJ4
      rw [← HQ.out] at hB9 hs9
      cases hS : editS xs ls (lastI ls) e with
      | none =>
        have q1 : applyOut xs e = [] ∧ applyCode xs e = 3 := by rw [HQA.out.1, HQA.out.2, hS]; exact ⟨rfl, rfl⟩
        have HX := Lib.hid q1
        have a2 := hB9.cell (i := 2) (v := .bool true) (by rw [hS]; rfl)
        clear hS hs9 hB9 q1
        go_wp2_with fail
        refine bodyPost_ret (v := .tuple #[.agg #[.slice none 0 0], .int .i64 3]) (by simp [results, Tryz.results39, go_sem, rc]) rfl ⟨Below.setCell HBE.out (by show w.heap.size ≤ w.heap.size; omega) _, .slice none 0 0, by rw [HX.out.1]; exact World.ownsRow_nil _ _ _ _, by rw [HX.out.2]⟩
      | some o =>
        have e9 := hs9 o hS
        subst e9
        have q1 : applyOut xs e = trimG o ∧ applyCode xs e = 0 := by rw [HQA.out.1, HQA.out.2, hS]; exact ⟨rfl, rfl⟩
        have HX := Lib.hid q1
        have a1 := hB9.cell (i := 1) (v := .slice AO o.length kO) rfl
        have a2 := hB9.cell (i := 2) (v := .bool false) (by rw [hS]; rfl)
        clear hS hs9 hB9 q1
        go_wp2_with fail
        refine (l02Trim_any b 1 _ o _ a1 lb HO9.out.sl (by have := gram_len400 HOut.out; omega) (okAll_lens (gram_lens HOut.out).2.choose_spec)).mono ?_
        rintro e10 w10 ⟨hb10, v10, own10, rfl⟩
        have HR10 := Lib.hid (HRR.out.up hb10)
        have HB10 := Lib.hid (Below.tr HBE.out hb10)
        have HO10 := Lib.hid own10
        obtain ⟨A10, k10, rfl, _⟩ := own_nil own10
        have b0 := HR10.out.cell (i := 0) (v := .slice none 0 0) rfl
        have b1 := HR10.out.frozen 0
        have b2 := HR10.out.lt
        have hzz := HBE.out.size
        clear hb10 own10 a1 a2 rl rf rc
        go_wp2_with fail
        refine bodyPost_ret (v := .tuple #[.agg #[.slice A10 (trimG o).length k10], .int .i64 0]) (by simp [results, Tryz.results39, go_sem, b0]) rfl ⟨HB10.out.setCell (by show w.heap.size ≤ w.heap.size; omega) _, .slice A10 (trimG o).length k10, ?_, by rw [HX.out.2]⟩
        rw [HX.out.1]
        exact ownsRow_more (ownsRow_setCell_below HO10.out (a := ⟨w.heap.size, 0, none⟩) (by show w.heap.size < _; omega) _) (by omega)
    · have x0 := HJ1.out.hE.c0
      rw [hk] at x0
      have HKE := Lib.hid hk
      clear hk
      by_cases hki : e.k ≤ e.i
      · have HKI := Lib.hid hki
        have y1 := HJ1.out.hE.c1
        have y3 := HJ1.out.hE.c3
        have yl := HJ1.out.hE.lt
        go_wp2_with fail
        go_quiet (fail)
        replace HJ1 := Lib.hid (HJ1.out.drewN nq)
        clear x0 y1 y3 yl
        generalize W1.drewN nq = W1 at *
        have x0 := HJ1.out.hE.c0
        rw [HKE.out] at x0
        have yl := HJ1.out.hE.lt
        clear hki
        have aE3 := HJ1.out.hE.c3
        have aE := HJ1.out.hE.lt
        have aB := HJ1.out.hM.lt
        go_wp2_with fail
        refine (mkPart_any b P oP _ xs ls _ 0 (e.k) _ HJ1.out.hM HJ1.out.cP.c HJ1.out.cP.lt ((HG.out.below HJ1.out.bel).le HJ1.out.le) HOK.out HL.out (by first | (have := HF.out; have := HKE.out; omega) | (have := HF.out; have := HKE.out; have := HKI.out; omega))).mono ?_
        rintro e6 W2 ⟨rfl, hb1, ha1⟩
        have HJ2 := Lib.hid (HJ1.out.next hb1 ha1)
        clear aE3 aE aB hb1 ha1 HJ1
        have aE1 := HJ2.out.hE.c1
        have aE2 := HJ2.out.hE.c2
        have aE := HJ2.out.hE.lt
        have aB := HJ2.out.hM.lt
        go_wp2_with fail
        go_still_tail 9, (by kernel_rfl)
        change wpList _ _ _ _ _ W2.drew
        replace HJ2 := Lib.hid HJ2.out.drew
        clear aE1 aE2 aE aB
        generalize W2.drew = W2 at *
        have aE1 := HJ2.out.hE.c1
        have aE2 := HJ2.out.hE.c2
        have aE := HJ2.out.hE.lt
        have aB := HJ2.out.hM.lt
        go_wp2_with fail
        refine (mkPart_any b P oP _ xs ls _ e.i (e.j) _ HJ2.out.hM HJ2.out.cP.c HJ2.out.cP.lt ((HG.out.below HJ2.out.bel).le HJ2.out.le) HOK.out HL.out (by first | (have := HF.out; have := HKE.out; omega) | (have := HF.out; have := HKE.out; have := HKI.out; omega))).mono ?_
        rintro e7 W3 ⟨rfl, hb2, ha2⟩
        have HJ3 := Lib.hid (HJ2.out.next hb2 ha2)
        clear aE1 aE2 aE aB hb2 ha2 HJ2
        have aE1 := HJ3.out.hE.c1
        have aE3 := HJ3.out.hE.c3
        have aE := HJ3.out.hE.lt
        have aB := HJ3.out.hM.lt
        go_wp2_with fail
        go_still_tail 9, (by kernel_rfl)
        change wpList _ _ _ _ _ W3.drew
        replace HJ3 := Lib.hid HJ3.out.drew
        clear aE1 aE3 aE aB
        generalize W3.drew = W3 at *
        have aE1 := HJ3.out.hE.c1
        have aE3 := HJ3.out.hE.c3
        have aE := HJ3.out.hE.lt
        have aB := HJ3.out.hM.lt
        go_wp2_with fail
        refine (mkPart_any b P oP _ xs ls _ e.k (e.i) _ HJ3.out.hM HJ3.out.cP.c HJ3.out.cP.lt ((HG.out.below HJ3.out.bel).le HJ3.out.le) HOK.out HL.out (by first | (have := HF.out; have := HKE.out; omega) | (have := HF.out; have := HKE.out; have := HKI.out; omega))).mono ?_
        rintro e8 W4 ⟨rfl, hb3, ha3⟩
        have HJ4 := Lib.hid (HJ3.out.next hb3 ha3)
        clear aE1 aE3 aE aB hb3 ha3 HJ3
        have aE2 := HJ4.out.hE.c2
        have aE := HJ4.out.hE.lt
        have aB := HJ4.out.hM.lt
        go_wp2_with fail
        refine (mkPart_any b P oP _ xs ls _ e.j (lastI ls) _ HJ4.out.hM HJ4.out.cP.c HJ4.out.cP.lt ((HG.out.below HJ4.out.bel).le HJ4.out.le) HOK.out HL.out (by first | (have := HF.out; have := HKE.out; omega) | (have := HF.out; have := HKE.out; have := HKI.out; omega))).mono ?_
        rintro e9 W5 ⟨rfl, hb4, ha4⟩
        have HJ5 := Lib.hid (HJ4.out.next hb4 ha4)
        clear aE2 aE aB hb4 ha4 HJ4
        have hQ : editS xs ls (lastI ls) e = addO (addO (addO (addO (some []) (limO (partG xs ls 0 (e.k)))) (limO (partG xs ls e.i (e.j)))) (limO (partG xs ls e.k (e.i)))) (limO (partG xs ls e.j (lastI ls))) := by unfold editS; rw [if_neg (by rw [HKE.out]; decide), if_neg (by rw [HKE.out]; decide), if_neg (by rw [HKE.out]; decide), if_pos HKE.out, if_pos HKI.out]
        have HQ := Lib.hid hQ
        clear hQ
        obtain ⟨vO, out, hB9, hO9, hs9, hok9⟩ := HJ5.out.hM
        obtain ⟨AO, kO, rfl, _⟩ := own_nil hO9
        have HOut := Lib.hid hok9
        have HO9 := Lib.hid hO9
        have lb := hB9.lt
        have rl := HJ5.out.hR.lt
        have rf := HJ5.out.hR.frozen 0
        have rc := HJ5.out.hR.cell (i := 0) (v := .slice none 0 0) rfl
        have HBE := Lib.hid HJ5.out.bel
        have HRR := Lib.hid HJ5.out.hR
        have hle := HJ5.out.le
        clear hok9 hO9 HJ5
        rw [← HQ.out] at hB9 hs9
        cases hS : editS xs ls (lastI ls) e with
        | none =>
          have q1 : applyOut xs e = [] ∧ applyCode xs e = 3 := by rw [HQA.out.1, HQA.out.2, hS]; exact ⟨rfl, rfl⟩
          have HX := Lib.hid q1
          have a2 := hB9.cell (i := 2) (v := .bool true) (by rw [hS]; rfl)
          clear hS hs9 hB9 q1
          go_wp2_with fail
          refine bodyPost_ret (v := .tuple #[.agg #[.slice none 0 0], .int .i64 3]) (by simp [results, Tryz.results39, go_sem, rc]) rfl ⟨Below.setCell HBE.out (by show w.heap.size ≤ w.heap.size; omega) _, .slice none 0 0, by rw [HX.out.1]; exact World.ownsRow_nil _ _ _ _, by rw [HX.out.2]⟩
        | some o =>
          have e9 := hs9 o hS
          subst e9
          have q1 : applyOut xs e = trimG o ∧ applyCode xs e = 0 := by rw [HQA.out.1, HQA.out.2, hS]; exact ⟨rfl, rfl⟩
          have HX := Lib.hid q1
          have a1 := hB9.cell (i := 1) (v := .slice AO o.length kO) rfl
          have a2 := hB9.cell (i := 2) (v := .bool false) (by rw [hS]; rfl)
          clear hS hs9 hB9 q1
          go_wp2_with fail
          refine (l02Trim_any b 1 _ o _ a1 lb HO9.out.sl (by have := gram_len400 HOut.out; omega) (okAll_lens (gram_lens HOut.out).2.choose_spec)).mono ?_
          rintro e10 w10 ⟨hb10, v10, own10, rfl⟩
          have HR10 := Lib.hid (HRR.out.up hb10)
          have HB10 := Lib.hid (Below.tr HBE.out hb10)
          have HO10 := Lib.hid own10
          obtain ⟨A10, k10, rfl, _⟩ := own_nil own10
          have b0 := HR10.out.cell (i := 0) (v := .slice none 0 0) rfl
          have b1 := HR10.out.frozen 0
          have b2 := HR10.out.lt
          have hzz := HBE.out.size
          clear hb10 own10 a1 a2 rl rf rc
          go_wp2_with fail
          refine bodyPost_ret (v := .tuple #[.agg #[.slice A10 (trimG o).length k10], .int .i64 0]) (by simp [results, Tryz.results39, go_sem, b0]) rfl ⟨HB10.out.setCell (by show w.heap.size ≤ w.heap.size; omega) _, .slice A10 (trimG o).length k10, ?_, by rw [HX.out.2]⟩
          rw [HX.out.1]
          exact ownsRow_more (ownsRow_setCell_below HO10.out (a := ⟨w.heap.size, 0, none⟩) (by show w.heap.size < _; omega) _) (by omega)
      · have HKI := Lib.hid hki
        have hkd : decide (e.k ≤ e.i) = false := by simp; omega
        have y1 := HJ1.out.hE.c1
        have y3 := HJ1.out.hE.c3
        have yl := HJ1.out.hE.lt
        go_wp2_with fail
        go_quiet (fail)
        replace HJ1 := Lib.hid (HJ1.out.drewN nq)
        clear x0 y1 y3 yl
        generalize W1.drewN nq = W1 at *
        have x0 := HJ1.out.hE.c0
        rw [HKE.out] at x0
        have yl := HJ1.out.hE.lt
        clear hki hkd
        have aE1 := HJ1.out.hE.c1
        have aE := HJ1.out.hE.lt
        have aB := HJ1.out.hM.lt
        go_wp2_with fail
        refine (mkPart_any b P oP _ xs ls _ 0 (e.i) _ HJ1.out.hM HJ1.out.cP.c HJ1.out.cP.lt ((HG.out.below HJ1.out.bel).le HJ1.out.le) HOK.out HL.out (by first | (have := HF.out; have := HKE.out; omega) | (have := HF.out; have := HKE.out; have := HKI.out; omega))).mono ?_
        rintro e6 W2 ⟨rfl, hb1, ha1⟩
        have HJ2 := Lib.hid (HJ1.out.next hb1 ha1)
        clear aE1 aE aB hb1 ha1 HJ1
        have aE2 := HJ2.out.hE.c2
        have aE3 := HJ2.out.hE.c3
        have aE := HJ2.out.hE.lt
        have aB := HJ2.out.hM.lt
        go_wp2_with fail
        go_still_tail 9, (by kernel_rfl)
        change wpList _ _ _ _ _ W2.drew
        replace HJ2 := Lib.hid HJ2.out.drew
        clear aE2 aE3 aE aB
        generalize W2.drew = W2 at *
        have aE2 := HJ2.out.hE.c2
        have aE3 := HJ2.out.hE.c3
        have aE := HJ2.out.hE.lt
        have aB := HJ2.out.hM.lt
        go_wp2_with fail
        refine (mkPart_any b P oP _ xs ls _ e.j (e.k) _ HJ2.out.hM HJ2.out.cP.c HJ2.out.cP.lt ((HG.out.below HJ2.out.bel).le HJ2.out.le) HOK.out HL.out (by first | (have := HF.out; have := HKE.out; omega) | (have := HF.out; have := HKE.out; have := HKI.out; omega))).mono ?_
        rintro e7 W3 ⟨rfl, hb2, ha2⟩
        have HJ3 := Lib.hid (HJ2.out.next hb2 ha2)
        clear aE2 aE3 aE aB hb2 ha2 HJ2
        have aE1 := HJ3.out.hE.c1
        have aE2 := HJ3.out.hE.c2
        have aE := HJ3.out.hE.lt
        have aB := HJ3.out.hM.lt
        go_wp2_with fail
        go_still_tail 9, (by kernel_rfl)
        change wpList _ _ _ _ _ W3.drew
        replace HJ3 := Lib.hid HJ3.out.drew
        clear aE1 aE2 aE aB
        generalize W3.drew = W3 at *
        have aE1 := HJ3.out.hE.c1
        have aE2 := HJ3.out.hE.c2
        have aE := HJ3.out.hE.lt
        have aB := HJ3.out.hM.lt
        go_wp2_with fail
        refine (mkPart_any b P oP _ xs ls _ e.i (e.j) _ HJ3.out.hM HJ3.out.cP.c HJ3.out.cP.lt ((HG.out.below HJ3.out.bel).le HJ3.out.le) HOK.out HL.out (by first | (have := HF.out; have := HKE.out; omega) | (have := HF.out; have := HKE.out; have := HKI.out; omega))).mono ?_
        rintro e8 W4 ⟨rfl, hb3, ha3⟩
        have HJ4 := Lib.hid (HJ3.out.next hb3 ha3)
        clear aE1 aE2 aE aB hb3 ha3 HJ3
        have aE3 := HJ4.out.hE.c3
        have aE := HJ4.out.hE.lt
        have aB := HJ4.out.hM.lt
        go_wp2_with fail
        refine (mkPart_any b P oP _ xs ls _ e.k (lastI ls) _ HJ4.out.hM HJ4.out.cP.c HJ4.out.cP.lt ((HG.out.below HJ4.out.bel).le HJ4.out.le) HOK.out HL.out (by first | (have := HF.out; have := HKE.out; omega) | (have := HF.out; have := HKE.out; have := HKI.out; omega))).mono ?_
        rintro e9 W5 ⟨rfl, hb4, ha4⟩
        have HJ5 := Lib.hid (HJ4.out.next hb4 ha4)
        clear aE3 aE aB hb4 ha4 HJ4
        have hQ : editS xs ls (lastI ls) e = addO (addO (addO (addO (some []) (limO (partG xs ls 0 (e.i)))) (limO (partG xs ls e.j (e.k)))) (limO (partG xs ls e.i (e.j)))) (limO (partG xs ls e.k (lastI ls))) := by unfold editS; rw [if_neg (by rw [HKE.out]; decide), if_neg (by rw [HKE.out]; decide), if_neg (by rw [HKE.out]; decide), if_pos HKE.out, if_neg (by have := HKI.out; omega)]
        have HQ := Lib.hid hQ
        clear hQ
        obtain ⟨vO, out, hB9, hO9, hs9, hok9⟩ := HJ5.out.hM
        obtain ⟨AO, kO, rfl, _⟩ := own_nil hO9
        have HOut := Lib.hid hok9
        have HO9 := Lib.hid hO9
        have lb := hB9.lt
        have rl := HJ5.out.hR.lt
        have rf := HJ5.out.hR.frozen 0
        have rc := HJ5.out.hR.cell (i := 0) (v := .slice none 0 0) rfl
        have HBE := Lib.hid HJ5.out.bel
        have HRR := Lib.hid HJ5.out.hR
        have hle := HJ5.out.le
        clear hok9 hO9 HJ5
        rw [← HQ.out] at hB9 hs9
        cases hS : editS xs ls (lastI ls) e with
        | none =>
          have q1 : applyOut xs e = [] ∧ applyCode xs e = 3 := by rw [HQA.out.1, HQA.out.2, hS]; exact ⟨rfl, rfl⟩
          have HX := Lib.hid q1
          have a2 := hB9.cell (i := 2) (v := .bool true) (by rw [hS]; rfl)
          clear hS hs9 hB9 q1
          go_wp2_with fail
          refine bodyPost_ret (v := .tuple #[.agg #[.slice none 0 0], .int .i64 3]) (by simp [results, Tryz.results39, go_sem, rc]) rfl ⟨Below.setCell HBE.out (by show w.heap.size ≤ w.heap.size; omega) _, .slice none 0 0, by rw [HX.out.1]; exact World.ownsRow_nil _ _ _ _, by rw [HX.out.2]⟩
        | some o =>
          have e9 := hs9 o hS
          subst e9
          have q1 : applyOut xs e = trimG o ∧ applyCode xs e = 0 := by rw [HQA.out.1, HQA.out.2, hS]; exact ⟨rfl, rfl⟩
          have HX := Lib.hid q1
          have a1 := hB9.cell (i := 1) (v := .slice AO o.length kO) rfl
          have a2 := hB9.cell (i := 2) (v := .bool false) (by rw [hS]; rfl)
          clear hS hs9 hB9 q1
          go_wp2_with fail
          refine (l02Trim_any b 1 _ o _ a1 lb HO9.out.sl (by have := gram_len400 HOut.out; omega) (okAll_lens (gram_lens HOut.out).2.choose_spec)).mono ?_
          rintro e10 w10 ⟨hb10, v10, own10, rfl⟩
          have HR10 := Lib.hid (HRR.out.up hb10)
          have HB10 := Lib.hid (Below.tr HBE.out hb10)
          have HO10 := Lib.hid own10
          obtain ⟨A10, k10, rfl, _⟩ := own_nil own10
          have b0 := HR10.out.cell (i := 0) (v := .slice none 0 0) rfl
          have b1 := HR10.out.frozen 0
          have b2 := HR10.out.lt
          have hzz := HBE.out.size
          clear hb10 own10 a1 a2 rl rf rc
          go_wp2_with fail
          refine bodyPost_ret (v := .tuple #[.agg #[.slice A10 (trimG o).length k10], .int .i64 0]) (by simp [results, Tryz.results39, go_sem, b0]) rfl ⟨HB10.out.setCell (by show w.heap.size ≤ w.heap.size; omega) _, .slice A10 (trimG o).length k10, ?_, by rw [HX.out.2]⟩
          rw [HX.out.1]
          exact ownsRow_more (ownsRow_setCell_below HO10.out (a := ⟨w.heap.size, 0, none⟩) (by show w.heap.size < _; omega) _) (by omega)
    · have HCK := Lib.hid hkk
      have hkc : ¬ e.kind = 1 ∧ ¬ e.kind = 2 ∧ ¬ e.kind = 3 ∧ ¬ e.kind = 4 ∧ (e.kind = 5 ∨ e.kind = 6 ∨ e.kind = 7) := by unfold chgOK at hkk; omega
      have HKC := Lib.hid hkc
      obtain ⟨_, _, _, _, hk⟩ := hkc
      clear hkk
      rcases hk with hk | hk | hk
      · have x0 := HJ1.out.hE.c0
        rw [hk] at x0
        have HKE := Lib.hid hk
        clear hk
        have y1 := HJ1.out.hE.c1
        have y3 := HJ1.out.hE.c3
        have yl := HJ1.out.hE.lt
        go_wp2_with fail
        go_quiet (fail)
        replace HJ1 := Lib.hid (HJ1.out.drewN nq)
        clear x0 y1 y3 yl
        generalize W1.drewN nq = W1 at *
        have x0 := HJ1.out.hE.c0
        rw [HKE.out] at x0
        have yl := HJ1.out.hE.lt
        have aE1 := HJ1.out.hE.c1
        have aE := HJ1.out.hE.lt
        have aB := HJ1.out.hM.lt
        go_wp2_with fail
        refine (mkPart_any b P oP _ xs ls _ 0 (e.i) _ HJ1.out.hM HJ1.out.cP.c HJ1.out.cP.lt ((HG.out.below HJ1.out.bel).le HJ1.out.le) HOK.out HL.out (by first | (have := HF.out; have := HKE.out; omega) | (have := HF.out; have := HKE.out; have := HKI.out; omega))).mono ?_
        rintro e6 W2 ⟨rfl, hb1, ha1⟩
        have HJ2 := Lib.hid (HJ1.out.next hb1 ha1)
        clear aE1 aE aB hb1 ha1 HJ1
        have aE := HJ2.out.hE.lt
        have aB := HJ2.out.hM.lt
        go_wp2_with fail
        refine (mkChanged_any b P oP E oE e _ _ xs ls _ _ HJ2.out.hM HJ2.out.cP HJ2.out.hE HJ2.out.neE ((HG.out.below HJ2.out.bel).le HJ2.out.le) HOK.out HL.out (by first | (have := HF.out; have := HKE.out; omega) | (have := HF.out; have := HKE.out; have := HKI.out; omega)) HCK.out).mono ?_
        rintro e7 W3 ⟨rfl, hb2, ha2⟩
        have HJ3 := Lib.hid (HJ2.out.next hb2 ha2)
        clear aE aB hb2 ha2 HJ2
        have aE2 := HJ3.out.hE.c2
        have aE := HJ3.out.hE.lt
        have aB := HJ3.out.hM.lt
        go_wp2_with fail
        refine (mkPart_any b P oP _ xs ls _ e.j (lastI ls) _ HJ3.out.hM HJ3.out.cP.c HJ3.out.cP.lt ((HG.out.below HJ3.out.bel).le HJ3.out.le) HOK.out HL.out (by first | (have := HF.out; have := HKE.out; omega) | (have := HF.out; have := HKE.out; have := HKI.out; omega))).mono ?_
        rintro e8 W4 ⟨rfl, hb3, ha3⟩
        have HJ4 := Lib.hid (HJ3.out.next hb3 ha3)
        clear aE2 aE aB hb3 ha3 HJ3
        have hQ : editS xs ls (lastI ls) e = addO (addO (addO (some []) (limO (partG xs ls 0 (e.i)))) ((limO (partG xs ls e.i e.j)).bind (chgO e))) (limO (partG xs ls e.j (lastI ls))) := by unfold editS; rw [if_neg HKC.out.1, if_neg HKC.out.2.1, if_neg HKC.out.2.2.1, if_neg HKC.out.2.2.2.1]
        have HQ := Lib.hid hQ
        clear hQ
        obtain ⟨vO, out, hB9, hO9, hs9, hok9⟩ := HJ4.out.hM
        obtain ⟨AO, kO, rfl, _⟩ := own_nil hO9
        have HOut := Lib.hid hok9
        have HO9 := Lib.hid hO9
        have lb := hB9.lt
        have rl := HJ4.out.hR.lt
        have rf := HJ4.out.hR.frozen 0
        have rc := HJ4.out.hR.cell (i := 0) (v := .slice none 0 0) rfl
        have HBE := Lib.hid HJ4.out.bel
        have HRR := Lib.hid HJ4.out.hR
        have hle := HJ4.out.le
        clear hok9 hO9 HJ4
        rw [← HQ.out] at hB9 hs9
        cases hS : editS xs ls (lastI ls) e with
        | none =>
          have q1 : applyOut xs e = [] ∧ applyCode xs e = 3 := by rw [HQA.out.1, HQA.out.2, hS]; exact ⟨rfl, rfl⟩
          have HX := Lib.hid q1
          have a2 := hB9.cell (i := 2) (v := .bool true) (by rw [hS]; rfl)
          clear hS hs9 hB9 q1
          go_wp2_with fail
          refine bodyPost_ret (v := .tuple #[.agg #[.slice none 0 0], .int .i64 3]) (by simp [results, Tryz.results39, go_sem, rc]) rfl ⟨Below.setCell HBE.out (by show w.heap.size ≤ w.heap.size; omega) _, .slice none 0 0, by rw [HX.out.1]; exact World.ownsRow_nil _ _ _ _, by rw [HX.out.2]⟩
        | some o =>
          have e9 := hs9 o hS
          subst e9
          have q1 : applyOut xs e = trimG o ∧ applyCode xs e = 0 := by rw [HQA.out.1, HQA.out.2, hS]; exact ⟨rfl, rfl⟩
          have HX := Lib.hid q1
          have a1 := hB9.cell (i := 1) (v := .slice AO o.length kO) rfl
          have a2 := hB9.cell (i := 2) (v := .bool false) (by rw [hS]; rfl)
          clear hS hs9 hB9 q1
          go_wp2_with fail
          refine (l02Trim_any b 1 _ o _ a1 lb HO9.out.sl (by have := gram_len400 HOut.out; omega) (okAll_lens (gram_lens HOut.out).2.choose_spec)).mono ?_
          rintro e10 w10 ⟨hb10, v10, own10, rfl⟩
          have HR10 := Lib.hid (HRR.out.up hb10)
          have HB10 := Lib.hid (Below.tr HBE.out hb10)
          have HO10 := Lib.hid own10
          obtain ⟨A10, k10, rfl, _⟩ := own_nil own10
          have b0 := HR10.out.cell (i := 0) (v := .slice none 0 0) rfl
          have b1 := HR10.out.frozen 0
          have b2 := HR10.out.lt
          have hzz := HBE.out.size
          clear hb10 own10 a1 a2 rl rf rc
          go_wp2_with fail
          refine bodyPost_ret (v := .tuple #[.agg #[.slice A10 (trimG o).length k10], .int .i64 0]) (by simp [results, Tryz.results39, go_sem, b0]) rfl ⟨HB10.out.setCell (by show w.heap.size ≤ w.heap.size; omega) _, .slice A10 (trimG o).length k10, ?_, by rw [HX.out.2]⟩
          rw [HX.out.1]
          exact ownsRow_more (ownsRow_setCell_below HO10.out (a := ⟨w.heap.size, 0, none⟩) (by show w.heap.size < _; omega) _) (by omega)
      · have x0 := HJ1.out.hE.c0
        rw [hk] at x0
        have HKE := Lib.hid hk
        clear hk
        have y1 := HJ1.out.hE.c1
        have y3 := HJ1.out.hE.c3
        have yl := HJ1.out.hE.lt
        go_wp2_with fail
        go_quiet (fail)
        replace HJ1 := Lib.hid (HJ1.out.drewN nq)
        clear x0 y1 y3 yl
        generalize W1.drewN nq = W1 at *
        have x0 := HJ1.out.hE.c0
        rw [HKE.out] at x0
        have yl := HJ1.out.hE.lt
        have aE1 := HJ1.out.hE.c1
        have aE := HJ1.out.hE.lt
        have aB := HJ1.out.hM.lt
        go_wp2_with fail
        refine (mkPart_any b P oP _ xs ls _ 0 (e.i) _ HJ1.out.hM HJ1.out.cP.c HJ1.out.cP.lt ((HG.out.below HJ1.out.bel).le HJ1.out.le) HOK.out HL.out (by first | (have := HF.out; have := HKE.out; omega) | (have := HF.out; have := HKE.out; have := HKI.out; omega))).mono ?_
        rintro e6 W2 ⟨rfl, hb1, ha1⟩
        have HJ2 := Lib.hid (HJ1.out.next hb1 ha1)
        clear aE1 aE aB hb1 ha1 HJ1
        have aE := HJ2.out.hE.lt
        have aB := HJ2.out.hM.lt
        go_wp2_with fail
        refine (mkChanged_any b P oP E oE e _ _ xs ls _ _ HJ2.out.hM HJ2.out.cP HJ2.out.hE HJ2.out.neE ((HG.out.below HJ2.out.bel).le HJ2.out.le) HOK.out HL.out (by first | (have := HF.out; have := HKE.out; omega) | (have := HF.out; have := HKE.out; have := HKI.out; omega)) HCK.out).mono ?_
        rintro e7 W3 ⟨rfl, hb2, ha2⟩
        have HJ3 := Lib.hid (HJ2.out.next hb2 ha2)
        clear aE aB hb2 ha2 HJ2
        have aE2 := HJ3.out.hE.c2
        have aE := HJ3.out.hE.lt
        have aB := HJ3.out.hM.lt
        go_wp2_with fail
        refine (mkPart_any b P oP _ xs ls _ e.j (lastI ls) _ HJ3.out.hM HJ3.out.cP.c HJ3.out.cP.lt ((HG.out.below HJ3.out.bel).le HJ3.out.le) HOK.out HL.out (by first | (have := HF.out; have := HKE.out; omega) | (have := HF.out; have := HKE.out; have := HKI.out; omega))).mono ?_
        rintro e8 W4 ⟨rfl, hb3, ha3⟩
        have HJ4 := Lib.hid (HJ3.out.next hb3 ha3)
        clear aE2 aE aB hb3 ha3 HJ3
        have hQ : editS xs ls (lastI ls) e = addO (addO (addO (some []) (limO (partG xs ls 0 (e.i)))) ((limO (partG xs ls e.i e.j)).bind (chgO e))) (limO (partG xs ls e.j (lastI ls))) := by unfold editS; rw [if_neg HKC.out.1, if_neg HKC.out.2.1, if_neg HKC.out.2.2.1, if_neg HKC.out.2.2.2.1]
        have HQ := Lib.hid hQ
        clear hQ
        obtain ⟨vO, out, hB9, hO9, hs9, hok9⟩ := HJ4.out.hM
        obtain ⟨AO, kO, rfl, _⟩ := own_nil hO9
        have HOut := Lib.hid hok9
        have HO9 := Lib.hid hO9
        have lb := hB9.lt
        have rl := HJ4.out.hR.lt
        have rf := HJ4.out.hR.frozen 0
        have rc := HJ4.out.hR.cell (i := 0) (v := .slice none 0 0) rfl
        have HBE := Lib.hid HJ4.out.bel
        have HRR := Lib.hid HJ4.out.hR
        have hle := HJ4.out.le
        clear hok9 hO9 HJ4
        rw [← HQ.out] at hB9 hs9
        cases hS : editS xs ls (lastI ls) e with
        | none =>
          have q1 : applyOut xs e = [] ∧ applyCode xs e = 3 := by rw [HQA.out.1, HQA.out.2, hS]; exact ⟨rfl, rfl⟩
          have HX := Lib.hid q1
          have a2 := hB9.cell (i := 2) (v := .bool true) (by rw [hS]; rfl)
          clear hS hs9 hB9 q1
          go_wp2_with fail
          refine bodyPost_ret (v := .tuple #[.agg #[.slice none 0 0], .int .i64 3]) (by simp [results, Tryz.results39, go_sem, rc]) rfl ⟨Below.setCell HBE.out (by show w.heap.size ≤ w.heap.size; omega) _, .slice none 0 0, by rw [HX.out.1]; exact World.ownsRow_nil _ _ _ _, by rw [HX.out.2]⟩
        | some o =>
          have e9 := hs9 o hS
          subst e9
          have q1 : applyOut xs e = trimG o ∧ applyCode xs e = 0 := by rw [HQA.out.1, HQA.out.2, hS]; exact ⟨rfl, rfl⟩
          have HX := Lib.hid q1
          have a1 := hB9.cell (i := 1) (v := .slice AO o.length kO) rfl
          have a2 := hB9.cell (i := 2) (v := .bool false) (by rw [hS]; rfl)
          clear hS hs9 hB9 q1
          go_wp2_with fail
          refine (l02Trim_any b 1 _ o _ a1 lb HO9.out.sl (by have := gram_len400 HOut.out; omega) (okAll_lens (gram_lens HOut.out).2.choose_spec)).mono ?_
          rintro e10 w10 ⟨hb10, v10, own10, rfl⟩
          have HR10 := Lib.hid (HRR.out.up hb10)
          have HB10 := Lib.hid (Below.tr HBE.out hb10)
          have HO10 := Lib.hid own10
          obtain ⟨A10, k10, rfl, _⟩ := own_nil own10
          have b0 := HR10.out.cell (i := 0) (v := .slice none 0 0) rfl
          have b1 := HR10.out.frozen 0
          have b2 := HR10.out.lt
          have hzz := HBE.out.size
          clear hb10 own10 a1 a2 rl rf rc
          go_wp2_with fail
          refine bodyPost_ret (v := .tuple #[.agg #[.slice A10 (trimG o).length k10], .int .i64 0]) (by simp [results, Tryz.results39, go_sem, b0]) rfl ⟨HB10.out.setCell (by show w.heap.size ≤ w.heap.size; omega) _, .slice A10 (trimG o).length k10, ?_, by rw [HX.out.2]⟩
          rw [HX.out.1]
          exact ownsRow_more (ownsRow_setCell_below HO10.out (a := ⟨w.heap.size, 0, none⟩) (by show w.heap.size < _; omega) _) (by omega)
      · have x0 := HJ1.out.hE.c0
        rw [hk] at x0
        have HKE := Lib.hid hk
        clear hk
        have y1 := HJ1.out.hE.c1
        have y3 := HJ1.out.hE.c3
        have yl := HJ1.out.hE.lt
        go_wp2_with fail
        go_quiet (fail)
        replace HJ1 := Lib.hid (HJ1.out.drewN nq)
        clear x0 y1 y3 yl
        generalize W1.drewN nq = W1 at *
        have x0 := HJ1.out.hE.c0
        rw [HKE.out] at x0
        have yl := HJ1.out.hE.lt
        have aE1 := HJ1.out.hE.c1
        have aE := HJ1.out.hE.lt
        have aB := HJ1.out.hM.lt
        go_wp2_with fail
        refine (mkPart_any b P oP _ xs ls _ 0 (e.i) _ HJ1.out.hM HJ1.out.cP.c HJ1.out.cP.lt ((HG.out.below HJ1.out.bel).le HJ1.out.le) HOK.out HL.out (by first | (have := HF.out; have := HKE.out; omega) | (have := HF.out; have := HKE.out; have := HKI.out; omega))).mono ?_
        rintro e6 W2 ⟨rfl, hb1, ha1⟩
        have HJ2 := Lib.hid (HJ1.out.next hb1 ha1)
        clear aE1 aE aB hb1 ha1 HJ1
        have aE := HJ2.out.hE.lt
        have aB := HJ2.out.hM.lt
        go_wp2_with fail
        refine (mkChanged_any b P oP E oE e _ _ xs ls _ _ HJ2.out.hM HJ2.out.cP HJ2.out.hE HJ2.out.neE ((HG.out.below HJ2.out.bel).le HJ2.out.le) HOK.out HL.out (by first | (have := HF.out; have := HKE.out; omega) | (have := HF.out; have := HKE.out; have := HKI.out; omega)) HCK.out).mono ?_
        rintro e7 W3 ⟨rfl, hb2, ha2⟩
        have HJ3 := Lib.hid (HJ2.out.next hb2 ha2)
        clear aE aB hb2 ha2 HJ2
        have aE2 := HJ3.out.hE.c2
        have aE := HJ3.out.hE.lt
        have aB := HJ3.out.hM.lt
        go_wp2_with fail
        refine (mkPart_any b P oP _ xs ls _ e.j (lastI ls) _ HJ3.out.hM HJ3.out.cP.c HJ3.out.cP.lt ((HG.out.below HJ3.out.bel).le HJ3.out.le) HOK.out HL.out (by first | (have := HF.out; have := HKE.out; omega) | (have := HF.out; have := HKE.out; have := HKI.out; omega))).mono ?_
        rintro e8 W4 ⟨rfl, hb3, ha3⟩
        have HJ4 := Lib.hid (HJ3.out.next hb3 ha3)
        clear aE2 aE aB hb3 ha3 HJ3
        have hQ : editS xs ls (lastI ls) e = addO (addO (addO (some []) (limO (partG xs ls 0 (e.i)))) ((limO (partG xs ls e.i e.j)).bind (chgO e))) (limO (partG xs ls e.j (lastI ls))) := by unfold editS; rw [if_neg HKC.out.1, if_neg HKC.out.2.1, if_neg HKC.out.2.2.1, if_neg HKC.out.2.2.2.1]
        have HQ := Lib.hid hQ
        clear hQ
        obtain ⟨vO, out, hB9, hO9, hs9, hok9⟩ := HJ4.out.hM
        obtain ⟨AO, kO, rfl, _⟩ := own_nil hO9
        have HOut := Lib.hid hok9
        have HO9 := Lib.hid hO9
        have lb := hB9.lt
        have rl := HJ4.out.hR.lt
        have rf := HJ4.out.hR.frozen 0
        have rc := HJ4.out.hR.cell (i := 0) (v := .slice none 0 0) rfl
        have HBE := Lib.hid HJ4.out.bel
        have HRR := Lib.hid HJ4.out.hR
        have hle := HJ4.out.le
        clear hok9 hO9 HJ4
        rw [← HQ.out] at hB9 hs9
        cases hS : editS xs ls (lastI ls) e with
        | none =>
          have q1 : applyOut xs e = [] ∧ applyCode xs e = 3 := by rw [HQA.out.1, HQA.out.2, hS]; exact ⟨rfl, rfl⟩
          have HX := Lib.hid q1
          have a2 := hB9.cell (i := 2) (v := .bool true) (by rw [hS]; rfl)
          clear hS hs9 hB9 q1
          go_wp2_with fail
          refine bodyPost_ret (v := .tuple #[.agg #[.slice none 0 0], .int .i64 3]) (by simp [results, Tryz.results39, go_sem, rc]) rfl ⟨Below.setCell HBE.out (by show w.heap.size ≤ w.heap.size; omega) _, .slice none 0 0, by rw [HX.out.1]; exact World.ownsRow_nil _ _ _ _, by rw [HX.out.2]⟩
        | some o =>
          have e9 := hs9 o hS
          subst e9
          have q1 : applyOut xs e = trimG o ∧ applyCode xs e = 0 := by rw [HQA.out.1, HQA.out.2, hS]; exact ⟨rfl, rfl⟩
          have HX := Lib.hid q1
          have a1 := hB9.cell (i := 1) (v := .slice AO o.length kO) rfl
          have a2 := hB9.cell (i := 2) (v := .bool false) (by rw [hS]; rfl)
          clear hS hs9 hB9 q1
          go_wp2_with fail
          refine (l02Trim_any b 1 _ o _ a1 lb HO9.out.sl (by have := gram_len400 HOut.out; omega) (okAll_lens (gram_lens HOut.out).2.choose_spec)).mono ?_
          rintro e10 w10 ⟨hb10, v10, own10, rfl⟩
          have HR10 := Lib.hid (HRR.out.up hb10)
          have HB10 := Lib.hid (Below.tr HBE.out hb10)
          have HO10 := Lib.hid own10
          obtain ⟨A10, k10, rfl, _⟩ := own_nil own10
          have b0 := HR10.out.cell (i := 0) (v := .slice none 0 0) rfl
          have b1 := HR10.out.frozen 0
          have b2 := HR10.out.lt
          have hzz := HBE.out.size
          clear hb10 own10 a1 a2 rl rf rc
          go_wp2_with fail
          refine bodyPost_ret (v := .tuple #[.agg #[.slice A10 (trimG o).length k10], .int .i64 0]) (by simp [results, Tryz.results39, go_sem, b0]) rfl ⟨HB10.out.setCell (by show w.heap.size ≤ w.heap.size; omega) _, .slice A10 (trimG o).length k10, ?_, by rw [HX.out.2]⟩
          rw [HX.out.1]
          exact ownsRow_more (ownsRow_setCell_below HO10.out (a := ⟨w.heap.size, 0, none⟩) (by show w.heap.size < _; omega) _) (by omega)
end Go.Proofs.YtfapnipmgmpgaaaGreatDoor

namespace Go.Proofs.YtfapnipmgmpgaaaGreatDoor
open Go.RowKit

theorem EC.at_ {w : World} {E : Nat} {e : GEdit} {vR : Value} (h : EC w E 0 e vR) (hR : Sl RuleE w w.heap.size vR e.part) : EditAt w w.heap.size E e vR :=
  ⟨⟨h.c0, by simpa using h.c1, by simpa using h.c2, by simpa using h.c3, by simpa using h.c4, by simpa using h.c5⟩, h.lt, hR⟩
set_option maxRecDepth 100000 in
set_option maxHeartbeats 4000000 in
theorem specApply_any (vG v : Value) (xs : List GRule) (e : GEdit) (w : World) (hG : Sl RuleE w w.heap.size vG xs) (hE : EditV w w.heap.size v e) (hn2 : e.part.length ≤ 1048576) (hsm : SmallL xs) (hsmE : SmallL e.part) (hm : e.map.size ≤ maxLen) :
    Calls Tryz.prog 11 #[.agg #[vG], v] w (GRes (applyOut xs e) (applyCode xs e) w) := by
  obtain ⟨vR, rfl, hR⟩ := hE
  have HG := Lib.hid hG
  have HR := Lib.hid hR
  obtain ⟨AG, cG, rfl, _⟩ := hG
  obtain ⟨AR, cR, rfl, _⟩ := hR
  have b1 := (Below.refl w.heap.size w).alloc (Nat.le_refl _) (.cells #[.slice AG xs.length cG] 31)
  have b2 := b1.alloc b1.size (.cells (editCells e (.slice AR e.part.length cR)) 36)
  have b3 := b2.alloc b2.size (.cells #[.slice none 0 0] 31)
  have KP : Blk (((w.alloc (.cells #[.slice AG xs.length cG] 31)).alloc (.cells (editCells e (.slice AR e.part.length cR)) 36)).alloc (.cells #[.slice none 0 0] 31)) w.heap.size #[.slice AG xs.length cG] 31 := ((Blk.new w _ _).alloc _).alloc _
  have KE : Blk (((w.alloc (.cells #[.slice AG xs.length cG] 31)).alloc (.cells (editCells e (.slice AR e.part.length cR)) 36)).alloc (.cells #[.slice none 0 0] 31)) (w.heap.size + 1) (editCells e (.slice AR e.part.length cR)) 36 := by
    have := (Blk.new (w.alloc (.cells #[.slice AG xs.length cG] 31)) (editCells e (.slice AR e.part.length cR)) 36).alloc (.cells #[.slice none 0 0] 31)
    simpa [Blk] using this
  have KQ : Blk (((w.alloc (.cells #[.slice AG xs.length cG] 31)).alloc (.cells (editCells e (.slice AR e.part.length cR)) 36)).alloc (.cells #[.slice none 0 0] 31)) (w.heap.size + 2) #[.slice none 0 0] 31 := by
    have := (Blk.new ((w.alloc (.cells #[.slice AG xs.length cG] 31)).alloc (.cells (editCells e (.slice AR e.part.length cR)) 36)) #[.slice none 0 0] 31)
    simpa [Blk] using this
  go_enter Tryz.func11, Tryz.ntmps11
  unfold editCells at b2 b3 KP KE KQ
  go_upto_region 1 with fail
  generalize (((w.alloc (.cells #[.slice AG xs.length cG] 31)).alloc (.cells #[.int .i64 e.kind, .int .i64 e.i, .int .i64 e.j, .int .i64 e.k, .slice AR e.part.length cR, .string e.map] 36)).alloc (.cells #[.slice none 0 0] 31)) = w0 at *
  have KB := Lib.hid b3
  clear b1 b2 b3
  have cP0_1 := Blk.cell (i := 0) (v := .slice AG xs.length cG) KP rfl
  have lP_2 := Blk.lt KP
  go_wp2_with fail
  refine (l02Ok_any w.heap.size 0 _ xs _ cP0_1 (Blk.lt KP) (HG.out.up KB.out) hsm).mono ?_
  rintro e w1 ⟨rfl, hb_3⟩
  have z_w1 : w0.heap.size ≤ w1.heap.size := hb_3.size
  have KB_4 := Lib.hid (Below.tr KB.out hb_3)
  have KP_5 := Blk.up KP hb_3
  have KE_6 := Blk.up KE hb_3
  have KQ_7 := Blk.up KQ hb_3
  clear cP0_1 lP_2 KB KP KE KQ
  cases hg : gramOk xs with
  | false =>
    have q2 : applyOut xs e = [] ∧ applyCode xs e = 1 := by simp [applyOut, applyCode, hg]
    have HQ2 := Lib.hid q2
    clear q2 hg
    have cQ0_8 := Blk.cell (i := 0) (v := .slice none 0 0) KQ_7 rfl
    have zQ0_9 := Blk.frozen KQ_7 0
    have lQ_10 := Blk.lt KQ_7
    go_wp2_with fail
    refine bodyPost_ret (v := .tuple #[.agg #[.slice none 0 0], .int .i64 1]) (by simp [results, Tryz.results11, go_sem, cQ0_8]) rfl ⟨Below.setCell KB_4.out (show w.heap.size ≤ w.heap.size + 2 by omega) _, .slice none 0 0, by rw [HQ2.out.1]; exact World.ownsRow_nil _ _ _ _, by rw [HQ2.out.2]⟩
  | true =>
    have HGG := Lib.hid hg
    clear hg
    have cQ0_11 := Blk.cell (i := 0) (v := .slice none 0 0) KQ_7 rfl
    have lQ_12 := Blk.lt KQ_7
    go_wp2_with fail
    refine (l07Ok_any (w.heap.size + 1) _ e _ (EC.at_ (EC.of KE_6) (HR.out.up KB_4.out)) hsmE (by omega) hm).mono ?_
    rintro e w2 ⟨rfl, hb_13⟩
    have z_w2 : w1.heap.size ≤ w2.heap.size := hb_13.size
    have KB_14 := Lib.hid (Below.tr KB_4.out hb_13)
    have KP_15 := Blk.up KP_5 hb_13
    have KE_16 := Blk.up KE_6 hb_13
    have KQ_17 := Blk.up KQ_7 hb_13
    clear hb_3 cQ0_11 lQ_12 KB_4 KP_5 KE_6 KQ_7
    cases he : editOk e with
    | false =>
      have q2 : applyOut xs e = [] ∧ applyCode xs e = 1 := by simp [applyOut, applyCode, he]
      have HQ2 := Lib.hid q2
      clear q2 he
      have cQ0_18 := Blk.cell (i := 0) (v := .slice none 0 0) KQ_17 rfl
      have zQ0_19 := Blk.frozen KQ_17 0
      have lQ_20 := Blk.lt KQ_17
      go_wp2_with fail
      refine bodyPost_ret (v := .tuple #[.agg #[.slice none 0 0], .int .i64 1]) (by simp [results, Tryz.results11, go_sem, cQ0_18]) rfl ⟨Below.setCell KB_14.out (show w.heap.size ≤ w.heap.size + 2 by omega) _, .slice none 0 0, by rw [HQ2.out.1]; exact World.ownsRow_nil _ _ _ _, by rw [HQ2.out.2]⟩
    | true =>
      have HEE := Lib.hid he
      clear he
      have lqq := Blk.lt KQ_17
      have cQ0_21 := Blk.cell (i := 0) (v := .slice none 0 0) KQ_17 rfl
      have lQ_22 := Blk.lt KQ_17
      go_wp2_with fail
      refine (l07Apply_any w.heap.size 0 (w.heap.size + 1) 0 _ _ xs e _ ⟨Blk.cell KP_15 rfl, Blk.lt KP_15⟩ (EC.of KE_16) (HG.out.up KB_14.out) (HR.out.up KB_14.out) HGG.out HEE.out).mono ?_
      rintro e w3 ⟨hb_23, v3, own3, rfl⟩
      have z_w3 : w2.heap.size ≤ w3.heap.size := hb_23.size
      have KB_24 := Lib.hid (Below.tr KB_14.out hb_23)
      have KP_25 := Blk.up KP_15 hb_23
      have KE_26 := Blk.up KE_16 hb_23
      have KQ_27 := Blk.up KQ_17 hb_23
      clear hb_13 cQ0_21 lQ_22 KB_14 KP_15 KE_16 KQ_17
      obtain ⟨A3, k3, rfl, _⟩ := own_nil own3
      have HO := Lib.hid own3
      clear own3
      have cQ0_28 := Blk.cell (i := 0) (v := .slice none 0 0) KQ_27 rfl
      have zQ0_29 := Blk.frozen KQ_27 0
      have lQ_30 := Blk.lt KQ_27
      go_wp2_with fail
      refine bodyPost_ret (v := .tuple #[.agg #[.slice A3 (applyOut xs e).length k3], .int .i64 (applyCode xs e)]) (by simp [results, Tryz.results11, go_sem, cQ0_28]) rfl ⟨Below.setCell KB_24.out (show w.heap.size ≤ w.heap.size + 2 by omega) _, .slice A3 (applyOut xs e).length k3, ?_, rfl⟩
      exact ownsRow_more (ownsRow_setCell_below HO.out (a := ⟨w.heap.size + 2, 0, none⟩) (by show w.heap.size + 2 < _; omega) _) (by omega)
end Go.Proofs.YtfapnipmgmpgaaaGreatDoor

