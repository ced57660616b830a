import Derived.Test.YtfapnipmgmpgaaaGreatDoorM11
import Derived.Test.YtfapnipmgmpgaaaGreatDoorM10
import Derived.Test.YtfapnipmgmpgaaaGreatDoorM5
import Derived.Test.YtfapnipmgmpgaaaGreatDoorM3
import Derived.Test.YtfapnipmgmpgaaaGreatDoorM9
import Derived.Test.YtfapnipmgmpgaaaGreatDoorM8
import Derived.Test.YtfapnipmgmpgaaaGreatDoorM2
import Derived.Test.YtfapnipmgmpgaaaGreatDoorM6
import Derived.Test.YtfapnipmgmpgaaaGreatDoorM7
namespace Go.Proofs.YtfapnipmgmpgaaaGreatDoor
open Go.RowKit

/-- The state of the making of an edited grammar: R the result's cell, b the maker. -/
structure MkJ (w0 : World) (P oP E oE R b : Nat) (e : GEdit) (vR vG : Value) (s : Option (List GRule)) (W : World) : Prop where
  bel : Below w0.heap.size w0 W
  hM : Mk W b P oP s
  cP : C1 W ⟨P, oP, none⟩ vG
  hE : EC W E oE e vR
  hR : Blk W R #[.slice none 0 0] 31
  neP : P ≠ b
  neE : E ≠ b
  neR : R ≠ b
  le : w0.heap.size ≤ b
  ltR : w0.heap.size ≤ R
theorem MkJ.next {w0 W W' : World} {P oP E oE R b : Nat} {e : GEdit} {vR vG : Value} {s s' : Option (List GRule)} (h : MkJ w0 P oP E oE R b e vR vG s W) (hb : But b W W') (ha : Mk W' b P oP s') : MkJ w0 P oP E oE R b e vR vG s' W' :=
  ⟨h.bel.trans (hb.below h.le h.bel.size), ha, h.cP.but hb h.neP, h.hE.but hb h.neE, h.hR.but hb h.neR, h.neP, h.neE, h.neR, h.le, h.ltR⟩
theorem MkJ.drewN {w0 W : World} {P oP E oE R b : Nat} {e : GEdit} {vR vG : Value} {s : Option (List GRule)} (h : MkJ w0 P oP E oE R b e vR vG s W) (n : Nat) : MkJ w0 P oP E oE R b e vR vG s (W.drewN n) :=
  h.next ((But.refl b W).drewN n) (h.hM.up (below_drewN (Below.refl _ _) n))
theorem MkJ.drew {w0 W : World} {P oP E oE R b : Nat} {e : GEdit} {vR vG : Value} {s : Option (List GRule)} (h : MkJ w0 P oP E oE R b e vR vG s W) : MkJ w0 P oP E oE R b e vR vG s W.drew :=
  h.next (But.refl b W).drew (h.hM.up (Below.drew (Below.refl _ _)))
theorem mk_start {W : World} {P oP : Nat} {b : Nat} (h : Blk W b #[.pointer (some ⟨P, oP, none⟩), .slice none 0 0, .bool false] 119) : Mk W b P oP (some []) :=
  ⟨_, [], h, World.ownsRow_nil _ _ _ _, fun _ h => (Option.some.inj h).symm, rfl⟩
/-- The numbers of an edit that fits. -/
theorem fits_nums {e : GEdit} {n : Int} (h : editOk e = true) (hf : editFits e n = true) :
    0 ≤ e.i ∧ (e.kind = 1 → e.i ≤ n) ∧ (2 ≤ e.kind → e.i ≤ e.j ∧ e.j ≤ n) ∧ (e.kind = 3 → 0 ≤ e.k ∧ e.k ≤ n) ∧ (e.kind = 4 → 0 ≤ e.k ∧ (e.k ≤ e.i ∨ (e.j ≤ e.k ∧ e.k ≤ n))) := by
  obtain ⟨k, i, j, kk, part, map⟩ := e
  have hk := (kind_ok h).2.2.2
  have hr := (kind_ok h).2.2.1
  simp only [editOk, Bool.and_eq_true, inR, decide_eq_true_eq] at h
  obtain ⟨⟨⟨⟨⟨⟨⟨⟨h1, h1'⟩, h2⟩, h3⟩, h4⟩, h5⟩, h6⟩, h7⟩, h8⟩ := h
  simp only at h1 h1' h2 h3 h4 hk hr ⊢
  rcases (by omega : k = 1 ∨ k = 2 ∨ k = 3 ∨ k = 4 ∨ k = 5 ∨ k = 6 ∨ k = 7) with rfl | rfl | rfl | rfl | rfl | rfl | rfl
  all_goals
    simp [editFits, numOk, usesJ, usesK, inR] at hf h3 h4 hk ⊢
    omega
set_option maxRecDepth 100000 in
set_option maxHeartbeats 4000000 in
theorem l07Apply_any (P oP E oE : Nat) (vG vR : Value) (xs : List GRule) (e : GEdit) (w : World) (hP : C1 w ⟨P, oP, none⟩ vG) (hE : EC w E oE e vR) (hG : Sl RuleE w w.heap.size vG xs) (hR : Sl RuleE w w.heap.size vR e.part) (hg : gramOk xs = true) (hk : editOk e = true) :
    Calls Tryz.prog 39 #[.pointer (some ⟨P, oP, none⟩), .pointer (some ⟨E, oE, none⟩)] w (GRes (applyOut xs e) (applyCode xs e) w) := by
  have hls : lens xs = some (lsOf xs) := by
    obtain ⟨ls, h⟩ := (gram_lens hg).2
    simp [lsOf, h]
  obtain ⟨ls, hlq⟩ : ∃ ls, lsOf xs = ls := ⟨_, rfl⟩
  rw [hlq] at hls
  have HG := Lib.hid hG
  have HR := Lib.hid hR
  have HL := Lib.hid hls
  have HOK := Lib.hid hg
  have HK := Lib.hid (kind_ok hk)
  have HEK := Lib.hid hk
  have hn : xs.length ≤ 1048576 := by have := gram_len400 hg; omega
  have sm := Lib.hid (okAll_smallL (okAll_lens (gram_lens hg).2.choose_spec))
  have hgl : gramLen xs = lastI ls := gramLen_of hls
  have HAO := Lib.hid (show applyOut xs e = if editFits e (lastI ls) then editG (editS xs ls (lastI ls) e) else [] by simp [applyOut, hg, hk, hgl, applyS, hlq])
  have HAC := Lib.hid (show applyCode xs e = if editFits e (lastI ls) then editC (editS xs ls (lastI ls) e) else 2 by simp [applyCode, hg, hk, hgl, applyS, hlq])
  obtain ⟨AG, cG, rfl, _⟩ := hG
  obtain ⟨AR, cR, rfl, _⟩ := hR
  have HP := Lib.hid hP
  have HE := Lib.hid hE
  have KR := Blk.new w #[.slice none 0 0] 31
  have bA := (Below.refl w.heap.size w).alloc (Nat.le_refl _) (.cells #[.slice none 0 0] 31)
  clear hls hlq hg hk hgl hP hE
  go_enter Tryz.func39, Tryz.ntmps39
  go_wp2_with fail
  refine (l02Length_any P oP _ xs ls _ HL.out (HP.out.up bA).c (HP.out.up bA).lt (HG.out.up bA) sm.out (by omega)).mono ?_
  rintro e1 w1 ⟨rfl, hb1⟩
  have HP1 := Lib.hid ((HP.out.up bA).up hb1)
  have HE1 := Lib.hid ((HE.out.up bA).up hb1)
  have HR1 := Lib.hid (KR.up hb1)
  have HB1 := Lib.hid (Below.tr bA hb1)
  clear HP HE KR bA hb1
  go_wp2_with fail
  refine (l07RangeO_any E oE _ e _ _ HE1.out HK.out.2.2.1).mono ?_
  rintro e2 w2 ⟨rfl, hb2⟩
  have HP2 := Lib.hid (HP1.out.up hb2)
  have HE2 := Lib.hid (HE1.out.up hb2)
  have HR2 := Lib.hid (HR1.out.up hb2)
  have HB2 := Lib.hid (Below.tr HB1.out hb2)
  clear HP1 HE1 HR1 HB1 hb2
  have rl := HR2.out.lt
  have rf := HR2.out.frozen 0
  have rc := HR2.out.cell (i := 0) (v := .slice none 0 0) rfl
  cases hf : editFits e (lastI ls) with
  | false =>
    have q1 : applyOut xs e = [] ∧ applyCode xs e = 2 := by rw [HAO.out, HAC.out, hf]; exact ⟨rfl, rfl⟩
    have HQ := Lib.hid q1
    clear q1 hf
    go_wp2_with fail
    refine bodyPost_ret (v := .tuple #[.agg #[.slice none 0 0], .int .i64 2]) (by simp [results, Tryz.results39, go_sem, rc]) rfl ⟨Below.setCell HB2.out (by show w.heap.size ≤ w.heap.size; omega) _, .slice none 0 0, by rw [HQ.out.1]; exact World.ownsRow_nil _ _ _ _, by rw [HQ.out.2]⟩
  | true =>
    have hao : applyOut xs e = editG (editS xs ls (lastI ls) e) ∧ applyCode xs e = editC (editS xs ls (lastI ls) e) := by rw [HAO.out, HAC.out, hf]; exact ⟨rfl, rfl⟩
    have HQA := Lib.hid hao
    have HF := Lib.hid (fits_nums HEK.out hf)
    have hs2 := HB2.out.size
    have KM := Blk.new w2 #[.pointer (some ⟨P, oP, none⟩), .slice none 0 0, .bool false] 119
    have bM := (Below.refl w2.heap.size w2).alloc (Nat.le_refl _) (.cells #[.pointer (some ⟨P, oP, none⟩), .slice none 0 0, .bool false] 119)
    have lp := HP2.out.lt
    have le := HE2.out.lt
    have hj : MkJ w P oP E oE w.heap.size w2.heap.size e (.slice AR e.part.length cR) (.slice AG xs.length cG) (some []) (w2.alloc (.cells #[.pointer (some ⟨P, oP, none⟩), .slice none 0 0, .bool false] 119)) :=
      ⟨Below.tr HB2.out bM, mk_start KM, HP2.out.up bM, HE2.out.up bM, HR2.out.up bM, by show P ≠ _; have : P < w2.heap.size := lp; omega, by omega, by omega, hs2, Nat.le_refl _⟩
    have HJ1 := Lib.hid hj
    clear hao hf hj KM bM rl rf rc lp HP2 HE2 HR2 HB2 HAO HAC
    go_upto_region 8 with fail
    generalize w2.alloc (.cells #[.pointer (some ⟨P, oP, none⟩), .slice none 0 0, .bool false] 119) = W1 at *
    obtain ⟨b, hbq⟩ : ∃ b, w2.heap.size = b := ⟨_, rfl⟩
    rw [hbq] at HJ1 ⊢
    clear hbq
    rcases HK.out.1 with hk | hk | hk | hk | hkk
    · have x0 := HJ1.out.hE.c0
      rw [hk] at x0
      have HKE := Lib.hid hk
      clear hk
      have aE1 := HJ1.out.hE.c1
      have aE := HJ1.out.hE.lt
      have aB := HJ1.out.hM.lt
      go_wp2_with fail
      refine (mkPart_any b P oP _ xs ls _ 0 (e.i) _ HJ1.out.hM HJ1.out.cP.c HJ1.out.cP.lt ((HG.out.below HJ1.out.bel).le HJ1.out.le) HOK.out HL.out (by first | (have := HF.out; have := HKE.out; omega) | (have := HF.out; have := HKE.out; have := HKI.out; omega))).mono ?_
      rintro e6 W2 ⟨rfl, hb1, ha1⟩
      have HJ2 := Lib.hid (HJ1.out.next hb1 ha1)
      clear aE1 aE aB hb1 ha1 HJ1
      have aE4 := HJ2.out.hE.c4
      have aE := HJ2.out.hE.lt
      have aB := HJ2.out.hM.lt
      go_wp2_with fail
      refine (mkAdd_any b P oP _ (some e.part) (.slice AR e.part.length cR) e.part 0 _ HJ2.out.hM (sl_ne (HR.out.below HJ2.out.bel) HJ2.out.le HJ2.out.hM.lt) (.inl ⟨rfl, rfl, HK.out.2.1⟩)).mono ?_
      rintro e7 W3 ⟨rfl, hb2, ha2⟩
      have HJ3 := Lib.hid (HJ2.out.next hb2 ha2)
      clear aE4 aE aB hb2 ha2 HJ2
      have aE1 := HJ3.out.hE.c1
      have aE := HJ3.out.hE.lt
      have aB := HJ3.out.hM.lt
      go_wp2_with fail
      refine (mkPart_any b P oP _ xs ls _ e.i (lastI ls) _ HJ3.out.hM HJ3.out.cP.c HJ3.out.cP.lt ((HG.out.below HJ3.out.bel).le HJ3.out.le) HOK.out HL.out (by first | (have := HF.out; have := HKE.out; omega) | (have := HF.out; have := HKE.out; have := HKI.out; omega))).mono ?_
      rintro e8 W4 ⟨rfl, hb3, ha3⟩
      have HJ4 := Lib.hid (HJ3.out.next hb3 ha3)
      clear aE1 aE aB hb3 ha3 HJ3
      have hQ : editS xs ls (lastI ls) e = addO (addO (addO (some []) (limO (partG xs ls 0 (e.i)))) (some e.part)) (limO (partG xs ls e.i (lastI ls))) := by unfold editS; rw [if_pos HKE.out]
      have HQ := Lib.hid hQ
      clear hQ
      obtain ⟨vO, out, hB9, hO9, hs9, hok9⟩ := HJ4.out.hM
      obtain ⟨AO, kO, rfl, _⟩ := own_nil hO9
      have HOut := Lib.hid hok9
      have HO9 := Lib.hid hO9
      have lb := hB9.lt
      have rl := HJ4.out.hR.lt
      have rf := HJ4.out.hR.frozen 0
      have rc := HJ4.out.hR.cell (i := 0) (v := .slice none 0 0) rfl
      have HBE := Lib.hid HJ4.out.bel
      have HRR := Lib.hid HJ4.out.hR
      have hle := HJ4.out.le
      clear hok9 hO9 HJ4
      rw [← HQ.out] at hB9 hs9
      cases hS : editS xs ls (lastI ls) e with
      | none =>
        have q1 : applyOut xs e = [] ∧ applyCode xs e = 3 := by rw [HQA.out.1, HQA.out.2, hS]; exact ⟨rfl, rfl⟩
        have HX := Lib.hid q1
        have a2 := hB9.cell (i := 2) (v := .bool true) (by rw [hS]; rfl)
        clear hS hs9 hB9 q1
        go_wp2_with fail
        refine bodyPost_ret (v := .tuple #[.agg #[.slice none 0 0], .int .i64 3]) (by simp [results, Tryz.results39, go_sem, rc]) rfl ⟨Below.setCell HBE.out (by show w.heap.size ≤ w.heap.size; omega) _, .slice none 0 0, by rw [HX.out.1]; exact World.ownsRow_nil _ _ _ _, by rw [HX.out.2]⟩
      | some o =>
        have e9 := hs9 o hS
        subst e9
        have q1 : applyOut xs e = trimG o ∧ applyCode xs e = 0 := by rw [HQA.out.1, HQA.out.2, hS]; exact ⟨rfl, rfl⟩
        have HX := Lib.hid q1
        have a1 := hB9.cell (i := 1) (v := .slice AO o.length kO) rfl
        have a2 := hB9.cell (i := 2) (v := .bool false) (by rw [hS]; rfl)
        clear hS hs9 hB9 q1
        go_wp2_with fail
        refine (l02Trim_any b 1 _ o _ a1 lb HO9.out.sl (by have := gram_len400 HOut.out; omega) (okAll_lens (gram_lens HOut.out).2.choose_spec)).mono ?_
        rintro e10 w10 ⟨hb10, v10, own10, rfl⟩
        have HR10 := Lib.hid (HRR.out.up hb10)
        have HB10 := Lib.hid (Below.tr HBE.out hb10)
        have HO10 := Lib.hid own10
        obtain ⟨A10, k10, rfl, _⟩ := own_nil own10
        have b0 := HR10.out.cell (i := 0) (v := .slice none 0 0) rfl
        have b1 := HR10.out.frozen 0
        have b2 := HR10.out.lt
        have hzz := HBE.out.size
        clear hb10 own10 a1 a2 rl rf rc
        go_wp2_with fail
        refine bodyPost_ret (v := .tuple #[.agg #[.slice A10 (trimG o).length k10], .int .i64 0]) (by simp [results, Tryz.results39, go_sem, b0]) rfl ⟨HB10.out.setCell (by show w.heap.size ≤ w.heap.size; omega) _, .slice A10 (trimG o).length k10, ?_, by rw [HX.out.2]⟩
        rw [HX.out.1]
        exact ownsRow_more (ownsRow_setCell_below HO10.out (a := ⟨w.heap.size, 0, none⟩) (by show w.heap.size < _; omega) _) (by omega)
    · have x0 := HJ1.out.hE.c0
      rw [hk] at x0
      have HKE := Lib.hid hk
      clear hk
      have aE1 := HJ1.out.hE.c1
      have aE := HJ1.out.hE.lt
      have aB := HJ1.out.hM.lt
      go_wp2_with fail
      refine (mkPart_any b P oP _ xs ls _ 0 (e.i) _ HJ1.out.hM HJ1.out.cP.c HJ1.out.cP.lt ((HG.out.below HJ1.out.bel).le HJ1.out.le) HOK.out HL.out (by first | (have := HF.out; have := HKE.out; omega) | (have := HF.out; have := HKE.out; have := HKI.out; omega))).mono ?_
      rintro e6 W2 ⟨rfl, hb1, ha1⟩
      have HJ2 := Lib.hid (HJ1.out.next hb1 ha1)
      clear aE1 aE aB hb1 ha1 HJ1
      have aE2 := HJ2.out.hE.c2
      have aE := HJ2.out.hE.lt
      have aB := HJ2.out.hM.lt
      go_wp2_with fail
      refine (mkPart_any b P oP _ xs ls _ e.j (lastI ls) _ HJ2.out.hM HJ2.out.cP.c HJ2.out.cP.lt ((HG.out.below HJ2.out.bel).le HJ2.out.le) HOK.out HL.out (by first | (have := HF.out; have := HKE.out; omega) | (have := HF.out; have := HKE.out; have := HKI.out; omega))).mono ?_
      rintro e7 W3 ⟨rfl, hb2, ha2⟩
      have HJ3 := Lib.hid (HJ2.out.next hb2 ha2)
      clear aE2 aE aB hb2 ha2 HJ2
      have hQ : editS xs ls (lastI ls) e = addO (addO (some []) (limO (partG xs ls 0 (e.i)))) (limO (partG xs ls e.j (lastI ls))) := by unfold editS; rw [if_neg (by rw [HKE.out]; decide), if_pos HKE.out]
      have HQ := Lib.hid hQ
      clear hQ
      obtain ⟨vO, out, hB9, hO9, hs9, hok9⟩ := HJ3.out.hM
      obtain ⟨AO, kO, rfl, _⟩ := own_nil hO9
      have HOut := Lib.hid hok9
      have HO9 := Lib.hid hO9
      have lb := hB9.lt
      have rl := HJ3.out.hR.lt
      have rf := HJ3.out.hR.frozen 0
      have rc := HJ3.out.hR.cell (i := 0) (v := .slice none 0 0) rfl
      have HBE := Lib.hid HJ3.out.bel
      have HRR := Lib.hid HJ3.out.hR
      have hle := HJ3.out.le
      clear hok9 hO9 HJ3
      rw [← HQ.out] at hB9 hs9
      cases hS : editS xs ls (lastI ls) e with
      | none =>
        have q1 : applyOut xs e = [] ∧ applyCode xs e = 3 := by rw [HQA.out.1, HQA.out.2, hS]; exact ⟨rfl, rfl⟩
        have HX := Lib.hid q1
        have a2 := hB9.cell (i := 2) (v := .bool true) (by rw [hS]; rfl)
        clear hS hs9 hB9 q1
        go_wp2_with fail
        refine bodyPost_ret (v := .tuple #[.agg #[.slice none 0 0], .int .i64 3]) (by simp [results, Tryz.results39, go_sem, rc]) rfl ⟨Below.setCell HBE.out (by show w.heap.size ≤ w.heap.size; omega) _, .slice none 0 0, by rw [HX.out.1]; exact World.ownsRow_nil _ _ _ _, by rw [HX.out.2]⟩
      | some o =>
        have e9 := hs9 o hS
        subst e9
        have q1 : applyOut xs e = trimG o ∧ applyCode xs e = 0 := by rw [HQA.out.1, HQA.out.2, hS]; exact ⟨rfl, rfl⟩
        have HX := Lib.hid q1
        have a1 := hB9.cell (i := 1) (v := .slice AO o.length kO) rfl
        have a2 := hB9.cell (i := 2) (v := .bool false) (by rw [hS]; rfl)
        clear hS hs9 hB9 q1
        go_wp2_with fail
        refine (l02Trim_any b 1 _ o _ a1 lb HO9.out.sl (by have := gram_len400 HOut.out; omega) (okAll_lens (gram_lens HOut.out).2.choose_spec)).mono ?_
        rintro e10 w10 ⟨hb10, v10, own10, rfl⟩
        have HR10 := Lib.hid (HRR.out.up hb10)
        have HB10 := Lib.hid (Below.tr HBE.out hb10)
        have HO10 := Lib.hid own10
        obtain ⟨A10, k10, rfl, _⟩ := own_nil own10
        have b0 := HR10.out.cell (i := 0) (v := .slice none 0 0) rfl
        have b1 := HR10.out.frozen 0
        have b2 := HR10.out.lt
        have hzz := HBE.out.size
        clear hb10 own10 a1 a2 rl rf rc
        go_wp2_with fail
        refine bodyPost_ret (v := .tuple #[.agg #[.slice A10 (trimG o).length k10], .int .i64 0]) (by simp [results, Tryz.results39, go_sem, b0]) rfl ⟨HB10.out.setCell (by show w.heap.size ≤ w.heap.size; omega) _, .slice A10 (trimG o).length k10, ?_, by rw [HX.out.2]⟩
        rw [HX.out.1]
        exact ownsRow_more (ownsRow_setCell_below HO10.out (a := ⟨w.heap.size, 0, none⟩) (by show w.heap.size < _; omega) _) (by omega)
    · have x0 := HJ1.out.hE.c0
      rw [hk] at x0
      have HKE := Lib.hid hk
      clear hk
      have aE3 := HJ1.out.hE.c3
      have aE := HJ1.out.hE.lt
      have aB := HJ1.out.hM.lt
      go_wp2_with fail
      refine (mkPart_any b P oP _ xs ls _ 0 (e.k) _ HJ1.out.hM HJ1.out.cP.c HJ1.out.cP.lt ((HG.out.below HJ1.out.bel).le HJ1.out.le) HOK.out HL.out (by first | (have := HF.out; have := HKE.out; omega) | (have := HF.out; have := HKE.out; have := HKI.out; omega))).mono ?_
      rintro e6 W2 ⟨rfl, hb1, ha1⟩
      have HJ2 := Lib.hid (HJ1.out.next hb1 ha1)
      clear aE3 aE aB hb1 ha1 HJ1
      have aE1 := HJ2.out.hE.c1
      have aE2 := HJ2.out.hE.c2
      have aE := HJ2.out.hE.lt
      have aB := HJ2.out.hM.lt
      go_wp2_with fail
      go_still_tail 9, (by kernel_rfl)
      change wpList _ _ _ _ _ W2.drew
      replace HJ2 := Lib.hid HJ2.out.drew
      clear aE1 aE2 aE aB
      generalize W2.drew = W2 at *
      have aE1 := HJ2.out.hE.c1
      have aE2 := HJ2.out.hE.c2
      have aE := HJ2.out.hE.lt
      have aB := HJ2.out.hM.lt
      go_wp2_with fail
      refine (mkPart_any b P oP _ xs ls _ e.i (e.j) _ HJ2.out.hM HJ2.out.cP.c HJ2.out.cP.lt ((HG.out.below HJ2.out.bel).le HJ2.out.le) HOK.out HL.out (by first | (have := HF.out; have := HKE.out; omega) | (have := HF.out; have := HKE.out; have := HKI.out; omega))).mono ?_
      rintro e7 W3 ⟨rfl, hb2, ha2⟩
      have HJ3 := Lib.hid (HJ2.out.next hb2 ha2)
      clear aE1 aE2 aE aB hb2 ha2 HJ2
      have aE3 := HJ3.out.hE.c3
      have aE := HJ3.out.hE.lt
      have aB := HJ3.out.hM.lt
      go_wp2_with fail
      refine (mkPart_any b P oP _ xs ls _ e.k (lastI ls) _ HJ3.out.hM HJ3.out.cP.c HJ3.out.cP.lt ((HG.out.below HJ3.out.bel).le HJ3.out.le) HOK.out HL.out (by first | (have := HF.out; have := HKE.out; omega) | (have := HF.out; have := HKE.out; have := HKI.out; omega))).mono ?_
      rintro e8 W4 ⟨rfl, hb3, ha3⟩
      have HJ4 := Lib.hid (HJ3.out.next hb3 ha3)
      clear aE3 aE aB hb3 ha3 HJ3
      have hQ : editS xs ls (lastI ls) e = addO (addO (addO (some []) (limO (partG xs ls 0 (e.k)))) (limO (partG xs ls e.i (e.j)))) (limO (partG xs ls e.k (lastI ls))) := by unfold editS; rw [if_neg (by rw [HKE.out]; decide), if_neg (by rw [HKE.out]; decide), if_pos HKE.out]
      have HQ := Lib.hid hQ
      clear hQ
      obtain ⟨vO, out, hB9, hO9, hs9, hok9⟩ := HJ4.out.hM
      obtain ⟨AO, kO, rfl, _⟩ := own_nil hO9
      have HOut := Lib.hid hok9
      have HO9 := Lib.hid hO9
      have lb := hB9.lt
      have rl := HJ4.out.hR.lt
      have rf := HJ4.out.hR.frozen 0
      have rc := HJ4.out.hR.cell (i := 0) (v := .slice none 0 0) rfl
      have HBE := Lib.hid HJ4.out.bel
      have HRR := Lib.hid HJ4.out.hR
      have hle := HJ4.out.le
      clear hok9 hO9 HJ4
      rw [← HQ.out] at hB9 hs9
      cases hS : editS xs ls (lastI ls) e with
      | none =>
        have q1 : applyOut xs e = [] ∧ applyCode xs e = 3 := by rw [HQA.out.1, HQA.out.2, hS]; exact ⟨rfl, rfl⟩
        have HX := Lib.hid q1
        have a2 := hB9.cell (i := 2) (v := .bool true) (by rw [hS]; rfl)
        clear hS hs9 hB9 q1
        go_wp2_with fail
        refine bodyPost_ret (v := .tuple #[.agg #[.slice none 0 0], .int .i64 3]) (by simp [results, Tryz.results39, go_sem, rc]) rfl ⟨Below.setCell HBE.out (by show w.heap.size ≤ w.heap.size; omega) _, .slice none 0 0, by rw [HX.out.1]; exact World.ownsRow_nil _ _ _ _, by rw [HX.out.2]⟩
      | some o =>
        have e9 := hs9 o hS
        subst e9
        have q1 : applyOut xs e = trimG o ∧ applyCode xs e = 0 := by rw [HQA.out.1, HQA.out.2, hS]; exact ⟨rfl, rfl⟩
        have HX := Lib.hid q1
        have a1 := hB9.cell (i := 1) (v := .slice AO o.length kO) rfl
        have a2 := hB9.cell (i := 2) (v := .bool false) (by rw [hS]; rfl)
        clear hS hs9 hB9 q1
        go_wp2_with fail
        refine (l02Trim_any b 1 _ o _ a1 lb HO9.out.sl (by have := gram_len400 HOut.out; omega) (okAll_lens (gram_lens HOut.out).2.choose_spec)).mono ?_
        rintro e10 w10 ⟨hb10, v10, own10, rfl⟩
        have HR10 := Lib.hid (HRR.out.up hb10)
        have HB10 := Lib.hid (Below.tr HBE.out hb10)
        have HO10 := Lib.hid own10
        obtain ⟨A10, k10, rfl, _⟩ := own_nil own10
        have b0 := HR10.out.cell (i := 0) (v := .slice none 0 0) rfl
        have b1 := HR10.out.frozen 0
        have b2 := HR10.out.lt
        have hzz := HBE.out.size
        clear hb10 own10 a1 a2 rl rf rc
        go_wp2_with fail
        refine bodyPost_ret (v := .tuple #[.agg #[.slice A10 (trimG o).length k10], .int .i64 0]) (by simp [results, Tryz.results39, go_sem, b0]) rfl ⟨HB10.out.setCell (by show w.heap.size ≤ w.heap.size; omega) _, .slice A10 (trimG o).length k10, ?_, by rw [HX.out.2]⟩
        rw [HX.out.1]
        exact ownsRow_more (ownsRow_setCell_below HO10.out (a := ⟨w.heap.size, 0, none⟩) (by show w.heap.size < _; omega) _) (by omega)
    · have x0 := HJ1.out.hE.c0
      rw [hk] at x0
      have HKE := Lib.hid hk
      clear hk
      by_cases hki : e.k ≤ e.i
      · have HKI := Lib.hid hki
        have y1 := HJ1.out.hE.c1
        have y3 := HJ1.out.hE.c3
        have yl := HJ1.out.hE.lt
        go_wp2_with fail
        go_quiet (fail)
        replace HJ1 := Lib.hid (HJ1.out.drewN nq)
        clear x0 y1 y3 yl
        generalize W1.drewN nq = W1 at *
        have x0 := HJ1.out.hE.c0
        rw [HKE.out] at x0
        have yl := HJ1.out.hE.lt
        clear hki
        have aE3 := HJ1.out.hE.c3
        have aE := HJ1.out.hE.lt
        have aB := HJ1.out.hM.lt
        go_wp2_with fail
        refine (mkPart_any b P oP _ xs ls _ 0 (e.k) _ HJ1.out.hM HJ1.out.cP.c HJ1.out.cP.lt ((HG.out.below HJ1.out.bel).le HJ1.out.le) HOK.out HL.out (by first | (have := HF.out; have := HKE.out; omega) | (have := HF.out; have := HKE.out; have := HKI.out; omega))).mono ?_
        rintro e6 W2 ⟨rfl, hb1, ha1⟩
        have HJ2 := Lib.hid (HJ1.out.next hb1 ha1)
        clear aE3 aE aB hb1 ha1 HJ1
        have aE1 := HJ2.out.hE.c1
        have aE2 := HJ2.out.hE.c2
        have aE := HJ2.out.hE.lt
        have aB := HJ2.out.hM.lt
        go_wp2_with fail
        go_still_tail 9, (by kernel_rfl)
        change wpList _ _ _ _ _ W2.drew
        replace HJ2 := Lib.hid HJ2.out.drew
        clear aE1 aE2 aE aB
        generalize W2.drew = W2 at *
        have aE1 := HJ2.out.hE.c1
        have aE2 := HJ2.out.hE.c2
        have aE := HJ2.out.hE.lt
        have aB := HJ2.out.hM.lt
        go_wp2_with fail
        refine (mkPart_any b P oP _ xs ls _ e.i (e.j) _ HJ2.out.hM HJ2.out.cP.c HJ2.out.cP.lt ((HG.out.below HJ2.out.bel).le HJ2.out.le) HOK.out HL.out (by first | (have := HF.out; have := HKE.out; omega) | (have := HF.out; have := HKE.out; have := HKI.out; omega))).mono ?_
        rintro e7 W3 ⟨rfl, hb2, ha2⟩
        have HJ3 := Lib.hid (HJ2.out.next hb2 ha2)
        clear aE1 aE2 aE aB hb2 ha2 HJ2
        have aE1 := HJ3.out.hE.c1
        have aE3 := HJ3.out.hE.c3
        have aE := HJ3.out.hE.lt
        have aB := HJ3.out.hM.lt
        go_wp2_with fail
        go_still_tail 9, (by kernel_rfl)
        change wpList _ _ _ _ _ W3.drew
        replace HJ3 := Lib.hid HJ3.out.drew
        clear aE1 aE3 aE aB
        generalize W3.drew = W3 at *
        have aE1 := HJ3.out.hE.c1
        have aE3 := HJ3.out.hE.c3
        have aE := HJ3.out.hE.lt
        have aB := HJ3.out.hM.lt
        go_wp2_with fail
        refine (mkPart_any b P oP _ xs ls _ e.k (e.i) _ HJ3.out.hM HJ3.out.cP.c HJ3.out.cP.lt ((HG.out.below HJ3.out.bel).le HJ3.out.le) HOK.out HL.out (by first | (have := HF.out; have := HKE.out; omega) | (have := HF.out; have := HKE.out; have := HKI.out; omega))).mono ?_
        rintro e8 W4 ⟨rfl, hb3, ha3⟩
        have HJ4 := Lib.hid (HJ3.out.next hb3 ha3)
        clear aE1 aE3 aE aB hb3 ha3 HJ3
        have aE2 := HJ4.out.hE.c2
        have aE := HJ4.out.hE.lt
        have aB := HJ4.out.hM.lt
        go_wp2_with fail
        refine (mkPart_any b P oP _ xs ls _ e.j (lastI ls) _ HJ4.out.hM HJ4.out.cP.c HJ4.out.cP.lt ((HG.out.below HJ4.out.bel).le HJ4.out.le) HOK.out HL.out (by first | (have := HF.out; have := HKE.out; omega) | (have := HF.out; have := HKE.out; have := HKI.out; omega))).mono ?_
        rintro e9 W5 ⟨rfl, hb4, ha4⟩
        have HJ5 := Lib.hid (HJ4.out.next hb4 ha4)
        clear aE2 aE aB hb4 ha4 HJ4
        have hQ : editS xs ls (lastI ls) e = addO (addO (addO (addO (some []) (limO (partG xs ls 0 (e.k)))) (limO (partG xs ls e.i (e.j)))) (limO (partG xs ls e.k (e.i)))) (limO (partG xs ls e.j (lastI ls))) := by unfold editS; rw [if_neg (by rw [HKE.out]; decide), if_neg (by rw [HKE.out]; decide), if_neg (by rw [HKE.out]; decide), if_pos HKE.out, if_pos HKI.out]
        have HQ := Lib.hid hQ
        clear hQ
        obtain ⟨vO, out, hB9, hO9, hs9, hok9⟩ := HJ5.out.hM
        obtain ⟨AO, kO, rfl, _⟩ := own_nil hO9
        have HOut := Lib.hid hok9
        have HO9 := Lib.hid hO9
        have lb := hB9.lt
        have rl := HJ5.out.hR.lt
        have rf := HJ5.out.hR.frozen 0
        have rc := HJ5.out.hR.cell (i := 0) (v := .slice none 0 0) rfl
        have HBE := Lib.hid HJ5.out.bel
        have HRR := Lib.hid HJ5.out.hR
        have hle := HJ5.out.le
        clear hok9 hO9 HJ5
        rw [← HQ.out] at hB9 hs9
        cases hS : editS xs ls (lastI ls) e with
        | none =>
          have q1 : applyOut xs e = [] ∧ applyCode xs e = 3 := by rw [HQA.out.1, HQA.out.2, hS]; exact ⟨rfl, rfl⟩
          have HX := Lib.hid q1
          have a2 := hB9.cell (i := 2) (v := .bool true) (by rw [hS]; rfl)
          clear hS hs9 hB9 q1
          go_wp2_with fail
          refine bodyPost_ret (v := .tuple #[.agg #[.slice none 0 0], .int .i64 3]) (by simp [results, Tryz.results39, go_sem, rc]) rfl ⟨Below.setCell HBE.out (by show w.heap.size ≤ w.heap.size; omega) _, .slice none 0 0, by rw [HX.out.1]; exact World.ownsRow_nil _ _ _ _, by rw [HX.out.2]⟩
        | some o =>
          have e9 := hs9 o hS
          subst e9
          have q1 : applyOut xs e = trimG o ∧ applyCode xs e = 0 := by rw [HQA.out.1, HQA.out.2, hS]; exact ⟨rfl, rfl⟩
          have HX := Lib.hid q1
          have a1 := hB9.cell (i := 1) (v := .slice AO o.length kO) rfl
          have a2 := hB9.cell (i := 2) (v := .bool false) (by rw [hS]; rfl)
          clear hS hs9 hB9 q1
          go_wp2_with fail
          refine (l02Trim_any b 1 _ o _ a1 lb HO9.out.sl (by have := gram_len400 HOut.out; omega) (okAll_lens (gram_lens HOut.out).2.choose_spec)).mono ?_
          rintro e10 w10 ⟨hb10, v10, own10, rfl⟩
          have HR10 := Lib.hid (HRR.out.up hb10)
          have HB10 := Lib.hid (Below.tr HBE.out hb10)
          have HO10 := Lib.hid own10
          obtain ⟨A10, k10, rfl, _⟩ := own_nil own10
          have b0 := HR10.out.cell (i := 0) (v := .slice none 0 0) rfl
          have b1 := HR10.out.frozen 0
          have b2 := HR10.out.lt
          have hzz := HBE.out.size
          clear hb10 own10 a1 a2 rl rf rc
          go_wp2_with fail
          refine bodyPost_ret (v := .tuple #[.agg #[.slice A10 (trimG o).length k10], .int .i64 0]) (by simp [results, Tryz.results39, go_sem, b0]) rfl ⟨HB10.out.setCell (by show w.heap.size ≤ w.heap.size; omega) _, .slice A10 (trimG o).length k10, ?_, by rw [HX.out.2]⟩
          rw [HX.out.1]
          exact ownsRow_more (ownsRow_setCell_below HO10.out (a := ⟨w.heap.size, 0, none⟩) (by show w.heap.size < _; omega) _) (by omega)
      · have HKI := Lib.hid hki
        have hkd : decide (e.k ≤ e.i) = false := by simp; omega
        have y1 := HJ1.out.hE.c1
        have y3 := HJ1.out.hE.c3
        have yl := HJ1.out.hE.lt
        go_wp2_with fail
        go_quiet (fail)
        replace HJ1 := Lib.hid (HJ1.out.drewN nq)
        clear x0 y1 y3 yl
        generalize W1.drewN nq = W1 at *
        have x0 := HJ1.out.hE.c0
        rw [HKE.out] at x0
        have yl := HJ1.out.hE.lt
        clear hki hkd
        have aE1 := HJ1.out.hE.c1
        have aE := HJ1.out.hE.lt
        have aB := HJ1.out.hM.lt
        go_wp2_with fail
        refine (mkPart_any b P oP _ xs ls _ 0 (e.i) _ HJ1.out.hM HJ1.out.cP.c HJ1.out.cP.lt ((HG.out.below HJ1.out.bel).le HJ1.out.le) HOK.out HL.out (by first | (have := HF.out; have := HKE.out; omega) | (have := HF.out; have := HKE.out; have := HKI.out; omega))).mono ?_
        rintro e6 W2 ⟨rfl, hb1, ha1⟩
        have HJ2 := Lib.hid (HJ1.out.next hb1 ha1)
        clear aE1 aE aB hb1 ha1 HJ1
        have aE2 := HJ2.out.hE.c2
        have aE3 := HJ2.out.hE.c3
        have aE := HJ2.out.hE.lt
        have aB := HJ2.out.hM.lt
        go_wp2_with fail
        go_still_tail 9, (by kernel_rfl)
        change wpList _ _ _ _ _ W2.drew
        replace HJ2 := Lib.hid HJ2.out.drew
        clear aE2 aE3 aE aB
        generalize W2.drew = W2 at *
        have aE2 := HJ2.out.hE.c2
        have aE3 := HJ2.out.hE.c3
        have aE := HJ2.out.hE.lt
        have aB := HJ2.out.hM.lt
        go_wp2_with fail
        refine (mkPart_any b P oP _ xs ls _ e.j (e.k) _ HJ2.out.hM HJ2.out.cP.c HJ2.out.cP.lt ((HG.out.below HJ2.out.bel).le HJ2.out.le) HOK.out HL.out (by first | (have := HF.out; have := HKE.out; omega) | (have := HF.out; have := HKE.out; have := HKI.out; omega))).mono ?_
        rintro e7 W3 ⟨rfl, hb2, ha2⟩
        have HJ3 := Lib.hid (HJ2.out.next hb2 ha2)
        clear aE2 aE3 aE aB hb2 ha2 HJ2
        have aE1 := HJ3.out.hE.c1
        have aE2 := HJ3.out.hE.c2
        have aE := HJ3.out.hE.lt
        have aB := HJ3.out.hM.lt
        go_wp2_with fail
        go_still_tail 9, (by kernel_rfl)
        change wpList _ _ _ _ _ W3.drew
        replace HJ3 := Lib.hid HJ3.out.drew
        clear aE1 aE2 aE aB
        generalize W3.drew = W3 at *
        have aE1 := HJ3.out.hE.c1
        have aE2 := HJ3.out.hE.c2
        have aE := HJ3.out.hE.lt
        have aB := HJ3.out.hM.lt
        go_wp2_with fail
        refine (mkPart_any b P oP _ xs ls _ e.i (e.j) _ HJ3.out.hM HJ3.out.cP.c HJ3.out.cP.lt ((HG.out.below HJ3.out.bel).le HJ3.out.le) HOK.out HL.out (by first | (have := HF.out; have := HKE.out; omega) | (have := HF.out; have := HKE.out; have := HKI.out; omega))).mono ?_
        rintro e8 W4 ⟨rfl, hb3, ha3⟩
        have HJ4 := Lib.hid (HJ3.out.next hb3 ha3)
        clear aE1 aE2 aE aB hb3 ha3 HJ3
        have aE3 := HJ4.out.hE.c3
        have aE := HJ4.out.hE.lt
        have aB := HJ4.out.hM.lt
        go_wp2_with fail
        refine (mkPart_any b P oP _ xs ls _ e.k (lastI ls) _ HJ4.out.hM HJ4.out.cP.c HJ4.out.cP.lt ((HG.out.below HJ4.out.bel).le HJ4.out.le) HOK.out HL.out (by first | (have := HF.out; have := HKE.out; omega) | (have := HF.out; have := HKE.out; have := HKI.out; omega))).mono ?_
        rintro e9 W5 ⟨rfl, hb4, ha4⟩
        have HJ5 := Lib.hid (HJ4.out.next hb4 ha4)
        clear aE3 aE aB hb4 ha4 HJ4
        have hQ : editS xs ls (lastI ls) e = addO (addO (addO (addO (some []) (limO (partG xs ls 0 (e.i)))) (limO (partG xs ls e.j (e.k)))) (limO (partG xs ls e.i (e.j)))) (limO (partG xs ls e.k (lastI ls))) := by unfold editS; rw [if_neg (by rw [HKE.out]; decide), if_neg (by rw [HKE.out]; decide), if_neg (by rw [HKE.out]; decide), if_pos HKE.out, if_neg (by have := HKI.out; omega)]
        have HQ := Lib.hid hQ
        clear hQ
        obtain ⟨vO, out, hB9, hO9, hs9, hok9⟩ := HJ5.out.hM
        obtain ⟨AO, kO, rfl, _⟩ := own_nil hO9
        have HOut := Lib.hid hok9
        have HO9 := Lib.hid hO9
        have lb := hB9.lt
        have rl := HJ5.out.hR.lt
        have rf := HJ5.out.hR.frozen 0
        have rc := HJ5.out.hR.cell (i := 0) (v := .slice none 0 0) rfl
        have HBE := Lib.hid HJ5.out.bel
        have HRR := Lib.hid HJ5.out.hR
        have hle := HJ5.out.le
        clear hok9 hO9 HJ5
        rw [← HQ.out] at hB9 hs9
        cases hS : editS xs ls (lastI ls) e with
        | none =>
          have q1 : applyOut xs e = [] ∧ applyCode xs e = 3 := by rw [HQA.out.1, HQA.out.2, hS]; exact ⟨rfl, rfl⟩
          have HX := Lib.hid q1
          have a2 := hB9.cell (i := 2) (v := .bool true) (by rw [hS]; rfl)
          clear hS hs9 hB9 q1
          go_wp2_with fail
          refine bodyPost_ret (v := .tuple #[.agg #[.slice none 0 0], .int .i64 3]) (by simp [results, Tryz.results39, go_sem, rc]) rfl ⟨Below.setCell HBE.out (by show w.heap.size ≤ w.heap.size; omega) _, .slice none 0 0, by rw [HX.out.1]; exact World.ownsRow_nil _ _ _ _, by rw [HX.out.2]⟩
        | some o =>
          have e9 := hs9 o hS
          subst e9
          have q1 : applyOut xs e = trimG o ∧ applyCode xs e = 0 := by rw [HQA.out.1, HQA.out.2, hS]; exact ⟨rfl, rfl⟩
          have HX := Lib.hid q1
          have a1 := hB9.cell (i := 1) (v := .slice AO o.length kO) rfl
          have a2 := hB9.cell (i := 2) (v := .bool false) (by rw [hS]; rfl)
          clear hS hs9 hB9 q1
          go_wp2_with fail
          refine (l02Trim_any b 1 _ o _ a1 lb HO9.out.sl (by have := gram_len400 HOut.out; omega) (okAll_lens (gram_lens HOut.out).2.choose_spec)).mono ?_
          rintro e10 w10 ⟨hb10, v10, own10, rfl⟩
          have HR10 := Lib.hid (HRR.out.up hb10)
          have HB10 := Lib.hid (Below.tr HBE.out hb10)
          have HO10 := Lib.hid own10
          obtain ⟨A10, k10, rfl, _⟩ := own_nil own10
          have b0 := HR10.out.cell (i := 0) (v := .slice none 0 0) rfl
          have b1 := HR10.out.frozen 0
          have b2 := HR10.out.lt
          have hzz := HBE.out.size
          clear hb10 own10 a1 a2 rl rf rc
          go_wp2_with fail
          refine bodyPost_ret (v := .tuple #[.agg #[.slice A10 (trimG o).length k10], .int .i64 0]) (by simp [results, Tryz.results39, go_sem, b0]) rfl ⟨HB10.out.setCell (by show w.heap.size ≤ w.heap.size; omega) _, .slice A10 (trimG o).length k10, ?_, by rw [HX.out.2]⟩
          rw [HX.out.1]
          exact ownsRow_more (ownsRow_setCell_below HO10.out (a := ⟨w.heap.size, 0, none⟩) (by show w.heap.size < _; omega) _) (by omega)
    · have HCK := Lib.hid hkk
      have hkc : ¬ e.kind = 1 ∧ ¬ e.kind = 2 ∧ ¬ e.kind = 3 ∧ ¬ e.kind = 4 ∧ (e.kind = 5 ∨ e.kind = 6 ∨ e.kind = 7) := by unfold chgOK at hkk; omega
      have HKC := Lib.hid hkc
      obtain ⟨_, _, _, _, hk⟩ := hkc
      clear hkk
      rcases hk with hk | hk | hk
      · have x0 := HJ1.out.hE.c0
        rw [hk] at x0
        have HKE := Lib.hid hk
        clear hk
        have y1 := HJ1.out.hE.c1
        have y3 := HJ1.out.hE.c3
        have yl := HJ1.out.hE.lt
        go_wp2_with fail
        go_quiet (fail)
        replace HJ1 := Lib.hid (HJ1.out.drewN nq)
        clear x0 y1 y3 yl
        generalize W1.drewN nq = W1 at *
        have x0 := HJ1.out.hE.c0
        rw [HKE.out] at x0
        have yl := HJ1.out.hE.lt
        have aE1 := HJ1.out.hE.c1
        have aE := HJ1.out.hE.lt
        have aB := HJ1.out.hM.lt
        go_wp2_with fail
        refine (mkPart_any b P oP _ xs ls _ 0 (e.i) _ HJ1.out.hM HJ1.out.cP.c HJ1.out.cP.lt ((HG.out.below HJ1.out.bel).le HJ1.out.le) HOK.out HL.out (by first | (have := HF.out; have := HKE.out; omega) | (have := HF.out; have := HKE.out; have := HKI.out; omega))).mono ?_
        rintro e6 W2 ⟨rfl, hb1, ha1⟩
        have HJ2 := Lib.hid (HJ1.out.next hb1 ha1)
        clear aE1 aE aB hb1 ha1 HJ1
        have aE := HJ2.out.hE.lt
        have aB := HJ2.out.hM.lt
        go_wp2_with fail
        refine (mkChanged_any b P oP E oE e _ _ xs ls _ _ HJ2.out.hM HJ2.out.cP HJ2.out.hE HJ2.out.neE ((HG.out.below HJ2.out.bel).le HJ2.out.le) HOK.out HL.out (by first | (have := HF.out; have := HKE.out; omega) | (have := HF.out; have := HKE.out; have := HKI.out; omega)) HCK.out).mono ?_
        rintro e7 W3 ⟨rfl, hb2, ha2⟩
        have HJ3 := Lib.hid (HJ2.out.next hb2 ha2)
        clear aE aB hb2 ha2 HJ2
        have aE2 := HJ3.out.hE.c2
        have aE := HJ3.out.hE.lt
        have aB := HJ3.out.hM.lt
        go_wp2_with fail
        refine (mkPart_any b P oP _ xs ls _ e.j (lastI ls) _ HJ3.out.hM HJ3.out.cP.c HJ3.out.cP.lt ((HG.out.below HJ3.out.bel).le HJ3.out.le) HOK.out HL.out (by first | (have := HF.out; have := HKE.out; omega) | (have := HF.out; have := HKE.out; have := HKI.out; omega))).mono ?_
        rintro e8 W4 ⟨rfl, hb3, ha3⟩
        have HJ4 := Lib.hid (HJ3.out.next hb3 ha3)
        clear aE2 aE aB hb3 ha3 HJ3
        have hQ : editS xs ls (lastI ls) e = addO (addO (addO (some []) (limO (partG xs ls 0 (e.i)))) ((limO (partG xs ls e.i e.j)).bind (chgO e))) (limO (partG xs ls e.j (lastI ls))) := by unfold editS; rw [if_neg HKC.out.1, if_neg HKC.out.2.1, if_neg HKC.out.2.2.1, if_neg HKC.out.2.2.2.1]
        have HQ := Lib.hid hQ
        clear hQ
        obtain ⟨vO, out, hB9, hO9, hs9, hok9⟩ := HJ4.out.hM
        obtain ⟨AO, kO, rfl, _⟩ := own_nil hO9
        have HOut := Lib.hid hok9
        have HO9 := Lib.hid hO9
        have lb := hB9.lt
        have rl := HJ4.out.hR.lt
        have rf := HJ4.out.hR.frozen 0
        have rc := HJ4.out.hR.cell (i := 0) (v := .slice none 0 0) rfl
        have HBE := Lib.hid HJ4.out.bel
        have HRR := Lib.hid HJ4.out.hR
        have hle := HJ4.out.le
        clear hok9 hO9 HJ4
        rw [← HQ.out] at hB9 hs9
        cases hS : editS xs ls (lastI ls) e with
        | none =>
          have q1 : applyOut xs e = [] ∧ applyCode xs e = 3 := by rw [HQA.out.1, HQA.out.2, hS]; exact ⟨rfl, rfl⟩
          have HX := Lib.hid q1
          have a2 := hB9.cell (i := 2) (v := .bool true) (by rw [hS]; rfl)
          clear hS hs9 hB9 q1
          go_wp2_with fail
          refine bodyPost_ret (v := .tuple #[.agg #[.slice none 0 0], .int .i64 3]) (by simp [results, Tryz.results39, go_sem, rc]) rfl ⟨Below.setCell HBE.out (by show w.heap.size ≤ w.heap.size; omega) _, .slice none 0 0, by rw [HX.out.1]; exact World.ownsRow_nil _ _ _ _, by rw [HX.out.2]⟩
        | some o =>
          have e9 := hs9 o hS
          subst e9
          have q1 : applyOut xs e = trimG o ∧ applyCode xs e = 0 := by rw [HQA.out.1, HQA.out.2, hS]; exact ⟨rfl, rfl⟩
          have HX := Lib.hid q1
          have a1 := hB9.cell (i := 1) (v := .slice AO o.length kO) rfl
          have a2 := hB9.cell (i := 2) (v := .bool false) (by rw [hS]; rfl)
          clear hS hs9 hB9 q1
          go_wp2_with fail
          refine (l02Trim_any b 1 _ o _ a1 lb HO9.out.sl (by have := gram_len400 HOut.out; omega) (okAll_lens (gram_lens HOut.out).2.choose_spec)).mono ?_
          rintro e10 w10 ⟨hb10, v10, own10, rfl⟩
          have HR10 := Lib.hid (HRR.out.up hb10)
          have HB10 := Lib.hid (Below.tr HBE.out hb10)
          have HO10 := Lib.hid own10
          obtain ⟨A10, k10, rfl, _⟩ := own_nil own10
          have b0 := HR10.out.cell (i := 0) (v := .slice none 0 0) rfl
          have b1 := HR10.out.frozen 0
          have b2 := HR10.out.lt
          have hzz := HBE.out.size
          clear hb10 own10 a1 a2 rl rf rc
          go_wp2_with fail
          refine bodyPost_ret (v := .tuple #[.agg #[.slice A10 (trimG o).length k10], .int .i64 0]) (by simp [results, Tryz.results39, go_sem, b0]) rfl ⟨HB10.out.setCell (by show w.heap.size ≤ w.heap.size; omega) _, .slice A10 (trimG o).length k10, ?_, by rw [HX.out.2]⟩
          rw [HX.out.1]
          exact ownsRow_more (ownsRow_setCell_below HO10.out (a := ⟨w.heap.size, 0, none⟩) (by show w.heap.size < _; omega) _) (by omega)
      · have x0 := HJ1.out.hE.c0
        rw [hk] at x0
        have HKE := Lib.hid hk
        clear hk
        have y1 := HJ1.out.hE.c1
        have y3 := HJ1.out.hE.c3
        have yl := HJ1.out.hE.lt
        go_wp2_with fail
        go_quiet (fail)
        replace HJ1 := Lib.hid (HJ1.out.drewN nq)
        clear x0 y1 y3 yl
        generalize W1.drewN nq = W1 at *
        have x0 := HJ1.out.hE.c0
        rw [HKE.out] at x0
        have yl := HJ1.out.hE.lt
        have aE1 := HJ1.out.hE.c1
        have aE := HJ1.out.hE.lt
        have aB := HJ1.out.hM.lt
        go_wp2_with fail
        refine (mkPart_any b P oP _ xs ls _ 0 (e.i) _ HJ1.out.hM HJ1.out.cP.c HJ1.out.cP.lt ((HG.out.below HJ1.out.bel).le HJ1.out.le) HOK.out HL.out (by first | (have := HF.out; have := HKE.out; omega) | (have := HF.out; have := HKE.out; have := HKI.out; omega))).mono ?_
        rintro e6 W2 ⟨rfl, hb1, ha1⟩
        have HJ2 := Lib.hid (HJ1.out.next hb1 ha1)
        clear aE1 aE aB hb1 ha1 HJ1
        have aE := HJ2.out.hE.lt
        have aB := HJ2.out.hM.lt
        go_wp2_with fail
        refine (mkChanged_any b P oP E oE e _ _ xs ls _ _ HJ2.out.hM HJ2.out.cP HJ2.out.hE HJ2.out.neE ((HG.out.below HJ2.out.bel).le HJ2.out.le) HOK.out HL.out (by first | (have := HF.out; have := HKE.out; omega) | (have := HF.out; have := HKE.out; have := HKI.out; omega)) HCK.out).mono ?_
        rintro e7 W3 ⟨rfl, hb2, ha2⟩
        have HJ3 := Lib.hid (HJ2.out.next hb2 ha2)
        clear aE aB hb2 ha2 HJ2
        have aE2 := HJ3.out.hE.c2
        have aE := HJ3.out.hE.lt
        have aB := HJ3.out.hM.lt
        go_wp2_with fail
        refine (mkPart_any b P oP _ xs ls _ e.j (lastI ls) _ HJ3.out.hM HJ3.out.cP.c HJ3.out.cP.lt ((HG.out.below HJ3.out.bel).le HJ3.out.le) HOK.out HL.out (by first | (have := HF.out; have := HKE.out; omega) | (have := HF.out; have := HKE.out; have := HKI.out; omega))).mono ?_
        rintro e8 W4 ⟨rfl, hb3, ha3⟩
        have HJ4 := Lib.hid (HJ3.out.next hb3 ha3)
        clear aE2 aE aB hb3 ha3 HJ3
        have hQ : editS xs ls (lastI ls) e = addO (addO (addO (some []) (limO (partG xs ls 0 (e.i)))) ((limO (partG xs ls e.i e.j)).bind (chgO e))) (limO (partG xs ls e.j (lastI ls))) := by unfold editS; rw [if_neg HKC.out.1, if_neg HKC.out.2.1, if_neg HKC.out.2.2.1, if_neg HKC.out.2.2.2.1]
        have HQ := Lib.hid hQ
        clear hQ
        obtain ⟨vO, out, hB9, hO9, hs9, hok9⟩ := HJ4.out.hM
        obtain ⟨AO, kO, rfl, _⟩ := own_nil hO9
        have HOut := Lib.hid hok9
        have HO9 := Lib.hid hO9
        have lb := hB9.lt
        have rl := HJ4.out.hR.lt
        have rf := HJ4.out.hR.frozen 0
        have rc := HJ4.out.hR.cell (i := 0) (v := .slice none 0 0) rfl
        have HBE := Lib.hid HJ4.out.bel
        have HRR := Lib.hid HJ4.out.hR
        have hle := HJ4.out.le
        clear hok9 hO9 HJ4
        rw [← HQ.out] at hB9 hs9
        cases hS : editS xs ls (lastI ls) e with
        | none =>
          have q1 : applyOut xs e = [] ∧ applyCode xs e = 3 := by rw [HQA.out.1, HQA.out.2, hS]; exact ⟨rfl, rfl⟩
          have HX := Lib.hid q1
          have a2 := hB9.cell (i := 2) (v := .bool true) (by rw [hS]; rfl)
          clear hS hs9 hB9 q1
          go_wp2_with fail
          refine bodyPost_ret (v := .tuple #[.agg #[.slice none 0 0], .int .i64 3]) (by simp [results, Tryz.results39, go_sem, rc]) rfl ⟨Below.setCell HBE.out (by show w.heap.size ≤ w.heap.size; omega) _, .slice none 0 0, by rw [HX.out.1]; exact World.ownsRow_nil _ _ _ _, by rw [HX.out.2]⟩
        | some o =>
          have e9 := hs9 o hS
          subst e9
          have q1 : applyOut xs e = trimG o ∧ applyCode xs e = 0 := by rw [HQA.out.1, HQA.out.2, hS]; exact ⟨rfl, rfl⟩
          have HX := Lib.hid q1
          have a1 := hB9.cell (i := 1) (v := .slice AO o.length kO) rfl
          have a2 := hB9.cell (i := 2) (v := .bool false) (by rw [hS]; rfl)
          clear hS hs9 hB9 q1
          go_wp2_with fail
          refine (l02Trim_any b 1 _ o _ a1 lb HO9.out.sl (by have := gram_len400 HOut.out; omega) (okAll_lens (gram_lens HOut.out).2.choose_spec)).mono ?_
          rintro e10 w10 ⟨hb10, v10, own10, rfl⟩
          have HR10 := Lib.hid (HRR.out.up hb10)
          have HB10 := Lib.hid (Below.tr HBE.out hb10)
          have HO10 := Lib.hid own10
          obtain ⟨A10, k10, rfl, _⟩ := own_nil own10
          have b0 := HR10.out.cell (i := 0) (v := .slice none 0 0) rfl
          have b1 := HR10.out.frozen 0
          have b2 := HR10.out.lt
          have hzz := HBE.out.size
          clear hb10 own10 a1 a2 rl rf rc
          go_wp2_with fail
          refine bodyPost_ret (v := .tuple #[.agg #[.slice A10 (trimG o).length k10], .int .i64 0]) (by simp [results, Tryz.results39, go_sem, b0]) rfl ⟨HB10.out.setCell (by show w.heap.size ≤ w.heap.size; omega) _, .slice A10 (trimG o).length k10, ?_, by rw [HX.out.2]⟩
          rw [HX.out.1]
          exact ownsRow_more (ownsRow_setCell_below HO10.out (a := ⟨w.heap.size, 0, none⟩) (by show w.heap.size < _; omega) _) (by omega)
      · have x0 := HJ1.out.hE.c0
        rw [hk] at x0
        have HKE := Lib.hid hk
        clear hk
        have y1 := HJ1.out.hE.c1
        have y3 := HJ1.out.hE.c3
        have yl := HJ1.out.hE.lt
        go_wp2_with fail
        go_quiet (fail)
        replace HJ1 := Lib.hid (HJ1.out.drewN nq)
        clear x0 y1 y3 yl
        generalize W1.drewN nq = W1 at *
        have x0 := HJ1.out.hE.c0
        rw [HKE.out] at x0
        have yl := HJ1.out.hE.lt
        have aE1 := HJ1.out.hE.c1
        have aE := HJ1.out.hE.lt
        have aB := HJ1.out.hM.lt
        go_wp2_with fail
        refine (mkPart_any b P oP _ xs ls _ 0 (e.i) _ HJ1.out.hM HJ1.out.cP.c HJ1.out.cP.lt ((HG.out.below HJ1.out.bel).le HJ1.out.le) HOK.out HL.out (by first | (have := HF.out; have := HKE.out; omega) | (have := HF.out; have := HKE.out; have := HKI.out; omega))).mono ?_
        rintro e6 W2 ⟨rfl, hb1, ha1⟩
        have HJ2 := Lib.hid (HJ1.out.next hb1 ha1)
        clear aE1 aE aB hb1 ha1 HJ1
        have aE := HJ2.out.hE.lt
        have aB := HJ2.out.hM.lt
        go_wp2_with fail
        refine (mkChanged_any b P oP E oE e _ _ xs ls _ _ HJ2.out.hM HJ2.out.cP HJ2.out.hE HJ2.out.neE ((HG.out.below HJ2.out.bel).le HJ2.out.le) HOK.out HL.out (by first | (have := HF.out; have := HKE.out; omega) | (have := HF.out; have := HKE.out; have := HKI.out; omega)) HCK.out).mono ?_
        rintro e7 W3 ⟨rfl, hb2, ha2⟩
        have HJ3 := Lib.hid (HJ2.out.next hb2 ha2)
        clear aE aB hb2 ha2 HJ2
        have aE2 := HJ3.out.hE.c2
        have aE := HJ3.out.hE.lt
        have aB := HJ3.out.hM.lt
        go_wp2_with fail
        refine (mkPart_any b P oP _ xs ls _ e.j (lastI ls) _ HJ3.out.hM HJ3.out.cP.c HJ3.out.cP.lt ((HG.out.below HJ3.out.bel).le HJ3.out.le) HOK.out HL.out (by first | (have := HF.out; have := HKE.out; omega) | (have := HF.out; have := HKE.out; have := HKI.out; omega))).mono ?_
        rintro e8 W4 ⟨rfl, hb3, ha3⟩
        have HJ4 := Lib.hid (HJ3.out.next hb3 ha3)
        clear aE2 aE aB hb3 ha3 HJ3
        have hQ : editS xs ls (lastI ls) e = addO (addO (addO (some []) (limO (partG xs ls 0 (e.i)))) ((limO (partG xs ls e.i e.j)).bind (chgO e))) (limO (partG xs ls e.j (lastI ls))) := by unfold editS; rw [if_neg HKC.out.1, if_neg HKC.out.2.1, if_neg HKC.out.2.2.1, if_neg HKC.out.2.2.2.1]
        have HQ := Lib.hid hQ
        clear hQ
        obtain ⟨vO, out, hB9, hO9, hs9, hok9⟩ := HJ4.out.hM
        obtain ⟨AO, kO, rfl, _⟩ := own_nil hO9
        have HOut := Lib.hid hok9
        have HO9 := Lib.hid hO9
        have lb := hB9.lt
        have rl := HJ4.out.hR.lt
        have rf := HJ4.out.hR.frozen 0
        have rc := HJ4.out.hR.cell (i := 0) (v := .slice none 0 0) rfl
        have HBE := Lib.hid HJ4.out.bel
        have HRR := Lib.hid HJ4.out.hR
        have hle := HJ4.out.le
        clear hok9 hO9 HJ4
        rw [← HQ.out] at hB9 hs9
        cases hS : editS xs ls (lastI ls) e with
        | none =>
          have q1 : applyOut xs e = [] ∧ applyCode xs e = 3 := by rw [HQA.out.1, HQA.out.2, hS]; exact ⟨rfl, rfl⟩
          have HX := Lib.hid q1
          have a2 := hB9.cell (i := 2) (v := .bool true) (by rw [hS]; rfl)
          clear hS hs9 hB9 q1
          go_wp2_with fail
          refine bodyPost_ret (v := .tuple #[.agg #[.slice none 0 0], .int .i64 3]) (by simp [results, Tryz.results39, go_sem, rc]) rfl ⟨Below.setCell HBE.out (by show w.heap.size ≤ w.heap.size; omega) _, .slice none 0 0, by rw [HX.out.1]; exact World.ownsRow_nil _ _ _ _, by rw [HX.out.2]⟩
        | some o =>
          have e9 := hs9 o hS
          subst e9
          have q1 : applyOut xs e = trimG o ∧ applyCode xs e = 0 := by rw [HQA.out.1, HQA.out.2, hS]; exact ⟨rfl, rfl⟩
          have HX := Lib.hid q1
          have a1 := hB9.cell (i := 1) (v := .slice AO o.length kO) rfl
          have a2 := hB9.cell (i := 2) (v := .bool false) (by rw [hS]; rfl)
          clear hS hs9 hB9 q1
          go_wp2_with fail
          refine (l02Trim_any b 1 _ o _ a1 lb HO9.out.sl (by have := gram_len400 HOut.out; omega) (okAll_lens (gram_lens HOut.out).2.choose_spec)).mono ?_
          rintro e10 w10 ⟨hb10, v10, own10, rfl⟩
          have HR10 := Lib.hid (HRR.out.up hb10)
          have HB10 := Lib.hid (Below.tr HBE.out hb10)
          have HO10 := Lib.hid own10
          obtain ⟨A10, k10, rfl, _⟩ := own_nil own10
          have b0 := HR10.out.cell (i := 0) (v := .slice none 0 0) rfl
          have b1 := HR10.out.frozen 0
          have b2 := HR10.out.lt
          have hzz := HBE.out.size
          clear hb10 own10 a1 a2 rl rf rc
          go_wp2_with fail
          refine bodyPost_ret (v := .tuple #[.agg #[.slice A10 (trimG o).length k10], .int .i64 0]) (by simp [results, Tryz.results39, go_sem, b0]) rfl ⟨HB10.out.setCell (by show w.heap.size ≤ w.heap.size; omega) _, .slice A10 (trimG o).length k10, ?_, by rw [HX.out.2]⟩
          rw [HX.out.1]
          exact ownsRow_more (ownsRow_setCell_below HO10.out (a := ⟨w.heap.size, 0, none⟩) (by show w.heap.size < _; omega) _) (by omega)
end Go.Proofs.YtfapnipmgmpgaaaGreatDoor

namespace Go.Proofs.YtfapnipmgmpgaaaGreatDoor
open Go.RowKit

theorem EC.at_ {w : World} {E : Nat} {e : GEdit} {vR : Value} (h : EC w E 0 e vR) (hR : Sl RuleE w w.heap.size vR e.part) : EditAt w w.heap.size E e vR :=
  ⟨⟨h.c0, by simpa using h.c1, by simpa using h.c2, by simpa using h.c3, by simpa using h.c4, by simpa using h.c5⟩, h.lt, hR⟩
end Go.Proofs.YtfapnipmgmpgaaaGreatDoor

namespace Go.Proofs.YtfapnipmgmpgaaaGreatDoor
open Go.RowKit

theorem szE_le2 {e : GEdit} {left : Int} (hl : 0 ≤ left ∧ left ≤ 1048576) (h : 0 ≤ szE e left) : e.part.length ≤ 1048576 := by
  unfold szE at h
  split at h
  · omega
  · obtain ⟨_, h2⟩ := szRs_le e.part left (by omega)
    omega
theorem addO_ok {s g : Option (List GRule)} {o : List GRule} (h : addO s g = some o) : gramOk o = true := by
  unfold addO at h
  split at h
  · split at h
    · rename_i h2; cases h; exact h2
    · cases h
  · cases h
theorem editS_ok {xs : List GRule} {ls : List Int} {n : Int} {e : GEdit} {o : List GRule} (h : editS xs ls n e = some o) : gramOk o = true := by
  unfold editS at h
  repeat' split at h
  all_goals exact addO_ok h
theorem applyOut_ok (xs : List GRule) (e : GEdit) : gramOk (applyOut xs e) = true := by
  unfold applyOut
  split
  · split
    · unfold editG applyS
      cases h : editS xs (lsOf xs) (lastI (lsOf xs)) e with
      | none => rfl
      | some o => exact gramOk_trim (editS_ok h)
    · rfl
  · rfl
theorem OwnRules.sl1 {w W : World} {base : Nat} {v : Value} {l : List GRule} (h : OwnRules w base v l) (hb : Below w.heap.size w W) : Sl RuleE W W.heap.size v l := (OwnRules.sl h).up hb
end Go.Proofs.YtfapnipmgmpgaaaGreatDoor

namespace Go.Proofs.YtfapnipmgmpgaaaGreatDoor

theorem lens_app (xs ys : List GRule) : lens (xs ++ ys) = ys.foldl lensStep (lens xs) := by simp [lens, List.foldl_append]
/-- Rules that are right are right up to each place. -/
theorem lens_pre {xs ys : List GRule} {l : List Int} (h : lens (xs ++ ys) = some l) : ∃ l1 t, lens xs = some l1 ∧ l = l1 ++ t := by
  rw [lens_app] at h
  cases hx : lens xs with
  | none => rw [hx, lens_none] at h; cases h
  | some l1 =>
    rw [hx] at h
    suffices H : ∀ (ys : List GRule) (a o : List Int), ys.foldl lensStep (some a) = some o → ∃ t, o = a ++ t by
      obtain ⟨t, ht⟩ := H ys l1 l h
      exact ⟨l1, t, rfl, ht⟩
    intro ys
    induction ys with
    | nil => intro a o h; simp at h; exact ⟨[], by simp [h]⟩
    | cons y ys ih =>
      intro a o h
      rw [List.foldl_cons] at h
      cases hs : lensStep (some a) y with
      | none => rw [hs, lens_none] at h; cases h
      | some b =>
        rw [hs] at h
        obtain ⟨t, rfl⟩ := ih b o h
        simp only [lensStep, Option.bind_some] at hs
        split at hs
        · cases hs; exact ⟨_, by rw [List.append_assoc]⟩
        · cases hs
theorem getR_app {xs ys : List GRule} {r : Nat} (h : r < xs.length) : getR (xs ++ ys) r = getR xs r := by
  unfold getR; rw [List.getD_eq_getElem?_getD, List.getElem?_append_left h, List.getD_eq_getElem?_getD]
theorem wordR_app {xs ys : List GRule} {ls : List Int} (h : lens xs = some ls) : ∀ (f r : Nat), r < xs.length → wordR (xs ++ ys) f r = wordR xs f r := by
  intro f
  induction f with
  | zero => intro r _; rfl
  | succ f ih =>
    intro r hr
    rw [wordR, wordR, getR_app hr]
    cases hp : (getR xs r).pair with
    | false => rfl
    | true =>
      obtain ⟨q1, q2, q3, q4, q5⟩ := lens_pair h hr hp
      rw [if_pos rfl, if_pos rfl, ih _ (by omega), ih _ (by omega)]
theorem W1_appL {xs ys : List GRule} {ls : List Int} (h : lens xs = some ls) {r : Nat} (hr : r < xs.length) : W1 (xs ++ ys) r = W1 xs r := wordR_app h _ _ hr
theorem getR_new (xs : List GRule) (x : GRule) : getR (xs ++ [x]) xs.length = x := by
  unfold getR; rw [List.getD_eq_getElem?_getD, List.getElem?_append_right (Nat.le_refl _), Nat.sub_self]; rfl
theorem W1_snoc {xs : List GRule} {l : List Int} {a b : Nat} (h : lens (xs ++ [pairR a b]) = some l) (ha : a < xs.length) (hb : b < xs.length) : W1 (xs ++ [pairR a b]) xs.length = W1 xs a ++ W1 xs b := by
  obtain ⟨l1, t, h1, _⟩ := lens_pre h
  have hp : (getR (xs ++ [pairR a b]) xs.length).pair = true := by rw [getR_new]; exact pairR_pair _ _
  rw [W1_pair h (by simp) hp, getR_new]
  show W1 (xs ++ [pairR a b]) (Int.toNat (a : Int)) ++ W1 (xs ++ [pairR a b]) (Int.toNat (b : Int)) = _
  rw [Int.toNat_natCast, Int.toNat_natCast, W1_appL h1 ha, W1_appL h1 hb]
theorem lens_snoc {xs : List GRule} {ls : List Int} {a b : Nat} (h : lens xs = some ls) (ha : a < xs.length) (hb : b < xs.length) (hm : ls.getD a 0 + ls.getD b 0 ≤ maxL) : lens (xs ++ [pairR a b]) = some (ls ++ [ls.getD a 0 + ls.getD b 0]) := by
  rw [lens_app, h]
  have hl := lens_length h
  have hr : ruleLen ls (pairR a b) = ls.getD a 0 + ls.getD b 0 := by
    unfold ruleLen
    rw [if_pos (pairR_pair _ _)]
    show ls.getD (Int.toNat (a : Int)) 0 + ls.getD (Int.toNat (b : Int)) 0 = _
    rw [Int.toNat_natCast, Int.toNat_natCast]
  simp only [List.foldl_cons, List.foldl_nil, lensStep, Option.bind_some]
  rw [hr, if_pos ⟨okRule_pair ⟨by omega, by omega⟩ ⟨by omega, by omega⟩, hm⟩]
/-- Joining one rule behind another. -/
theorem join_word {xs : List GRule} {ls : List Int} (h : lens xs = some ls) : ∀ (cs : List Nat) (L : List GRule) (l0 : List Int) (t : Nat) (w : List UInt8), lens L = some l0 → (∃ y, L = xs ++ y) → t < L.length → W1 L t = w → (∀ c ∈ cs, c < xs.length) →
    ((w ++ cs.flatMap (W1 xs)).length : Int) ≤ maxL → ∃ (l1 : List Int) (T : Nat), lens (cs.foldl joinStep (L, (t : Int))).1 = some l1 ∧ (cs.foldl joinStep (L, (t : Int))).2 = (T : Int) ∧ T < (cs.foldl joinStep (L, (t : Int))).1.length ∧ W1 (cs.foldl joinStep (L, (t : Int))).1 T = w ++ cs.flatMap (W1 xs) ∧ (cs ≠ [] → T = (cs.foldl joinStep (L, (t : Int))).1.length - 1) := by
  intro cs
  induction cs with
  | nil => intro L l0 t w h1 _ ht hw _ _; exact ⟨l0, t, h1, rfl, ht, by simpa using hw, fun h => absurd rfl h⟩
  | cons c cs ih =>
    intro L l0 t w h1 hy ht hw hc hm
    obtain ⟨y, rfl⟩ := hy
    have hcl : c < xs.length := hc c (by simp)
    have hcL : c < (xs ++ y).length := by simp; omega
    have hwc : W1 (xs ++ y) c = W1 xs c := W1_appL h hcl
    have e1 := W1_len h1 t ht
    have e2 := W1_len h1 c hcL
    rw [hw] at e1
    rw [hwc] at e2
    rw [List.flatMap_cons, ← List.append_assoc] at hm
    have hsum : l0.getD t 0 + l0.getD c 0 ≤ maxL := by
      rw [List.length_append, List.length_append] at hm
      omega
    have h2 := lens_snoc h1 ht hcL hsum
    have hw2 := W1_snoc h2 ht hcL
    rw [hw, hwc] at hw2
    obtain ⟨l1, T, k1, k2, k3, k4, k5⟩ := ih ((xs ++ y) ++ [pairR t c]) _ (xs ++ y).length (w ++ W1 xs c) h2 ⟨y ++ [pairR t c], by rw [List.append_assoc]⟩ (by simp) hw2 (fun d hd => hc d (by simp [hd])) hm
    have e : (c :: cs).foldl joinStep (xs ++ y, (t : Int)) = cs.foldl joinStep ((xs ++ y) ++ [pairR t c], (((xs ++ y).length : Nat) : Int)) := rfl
    rw [e]
    refine ⟨l1, T, k1, k2, k3, by rw [k4, List.flatMap_cons, List.append_assoc], fun _ => ?_⟩
    by_cases hcs : cs = []
    · subst hcs
      have : T = (xs ++ y).length := by
        have h3 : (((xs ++ y).length : Nat) : Int) = (T : Int) := k2
        omega
      rw [this]; simp
    · exact k5 hcs
theorem cutG_word {xs : List GRule} {ls : List Int} (h : lens xs = some ls) (cs : List Nat) (hc : ∀ c ∈ cs, c < xs.length) (hm : ((cs.flatMap (W1 xs)).length : Int) ≤ maxL) : ∃ l1, lens (cutG xs cs) = some l1 ∧ wordG (cutG xs cs) = cs.flatMap (W1 xs) := by
  match cs with
  | [] => exact ⟨[], rfl, rfl⟩
  | [c] =>
    have hcl : c < xs.length := hc c (by simp)
    have hx : xs.take (c + 1) ++ xs.drop (c + 1) = xs := List.take_append_drop _ _
    obtain ⟨l1, t, h1, _⟩ := lens_pre (xs := xs.take (c + 1)) (ys := xs.drop (c + 1)) (by rw [hx]; exact h)
    refine ⟨l1, h1, ?_⟩
    show wordG (xs.take (c + 1)) = _
    have hl : (xs.take (c + 1)).length = c + 1 := by rw [List.length_take]; omega
    rw [wordG_pos (by omega), hl, List.flatMap_cons, List.flatMap_nil, List.append_nil]
    have := W1_appL (ys := xs.drop (c + 1)) h1 (r := c) (by omega)
    rw [hx] at this
    rw [this]; rfl
  | c :: d :: cs =>
    obtain ⟨l1, T, k1, k2, k3, k4, k5⟩ := join_word h (d :: cs) xs ls c (W1 xs c) h ⟨[], by simp⟩ (hc c (by simp)) rfl (fun x hx => hc x (by simp at hx; simp; exact .inr hx)) (by simpa using hm)
    refine ⟨l1, k1, ?_⟩
    have hT := k5 (by simp)
    show wordG ((d :: cs).foldl joinStep (xs, (c : Int))).1 = _
    rw [wordG_pos (by omega), ← hT, k4]; simp
/-- The word of a part is the part of the word. -/
theorem partG_word {xs : List GRule} {ls : List Int} (h : lens xs = some ls) {i j : Int} (hi : 0 ≤ i) (hij : i ≤ j) (hj : j ≤ lastI ls) : ∃ l1, lens (partG xs ls i j) = some l1 ∧ wordG (partG xs ls i j) = cutL (wordG xs) i j := by
  have hw := pieces_word h (i := i) (j := j)
  have hlen := wordG_len h
  have hb := gramLen_bounds xs
  rw [gramLen_of h] at hb
  have hm : (((piecesL xs ls i j).flatMap (W1 xs)).length : Int) ≤ maxL := by
    rw [hw, cutL_len hi hij (by omega)]; unfold maxL; omega
  obtain ⟨l1, h1, h2⟩ := cutG_word h _ (pieces_mem h i j) hm
  obtain ⟨l2, h3, h4, _⟩ := trimG_sem h1
  exact ⟨l2, h3, by unfold partG; rw [h4, h2, hw]⟩
theorem partG_gramLen {xs : List GRule} {ls : List Int} (h : lens xs = some ls) {i j : Int} (hi : 0 ≤ i) (hij : i ≤ j) (hj : j ≤ lastI ls) : gramLen (partG xs ls i j) = j - i := by
  obtain ⟨l1, h1, h2⟩ := partG_word h hi hij hj
  have hlen := wordG_len h
  rw [gramLen_of h1, ← wordG_len h1, h2, cutL_len hi hij (by omega)]
end Go.Proofs.YtfapnipmgmpgaaaGreatDoor

namespace Go.Proofs.YtfapnipmgmpgaaaGreatDoor
open Go.RowKit

/-- How an edit lies in six cells. -/
def EditE : Enc GEdit where
  size := 6
  pos := by decide
  cells := fun w S e cs => ∃ vR, cs = [.int .i64 e.kind, .int .i64 e.i, .int .i64 e.j, .int .i64 e.k, vR, .string e.map] ∧ SlS RuleE w S vR e.part
  len := by rintro _ _ _ _ ⟨vR, rfl, _⟩; rfl
  keep := by rintro _ _ _ _ _ ⟨vR, rfl, h⟩ hb; exact ⟨vR, rfl, h.keep hb⟩
  more := by rintro _ _ _ _ _ ⟨vR, rfl, h⟩ hb; exact ⟨vR, rfl, h.more hb⟩
  one := by rintro _ _ _ _ ⟨vR, rfl, A, c, rfl, _⟩; simp [Value.oneCell']
theorem Row.edit {w : World} {S : Nat → Prop} {A : Option Addr} {l : List GEdit} (h : Row EditE w S A l) (hS : ∀ b, S b → b < w.heap.size) {k : Nat} (hk : k < l.length) :
    ∃ b o, A = some ⟨b, o, none⟩ ∧ S b ∧ ∀ i e, l[i]? = some e → ∃ vR, EC w b (o + i * 6) e vR ∧ SlS RuleE w S vR e.part := by
  obtain ⟨b, o, rfl, hlt, hc⟩ := h (by omega)
  refine ⟨b, o, rfl, hlt, fun i e hi => ?_⟩
  obtain ⟨cs, ⟨vR, rfl, h1⟩, h2⟩ := hc i e hi
  exact ⟨vR, ⟨by simpa [EditE] using h2 0 _ rfl, by simpa [EditE, Nat.add_assoc] using h2 1 _ rfl, by simpa [EditE, Nat.add_assoc] using h2 2 _ rfl, by simpa [EditE, Nat.add_assoc] using h2 3 _ rfl, by simpa [EditE, Nat.add_assoc] using h2 4 _ rfl, by simpa [EditE, Nat.add_assoc] using h2 5 _ rfl, hS b hlt⟩, h1⟩
end Go.Proofs.YtfapnipmgmpgaaaGreatDoor

namespace Go.Proofs
theorem Tryz.infoEd : (Tryz.prog.info? 36).map (fun i => (i.zero, i.size, i.bytes)) = some (some (.agg #[.int .i64 0, .int .i64 0, .int .i64 0, .int .i64 0, .slice none 0 0, .string ⟨#[]⟩]), 6, 72) := by kernel_rfl
end Go.Proofs
namespace Go.Proofs.YtfapnipmgmpgaaaGreatDoor
open Go.RowKit

theorem szE_le3 {e : GEdit} {left : Int} (h : 0 ≤ szE e left) : szE e left ≤ left ∧ (e.part.length : Int) ≤ left ∧ (e.map.size : Int) ≤ left := by
  unfold szE at *
  split at h
  · omega
  · rename_i h1
    obtain ⟨h3, h2⟩ := szRs_le e.part left (by omega)
    split at h
    · omega
    · rename_i h4
      rw [if_neg h1, if_neg h4]; omega
end Go.Proofs.YtfapnipmgmpgaaaGreatDoor

namespace Go.Proofs.YtfapnipmgmpgaaaGreatDoor
open Go.RowKit

/-- The six cells of an edit. -/
def epCells (p : GEdit × Value) : List Value := [.int .i64 p.1.kind, .int .i64 p.1.i, .int .i64 p.1.j, .int .i64 p.1.k, p.2, .string p.1.map]
theorem ep_at (ps : List (GEdit × Value)) (k : Nat) (p : GEdit × Value) (h : ps[k]? = some p) (j : Nat) (hj : j < 6) : (ps.flatMap epCells)[k * 6 + j]? = (epCells p)[j]? := by
  induction ps generalizing k with
  | nil => simp at h
  | cons x xs ih =>
    cases k with
    | zero =>
      simp at h; subst h
      rw [List.flatMap_cons, List.getElem?_append_left (by simp [epCells]; omega), Nat.zero_mul, Nat.zero_add]
    | succ k =>
      have := ih k (by simpa using h)
      rw [List.flatMap_cons, List.getElem?_append_right (by simp [epCells]; omega)]
      rw [show (k + 1) * 6 + j - (epCells x).length = k * 6 + j by simp [epCells]; omega]
      exact this
/-- The rules of one edit of a row: nothing, or a row of its own between two numbers, apart from the row of edits v. -/
def PartAt (w : World) (v : Value) (a b : Nat) (p : GEdit × Value) : Prop :=
  ((p.1.part = [] ∧ ∃ A c, p.2 = .slice A 0 c ∧ c ≤ maxLen) ∨ OwnR w a b p.2 p.1.part) ∧ ∀ g, v.ownBlock = some g → g < a ∨ b ≤ g
theorem PartAt.keep {w w' : World} {v : Value} {a b : Nat} {p : GEdit × Value} (h : PartAt w v a b p) (hk : ∀ g, a ≤ g → g < b → w'.heap[g]? = w.heap[g]?) (hs : w.heap.size ≤ w'.heap.size) : PartAt w' v a b p := by
  refine ⟨?_, h.2⟩
  rcases h.1 with h | h1
  · exact .inl h
  · exact .inr ⟨own_keep h1.1 fun g hg => hk g (h1.rng g hg).1 (h1.rng g hg).2, h1.2.1, Nat.le_trans h1.2.2 hs⟩
theorem PartAt.row {w w' : World} {v : Value} {a b g : Nat} {p : GEdit × Value} (h : PartAt w v a b p) (hv : v.ownBlock = some g) (hb : b ≤ w.heap.size) (hg : w.grownBy w' (some g)) : PartAt w' v a b p :=
  h.keep (fun g' h1 h2 => hg.block g' (by omega) (fun e => by have := h.2 g hv; simp at e; omega)) hg.size
theorem PartAt.sl {w : World} {v : Value} {a b : Nat} {p : GEdit × Value} (h : PartAt w v a b p) : Sl RuleE w w.heap.size p.2 p.1.part := by
  rcases h.1 with ⟨h1, A, c, h2, h3⟩ | h1
  · rw [h1, h2]; exact ⟨A, c, rfl, Nat.zero_le _, h3, fun h => absurd h (by simp)⟩
  · exact h1.sl
structure PartsR (w : World) (v : Value) (lo hi : Nat) (r : Nat → Nat) (ps : List (GEdit × Value)) : Prop where
  low : lo ≤ r 0
  mono : ∀ i j, i ≤ j → r i ≤ r j
  high : ∀ i, r i ≤ hi
  at_ : ∀ i p, ps[i]? = some p → PartAt w v (r (2 * i)) (r (2 * i + 1)) p
theorem PartsR.keep {w w' : World} {v : Value} {lo hi : Nat} {r : Nat → Nat} {ps : List (GEdit × Value)} (h : PartsR w v lo hi r ps) (hk : ∀ g, lo ≤ g → g < hi → v.ownBlock ≠ some g → w'.heap[g]? = w.heap[g]?) (hs : w.heap.size ≤ w'.heap.size) : PartsR w' v lo hi r ps := by
  refine ⟨h.low, h.mono, h.high, fun i p hp => ?_⟩
  obtain ⟨h0, h2⟩ := h.at_ i p hp
  refine ⟨?_, h2⟩
  rcases h0 with h1 | h1
  · exact .inl h1
  · refine .inr ⟨own_keep h1.1 fun g hg => ?_, h1.2.1, Nat.le_trans h1.2.2 hs⟩
    have hr := h1.rng g hg
    have a1 := h.mono 0 (2 * i) (Nat.zero_le _)
    have a2 := h.high (2 * i + 1)
    have a3 := h.low
    refine hk g (by omega) (by omega) fun e => ?_
    have := h2 g e
    omega
theorem PartsR.snoc {w : World} {v : Value} {lo hi hi' : Nat} {r : Nat → Nat} {ps : List (GEdit × Value)} {q : GEdit × Value} (h : PartsR w v lo hi r ps) (hq : PartAt w v hi hi' q) (hh : hi ≤ hi') (hl : lo ≤ hi) : ∃ r', PartsR w v lo hi' r' (ps ++ [q]) := by
  refine ⟨fun j => if j < 2 * ps.length then r j else if j = 2 * ps.length then hi else hi', ?_, ?_, ?_, ?_⟩
  · have := h.low
    split
    · omega
    · split <;> omega
  · intro i j hij
    have h1 := h.mono i j hij
    have h2 := h.high i
    repeat' split
    all_goals omega
  · intro i
    have h2 := h.high i
    repeat' split
    all_goals omega
  · intro i p hp
    rcases Nat.lt_or_ge i ps.length with hlt | hge
    · rw [List.getElem?_append_left hlt] at hp
      have := h.at_ i p hp
      simp only [show 2 * i < 2 * ps.length by omega, show 2 * i + 1 < 2 * ps.length by omega, if_true]
      exact this
    · rw [List.getElem?_append_right hge] at hp
      have hi0 : i = ps.length := by
        have := (List.getElem?_eq_some_iff.1 hp).1
        simp at this; omega
      subst hi0
      simp at hp
      subst hp
      simp only [Nat.lt_irrefl, if_false, if_true, show ¬ (2 * ps.length + 1 < 2 * ps.length) by omega, show ¬ (2 * ps.length + 1 = 2 * ps.length) by omega]
      exact hq
theorem PartsR.nil {w : World} {v : Value} {lo hi : Nat} (h : lo ≤ hi) : PartsR w v lo hi (fun _ => hi) [] := ⟨h, fun _ _ _ => Nat.le_refl _, fun _ => Nat.le_refl _, fun i p hp => by simp at hp⟩
theorem PartsR.le {w : World} {v : Value} {lo lo' hi hi' : Nat} {r : Nat → Nat} {ps : List (GEdit × Value)} (h : PartsR w v lo hi r ps) (h1 : lo' ≤ lo) (h2 : hi ≤ hi') : PartsR w v lo' hi' r ps := ⟨Nat.le_trans h1 h.low, h.mono, fun i => Nat.le_trans (h.high i) h2, h.at_⟩
/-- A row of edits of one's own, between two block numbers. -/
def OEds (w : World) (lo hi : Nat) (v : Value) (es : List GEdit) : Prop :=
  ∃ ps r, ps.map Prod.fst = es ∧ w.ownsRow lo 36 6 v es.length (ps.flatMap epCells) ∧ (∀ g, v.ownBlock = some g → g < hi) ∧ hi ≤ w.heap.size ∧ PartsR w v lo hi r ps
section
variable {w w' : World} {lo hi : Nat} {v : Value} {es : List GEdit}
theorem OEds.keep (h : OEds w lo hi v es) (hk : ∀ g, lo ≤ g → g < hi → w'.heap[g]? = w.heap[g]?) (hs : w.heap.size ≤ w'.heap.size) : OEds w' lo hi v es := by
  obtain ⟨ps, r, h1, h2, h3, h4, h5⟩ := h
  exact ⟨ps, r, h1, own_keep h2 fun g hg => hk g (World.ownsRow.lt h2 g hg).1 (h3 g hg), h3, Nat.le_trans h4 hs, h5.keep (fun g a b _ => hk g a b) hs⟩
theorem OEds.up (h : OEds w lo hi v es) (hb : Below w.heap.size w w') : OEds w' lo hi v es := h.keep (fun g _ b => hb.block g (by obtain ⟨_, _, _, _, _, h4, _⟩ := h; omega)) hb.size
theorem OEds.chg {lo' hi' : Nat} (h : OEds w lo hi v es) (hc : Chg lo' hi' w w') (hne : hi ≤ lo' ∨ hi' ≤ lo) : OEds w' lo hi v es :=
  h.keep (fun g a b => hc.block g (by obtain ⟨_, _, _, _, _, h4, _⟩ := h; omega) (by omega)) hc.size
theorem ps_at {ps : List (GEdit × Value)} {i : Nat} {e : GEdit} (h : (ps.map Prod.fst)[i]? = some e) : ∃ u, ps[i]? = some (e, u) := by
  rw [List.getElem?_map] at h
  obtain ⟨p, h1, h2⟩ := Option.map_eq_some_iff.1 h
  exact ⟨p.2, by rw [h1, ← h2]⟩
theorem OEds.sl (h : OEds w lo hi v es) : Sl EditE w w.heap.size v es := by
  obtain ⟨ps, r, rfl, h2, h3, h4, h5⟩ := h
  obtain ⟨A, cap, rfl, c1, c2⟩ := own_nil h2
  refine ⟨A, cap, rfl, c1, c2, Row.of_own (E := EditE) h2 rfl (fun g hg => (World.ownsRow.lt h2 g hg).2) fun k e hx => ?_⟩
  obtain ⟨u, hu⟩ := ps_at hx
  refine ⟨epCells (e, u), ⟨u, rfl, (h5.at_ k _ hu).sl⟩, fun j x hj => ?_⟩
  have hj6 : j < 6 := by have := (List.getElem?_eq_some_iff.1 hj).1; simpa [epCells] using this
  show (ps.flatMap epCells)[k * 6 + j]? = some x
  rw [ep_at ps k _ hu j hj6]; exact hj
end
end Go.Proofs.YtfapnipmgmpgaaaGreatDoor

namespace Go.Proofs.YtfapnipmgmpgaaaGreatDoor
open Go.RowKit

end Go.Proofs.YtfapnipmgmpgaaaGreatDoor

namespace Go.Proofs.YtfapnipmgmpgaaaGreatDoor
open Go.RowKit

end Go.Proofs.YtfapnipmgmpgaaaGreatDoor

namespace Go.Proofs.YtfapnipmgmpgaaaGreatDoor
open Go.RowKit

end Go.Proofs.YtfapnipmgmpgaaaGreatDoor

namespace Go.Proofs.YtfapnipmgmpgaaaGreatDoor
open Go.RowKit

/-- What an element of a new row of edits may hold. -/
def NilP (e : GEdit) (u : Value) : Prop := e.part = [] ∧ ∃ A c, u = .slice A 0 c ∧ c ≤ maxLen
theorem oeds_zero {W : World} {lo : Nat} (h : lo ≤ W.heap.size) : OEds W lo W.heap.size (.slice none 0 0) [] :=
  ⟨[], _, rfl, World.ownsRow_nil _ _ _ _, fun _ h => (by simp [Value.ownBlock] at h), Nat.le_refl _, PartsR.nil h⟩
theorem oeds_one {W : World} {lo N : Nat} {e : GEdit} {u : Value} (hN : N = W.heap.size) (h : lo ≤ W.heap.size) (hu : NilP e u ∨ OwnR W lo W.heap.size u e.part) :
    OEds (W.alloc (Obj.cells #[.int .i64 e.kind, .int .i64 e.i, .int .i64 e.j, .int .i64 e.k, u, .string e.map] 36)) lo (W.heap.size + 1) (.slice (some ⟨N, 0, none⟩) 1 1) [e] := by
  subst hN
  have hrow := World.ownsRow_lit (e := 36) (size := 6) W #[.int .i64 e.kind, .int .i64 e.i, .int .i64 e.j, .int .i64 e.k, u, .string e.map] 1 h (by decide) rfl
  refine ⟨[(e, u)], fun j => if j = 0 then lo else W.heap.size, rfl, hrow, fun g hg => by simp [Value.ownBlock] at hg; omega, by simp, Nat.le_refl _, ?_, ?_, ?_⟩
  · intro i j hij
    show (if i = 0 then lo else W.heap.size) ≤ (if j = 0 then lo else W.heap.size)
    repeat' split
    all_goals omega
  · intro i
    show (if i = 0 then lo else W.heap.size) ≤ W.heap.size + 1
    split <;> omega
  · intro i p hp
    have hi : i = 0 := by
      have := (List.getElem?_eq_some_iff.1 hp).1
      simp at this; exact this
    subst hi
    simp at hp
    subst hp
    refine ⟨?_, fun g hg => by simp [Value.ownBlock] at hg; simp; omega⟩
    rcases hu with hu | hu
    · exact .inl hu
    · exact .inr (by simpa using hu.alloc _)
/-- A row of edits and what is known of its parts. -/
def OEdP (w : World) (lo hp : Nat) (v : Value) (es : List GEdit) : Prop :=
  ∃ ps r, ps.map Prod.fst = es ∧ w.ownsRow lo 36 6 v es.length (ps.flatMap epCells) ∧ PartsR w v lo hp r ps
theorem OEdP.oeds {w : World} {lo hp : Nat} {v : Value} {es : List GEdit} (h : OEdP w lo hp v es) (hh : hp ≤ w.heap.size) : OEds w lo w.heap.size v es := by
  obtain ⟨ps, r, h1, h2, h3⟩ := h
  exact ⟨ps, r, h1, h2, fun g hg => (World.ownsRow.lt h2 g hg).2, Nat.le_refl _, h3.le (Nat.le_refl _) hh⟩
theorem oedp_empty {W : World} {lo N : Nat} (hN : N = W.heap.size) (h : lo ≤ W.heap.size) : OEdP (W.alloc (Obj.cells #[] 36)) lo lo (.slice (some ⟨N, 0, none⟩) 0 0) [] := by
  subst hN
  exact ⟨[], _, rfl, World.ownsRow_lit W #[] 0 h (Nat.zero_le _) rfl, PartsR.nil (Nat.le_refl _)⟩
theorem OEdP.keep {w w' : World} {lo hp : Nat} {v : Value} {es : List GEdit} (h : OEdP w lo hp v es) (hb : Below w.heap.size w w') (hh : hp ≤ w.heap.size) : OEdP w' lo hp v es := by
  obtain ⟨ps, r, h1, h2, h3⟩ := h
  exact ⟨ps, r, h1, ownsRow_below h2 hb, h3.keep (fun g _ b _ => hb.block g (by omega)) hb.size⟩
theorem PartsR.reval {w : World} {v v' : Value} {lo hi N : Nat} {r : Nat → Nat} {ps : List (GEdit × Value)} (h : PartsR w v lo hi r ps) (hv : v'.ownBlock = v.ownBlock ∨ v'.ownBlock = some N) (hN : hi ≤ N) : PartsR w v' lo hi r ps :=
  ⟨h.low, h.mono, h.high, fun i p hp => by
    obtain ⟨h1, h2⟩ := h.at_ i p hp
    refine ⟨h1, fun g hg => ?_⟩
    rcases hv with hv | hv
    · exact h2 g (hv.symm.trans hg)
    · have : g = N := by rw [hv] at hg; exact (Option.some.inj hg).symm
      have := h.high (2 * i + 1)
      omega⟩
/-- 'append(s, x)' of one edit. -/
theorem push_edit {W : World} {ops : Array Oper} {rest : List Oper} {o : Oper} {a : Act} {Q : Exit → Act → World → Prop} (hgd : o.guard = none) (s x : Operand)
    (ho : o.op = .call { callee := .builtin .append, args := #[s, x], argTypes := #[47, 47] }) {e : GEdit} {u : Value} {lo hp pa pb : Nat} {v : Value} {es : List GEdit}
    (hs : a.eval s = v) {N : Nat} (hx : a.eval x = .slice (some ⟨N, 0, none⟩) 1 1) (hN : N = W.heap.size) (hown : OEdP W lo hp v es) (hlen : es.length ≤ 1048576) (hbase : lo ≤ W.heap.size)
    (hu1 : u.oneCell' = true) (hu : PartAt W v pa pb (e, u)) (h1 : hp ≤ pa) (h2 : pa ≤ pb) (h3 : pb ≤ W.heap.size) (h4 : lo ≤ pa)
    (h : ∀ g' c' w', OEdP w' lo pb (.slice (some ⟨g', 0, none⟩) (es.length + 1) c') (es ++ [e]) → (v.ownBlock = some g' ∨ g' = W.heap.size + 1) → W.grownBy w' v.ownBlock → Below lo W w' → wpList Tryz.prog ops Q rest (a.put o.dst (.slice (some ⟨g', 0, none⟩) (es.length + 1) c')) w') :
    wpList Tryz.prog ops Q (o :: rest) a (W.alloc (.cells #[.int .i64 e.kind, .int .i64 e.i, .int .i64 e.j, .int .i64 e.k, u, .string e.map] 36)) := by
  subst hN
  obtain ⟨ps, r, hm, hrow, hP⟩ := hown
  obtain ⟨i0, hi0, hz0, hz1, hz2⟩ := info_parts Tryz.infoEd
  refine wpList_push2 hgd s x 47 ho i0 _ 6 72 Tryz.underlying47 hi0 hz0 hz1 hz2 rfl (by decide) hs hx rfl (by simp [Value.oneCell'] at hu1 ⊢; exact hu1) hrow (by omega) (by omega) hbase ?_
  intro v' w' k1 k2 k3
  have hg : W.grownBy w' v.ownBlock := ⟨k2.os, k2.tape, k2.output, Nat.le_trans (by simp) k2.size, fun y hy hne => (k2.block y (by simp; omega) hne).trans (Below.heap_alloc W _ y hy)⟩
  have hb : Below lo W w' := (Below.refl lo W).grown hg hbase (fun y hy => (World.ownsRow.lt hrow y hy).1)
  have k1' : w'.ownsRow lo 36 6 v' (es.length + 1) ((ps ++ [(e, u)]).flatMap epCells) := by simpa [epCells] using k1
  obtain ⟨g', c', rfl, _⟩ := own_form k1' (by omega)
  refine h g' c' w' ?_ (k3.imp (fun q => q.symm.trans rfl) (fun q => by simpa [Value.ownBlock] using q)) hg hb
  obtain ⟨r', hr'⟩ := (hP.le (Nat.le_refl _) h1).snoc hu h2 h4
  refine ⟨ps ++ [(e, u)], r', by rw [List.map_append, hm]; rfl, by simpa using k1', ?_⟩
  refine PartsR.reval (v := v) (N := W.heap.size + 1) (hr'.keep (fun y _ hy hne => hg.block y (by omega) (fun e => hne e.symm)) hg.size) k3 (by omega)
/-- 'append(s, x)' of one edit in a region that draws its order. -/
theorem step_push_edit (W : World) {W' : World} {e : GEdit} {u : Value} (hW : W' = W.alloc (.cells #[.int .i64 e.kind, .int .i64 e.i, .int .i64 e.j, .int .i64 e.k, u, .string e.map] 36))
    {ops : Array Oper} {o : Oper} {a : Act} {K : Act → World → Prop} {Q : Exit → Act → World → Prop} {E : Prop} (hgd : o.guard = none) (s x : Operand)
    (ho : o.op = .call { callee := .builtin .append, args := #[s, x], argTypes := #[47, 47] }) {lo hp pa pb : Nat} {v : Value} {es : List GEdit}
    (hs : a.eval s = v) {N : Nat} (hx : a.eval x = .slice (some ⟨N, 0, none⟩) 1 1) (hN : N = W.heap.size) (hown : OEdP W lo hp v es) (hlen : es.length ≤ 1048576) (hbase : lo ≤ W.heap.size)
    (hu1 : u.oneCell' = true) (hu : PartAt W v pa pb (e, u)) (h1 : hp ≤ pa) (h2 : pa ≤ pb) (h3 : pb ≤ W.heap.size) (h4 : lo ≤ pa)
    (h : ∀ g' c' w', OEdP w' lo pb (.slice (some ⟨g', 0, none⟩) (es.length + 1) c') (es ++ [e]) → (v.ownBlock = some g' ∨ g' = W.heap.size + 1) → W.grownBy w' v.ownBlock → Below lo W w' → K (a.put o.dst (.slice (some ⟨g', 0, none⟩) (es.length + 1) c')) w') :
    if Region.wanted o (yielded ops a.tmps) = true then Oper.wp Tryz.prog o a W' K Q else E := by
  subst hW
  subst hN
  have hw : Region.wanted o (yielded ops a.tmps) = true := by simp [Region.wanted, hgd]
  rw [if_pos hw]
  obtain ⟨ps, r, hm, hrow, hP⟩ := hown
  obtain ⟨i0, hi0, hz0, hz1, hz2⟩ := info_parts Tryz.infoEd
  obtain ⟨v', w', hrun, k1, k2, _, k3⟩ := run_append_own_at (P := Tryz.prog) (W.alloc (.cells #[.int .i64 e.kind, .int .i64 e.i, .int .i64 e.j, .int .i64 e.k, u, .string e.map] 36)) lo 47 o.type 36 i0 _ 6 72 Tryz.underlying47 hi0 hz0 hz1 hz2 rfl (by decide) v es.length _ (World.ownsRow.alloc hrow _) ⟨W.heap.size, 0, none⟩ 1 1 (epCells (e, u)) rfl
    (fun j y hy => by
      have : (W.alloc (.cells #[.int .i64 e.kind, .int .i64 e.i, .int .i64 e.j, .int .i64 e.k, u, .string e.map] 36)).cell? ⟨W.heap.size, j, none⟩ = (#[Value.int .i64 e.kind, .int .i64 e.i, .int .i64 e.j, .int .i64 e.k, u, .string e.map] : Array Value)[j]? := cell_of_row _ _ _ _ 36 (0, 0) (heap_alloc_new W _)
      have ha : (⟨W.heap.size, 0, none⟩ : Addr).add j = ⟨W.heap.size, j, none⟩ := by unfold Addr.add; split <;> simp_all
      rw [ha, this]; simpa [epCells] using hy) (by simp [epCells, Value.oneCell'] at hu1 ⊢; exact hu1) (by simp only [maxLen]; omega) (by omega) (by simp; omega)
  unfold Oper.wp execOp
  simp only [ho, resolve, invoke, builtin, Sem.run_bind, Sem.run_pure, Result.andThen_ok, List.map_toArray, List.map_cons, List.map_nil, hs, hx, hrun]
  have hg : W.grownBy w' v.ownBlock := ⟨k2.os, k2.tape, k2.output, Nat.le_trans (by simp) k2.size, fun y hy hne => (k2.block y (by simp; omega) hne).trans (Below.heap_alloc W _ y hy)⟩
  have hb : Below lo W w' := (Below.refl lo W).grown hg hbase (fun y hy => (World.ownsRow.lt hrow y hy).1)
  have k1' : w'.ownsRow lo 36 6 v' (es.length + 1) ((ps ++ [(e, u)]).flatMap epCells) := by simpa [epCells] using k1
  obtain ⟨g', c', rfl, _⟩ := own_form k1' (by omega)
  refine h g' c' w' ?_ (k3.imp (fun q => q.symm.trans rfl) (fun q => by simpa [Value.ownBlock] using q)) hg hb
  obtain ⟨r', hr'⟩ := (hP.le (Nat.le_refl _) h1).snoc hu h2 h4
  refine ⟨ps ++ [(e, u)], r', by rw [List.map_append, hm]; rfl, by simpa using k1', ?_⟩
  refine PartsR.reval (v := v) (N := W.heap.size + 1) (hr'.keep (fun y _ hy hne => hg.block y (by omega) (fun e => hne e.symm)) hg.size) (by simpa using k3) (by omega)
end Go.Proofs.YtfapnipmgmpgaaaGreatDoor

namespace Go.Proofs.YtfapnipmgmpgaaaGreatDoor
open Go.RowKit

def delE (i j : Int) : GEdit := ⟨2, i, j, 0, [], ⟨#[]⟩⟩
def insE (i : Int) (p : List GRule) : GEdit := ⟨1, i, 0, 0, p, ⟨#[]⟩⟩
def ERes (es : List GEdit) (c : Int) (w : World) (r : Ending) (w' : World) : Prop :=
  Below w.heap.size w w' ∧ ∃ v, r = .returned (.tuple #[v, .int .i64 c]) ∧ OEds w' w.heap.size w'.heap.size v es
theorem applyCode_ok {xs : List GRule} {e : GEdit} (h : applyCode xs e = 0) : gramOk xs = true ∧ editOk e = true ∧ editFits e (gramLen xs) = true := by
  unfold applyCode at h
  split at h
  · rename_i h1
    rw [Bool.and_eq_true] at h1
    split at h
    · rename_i h2; exact ⟨h1.1, h1.2, h2⟩
    · cases h
  · cases h
theorem ERes.mk1 {w W : World} {es : List GEdit} {c : Int} {lo hi : Nat} {v : Value} (hb : Below w.heap.size w W) (h : OEds W lo hi v es) (hl : w.heap.size ≤ lo) : ERes es c w (.returned (.tuple #[v, .int .i64 c])) W := by
  refine ⟨hb, v, rfl, ?_⟩
  obtain ⟨ps, r, h1, h2, h3, h4, h5⟩ := h
  exact ⟨ps, r, h1, ownsRow_more h2 hl, fun g hg => by have := h3 g hg; omega, Nat.le_refl _, h5.le hl h4⟩
end Go.Proofs.YtfapnipmgmpgaaaGreatDoor

namespace Go.Proofs.YtfapnipmgmpgaaaGreatDoor

theorem raise_len {n : Nat} {lx a : List Int} {r : GRule} (hn : lx.length = n) (h : okRule a.length r = true) : ruleLen (lx ++ a) (raiseR n r) = ruleLen a r := by
  unfold raiseR
  cases hp : r.pair with
  | false => simp [ruleLen, hp]
  | true =>
    have h2 := okRule_at h hp
    have hp2 : ({ letter := r.letter, left := r.left + n, right := r.right + n } : GRule).pair = true := hp
    simp only [if_true]
    unfold ruleLen
    rw [if_pos hp2, if_pos hp]
    have e1 : (r.left + (n : Int)).toNat = n + r.left.toNat := by omega
    have e2 : (r.right + (n : Int)).toNat = n + r.right.toNat := by omega
    show (lx ++ a).getD (r.left + n).toNat 0 + (lx ++ a).getD (r.right + n).toNat 0 = _
    rw [e1, e2, List.getD_eq_getElem?_getD, List.getD_eq_getElem?_getD, List.getElem?_append_right (by omega), List.getElem?_append_right (by omega), hn, Nat.add_sub_cancel_left, Nat.add_sub_cancel_left]
    rw [← List.getD_eq_getElem?_getD, ← List.getD_eq_getElem?_getD]
theorem lens_raise {xs ys : List GRule} {lx ly : List Int} (hx : lens xs = some lx) (hy : lens ys = some ly) : lens (xs ++ ys.map (raiseR xs.length)) = some (lx ++ ly) := by
  rw [lens_app, hx]
  have hn : lx.length = xs.length := lens_length hx
  suffices H : ∀ (l : List GRule) (a o : List Int), l.foldl lensStep (some a) = some o → (l.map (raiseR xs.length)).foldl lensStep (some (lx ++ a)) = some (lx ++ o) by simpa using H ys [] ly hy
  intro l
  induction l with
  | nil => intro a o h; simp at h; simp [h]
  | cons y l ih =>
    intro a o h
    rw [List.map_cons, List.foldl_cons]
    rw [List.foldl_cons] at h
    cases hs : lensStep (some a) y with
    | none => rw [hs, lens_none] at h; cases h
    | some b =>
      rw [hs] at h
      simp only [lensStep, Option.bind_some] at hs
      split at hs
      · rename_i hok
        cases hs
        have e1 : okRule (lx ++ a).length (raiseR xs.length y) = true := by rw [List.length_append, hn]; exact raiseR_ok hok.1
        have e2 : ruleLen (lx ++ a) (raiseR xs.length y) = ruleLen a y := raise_len hn hok.1
        have e3 : lensStep (some (lx ++ a)) (raiseR xs.length y) = some (lx ++ (a ++ [ruleLen a y])) := by
          simp only [lensStep, Option.bind_some]
          rw [e2, if_pos ⟨e1, hok.2⟩, List.append_assoc]
        rw [e3]
        exact ih _ _ h
      · cases hs
theorem joinG_gramLen {xs ys : List GRule} (hx : gramOk xs = true) (hy : gramOk ys = true) (hj : gramOk (joinG xs ys) = true) : gramLen (joinG xs ys) = gramLen xs + gramLen ys := by
  obtain ⟨_, lx, h1⟩ := gram_lens hx
  obtain ⟨_, ly, h2⟩ := gram_lens hy
  obtain ⟨_, l, h3⟩ := gram_lens hj
  rw [gramLen_of h1, gramLen_of h2, gramLen_of h3]
  have hxl := lens_length h1
  have hyl := lens_length h2
  unfold joinG at h3
  by_cases c1 : xs.length = 0
  · rw [if_pos c1] at h3
    rw [h2] at h3
    cases h3
    have : lx = [] := List.eq_nil_of_length_eq_zero (by omega)
    rw [this]; simp [lastI]
  · rw [if_neg c1] at h3
    by_cases c2 : ys.length = 0
    · rw [if_pos c2] at h3
      rw [h1] at h3
      cases h3
      have : ly = [] := List.eq_nil_of_length_eq_zero (by omega)
      rw [this]; simp [lastI]
    · rw [if_neg c2] at h3
      have hr := lens_raise h1 h2
      have hlen : (xs ++ ys.map (raiseR xs.length)).length = xs.length + ys.length := by simp
      have e1 : ((xs.length : Int) - 1) = ((xs.length - 1 : Nat) : Int) := by omega
      have e2 : ((xs.length : Int) + ys.length - 1) = ((xs.length + ys.length - 1 : Nat) : Int) := by omega
      rw [e1, e2] at h3
      have hl3 := lens_length h3
      have hw := W1_snoc h3 (by omega) (by omega)
      have k1 := W1_len h3 (xs.length + ys.length) (by simp)
      rw [hlen] at hw
      rw [hw, List.length_append] at k1
      have k2 := W1_len hr (xs.length - 1) (by omega)
      have k3 := W1_len hr (xs.length + ys.length - 1) (by omega)
      have g2 : (lx ++ ly).getD (xs.length - 1) 0 = lastI lx := by
        rw [lastI, List.getD_eq_getElem?_getD, List.getElem?_append_left (by omega), ← List.getD_eq_getElem?_getD, hxl]
      have g3 : (lx ++ ly).getD (xs.length + ys.length - 1) 0 = lastI ly := by
        rw [lastI, List.getD_eq_getElem?_getD, List.getElem?_append_right (by omega), ← List.getD_eq_getElem?_getD, hxl, hyl]
        congr 1; omega
      rw [g2] at k2
      rw [g3] at k3
      have g1 : lastI l = l.getD (xs.length + ys.length) 0 := by
        rw [lastI, hl3]; simp
      rw [g1, ← k1, ← k2, ← k3]
      omega
theorem trimG_gramLen {xs : List GRule} (h : gramOk xs = true) : gramLen (trimG xs) = gramLen xs := by
  obtain ⟨_, ls, h1⟩ := gram_lens h
  obtain ⟨l2, h2, h3, _⟩ := trimG_sem h1
  rw [gramLen_of h2, gramLen_of h1, ← wordG_len h2, ← wordG_len h1, h3]
theorem addO_some {s g : Option (List GRule)} {o : List GRule} (h : addO s g = some o) : ∃ a b, s = some a ∧ g = some b ∧ o = joinG a b ∧ gramOk (joinG a b) = true := by
  unfold addO at h
  split at h
  · rename_i a b
    split at h
    · rename_i h2; cases h; exact ⟨a, b, rfl, rfl, rfl, h2⟩
    · cases h
  · cases h
theorem limO_some {x o : List GRule} (h : limO x = some o) : o = x ∧ gramOk x = true := by
  unfold limO at h
  split at h
  · rename_i h2; cases h; exact ⟨rfl, h2⟩
  · cases h
/-- The length behind an insertion or a removal. -/
theorem apply_len {xs : List GRule} {e : GEdit} (h : applyCode xs e = 0) (hk : e.kind = 1 ∨ e.kind = 2) : gramLen (applyOut xs e) = editLen e (gramLen xs) ∧ gramOk (applyOut xs e) = true := by
  obtain ⟨h1, h2, h3⟩ := applyCode_ok h
  obtain ⟨_, ls, hl⟩ := gram_lens h1
  have hlq : lsOf xs = ls := by simp [lsOf, hl]
  have hgl := gramLen_of hl
  have hF := fits_nums h2 h3
  have hb := gramLen_bounds xs
  obtain ⟨o, ho⟩ : ∃ o, editS xs ls (lastI ls) e = some o := by
    cases hs : editS xs ls (lastI ls) e with
    | some o => exact ⟨o, rfl⟩
    | none =>
      exfalso
      unfold applyCode applyS at h
      rw [hlq, hs] at h
      simp [h1, h2, h3, editC] at h
  have hout : applyOut xs e = trimG o := by
    unfold applyOut applyS
    rw [hlq, ho]
    simp [h1, h2, h3, editG]
  rw [hout]
  have p0 : ∀ i j, 0 ≤ i → i ≤ j → j ≤ lastI ls → gramLen (partG xs ls i j) = j - i := fun i j a b c => partG_gramLen hl a b c
  unfold editS at ho
  rcases hk with hk | hk
  · rw [if_pos hk] at ho
    obtain ⟨a1, b1, s1, s2, rfl, s4⟩ := addO_some ho
    obtain ⟨a2, b2, t1, t2, rfl, t4⟩ := addO_some s1
    obtain ⟨a3, b3, u1, u2, rfl, u4⟩ := addO_some t1
    cases u1
    cases t2
    obtain ⟨rfl, v1⟩ := limO_some u2
    obtain ⟨rfl, v2⟩ := limO_some s2
    have hi := hF.2.1 hk
    have k1 := joinG_gramLen gramOk_nil v1 u4
    have k2 := joinG_gramLen u4 (kind_ok h2).2.1 t4
    have k3 := joinG_gramLen t4 v2 s4
    have hz : gramLen [] = 0 := rfl
    rw [p0 0 e.i (by omega) hF.1 (by omega)] at k1
    rw [p0 e.i (lastI ls) hF.1 (by omega) (by omega)] at k3
    refine ⟨?_, gramOk_trim s4⟩
    rw [trimG_gramLen s4, k3, k2, k1, hz]
    unfold editLen
    rw [if_pos hk]
    omega
  · rw [if_neg (by omega), if_pos hk] at ho
    obtain ⟨a1, b1, s1, s2, rfl, s4⟩ := addO_some ho
    obtain ⟨a3, b3, u1, u2, rfl, u4⟩ := addO_some s1
    cases u1
    obtain ⟨rfl, v1⟩ := limO_some u2
    obtain ⟨rfl, v2⟩ := limO_some s2
    have hi := hF.2.2.1 (by omega)
    have k1 := joinG_gramLen gramOk_nil v1 u4
    have k3 := joinG_gramLen u4 v2 s4
    have hz : gramLen [] = 0 := rfl
    rw [p0 0 e.i (by omega) hF.1 (by omega)] at k1
    rw [p0 e.j (lastI ls) (by omega) (by omega) (by omega)] at k3
    refine ⟨?_, gramOk_trim s4⟩
    rw [trimG_gramLen s4, k3, k1, hz]
    unfold editLen
    rw [if_neg (by omega), if_pos hk]
    omega
end Go.Proofs.YtfapnipmgmpgaaaGreatDoor

