import Derived.Test.YtejgbfgocaggfaaGreatDoorM21
set_option maxRecDepth 100000
set_option maxHeartbeats 8000000
namespace Go.Proofs.YtejgbfgocaggfaaGreatDoor
open Go.RowKit
structure MkJ (w0 : World) (P oP E oE R b : Nat) (e : zam) (vR vG : Value) (s : Option (List zaa)) (W : World) : Prop where
 bel : Below w0.heap.size w0 W
 hM : Mk W b P oP s
 cP : C1 W ⟨P, oP, none⟩ vG
 hE : EC W E oE e vR
 hR : Blk W R #[.slice none 0 0] 26
 neP : P ≠ b
 neE : E ≠ b
 neR : R ≠ b
 le : w0.heap.size <= b
 ltR : w0.heap.size <= R
theorem MkJ.next {w0 W W' : World} {P oP E oE R b : Nat} {e : zam} {vR vG : Value} {s s' : Option (List zaa)} (h : MkJ w0 P oP E oE R b e vR vG s W) (hb : But b W W') (ha : Mk W' b P oP s') : MkJ w0 P oP E oE R b e vR vG s' W' :=
 ⟨h.bel.trans (hb.below h.le h.bel.size), ha, h.cP.but hb h.neP, h.hE.but hb h.neE, h.hR.but hb h.neR, h.neP, h.neE, h.neR, h.le, h.ltR⟩
theorem MkJ.drewN {w0 W : World} {P oP E oE R b : Nat} {e : zam} {vR vG : Value} {s : Option (List zaa)} (h : MkJ w0 P oP E oE R b e vR vG s W) (n : Nat) : MkJ w0 P oP E oE R b e vR vG s (W.drewN n) :=
 h.next ((But.refl b W).drewN n) (h.hM.up (zal (Below.refl _ _) n))
theorem MkJ.drew {w0 W : World} {P oP E oE R b : Nat} {e : zam} {vR vG : Value} {s : Option (List zaa)} (h : MkJ w0 P oP E oE R b e vR vG s W) : MkJ w0 P oP E oE R b e vR vG s W.drew :=
 h.next (But.refl b W).drew (h.hM.up (Below.drew (Below.refl _ _)))
theorem zoi {W : World} {P oP : Nat} {b : Nat} (h : Blk W b #[.pointer (some ⟨P, oP, none⟩), .slice none 0 0, .bool false] 100) : Mk W b P oP (some []) :=
 ⟨_, [], h, World.ownsRow_nil _ _ _ _, fun _ h => (Option.some.inj h).symm, rfl⟩
theorem zhe {e : zam} {n : Int} (h : zat e = true) (hf : zbp e n = true) :
  0 <= e.i /\ (e.kind = 1 -> e.i <= n) /\ (2 <= e.kind -> e.i <= e.j /\ e.j <= n) /\ (e.kind = 3 -> 0 <= e.k /\ e.k <= n) /\ (e.kind = 4 -> 0 <= e.k /\ (e.k <= e.i \/ (e.j <= e.k /\ e.k <= n))) := by
 obtain ⟨k, i, j, kk, part, map⟩ := e; have hk := (zfj h).2.2.2; have hr := (zfj h).2.2.1; simp only [zat, Bool.and_eq_true, inR, decide_eq_true_eq] at h
 obtain ⟨⟨⟨⟨⟨⟨⟨⟨h1, h1'⟩, h2⟩, h3⟩, h4⟩, h5⟩, h6⟩, h7⟩, h8⟩ := h; simp only at h1 h1' h2 h3 h4 hk hr |-
 rcases (by omega : k = 1 \/ k = 2 \/ k = 3 \/ k = 4 \/ k = 5 \/ k = 6 \/ k = 7) with rfl | rfl | rfl | rfl | rfl | rfl | rfl
 all_goals
  simp [zbp, zaK, zbq, zbu, inR] at hf h3 h4 hk |-
  omega
theorem zds (P oP E oE : Nat) (vG vR : Value) (xs : List zaa) (e : zam) (w : World) (hP : C1 w ⟨P, oP, none⟩ vG) (hE : EC w E oE e vR) (hG : Sl zar w w.heap.size vG xs) (hR : Sl zar w w.heap.size vR e.part) (hg : zag xs = true) (hk : zat e = true) :
  Calls Tryz.prog 23 #[.pointer (some ⟨P, oP, none⟩), .pointer (some ⟨E, oE, none⟩)] w (zl8 (zak xs e) (zah xs e) w) := by
 have hls : zaW xs = some (zde xs) := by
  obtain ⟨ls, h⟩ := (zai hg).2; simp [zde, h]
 obtain ⟨ls, hlq⟩ : ∃ ls, zde xs = ls := ⟨_, rfl⟩
 rw [hlq] at hls; have HG := yq hG; have HR := yq hR; have HL := yq hls; have HOK := yq hg; have HK := yq (zfj hk); have HEK := yq hk; have hn : xs.length <= 1048576 := by have := zax hg; omega
 have sm := yq (zbU (zaz (zai hg).2.choose_spec)); have hgl : zaF xs = zao ls := zaD hls; have HAO := yq (show zak xs e = if zbp e (zao ls) then ziQ (za0 xs ls (zao ls) e) else [] by simp [zak, hg, hk, hgl, zeD, hlq]); have HAC := yq (show zah xs e = if zbp e (zao ls) then zhc (za0 xs ls (zao ls) e) else 2 by simp [zah, hg, hk, hgl, zeD, hlq]); obtain ⟨AG, cG, rfl, _⟩ := hG; obtain ⟨AR, cR, rfl, _⟩ := hR; have HP := yq hP; have HE := yq hE; have KR := Blk.new w #[.slice none 0 0] 26; have bA := (Below.refl w.heap.size w).alloc yL (.cells #[.slice none 0 0] 26); clear hls hlq hg hk hgl hP hE; go_enter Tryz.func23, Tryz.ntmps23
 go_wp2_with fail
 refine (zbm P oP _ xs ls _ HL.o (HP.o.up bA).c (HP.o.up bA).lt (HG.o.up bA) sm.o yO).mono ?_
 rintro e1 w1 ⟨rfl, hb1⟩; have HP1 := yq ((HP.o.up bA).up hb1); have HE1 := yq ((HE.o.up bA).up hb1); have HR1 := yq (KR.up hb1); have HB1 := yq (Below.tr bA hb1); clear HP HE KR bA hb1; go_wp2_with fail
 refine (ziS E oE _ e _ _ HE1.o HK.o.2.2.1).mono ?_
 rintro e2 w2 ⟨rfl, hb2⟩; have HP2 := yq (HP1.o.up hb2); have HE2 := yq (HE1.o.up hb2); have HR2 := yq (HR1.o.up hb2); have HB2 := yq (Below.tr HB1.o hb2); clear HP1 HE1 HR1 HB1 hb2; have rl := HR2.o.lt; have rf := HR2.o.frozen 0; have rc := HR2.o.cell (i := 0) (v := .slice none 0 0) rfl; cases hf : zbp e (zao ls) with
 | false =>
   have q1 : zak xs e = [] /\ zah xs e = 2 := by rw [HAO.o, HAC.o, hf]; exact ⟨rfl, rfl⟩
   have HQ := yq q1; clear q1 hf; go_wp2_with fail
   refine bodyPost_ret (v := .tuple #[.agg #[.slice none 0 0], .int .i64 2]) (by simp [results, Tryz.results23, go_sem, rc]) rfl ⟨Below.setCell HB2.o (by show w.heap.size <= w.heap.size; omega) _, .slice none 0 0, by rw [HQ.o.1]; exact World.ownsRow_nil _ _ _ _, by rw [HQ.o.2]⟩
 | true =>
   have hao : zak xs e = ziQ (za0 xs ls (zao ls) e) /\ zah xs e = zhc (za0 xs ls (zao ls) e) := by rw [HAO.o, HAC.o, hf]; exact ⟨rfl, rfl⟩
   have HQA := yq hao; have HF := yq (zhe HEK.o hf); have hs2 := HB2.o.size; have KM := Blk.new w2 #[.pointer (some ⟨P, oP, none⟩), .slice none 0 0, .bool false] 100; have bM := (Below.refl w2.heap.size w2).alloc yL (.cells #[.pointer (some ⟨P, oP, none⟩), .slice none 0 0, .bool false] 100); have lp := HP2.o.lt; have le := HE2.o.lt
   have hj : MkJ w P oP E oE w.heap.size w2.heap.size e (.slice AR e.part.length cR) (.slice AG xs.length cG) (some []) (w2.alloc (.cells #[.pointer (some ⟨P, oP, none⟩), .slice none 0 0, .bool false] 100)) :=
    ⟨Below.tr HB2.o bM, zoi KM, HP2.o.up bM, HE2.o.up bM, HR2.o.up bM, by show P ≠ _; have : P < w2.heap.size := lp; omega, by omega, by omega, hs2, Nat.le_refl _⟩
   have HJ1 := yq hj; clear hao hf hj KM bM rl rf rc lp HP2 HE2 HR2 HB2 HAO HAC; go_upto_region 8 with fail
   generalize w2.alloc (.cells #[.pointer (some ⟨P, oP, none⟩), .slice none 0 0, .bool false] 100) = W1 at *; obtain ⟨b, hbq⟩ : ∃ b, w2.heap.size = b := ⟨_, rfl⟩
   rw [hbq] at HJ1 |-
   clear hbq; rcases HK.o.1 with hk | hk | hk | hk | hkk
   · have x0 := HJ1.o.hE.c0
     rw [hk] at x0; have HKE := yq hk; clear hk; have aE1 := HJ1.o.hE.c1; have aE := HJ1.o.hE.lt; have aB := HJ1.o.hM.lt; go_wp2_with fail
     refine (zaT b P oP _ xs ls _ 0 (e.i) _ HJ1.o.hM HJ1.o.cP.c HJ1.o.cP.lt ((HG.o.below HJ1.o.bel).le HJ1.o.le) HOK.o HL.o (by first | (have := HF.o; have := HKE.o; omega) | (have := HF.o; have := HKE.o; have := HKI.o; omega))).mono ?_
     rintro e6 W2 ⟨rfl, hb1, ha1⟩; have HJ2 := yq (HJ1.o.next hb1 ha1); clear aE1 aE aB hb1 ha1 HJ1; have aE4 := HJ2.o.hE.c4; have aE := HJ2.o.hE.lt; have aB := HJ2.o.hM.lt; go_wp2_with fail
     refine (zeE b P oP _ (some e.part) (.slice AR e.part.length cR) e.part 0 _ HJ2.o.hM (zpA (HR.o.below HJ2.o.bel) HJ2.o.le HJ2.o.hM.lt) (.inl ⟨rfl, rfl, HK.o.2.1⟩)).mono ?_
     rintro e7 W3 ⟨rfl, hb2, ha2⟩; have HJ3 := yq (HJ2.o.next hb2 ha2); clear aE4 aE aB hb2 ha2 HJ2; have aE1 := HJ3.o.hE.c1; have aE := HJ3.o.hE.lt; have aB := HJ3.o.hM.lt; go_wp2_with fail
     refine (zaT b P oP _ xs ls _ e.i (zao ls) _ HJ3.o.hM HJ3.o.cP.c HJ3.o.cP.lt ((HG.o.below HJ3.o.bel).le HJ3.o.le) HOK.o HL.o (by first | (have := HF.o; have := HKE.o; omega) | (have := HF.o; have := HKE.o; have := HKI.o; omega))).mono ?_
     rintro e8 W4 ⟨rfl, hb3, ha3⟩; have HJ4 := yq (HJ3.o.next hb3 ha3); clear aE1 aE aB hb3 ha3 HJ3; have hQ : za0 xs ls (zao ls) e = zbC (zbC (zbC (some []) (zbt (zap xs ls 0 (e.i)))) (some e.part)) (zbt (zap xs ls e.i (zao ls))) := by unfold za0; rw [if_pos HKE.o]
     have HQ := yq hQ; clear hQ; obtain ⟨vO, out, hB9, hO9, hs9, hok9⟩ := HJ4.o.hM; obtain ⟨AO, kO, rfl, _⟩ := zae hO9; have HOut := yq hok9; have HO9 := yq hO9; have lb := hB9.lt; have rl := HJ4.o.hR.lt; have rf := HJ4.o.hR.frozen 0; have rc := HJ4.o.hR.cell (i := 0) (v := .slice none 0 0) rfl; have HBE := yq HJ4.o.bel; have HRR := yq HJ4.o.hR; have hle := HJ4.o.le; clear hok9 hO9 HJ4; rw [<- HQ.o] at hB9 hs9; cases hS : za0 xs ls (zao ls) e with
     | none =>
       have q1 : zak xs e = [] /\ zah xs e = 3 := by rw [HQA.o.1, HQA.o.2, hS]; exact ⟨rfl, rfl⟩
       have HX := yq q1; have a2 := hB9.cell (i := 2) (v := .bool true) (by rw [hS]; rfl); clear hS hs9 hB9 q1; go_wp2_with fail
       refine bodyPost_ret (v := .tuple #[.agg #[.slice none 0 0], .int .i64 3]) (by simp [results, Tryz.results23, go_sem, rc]) rfl ⟨Below.setCell HBE.o (by show w.heap.size <= w.heap.size; omega) _, .slice none 0 0, by rw [HX.o.1]; exact World.ownsRow_nil _ _ _ _, by rw [HX.o.2]⟩
     | some o =>
       have e9 := hs9 o hS; subst e9; have q1 : zak xs e = zaQ o /\ zah xs e = 0 := by rw [HQA.o.1, HQA.o.2, hS]; exact ⟨rfl, rfl⟩
       have HX := yq q1; have a1 := hB9.cell (i := 1) (v := .slice AO o.length kO) rfl; have a2 := hB9.cell (i := 2) (v := .bool false) (by rw [hS]; rfl); clear hS hs9 hB9 q1; go_wp2_with fail
       refine (zbM b 1 _ o _ a1 lb HO9.o.sl (by have := zax HOut.o; omega) (zaz (zai HOut.o).2.choose_spec)).mono ?_
       rintro e10 w10 ⟨hb10, v10, own10, rfl⟩; have HR10 := yq (HRR.o.up hb10); have HB10 := yq (Below.tr HBE.o hb10); have HO10 := yq own10; obtain ⟨A10, k10, rfl, _⟩ := zae own10; have b0 := HR10.o.cell (i := 0) (v := .slice none 0 0) rfl; have b1 := HR10.o.frozen 0; have b2 := HR10.o.lt; have hzz := HBE.o.size; clear hb10 own10 a1 a2 rl rf rc; go_wp2_with fail
       refine bodyPost_ret (v := .tuple #[.agg #[.slice A10 (zaQ o).length k10], .int .i64 0]) (by simp [results, Tryz.results23, go_sem, b0]) rfl ⟨HB10.o.setCell (by show w.heap.size <= w.heap.size; omega) _, .slice A10 (zaQ o).length k10, ?_, by rw [HX.o.2]⟩
       rw [HX.o.1]; exact zad (ownsRow_setCell_below HO10.o (a := ⟨w.heap.size, 0, none⟩) (by show w.heap.size < _; omega) _) yO
   · have x0 := HJ1.o.hE.c0
     rw [hk] at x0; have HKE := yq hk; clear hk; have aE1 := HJ1.o.hE.c1; have aE := HJ1.o.hE.lt; have aB := HJ1.o.hM.lt; go_wp2_with fail
     refine (zaT b P oP _ xs ls _ 0 (e.i) _ HJ1.o.hM HJ1.o.cP.c HJ1.o.cP.lt ((HG.o.below HJ1.o.bel).le HJ1.o.le) HOK.o HL.o (by first | (have := HF.o; have := HKE.o; omega) | (have := HF.o; have := HKE.o; have := HKI.o; omega))).mono ?_
     rintro e6 W2 ⟨rfl, hb1, ha1⟩; have HJ2 := yq (HJ1.o.next hb1 ha1); clear aE1 aE aB hb1 ha1 HJ1; have aE2 := HJ2.o.hE.c2; have aE := HJ2.o.hE.lt; have aB := HJ2.o.hM.lt; go_wp2_with fail
     refine (zaT b P oP _ xs ls _ e.j (zao ls) _ HJ2.o.hM HJ2.o.cP.c HJ2.o.cP.lt ((HG.o.below HJ2.o.bel).le HJ2.o.le) HOK.o HL.o (by first | (have := HF.o; have := HKE.o; omega) | (have := HF.o; have := HKE.o; have := HKI.o; omega))).mono ?_
     rintro e7 W3 ⟨rfl, hb2, ha2⟩; have HJ3 := yq (HJ2.o.next hb2 ha2); clear aE2 aE aB hb2 ha2 HJ2; have hQ : za0 xs ls (zao ls) e = zbC (zbC (some []) (zbt (zap xs ls 0 (e.i)))) (zbt (zap xs ls e.j (zao ls))) := by unfold za0; rw [if_neg (by rw [HKE.o]; decide), if_pos HKE.o]
     have HQ := yq hQ; clear hQ; obtain ⟨vO, out, hB9, hO9, hs9, hok9⟩ := HJ3.o.hM; obtain ⟨AO, kO, rfl, _⟩ := zae hO9; have HOut := yq hok9; have HO9 := yq hO9; have lb := hB9.lt; have rl := HJ3.o.hR.lt; have rf := HJ3.o.hR.frozen 0; have rc := HJ3.o.hR.cell (i := 0) (v := .slice none 0 0) rfl; have HBE := yq HJ3.o.bel; have HRR := yq HJ3.o.hR; have hle := HJ3.o.le; clear hok9 hO9 HJ3; rw [<- HQ.o] at hB9 hs9; cases hS : za0 xs ls (zao ls) e with
     | none =>
       have q1 : zak xs e = [] /\ zah xs e = 3 := by rw [HQA.o.1, HQA.o.2, hS]; exact ⟨rfl, rfl⟩
       have HX := yq q1; have a2 := hB9.cell (i := 2) (v := .bool true) (by rw [hS]; rfl); clear hS hs9 hB9 q1; go_wp2_with fail
       refine bodyPost_ret (v := .tuple #[.agg #[.slice none 0 0], .int .i64 3]) (by simp [results, Tryz.results23, go_sem, rc]) rfl ⟨Below.setCell HBE.o (by show w.heap.size <= w.heap.size; omega) _, .slice none 0 0, by rw [HX.o.1]; exact World.ownsRow_nil _ _ _ _, by rw [HX.o.2]⟩
     | some o =>
       have e9 := hs9 o hS; subst e9; have q1 : zak xs e = zaQ o /\ zah xs e = 0 := by rw [HQA.o.1, HQA.o.2, hS]; exact ⟨rfl, rfl⟩
       have HX := yq q1; have a1 := hB9.cell (i := 1) (v := .slice AO o.length kO) rfl; have a2 := hB9.cell (i := 2) (v := .bool false) (by rw [hS]; rfl); clear hS hs9 hB9 q1; go_wp2_with fail
       refine (zbM b 1 _ o _ a1 lb HO9.o.sl (by have := zax HOut.o; omega) (zaz (zai HOut.o).2.choose_spec)).mono ?_
       rintro e10 w10 ⟨hb10, v10, own10, rfl⟩; have HR10 := yq (HRR.o.up hb10); have HB10 := yq (Below.tr HBE.o hb10); have HO10 := yq own10; obtain ⟨A10, k10, rfl, _⟩ := zae own10; have b0 := HR10.o.cell (i := 0) (v := .slice none 0 0) rfl; have b1 := HR10.o.frozen 0; have b2 := HR10.o.lt; have hzz := HBE.o.size; clear hb10 own10 a1 a2 rl rf rc; go_wp2_with fail
       refine bodyPost_ret (v := .tuple #[.agg #[.slice A10 (zaQ o).length k10], .int .i64 0]) (by simp [results, Tryz.results23, go_sem, b0]) rfl ⟨HB10.o.setCell (by show w.heap.size <= w.heap.size; omega) _, .slice A10 (zaQ o).length k10, ?_, by rw [HX.o.2]⟩
       rw [HX.o.1]; exact zad (ownsRow_setCell_below HO10.o (a := ⟨w.heap.size, 0, none⟩) (by show w.heap.size < _; omega) _) yO
   · have x0 := HJ1.o.hE.c0
     rw [hk] at x0; have HKE := yq hk; clear hk; have aE3 := HJ1.o.hE.c3; have aE := HJ1.o.hE.lt; have aB := HJ1.o.hM.lt; go_wp2_with fail
     refine (zaT b P oP _ xs ls _ 0 (e.k) _ HJ1.o.hM HJ1.o.cP.c HJ1.o.cP.lt ((HG.o.below HJ1.o.bel).le HJ1.o.le) HOK.o HL.o (by first | (have := HF.o; have := HKE.o; omega) | (have := HF.o; have := HKE.o; have := HKI.o; omega))).mono ?_
     rintro e6 W2 ⟨rfl, hb1, ha1⟩; have HJ2 := yq (HJ1.o.next hb1 ha1); clear aE3 aE aB hb1 ha1 HJ1; have aE1 := HJ2.o.hE.c1; have aE2 := HJ2.o.hE.c2; have aE := HJ2.o.hE.lt; have aB := HJ2.o.hM.lt; go_wp2_with fail
     go_still_tail 9, yk
     change wpList _ _ _ _ _ W2.drew
     replace HJ2 := yq HJ2.o.drew
     clear aE1 aE2 aE aB; generalize W2.drew = W2 at *; have aE1 := HJ2.o.hE.c1; have aE2 := HJ2.o.hE.c2; have aE := HJ2.o.hE.lt; have aB := HJ2.o.hM.lt; go_wp2_with fail
     refine (zaT b P oP _ xs ls _ e.i (e.j) _ HJ2.o.hM HJ2.o.cP.c HJ2.o.cP.lt ((HG.o.below HJ2.o.bel).le HJ2.o.le) HOK.o HL.o (by first | (have := HF.o; have := HKE.o; omega) | (have := HF.o; have := HKE.o; have := HKI.o; omega))).mono ?_
     rintro e7 W3 ⟨rfl, hb2, ha2⟩; have HJ3 := yq (HJ2.o.next hb2 ha2); clear aE1 aE2 aE aB hb2 ha2 HJ2; have aE3 := HJ3.o.hE.c3; have aE := HJ3.o.hE.lt; have aB := HJ3.o.hM.lt; go_wp2_with fail
     refine (zaT b P oP _ xs ls _ e.k (zao ls) _ HJ3.o.hM HJ3.o.cP.c HJ3.o.cP.lt ((HG.o.below HJ3.o.bel).le HJ3.o.le) HOK.o HL.o (by first | (have := HF.o; have := HKE.o; omega) | (have := HF.o; have := HKE.o; have := HKI.o; omega))).mono ?_
     rintro e8 W4 ⟨rfl, hb3, ha3⟩; have HJ4 := yq (HJ3.o.next hb3 ha3); clear aE3 aE aB hb3 ha3 HJ3; have hQ : za0 xs ls (zao ls) e = zbC (zbC (zbC (some []) (zbt (zap xs ls 0 (e.k)))) (zbt (zap xs ls e.i (e.j)))) (zbt (zap xs ls e.k (zao ls))) := by unfold za0; rw [if_neg (by rw [HKE.o]; decide), if_neg (by rw [HKE.o]; decide), if_pos HKE.o]
     have HQ := yq hQ; clear hQ; obtain ⟨vO, out, hB9, hO9, hs9, hok9⟩ := HJ4.o.hM; obtain ⟨AO, kO, rfl, _⟩ := zae hO9; have HOut := yq hok9; have HO9 := yq hO9; have lb := hB9.lt; have rl := HJ4.o.hR.lt; have rf := HJ4.o.hR.frozen 0; have rc := HJ4.o.hR.cell (i := 0) (v := .slice none 0 0) rfl; have HBE := yq HJ4.o.bel; have HRR := yq HJ4.o.hR; have hle := HJ4.o.le; clear hok9 hO9 HJ4; rw [<- HQ.o] at hB9 hs9; cases hS : za0 xs ls (zao ls) e with
     | none =>
       have q1 : zak xs e = [] /\ zah xs e = 3 := by rw [HQA.o.1, HQA.o.2, hS]; exact ⟨rfl, rfl⟩
       have HX := yq q1; have a2 := hB9.cell (i := 2) (v := .bool true) (by rw [hS]; rfl); clear hS hs9 hB9 q1; go_wp2_with fail
       refine bodyPost_ret (v := .tuple #[.agg #[.slice none 0 0], .int .i64 3]) (by simp [results, Tryz.results23, go_sem, rc]) rfl ⟨Below.setCell HBE.o (by show w.heap.size <= w.heap.size; omega) _, .slice none 0 0, by rw [HX.o.1]; exact World.ownsRow_nil _ _ _ _, by rw [HX.o.2]⟩
     | some o =>
       have e9 := hs9 o hS; subst e9; have q1 : zak xs e = zaQ o /\ zah xs e = 0 := by rw [HQA.o.1, HQA.o.2, hS]; exact ⟨rfl, rfl⟩
       have HX := yq q1; have a1 := hB9.cell (i := 1) (v := .slice AO o.length kO) rfl; have a2 := hB9.cell (i := 2) (v := .bool false) (by rw [hS]; rfl); clear hS hs9 hB9 q1; go_wp2_with fail
       refine (zbM b 1 _ o _ a1 lb HO9.o.sl (by have := zax HOut.o; omega) (zaz (zai HOut.o).2.choose_spec)).mono ?_
       rintro e10 w10 ⟨hb10, v10, own10, rfl⟩; have HR10 := yq (HRR.o.up hb10); have HB10 := yq (Below.tr HBE.o hb10); have HO10 := yq own10; obtain ⟨A10, k10, rfl, _⟩ := zae own10; have b0 := HR10.o.cell (i := 0) (v := .slice none 0 0) rfl; have b1 := HR10.o.frozen 0; have b2 := HR10.o.lt; have hzz := HBE.o.size; clear hb10 own10 a1 a2 rl rf rc; go_wp2_with fail
       refine bodyPost_ret (v := .tuple #[.agg #[.slice A10 (zaQ o).length k10], .int .i64 0]) (by simp [results, Tryz.results23, go_sem, b0]) rfl ⟨HB10.o.setCell (by show w.heap.size <= w.heap.size; omega) _, .slice A10 (zaQ o).length k10, ?_, by rw [HX.o.2]⟩
       rw [HX.o.1]; exact zad (ownsRow_setCell_below HO10.o (a := ⟨w.heap.size, 0, none⟩) (by show w.heap.size < _; omega) _) yO
   · have x0 := HJ1.o.hE.c0
     rw [hk] at x0; have HKE := yq hk; clear hk; by_cases hki : e.k <= e.i
     · have HKI := yq hki
       have y1 := HJ1.o.hE.c1; have y3 := HJ1.o.hE.c3; have yl := HJ1.o.hE.lt; go_wp2_with fail
       go_quiet (fail)
       replace HJ1 := yq (HJ1.o.drewN nq)
       clear x0 y1 y3 yl; generalize W1.drewN nq = W1 at *; have x0 := HJ1.o.hE.c0; rw [HKE.o] at x0; have yl := HJ1.o.hE.lt; clear hki; have aE3 := HJ1.o.hE.c3; have aE := HJ1.o.hE.lt; have aB := HJ1.o.hM.lt; go_wp2_with fail
       refine (zaT b P oP _ xs ls _ 0 (e.k) _ HJ1.o.hM HJ1.o.cP.c HJ1.o.cP.lt ((HG.o.below HJ1.o.bel).le HJ1.o.le) HOK.o HL.o (by first | (have := HF.o; have := HKE.o; omega) | (have := HF.o; have := HKE.o; have := HKI.o; omega))).mono ?_
       rintro e6 W2 ⟨rfl, hb1, ha1⟩; have HJ2 := yq (HJ1.o.next hb1 ha1); clear aE3 aE aB hb1 ha1 HJ1; have aE1 := HJ2.o.hE.c1; have aE2 := HJ2.o.hE.c2; have aE := HJ2.o.hE.lt; have aB := HJ2.o.hM.lt; go_wp2_with fail
       go_still_tail 9, yk
       change wpList _ _ _ _ _ W2.drew
       replace HJ2 := yq HJ2.o.drew
       clear aE1 aE2 aE aB; generalize W2.drew = W2 at *; have aE1 := HJ2.o.hE.c1; have aE2 := HJ2.o.hE.c2; have aE := HJ2.o.hE.lt; have aB := HJ2.o.hM.lt; go_wp2_with fail
       refine (zaT b P oP _ xs ls _ e.i (e.j) _ HJ2.o.hM HJ2.o.cP.c HJ2.o.cP.lt ((HG.o.below HJ2.o.bel).le HJ2.o.le) HOK.o HL.o (by first | (have := HF.o; have := HKE.o; omega) | (have := HF.o; have := HKE.o; have := HKI.o; omega))).mono ?_
       rintro e7 W3 ⟨rfl, hb2, ha2⟩; have HJ3 := yq (HJ2.o.next hb2 ha2); clear aE1 aE2 aE aB hb2 ha2 HJ2; have aE1 := HJ3.o.hE.c1; have aE3 := HJ3.o.hE.c3; have aE := HJ3.o.hE.lt; have aB := HJ3.o.hM.lt; go_wp2_with fail
       go_still_tail 9, yk
       change wpList _ _ _ _ _ W3.drew
       replace HJ3 := yq HJ3.o.drew
       clear aE1 aE3 aE aB; generalize W3.drew = W3 at *; have aE1 := HJ3.o.hE.c1; have aE3 := HJ3.o.hE.c3; have aE := HJ3.o.hE.lt; have aB := HJ3.o.hM.lt; go_wp2_with fail
       refine (zaT b P oP _ xs ls _ e.k (e.i) _ HJ3.o.hM HJ3.o.cP.c HJ3.o.cP.lt ((HG.o.below HJ3.o.bel).le HJ3.o.le) HOK.o HL.o (by first | (have := HF.o; have := HKE.o; omega) | (have := HF.o; have := HKE.o; have := HKI.o; omega))).mono ?_
       rintro e8 W4 ⟨rfl, hb3, ha3⟩; have HJ4 := yq (HJ3.o.next hb3 ha3); clear aE1 aE3 aE aB hb3 ha3 HJ3; have aE2 := HJ4.o.hE.c2; have aE := HJ4.o.hE.lt; have aB := HJ4.o.hM.lt; go_wp2_with fail
       refine (zaT b P oP _ xs ls _ e.j (zao ls) _ HJ4.o.hM HJ4.o.cP.c HJ4.o.cP.lt ((HG.o.below HJ4.o.bel).le HJ4.o.le) HOK.o HL.o (by first | (have := HF.o; have := HKE.o; omega) | (have := HF.o; have := HKE.o; have := HKI.o; omega))).mono ?_
       rintro e9 W5 ⟨rfl, hb4, ha4⟩; have HJ5 := yq (HJ4.o.next hb4 ha4); clear aE2 aE aB hb4 ha4 HJ4; have hQ : za0 xs ls (zao ls) e = zbC (zbC (zbC (zbC (some []) (zbt (zap xs ls 0 (e.k)))) (zbt (zap xs ls e.i (e.j)))) (zbt (zap xs ls e.k (e.i)))) (zbt (zap xs ls e.j (zao ls))) := by unfold za0; rw [if_neg (by rw [HKE.o]; decide), if_neg (by rw [HKE.o]; decide), if_neg (by rw [HKE.o]; decide), if_pos HKE.o, if_pos HKI.o]
       have HQ := yq hQ; clear hQ; obtain ⟨vO, out, hB9, hO9, hs9, hok9⟩ := HJ5.o.hM; obtain ⟨AO, kO, rfl, _⟩ := zae hO9; have HOut := yq hok9; have HO9 := yq hO9; have lb := hB9.lt; have rl := HJ5.o.hR.lt; have rf := HJ5.o.hR.frozen 0; have rc := HJ5.o.hR.cell (i := 0) (v := .slice none 0 0) rfl; have HBE := yq HJ5.o.bel; have HRR := yq HJ5.o.hR; have hle := HJ5.o.le; clear hok9 hO9 HJ5; rw [<- HQ.o] at hB9 hs9; cases hS : za0 xs ls (zao ls) e with
       | none =>
         have q1 : zak xs e = [] /\ zah xs e = 3 := by rw [HQA.o.1, HQA.o.2, hS]; exact ⟨rfl, rfl⟩
         have HX := yq q1; have a2 := hB9.cell (i := 2) (v := .bool true) (by rw [hS]; rfl); clear hS hs9 hB9 q1; go_wp2_with fail
         refine bodyPost_ret (v := .tuple #[.agg #[.slice none 0 0], .int .i64 3]) (by simp [results, Tryz.results23, go_sem, rc]) rfl ⟨Below.setCell HBE.o (by show w.heap.size <= w.heap.size; omega) _, .slice none 0 0, by rw [HX.o.1]; exact World.ownsRow_nil _ _ _ _, by rw [HX.o.2]⟩
       | some o =>
         have e9 := hs9 o hS; subst e9; have q1 : zak xs e = zaQ o /\ zah xs e = 0 := by rw [HQA.o.1, HQA.o.2, hS]; exact ⟨rfl, rfl⟩
         have HX := yq q1; have a1 := hB9.cell (i := 1) (v := .slice AO o.length kO) rfl; have a2 := hB9.cell (i := 2) (v := .bool false) (by rw [hS]; rfl); clear hS hs9 hB9 q1; go_wp2_with fail
         refine (zbM b 1 _ o _ a1 lb HO9.o.sl (by have := zax HOut.o; omega) (zaz (zai HOut.o).2.choose_spec)).mono ?_
         rintro e10 w10 ⟨hb10, v10, own10, rfl⟩; have HR10 := yq (HRR.o.up hb10); have HB10 := yq (Below.tr HBE.o hb10); have HO10 := yq own10; obtain ⟨A10, k10, rfl, _⟩ := zae own10; have b0 := HR10.o.cell (i := 0) (v := .slice none 0 0) rfl; have b1 := HR10.o.frozen 0; have b2 := HR10.o.lt; have hzz := HBE.o.size; clear hb10 own10 a1 a2 rl rf rc; go_wp2_with fail
         refine bodyPost_ret (v := .tuple #[.agg #[.slice A10 (zaQ o).length k10], .int .i64 0]) (by simp [results, Tryz.results23, go_sem, b0]) rfl ⟨HB10.o.setCell (by show w.heap.size <= w.heap.size; omega) _, .slice A10 (zaQ o).length k10, ?_, by rw [HX.o.2]⟩
         rw [HX.o.1]; exact zad (ownsRow_setCell_below HO10.o (a := ⟨w.heap.size, 0, none⟩) (by show w.heap.size < _; omega) _) yO
     · have HKI := yq hki
       have hkd : decide (e.k <= e.i) = false := by simp; omega
       have y1 := HJ1.o.hE.c1; have y3 := HJ1.o.hE.c3; have yl := HJ1.o.hE.lt; go_wp2_with fail
       go_quiet (fail)
       replace HJ1 := yq (HJ1.o.drewN nq)
       clear x0 y1 y3 yl; generalize W1.drewN nq = W1 at *; have x0 := HJ1.o.hE.c0; rw [HKE.o] at x0; have yl := HJ1.o.hE.lt; clear hki hkd; have aE1 := HJ1.o.hE.c1; have aE := HJ1.o.hE.lt; have aB := HJ1.o.hM.lt; go_wp2_with fail
       refine (zaT b P oP _ xs ls _ 0 (e.i) _ HJ1.o.hM HJ1.o.cP.c HJ1.o.cP.lt ((HG.o.below HJ1.o.bel).le HJ1.o.le) HOK.o HL.o (by first | (have := HF.o; have := HKE.o; omega) | (have := HF.o; have := HKE.o; have := HKI.o; omega))).mono ?_
       rintro e6 W2 ⟨rfl, hb1, ha1⟩; have HJ2 := yq (HJ1.o.next hb1 ha1); clear aE1 aE aB hb1 ha1 HJ1; have aE2 := HJ2.o.hE.c2; have aE3 := HJ2.o.hE.c3; have aE := HJ2.o.hE.lt; have aB := HJ2.o.hM.lt; go_wp2_with fail
       go_still_tail 9, yk
       change wpList _ _ _ _ _ W2.drew
       replace HJ2 := yq HJ2.o.drew
       clear aE2 aE3 aE aB; generalize W2.drew = W2 at *; have aE2 := HJ2.o.hE.c2; have aE3 := HJ2.o.hE.c3; have aE := HJ2.o.hE.lt; have aB := HJ2.o.hM.lt; go_wp2_with fail
       refine (zaT b P oP _ xs ls _ e.j (e.k) _ HJ2.o.hM HJ2.o.cP.c HJ2.o.cP.lt ((HG.o.below HJ2.o.bel).le HJ2.o.le) HOK.o HL.o (by first | (have := HF.o; have := HKE.o; omega) | (have := HF.o; have := HKE.o; have := HKI.o; omega))).mono ?_
       rintro e7 W3 ⟨rfl, hb2, ha2⟩; have HJ3 := yq (HJ2.o.next hb2 ha2); clear aE2 aE3 aE aB hb2 ha2 HJ2; have aE1 := HJ3.o.hE.c1; have aE2 := HJ3.o.hE.c2; have aE := HJ3.o.hE.lt; have aB := HJ3.o.hM.lt; go_wp2_with fail
       go_still_tail 9, yk
       change wpList _ _ _ _ _ W3.drew
       replace HJ3 := yq HJ3.o.drew
       clear aE1 aE2 aE aB; generalize W3.drew = W3 at *; have aE1 := HJ3.o.hE.c1; have aE2 := HJ3.o.hE.c2; have aE := HJ3.o.hE.lt; have aB := HJ3.o.hM.lt; go_wp2_with fail
       refine (zaT b P oP _ xs ls _ e.i (e.j) _ HJ3.o.hM HJ3.o.cP.c HJ3.o.cP.lt ((HG.o.below HJ3.o.bel).le HJ3.o.le) HOK.o HL.o (by first | (have := HF.o; have := HKE.o; omega) | (have := HF.o; have := HKE.o; have := HKI.o; omega))).mono ?_
       rintro e8 W4 ⟨rfl, hb3, ha3⟩; have HJ4 := yq (HJ3.o.next hb3 ha3); clear aE1 aE2 aE aB hb3 ha3 HJ3; have aE3 := HJ4.o.hE.c3; have aE := HJ4.o.hE.lt; have aB := HJ4.o.hM.lt; go_wp2_with fail
       refine (zaT b P oP _ xs ls _ e.k (zao ls) _ HJ4.o.hM HJ4.o.cP.c HJ4.o.cP.lt ((HG.o.below HJ4.o.bel).le HJ4.o.le) HOK.o HL.o (by first | (have := HF.o; have := HKE.o; omega) | (have := HF.o; have := HKE.o; have := HKI.o; omega))).mono ?_
       rintro e9 W5 ⟨rfl, hb4, ha4⟩; have HJ5 := yq (HJ4.o.next hb4 ha4); clear aE3 aE aB hb4 ha4 HJ4; have hQ : za0 xs ls (zao ls) e = zbC (zbC (zbC (zbC (some []) (zbt (zap xs ls 0 (e.i)))) (zbt (zap xs ls e.j (e.k)))) (zbt (zap xs ls e.i (e.j)))) (zbt (zap xs ls e.k (zao ls))) := by unfold za0; rw [if_neg (by rw [HKE.o]; decide), if_neg (by rw [HKE.o]; decide), if_neg (by rw [HKE.o]; decide), if_pos HKE.o, if_neg (by have := HKI.o; omega)]
       have HQ := yq hQ; clear hQ; obtain ⟨vO, out, hB9, hO9, hs9, hok9⟩ := HJ5.o.hM; obtain ⟨AO, kO, rfl, _⟩ := zae hO9; have HOut := yq hok9; have HO9 := yq hO9; have lb := hB9.lt; have rl := HJ5.o.hR.lt; have rf := HJ5.o.hR.frozen 0; have rc := HJ5.o.hR.cell (i := 0) (v := .slice none 0 0) rfl; have HBE := yq HJ5.o.bel; have HRR := yq HJ5.o.hR; have hle := HJ5.o.le; clear hok9 hO9 HJ5; rw [<- HQ.o] at hB9 hs9; cases hS : za0 xs ls (zao ls) e with
       | none =>
         have q1 : zak xs e = [] /\ zah xs e = 3 := by rw [HQA.o.1, HQA.o.2, hS]; exact ⟨rfl, rfl⟩
         have HX := yq q1; have a2 := hB9.cell (i := 2) (v := .bool true) (by rw [hS]; rfl); clear hS hs9 hB9 q1; go_wp2_with fail
         refine bodyPost_ret (v := .tuple #[.agg #[.slice none 0 0], .int .i64 3]) (by simp [results, Tryz.results23, go_sem, rc]) rfl ⟨Below.setCell HBE.o (by show w.heap.size <= w.heap.size; omega) _, .slice none 0 0, by rw [HX.o.1]; exact World.ownsRow_nil _ _ _ _, by rw [HX.o.2]⟩
       | some o =>
         have e9 := hs9 o hS; subst e9; have q1 : zak xs e = zaQ o /\ zah xs e = 0 := by rw [HQA.o.1, HQA.o.2, hS]; exact ⟨rfl, rfl⟩
         have HX := yq q1; have a1 := hB9.cell (i := 1) (v := .slice AO o.length kO) rfl; have a2 := hB9.cell (i := 2) (v := .bool false) (by rw [hS]; rfl); clear hS hs9 hB9 q1; go_wp2_with fail
         refine (zbM b 1 _ o _ a1 lb HO9.o.sl (by have := zax HOut.o; omega) (zaz (zai HOut.o).2.choose_spec)).mono ?_
         rintro e10 w10 ⟨hb10, v10, own10, rfl⟩; have HR10 := yq (HRR.o.up hb10); have HB10 := yq (Below.tr HBE.o hb10); have HO10 := yq own10; obtain ⟨A10, k10, rfl, _⟩ := zae own10; have b0 := HR10.o.cell (i := 0) (v := .slice none 0 0) rfl; have b1 := HR10.o.frozen 0; have b2 := HR10.o.lt; have hzz := HBE.o.size; clear hb10 own10 a1 a2 rl rf rc; go_wp2_with fail
         refine bodyPost_ret (v := .tuple #[.agg #[.slice A10 (zaQ o).length k10], .int .i64 0]) (by simp [results, Tryz.results23, go_sem, b0]) rfl ⟨HB10.o.setCell (by show w.heap.size <= w.heap.size; omega) _, .slice A10 (zaQ o).length k10, ?_, by rw [HX.o.2]⟩
         rw [HX.o.1]; exact zad (ownsRow_setCell_below HO10.o (a := ⟨w.heap.size, 0, none⟩) (by show w.heap.size < _; omega) _) yO
   · have HCK := yq hkk
     have hkc : ¬ e.kind = 1 /\ ¬ e.kind = 2 /\ ¬ e.kind = 3 /\ ¬ e.kind = 4 /\ (e.kind = 5 \/ e.kind = 6 \/ e.kind = 7) := by unfold zjF at hkk; omega
     have HKC := yq hkc; obtain ⟨_, _, _, _, hk⟩ := hkc; clear hkk; rcases hk with hk | hk | hk
     · have x0 := HJ1.o.hE.c0
       rw [hk] at x0; have HKE := yq hk; clear hk; have y1 := HJ1.o.hE.c1; have y3 := HJ1.o.hE.c3; have yl := HJ1.o.hE.lt; go_wp2_with fail
       go_quiet (fail)
       replace HJ1 := yq (HJ1.o.drewN nq)
       clear x0 y1 y3 yl; generalize W1.drewN nq = W1 at *; have x0 := HJ1.o.hE.c0; rw [HKE.o] at x0; have yl := HJ1.o.hE.lt; have aE1 := HJ1.o.hE.c1; have aE := HJ1.o.hE.lt; have aB := HJ1.o.hM.lt; go_wp2_with fail
       refine (zaT b P oP _ xs ls _ 0 (e.i) _ HJ1.o.hM HJ1.o.cP.c HJ1.o.cP.lt ((HG.o.below HJ1.o.bel).le HJ1.o.le) HOK.o HL.o (by first | (have := HF.o; have := HKE.o; omega) | (have := HF.o; have := HKE.o; have := HKI.o; omega))).mono ?_
       rintro e6 W2 ⟨rfl, hb1, ha1⟩; have HJ2 := yq (HJ1.o.next hb1 ha1); clear aE1 aE aB hb1 ha1 HJ1; have aE := HJ2.o.hE.lt; have aB := HJ2.o.hM.lt; go_wp2_with fail
       refine (zd7 b P oP E oE e _ _ xs ls _ _ HJ2.o.hM HJ2.o.cP HJ2.o.hE HJ2.o.neE ((HG.o.below HJ2.o.bel).le HJ2.o.le) HOK.o HL.o (by first | (have := HF.o; have := HKE.o; omega) | (have := HF.o; have := HKE.o; have := HKI.o; omega)) HCK.o).mono ?_
       rintro e7 W3 ⟨rfl, hb2, ha2⟩; have HJ3 := yq (HJ2.o.next hb2 ha2); clear aE aB hb2 ha2 HJ2; have aE2 := HJ3.o.hE.c2; have aE := HJ3.o.hE.lt; have aB := HJ3.o.hM.lt; go_wp2_with fail
       refine (zaT b P oP _ xs ls _ e.j (zao ls) _ HJ3.o.hM HJ3.o.cP.c HJ3.o.cP.lt ((HG.o.below HJ3.o.bel).le HJ3.o.le) HOK.o HL.o (by first | (have := HF.o; have := HKE.o; omega) | (have := HF.o; have := HKE.o; have := HKI.o; omega))).mono ?_
       rintro e8 W4 ⟨rfl, hb3, ha3⟩; have HJ4 := yq (HJ3.o.next hb3 ha3); clear aE2 aE aB hb3 ha3 HJ3; have hQ : za0 xs ls (zao ls) e = zbC (zbC (zbC (some []) (zbt (zap xs ls 0 (e.i)))) ((zbt (zap xs ls e.i e.j)).bind (zed e))) (zbt (zap xs ls e.j (zao ls))) := by unfold za0; rw [if_neg HKC.o.1, if_neg HKC.o.2.1, if_neg HKC.o.2.2.1, if_neg HKC.o.2.2.2.1]
       have HQ := yq hQ; clear hQ; obtain ⟨vO, out, hB9, hO9, hs9, hok9⟩ := HJ4.o.hM; obtain ⟨AO, kO, rfl, _⟩ := zae hO9; have HOut := yq hok9; have HO9 := yq hO9; have lb := hB9.lt; have rl := HJ4.o.hR.lt; have rf := HJ4.o.hR.frozen 0; have rc := HJ4.o.hR.cell (i := 0) (v := .slice none 0 0) rfl; have HBE := yq HJ4.o.bel; have HRR := yq HJ4.o.hR; have hle := HJ4.o.le; clear hok9 hO9 HJ4; rw [<- HQ.o] at hB9 hs9; cases hS : za0 xs ls (zao ls) e with
       | none =>
         have q1 : zak xs e = [] /\ zah xs e = 3 := by rw [HQA.o.1, HQA.o.2, hS]; exact ⟨rfl, rfl⟩
         have HX := yq q1; have a2 := hB9.cell (i := 2) (v := .bool true) (by rw [hS]; rfl); clear hS hs9 hB9 q1; go_wp2_with fail
         refine bodyPost_ret (v := .tuple #[.agg #[.slice none 0 0], .int .i64 3]) (by simp [results, Tryz.results23, go_sem, rc]) rfl ⟨Below.setCell HBE.o (by show w.heap.size <= w.heap.size; omega) _, .slice none 0 0, by rw [HX.o.1]; exact World.ownsRow_nil _ _ _ _, by rw [HX.o.2]⟩
       | some o =>
         have e9 := hs9 o hS; subst e9; have q1 : zak xs e = zaQ o /\ zah xs e = 0 := by rw [HQA.o.1, HQA.o.2, hS]; exact ⟨rfl, rfl⟩
         have HX := yq q1; have a1 := hB9.cell (i := 1) (v := .slice AO o.length kO) rfl; have a2 := hB9.cell (i := 2) (v := .bool false) (by rw [hS]; rfl); clear hS hs9 hB9 q1; go_wp2_with fail
         refine (zbM b 1 _ o _ a1 lb HO9.o.sl (by have := zax HOut.o; omega) (zaz (zai HOut.o).2.choose_spec)).mono ?_
         rintro e10 w10 ⟨hb10, v10, own10, rfl⟩; have HR10 := yq (HRR.o.up hb10); have HB10 := yq (Below.tr HBE.o hb10); have HO10 := yq own10; obtain ⟨A10, k10, rfl, _⟩ := zae own10; have b0 := HR10.o.cell (i := 0) (v := .slice none 0 0) rfl; have b1 := HR10.o.frozen 0; have b2 := HR10.o.lt; have hzz := HBE.o.size; clear hb10 own10 a1 a2 rl rf rc; go_wp2_with fail
         refine bodyPost_ret (v := .tuple #[.agg #[.slice A10 (zaQ o).length k10], .int .i64 0]) (by simp [results, Tryz.results23, go_sem, b0]) rfl ⟨HB10.o.setCell (by show w.heap.size <= w.heap.size; omega) _, .slice A10 (zaQ o).length k10, ?_, by rw [HX.o.2]⟩
         rw [HX.o.1]; exact zad (ownsRow_setCell_below HO10.o (a := ⟨w.heap.size, 0, none⟩) (by show w.heap.size < _; omega) _) yO
     · have x0 := HJ1.o.hE.c0
       rw [hk] at x0; have HKE := yq hk; clear hk; have y1 := HJ1.o.hE.c1; have y3 := HJ1.o.hE.c3; have yl := HJ1.o.hE.lt; go_wp2_with fail
       go_quiet (fail)
       replace HJ1 := yq (HJ1.o.drewN nq)
       clear x0 y1 y3 yl; generalize W1.drewN nq = W1 at *; have x0 := HJ1.o.hE.c0; rw [HKE.o] at x0; have yl := HJ1.o.hE.lt; have aE1 := HJ1.o.hE.c1; have aE := HJ1.o.hE.lt; have aB := HJ1.o.hM.lt; go_wp2_with fail
       refine (zaT b P oP _ xs ls _ 0 (e.i) _ HJ1.o.hM HJ1.o.cP.c HJ1.o.cP.lt ((HG.o.below HJ1.o.bel).le HJ1.o.le) HOK.o HL.o (by first | (have := HF.o; have := HKE.o; omega) | (have := HF.o; have := HKE.o; have := HKI.o; omega))).mono ?_
       rintro e6 W2 ⟨rfl, hb1, ha1⟩; have HJ2 := yq (HJ1.o.next hb1 ha1); clear aE1 aE aB hb1 ha1 HJ1; have aE := HJ2.o.hE.lt; have aB := HJ2.o.hM.lt; go_wp2_with fail
       refine (zd7 b P oP E oE e _ _ xs ls _ _ HJ2.o.hM HJ2.o.cP HJ2.o.hE HJ2.o.neE ((HG.o.below HJ2.o.bel).le HJ2.o.le) HOK.o HL.o (by first | (have := HF.o; have := HKE.o; omega) | (have := HF.o; have := HKE.o; have := HKI.o; omega)) HCK.o).mono ?_
       rintro e7 W3 ⟨rfl, hb2, ha2⟩; have HJ3 := yq (HJ2.o.next hb2 ha2); clear aE aB hb2 ha2 HJ2; have aE2 := HJ3.o.hE.c2; have aE := HJ3.o.hE.lt; have aB := HJ3.o.hM.lt; go_wp2_with fail
       refine (zaT b P oP _ xs ls _ e.j (zao ls) _ HJ3.o.hM HJ3.o.cP.c HJ3.o.cP.lt ((HG.o.below HJ3.o.bel).le HJ3.o.le) HOK.o HL.o (by first | (have := HF.o; have := HKE.o; omega) | (have := HF.o; have := HKE.o; have := HKI.o; omega))).mono ?_
       rintro e8 W4 ⟨rfl, hb3, ha3⟩; have HJ4 := yq (HJ3.o.next hb3 ha3); clear aE2 aE aB hb3 ha3 HJ3; have hQ : za0 xs ls (zao ls) e = zbC (zbC (zbC (some []) (zbt (zap xs ls 0 (e.i)))) ((zbt (zap xs ls e.i e.j)).bind (zed e))) (zbt (zap xs ls e.j (zao ls))) := by unfold za0; rw [if_neg HKC.o.1, if_neg HKC.o.2.1, if_neg HKC.o.2.2.1, if_neg HKC.o.2.2.2.1]
       have HQ := yq hQ; clear hQ; obtain ⟨vO, out, hB9, hO9, hs9, hok9⟩ := HJ4.o.hM; obtain ⟨AO, kO, rfl, _⟩ := zae hO9; have HOut := yq hok9; have HO9 := yq hO9; have lb := hB9.lt; have rl := HJ4.o.hR.lt; have rf := HJ4.o.hR.frozen 0; have rc := HJ4.o.hR.cell (i := 0) (v := .slice none 0 0) rfl; have HBE := yq HJ4.o.bel; have HRR := yq HJ4.o.hR; have hle := HJ4.o.le; clear hok9 hO9 HJ4; rw [<- HQ.o] at hB9 hs9; cases hS : za0 xs ls (zao ls) e with
       | none =>
         have q1 : zak xs e = [] /\ zah xs e = 3 := by rw [HQA.o.1, HQA.o.2, hS]; exact ⟨rfl, rfl⟩
         have HX := yq q1; have a2 := hB9.cell (i := 2) (v := .bool true) (by rw [hS]; rfl); clear hS hs9 hB9 q1; go_wp2_with fail
         refine bodyPost_ret (v := .tuple #[.agg #[.slice none 0 0], .int .i64 3]) (by simp [results, Tryz.results23, go_sem, rc]) rfl ⟨Below.setCell HBE.o (by show w.heap.size <= w.heap.size; omega) _, .slice none 0 0, by rw [HX.o.1]; exact World.ownsRow_nil _ _ _ _, by rw [HX.o.2]⟩
       | some o =>
         have e9 := hs9 o hS; subst e9; have q1 : zak xs e = zaQ o /\ zah xs e = 0 := by rw [HQA.o.1, HQA.o.2, hS]; exact ⟨rfl, rfl⟩
         have HX := yq q1; have a1 := hB9.cell (i := 1) (v := .slice AO o.length kO) rfl; have a2 := hB9.cell (i := 2) (v := .bool false) (by rw [hS]; rfl); clear hS hs9 hB9 q1; go_wp2_with fail
         refine (zbM b 1 _ o _ a1 lb HO9.o.sl (by have := zax HOut.o; omega) (zaz (zai HOut.o).2.choose_spec)).mono ?_
         rintro e10 w10 ⟨hb10, v10, own10, rfl⟩; have HR10 := yq (HRR.o.up hb10); have HB10 := yq (Below.tr HBE.o hb10); have HO10 := yq own10; obtain ⟨A10, k10, rfl, _⟩ := zae own10; have b0 := HR10.o.cell (i := 0) (v := .slice none 0 0) rfl; have b1 := HR10.o.frozen 0; have b2 := HR10.o.lt; have hzz := HBE.o.size; clear hb10 own10 a1 a2 rl rf rc; go_wp2_with fail
         refine bodyPost_ret (v := .tuple #[.agg #[.slice A10 (zaQ o).length k10], .int .i64 0]) (by simp [results, Tryz.results23, go_sem, b0]) rfl ⟨HB10.o.setCell (by show w.heap.size <= w.heap.size; omega) _, .slice A10 (zaQ o).length k10, ?_, by rw [HX.o.2]⟩
         rw [HX.o.1]; exact zad (ownsRow_setCell_below HO10.o (a := ⟨w.heap.size, 0, none⟩) (by show w.heap.size < _; omega) _) yO
     · have x0 := HJ1.o.hE.c0
       rw [hk] at x0; have HKE := yq hk; clear hk; have y1 := HJ1.o.hE.c1; have y3 := HJ1.o.hE.c3; have yl := HJ1.o.hE.lt; go_wp2_with fail
       go_quiet (fail)
       replace HJ1 := yq (HJ1.o.drewN nq)
       clear x0 y1 y3 yl; generalize W1.drewN nq = W1 at *; have x0 := HJ1.o.hE.c0; rw [HKE.o] at x0; have yl := HJ1.o.hE.lt; have aE1 := HJ1.o.hE.c1; have aE := HJ1.o.hE.lt; have aB := HJ1.o.hM.lt; go_wp2_with fail
       refine (zaT b P oP _ xs ls _ 0 (e.i) _ HJ1.o.hM HJ1.o.cP.c HJ1.o.cP.lt ((HG.o.below HJ1.o.bel).le HJ1.o.le) HOK.o HL.o (by first | (have := HF.o; have := HKE.o; omega) | (have := HF.o; have := HKE.o; have := HKI.o; omega))).mono ?_
       rintro e6 W2 ⟨rfl, hb1, ha1⟩; have HJ2 := yq (HJ1.o.next hb1 ha1); clear aE1 aE aB hb1 ha1 HJ1; have aE := HJ2.o.hE.lt; have aB := HJ2.o.hM.lt; go_wp2_with fail
       refine (zd7 b P oP E oE e _ _ xs ls _ _ HJ2.o.hM HJ2.o.cP HJ2.o.hE HJ2.o.neE ((HG.o.below HJ2.o.bel).le HJ2.o.le) HOK.o HL.o (by first | (have := HF.o; have := HKE.o; omega) | (have := HF.o; have := HKE.o; have := HKI.o; omega)) HCK.o).mono ?_
       rintro e7 W3 ⟨rfl, hb2, ha2⟩; have HJ3 := yq (HJ2.o.next hb2 ha2); clear aE aB hb2 ha2 HJ2; have aE2 := HJ3.o.hE.c2; have aE := HJ3.o.hE.lt; have aB := HJ3.o.hM.lt; go_wp2_with fail
       refine (zaT b P oP _ xs ls _ e.j (zao ls) _ HJ3.o.hM HJ3.o.cP.c HJ3.o.cP.lt ((HG.o.below HJ3.o.bel).le HJ3.o.le) HOK.o HL.o (by first | (have := HF.o; have := HKE.o; omega) | (have := HF.o; have := HKE.o; have := HKI.o; omega))).mono ?_
       rintro e8 W4 ⟨rfl, hb3, ha3⟩; have HJ4 := yq (HJ3.o.next hb3 ha3); clear aE2 aE aB hb3 ha3 HJ3; have hQ : za0 xs ls (zao ls) e = zbC (zbC (zbC (some []) (zbt (zap xs ls 0 (e.i)))) ((zbt (zap xs ls e.i e.j)).bind (zed e))) (zbt (zap xs ls e.j (zao ls))) := by unfold za0; rw [if_neg HKC.o.1, if_neg HKC.o.2.1, if_neg HKC.o.2.2.1, if_neg HKC.o.2.2.2.1]
       have HQ := yq hQ; clear hQ; obtain ⟨vO, out, hB9, hO9, hs9, hok9⟩ := HJ4.o.hM; obtain ⟨AO, kO, rfl, _⟩ := zae hO9; have HOut := yq hok9; have HO9 := yq hO9; have lb := hB9.lt; have rl := HJ4.o.hR.lt; have rf := HJ4.o.hR.frozen 0; have rc := HJ4.o.hR.cell (i := 0) (v := .slice none 0 0) rfl; have HBE := yq HJ4.o.bel; have HRR := yq HJ4.o.hR; have hle := HJ4.o.le; clear hok9 hO9 HJ4; rw [<- HQ.o] at hB9 hs9; cases hS : za0 xs ls (zao ls) e with
       | none =>
         have q1 : zak xs e = [] /\ zah xs e = 3 := by rw [HQA.o.1, HQA.o.2, hS]; exact ⟨rfl, rfl⟩
         have HX := yq q1; have a2 := hB9.cell (i := 2) (v := .bool true) (by rw [hS]; rfl); clear hS hs9 hB9 q1; go_wp2_with fail
         refine bodyPost_ret (v := .tuple #[.agg #[.slice none 0 0], .int .i64 3]) (by simp [results, Tryz.results23, go_sem, rc]) rfl ⟨Below.setCell HBE.o (by show w.heap.size <= w.heap.size; omega) _, .slice none 0 0, by rw [HX.o.1]; exact World.ownsRow_nil _ _ _ _, by rw [HX.o.2]⟩
       | some o =>
         have e9 := hs9 o hS; subst e9; have q1 : zak xs e = zaQ o /\ zah xs e = 0 := by rw [HQA.o.1, HQA.o.2, hS]; exact ⟨rfl, rfl⟩
         have HX := yq q1; have a1 := hB9.cell (i := 1) (v := .slice AO o.length kO) rfl; have a2 := hB9.cell (i := 2) (v := .bool false) (by rw [hS]; rfl); clear hS hs9 hB9 q1; go_wp2_with fail
         refine (zbM b 1 _ o _ a1 lb HO9.o.sl (by have := zax HOut.o; omega) (zaz (zai HOut.o).2.choose_spec)).mono ?_
         rintro e10 w10 ⟨hb10, v10, own10, rfl⟩; have HR10 := yq (HRR.o.up hb10); have HB10 := yq (Below.tr HBE.o hb10); have HO10 := yq own10; obtain ⟨A10, k10, rfl, _⟩ := zae own10; have b0 := HR10.o.cell (i := 0) (v := .slice none 0 0) rfl; have b1 := HR10.o.frozen 0; have b2 := HR10.o.lt; have hzz := HBE.o.size; clear hb10 own10 a1 a2 rl rf rc; go_wp2_with fail
         refine bodyPost_ret (v := .tuple #[.agg #[.slice A10 (zaQ o).length k10], .int .i64 0]) (by simp [results, Tryz.results23, go_sem, b0]) rfl ⟨HB10.o.setCell (by show w.heap.size <= w.heap.size; omega) _, .slice A10 (zaQ o).length k10, ?_, by rw [HX.o.2]⟩
         rw [HX.o.1]; exact zad (ownsRow_setCell_below HO10.o (a := ⟨w.heap.size, 0, none⟩) (by show w.heap.size < _; omega) _) yO
end Go.Proofs.YtejgbfgocaggfaaGreatDoor
