import Derived.Test.YtoemoifeiigkoaaPart4
import Derived.Test.YtoemoifeiigkoaaSizes
namespace Go.Proofs.Ytoemoifeiigkoaa
open Go.RowKit

/-- The rules up to a piece appended to new ones, in a region that draws. -/
theorem lens_fit {xs : List GRule} {ls : List Int} (h : lens xs = some ls) {i j : Int} (hi : 0 ≤ i) (hij : i < j) (hj : j ≤ lastI ls) : 0 < xs.length := by
  refine Nat.pos_of_ne_zero fun e => ?_
  have := lens_length h
  rw [e] at this
  have hls : ls = [] := List.eq_nil_of_length_eq_zero this
  subst hls
  simp [lastI] at hj; omega

set_option maxRecDepth 100000 in
set_option maxHeartbeats 4000000 in
theorem l02Cut_any (b o : Nat) (v : Value) (xs : List GRule) (ls : List Int) (i j : Int) (w : World) (hp : w.cell? ⟨b, o, none⟩ = some v) (hbl : b < w.heap.size) (h : Sl RuleE w w.heap.size v xs) (hsm : SmallL xs) (hl : lens xs = some ls)
    (hn : xs.length ≤ 400) (hi : 0 ≤ i) (hij : i ≤ j) (hj : j ≤ lastI ls) :
    Calls Try.prog 73 #[.pointer (some ⟨b, o, none⟩), .int .i64 i, .int .i64 j] w (GOwn (cutG xs (piecesL xs ls i j)) w) := by
  have HR := Lib.hid h
  obtain ⟨AR, cR, rfl, _, hmR, _⟩ := h
  unfold maxLen at hmR
  have Hl := Lib.hid hl
  clear hl
  by_cases c1 : i = j
  · subst c1
    have e : piecesL xs ls i i = [] := by rw [piecesL, if_neg (by omega)]
    rw [e]
    clear e
    go_enter Try.func73, Try.ntmps73
    go_wp2_with fail
    refine bodyPost_ret (v := .agg #[.slice none 0 0]) (by simp [results, Try.results73, go_sem]) rfl ⟨(by repeat (first | exact Below.refl _ _ | (refine Below.alloc ?_ (by first | omega | (simp; done) | (simp; omega)) _) | refine below_drewN ?_ _ | refine Below.drew ?_)), _, by exact World.ownsRow_nil _ _ _ _, rfl⟩
  · have g1 : (i == j) = false := by simpa using c1
    have hij' : i < j := by omega
    have h0 := lens_fit Hl.out hi hij' hj
    have hpc := pieces_cover Hl.out hi hij' hj h0
    have hpl := pieces_len Hl.out i j
    have hpm := pieces_mem Hl.out i j
    have hpp := pieces_pos Hl.out hi hij' hj h0
    have hll := lens_length Hl.out
    have hj2 : j ≤ ls.getD (xs.length - 1) 0 := by rw [lastI, hll] at hj; exact hj
    have hjm : ls.getD (xs.length - 1) 0 ≤ 1000000000000000 := (lens_pos' Hl.out (r := xs.length - 1) (by omega)).2
    obtain ⟨P, hP⟩ : ∃ P, piecesL xs ls i j = P := ⟨_, rfl⟩
    rw [hP] at hpl hpm hpp hpc
    rw [hP]
    have Hpc := Lib.hid hpc
    have HPM := Lib.hid hpm
    have Hll := Lib.hid hll
    have hm1 : (xs.length : Int) - 1 = ((xs.length - 1 : Nat) : Int) := by omega
    obtain ⟨m, hm⟩ : ∃ m, xs.length - 1 = m := ⟨_, rfl⟩
    rw [hm] at hm1 hj2 hjm Hpc
    have hmx : m < xs.length := by omega
    have hzb : b < (w.alloc (Obj.cells #[Value.slice none 0 0] 28)).heap.size := by simp; omega
    have hp1 : (w.alloc (Obj.cells #[Value.slice none 0 0] 28)).cell? ⟨b, o, none⟩ = some (.slice AR xs.length cR) := (((Below.refl w.heap.size w).alloc (Nat.le_refl _) _).cell (p := ⟨b, o, none⟩) hbl).trans hp
    have hB1 : Below w.heap.size w (w.alloc (Obj.cells #[Value.slice none 0 0] 28)) := (Below.refl w.heap.size w).alloc (Nat.le_refl _) _
    have HB1 := Lib.hid hB1
    have bxR : Boxed (w.alloc (Obj.cells #[Value.slice none 0 0] 28)) w.heap.size 28 (.slice none 0 0) := Boxed.new _ _ _
    have BXR := Lib.hid bxR
    have hd4 : decide (xs.length ≤ 400) = true := by simp [hn]
    clear hij c1 hj hpc hpm hll hP hm hB1 bxR h0
    go_enter Try.func73, Try.ntmps73
    go_wp2_with fail
    refine (l02Lengths_any _ _ _ xs _ hp1 hzb ((HR.out.below HB1.out).le (by simp)) hsm).mono ?_
    rintro e w2 ⟨hb2, v2, ls', rfl, own2, hls⟩
    have e4 : ls' = ls := hls hn ls Hl.out
    subst e4
    obtain ⟨A2, c2, rfl, _⟩ := own_nil own2
    have p2 := (hb2.cell (p := ⟨b, o, none⟩) hzb).trans hp1
    have z2 : b < w2.heap.size := Nat.lt_of_lt_of_le hzb hb2.size
    have hz12 : w.heap.size + 1 ≤ w2.heap.size := by have := hb2.size; simpa using this
    have BX2 := Lib.hid (Boxed.up BXR.out hb2 (by simp))
    have HB2 := Lib.hid (HB1.out.trans (hb2.mono (by simp)))
    have HL2 := Lib.hid own2.sl
    have HRm : Hid (Sl RuleE w2 w2.heap.size (.slice AR xs.length cR) xs) := (HR.out.below HB2.out).le (by omega)
    clear hb2 own2 hls hp hp1 hzb hbl
    go_wp2_with fail
    have B3 : Below w2.heap.size w2 (w2.alloc (.cells #[] 2)) := (Below.refl _ _).alloc (Nat.le_refl _) _
    refine (l02Cover_any w2.heap.size b o (.slice A2 ls'.length c2) (.slice AR xs.length cR) xs ls' Hl.out (by omega) z2 (m + 1) m i j (.slice (some ⟨w2.heap.size, 0, none⟩) 0 0) [] (w2.alloc (.cells #[] 2)) (by omega) hmx ⟨hi, by omega⟩ ⟨by omega, hj2⟩
      ((B3.cell (p := ⟨b, o, none⟩) z2).trans p2) (HL2.out.below B3) (HRm.out.below B3) (by simp) (OwnInts.empty rfl (Nat.le_refl _)) ?_).mono ?_
    · have := Hpc.out
      rw [show m + 1 = xs.length by omega, ← this]
      simp; omega
    rintro e w3 ⟨v3, rfl, own3, hb3⟩
    have hPe : coverS xs ls' (m + 1) m i j = P := by rw [show m + 1 = xs.length by omega]; exact Hpc.out.symm
    rw [hPe, List.nil_append] at own3
    have hb3' := B3.trans hb3
    have hz23 : w2.heap.size + 1 ≤ w3.heap.size := by have := hb3.size; simpa using this
    have p3 := (hb3'.cell (p := ⟨b, o, none⟩) z2).trans p2
    have z3 : b < w3.heap.size := by omega
    have BX3 := Lib.hid (Boxed.up BX2.out hb3' (by omega))
    have HB3 := Lib.hid (HB2.out.trans (hb3'.mono (by omega)))
    have HR3 : Hid (Sl RuleE w3 w3.heap.size (.slice AR xs.length cR) xs) := (HR.out.below HB3.out).le (by omega)
    have HOC := Lib.hid own3
    obtain ⟨A3, cc, rfl, _⟩ := own_nil own3
    have fR := BX3.out.frozen
    have cR1 := BX3.out.cell
    clear own3 hb3 hb3' hPe p2 B3 HL2 HRm Hpc hj2 hjm hij'
    rcases P with _ | ⟨c, _ | ⟨d, cs⟩⟩
    · simp at hpp
    · have e1 : (nI [c]).length = 1 := rfl
      rw [e1] at HOC
      obtain ⟨g, cap, e1, hg1, hg2, hg3, hgc⟩ := OwnInts.at_ HOC.out (j := 0) (by simp [nI])
      injection e1 with e11 e12 e13
      subst e11
      have cc0 : w3.cell? ⟨g, 0, none⟩ = some (.int .i64 (c : Int)) := hgc 0 (by simp [nI])
      have hcx : c < xs.length := HPM.out c (by simp)
      have hcR : (c : Int) + 1 ≤ (cR : Int) := by omega
      have htn : ((c : Int) + 1).toNat = c + 1 := by omega
      have hwc : IntKind.i64.wrap ((c : Int) + 1) = (c : Int) + 1 := IntWalk.i64_in _ (by omega)
      have hc0 : (0 : Int) ≤ (c : Int) + 1 := by omega
      have e1' : (nI [c]).length = 1 := rfl
      rw [e1']
      have l0 : w.heap.size < w3.heap.size := by omega
      have E0 : Hid (OwnRules (w3.alloc (Obj.cells #[] 171)).drew w3.heap.size (.slice (some ⟨w3.heap.size, 0, none⟩) 0 0) []) := OwnRules.empty rfl (Nat.le_refl _)
      have S0 : Hid (Sl RuleE (w3.alloc (Obj.cells #[] 171)).drew w3.heap.size (.slice AR (c + 1) cR) (xs.take (c + 1))) := (SlS.below (sl_take HR3.out (by omega)) ((Below.refl w3.heap.size w3).alloc (Nat.le_refl _) _)).keep fun _ _ => rfl
      have hlt' : (xs.take (c + 1)).length = c + 1 := by rw [List.length_take]; omega
      have Hlt' := Lib.hid hlt'
      clear hgc e12 hg3 e1' hlt'
      go_wp2_with fail
      go_region_law (refine step_append_rules (base := w3.heap.size) (v := .slice (some ⟨w3.heap.size, 0, none⟩) 0 0) (sv := .slice AR (c + 1) cR) (by rfl) _ _ (by rfl) (by rfl) (by rfl) E0.out S0.out (by rw [Hlt'.out]; simp; omega) (by show w3.heap.size ≤ (w3.alloc _).heap.size; simp) ?_; intro v5 w5 own5 hg5 hb5; obtain ⟨A5, c5, rfl, _⟩ := own_nil own5; have hbR5 : Boxed w5 w.heap.size 28 (.slice none 0 0) := (hb5.block w.heap.size l0).trans (BX3.out.alloc _); have fR5 := hbR5.frozen; have cR5 := hbR5.cell)
      all_goals
        go_wp2_with fail
        have e5 : ([] ++ xs.take (c + 1)).length = min (c + 1) xs.length := by simp
        have own9 : OwnRules w5 w3.heap.size (.slice A5 (min (c + 1) xs.length) c5) (xs.take (c + 1)) := by rw [← e5]; exact own5
        refine bodyPost_ret (v := .agg #[.slice A5 (min (c + 1) xs.length) c5]) (by simp [results, Try.results73, go_sem, (Boxed.set (Value.slice A5 (min (c + 1) xs.length) c5) hbR5).cell]) rfl ⟨(HB3.out.trans (((Below.refl w3.heap.size w3).alloc (Nat.le_refl _) _).trans ((Below.drew (Below.refl _ _)).trans hb5) |>.mono (by omega))).setCell (Nat.le_refl _) _, _, ?_, rfl⟩
        exact ownsRow_more (ownsRow_setCell_other (a := ⟨w.heap.size, 0, none⟩) own9 (hbR5.not_row (by decide) own9).symm _) (by omega)
    · have hln : (nI (c :: d :: cs)).length = cs.length + 2 := by simp [nI]
      rw [hln]
      obtain ⟨g, cap, e1, hg1, hg2, hg3, hgc⟩ := OwnInts.at_ HOC.out (j := 0) (by simp [nI])
      injection e1 with e11 e12 e13
      subst e11; subst e13
      rw [hln] at hg3
      have cc0 : w3.cell? ⟨g, 0, none⟩ = some (.int .i64 (c : Int)) := hgc 0 (by simp [nI])
      have Hgc := Lib.hid hgc
      have h02 : (0 : Int) < (cs.length : Int) + 2 := by omega
      have hne1 : ((cs.length : Int) + 2 == 1) = false := by rw [beq_eq_false_iff_ne]; omega
      clear hgc hln e12
      go_wp2_with fail
      refine (l02Own_any b o _ xs w3 p3 z3 HR3.out (by omega)).mono ?_
      rintro e w4 ⟨v4, rfl, own4, hb4⟩
      obtain ⟨A4, c4, rfl, _⟩ := own_nil own4
      have cc4 := (hb4.cell (p := ⟨g, 0, none⟩) hg2).trans cc0
      have hg4 : g < w4.heap.size := Nat.lt_of_lt_of_le hg2 hb4.size
      have Own4 := Lib.hid own4
      have Hb4 := Lib.hid hb4
      clear own4 hb4
      have bx4 : Boxed (w4.alloc (Obj.cells #[Value.slice A4 xs.length c4] 28)) w4.heap.size 28 (.slice A4 xs.length c4) := Boxed.new _ _ _
      have hb5 : Below w3.heap.size w3 (w4.alloc (Obj.cells #[Value.slice A4 xs.length c4] 28)) := Hb4.out.alloc Hb4.out.size _
      have own5 : OwnRules (w4.alloc (Obj.cells #[Value.slice A4 xs.length c4] 28)) w3.heap.size (.slice A4 xs.length c4) xs := Own4.out.alloc _
      have HB5 := Lib.hid hb5
      have Bx5 := Lib.hid bx4
      have Ow5 := Lib.hid own5
      have hK : w3.heap.size ≤ w4.heap.size := Hb4.out.size
      have hcl : cs.length ≤ 800 := by simp at hpl; omega
      clear hb5 bx4 own5
      go_wp2_with fail
      generalize w4.alloc (Obj.cells #[Value.slice A4 xs.length c4] 28) = w5 at *
      obtain ⟨K, hKe⟩ : ∃ K, w4.heap.size = K := ⟨_, rfl⟩
      rw [hKe] at Bx5 hK
      simp only [hKe]
      clear hKe
      go_loopw [11, 12] (fun q i wx => ∃ (k : Nat) (z y : Int) (vo : Value) (L : List GRule), k ≤ cs.length + 1 ∧ q = .int .i64 z ∧ y = (k : Int) + 1 ∧ i = .int .i64 y ∧ ((d :: cs).take k).foldl joinStep (xs, (c : Int)) = (L, z) ∧ Boxed wx K 28 vo ∧ OwnRules wx w3.heap.size vo L ∧ Below w3.heap.size w5 wx) (fun _ i _ => cs.length + 2 - (intOf i).toNat)
      case atStart => exact ⟨0, (c : Int), 1, _, xs, by omega, rfl, rfl, rfl, rfl, Bx5.out, Ow5.out, Below.refl _ _⟩
      case round =>
        obtain ⟨k, z, y, vk, L, hk, rfl, hy, rfl, hLb, hbk, hok, hb6⟩ := hrel
        obtain ⟨Ak, ck, rfl, _⟩ := own_nil hok
        have hLn : L.length ≤ 10000 := by
          have := joinFold_len ((d :: cs).take k) (xs, (c : Int))
          rw [hLb] at this
          simp at this; omega
        have hy2 : y = ((k + 1 : Nat) : Int) := by omega
        subst hy2
        obtain ⟨q, hq⟩ : ∃ q, k + 1 = q := ⟨_, rfl⟩
        rw [hq]
        rw [hq] at hy
        have Hb6 := Lib.hid hb6
        have Hbk := Lib.hid hbk
        have Hok := Lib.hid hok
        have HLb := Lib.hid hLb
        have bxk := hbk.cell
        have fxk := hbk.frozen
        have hw56 := hb6.size
        clear hb6 hbk hok hLb hy
        by_cases hlt : k < cs.length + 1
        · have cg : wr.cell? ⟨g, q, none⟩ = some (.int .i64 (((d :: cs).getD k 0 : Nat) : Int)) := by
            rw [(HB5.out.trans Hb6.out).cell (p := ⟨g, q, none⟩) hg2, Hgc.out q (by simp [nI]; omega)]
            have e : (nI (c :: d :: cs)).getD q 0 = (((d :: cs).getD k 0 : Nat) : Int) := by
              rw [← hq, nI, List.getD_eq_getElem?_getD, List.map_cons, List.getElem?_cons_succ, List.getElem?_map, List.getD_eq_getElem?_getD, List.getElem?_eq_getElem (by simp; omega)]; rfl
            rw [e]
          have hqi : (q : Int) < (cs.length : Int) + 2 := by omega
          obtain ⟨x, hx⟩ : ∃ x, (d :: cs).getD k 0 = x := ⟨_, rfl⟩
          rw [hx] at cg
          have Hx := Lib.hid hx
          have HLn := Lib.hid hLn
          have HW := Lib.hid (show w3.heap.size ≤ wr.heap.size from Nat.le_trans HB5.out.size hw56)
          have hrl := Hbk.out.lt
          have hgr : g < wr.heap.size := by have := HW.out; omega
          clear hx hLn
          go_upto_region 12 with fail
          go_cut [] from 54 to 70 (fun wx => ∃ vo : Value, Boxed wx K 28 vo ∧ OwnRules wx w3.heap.size vo (L ++ [pairR z x]) ∧ Below w3.heap.size w5 wx)
          case first =>
            go_region_law (refine step_push_rule (base := w3.heap.size) (v := .slice Ak L.length ck) (by rfl) _ _ (by rfl) (by rfl) (by first | rfl | simp) rfl Hok.out.drew (Nat.le_trans HLn.out (by omega)) HW.out ?_; intro v7 w7 own7 hg7 hb7; have bx7 : Boxed w7 K 28 _ := Boxed.grown (Boxed.mk' Hbk.out) (by decide) Hok.out.drew hg7; obtain ⟨A7, c7, rfl, _⟩ := own_nil own7; have hcb7 := bx7.cell; have hfb7 := bx7.frozen)
            all_goals
              go_wp2_with fail
              go_meet
              have e9 : (L ++ [pairR z x]).length = L.length + 1 := by simp
              have own9 : OwnRules w7 w3.heap.size (.slice A7 (L.length + 1) c7) (L ++ [pairR z x]) := by rw [← e9]; exact own7
              exact ⟨_, Boxed.set _ bx7, ownsRow_setCell_other (a := ⟨K, 0, none⟩) own9 (bx7.not_row (by decide) own9).symm _, ((((Below.drew Hb6.out)).alloc HW.out _).trans hb7).setCell hK _⟩
          case rest =>
            revert hcut
            generalize wc = w7
            intro hcut
            obtain ⟨v7, bx7, own7, hb7⟩ := hcut
            have hM : (L ++ [pairR z x]).length = L.length + 1 := by simp
            obtain ⟨M, hMe⟩ : ∃ M, L ++ [pairR z x] = M := ⟨_, rfl⟩
            rw [hMe] at own7 hM
            obtain ⟨A7, c7, rfl, _⟩ := own_nil own7
            rw [hM] at own7 bx7
            have bxc7 := bx7.cell
            have Bx7 := Lib.hid bx7
            have Ow7 := Lib.hid own7
            have Hb7 := Lib.hid hb7
            have HMe := Lib.hid hMe
            have hLn := HLn.out
            clear bx7 own7 hb7 hM hMe
            go_wp2_with fail
            refine ⟨⟨k + 1, (L.length : Int), _, _, M, by omega, rfl, ?_, rfl, ?_, Bx7.out, Ow7.out, Hb7.out⟩, by simp [intOf]; omega⟩
            · omega
            rw [List.take_add_one, List.getElem?_eq_getElem (show k < (d :: cs).length by simpa using hlt), List.foldl_append, HLb.out]
            have hxe : (d :: cs)[k]'(by simpa using hlt) = x := by rw [← Hx.out, List.getD_eq_getElem?_getD, List.getElem?_eq_getElem (show k < (d :: cs).length by simpa using hlt)]; rfl
            rw [hxe]
            show (L ++ [pairR z x], (L.length : Int)) = _
            rw [HMe.out]
        · have hkn : k = cs.length + 1 := by omega
          subst hkn
          have hki : ¬ ((q : Int) < (cs.length : Int) + 2) := by omega
          have hL : L = cutG xs (c :: d :: cs) := by
            have := HLb.out
            rw [List.take_of_length_le (by simp)] at this
            rw [cutG, this]
          have hb9 : Boxed wr w.heap.size 28 (.slice none 0 0) := Boxed.up BX3.out (HB5.out.trans Hb6.out) (by omega)
          have c9 := hb9.cell
          have f9 := hb9.frozen
          have HL' := Lib.hid hL
          have Hb9 := Lib.hid hb9
          clear hL hb9
          go_wp2_with fail
          refine bodyPost_ret (v := .agg #[.slice Ak L.length ck]) (by simp [results, Try.results73, go_sem, (Boxed.set (Value.slice Ak L.length ck) Hb9.out).cell]) rfl ⟨(HB3.out.trans ((HB5.out.trans Hb6.out).mono (by omega))).setCell (Nat.le_refl _) _, _, ?_, rfl⟩
          rw [← HL'.out]
          exact ownsRow_more (ownsRow_setCell_other (a := ⟨w.heap.size, 0, none⟩) Hok.out (Hb9.out.not_row (by decide) Hok.out).symm _) (by omega)
end Go.Proofs.Ytoemoifeiigkoaa
