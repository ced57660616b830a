import Derived.Test.YtejgbfgocaggfaaGreatDoorM15
import Derived.Laws.Bits64b
set_option maxRecDepth 100000
set_option maxHeartbeats 8000000
namespace Go.Proofs.YtejgbfgocaggfaaGreatDoor
open Go.RowKit
def pcs (t : ByteArray) : List ByteArray := zcl 32 t ++ [⟨#[]⟩, ⟨#[]⟩, ⟨#[]⟩, ⟨#[]⟩]
theorem zpb (t : ByteArray) (i : Nat) (h : i < 4) : (pcs t)[i]? = some ((zcl 32 t).getD i eB) := by
 unfold pcs; rcases Nat.lt_or_ge i (zcl 32 t).length with hl | hl
 · rw [List.getElem?_append_left hl, yg, ye hl]; rfl
 · rw [List.getElem?_append_right hl, yg, List.getElem?_eq_none hl]
   have : i - (zcl 32 t).length < 4 := by omega
   generalize i - (zcl 32 t).length = j at this; have : j = 0 \/ j = 1 \/ j = 2 \/ j = 3 := by omega
   rcases this with rfl | rfl | rfl | rfl <;> rfl
theorem ziL (t : ByteArray) (i : Nat) : ((zcl 32 t).getD i eB).size <= t.size := by
 rw [yg]; cases h : (zcl 32 t)[i]? with
 | none => exact Nat.zero_le _
 | some x => exact zmT (List.mem_of_getElem? h)
structure RdF (wP w4 w6 wx : World) (X : ByteArray) (bJ bK b1 b7 : Bool) (e : zam) (v : Value) : Prop where
 bel : Below wP.heap.size wP wx
 frm : Blk wx w4.heap.size #[.string X, .bool bJ, .bool bK, .bool b1, .bool b7] 75
 st : zju w6 wx e v
theorem RdF.up {wP w4 w6 wx w' : World} {X : ByteArray} {bJ bK b1 b7 : Bool} {e : zam} {v : Value} (h : RdF wP w4 w6 wx X bJ bK b1 b7 e v) (hb : Below wx.heap.size wx w') : RdF wP w4 w6 w' X bJ bK b1 b7 e v :=
 ⟨Below.tr h.bel hb, h.frm.up hb, h.st.up hb⟩
theorem RdF.put {wP w4 w6 wx : World} {X : ByteArray} {bJ bK b1 b7 : Bool} {e e' : zam} {v v' u : Value} {o : Nat} (h : RdF wP w4 w6 wx X bJ bK b1 b7 e v) (hs : zju w6 (wx.setCell ⟨w6.heap.size, o, none⟩ u) e' v') (h1 : wP.heap.size <= w6.heap.size) (h2 : w4.heap.size < w6.heap.size) : RdF wP w4 w6 (wx.setCell ⟨w6.heap.size, o, none⟩ u) X bJ bK b1 b7 e' v' :=
 ⟨Below.setCell h.bel h1 _, Blk.other h.frm (p := ⟨w6.heap.size, o, none⟩) (Nat.ne_of_lt h2) _, hs⟩
theorem zjC (t : ByteArray) (w : World) (hs : t.size <= 1048576) (hv : zfG w) :
  Calls Tryz.prog 12 #[.string t] w (zp4 (zmS t) (zjt t) w) := by
 have HV := yq hv; clear hv; have HV1 := yq (fun o => HV.o.up ((Below.refl w.heap.size w).alloc yL o)); go_enter Tryz.func12, Tryz.ntmps12
 go_wp2_with fail
 refine (zmU t _ hs (HV1.o _)).mono ?_
 rintro e w1 ⟨hb1, v, own, rfl⟩; have KR1 : Blk w1 w.heap.size #[.int .i64 0, .int .i64 0, .int .i64 0, .int .i64 0, .slice none 0 0, .string ⟨#[]⟩] 37 := by have := (Below.unalloc hb1).2; simpa [Blk] using this
 replace hb1 := (Below.unalloc hb1).1
 have hll : (zcl 32 t).length <= 1099511627776 := by
  have : (zcl 32 t).length <= 1048577 := by
   rw [<- zg7, Lib.splitB_all ⟨#[32]⟩ (by decide) 0 _ t rfl]; have := Lib.countB_le ⟨#[32]⟩ (by decide) t.size t yL; omega
  omega
 have HLL := yq hll; have HO1 := yq own; have HB1 := yq hb1; have HK1 := yq KR1; have hz1 : (w.alloc (.cells #[.int .i64 0, .int .i64 0, .int .i64 0, .int .i64 0, .slice none 0 0, .string ⟨#[]⟩] 37)).heap.size <= w1.heap.size := by simp; exact KR1.lt
 have HZ1 := yq hz1; clear hll own hb1 KR1 hz1
 go_wp2_with (first
  | (at_builtin; refine zlE rfl _ _ rfl yR yR rfl HO1.o HLL.o HZ1.o ?_; intro v3 w3 own3 hb3; obtain ⟨g, cL, rfl, _, hgl, _⟩ := zbI own3 yS))
 have KR3 : Blk w3 w.heap.size #[.int .i64 0, .int .i64 0, .int .i64 0, .int .i64 0, .slice none 0 0, .string ⟨#[]⟩] 37 := (hb3.block _ yS).trans HK1.o; have HB3 : Below w.heap.size w w3 := Below.trans HB1.o (Below.mono hb3 yS); obtain ⟨L, hL⟩ : ∃ L, zcl 32 t ++ [⟨#[]⟩, ⟨#[]⟩, ⟨#[]⟩, ⟨#[]⟩] = L := ⟨_, rfl⟩
 rw [hL] at own3; have eL : (zcl 32 t).length + 4 = L.length := by rw [<- hL]; simp
 rw [eL]; have ba := (Below.refl w3.heap.size w3).alloc yL (.cells #[.slice (some ⟨g, 0, none⟩) L.length cL] 62); have HPP := yq (Blk.new w3 #[.slice (some ⟨g, 0, none⟩) L.length cL] 62); have HLP := yq (show zg0 _ _ _ L from zaI own3 ba); have HRP := yq (KR3.up ba); have HBP := yq (Below.tr HB3 ba); have HVP := yq (HV.o.up HBP.o); have hzP : w3.heap.size < (w3.alloc (.cells #[.slice (some ⟨g, 0, none⟩) L.length cL] 62)).heap.size := by simp
 have HL := yq hL; clear own3 hb3 KR3 HB3 ba HV HV1 HO1 HB1 HK1 HZ1 HLL eL hL; revert HPP HLP HRP HBP HVP hzP; generalize (w3.alloc (.cells #[.slice (some ⟨g, 0, none⟩) L.length cL] 62)) = wP; intro HPP HLP HRP HBP HVP hzP; have hgP : g < wP.heap.size := Nat.lt_trans hgl hzP; obtain ⟨X, hX⟩ : ∃ X, (zcl 32 t).getD 0 eB = X := ⟨_, rfl⟩
 have HX := yq hX; have hL4 : 4 <= L.length := by rw [<- HL.o]; simp
 have hget : ∀ i, i < 4 -> L[i]? = some ((zcl 32 t).getD i eB) := fun i hi => by rw [<- HL.o]; exact zpb t i hi
 have HG := yq hget; have hXh : (zcl 32 t).headD eB = X := by rw [<- hX]; cases zcl 32 t <;> rfl
 have HXH := yq hXh; clear hX hget hXh; go_loopw [6] (fun k wx => ∃ m : Nat, 1 <= m /\ m <= 8 /\ k = .int .i64 m /\ yh (Below wP.heap.size wP wx) /\ yh (∀ j : Nat, 1 <= j -> j < m -> (⟨(zcO (j : Int)).toArray⟩ : ByteArray) = X -> zfH (j : Int) (zcl 32 t) t = none)) (fun k _ => 8 - (intOf k).toNat)
 case atStart => exact ⟨1, Nat.le_refl _, by omega, rfl, yq (Below.refl _ _), yq (fun j h1 h2 => by omega)⟩
 case round =>
  obtain ⟨m, hm1, hm8, rfl, HB, HN⟩ := hrel; by_cases hlt : m < 8
  · have hm7 : (m : Int) <= 7 := by omega
    have hk7 : inR (m : Int) 1 7 = true := by simp [inR]; omega
    go_wp2_with fail
    refine (zg5 (m : Int) _ hk7).mono ?_
    rintro e w4 ⟨rfl, hb4⟩; obtain ⟨bJ, hbJ⟩ : ∃ b, zbq (m : Int) = b := ⟨_, rfl⟩
    obtain ⟨bK, hbK⟩ : ∃ b, zbu (m : Int) = b := ⟨_, rfl⟩
    obtain ⟨b1, hb1⟩ : ∃ b, ((m : Int) == 1) = b := ⟨_, rfl⟩
    obtain ⟨b7, hb7⟩ : ∃ b, ((m : Int) == 7) = b := ⟨_, rfl⟩
    rw [hbJ, hbK, hb1, hb7]; have HFJ := yq hbJ; have HFK := yq hbK; have HF1 := yq hb1; have HF7 := yq hb7; clear hbJ hbK hb1 hb7; have HB4 := yq (Below.tr HB.o hb4); have cP := Blk.cell (i := 0) (v := .slice (some ⟨g, 0, none⟩) L.length cL) (HPP.o.up HB4.o) rfl; have lP := Blk.lt (HPP.o.up HB4.o); have cX := (HB4.o.cell (p := ⟨g, 0, none⟩) hgP).trans (zg0.at HLP.o (k := 0) (x := X) (by rw [HG.o 0 yO, HX.o])); have hgw : g < w4.heap.size := Nat.lt_of_lt_of_le hgP HB4.o.size; clear hb4; cases hq : (zcO (m : Int) == X.toList) with
    | false =>
      have HN2 : yh (∀ j : Nat, 1 <= j -> j < m + 1 -> (⟨(zcO (j : Int)).toArray⟩ : ByteArray) = X -> zfH (j : Int) (zcl 32 t) t = none) := by
       intro j h1 h2 h3; rcases Nat.lt_or_ge j m with h | h
       · exact HN.o j h1 h h3
       · have : j = m := by omega
         subst this; rw [(weq _ _).2 h3] at hq; cases hq
      go_wp2_with fail
      go_quiet (fail)
      go_wp2_with fail
      exact ⟨⟨m + 1, by omega, by omega, by go_num, yq (zal (Below.alloc HB4.o (Below.size HB4.o) _) nq), HN2⟩, by simp [intOf]; omega⟩
    | true =>
      have hqX := (weq _ _).1 hq; have HQX := yq hqX; obtain ⟨x1, hx1⟩ : ∃ x, (zcl 32 t).getD 1 eB = x := ⟨_, rfl⟩
      obtain ⟨x2, hx2⟩ : ∃ x, (zcl 32 t).getD 2 eB = x := ⟨_, rfl⟩
      obtain ⟨x3, hx3⟩ : ∃ x, (zcl 32 t).getD 3 eB = x := ⟨_, rfl⟩
      have HS1 := yq (show x1.size <= 1048576 by rw [<- hx1]; exact Nat.le_trans (ziL t 1) hs); have HS2 := yq (show x2.size <= 1048576 by rw [<- hx2]; exact Nat.le_trans (ziL t 2) hs); have HS3 := yq (show x3.size <= 1048576 by rw [<- hx3]; exact Nat.le_trans (ziL t 3) hs); have HC1 := yq (zg0.at HLP.o (k := 1) (x := x1) (by rw [HG.o 1 yO, hx1])); have HC2 := yq (zg0.at HLP.o (k := 2) (x := x2) (by rw [HG.o 2 yO, hx2])); have HC3 := yq (zg0.at HLP.o (k := 3) (x := x3) (by rw [HG.o 3 yO, hx3])); have HMK := yq (show zgi (m : Int) (zcl 32 t) = ⟨(m : Int), pI x1.data.toList, if zbq (m : Int) then pI x2.data.toList else 0, if zbu (m : Int) then pI x3.data.toList else 0, if (m : Int) == 1 then zaM x2 else [], if (m : Int) == 7 then x3 else eB⟩ by unfold zgi; rw [hx1, hx2, hx3]); have HX2 := yq hx2; have h1L : (1 : Nat) < L.length := by omega
      have h2L : (2 : Nat) < L.length := by omega
      have h3L : (3 : Nat) < L.length := by omega
      clear hx1 hx2 hx3; go_wp2_with fail
      go_quiet (fail)
      go_wp2_with fail
      have HB5 := yq (zal (Below.alloc HB4.o (Below.size HB4.o) (.cells #[.string X, .bool bJ, .bool bK, .bool b1, .bool b7] 75)) nq); have KF5 := yq (show Blk ((w4.alloc (.cells #[.string X, .bool bJ, .bool bK, .bool b1, .bool b7] 75)).drewN nq) w4.heap.size _ _ from Blk.new w4 #[.string X, .bool bJ, .bool bK, .bool b1, .bool b7] 75); clear cP lP cX; revert HB5 KF5; generalize ((w4.alloc (.cells #[.string X, .bool bJ, .bool bK, .bool b1, .bool b7] 75)).drewN nq) = w5; intro HB5 KF5; refine (zf0 w3.heap.size g cL 1 L x1 _ (HPP.o.up HB5.o) ((HB5.o.cell (p := ⟨g, 1, none⟩) hgP).trans HC1.o) h1L HS1.o (HVP.o.up HB5.o)).mono ?_
      rintro r w6 ⟨hb6, rfl⟩; have HB6 := yq (Below.tr HB5.o hb6); have KF6 := yq (KF5.o.up hb6); have h46 : w4.heap.size < w6.heap.size := Blk.lt KF6.o; have hP6 : wP.heap.size <= w6.heap.size := HB6.o.size; obtain ⟨i1, hi1⟩ : ∃ i, pI x1.data.toList = i := ⟨_, rfl⟩
      rw [hi1] at HMK; rw [hi1]; obtain ⟨jj, hjj⟩ : ∃ j, (if zbq (m : Int) then pI x2.data.toList else 0) = j := ⟨_, rfl⟩
      obtain ⟨kk, hkk⟩ : ∃ j, (if zbu (m : Int) then pI x3.data.toList else 0) = j := ⟨_, rfl⟩
      obtain ⟨pp, hpp⟩ : ∃ j, (if (m : Int) == 1 then zaM x2 else []) = j := ⟨_, rfl⟩
      obtain ⟨mm, hmm⟩ : ∃ j, (if (m : Int) == 7 then x3 else eB) = j := ⟨_, rfl⟩
      rw [hjj, hkk, hpp, hmm] at HMK; have HJJ := yq hjj; have HKK := yq hkk; have HPQ := yq hpp; have HMM := yq hmm; clear hi1 hjj hkk hpp hmm hb6; have ba := (Below.refl w6.heap.size w6).alloc yL (.cells #[.int .i64 m, .int .i64 i1, .int .i64 0, .int .i64 0, .slice none 0 0, .string ⟨#[]⟩] 37); have F7 := yq (show RdF wP w4 w6 (w6.alloc (.cells #[.int .i64 m, .int .i64 i1, .int .i64 0, .int .i64 0, .slice none 0 0, .string ⟨#[]⟩] 37)) X bJ bK b1 b7 ⟨(m : Int), i1, 0, 0, [], ⟨#[]⟩⟩ (.slice none 0 0) from ⟨Below.tr HB6.o ba, KF6.o.up ba, ⟨ba, Blk.new _ _ _, World.ownsRow_nil _ _ _ _⟩⟩); clear ba; go_upto_region 9 with fail
      revert F7; generalize (w6.alloc (.cells #[.int .i64 m, .int .i64 i1, .int .i64 0, .int .i64 0, .slice none 0 0, .string ⟨#[]⟩] 37)) = w7; intro F7; have f1 := Blk.cell (i := 1) (v := .bool bJ) F7.o.frm rfl; have lf := Blk.lt F7.o.frm; go_upto_if 37 with fail
      clear f1 lf; go_cut [] from 38 to 40 (fun wx => RdF wP w4 w6 wx X bJ bK b1 b7 ⟨(m : Int), i1, jj, 0, [], ⟨#[]⟩⟩ (.slice none 0 0))
      case first =>
       cases bJ with
       | false =>
         have : jj = 0 := by rw [<- HJJ.o, HFJ.o]; rfl
         subst this; go_wp2
         go_meet
         exact F7.o
       | true =>
         have : pI x2.data.toList = jj := by rw [<- HJJ.o, HFJ.o]; rfl
         go_wp2_with fail
         refine (zf0 w3.heap.size g cL 2 L x2 _ (HPP.o.up F7.o.bel) ((F7.o.bel.cell (p := ⟨g, 2, none⟩) hgP).trans HC2.o) h2L HS2.o (HVP.o.up F7.o.bel)).mono ?_
         rintro r w8 ⟨hb8, rfl⟩; rw [this]; have F8 := yq (F7.o.up hb8); have ce := Blk.cell (i := 2) (v := .int .i64 0) F8.o.st.box rfl; have ze := Blk.frozen F8.o.st.box 2; have le := Blk.lt F8.o.st.box; clear hb8; go_wp2_with fail
         go_meet
         exact F8.o.put (F8.o.st.set2 jj) hP6 h46
      case rest =>
       revert hcut; generalize wc = w9; intro hcut; have F9 := yq hcut; clear hcut F7; have f2 := Blk.cell (i := 2) (v := .bool bK) F9.o.frm rfl; have lf := Blk.lt F9.o.frm; go_upto_if 42 with fail
       clear f2 lf; go_cut [] from 43 to 45 (fun wx => RdF wP w4 w6 wx X bJ bK b1 b7 ⟨(m : Int), i1, jj, kk, [], ⟨#[]⟩⟩ (.slice none 0 0))
       case first =>
        cases bK with
        | false =>
          have : kk = 0 := by rw [<- HKK.o, HFK.o]; rfl
          subst this; go_wp2
          go_meet
          exact F9.o
        | true =>
          have : pI x3.data.toList = kk := by rw [<- HKK.o, HFK.o]; rfl
          go_wp2_with fail
          refine (zf0 w3.heap.size g cL 3 L x3 _ (HPP.o.up F9.o.bel) ((F9.o.bel.cell (p := ⟨g, 3, none⟩) hgP).trans HC3.o) h3L HS3.o (HVP.o.up F9.o.bel)).mono ?_
          rintro r w10 ⟨hb10, rfl⟩; rw [this]; have F10 := yq (F9.o.up hb10); have ce := Blk.cell (i := 3) (v := .int .i64 0) F10.o.st.box rfl; have ze := Blk.frozen F10.o.st.box 3; have le := Blk.lt F10.o.st.box; clear hb10; go_wp2_with fail
          go_meet
          exact F10.o.put (F10.o.st.set3 kk) hP6 h46
       case rest =>
        revert hcut; generalize wc = w11; intro hcut; have F11 := yq hcut; clear hcut F9; have f3 := Blk.cell (i := 3) (v := .bool b1) F11.o.frm rfl; have lf := Blk.lt F11.o.frm; go_upto_if 47 with fail
        clear f3 lf; go_cut [10, 11] from 48 to 59 (fun _ _ wx => ∃ (AP : Option Addr) (cP : Nat), RdF wP w4 w6 wx X bJ bK b1 b7 ⟨(m : Int), i1, jj, kk, pp, ⟨#[]⟩⟩ (.slice AP pp.length cP) /\ (b1 = true -> zlF x2 = true))
        case first =>
         cases b1 with
         | false =>
           have : pp = [] := by rw [<- HPQ.o, HF1.o]; rfl
           subst this; go_wp2
           go_meet
           exact ⟨none, 0, F11.o, fun h => by cases h⟩
         | true =>
           have HPE := yq (show zaM x2 = pp by rw [<- HPQ.o, HF1.o]; rfl); have cP := Blk.cell (i := 0) (v := .slice (some ⟨g, 0, none⟩) L.length cL) (HPP.o.up F11.o.bel) rfl; have lP := Blk.lt (HPP.o.up F11.o.bel); have c2 := (F11.o.bel.cell (p := ⟨g, 2, none⟩) hgP).trans HC2.o; have h2I : (2 : Int) < (L.length : Int) := by omega
           go_wp2_with fail
           refine (zhD x2 _ HS2.o).mono ?_
           rintro r w12 ⟨hb12, v12, own12, rfl⟩; have F12 := yq (F11.o.up hb12); obtain ⟨A12, c12, rfl, _⟩ := zae own12; have HO12 := yq own12; have h612 : w6.heap.size < w11.heap.size := Blk.lt F11.o.st.box; clear own12 hb12 cP lP c2; cases hpg : zlF x2 with
           | false =>
             have HNO := yq (show zcY t = none by rw [<- zpa]; unfold zhE; rw [HXH.o, zo9 hm1 hlt HQX.o, if_neg yO]; unfold zfH; rw [HF1.o]; have := HX2.o; rw [this, hpg]; rfl); have hc := zp6 hpg; obtain ⟨cd, hcd⟩ : ∃ c, zee x2 = c := ⟨_, rfl⟩
             have hc0 : ¬ cd = 0 := by rw [<- hcd]; rcases hc with h | h <;> rw [h] <;> decide
             rw [hcd]; clear hc hcd hpg; have ba := Below.alloc (Below.refl w12.heap.size w12) yL (.cells #[.slice A12 (ziE x2).length c12] 26); have HBA := yq (Below.tr F12.o.bel ba); clear ba; have KR := HRP.o.up HBA.o; have hbW := yq (Below.tr HBP.o HBA.o); have r0 := Blk.cell (i := 0) (v := .int .i64 0) KR rfl; have q0 := Blk.frozen KR 0; have r1 := Blk.cell (i := 1) (v := .int .i64 0) KR rfl; have q1 := Blk.frozen KR 1; have r2 := Blk.cell (i := 2) (v := .int .i64 0) KR rfl; have q2 := Blk.frozen KR 2; have r3 := Blk.cell (i := 3) (v := .int .i64 0) KR rfl; have q3 := Blk.frozen KR 3; have r4 := Blk.cell (i := 4) (v := .slice none 0 0) KR rfl; have q4 := Blk.frozen KR 4; have r5 := Blk.cell (i := 5) (v := .string ⟨#[]⟩) KR rfl; have q5 := Blk.frozen KR 5; have lR := Blk.lt KR; have HKX := yq KR; clear KR; go_wp2_with fail
             obtain ⟨⟨hf, _⟩, x0, x1, x2, x3, x4, x5⟩ := zp5 HKX.o hbW.o (.int .i64 0) (.int .i64 0) (.int .i64 0) (.int .i64 0) (.slice none 0 0) (.string ⟨#[]⟩); exact bodyPost_ret (v := .tuple #[.agg #[.int .i64 0, .int .i64 0, .int .i64 0, .int .i64 0, .slice none 0 0, .string ⟨#[]⟩], .int .i64 5]) (by simp [results, Tryz.results12, go_sem, x0, x1, x2, x3, x4, x5]) rfl ⟨hf, .slice none 0 0, by rw [(zfZ HNO.o).1]; exact World.ownsRow_nil _ _ _ _, by rw [(zfZ HNO.o).1, (zfZ HNO.o).2]; rfl⟩
           | true =>
             have hp := zpI hpg; have HPY := yq hpg; rw [hp.1]; have hpo : ziE x2 = pp := by rw [hp.2, HPE.o]
             rw [hpo] at HO12; rw [hpo]; have ba := Below.alloc (Below.refl w12.heap.size w12) yL (.cells #[.slice A12 pp.length c12] 26); have F13 := yq (F12.o.up ba); have HO13 := yq (zac.below HO12.o ba); have KP13 := yq (Blk.new w12 #[.slice A12 pp.length c12] 26); clear hp hpg hpo ba HO12 F12; go_upto_region 15 with fail
             revert F13 HO13 KP13; generalize (w12.alloc (.cells #[.slice A12 pp.length c12] 26)) = w13; intro F13 HO13 KP13; have cp := Blk.cell (i := 0) (v := .slice A12 pp.length c12) KP13.o rfl; have lp := Blk.lt KP13.o; have ce := Blk.cell (i := 4) (v := .slice none 0 0) F13.o.st.box rfl; have ze := Blk.frozen F13.o.st.box 4; have le := Blk.lt F13.o.st.box; go_wp2_with fail
             go_meet
             exact ⟨A12, c12, F13.o.put (F13.o.st.set4 HO13.o h612) hP6 h46, fun _ => HPY.o⟩
        case rest =>
         revert hcut; generalize wc = w14; intro hcut; obtain ⟨AP, cP, hF, hpg⟩ := hcut; have F14 := yq hF; have HPG := yq hpg; clear hF hpg F11; have f4 := Blk.cell (i := 4) (v := .bool b7) F14.o.frm rfl; have lf := Blk.lt F14.o.frm; go_upto_if 61 with fail
         clear f4 lf; go_cut [] from 62 to 65 (fun wx => RdF wP w4 w6 wx X bJ bK b1 b7 ⟨(m : Int), i1, jj, kk, pp, mm⟩ (.slice AP pp.length cP))
         case first =>
          cases b7 with
          | false =>
            have : mm = ⟨#[]⟩ := by rw [<- HMM.o, HF7.o]; rfl
            subst this; go_wp2
            go_meet
            exact F14.o
          | true =>
            have : x3 = mm := by rw [<- HMM.o, HF7.o]; rfl
            have cPP := Blk.cell (i := 0) (v := .slice (some ⟨g, 0, none⟩) L.length cL) (HPP.o.up F14.o.bel) rfl; have lP := Blk.lt (HPP.o.up F14.o.bel); have c3 := (F14.o.bel.cell (p := ⟨g, 3, none⟩) hgP).trans HC3.o; have h3I : (3 : Int) < (L.length : Int) := by omega
            rw [this] at c3; have ce := Blk.cell (i := 5) (v := .string ⟨#[]⟩) F14.o.st.box rfl; have ze := Blk.frozen F14.o.st.box 5; have le := Blk.lt F14.o.st.box; clear this; go_wp2_with fail
            go_meet
            exact F14.o.put (F14.o.st.set5 mm) hP6 h46
         case rest =>
          revert hcut; generalize wc = w15; intro hcut; have F15 := yq hcut; clear hcut F14
          have hppl : pp.length <= 1048576 := by
           rw [<- HPQ.o]; rw [HF1.o]; cases hb : b1 with
           | false => simp
           | true =>
             have hp := HPG.o hb; simp only [zlF, Bool.and_eq_true] at hp
             have := (zai hp.2).1; simp only [if_true]
             omega
          have hmml : mm.size <= maxLen := by
           rw [<- HMM.o]; split
           · have := HS3.o; unfold maxLen; omega
           · exact Nat.zero_le _
          have HC0 := yq (show ((m : Int) == 1 && !zlF ((zcl 32 t).getD 2 eB)) = false by
           rw [HF1.o]; have := HX2.o; rw [this]; cases hb : b1 with
           | false => rfl
           | true => rw [HPG.o hb]; rfl)
          have HTRY := yq (show zfH (m : Int) (zcl 32 t) t = if zat ⟨(m : Int), i1, jj, kk, pp, mm⟩ && (etV ⟨(m : Int), i1, jj, kk, pp, mm⟩ == t.data.toList) then some ⟨(m : Int), i1, jj, kk, pp, mm⟩ else none by unfold zfH; rw [HC0.o, HMK.o]; rfl); have HPPL := yq hppl; have HMML := yq hmml
          have HN3 := yq (fun (hn : zfH (m : Int) (zcl 32 t) t = none) => (show ∀ j : Nat, 1 <= j -> j < m + 1 -> (⟨(zcO (j : Int)).toArray⟩ : ByteArray) = X -> zfH (j : Int) (zcl 32 t) t = none from fun j h1 h2 h3 => by
           rcases Nat.lt_or_ge j m with h | h
           · exact HN.o j h1 h h3
           · have : j = m := by omega
             subst this
             exact hn))
          clear hppl hmml; have g0 := Blk.cell (i := 0) (v := .int .i64 (m : Int)) F15.o.st.box rfl; have g1 := Blk.cell (i := 1) (v := .int .i64 i1) F15.o.st.box rfl; have g2 := Blk.cell (i := 2) (v := .int .i64 jj) F15.o.st.box rfl; have g3 := Blk.cell (i := 3) (v := .int .i64 kk) F15.o.st.box rfl; have g4 := Blk.cell (i := 4) (v := .slice AP pp.length cP) F15.o.st.box rfl; have g5 := Blk.cell (i := 5) (v := .string mm) F15.o.st.box rfl; have lE := Blk.lt F15.o.st.box; go_wp2_with fail
          refine (zcf _ ⟨(m : Int), i1, jj, kk, pp, mm⟩ _ ⟨_, rfl, zac.sl F15.o.st.own⟩ (by have := HPPL.o; show pp.length <= _; omega) HMML.o).mono ?_
          rintro r w16 ⟨rfl, hb16⟩; have F16 := yq (F15.o.up hb16); clear hb16 g0 g1 g2 g3 g4 g5 lE; cases hok : zat ⟨(m : Int), i1, jj, kk, pp, mm⟩ with
          | false =>
            have HNN := yq (HN3.o (by rw [HTRY.o, hok]; rfl)); clear hok; go_wp2_with fail
            exact ⟨⟨m + 1, by omega, by omega, by go_num, yq F16.o.bel, HNN⟩, by simp [intOf]; omega⟩
          | true =>
            have HOK := yq hok; clear hok; have g0 := Blk.cell (i := 0) (v := .int .i64 (m : Int)) F16.o.st.box rfl; have g1 := Blk.cell (i := 1) (v := .int .i64 i1) F16.o.st.box rfl; have g2 := Blk.cell (i := 2) (v := .int .i64 jj) F16.o.st.box rfl; have g3 := Blk.cell (i := 3) (v := .int .i64 kk) F16.o.st.box rfl; have g4 := Blk.cell (i := 4) (v := .slice AP pp.length cP) F16.o.st.box rfl; have g5 := Blk.cell (i := 5) (v := .string mm) F16.o.st.box rfl; have lE := Blk.lt F16.o.st.box; go_wp2_with fail
            refine (zc0 _ ⟨(m : Int), i1, jj, kk, pp, mm⟩ _ ⟨_, rfl, zac.sl F16.o.st.own⟩ HPPL.o HMML.o (HVP.o.up F16.o.bel).tab).mono ?_
            rintro r w17 ⟨rfl, hb17⟩; have F17 := yq (F16.o.up hb17); clear hb17 g0 g1 g2 g3 g4 g5 lE; cases hcmp : (etV ⟨(m : Int), i1, jj, kk, pp, mm⟩ == t.toList) with
            | false =>
              have HNN := yq (HN3.o (by rw [HTRY.o, HOK.o, <- ByteArray.toList_eq, hcmp]; rfl)); go_wp2_with fail
              exact ⟨⟨m + 1, by omega, by omega, by go_num, yq F17.o.bel, HNN⟩, by simp [intOf]; omega⟩
            | true =>
              have HYES := yq (show zcY t = some ⟨(m : Int), i1, jj, kk, pp, mm⟩ by rw [<- zpa]; unfold zhE; rw [HXH.o, zo9 hm1 hlt HQX.o, if_neg yO, HTRY.o, HOK.o, <- ByteArray.toList_eq, hcmp]; rfl); have KR := HRP.o.up F17.o.bel; have hbW := yq (Below.tr HBP.o F17.o.bel); have r0 := Blk.cell (i := 0) (v := .int .i64 0) KR rfl; have q0 := Blk.frozen KR 0; have r1 := Blk.cell (i := 1) (v := .int .i64 0) KR rfl; have q1 := Blk.frozen KR 1; have r2 := Blk.cell (i := 2) (v := .int .i64 0) KR rfl; have q2 := Blk.frozen KR 2; have r3 := Blk.cell (i := 3) (v := .int .i64 0) KR rfl; have q3 := Blk.frozen KR 3; have r4 := Blk.cell (i := 4) (v := .slice none 0 0) KR rfl; have q4 := Blk.frozen KR 4; have r5 := Blk.cell (i := 5) (v := .string ⟨#[]⟩) KR rfl; have q5 := Blk.frozen KR 5; have g0 := Blk.cell (i := 0) (v := .int .i64 (m : Int)) F17.o.st.box rfl; have g1 := Blk.cell (i := 1) (v := .int .i64 i1) F17.o.st.box rfl; have g2 := Blk.cell (i := 2) (v := .int .i64 jj) F17.o.st.box rfl; have g3 := Blk.cell (i := 3) (v := .int .i64 kk) F17.o.st.box rfl; have g4 := Blk.cell (i := 4) (v := .slice AP pp.length cP) F17.o.st.box rfl; have g5 := Blk.cell (i := 5) (v := .string mm) F17.o.st.box rfl; have lE := Blk.lt F17.o.st.box; have lR := Blk.lt KR; have HKX := yq KR; have hwE : w.heap.size < w6.heap.size := Nat.lt_of_lt_of_le (Blk.lt HRP.o) hP6; clear KR; go_wp2_with fail
              obtain ⟨⟨hf, hh⟩, x0, x1, x2, x3, x4, x5⟩ := zp5 HKX.o hbW.o (.int .i64 (m : Int)) (.int .i64 i1) (.int .i64 jj) (.int .i64 kk) (.slice AP pp.length cP) (.string mm); exact bodyPost_ret (v := .tuple #[.agg #[.int .i64 (m : Int), .int .i64 i1, .int .i64 jj, .int .i64 kk, .slice AP pp.length cP, .string mm], .int .i64 0]) (by simp [results, Tryz.results12, go_sem, x0, x1, x2, x3, x4, x5]) rfl ⟨hf, .slice AP pp.length cP, by rw [(ziD HYES.o).1]; exact zad (za7 F17.o.st.own (fun g hg => hh g (by have := (World.ownsRow.lt F17.o.st.own g hg).1; omega))) yO, by rw [(ziD HYES.o).1, (ziD HYES.o).2]⟩
  · have hm : m = 8 := by omega
    subst hm
    have HNO := yq (show zcY t = none by
     rw [<- zpa]; unfold zhE; rw [HXH.o]; split
     · rfl
     · rename_i hk
       obtain ⟨k, h1, h2, h3, h4⟩ := zko X 8 hk
       rw [h1]; exact HN.o k h2 h3 h4)
    have KR := HRP.o.up HB.o; have hbW := yq (Below.tr HBP.o HB.o); have r0 := Blk.cell (i := 0) (v := .int .i64 0) KR rfl; have q0 := Blk.frozen KR 0; have r1 := Blk.cell (i := 1) (v := .int .i64 0) KR rfl; have q1 := Blk.frozen KR 1; have r2 := Blk.cell (i := 2) (v := .int .i64 0) KR rfl; have q2 := Blk.frozen KR 2; have r3 := Blk.cell (i := 3) (v := .int .i64 0) KR rfl; have q3 := Blk.frozen KR 3; have r4 := Blk.cell (i := 4) (v := .slice none 0 0) KR rfl; have q4 := Blk.frozen KR 4; have r5 := Blk.cell (i := 5) (v := .string ⟨#[]⟩) KR rfl; have q5 := Blk.frozen KR 5; have lR := Blk.lt KR; have HKX := yq KR; clear KR; go_wp2_with fail
    obtain ⟨⟨hf, _⟩, x0, x1, x2, x3, x4, x5⟩ := zp5 HKX.o hbW.o (.int .i64 0) (.int .i64 0) (.int .i64 0) (.int .i64 0) (.slice none 0 0) (.string ⟨#[]⟩); exact bodyPost_ret (v := .tuple #[.agg #[.int .i64 0, .int .i64 0, .int .i64 0, .int .i64 0, .slice none 0 0, .string ⟨#[]⟩], .int .i64 5]) (by simp [results, Tryz.results12, go_sem, x0, x1, x2, x3, x4, x5]) rfl ⟨hf, .slice none 0 0, by rw [(zfZ HNO.o).1]; exact World.ownsRow_nil _ _ _ _, by rw [(zfZ HNO.o).1, (zfZ HNO.o).2]; rfl⟩
end Go.Proofs.YtejgbfgocaggfaaGreatDoor
namespace Go.Proofs
open Go.Shelf Go.RowKit
def Tryz.lays264_ren : Go.Shelf.Ren := ⟨fun | 264 => 179 | n => n, fun | 53 => 90 | 46 => 149 | n => n, fun | n => n⟩
theorem Tryz.lays264 : Go.Proofs.Lays.n264 Tryz.prog Tryz.lays264_ren := {
 mixed := by kernel_rfl
 f264 := Tryz.func179.trans (congrArg some (by kernel_rfl))
 t46 := Tryz.underlying149
 a46 := Tryz.isAgg149
 z46 := Tryz.sizeOf149
 v46 := Tryz.zeroValue149
 t53 := Tryz.underlying90
 a53 := Tryz.isAgg90
 z53 := Tryz.sizeOf90
 v53 := Tryz.zeroValue90 }
open Go.RowKit Go.Lib in
theorem Tryz.bits_Mul64 (x y : Nat) (hx : x < 18446744073709551616) (hy : y < 18446744073709551616) (w : World) :
  Calls Tryz.prog 179 #[.int .u64 x, .int .u64 y] w fun e w' => e = .returned (.tuple #[.int .u64 ((x * y / 18446744073709551616 : Nat) : Int), .int .u64 ((x * y % 18446744073709551616 : Nat) : Int)]) ∧ w' = w := Any.bits_Mul64 Tryz.lays264 x y hx hy w
end Go.Proofs
namespace Go.Proofs.YtejgbfgocaggfaaGreatDoor
open Go.RowKit
def pF : Nat := 2305843009213693951
theorem zm2 (n : Nat) (h : n < 18446744073709551616) : bits BinOp.and IntKind.u64 (n : Int) 2305843009213693951 = ((n % 2305843009213693952 : Nat) : Int) := by
 have h1 := bits_and_u64_nat n 2305843009213693951 h (by decide); have e : n &&& 2305843009213693951 = n % 2305843009213693952 := Nat.and_two_pow_sub_one_eq_mod n 61; rw [e] at h1; exact h1
theorem zpJ (x h : Nat) (hx : x < 8) (hh : h < 1152921504606846976) : bits BinOp.or IntKind.u64 (x : Int) ((h * 8 : Nat) : Int) = ((x + h * 8 : Nat) : Int) := by
 rw [bits_or_u64_nat x (h * 8) yO yO]; have e := Nat.shiftLeft_add_eq_or_of_lt (i := 3) (b := x) yO h; rw [Nat.shiftLeft_eq] at e; rw [Nat.or_comm, <- e]; congr 1
 omega
theorem zp7 (X : Nat) (hX : X <= 2305843009213693950 * 2305843009213693950) :
  X / 18446744073709551616 < 1152921504606846976 /\ X % 18446744073709551616 / 2305843009213693952 < 8 /\
  X % 18446744073709551616 % 2305843009213693952 + (X % 18446744073709551616 / 2305843009213693952 + X / 18446744073709551616 * 8) < 4611686018427387904 /\
  (∀ o, o = X % 18446744073709551616 % 2305843009213693952 + (X % 18446744073709551616 / 2305843009213693952 + X / 18446744073709551616 * 8) ->
    (o % 2305843009213693952 + o / 2305843009213693952 < 2305843009213693953) /\
    (2305843009213693951 <= o % 2305843009213693952 + o / 2305843009213693952 -> o % 2305843009213693952 + o / 2305843009213693952 - 2305843009213693951 = X % 2305843009213693951) /\
    (o % 2305843009213693952 + o / 2305843009213693952 < 2305843009213693951 -> o % 2305843009213693952 + o / 2305843009213693952 = X % 2305843009213693951)) := by
 have e : 2305843009213693950 * 2305843009213693950 = 5316911983139663482391856204266602500 := by decide
 rw [e] at hX; refine ⟨by omega, by omega, by omega, ?_⟩
 intro o ho; refine ⟨by omega, ?_, ?_⟩
 · intro h; omega
 · intro h; omega
theorem zgl (a b : Nat) (w : World) (ha : a < pF) (hb : b < pF) :
  Calls Tryz.prog 158 #[.int .u64 a, .int .u64 b] w fun e w' => e = .returned (.int .u64 ((a * b % pF : Nat) : Int)) /\ w = w' := by
 unfold pF at ha hb |-
 obtain ⟨f1, f2, f3, f4⟩ := zp7 (a * b) (Nat.mul_le_mul yO yO); go_enter Tryz.func158, Tryz.ntmps158
 go_wp2_with fail
 refine (Tryz.bits_Mul64 a b yO yO _).mono ?_
 rintro e w1 ⟨rfl, rfl⟩; obtain ⟨X, hX⟩ : ∃ X, a * b = X := ⟨_, rfl⟩
 have HX := yq hX; rw [hX] at f1 f2 f3 f4 |-
 obtain ⟨hi, hhi⟩ : ∃ h, X / 18446744073709551616 = h := ⟨_, rfl⟩
 obtain ⟨lo, hlo⟩ : ∃ h, X % 18446744073709551616 = h := ⟨_, rfl⟩
 rw [hhi, hlo] at f3 f4; rw [hhi] at f1; rw [hlo] at f2; rw [hhi, hlo]; have hlo2 : lo < 18446744073709551616 := by rw [<- hlo]; exact Nat.mod_lt _ (by decide)
 have e1 := zm2 lo hlo2; have e2 : IntKind.u64.wrap ((hi : Int) * 8) = (hi : Int) * 8 := IntWalk.u64_in _ yO
 have e3 : bits BinOp.or IntKind.u64 ((lo : Int) / 2305843009213693952) ((hi : Int) * 8) = (lo : Int) / 2305843009213693952 + (hi : Int) * 8 := by
  have := zpJ (lo / 2305843009213693952) hi f2 f1; rw [Int.natCast_add, Int.natCast_mul, Int.natCast_ediv] at this; exact this
 obtain ⟨o, ho⟩ : ∃ o, lo % 2305843009213693952 + (lo / 2305843009213693952 + hi * 8) = o := ⟨_, rfl⟩
 rw [ho] at f3; obtain ⟨g1, g2, g3⟩ := f4 o ho.symm
 have e4 : IntKind.u64.wrap ((lo : Int) % 2305843009213693952 + ((lo : Int) / 2305843009213693952 + (hi : Int) * 8)) = (o : Int) := by
  rw [<- ho]; rw [IntWalk.u64_in _ yO]; omega
 have e5 := zm2 o yO; have e6 : IntKind.u64.wrap ((o : Int) % 2305843009213693952 + (o : Int) / 2305843009213693952) = (o : Int) % 2305843009213693952 + (o : Int) / 2305843009213693952 := IntWalk.u64_in _ yO; clear hhi hlo f4 ho hX; obtain ⟨R, hR⟩ : ∃ R, X % 2305843009213693951 = R := ⟨_, rfl⟩
 rw [hR] at g2 g3; have HR := yq (show a * b % 2305843009213693951 = R by rw [HX.o]; exact hR); clear hR; obtain ⟨T, hT⟩ : ∃ T, o % 2305843009213693952 + o / 2305843009213693952 = T := ⟨_, rfl⟩
 rw [hT] at g1 g2 g3; have hTI : (o : Int) % 2305843009213693952 + (o : Int) / 2305843009213693952 = (T : Int) := by rw [<- hT]; omega
 rw [hTI] at e6; clear hT; by_cases hge : 2305843009213693951 <= T
 · have hgI : (2305843009213693951 : Int) <= (T : Int) := by omega
   have e7 : IntKind.u64.wrap ((T : Int) - 2305843009213693951) = (T : Int) - 2305843009213693951 := IntWalk.u64_in _ yO; have hfin : (T : Int) - 2305843009213693951 = (R : Int) := by have := g2 hge; omega
   have HF := yq hfin; clear hfin g2 g3 hge; go_wp2_with fail
   go_ret
   refine ⟨?_, rfl⟩
   rw [HR.o, <- HF.o]; rfl
 · have hgI : (T : Int) < 2305843009213693951 := by omega
   have hfin : T = R := g3 yO; subst hfin; clear g2 g3 hge; go_upto_if 28 with fail
   rw [show (decide ((2305843009213693951 : Int) <= (T : Int))) = false from decide_eq_false yO]; clear hgI g1 hTI e1 e2 e3 e4 e5 e6 f3 hlo2 f1 f2 ha hb; go_wp2_with fail
   go_ret
   exact ⟨by rw [HR.o]; rfl, rfl⟩
theorem zgm (a b : Nat) (w : World) (ha : a < pF) (hb : b < pF) :
  Calls Tryz.prog 159 #[.int .u64 a, .int .u64 b] w fun e w' => e = .returned (.int .u64 (((a + b) % pF : Nat) : Int)) /\ w = w' := by
 unfold pF at ha hb |-
 have e1 : IntKind.u64.wrap ((a : Int) + (b : Int)) = (a : Int) + (b : Int) := IntWalk.u64_in _ yO; by_cases hge : 2305843009213693951 <= a + b
 · have HF := yq (show ((a : Int) + (b : Int)) - 2305843009213693951 = (((a + b) % 2305843009213693951 : Nat) : Int) by omega)
   have e2 : IntKind.u64.wrap (((a : Int) + (b : Int)) - 2305843009213693951) = ((a : Int) + (b : Int)) - 2305843009213693951 := IntWalk.u64_in _ yO; go_enter Tryz.func159, Tryz.ntmps159
   go_upto_if 9 with fail
   rw [show (decide ((2305843009213693951 : Int) <= (a : Int) + (b : Int))) = true from decide_eq_true yO]; clear hge ha hb; go_wp2_with fail
   go_ret
   refine ⟨?_, rfl⟩
   rw [<- HF.o]; rfl
 · have HF := yq (show ((a : Int) + (b : Int)) = (((a + b) % 2305843009213693951 : Nat) : Int) by omega)
   go_enter Tryz.func159, Tryz.ntmps159
   go_upto_if 9 with fail
   rw [show (decide ((2305843009213693951 : Int) <= (a : Int) + (b : Int))) = false from decide_eq_false yO]; clear hge ha hb e1; go_wp2_with fail
   go_ret
   refine ⟨?_, rfl⟩
   rw [<- HF.o]; rfl
def prV (a b : Nat) : Value := .agg #[.int .u64 (a : Int), .int .u64 (b : Int)]
theorem zg8 (a0 a1 b0 b1 : Nat) (w : World) (ha0 : a0 < pF) (ha1 : a1 < pF) (hb0 : b0 < pF) (hb1 : b1 < pF) :
  Calls Tryz.prog 125 #[.agg #[.int .u64 a0, .int .u64 a1], .agg #[.int .u64 b0, .int .u64 b1]] w fun e w' => Below w.heap.size w w' /\ e = .returned (.agg #[.int .u64 (((a0 * b0) % pF : Nat) : Int), .int .u64 (((a1 * b1) % pF : Nat) : Int)]) := by
 have M0 := yq (fun W => (zgl a0 b0 W ha0 hb0).mono (R' := fun e w'' => e = .returned (.int .u64 (((a0 * b0) % pF : Nat) : Int)) /\ w'' = W) fun e w' ⟨h1, h2⟩ => ⟨h1, h2.symm⟩); have M1 := yq (fun W => (zgl a1 b1 W ha1 hb1).mono (R' := fun e w'' => e = .returned (.int .u64 (((a1 * b1) % pF : Nat) : Int)) /\ w'' = W) fun e w' ⟨h1, h2⟩ => ⟨h1, h2.symm⟩); obtain ⟨p0, hp0⟩ : ∃ p, (a0 * b0) % pF = p := ⟨_, rfl⟩
 obtain ⟨p1, hp1⟩ : ∃ p, (a1 * b1) % pF = p := ⟨_, rfl⟩
 rw [hp0] at M0 |-
 rw [hp1] at M1 |-
 clear hp0 hp1 ha0 ha1 hb0 hb1; have HB := yq (fun o o' o'' => (((Below.refl w.heap.size w).alloc yL o).alloc yS o').alloc (by simp; omega) o''); have K0 := yq (((Blk.new w #[.int .u64 (a0 : Int), .int .u64 (a1 : Int)] 163).alloc (.cells #[.int .u64 (b0 : Int), .int .u64 (b1 : Int)] 163)).alloc (.cells #[.int .u64 0, .int .u64 0] 163)); have K1 := yq ((Blk.new (w.alloc (.cells #[.int .u64 (a0 : Int), .int .u64 (a1 : Int)] 163)) #[.int .u64 (b0 : Int), .int .u64 (b1 : Int)] 163).alloc (.cells #[.int .u64 0, .int .u64 0] 163)); have K2 := yq (Blk.new ((w.alloc (.cells #[.int .u64 (a0 : Int), .int .u64 (a1 : Int)] 163)).alloc (.cells #[.int .u64 (b0 : Int), .int .u64 (b1 : Int)] 163)) #[.int .u64 0, .int .u64 0] 163); have z1 : (w.alloc (.cells #[.int .u64 (a0 : Int), .int .u64 (a1 : Int)] 163)).heap.size = w.heap.size + 1 := by simp
 have z2 : ((w.alloc (.cells #[.int .u64 (a0 : Int), .int .u64 (a1 : Int)] 163)).alloc (.cells #[.int .u64 (b0 : Int), .int .u64 (b1 : Int)] 163)).heap.size = w.heap.size + 1 + 1 := by simp
 rw [z1] at K1; rw [z2] at K2; have HBB := yq (HB.o (.cells #[.int .u64 (a0 : Int), .int .u64 (a1 : Int)] 163) (.cells #[.int .u64 (b0 : Int), .int .u64 (b1 : Int)] 163) (.cells #[.int .u64 0, .int .u64 0] 163)); clear HB z1 z2; go_enter Tryz.func125, Tryz.ntmps125
 go_upto_region 1 with fail
 revert K0 K1 K2 HBB; generalize (((w.alloc (.cells #[.int .u64 (a0 : Int), .int .u64 (a1 : Int)] 163)).alloc (.cells #[.int .u64 (b0 : Int), .int .u64 (b1 : Int)] 163)).alloc (.cells #[.int .u64 0, .int .u64 0] 163)) = W; intro K0 K1 K2 HBB; have c0 := Blk.cell (i := 0) (v := .int .u64 (a0 : Int)) K0.o rfl; have c1 := Blk.cell (i := 1) (v := .int .u64 (a1 : Int)) K0.o rfl; have c2 := Blk.cell (i := 0) (v := .int .u64 (b0 : Int)) K1.o rfl; have c3 := Blk.cell (i := 1) (v := .int .u64 (b1 : Int)) K1.o rfl; have c4 := Blk.cell (i := 0) (v := .int .u64 0) K2.o rfl; have c5 := Blk.cell (i := 1) (v := .int .u64 0) K2.o rfl; have f4 := Blk.frozen K2.o 0; have f5 := Blk.frozen K2.o 1; have l2 := Blk.lt K2.o; have l1 := Blk.lt K1.o; have l0 := Blk.lt K0.o; refine wp_region_still_tail 10 yk yk ?_
 simp only [List.take_succ_cons, List.take_zero, List.drop_succ_cons, List.drop_zero]
 still_step
 still_step
 still_step
 still_step
 still_call (M0.o _)
 still_step
 still_step
 still_step
 still_step
 still_call (M1.o _)
 refine wpStill_nil ?_
 go_wp2_with fail
 refine bodyPost_ret (v := .agg #[.int .u64 (p0 : Int), .int .u64 (p1 : Int)]) (by simp [results, Tryz.results125, go_sem, c4, c5]) rfl ⟨?_, rfl⟩
 exact Below.setCell (Below.setCell (Below.drew HBB.o) (by show w.heap.size <= w.heap.size + 1 + 1; omega) _) (by show w.heap.size <= w.heap.size + 1 + 1; omega) _
theorem zk3 (a0 a1 b0 b1 : Nat) (w : World) (ha0 : a0 < pF) (ha1 : a1 < pF) (hb0 : b0 < pF) (hb1 : b1 < pF) :
  Calls Tryz.prog 126 #[.agg #[.int .u64 a0, .int .u64 a1], .agg #[.int .u64 b0, .int .u64 b1]] w fun e w' => Below w.heap.size w w' /\ e = .returned (.agg #[.int .u64 (((a0 + b0) % pF : Nat) : Int), .int .u64 (((a1 + b1) % pF : Nat) : Int)]) := by
 have M0 := yq (fun W => (zgm a0 b0 W ha0 hb0).mono (R' := fun e w'' => e = .returned (.int .u64 (((a0 + b0) % pF : Nat) : Int)) /\ w'' = W) fun e w' ⟨h1, h2⟩ => ⟨h1, h2.symm⟩); have M1 := yq (fun W => (zgm a1 b1 W ha1 hb1).mono (R' := fun e w'' => e = .returned (.int .u64 (((a1 + b1) % pF : Nat) : Int)) /\ w'' = W) fun e w' ⟨h1, h2⟩ => ⟨h1, h2.symm⟩); obtain ⟨p0, hp0⟩ : ∃ p, (a0 + b0) % pF = p := ⟨_, rfl⟩
 obtain ⟨p1, hp1⟩ : ∃ p, (a1 + b1) % pF = p := ⟨_, rfl⟩
 rw [hp0] at M0 |-
 rw [hp1] at M1 |-
 clear hp0 hp1 ha0 ha1 hb0 hb1; have HB := yq (fun o o' o'' => (((Below.refl w.heap.size w).alloc yL o).alloc yS o').alloc (by simp; omega) o''); have K0 := yq (((Blk.new w #[.int .u64 (a0 : Int), .int .u64 (a1 : Int)] 163).alloc (.cells #[.int .u64 (b0 : Int), .int .u64 (b1 : Int)] 163)).alloc (.cells #[.int .u64 0, .int .u64 0] 163)); have K1 := yq ((Blk.new (w.alloc (.cells #[.int .u64 (a0 : Int), .int .u64 (a1 : Int)] 163)) #[.int .u64 (b0 : Int), .int .u64 (b1 : Int)] 163).alloc (.cells #[.int .u64 0, .int .u64 0] 163)); have K2 := yq (Blk.new ((w.alloc (.cells #[.int .u64 (a0 : Int), .int .u64 (a1 : Int)] 163)).alloc (.cells #[.int .u64 (b0 : Int), .int .u64 (b1 : Int)] 163)) #[.int .u64 0, .int .u64 0] 163); have z1 : (w.alloc (.cells #[.int .u64 (a0 : Int), .int .u64 (a1 : Int)] 163)).heap.size = w.heap.size + 1 := by simp
 have z2 : ((w.alloc (.cells #[.int .u64 (a0 : Int), .int .u64 (a1 : Int)] 163)).alloc (.cells #[.int .u64 (b0 : Int), .int .u64 (b1 : Int)] 163)).heap.size = w.heap.size + 1 + 1 := by simp
 rw [z1] at K1; rw [z2] at K2; have HBB := yq (HB.o (.cells #[.int .u64 (a0 : Int), .int .u64 (a1 : Int)] 163) (.cells #[.int .u64 (b0 : Int), .int .u64 (b1 : Int)] 163) (.cells #[.int .u64 0, .int .u64 0] 163)); clear HB z1 z2; go_enter Tryz.func126, Tryz.ntmps126
 go_upto_region 1 with fail
 revert K0 K1 K2 HBB; generalize (((w.alloc (.cells #[.int .u64 (a0 : Int), .int .u64 (a1 : Int)] 163)).alloc (.cells #[.int .u64 (b0 : Int), .int .u64 (b1 : Int)] 163)).alloc (.cells #[.int .u64 0, .int .u64 0] 163)) = W; intro K0 K1 K2 HBB; have c0 := Blk.cell (i := 0) (v := .int .u64 (a0 : Int)) K0.o rfl; have c1 := Blk.cell (i := 1) (v := .int .u64 (a1 : Int)) K0.o rfl; have c2 := Blk.cell (i := 0) (v := .int .u64 (b0 : Int)) K1.o rfl; have c3 := Blk.cell (i := 1) (v := .int .u64 (b1 : Int)) K1.o rfl; have c4 := Blk.cell (i := 0) (v := .int .u64 0) K2.o rfl; have c5 := Blk.cell (i := 1) (v := .int .u64 0) K2.o rfl; have f4 := Blk.frozen K2.o 0; have f5 := Blk.frozen K2.o 1; have l2 := Blk.lt K2.o; have l1 := Blk.lt K1.o; have l0 := Blk.lt K0.o; refine wp_region_still_tail 10 yk yk ?_
 simp only [List.take_succ_cons, List.take_zero, List.drop_succ_cons, List.drop_zero]
 still_step
 still_step
 still_step
 still_step
 still_call (M0.o _)
 still_step
 still_step
 still_step
 still_step
 still_call (M1.o _)
 refine wpStill_nil ?_
 go_wp2_with fail
 refine bodyPost_ret (v := .agg #[.int .u64 (p0 : Int), .int .u64 (p1 : Int)]) (by simp [results, Tryz.results126, go_sem, c4, c5]) rfl ⟨?_, rfl⟩
 exact Below.setCell (Below.setCell (Below.drew HBB.o) (by show w.heap.size <= w.heap.size + 1 + 1; omega) _) (by show w.heap.size <= w.heap.size + 1 + 1; omega) _
def zjD (b : Nat) (w : List UInt8) : Nat := w.foldl (fun a c => (a * b + c.toNat) % pF) 0
def zhF (b n : Nat) : Nat := b ^ n % pF
theorem zm3 : 0 < pF := by decide
theorem zkr (b : Nat) (w : List UInt8) : zjD b w < pF := by
 unfold zjD
 suffices H : ∀ (w : List UInt8) (a : Nat), a < pF -> w.foldl (fun a c => (a * b + c.toNat) % pF) a < pF from H w 0 zm3
 intro w
 induction w with
 | nil => intro a h; exact h
 | cons c w ih => intro a _; exact ih _ (Nat.mod_lt _ zm3)
theorem zm4 (b n : Nat) : zhF b n < pF := Nat.mod_lt _ zm3
theorem ziM (b m n : Nat) : zhF b (m + n) = zhF b m * zhF b n % pF := by
 unfold zhF; rw [Nat.pow_add, <- Nat.mul_mod]
theorem zk4 {b : Nat} (h : b < pF) : zhF b 1 = b := by
 unfold zhF; rw [Nat.pow_one, Nat.mod_eq_of_lt h]
theorem zm5 (b : Nat) : ∀ (v : List UInt8) (a : Nat), v.foldl (fun a c => (a * b + c.toNat) % pF) (a % pF) = (a * zhF b v.length + zjD b v) % pF := by
 intro v
 induction v with
 | nil =>
   intro a; show a % pF = (a * zhF b 0 + 0) % pF
   have : zhF b 0 = 1 := by unfold zhF; rw [Nat.pow_zero]; decide
   rw [this, Nat.mul_one, Nat.add_zero]
 | cons c v ih =>
   intro a; rw [List.foldl_cons]
   have e1 : (a % pF * b + c.toNat) % pF = (a * b + c.toNat) % pF := by
    rw [Nat.add_mod, Nat.mul_mod, Nat.mod_mod, <- Nat.mul_mod, <- Nat.add_mod]
   have e0 : zjD b (c :: v) = (c.toNat * zhF b v.length + zjD b v) % pF := by
    unfold zjD; rw [List.foldl_cons, Nat.zero_mul, Nat.zero_add]; exact ih c.toNat
   rw [e1, ih (a * b + c.toNat), e0, List.length_cons, Nat.add_comm v.length 1, ziM]
   have e2 : a * (zhF b 1 * zhF b v.length % pF) % pF = a * b * zhF b v.length % pF := by
    unfold zhF; rw [Nat.pow_one, <- Nat.mul_mod, Nat.mul_mod, Nat.mod_mod, <- Nat.mul_mod, <- Nat.mul_assoc, Nat.mul_mod _ (b ^ _ % pF), Nat.mod_mod, <- Nat.mul_mod]
   rw [Nat.add_mul, Nat.add_assoc, Nat.add_mod, Nat.add_mod (a * (zhF b 1 * zhF b v.length % pF)), e2, Nat.mod_mod]
theorem zk5 (b : Nat) (u v : List UInt8) : zjD b (u ++ v) = (zjD b u * zhF b v.length % pF + zjD b v) % pF := by
 have h := zm5 b v (zjD b u); rw [Nat.mod_eq_of_lt (zkr b u)] at h; unfold zjD at h |-
 rw [List.foldl_append, h]; exact (Nat.mod_add_mod _ _ _).symm
theorem zk6 (b : Nat) (c : UInt8) : zjD b [c] = c.toNat := by
 unfold zjD; have h : c.toNat < 256 := c.toNat_lt; rw [List.foldl_cons, List.foldl_nil, Nat.zero_mul, Nat.zero_add, Nat.mod_eq_of_lt]; unfold pF; omega
def bA : Nat := 1234567890123456789
def bB : Nat := 987654321987654321
theorem zp8 : bA < pF := by decide
theorem zp9 : bB < pF := by decide
def zeB (p : Nat × Nat) : List Value := [.int .u64 (p.1 : Int), .int .u64 (p.2 : Int)]
def zdP (w : World) (base : Nat) (v : Value) (l : List (Nat × Nat)) : Prop := w.ownsRow base 163 2 v l.length (l.flatMap zeB)
theorem zqa {l : List (Nat × Nat)} {k : Nat} {p : Nat × Nat} (h : l[k]? = some p) : (l.flatMap zeB)[k * 2]? = some (.int .u64 (p.1 : Int)) /\ (l.flatMap zeB)[k * 2 + 1]? = some (.int .u64 (p.2 : Int)) := by
 induction l generalizing k with
 | nil => simp at h
 | cons x xs ih =>
   cases k with
   | zero => simp at h; subst h; exact ⟨rfl, rfl⟩
   | succ k =>
     have h2 : xs[k]? = some p := by simpa using h
     obtain ⟨i1, i2⟩ := ih h2; rw [List.flatMap_cons]; have e : (zeB x).length = 2 := rfl; rw [List.getElem?_append_right (by rw [e]; omega), List.getElem?_append_right (by rw [e]; omega), e]
     exact ⟨by rw [show (k + 1) * 2 - 2 = k * 2 by omega]; exact i1, by rw [show (k + 1) * 2 + 1 - 2 = k * 2 + 1 by omega]; exact i2⟩
theorem zdP.cells {w : World} {base : Nat} {v : Value} {l : List (Nat × Nat)} (h : zdP w base v l) {k : Nat} {p : Nat × Nat} (hk : l[k]? = some p) :
  ∃ g cap, v = .slice (some ⟨g, 0, none⟩) l.length cap /\ base <= g /\ g < w.heap.size /\ w.cell? ⟨g, k * 2, none⟩ = some (.int .u64 (p.1 : Int)) /\ w.cell? ⟨g, k * 2 + 1, none⟩ = some (.int .u64 (p.2 : Int)) := by
 have hl : k < l.length := (List.getElem?_eq_some_iff.1 hk).1
 obtain ⟨g, cap, rfl, hb, hg, _, hc⟩ := zbI h yO; obtain ⟨p1, p2⟩ := zqa hk; exact ⟨g, cap, rfl, hb, hg, hc _ _ p1, hc _ _ p2⟩
def zeg (xs : List zaa) (k : Nat) : Nat × Nat := (zjD bA (W1 xs k), zjD bB (W1 xs k))
def zef (xs : List zaa) (k : Nat) : Nat × Nat := (zhF bA (W1 xs k).length, zhF bB (W1 xs k).length)
def zjO (xs : List zaa) (n : Nat) : List (Nat × Nat) := (List.range n).map (zeg xs)
def zjP (xs : List zaa) (n : Nat) : List (Nat × Nat) := (List.range n).map (zef xs)
theorem zm6 (xs : List zaa) (n : Nat) : (zjO xs n).length = n := by simp [zjO]
theorem zm7 (xs : List zaa) (n : Nat) : (zjP xs n).length = n := by simp [zjP]
theorem zm8 {xs : List zaa} {n k : Nat} (h : k < n) : (zjO xs n)[k]? = some (zeg xs k) := by simp [zjO, List.getElem?_range h]
theorem zm9 {xs : List zaa} {n k : Nat} (h : k < n) : (zjP xs n)[k]? = some (zef xs k) := by simp [zjP, List.getElem?_range h]
theorem zod (xs : List zaa) (n : Nat) : zjO xs (n + 1) = zjO xs n ++ [zeg xs n] := by simp [zjO, List.range_succ]
theorem zoe (xs : List zaa) (n : Nat) : zjP xs (n + 1) = zjP xs n ++ [zef xs n] := by simp [zjP, List.range_succ]
theorem zpc {xs : List zaa} {ls : List Int} (h : zaW xs = some ls) {k : Nat} (hk : k < xs.length) (hp : (zaA xs k).pair = true) :
  zeg xs k = (((zeg xs (zaA xs k).left.toNat).1 * (zef xs (zaA xs k).right.toNat).1 % pF + (zeg xs (zaA xs k).right.toNat).1) % pF, ((zeg xs (zaA xs k).left.toNat).2 * (zef xs (zaA xs k).right.toNat).2 % pF + (zeg xs (zaA xs k).right.toNat).2) % pF) := by
 unfold zeg zef; rw [zes h hk hp, zk5, zk5]
theorem zpd {xs : List zaa} {ls : List Int} (h : zaW xs = some ls) {k : Nat} (hk : k < xs.length) (hp : (zaA xs k).pair = true) :
  zef xs k = ((zef xs (zaA xs k).left.toNat).1 * (zef xs (zaA xs k).right.toNat).1 % pF, (zef xs (zaA xs k).left.toNat).2 * (zef xs (zaA xs k).right.toNat).2 % pF) := by
 unfold zef; rw [zes h hk hp, List.length_append, ziM, ziM]
theorem zpK {xs : List zaa} {k : Nat} {c : UInt8} (hp : (zaA xs k).pair = false) (hc : (zaA xs k).letter = ⟨#[c]⟩) : zeg xs k = (c.toNat, c.toNat) /\ zef xs k = (bA, bB) := by
 have hw : W1 xs k = [c] := by rw [zda hp, hc]
 unfold zeg zef; rw [hw, zk6, zk6]; exact ⟨rfl, by rw [List.length_singleton, zk4 zp8, zk4 zp9]⟩
theorem zna (xs : List zaa) (k : Nat) : (zeg xs k).1 < pF /\ (zeg xs k).2 < pF := ⟨zkr _ _, zkr _ _⟩
theorem zpe (xs : List zaa) (k : Nat) : (zef xs k).1 < pF /\ (zef xs k).2 < pF := ⟨zm4 _ _, zm4 _ _⟩
theorem znb (w : World) : Calls Tryz.prog 124 #[] w fun e w' => Below w.heap.size w w' /\ e = .returned (.agg #[.int .u64 1234567890123456789, .int .u64 987654321987654321]) := by
 go_enter Tryz.func124, Tryz.ntmps124
 go_wp2_with fail
 exact bodyPost_ret (v := .agg #[.int .u64 1234567890123456789, .int .u64 987654321987654321]) (by simp [results, Tryz.results124, go_sem]) rfl ⟨(Below.refl _ _).alloc yL _, rfl⟩
theorem Tryz.infoPr : (Tryz.prog.info? 163).map (fun i => (i.zero, i.size, i.bytes)) = some (some (.agg #[.int .u64 0, .int .u64 0]), 2, 16) := by kernel_rfl
theorem zct {W : World} {ops : Array Oper} {o : Oper} {a : Act} {K : Act -> World -> Prop} {Q : Exit -> Act -> World -> Prop} {E : Prop} (hgd : o.guard = none) (s x : Operand)
  (ho : o.op = .call { callee := .builtin .append, args := #[s, x], argTypes := #[159, 159] }) {p : Nat × Nat} {base n c N : Nat} {A : Option Addr} {l : List (Nat × Nat)}
  (hs : a.eval s = .slice A n c) (hx : a.eval x = .slice (some ⟨N, 0, none⟩) 1 1) (hN : W.heap[N]? = some (.cells #[.int .u64 (p.1 : Int), .int .u64 (p.2 : Int)] 163 (0, 0))) (hn : n = l.length) (hown : zdP W base (.slice A n c) l) (hlen : l.length <= 1048576) (hbase : base <= W.heap.size)
  (h : ∀ A' c' w', zdP w' base (.slice A' (n + 1) c') (l ++ [p]) -> ((Value.slice A' (n + 1) c').ownBlock = (Value.slice A n c).ownBlock \/ ∃ g, (Value.slice A' (n + 1) c').ownBlock = some g /\ W.heap.size <= g) -> W.grownBy w' (Value.slice A n c).ownBlock -> Below base W w' -> K (a.put o.dst (.slice A' (n + 1) c')) w') :
  if Region.wanted o (yielded ops a.tmps) = true then Oper.wp Tryz.prog o a W K Q else E := by
 subst hn; have hw : Region.wanted o (yielded ops a.tmps) = true := by simp [Region.wanted, hgd]
 rw [if_pos hw]; obtain ⟨i0, hi0, hz0, hz1, hz2⟩ := info_parts Tryz.infoPr
 obtain ⟨v', w', hrun, k1, k2, _, k3⟩ := run_append_own_at (P := Tryz.prog) W base 159 o.type 163 i0 _ 2 16 Tryz.underlying159 hi0 hz0 hz1 hz2 rfl (by decide) (.slice A l.length c) l.length _ hown ⟨N, 0, none⟩ 1 1 (zeB p) rfl
  (fun j y hy => by
    have : W.cell? ⟨N, j, none⟩ = (#[Value.int .u64 (p.1 : Int), .int .u64 (p.2 : Int)] : Array Value)[j]? := cell_of_row _ _ _ _ 163 (0, 0) hN; have ha : (⟨N, 0, none⟩ : Addr).add j = ⟨N, j, none⟩ := by unfold Addr.add; split <;> simp_all
    rw [ha, this]; simpa [zeB] using hy) (by simp [zeB, Value.oneCell']) (by simp only [maxLen]; omega) yO hbase
 unfold Oper.wp execOp; simp only [ho, resolve, invoke, builtin, Sem.run_bind, Sem.run_pure, Result.andThen_ok, List.map_toArray, List.map_cons, List.map_nil, hs, hx, hrun]
 have k1' : zdP w' base v' (l ++ [p]) := by
  unfold zdP; simpa [zeB] using k1
 obtain ⟨A', c', rfl, _⟩ := zae k1'; have el : (l ++ [p]).length = l.length + 1 := by simp
 rw [el] at k1' k3 |-
 refine h A' c' w' k1' ?_ k2 ((Below.refl base W).grown k2 hbase (fun y hy => (World.ownsRow.lt hown y hy).1))
 rcases k3 with k3 | k3
 · exact .inl k3
 · exact .inr ⟨_, k3, Nat.le_refl _⟩
end Go.Proofs.YtejgbfgocaggfaaGreatDoor
