import Derived.Test.YtejgbfgocaggfaaGreatDoorM28
set_option maxRecDepth 100000
set_option maxHeartbeats 8000000
namespace Go.Proofs.YtejgbfgocaggfaaGreatDoor
open Go.RowKit
theorem znD {e : zam} (h : zat e = true) (hk : e.kind = 5) : e = zkz e.i e.j /\ e.part = [] := by
 obtain ⟨k, i, j, kk, part, map⟩ := e; simp only at hk
 subst hk; simp only [zat, Bool.and_eq_true, inR, decide_eq_true_eq] at h
 obtain ⟨⟨⟨⟨⟨⟨⟨⟨h1, h1'⟩, h2⟩, h3⟩, h4⟩, h5⟩, h6⟩, h7⟩, h8⟩ := h; have e1 : kk = 0 := by simpa [zaK, zbu] using h4
 have e2 : part = [] := by
  have : ¬ 0 < part.length := by simpa using h6
  exact yn yO
 have e3 : map.size = 0 := by simpa using h8
 have e4 : map = ⟨#[]⟩ := by
  obtain ⟨d⟩ := map; have : d.size = 0 := e3; have : d = #[] := Array.eq_empty_of_size_eq_zero this; rw [this]
 subst e1 e2 e4; exact ⟨rfl, rfl⟩
theorem zhs (vG v : Value) (xs : List zaa) (e : zam) (w : World) (hG : Sl zar w w.heap.size vG xs) (hE : ze0 w w.heap.size v e) (hn : xs.length <= 1048576) (hn2 : e.part.length <= 1048576) (hm : e.map.size <= maxLen) (htab : Lib.TabIs Tryz.prog w "math/bits.deBruijn64tab" .u8 zfc) :
  Calls Tryz.prog 30 #[.agg #[vG], v] w (zcv (zaJ xs e) (zay xs e) w) := by
 obtain ⟨vR, rfl, hR⟩ := hE; have HG := yq hG; have HR := yq hR; have HT := yq htab; obtain ⟨AG, cG, rfl, _⟩ := hG; obtain ⟨AR, cR, rfl, hAc⟩ := hR; clear htab; go_enter Tryz.func30, Tryz.ntmps30
 go_wp2_with fail
 refine (zd5 _ _ xs e _ (HG.o.up yb) ⟨_, rfl, HR.o.up yb⟩ hn hn2 hm (zi0 HT.o yb)).mono ?_
 rintro e w1 ⟨hb_1, v1, own1, rfl⟩; have KE_2 : Blk w1 (w.heap.size + 1) #[.int .i64 e.kind, .int .i64 e.i, .int .i64 e.j, .int .i64 e.k, .slice AR e.part.length cR, .string e.map] 37 := by have := (Below.unalloc hb_1).2; simpa [Blk] using this
 replace hb_1 := (Below.unalloc hb_1).1
 have KP_3 : Blk w1 (w.heap.size) #[.slice AG xs.length cG] 26 := by have := (Below.unalloc hb_1).2; simpa [Blk] using this
 replace hb_1 := (Below.unalloc hb_1).1
 have z_w1 : w.heap.size <= w1.heap.size := hb_1.size; have KG_4 := yq (HG.o.up hb_1); have KR_5 := yq (HR.o.up hb_1); have KB_6 := yq hb_1; clear HG HR; obtain ⟨A1, k1, rfl, _⟩ := zae own1; clear own1; have bZ := (Below.refl w1.heap.size w1).alloc yL (Obj.cells #[.slice A1 (zak xs e).length k1] 26)
 have hbad : ∀ c : Int, zah xs e = c -> c ≠ 0 -> zaJ xs e = [] /\ zay xs e = c := fun c h hc => by
  have hn : ¬ zah xs e = 0 := by omega
  exact ⟨by unfold zaJ; rw [if_neg hn], by unfold zay; rw [if_neg hn]; exact h⟩
 rcases zeF xs e with hc | hc | hc | hc
 case inr.inl =>
  have HBD := yq (hbad 1 hc (by decide)); rw [hc]; clear hbad hc; go_wp2_with fail
  refine bodyPost_ret (v := .tuple #[.slice none 0 0, .int .i64 1]) (by simp [results, Tryz.results30, go_sem]) rfl ?_
  rw [HBD.o.1, HBD.o.2]; exact zcv.mk1 (lo := w.heap.size) (Below.tr KB_6.o bZ) (zbl (Below.size (Below.tr KB_6.o bZ))) yL
 case inr.inr.inl =>
  have HBD := yq (hbad 2 hc (by decide)); rw [hc]; clear hbad hc; go_wp2_with fail
  refine bodyPost_ret (v := .tuple #[.slice none 0 0, .int .i64 2]) (by simp [results, Tryz.results30, go_sem]) rfl ?_
  rw [HBD.o.1, HBD.o.2]; exact zcv.mk1 (lo := w.heap.size) (Below.tr KB_6.o bZ) (zbl (Below.size (Below.tr KB_6.o bZ))) yL
 case inr.inr.inr =>
  have HBD := yq (hbad 3 hc (by decide)); rw [hc]; clear hbad hc; go_wp2_with fail
  refine bodyPost_ret (v := .tuple #[.slice none 0 0, .int .i64 3]) (by simp [results, Tryz.results30, go_sem]) rfl ?_
  rw [HBD.o.1, HBD.o.2]; exact zcv.mk1 (lo := w.heap.size) (Below.tr KB_6.o bZ) (zbl (Below.size (Below.tr KB_6.o bZ))) yL
 case inl =>
  have HC0 := yq hc; have HAK := yq (zbw hc)
  have hls : zaW xs = some (zde xs) := by
   obtain ⟨ls, h⟩ := (zai (zbw hc).1).2; simp [zde, h]
  have HIO := yq (show zaJ xs e = (zc1 xs (zde xs) e).getD [] by unfold zaJ; rw [if_pos hc]); have HIC := yq (show zay xs e = (if (zc1 xs (zde xs) e).isSome then 0 else 3) by unfold zay; rw [if_pos hc]); have hgl := zaD hls; have HF := yq (zhe (zbw hc).2.1 (zbw hc).2.2); have HK := yq (zfj (zbw hc).2.1); have hgb := za4 xs; obtain ⟨ls, hlq⟩ : ∃ ls, zde xs = ls := ⟨_, rfl⟩
  rw [hlq] at hls HIO HIC hgl; have HL := yq hls; have HGL := yq hgl; have HGB := yq hgb; rw [hc]; clear hbad hc hls hlq hgl hgb; have cE0_7 := Blk.cell (i := 0) (v := .int .i64 e.kind) KE_2 rfl; have cE1_8 := Blk.cell (i := 1) (v := .int .i64 e.i) KE_2 rfl; have cE2_9 := Blk.cell (i := 2) (v := .int .i64 e.j) KE_2 rfl; have cE3_10 := Blk.cell (i := 3) (v := .int .i64 e.k) KE_2 rfl; have cE4_11 := Blk.cell (i := 4) (v := .slice AR e.part.length cR) KE_2 rfl; have cE5_12 := Blk.cell (i := 5) (v := .string e.map) KE_2 rfl; have lE_13 := Blk.lt KE_2; go_upto_region 4 with fail
  clear hb_1 cE0_7 cE1_8 cE2_9 cE3_10 cE4_11 cE5_12 lE_13; generalize w1.alloc (Obj.cells #[Value.slice A1 (zak xs e).length k1] 26) = w2 at *; have hb_14 := bZ; have z_w2 : w1.heap.size <= w2.heap.size := hb_14.size; have KG_15 := yq (KG_4.o.up hb_14); have KR_16 := yq (KR_5.o.up hb_14); have KE_17 := Blk.up KE_2 hb_14; have KP_18 := Blk.up KP_3 hb_14; have KB_19 := yq (Below.tr KB_6.o hb_14); clear KG_4 KR_5 KE_2 KP_3 KB_6; rcases HK.o.1 with hk | hk | hk | hk | hkk
  · skip
    have cE0_20 := Blk.cell (i := 0) (v := .int .i64 e.kind) KE_17 rfl; have cE1_21 := Blk.cell (i := 1) (v := .int .i64 e.i) KE_17 rfl; have cE2_22 := Blk.cell (i := 2) (v := .int .i64 e.j) KE_17 rfl; have cE3_23 := Blk.cell (i := 3) (v := .int .i64 e.k) KE_17 rfl; have cE4_24 := Blk.cell (i := 4) (v := .slice AR e.part.length cR) KE_17 rfl; have cE5_25 := Blk.cell (i := 5) (v := .string e.map) KE_17 rfl; have lE_26 := Blk.lt KE_17; rw [hk] at cE0_20; have HQ := yq (show zaJ xs e = [zfn e.i (e.i + zaF e.part)] /\ zay xs e = 0 by rw [HIO.o, HIC.o]; unfold zc1; rw [if_pos hk]; exact ⟨rfl, rfl⟩); have hgb2 := za4 e.part; have hi0 : 0 <= e.i /\ e.i <= 1000000000000000 := by have h1 := HF.o.2.1 hk; have := HGB.o; have := HF.o.1; omega
    have ws : IntKind.i64.wrap (e.i + zaF e.part) = e.i + zaF e.part := IntWalk.i64_in _ yO; have q1 : zl9 e.part = zaF e.part := by unfold zl9; rw [HK.o.2.1]; rfl
    clear hk; go_wp2_with fail
    refine (zen _ e.part _ (KR_16.o.up yb) yO).mono ?_
    rintro e w3 ⟨rfl, hb_27⟩; have z_w3 : w2.heap.size <= w3.heap.size := hb_27.size; have KG_28 := yq (KG_15.o.up hb_27); have KR_29 := yq (KR_16.o.up hb_27); have KE_30 := Blk.up KE_17 hb_27; have KP_31 := Blk.up KP_18 hb_27; have KB_32 := yq (Below.tr KB_19.o hb_27); clear hb_14 cE0_20 cE1_21 cE2_22 cE3_23 cE4_24 cE5_25 lE_26 KG_15 KR_16 KE_17 KP_18 KB_19; rw [q1]; clear q1; have cE0_33 := Blk.cell (i := 0) (v := .int .i64 e.kind) KE_30 rfl; have cE1_34 := Blk.cell (i := 1) (v := .int .i64 e.i) KE_30 rfl; have cE2_35 := Blk.cell (i := 2) (v := .int .i64 e.j) KE_30 rfl; have cE3_36 := Blk.cell (i := 3) (v := .int .i64 e.k) KE_30 rfl; have cE4_37 := Blk.cell (i := 4) (v := .slice AR e.part.length cR) KE_30 rfl; have cE5_38 := Blk.cell (i := 5) (v := .string e.map) KE_30 rfl; have lE_39 := Blk.lt KE_30; go_wp2_with fail
    refine bodyPost_ret (v := .tuple #[.slice (some ⟨w3.heap.size, 0, none⟩) 1 1, .int .i64 0]) (by simp [results, Tryz.results30, go_sem]) rfl ?_
    rw [HQ.o.1, HQ.o.2]; exact zcv.mk1 (lo := w.heap.size) (Below.alloc KB_32.o (Below.size KB_32.o) _) (zcS (e := zfn e.i (e.i + zaF e.part)) (u := .slice none 0 0) rfl (Below.size KB_32.o) (.inl ⟨rfl, none, 0, rfl, Nat.zero_le _⟩)) yL
  · skip
    have cE0_40 := Blk.cell (i := 0) (v := .int .i64 e.kind) KE_17 rfl; have cE1_41 := Blk.cell (i := 1) (v := .int .i64 e.i) KE_17 rfl; have cE2_42 := Blk.cell (i := 2) (v := .int .i64 e.j) KE_17 rfl; have cE3_43 := Blk.cell (i := 3) (v := .int .i64 e.k) KE_17 rfl; have cE4_44 := Blk.cell (i := 4) (v := .slice AR e.part.length cR) KE_17 rfl; have cE5_45 := Blk.cell (i := 5) (v := .string e.map) KE_17 rfl; have lE_46 := Blk.lt KE_17; rw [hk] at cE0_40; have HKE := yq hk; have hij : 0 <= e.i /\ e.i <= e.j /\ e.j <= 1000000000000000 := by have h0 := HF.o.1; have h1 := HF.o.2.2.1 yO; have := HGB.o; omega
    have ws : IntKind.i64.wrap (e.j - e.i) = e.j - e.i := IntWalk.i64_in _ yO; by_cases hz : e.j - e.i = 0
    · have HQ := yq (show zaJ xs e = [] /\ zay xs e = 0 by rw [HIO.o, HIC.o]; unfold zc1; rw [if_neg yO, if_pos hz]; exact ⟨rfl, rfl⟩)
      clear hk; go_wp2_with fail
      refine bodyPost_ret (v := .tuple #[.slice none 0 0, .int .i64 0]) (by simp [results, Tryz.results30, go_sem]) rfl ?_
      rw [HQ.o.1, HQ.o.2]; exact zcv.mk1 (lo := w.heap.size) KB_19.o (zbl (Below.size KB_19.o)) yL
    · skip
      have hs2 := Below.size KB_19.o; have hrange : 0 <= e.i /\ e.i <= e.j /\ e.j <= zao ls := by have h0 := HF.o.1; have h1 := HF.o.2.2.1 yO; have := HGL.o; omega
      have HY := yq (zbN HAK.o.1 HL.o hrange); have HGP := yq (zcg HL.o hrange.1 hrange.2.1 hrange.2.2); clear hk; have cP0_47 := Blk.cell (i := 0) (v := .slice AG xs.length cG) KP_18 rfl; have lP_48 := Blk.lt KP_18; go_wp2_with fail
      refine (zer _ xs e.i e.j _ (KG_15.o.up yb) hn).mono ?_
      rintro e w3 ⟨hb_49, v9, own9, rfl⟩; have z_w3 : w2.heap.size <= w3.heap.size := hb_49.size; have KG_50 := yq (KG_15.o.up hb_49); have KR_51 := yq (KR_16.o.up hb_49); have KE_52 := Blk.up KE_17 hb_49; have KP_53 := Blk.up KP_18 hb_49; have KB_54 := yq (Below.tr KB_19.o hb_49); clear hb_14 cE0_40 cE1_41 cE2_42 cE3_43 cE4_44 cE5_45 lE_46 cP0_47 lP_48 KG_15 KR_16 KE_17 KP_18 KB_19; rw [HY.o.1] at own9; rw [HY.o.2]; obtain ⟨A9, c9, rfl, _⟩ := zae own9; have bZ := (Below.refl w3.heap.size w3).alloc yL (Obj.cells #[.slice A9 (zav (zap xs ls e.i e.j)).length c9] 26); have KZ := Blk.new w3 #[.slice A9 (zav (zap xs ls e.i e.j)).length c9] 26; have KO4 := zac.below own9 bZ; go_upto_region 20 with fail
      generalize w3.alloc (Obj.cells #[Value.slice A9 (zav (zap xs ls e.i e.j)).length c9] 26) = w4 at *; clear own9; have hb_55 := bZ; have z_w4 : w3.heap.size <= w4.heap.size := hb_55.size; have KG_56 := yq (KG_50.o.up hb_55); have KR_57 := yq (KR_51.o.up hb_55); have KE_58 := Blk.up KE_52 hb_55; have KP_59 := Blk.up KP_53 hb_55; have KB_60 := yq (Below.tr KB_54.o hb_55); clear hb_49 KG_50 KR_51 KE_52 KP_53 KB_54; have HO4 := yq KO4; have HZ4 := yq KZ; clear KO4 KZ; have hs34 : w2.heap.size <= w4.heap.size := by omega
      have lE4 := Blk.lt KE_58; cases hq : zag (zap xs ls e.i e.j) with
      | false =>
        have q2 : zas (zap xs ls e.i e.j) = 3 := by unfold zas; rw [hq]; rfl
        have HQ := yq (show zaJ xs e = [] /\ zay xs e = 3 by rw [HIO.o, HIC.o]; unfold zc1; have := HKE.o; rw [if_neg yO, if_neg hz, if_neg yO, if_neg yO, if_neg yO, hq]; exact ⟨rfl, rfl⟩); rw [q2]; clear hq q2; go_wp2_with fail
        refine bodyPost_ret (v := .tuple #[.slice none 0 0, .int .i64 3]) (by simp [results, Tryz.results30, go_sem]) rfl ?_
        rw [HQ.o.1, HQ.o.2]; exact zcv.mk1 (lo := w.heap.size) KB_60.o (zbl (Below.size KB_60.o)) yL
      | true =>
        have q1 : zav (zap xs ls e.i e.j) = zap xs ls e.i e.j := by unfold zav; rw [hq]; rfl
        have q2 : zas (zap xs ls e.i e.j) = 0 := by unfold zas; rw [hq]; rfl
        have HQ := yq (show zaJ xs e = zfo e ++ [zhf e.i (zap xs ls e.i e.j)] /\ zay xs e = 0 by rw [HIO.o, HIC.o]; unfold zc1; have := HKE.o; rw [if_neg yO, if_neg hz, if_neg yO, if_neg yO, if_neg yO, hq]; exact ⟨rfl, rfl⟩); rw [q1] at HZ4 HO4; rw [q2]; clear q1 q2 hq HY; generalize zap xs ls e.i e.j = p at *; have KZ5 := HZ4.o; have lZ := KZ5.lt; have bA := (Below.refl w4.heap.size w4).alloc yL (Obj.cells #[] 37); have HKO := yq (zch (W := w4) (lo := w2.heap.size) rfl hs34); have HO5 := yq (zac.below HO4.o bA); have hs5 : w4.heap.size < (w4.alloc (Obj.cells #[] 37)).heap.size := by simp
        go_upto_region 23 with fail
        generalize w4.alloc (Obj.cells #[] 37) = w5 at *; have hb_61 := bA; have z_w5 : w4.heap.size <= w5.heap.size := hb_61.size; have KG_62 := yq (KG_56.o.up hb_61); have KR_63 := yq (KR_57.o.up hb_61); have KE_64 := Blk.up KE_58 hb_61; have KP_65 := Blk.up KP_59 hb_61; have KB_66 := yq (Below.tr KB_60.o hb_61); have KZ_67 := Blk.up KZ5 hb_61; clear hb_55 KG_56 KR_57 KE_58 KP_59 KB_60 KZ5; have HD := yq (show zfo e = [] by unfold zfo; rw [if_pos HKE.o]); have cE0_68 := Blk.cell (i := 0) (v := .int .i64 e.kind) KE_64 rfl; have cE1_69 := Blk.cell (i := 1) (v := .int .i64 e.i) KE_64 rfl; have cE2_70 := Blk.cell (i := 2) (v := .int .i64 e.j) KE_64 rfl; have cE3_71 := Blk.cell (i := 3) (v := .int .i64 e.k) KE_64 rfl; have cE4_72 := Blk.cell (i := 4) (v := .slice AR e.part.length cR) KE_64 rfl; have cE5_73 := Blk.cell (i := 5) (v := .string e.map) KE_64 rfl; have lE_74 := Blk.lt KE_64; have cZ0_75 := Blk.cell (i := 0) (v := .slice A9 p.length c9) KZ_67 rfl; have lZ_76 := Blk.lt KZ_67; rw [HKE.o] at cE0_68
        go_wp2_with (first
         | (at_builtin; refine zdQ (W := w5) (N := w5.heap.size) (e := zhf e.i p) (u := .slice A9 p.length c9) (lo := w2.heap.size) (hp := w2.heap.size) (pa := w2.heap.size) (pb := w4.heap.size) (v := .slice (some ⟨w4.heap.size, 0, none⟩) 0 0) (es := []) rfl _ _ rfl rfl rfl rfl HKO.o yS yO (by simp [Value.oneCell']) ⟨.inr ⟨HO5.o, fun g hg => (World.ownsRow.lt HO4.o g hg).2, yO⟩, fun g hg => by simp [Value.ownBlock] at hg; omega⟩ yL hs34 yO yL ?_; intro g9 c9' w9 own9 hg9 hgr9 hb9))
        refine bodyPost_ret (v := .tuple #[.slice (some ⟨g9, 0, none⟩) 1 c9', .int .i64 0]) (by simp [results, Tryz.results30, go_sem]) rfl ?_
        rw [HQ.o.1, HQ.o.2, HD.o]; exact zcv.mk1 (lo := w2.heap.size) (Below.trans KB_66.o (hb9.mono hs2)) (zgD.oeds own9 (by have h : w5.heap.size <= w9.heap.size := hb9.size; omega)) hs2
  · skip
    have cE0_77 := Blk.cell (i := 0) (v := .int .i64 e.kind) KE_17 rfl; have cE1_78 := Blk.cell (i := 1) (v := .int .i64 e.i) KE_17 rfl; have cE2_79 := Blk.cell (i := 2) (v := .int .i64 e.j) KE_17 rfl; have cE3_80 := Blk.cell (i := 3) (v := .int .i64 e.k) KE_17 rfl; have cE4_81 := Blk.cell (i := 4) (v := .slice AR e.part.length cR) KE_17 rfl; have cE5_82 := Blk.cell (i := 5) (v := .string e.map) KE_17 rfl; have lE_83 := Blk.lt KE_17; rw [hk] at cE0_77; have HKE := yq hk; have hij : 0 <= e.i /\ e.i <= e.j /\ e.j <= 1000000000000000 := by have h0 := HF.o.1; have h1 := HF.o.2.2.1 yO; have := HGB.o; omega
    have ws : IntKind.i64.wrap (e.j - e.i) = e.j - e.i := IntWalk.i64_in _ yO; by_cases hz : e.j - e.i = 0
    · have HQ := yq (show zaJ xs e = [] /\ zay xs e = 0 by rw [HIO.o, HIC.o]; unfold zc1; rw [if_neg yO, if_pos hz]; exact ⟨rfl, rfl⟩)
      clear hk; go_wp2_with fail
      refine bodyPost_ret (v := .tuple #[.slice none 0 0, .int .i64 0]) (by simp [results, Tryz.results30, go_sem]) rfl ?_
      rw [HQ.o.1, HQ.o.2]; exact zcv.mk1 (lo := w.heap.size) KB_19.o (zbl (Below.size KB_19.o)) yL
    · have HQ := yq (show zaJ xs e = [zfn e.k (e.k + (e.j - e.i))] /\ zay xs e = 0 by rw [HIO.o, HIC.o]; unfold zc1; rw [if_neg yO, if_neg hz, if_pos hk]; exact ⟨rfl, rfl⟩)
      have hkb : 0 <= e.k /\ e.k <= 1000000000000000 := by have h1 := HF.o.2.2.2.1 hk; have := HGB.o; omega
      have wk : IntKind.i64.wrap (e.k + (e.j - e.i)) = e.k + (e.j - e.i) := IntWalk.i64_in _ yO; clear hk; go_wp2_with fail
      refine bodyPost_ret (v := .tuple #[.slice (some ⟨w2.heap.size, 0, none⟩) 1 1, .int .i64 0]) (by simp [results, Tryz.results30, go_sem]) rfl ?_
      rw [HQ.o.1, HQ.o.2]; exact zcv.mk1 (lo := w.heap.size) (Below.alloc KB_19.o (Below.size KB_19.o) _) (zcS (e := zfn e.k (e.k + (e.j - e.i))) (u := .slice none 0 0) rfl (Below.size KB_19.o) (.inl ⟨rfl, none, 0, rfl, Nat.zero_le _⟩)) yL
  · skip
    have cE0_84 := Blk.cell (i := 0) (v := .int .i64 e.kind) KE_17 rfl; have cE1_85 := Blk.cell (i := 1) (v := .int .i64 e.i) KE_17 rfl; have cE2_86 := Blk.cell (i := 2) (v := .int .i64 e.j) KE_17 rfl; have cE3_87 := Blk.cell (i := 3) (v := .int .i64 e.k) KE_17 rfl; have cE4_88 := Blk.cell (i := 4) (v := .slice AR e.part.length cR) KE_17 rfl; have cE5_89 := Blk.cell (i := 5) (v := .string e.map) KE_17 rfl; have lE_90 := Blk.lt KE_17; rw [hk] at cE0_84; have HKE := yq hk; have hij : 0 <= e.i /\ e.i <= e.j /\ e.j <= 1000000000000000 := by have h0 := HF.o.1; have h1 := HF.o.2.2.1 yO; have := HGB.o; omega
    have ws : IntKind.i64.wrap (e.j - e.i) = e.j - e.i := IntWalk.i64_in _ yO; by_cases hz : e.j - e.i = 0
    · have HQ := yq (show zaJ xs e = [] /\ zay xs e = 0 by rw [HIO.o, HIC.o]; unfold zc1; rw [if_neg yO, if_pos hz]; exact ⟨rfl, rfl⟩)
      clear hk; go_wp2_with fail
      refine bodyPost_ret (v := .tuple #[.slice none 0 0, .int .i64 0]) (by simp [results, Tryz.results30, go_sem]) rfl ?_
      rw [HQ.o.1, HQ.o.2]; exact zcv.mk1 (lo := w.heap.size) KB_19.o (zbl (Below.size KB_19.o)) yL
    · have hkb : 0 <= e.k /\ e.k <= 1000000000000000 := by have h1 := HF.o.2.2.2.2 hk; have := HGB.o; omega
      have wk : IntKind.i64.wrap (e.k + (e.j - e.i)) = e.k + (e.j - e.i) := IntWalk.i64_in _ yO; have wl : IntKind.i64.wrap (e.k - (e.j - e.i)) = e.k - (e.j - e.i) := IntWalk.i64_in _ yO; by_cases hki : e.k <= e.i
      · have HQ := yq (show zaJ xs e = [zjQ e.k (e.k + (e.j - e.i)) e.j] /\ zay xs e = 0 by rw [HIO.o, HIC.o]; unfold zc1; rw [if_neg yO, if_neg hz, if_neg yO, if_pos hk, if_pos hki]; exact ⟨rfl, rfl⟩)
        clear hk; go_wp2_with fail
        refine bodyPost_ret (v := .tuple #[.slice (some ⟨w2.heap.size, 0, none⟩) 1 1, .int .i64 0]) (by simp [results, Tryz.results30, go_sem]) rfl ?_
        rw [HQ.o.1, HQ.o.2]; exact zcv.mk1 (lo := w.heap.size) (Below.alloc KB_19.o (Below.size KB_19.o) _) (zcS (e := zjQ e.k (e.k + (e.j - e.i)) e.j) (u := .slice none 0 0) rfl (Below.size KB_19.o) (.inl ⟨rfl, none, 0, rfl, Nat.zero_le _⟩)) yL
      · have HQ := yq (show zaJ xs e = [zjQ (e.k - (e.j - e.i)) e.k e.i] /\ zay xs e = 0 by rw [HIO.o, HIC.o]; unfold zc1; rw [if_neg yO, if_neg hz, if_neg yO, if_pos hk, if_neg hki]; exact ⟨rfl, rfl⟩)
        clear hk; go_wp2_with fail
        refine bodyPost_ret (v := .tuple #[.slice (some ⟨w2.heap.size, 0, none⟩) 1 1, .int .i64 0]) (by simp [results, Tryz.results30, go_sem]) rfl ?_
        rw [HQ.o.1, HQ.o.2]; exact zcv.mk1 (lo := w.heap.size) (Below.alloc KB_19.o (Below.size KB_19.o) _) (zcS (e := zjQ (e.k - (e.j - e.i)) e.k e.i) (u := .slice none 0 0) rfl (Below.size KB_19.o) (.inl ⟨rfl, none, 0, rfl, Nat.zero_le _⟩)) yL
  · have HCK := yq hkk
    have hk567 : e.kind = 5 \/ e.kind = 6 \/ e.kind = 7 := by unfold zjF at hkk; omega
    clear hkk; rcases hk567 with hk | hk | hk
    · skip
      have cE0_91 := Blk.cell (i := 0) (v := .int .i64 e.kind) KE_17 rfl; have cE1_92 := Blk.cell (i := 1) (v := .int .i64 e.i) KE_17 rfl; have cE2_93 := Blk.cell (i := 2) (v := .int .i64 e.j) KE_17 rfl; have cE3_94 := Blk.cell (i := 3) (v := .int .i64 e.k) KE_17 rfl; have cE4_95 := Blk.cell (i := 4) (v := .slice AR e.part.length cR) KE_17 rfl; have cE5_96 := Blk.cell (i := 5) (v := .string e.map) KE_17 rfl; have lE_97 := Blk.lt KE_17; rw [hk] at cE0_91; have HKE := yq hk; have hij : 0 <= e.i /\ e.i <= e.j /\ e.j <= 1000000000000000 := by have h0 := HF.o.1; have h1 := HF.o.2.2.1 yO; have := HGB.o; omega
      have ws : IntKind.i64.wrap (e.j - e.i) = e.j - e.i := IntWalk.i64_in _ yO; by_cases hz : e.j - e.i = 0
      · have HQ := yq (show zaJ xs e = [] /\ zay xs e = 0 by rw [HIO.o, HIC.o]; unfold zc1; rw [if_neg yO, if_pos hz]; exact ⟨rfl, rfl⟩)
        clear hk; go_wp2_with fail
        refine bodyPost_ret (v := .tuple #[.slice none 0 0, .int .i64 0]) (by simp [results, Tryz.results30, go_sem]) rfl ?_
        rw [HQ.o.1, HQ.o.2]; exact zcv.mk1 (lo := w.heap.size) KB_19.o (zbl (Below.size KB_19.o)) yL
      · obtain ⟨hts, htp⟩ := znD HAK.o.2.1 hk
        have HQ := yq (show zaJ xs e = [e] /\ zay xs e = 0 by rw [HIO.o, HIC.o]; unfold zc1; rw [if_neg yO, if_neg hz, if_neg yO, if_neg yO, if_pos hk]; exact ⟨by rw [<- hts]; rfl, rfl⟩); have HTP := yq htp; have hlp : e.part.length = 0 := by rw [htp]; rfl
        have HKE5 := yq hk; clear hk hts htp; go_wp2_with fail
        refine bodyPost_ret (v := .tuple #[.slice (some ⟨w2.heap.size, 0, none⟩) 1 1, .int .i64 0]) (by simp [results, Tryz.results30, go_sem]) rfl ?_
        rw [HQ.o.1, HQ.o.2]; have h1 := zcS (W := w2) (lo := w.heap.size) (e := e) (u := .slice AR e.part.length cR) rfl (Below.size KB_19.o) (.inl ⟨HTP.o, AR, cR, by rw [hlp], hAc.2.1⟩); rw [HKE5.o] at h1; rw [hlp] at h1; exact zcv.mk1 (lo := w.heap.size) (Below.alloc KB_19.o (Below.size KB_19.o) _) h1 yL
    · skip
      have cE0_98 := Blk.cell (i := 0) (v := .int .i64 e.kind) KE_17 rfl; have cE1_99 := Blk.cell (i := 1) (v := .int .i64 e.i) KE_17 rfl; have cE2_100 := Blk.cell (i := 2) (v := .int .i64 e.j) KE_17 rfl; have cE3_101 := Blk.cell (i := 3) (v := .int .i64 e.k) KE_17 rfl; have cE4_102 := Blk.cell (i := 4) (v := .slice AR e.part.length cR) KE_17 rfl; have cE5_103 := Blk.cell (i := 5) (v := .string e.map) KE_17 rfl; have lE_104 := Blk.lt KE_17; rw [hk] at cE0_98; have HKE := yq hk; have hij : 0 <= e.i /\ e.i <= e.j /\ e.j <= 1000000000000000 := by have h0 := HF.o.1; have h1 := HF.o.2.2.1 yO; have := HGB.o; omega
      have ws : IntKind.i64.wrap (e.j - e.i) = e.j - e.i := IntWalk.i64_in _ yO; by_cases hz : e.j - e.i = 0
      · have HQ := yq (show zaJ xs e = [] /\ zay xs e = 0 by rw [HIO.o, HIC.o]; unfold zc1; rw [if_neg yO, if_pos hz]; exact ⟨rfl, rfl⟩)
        clear hk; go_wp2_with fail
        refine bodyPost_ret (v := .tuple #[.slice none 0 0, .int .i64 0]) (by simp [results, Tryz.results30, go_sem]) rfl ?_
        rw [HQ.o.1, HQ.o.2]; exact zcv.mk1 (lo := w.heap.size) KB_19.o (zbl (Below.size KB_19.o)) yL
      · skip
        have hs2 := Below.size KB_19.o; have hrange : 0 <= e.i /\ e.i <= e.j /\ e.j <= zao ls := by have h0 := HF.o.1; have h1 := HF.o.2.2.1 yO; have := HGL.o; omega
        have HY := yq (zbN HAK.o.1 HL.o hrange); have HGP := yq (zcg HL.o hrange.1 hrange.2.1 hrange.2.2); have HRB := yq (zjI HC0.o HKE.o HL.o HGP.o); clear hk; have cP0_105 := Blk.cell (i := 0) (v := .slice AG xs.length cG) KP_18 rfl; have lP_106 := Blk.lt KP_18; go_wp2_with fail
        refine (zer _ xs e.i e.j _ (KG_15.o.up yb) hn).mono ?_
        rintro e w3 ⟨hb_107, v9, own9, rfl⟩; have z_w3 : w2.heap.size <= w3.heap.size := hb_107.size; have KG_108 := yq (KG_15.o.up hb_107); have KR_109 := yq (KR_16.o.up hb_107); have KE_110 := Blk.up KE_17 hb_107; have KP_111 := Blk.up KP_18 hb_107; have KB_112 := yq (Below.tr KB_19.o hb_107); clear hb_14 cE0_98 cE1_99 cE2_100 cE3_101 cE4_102 cE5_103 lE_104 cP0_105 lP_106 KG_15 KR_16 KE_17 KP_18 KB_19; rw [HY.o.1] at own9; rw [HY.o.2]; obtain ⟨A9, c9, rfl, _⟩ := zae own9; have bZ := (Below.refl w3.heap.size w3).alloc yL (Obj.cells #[.slice A9 (zav (zap xs ls e.i e.j)).length c9] 26); have KZ := Blk.new w3 #[.slice A9 (zav (zap xs ls e.i e.j)).length c9] 26; have KO4 := zac.below own9 bZ; go_upto_region 20 with fail
        generalize w3.alloc (Obj.cells #[Value.slice A9 (zav (zap xs ls e.i e.j)).length c9] 26) = w4 at *; clear own9; have hb_113 := bZ; have z_w4 : w3.heap.size <= w4.heap.size := hb_113.size; have KG_114 := yq (KG_108.o.up hb_113); have KR_115 := yq (KR_109.o.up hb_113); have KE_116 := Blk.up KE_110 hb_113; have KP_117 := Blk.up KP_111 hb_113; have KB_118 := yq (Below.tr KB_112.o hb_113); clear hb_107 KG_108 KR_109 KE_110 KP_111 KB_112; have HO4 := yq KO4; have HZ4 := yq KZ; clear KO4 KZ; have hs34 : w2.heap.size <= w4.heap.size := by omega
        have lE4 := Blk.lt KE_116; cases hq : zag (zap xs ls e.i e.j) with
        | false =>
          have q2 : zas (zap xs ls e.i e.j) = 3 := by unfold zas; rw [hq]; rfl
          have HQ := yq (show zaJ xs e = [] /\ zay xs e = 3 by rw [HIO.o, HIC.o]; unfold zc1; have := HKE.o; rw [if_neg yO, if_neg hz, if_neg yO, if_neg yO, if_neg yO, hq]; exact ⟨rfl, rfl⟩); rw [q2]; clear hq q2; go_wp2_with fail
          refine bodyPost_ret (v := .tuple #[.slice none 0 0, .int .i64 3]) (by simp [results, Tryz.results30, go_sem]) rfl ?_
          rw [HQ.o.1, HQ.o.2]; exact zcv.mk1 (lo := w.heap.size) KB_118.o (zbl (Below.size KB_118.o)) yL
        | true =>
          have q1 : zav (zap xs ls e.i e.j) = zap xs ls e.i e.j := by unfold zav; rw [hq]; rfl
          have q2 : zas (zap xs ls e.i e.j) = 0 := by unfold zas; rw [hq]; rfl
          have HQ := yq (show zaJ xs e = zfo e ++ [zhf e.i (zap xs ls e.i e.j)] /\ zay xs e = 0 by rw [HIO.o, HIC.o]; unfold zc1; have := HKE.o; rw [if_neg yO, if_neg hz, if_neg yO, if_neg yO, if_neg yO, hq]; exact ⟨rfl, rfl⟩); rw [q1] at HZ4 HO4; rw [q2]; clear q1 q2 hq HY; generalize zap xs ls e.i e.j = p at *; have KZ5 := HZ4.o; have lZ := KZ5.lt; have bA := (Below.refl w4.heap.size w4).alloc yL (Obj.cells #[] 37); have HKO := yq (zch (W := w4) (lo := w2.heap.size) rfl hs34); have HO5 := yq (zac.below HO4.o bA); have hs5 : w4.heap.size < (w4.alloc (Obj.cells #[] 37)).heap.size := by simp
          go_upto_region 23 with fail
          generalize w4.alloc (Obj.cells #[] 37) = w5 at *; have hb_119 := bA; have z_w5 : w4.heap.size <= w5.heap.size := hb_119.size; have KG_120 := yq (KG_114.o.up hb_119); have KR_121 := yq (KR_115.o.up hb_119); have KE_122 := Blk.up KE_116 hb_119; have KP_123 := Blk.up KP_117 hb_119; have KB_124 := yq (Below.tr KB_118.o hb_119); have KZ_125 := Blk.up KZ5 hb_119; clear hb_113 KG_114 KR_115 KE_116 KP_117 KB_118 KZ5; have hk0 : 0 <= e.k := by rcases HK.o.1 with h | h | h | h | h | ⟨_, h, _⟩ | ⟨h, _⟩ <;> (have := HKE.o; omega)
          have hrb := HRB.o; rw [Int.mul_comm] at hrb; have wm : IntKind.i64.wrap (e.k * (e.j - e.i)) = e.k * (e.j - e.i) := IntWalk.i64_in _ (by have := Int.mul_nonneg hk0 (show 0 <= e.j - e.i by omega); omega); have hm0 : 0 <= e.k * (e.j - e.i) := Int.mul_nonneg hk0 yO; by_cases h0 : 0 < e.k
          · have hmp : 0 < e.k * (e.j - e.i) := Int.mul_pos h0 yO
            obtain ⟨M, hM⟩ : ∃ M, e.k * (e.j - e.i) = M := ⟨_, rfl⟩
            rw [hM] at wm hrb hm0 hmp; have HM := yq hM; have HD := yq (show zfo e = [zfn e.i (e.i + M)] by unfold zfo; rw [if_neg (by have := HKE.o; omega), if_pos HKE.o, Int.mul_comm, hM, if_pos hmp]); have wa : IntKind.i64.wrap (e.i + M) = e.i + M := IntWalk.i64_in _ yO; have cE0_126 := Blk.cell (i := 0) (v := .int .i64 e.kind) KE_122 rfl; have cE1_127 := Blk.cell (i := 1) (v := .int .i64 e.i) KE_122 rfl; have cE2_128 := Blk.cell (i := 2) (v := .int .i64 e.j) KE_122 rfl; have cE3_129 := Blk.cell (i := 3) (v := .int .i64 e.k) KE_122 rfl; have cE4_130 := Blk.cell (i := 4) (v := .slice AR e.part.length cR) KE_122 rfl; have cE5_131 := Blk.cell (i := 5) (v := .string e.map) KE_122 rfl; have lE_132 := Blk.lt KE_122; have cZ0_133 := Blk.cell (i := 0) (v := .slice A9 p.length c9) KZ_125 rfl; have lZ_134 := Blk.lt KZ_125; rw [HKE.o] at cE0_126; have hlE := Blk.lt KE_122
            go_upto_region 27 with (first
             | (at_builtin; refine zdQ (W := w5) (N := w5.heap.size) (e := zfn e.i (e.i + M)) (u := .slice none 0 0) (lo := w2.heap.size) (hp := w2.heap.size) (pa := w2.heap.size) (pb := w2.heap.size) (v := .slice (some ⟨w4.heap.size, 0, none⟩) 0 0) (es := []) rfl _ _ rfl rfl rfl rfl HKO.o yS yO (by simp [Value.oneCell']) ⟨.inl ⟨rfl, none, 0, rfl, Nat.zero_le _⟩, fun g hg => by simp [Value.ownBlock] at hg; omega⟩ yL yL yO yL ?_; intro g6 c6 w6 own6 hg6 hgr6 hb6))
            have zcC : ∀ x, x < w4.heap.size -> w6.heap[x]? = w5.heap[x]? := fun x hx => hgr6.block x yO (fun e => by simp [Value.ownBlock] at e; omega)
            have hg66 : w4.heap.size <= g6 := by
             rcases hg6 with h | h
             · simp [Value.ownBlock] at h; omega
             · omega
            have KE6 : Blk w6 (w.heap.size + 1) #[.int .i64 e.kind, .int .i64 e.i, .int .i64 e.j, .int .i64 e.k, .slice AR e.part.length cR, .string e.map] 37 := (zcC _ lE4).trans KE_122; have KZ6 : Blk w6 w3.heap.size #[.slice A9 p.length c9] 26 := (zcC _ lZ).trans KZ_125; have HO6 := yq (za7 HO5.o (fun g hg => zcC g (World.ownsRow.lt HO4.o g hg).2)); have HO66 := yq own6; have HB6 := yq (Below.trans KB_124.o (hb6.mono hs2)); have hs56 : w5.heap.size <= w6.heap.size := hgr6.size; clear hb_119 cE0_126 cE1_127 cE2_128 cE3_129 cE4_130 cE5_131 lE_132 cZ0_133 lZ_134; clear own6 hg6 hgr6 hb6 zcC hlE; have cE0_135 := Blk.cell (i := 0) (v := .int .i64 e.kind) KE6 rfl; have cE1_136 := Blk.cell (i := 1) (v := .int .i64 e.i) KE6 rfl; have cE2_137 := Blk.cell (i := 2) (v := .int .i64 e.j) KE6 rfl; have cE3_138 := Blk.cell (i := 3) (v := .int .i64 e.k) KE6 rfl; have cE4_139 := Blk.cell (i := 4) (v := .slice AR e.part.length cR) KE6 rfl; have cE5_140 := Blk.cell (i := 5) (v := .string e.map) KE6 rfl; have lE_141 := Blk.lt KE6; have cZ0_142 := Blk.cell (i := 0) (v := .slice A9 p.length c9) KZ6 rfl; have lZ_143 := Blk.lt KZ6; rw [HKE.o] at cE0_135
            go_wp2_with (first
             | (at_builtin; refine zdQ (W := w6) (N := w6.heap.size) (e := zhf e.i p) (u := .slice A9 p.length c9) (lo := w2.heap.size) (hp := w2.heap.size) (pa := w2.heap.size) (pb := w4.heap.size) (v := .slice (some ⟨g6, 0, none⟩) 1 c6) (es := [zfn e.i (e.i + M)]) rfl _ _ rfl rfl rfl rfl HO66.o yS yO (by simp [Value.oneCell']) ⟨.inr ⟨HO6.o, fun g hg => (World.ownsRow.lt HO4.o g hg).2, yO⟩, fun g hg => by simp [Value.ownBlock] at hg; omega⟩ yL hs34 yO yL ?_; intro g9 c9' w9 own9 hg9 hgr9 hb9))
            refine bodyPost_ret (v := .tuple #[.slice (some ⟨g9, 0, none⟩) 2 c9', .int .i64 0]) (by simp [results, Tryz.results30, go_sem]) rfl ?_
            rw [HQ.o.1, HQ.o.2, HD.o]; exact zcv.mk1 (lo := w2.heap.size) (Below.trans HB6.o (hb9.mono hs2)) (zgD.oeds own9 (by have h : w6.heap.size <= w9.heap.size := hb9.size; omega)) hs2
          · have hk00 : e.k = 0 := by omega
            have HD := yq (show zfo e = [] by unfold zfo; rw [if_neg (by have := HKE.o; omega), if_pos HKE.o, hk00, Int.mul_zero]; rfl); clear hk00; have hkd : decide (0 < e.k) = false := by simp; omega
            have cE0_144 := Blk.cell (i := 0) (v := .int .i64 e.kind) KE_122 rfl; have cE1_145 := Blk.cell (i := 1) (v := .int .i64 e.i) KE_122 rfl; have cE2_146 := Blk.cell (i := 2) (v := .int .i64 e.j) KE_122 rfl; have cE3_147 := Blk.cell (i := 3) (v := .int .i64 e.k) KE_122 rfl; have cE4_148 := Blk.cell (i := 4) (v := .slice AR e.part.length cR) KE_122 rfl; have cE5_149 := Blk.cell (i := 5) (v := .string e.map) KE_122 rfl; have lE_150 := Blk.lt KE_122; have cZ0_151 := Blk.cell (i := 0) (v := .slice A9 p.length c9) KZ_125 rfl; have lZ_152 := Blk.lt KZ_125; rw [HKE.o] at cE0_144
            go_wp2_with (first
             | (at_builtin; refine zdQ (W := w5) (N := w5.heap.size) (e := zhf e.i p) (u := .slice A9 p.length c9) (lo := w2.heap.size) (hp := w2.heap.size) (pa := w2.heap.size) (pb := w4.heap.size) (v := .slice (some ⟨w4.heap.size, 0, none⟩) 0 0) (es := []) rfl _ _ rfl rfl rfl rfl HKO.o yS yO (by simp [Value.oneCell']) ⟨.inr ⟨HO5.o, fun g hg => (World.ownsRow.lt HO4.o g hg).2, yO⟩, fun g hg => by simp [Value.ownBlock] at hg; omega⟩ yL hs34 yO yL ?_; intro g9 c9' w9 own9 hg9 hgr9 hb9))
            refine bodyPost_ret (v := .tuple #[.slice (some ⟨g9, 0, none⟩) 1 c9', .int .i64 0]) (by simp [results, Tryz.results30, go_sem]) rfl ?_
            rw [HQ.o.1, HQ.o.2, HD.o]; exact zcv.mk1 (lo := w2.heap.size) (Below.trans KB_124.o (hb9.mono hs2)) (zgD.oeds own9 (by have h : w5.heap.size <= w9.heap.size := hb9.size; omega)) hs2
    · skip
      have cE0_153 := Blk.cell (i := 0) (v := .int .i64 e.kind) KE_17 rfl; have cE1_154 := Blk.cell (i := 1) (v := .int .i64 e.i) KE_17 rfl; have cE2_155 := Blk.cell (i := 2) (v := .int .i64 e.j) KE_17 rfl; have cE3_156 := Blk.cell (i := 3) (v := .int .i64 e.k) KE_17 rfl; have cE4_157 := Blk.cell (i := 4) (v := .slice AR e.part.length cR) KE_17 rfl; have cE5_158 := Blk.cell (i := 5) (v := .string e.map) KE_17 rfl; have lE_159 := Blk.lt KE_17; rw [hk] at cE0_153; have HKE := yq hk; have hij : 0 <= e.i /\ e.i <= e.j /\ e.j <= 1000000000000000 := by have h0 := HF.o.1; have h1 := HF.o.2.2.1 yO; have := HGB.o; omega
      have ws : IntKind.i64.wrap (e.j - e.i) = e.j - e.i := IntWalk.i64_in _ yO; by_cases hz : e.j - e.i = 0
      · have HQ := yq (show zaJ xs e = [] /\ zay xs e = 0 by rw [HIO.o, HIC.o]; unfold zc1; rw [if_neg yO, if_pos hz]; exact ⟨rfl, rfl⟩)
        clear hk; go_wp2_with fail
        refine bodyPost_ret (v := .tuple #[.slice none 0 0, .int .i64 0]) (by simp [results, Tryz.results30, go_sem]) rfl ?_
        rw [HQ.o.1, HQ.o.2]; exact zcv.mk1 (lo := w.heap.size) KB_19.o (zbl (Below.size KB_19.o)) yL
      · skip
        have hs2 := Below.size KB_19.o; have hrange : 0 <= e.i /\ e.i <= e.j /\ e.j <= zao ls := by have h0 := HF.o.1; have h1 := HF.o.2.2.1 yO; have := HGL.o; omega
        have HY := yq (zbN HAK.o.1 HL.o hrange); have HGP := yq (zcg HL.o hrange.1 hrange.2.1 hrange.2.2); clear hk; have cP0_160 := Blk.cell (i := 0) (v := .slice AG xs.length cG) KP_18 rfl; have lP_161 := Blk.lt KP_18; go_wp2_with fail
        refine (zer _ xs e.i e.j _ (KG_15.o.up yb) hn).mono ?_
        rintro e w3 ⟨hb_162, v9, own9, rfl⟩; have z_w3 : w2.heap.size <= w3.heap.size := hb_162.size; have KG_163 := yq (KG_15.o.up hb_162); have KR_164 := yq (KR_16.o.up hb_162); have KE_165 := Blk.up KE_17 hb_162; have KP_166 := Blk.up KP_18 hb_162; have KB_167 := yq (Below.tr KB_19.o hb_162); clear hb_14 cE0_153 cE1_154 cE2_155 cE3_156 cE4_157 cE5_158 lE_159 cP0_160 lP_161 KG_15 KR_16 KE_17 KP_18 KB_19; rw [HY.o.1] at own9; rw [HY.o.2]; obtain ⟨A9, c9, rfl, _⟩ := zae own9; have bZ := (Below.refl w3.heap.size w3).alloc yL (Obj.cells #[.slice A9 (zav (zap xs ls e.i e.j)).length c9] 26); have KZ := Blk.new w3 #[.slice A9 (zav (zap xs ls e.i e.j)).length c9] 26; have KO4 := zac.below own9 bZ; go_upto_region 20 with fail
        generalize w3.alloc (Obj.cells #[Value.slice A9 (zav (zap xs ls e.i e.j)).length c9] 26) = w4 at *; clear own9; have hb_168 := bZ; have z_w4 : w3.heap.size <= w4.heap.size := hb_168.size; have KG_169 := yq (KG_163.o.up hb_168); have KR_170 := yq (KR_164.o.up hb_168); have KE_171 := Blk.up KE_165 hb_168; have KP_172 := Blk.up KP_166 hb_168; have KB_173 := yq (Below.tr KB_167.o hb_168); clear hb_162 KG_163 KR_164 KE_165 KP_166 KB_167; have HO4 := yq KO4; have HZ4 := yq KZ; clear KO4 KZ; have hs34 : w2.heap.size <= w4.heap.size := by omega
        have lE4 := Blk.lt KE_171; cases hq : zag (zap xs ls e.i e.j) with
        | false =>
          have q2 : zas (zap xs ls e.i e.j) = 3 := by unfold zas; rw [hq]; rfl
          have HQ := yq (show zaJ xs e = [] /\ zay xs e = 3 by rw [HIO.o, HIC.o]; unfold zc1; have := HKE.o; rw [if_neg yO, if_neg hz, if_neg yO, if_neg yO, if_neg yO, hq]; exact ⟨rfl, rfl⟩); rw [q2]; clear hq q2; go_wp2_with fail
          refine bodyPost_ret (v := .tuple #[.slice none 0 0, .int .i64 3]) (by simp [results, Tryz.results30, go_sem]) rfl ?_
          rw [HQ.o.1, HQ.o.2]; exact zcv.mk1 (lo := w.heap.size) KB_173.o (zbl (Below.size KB_173.o)) yL
        | true =>
          have q1 : zav (zap xs ls e.i e.j) = zap xs ls e.i e.j := by unfold zav; rw [hq]; rfl
          have q2 : zas (zap xs ls e.i e.j) = 0 := by unfold zas; rw [hq]; rfl
          have HQ := yq (show zaJ xs e = zfo e ++ [zhf e.i (zap xs ls e.i e.j)] /\ zay xs e = 0 by rw [HIO.o, HIC.o]; unfold zc1; have := HKE.o; rw [if_neg yO, if_neg hz, if_neg yO, if_neg yO, if_neg yO, hq]; exact ⟨rfl, rfl⟩); rw [q1] at HZ4 HO4; rw [q2]; clear q1 q2 hq HY; generalize zap xs ls e.i e.j = p at *; have KZ5 := HZ4.o; have lZ := KZ5.lt; have bA := (Below.refl w4.heap.size w4).alloc yL (Obj.cells #[] 37); have HKO := yq (zch (W := w4) (lo := w2.heap.size) rfl hs34); have HO5 := yq (zac.below HO4.o bA); have hs5 : w4.heap.size < (w4.alloc (Obj.cells #[] 37)).heap.size := by simp
          go_upto_region 23 with fail
          generalize w4.alloc (Obj.cells #[] 37) = w5 at *; have hb_174 := bA; have z_w5 : w4.heap.size <= w5.heap.size := hb_174.size; have KG_175 := yq (KG_169.o.up hb_174); have KR_176 := yq (KR_170.o.up hb_174); have KE_177 := Blk.up KE_171 hb_174; have KP_178 := Blk.up KP_172 hb_174; have KB_179 := yq (Below.tr KB_173.o hb_174); have KZ_180 := Blk.up KZ5 hb_174; clear hb_168 KG_169 KR_170 KE_171 KP_172 KB_173 KZ5; have HD := yq (show zfo e = [zfn e.i e.j] by unfold zfo; rw [if_neg (by have := HKE.o; omega), if_neg (by have := HKE.o; omega)]); have cE0_181 := Blk.cell (i := 0) (v := .int .i64 e.kind) KE_177 rfl; have cE1_182 := Blk.cell (i := 1) (v := .int .i64 e.i) KE_177 rfl; have cE2_183 := Blk.cell (i := 2) (v := .int .i64 e.j) KE_177 rfl; have cE3_184 := Blk.cell (i := 3) (v := .int .i64 e.k) KE_177 rfl; have cE4_185 := Blk.cell (i := 4) (v := .slice AR e.part.length cR) KE_177 rfl; have cE5_186 := Blk.cell (i := 5) (v := .string e.map) KE_177 rfl; have lE_187 := Blk.lt KE_177; have cZ0_188 := Blk.cell (i := 0) (v := .slice A9 p.length c9) KZ_180 rfl; have lZ_189 := Blk.lt KZ_180; rw [HKE.o] at cE0_181; have hlE := Blk.lt KE_177
          go_upto_region 27 with (first
           | (at_builtin; refine zdQ (W := w5) (N := w5.heap.size) (e := zfn e.i (e.j)) (u := .slice none 0 0) (lo := w2.heap.size) (hp := w2.heap.size) (pa := w2.heap.size) (pb := w2.heap.size) (v := .slice (some ⟨w4.heap.size, 0, none⟩) 0 0) (es := []) rfl _ _ rfl rfl rfl rfl HKO.o yS yO (by simp [Value.oneCell']) ⟨.inl ⟨rfl, none, 0, rfl, Nat.zero_le _⟩, fun g hg => by simp [Value.ownBlock] at hg; omega⟩ yL yL yO yL ?_; intro g6 c6 w6 own6 hg6 hgr6 hb6))
          have zcC : ∀ x, x < w4.heap.size -> w6.heap[x]? = w5.heap[x]? := fun x hx => hgr6.block x yO (fun e => by simp [Value.ownBlock] at e; omega)
          have hg66 : w4.heap.size <= g6 := by
           rcases hg6 with h | h
           · simp [Value.ownBlock] at h; omega
           · omega
          have KE6 : Blk w6 (w.heap.size + 1) #[.int .i64 e.kind, .int .i64 e.i, .int .i64 e.j, .int .i64 e.k, .slice AR e.part.length cR, .string e.map] 37 := (zcC _ lE4).trans KE_177; have KZ6 : Blk w6 w3.heap.size #[.slice A9 p.length c9] 26 := (zcC _ lZ).trans KZ_180; have HO6 := yq (za7 HO5.o (fun g hg => zcC g (World.ownsRow.lt HO4.o g hg).2)); have HO66 := yq own6; have HB6 := yq (Below.trans KB_179.o (hb6.mono hs2)); have hs56 : w5.heap.size <= w6.heap.size := hgr6.size; clear hb_174 cE0_181 cE1_182 cE2_183 cE3_184 cE4_185 cE5_186 lE_187 cZ0_188 lZ_189; clear own6 hg6 hgr6 hb6 zcC hlE; have cE0_190 := Blk.cell (i := 0) (v := .int .i64 e.kind) KE6 rfl; have cE1_191 := Blk.cell (i := 1) (v := .int .i64 e.i) KE6 rfl; have cE2_192 := Blk.cell (i := 2) (v := .int .i64 e.j) KE6 rfl; have cE3_193 := Blk.cell (i := 3) (v := .int .i64 e.k) KE6 rfl; have cE4_194 := Blk.cell (i := 4) (v := .slice AR e.part.length cR) KE6 rfl; have cE5_195 := Blk.cell (i := 5) (v := .string e.map) KE6 rfl; have lE_196 := Blk.lt KE6; have cZ0_197 := Blk.cell (i := 0) (v := .slice A9 p.length c9) KZ6 rfl; have lZ_198 := Blk.lt KZ6; rw [HKE.o] at cE0_190
          go_wp2_with (first
           | (at_builtin; refine zdQ (W := w6) (N := w6.heap.size) (e := zhf e.i p) (u := .slice A9 p.length c9) (lo := w2.heap.size) (hp := w2.heap.size) (pa := w2.heap.size) (pb := w4.heap.size) (v := .slice (some ⟨g6, 0, none⟩) 1 c6) (es := [zfn e.i (e.j)]) rfl _ _ rfl rfl rfl rfl HO66.o yS yO (by simp [Value.oneCell']) ⟨.inr ⟨HO6.o, fun g hg => (World.ownsRow.lt HO4.o g hg).2, yO⟩, fun g hg => by simp [Value.ownBlock] at hg; omega⟩ yL hs34 yO yL ?_; intro g9 c9' w9 own9 hg9 hgr9 hb9))
          refine bodyPost_ret (v := .tuple #[.slice (some ⟨g9, 0, none⟩) 2 c9', .int .i64 0]) (by simp [results, Tryz.results30, go_sem]) rfl ?_
          rw [HQ.o.1, HQ.o.2, HD.o]; exact zcv.mk1 (lo := w2.heap.size) (Below.trans HB6.o (hb9.mono hs2)) (zgD.oeds own9 (by have h : w6.heap.size <= w9.heap.size := hb9.size; omega)) hs2
end Go.Proofs.YtejgbfgocaggfaaGreatDoor
