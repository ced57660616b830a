import Derived.Test.YtdacndamehiglaaGreatDoorM14
set_option maxRecDepth 100000
set_option maxHeartbeats 8000000
namespace Go.Proofs.YtdacndamehiglaaGreatDoor
open Go.RowKit
def zdi (xs : List zaa) : List Int := (zaX xs).getD []
def zco (xs : List zaa) (e : zap) : Option (List zaa) := zaT xs (zdi xs) (zai (zdi xs)) e
def zaj (xs : List zaa) (e : zap) : List zaa := if zaf xs && zaA e then if zar e (zao xs) then zhM (zco xs e) else [] else []
def zah (xs : List zaa) (e : zap) : Int := if zaf xs && zaA e then if zar e (zao xs) then zgA (zco xs e) else 2 else 1
theorem zfw {e : zap} (h : zaA e = true) : zl1 e /\ zaf e.part = true /\ inR e.kind 1 7 = true /\ (2 <= e.kind -> e.i <= e.j) := by
 obtain ⟨k, i, j, kk, part, map⟩ := e; simp only [zaA, Bool.and_eq_true, inR, decide_eq_true_eq, Bool.not_eq_true', Bool.and_eq_false_iff, decide_eq_false_iff_not] at h
 obtain ⟨⟨⟨⟨⟨⟨⟨⟨h1, h1'⟩, h2⟩, h3⟩, h4⟩, h5⟩, h6⟩, h7⟩, h8⟩ := h; refine ⟨?_, h7, by simp [inR]; omega, fun hk => ?_⟩
 · unfold zl1 zjw
   rcases (by omega : k = 1 \/ k = 2 \/ k = 3 \/ k = 4 \/ k = 5 \/ k = 6 \/ k = 7) with rfl | rfl | rfl | rfl | rfl | rfl | rfl
   · exact .inl rfl
   · exact .inr (.inl rfl)
   · exact .inr (.inr (.inl rfl))
   · exact .inr (.inr (.inr (.inl rfl)))
   · exact .inr (.inr (.inr (.inr (.inl rfl))))
   · refine .inr (.inr (.inr (.inr (.inr (.inl ⟨rfl, ?_⟩)))))
     simpa [za3, zcm, inR] using h4
   · refine .inr (.inr (.inr (.inr (.inr (.inr ⟨rfl, ?_⟩)))))
     have : map.size = 4 /\ zay map = true := by simpa using h8
     exact ⟨this.2, this.1⟩
 · rcases h5 with h5 | h5
   · simp [zcd] at h5; simp only at hk; omega
   · simp only; omega
theorem zdM (vG v : Value) (xs : List zaa) (e : zap) (w : World) (hG : Sl zas w w.heap.size vG xs) (hE : zdF w w.heap.size v e) (hn : xs.length <= 1048576) (hn2 : e.part.length <= 1048576) (hm : e.map.size <= maxLen) (htab : Lib.TabIs Tryz.prog w "math/bits.deBruijn64tab" .u8 ze4) :
  Calls Tryz.prog 11 #[.agg #[vG], v] w (zlp (zaj xs e) (zah xs e) w) := by
 obtain ⟨vR, rfl, hR⟩ := hE; have HG := yq hG; have HR := yq hR; have HT := yq htab; obtain ⟨AG, cG, rfl, _⟩ := hG; obtain ⟨AR, cR, rfl, _⟩ := hR; clear htab; go_enter Tryz.func11, Tryz.ntmps11
 go_wp2_with fail
 refine (zc5 _ xs _ (HG.o.up yb) yO).mono ?_
 rintro e w1 ⟨rfl, hb_1⟩; have KQ_2 : Blk w1 (w.heap.size + 1 + 1) #[.slice none 0 0] 26 := by have := (Below.unalloc hb_1).2; simpa [Blk] using this
 replace hb_1 := (Below.unalloc hb_1).1
 have KE_3 : Blk w1 (w.heap.size + 1) #[.int .i64 e.kind, .int .i64 e.i, .int .i64 e.j, .int .i64 e.k, .slice AR e.part.length cR, .string e.map] 30 := by have := (Below.unalloc hb_1).2; simpa [Blk] using this
 replace hb_1 := (Below.unalloc hb_1).1
 have KP_4 : Blk w1 (w.heap.size) #[.slice AG xs.length cG] 26 := by have := (Below.unalloc hb_1).2; simpa [Blk] using this
 replace hb_1 := (Below.unalloc hb_1).1
 have z_w1 : w.heap.size <= w1.heap.size := hb_1.size; have KG_5 := yq (HG.o.up hb_1); have KR_6 := yq (HR.o.up hb_1); have KB_7 := yq hb_1; clear HG HR; have lz1 := Blk.lt KQ_2; cases hg : zaf xs with
 | false =>
   have q1 : zlq xs = 1 := by simp [zlq, hg]
   have q2 : zaj xs e = [] /\ zah xs e = 1 := by simp [zaj, zah, hg]
   have HQ2 := yq q2; clear q2 hg; rw [q1]; clear q1; have cP0_8 := Blk.cell (i := 0) (v := .slice AG xs.length cG) KP_4 rfl; have lP_9 := Blk.lt KP_4; have cQ0_10 := Blk.cell (i := 0) (v := .slice none 0 0) KQ_2 rfl; have zQ0_11 := Blk.frozen KQ_2 0; have lQ_12 := Blk.lt KQ_2; have cE0_13 := Blk.cell (i := 0) (v := .int .i64 e.kind) KE_3 rfl; have cE1_14 := Blk.cell (i := 1) (v := .int .i64 e.i) KE_3 rfl; have cE2_15 := Blk.cell (i := 2) (v := .int .i64 e.j) KE_3 rfl; have cE3_16 := Blk.cell (i := 3) (v := .int .i64 e.k) KE_3 rfl; have cE4_17 := Blk.cell (i := 4) (v := .slice AR e.part.length cR) KE_3 rfl; have cE5_18 := Blk.cell (i := 5) (v := .string e.map) KE_3 rfl; have lE_19 := Blk.lt KE_3; go_wp2_with fail
   refine bodyPost_ret (v := .tuple #[.agg #[.slice none 0 0], .int .i64 1]) (by simp [results, Tryz.results11, go_sem, cQ0_10]) rfl ⟨Below.setCell KB_7.o (show w.heap.size <= w.heap.size + 2 by omega) _, .slice none 0 0, by rw [HQ2.o.1]; exact World.ownsRow_nil _ _ _ _, by rw [HQ2.o.2]⟩
 | true =>
   have q1 : zlq xs = 0 := by simp [zlq, hg]
   have q2 : zjW xs = zao xs := by simp [zjW, hg]
   rw [q1, q2]; clear q1 q2; have HGG := yq hg; clear hg; have cP0_20 := Blk.cell (i := 0) (v := .slice AG xs.length cG) KP_4 rfl; have lP_21 := Blk.lt KP_4; have cQ0_22 := Blk.cell (i := 0) (v := .slice none 0 0) KQ_2 rfl; have zQ0_23 := Blk.frozen KQ_2 0; have lQ_24 := Blk.lt KQ_2; have cE0_25 := Blk.cell (i := 0) (v := .int .i64 e.kind) KE_3 rfl; have cE1_26 := Blk.cell (i := 1) (v := .int .i64 e.i) KE_3 rfl; have cE2_27 := Blk.cell (i := 2) (v := .int .i64 e.j) KE_3 rfl; have cE3_28 := Blk.cell (i := 3) (v := .int .i64 e.k) KE_3 rfl; have cE4_29 := Blk.cell (i := 4) (v := .slice AR e.part.length cR) KE_3 rfl; have cE5_30 := Blk.cell (i := 5) (v := .string e.map) KE_3 rfl; have lE_31 := Blk.lt KE_3; go_wp2_with fail
   refine (zbY _ e _ ⟨_, rfl, KR_6.o.up yb⟩ yO hm).mono ?_
   rintro e w2 ⟨rfl, hb_32⟩; have z_w2 : w1.heap.size <= w2.heap.size := hb_32.size; have KG_33 := yq (KG_5.o.up hb_32); have KR_34 := yq (KR_6.o.up hb_32); have KQ_35 := Blk.up KQ_2 hb_32; have KE_36 := Blk.up KE_3 hb_32; have KP_37 := Blk.up KP_4 hb_32; have KB_38 := yq (Below.tr KB_7.o hb_32); clear hb_1 cP0_20 lP_21 cQ0_22 zQ0_23 lQ_24 cE0_25 cE1_26 cE2_27 cE3_28 cE4_29 cE5_30 lE_31 KG_5 KR_6 KQ_2 KE_3 KP_4 KB_7; cases he : zaA e with
   | false =>
     have q2 : zaj xs e = [] /\ zah xs e = 1 := by simp [zaj, zah, he]
     have HQ2 := yq q2; clear q2 he; have cP0_39 := Blk.cell (i := 0) (v := .slice AG xs.length cG) KP_37 rfl; have lP_40 := Blk.lt KP_37; have cQ0_41 := Blk.cell (i := 0) (v := .slice none 0 0) KQ_35 rfl; have zQ0_42 := Blk.frozen KQ_35 0; have lQ_43 := Blk.lt KQ_35; have cE0_44 := Blk.cell (i := 0) (v := .int .i64 e.kind) KE_36 rfl; have cE1_45 := Blk.cell (i := 1) (v := .int .i64 e.i) KE_36 rfl; have cE2_46 := Blk.cell (i := 2) (v := .int .i64 e.j) KE_36 rfl; have cE3_47 := Blk.cell (i := 3) (v := .int .i64 e.k) KE_36 rfl; have cE4_48 := Blk.cell (i := 4) (v := .slice AR e.part.length cR) KE_36 rfl; have cE5_49 := Blk.cell (i := 5) (v := .string e.map) KE_36 rfl; have lE_50 := Blk.lt KE_36; go_wp2_with fail
     refine bodyPost_ret (v := .tuple #[.agg #[.slice none 0 0], .int .i64 1]) (by simp [results, Tryz.results11, go_sem, cQ0_41]) rfl ⟨Below.setCell KB_38.o (show w.heap.size <= w.heap.size + 2 by omega) _, .slice none 0 0, by rw [HQ2.o.1]; exact World.ownsRow_nil _ _ _ _, by rw [HQ2.o.2]⟩
   | true =>
     have HE := yq (zfw he); have HE0 := yq he; clear he; have cP0_51 := Blk.cell (i := 0) (v := .slice AG xs.length cG) KP_37 rfl; have lP_52 := Blk.lt KP_37; have cQ0_53 := Blk.cell (i := 0) (v := .slice none 0 0) KQ_35 rfl; have zQ0_54 := Blk.frozen KQ_35 0; have lQ_55 := Blk.lt KQ_35; have cE0_56 := Blk.cell (i := 0) (v := .int .i64 e.kind) KE_36 rfl; have cE1_57 := Blk.cell (i := 1) (v := .int .i64 e.i) KE_36 rfl; have cE2_58 := Blk.cell (i := 2) (v := .int .i64 e.j) KE_36 rfl; have cE3_59 := Blk.cell (i := 3) (v := .int .i64 e.k) KE_36 rfl; have cE4_60 := Blk.cell (i := 4) (v := .slice AR e.part.length cR) KE_36 rfl; have cE5_61 := Blk.cell (i := 5) (v := .string e.map) KE_36 rfl; have lE_62 := Blk.lt KE_36; go_wp2_with fail
     refine (zj9 _ e (zao xs) _ ⟨_, rfl, KR_34.o.up yb⟩ HE.o.2.2.1 HE.o.2.2.2).mono ?_
     rintro e w3 ⟨rfl, hb_63⟩; have z_w3 : w2.heap.size <= w3.heap.size := hb_63.size; have KG_64 := yq (KG_33.o.up hb_63); have KR_65 := yq (KR_34.o.up hb_63); have KQ_66 := Blk.up KQ_35 hb_63; have KE_67 := Blk.up KE_36 hb_63; have KP_68 := Blk.up KP_37 hb_63; have KB_69 := yq (Below.tr KB_38.o hb_63); clear hb_32 cP0_51 lP_52 cQ0_53 zQ0_54 lQ_55 cE0_56 cE1_57 cE2_58 cE3_59 cE4_60 cE5_61 lE_62 KG_33 KR_34 KQ_35 KE_36 KP_37 KB_38; cases hf : zar e (zao xs) with
     | false =>
       have q2 : zaj xs e = [] /\ zah xs e = 2 := by simp [zaj, zah, HGG.o, HE0.o, hf]
       have HQ2 := yq q2; clear q2 hf; have cP0_70 := Blk.cell (i := 0) (v := .slice AG xs.length cG) KP_68 rfl; have lP_71 := Blk.lt KP_68; have cQ0_72 := Blk.cell (i := 0) (v := .slice none 0 0) KQ_66 rfl; have zQ0_73 := Blk.frozen KQ_66 0; have lQ_74 := Blk.lt KQ_66; have cE0_75 := Blk.cell (i := 0) (v := .int .i64 e.kind) KE_67 rfl; have cE1_76 := Blk.cell (i := 1) (v := .int .i64 e.i) KE_67 rfl; have cE2_77 := Blk.cell (i := 2) (v := .int .i64 e.j) KE_67 rfl; have cE3_78 := Blk.cell (i := 3) (v := .int .i64 e.k) KE_67 rfl; have cE4_79 := Blk.cell (i := 4) (v := .slice AR e.part.length cR) KE_67 rfl; have cE5_80 := Blk.cell (i := 5) (v := .string e.map) KE_67 rfl; have lE_81 := Blk.lt KE_67; go_wp2_with fail
       refine bodyPost_ret (v := .tuple #[.agg #[.slice none 0 0], .int .i64 2]) (by simp [results, Tryz.results11, go_sem, cQ0_72]) rfl ⟨Below.setCell KB_69.o (show w.heap.size <= w.heap.size + 2 by omega) _, .slice none 0 0, by rw [HQ2.o.1]; exact World.ownsRow_nil _ _ _ _, by rw [HQ2.o.2]⟩
     | true =>
       have hls : zaX xs = some (zdi xs) := by
        obtain ⟨ls, h⟩ := (zag HGG.o).2; simp [zdi, h]
       have q2 : zaj xs e = zhM (zaT xs (zdi xs) (zai (zdi xs)) e) /\ zah xs e = zgA (zaT xs (zdi xs) (zai (zdi xs)) e) := by simp [zaj, zah, HGG.o, HE0.o, hf, zco]
       have HQ2 := yq q2; have HLS := yq hls; clear q2 hf hls; have cP0_82 := Blk.cell (i := 0) (v := .slice AG xs.length cG) KP_68 rfl; have lP_83 := Blk.lt KP_68; have cQ0_84 := Blk.cell (i := 0) (v := .slice none 0 0) KQ_66 rfl; have zQ0_85 := Blk.frozen KQ_66 0; have lQ_86 := Blk.lt KQ_66; have cE0_87 := Blk.cell (i := 0) (v := .int .i64 e.kind) KE_67 rfl; have cE1_88 := Blk.cell (i := 1) (v := .int .i64 e.i) KE_67 rfl; have cE2_89 := Blk.cell (i := 2) (v := .int .i64 e.j) KE_67 rfl; have cE3_90 := Blk.cell (i := 3) (v := .int .i64 e.k) KE_67 rfl; have cE4_91 := Blk.cell (i := 4) (v := .slice AR e.part.length cR) KE_67 rfl; have cE5_92 := Blk.cell (i := 5) (v := .string e.map) KE_67 rfl; have lE_93 := Blk.lt KE_67; go_wp2_with fail
       refine (zkR _ (.slice AR e.part.length cR) xs (zdi xs) e _ (KG_64.o.up yb) (KR_65.o.up yb) HLS.o hn HE.o.1 HE.o.2.1 (zkM HT.o KB_69.o)).mono ?_
       rintro e w4 ⟨hb_94, v4, own4, rfl⟩; have z_w4 : w3.heap.size <= w4.heap.size := hb_94.size; have KG_95 := yq (KG_64.o.up hb_94); have KR_96 := yq (KR_65.o.up hb_94); have KQ_97 := Blk.up KQ_66 hb_94; have KE_98 := Blk.up KE_67 hb_94; have KP_99 := Blk.up KP_68 hb_94; have KB_100 := yq (Below.tr KB_69.o hb_94); clear hb_63 cP0_82 lP_83 cQ0_84 zQ0_85 lQ_86 cE0_87 cE1_88 cE2_89 cE3_90 cE4_91 cE5_92 lE_93 KG_64 KR_65 KQ_66 KE_67 KP_68 KB_69; obtain ⟨A4, k4, rfl, _⟩ := zae own4; have HO4 := yq own4; clear own4; have cQ0_101 := Blk.cell (i := 0) (v := .slice none 0 0) KQ_97 rfl; have zQ0_102 := Blk.frozen KQ_97 0; have lQ_103 := Blk.lt KQ_97; go_wp2_with fail
       refine bodyPost_ret (v := .tuple #[.agg #[.slice A4 (zhM (zaT xs (zdi xs) (zai (zdi xs)) e)).length k4], .int .i64 (zgA (zaT xs (zdi xs) (zai (zdi xs)) e))]) (by simp [results, Tryz.results11, go_sem, cQ0_101]) rfl ⟨Below.setCell KB_100.o (show w.heap.size <= w.heap.size + 2 by omega) _, .slice A4 (zhM (zaT xs (zdi xs) (zai (zdi xs)) e)).length k4, ?_, by rw [HQ2.o.2]⟩
       rw [HQ2.o.1]; exact zac (ownsRow_setCell_below HO4.o (a := ⟨w.heap.size + 2, 0, none⟩) (by show w.heap.size + 2 < _; omega) _) yO
def zpu (e : zap) (u : Value) : Prop := e.part = [] /\ ∃ A c, u = .slice A 0 c /\ c <= maxLen
theorem zbP {W : World} {lo : Nat} (h : lo <= W.heap.size) : zkS W lo W.heap.size (.slice none 0 0) [] :=
 ⟨[], _, rfl, World.ownsRow_nil _ _ _ _, fun _ h => (by simp [Value.ownBlock] at h), Nat.le_refl _, zck.nil h⟩
theorem ze8 {W : World} {lo N : Nat} {e : zap} {u : Value} (hN : N = W.heap.size) (h : lo <= W.heap.size) (hu : zpu e u \/ zha W lo W.heap.size u e.part) :
  zkS (W.alloc (Obj.cells #[.int .i64 e.kind, .int .i64 e.i, .int .i64 e.j, .int .i64 e.k, u, .string e.map] 30)) lo (W.heap.size + 1) (.slice (some ⟨N, 0, none⟩) 1 1) [e] := by
 subst hN; have hrow := World.ownsRow_lit (e := 30) (size := 6) W #[.int .i64 e.kind, .int .i64 e.i, .int .i64 e.j, .int .i64 e.k, u, .string e.map] 1 h (by decide) rfl; refine ⟨[(e, u)], fun j => if j = 0 then lo else W.heap.size, rfl, hrow, fun g hg => by simp [Value.ownBlock] at hg; omega, by simp, Nat.le_refl _, ?_, ?_, ?_⟩
 · intro i j hij
   show (if i = 0 then lo else W.heap.size) <= (if j = 0 then lo else W.heap.size)
   repeat' split
   all_goals omega
 · intro i
   show (if i = 0 then lo else W.heap.size) <= W.heap.size + 1
   split <;> omega
 · intro i p hp
   have hi : i = 0 := by
    have := (List.getElem?_eq_some_iff.1 hp).1
    simp at this; exact this
   subst hi; simp at hp
   subst hp; refine ⟨?_, fun g hg => by simp [Value.ownBlock] at hg; simp; omega⟩
   rcases hu with hu | hu
   · exact .inl hu
   · exact .inr (by simpa using hu.alloc _)
def zlr (w : World) (lo hp : Nat) (v : Value) (es : List zap) : Prop :=
 ∃ ps r, ps.map Prod.fst = es /\ w.ownsRow lo 30 6 v es.length (ps.flatMap zcu) /\ zck w v lo hp r ps
theorem zlr.oeds {w : World} {lo hp : Nat} {v : Value} {es : List zap} (h : zlr w lo hp v es) (hh : hp <= w.heap.size) : zkS w lo w.heap.size v es := by
 obtain ⟨ps, r, h1, h2, h3⟩ := h; exact ⟨ps, r, h1, h2, fun g hg => (World.ownsRow.lt h2 g hg).2, Nat.le_refl _, h3.le yL hh⟩
theorem zfx {W : World} {lo N : Nat} (hN : N = W.heap.size) (h : lo <= W.heap.size) : zlr (W.alloc (Obj.cells #[] 30)) lo lo (.slice (some ⟨N, 0, none⟩) 0 0) [] := by
 subst hN; exact ⟨[], _, rfl, World.ownsRow_lit W #[] 0 h (Nat.zero_le _) rfl, zck.nil yL⟩
theorem zlr.keep {w w' : World} {lo hp : Nat} {v : Value} {es : List zap} (h : zlr w lo hp v es) (hb : Below w.heap.size w w') (hh : hp <= w.heap.size) : zlr w' lo hp v es := by
 obtain ⟨ps, r, h1, h2, h3⟩ := h; exact ⟨ps, r, h1, zaI h2 hb, h3.keep (fun g _ b _ => hb.block g yO) hb.size⟩
theorem zck.reval {w : World} {v v' : Value} {lo hi N : Nat} {r : Nat -> Nat} {ps : List (zap × Value)} (h : zck w v lo hi r ps) (hv : v'.ownBlock = v.ownBlock \/ v'.ownBlock = some N) (hN : hi <= N) : zck w v' lo hi r ps :=
 ⟨h.low, h.mono, h.high, fun i p hp => by
  obtain ⟨h1, h2⟩ := h.at_ i p hp; refine ⟨h1, fun g hg => ?_⟩
  rcases hv with hv | hv
  · exact h2 g (hv.symm.trans hg)
  · have : g = N := by rw [hv] at hg; exact (Option.some.inj hg).symm
    have := h.high (2 * i + 1)
    omega⟩
theorem zdw {W : World} {ops : Array Oper} {rest : List Oper} {o : Oper} {a : Act} {Q : Exit -> Act -> World -> Prop} (hgd : o.guard = none) (s x : Operand)
  (ho : o.op = .call { callee := .builtin .append, args := #[s, x], argTypes := #[36, 36] }) {e : zap} {u : Value} {lo hp pa pb : Nat} {v : Value} {es : List zap}
  (hs : a.eval s = v) {N : Nat} (hx : a.eval x = .slice (some ⟨N, 0, none⟩) 1 1) (hN : N = W.heap.size) (hown : zlr W lo hp v es) (hlen : es.length <= 1048576) (hbase : lo <= W.heap.size)
  (hu1 : u.oneCell' = true) (hu : zd9 W v pa pb (e, u)) (h1 : hp <= pa) (h2 : pa <= pb) (h3 : pb <= W.heap.size) (h4 : lo <= pa)
  (h : ∀ g' c' w', zlr w' lo pb (.slice (some ⟨g', 0, none⟩) (es.length + 1) c') (es ++ [e]) -> (v.ownBlock = some g' \/ g' = W.heap.size + 1) -> W.grownBy w' v.ownBlock -> Below lo W w' -> wpList Tryz.prog ops Q rest (a.put o.dst (.slice (some ⟨g', 0, none⟩) (es.length + 1) c')) w') :
  wpList Tryz.prog ops Q (o :: rest) a (W.alloc (.cells #[.int .i64 e.kind, .int .i64 e.i, .int .i64 e.j, .int .i64 e.k, u, .string e.map] 30)) := by
 subst hN; obtain ⟨ps, r, hm, hrow, hP⟩ := hown; obtain ⟨i0, hi0, hz0, hz1, hz2⟩ := info_parts Tryz.infoEd; refine zib hgd s x 36 ho i0 _ 6 72 Tryz.underlying36 hi0 hz0 hz1 hz2 rfl (by decide) hs hx rfl (by simp [Value.oneCell'] at hu1 |-; exact hu1) hrow yO yO hbase ?_
 intro v' w' k1 k2 k3; have hg : W.grownBy w' v.ownBlock := ⟨k2.os, k2.tape, k2.output, Nat.le_trans yS k2.size, fun y hy hne => (k2.block y (by simp; omega) hne).trans (Below.heap_alloc W _ y hy)⟩
 have hb : Below lo W w' := (Below.refl lo W).grown hg hbase (fun y hy => (World.ownsRow.lt hrow y hy).1); have k1' : w'.ownsRow lo 30 6 v' (es.length + 1) ((ps ++ [(e, u)]).flatMap zcu) := by simpa [zcu] using k1
 obtain ⟨g', c', rfl, _⟩ := zcx k1' yO; refine h g' c' w' ?_ (k3.imp (fun q => q.symm.trans rfl) (fun q => by simpa [Value.ownBlock] using q)) hg hb
 obtain ⟨r', hr'⟩ := (hP.le yL h1).snoc hu h2 h4; refine ⟨ps ++ [(e, u)], r', by rw [List.map_append, hm]; rfl, by simpa using k1', ?_⟩
 refine zck.reval (v := v) (N := W.heap.size + 1) (hr'.keep (fun y _ hy hne => hg.block y yO (fun e => hne e.symm)) hg.size) k3 yO
def zea (s : ByteArray) (c : UInt8) (k : Nat) : List Int := ((List.range k).filter (fun j => s.data.getD j 0 == c)).map fun (j : Nat) => (j : Int)
theorem zjx (s : ByteArray) (c : UInt8) (k : Nat) : zea s c (k + 1) = if s.data.getD k 0 = c then zea s c k ++ [(k : Int)] else zea s c k := by
 unfold zea; rw [List.range_succ, List.filter_append, List.map_append]; by_cases h : s.data.getD k 0 = c
 · rw [if_pos h]; simp at h; simp [h]
 · rw [if_neg h]; simp at h; simp [h]
theorem zkT (s : ByteArray) (c : UInt8) (k : Nat) : (zea s c k).length <= k := by
 unfold zea; rw [List.length_map]; exact Nat.le_trans (List.length_filter_le _ _) yS
theorem zkU (s : ByteArray) (c : UInt8) : 0 < (zea s c s.size).length ↔ zij s c = true := by
 unfold zea zij; rw [List.length_map, List.length_pos_iff_exists_mem, List.contains_iff_mem]; constructor
 · rintro ⟨j, hj⟩
   obtain ⟨h1, h2⟩ := List.mem_filter.1 hj; have h3 := List.mem_range.1 h1; rw [zbJ h3] at h2; have : s[j] = c := by simpa using h2
   rw [<- this]; exact List.mem_of_getElem? (za4 s j h3)
 · intro h
   obtain ⟨j, hj⟩ := List.mem_iff_getElem?.1 h; have hlt : j < s.size := by have := (List.getElem?_eq_some_iff.1 hj).1; simpa using this
   refine ⟨j, List.mem_filter.2 ⟨List.mem_range.2 hlt, ?_⟩⟩
   rw [za4 s j hlt] at hj; rw [zbJ hlt]; simpa using hj
theorem zog (s : ByteArray) (i : Nat) (h : i < s.size) : s.extract i (i + 1) = ⟨#[s.data.getD i 0]⟩ := by
 rw [zbJ h]; apply ByteArray.ext
 apply Array.ext'
 show (s.extract i (i + 1)).data.toList = [s[i]]
 rw [Lib.extract_data, show i + 1 - i = 1 by omega]; have h1 := za4 s i h; have hl : i < s.data.toList.length := (List.getElem?_eq_some_iff.1 h1).1
 rw [List.drop_eq_getElem_cons hl]
 have h2 : s.data.toList[i] = s[i] := by
  have := ye hl; rw [h1] at this; exact (Option.some.inj this).symm
 rw [h2]; rfl
theorem ziA (s : ByteArray) (c : UInt8) (w : World) (hs : s.size <= 1048576) :
  Calls Tryz.prog 202 #[.string ⟨#[c]⟩, .string s] w fun e w' => ∃ v, e = .returned v /\ zal w' w.heap.size v (zea s c s.size) /\ Below w.heap.size w w' := by
 go_enter Tryz.func202, Tryz.ntmps202
 go_wp2_with fail
 go_loopw [5, 6] (fun out q wr => ∃ (i : Nat), i <= s.size /\ q = .int .i64 (i : Int) /\ Below w.heap.size w wr /\ zal wr w.heap.size out (zea s c i)) (fun _ q _ => s.size - (intOf q).toNat)
 case atStart => exact ⟨0, by omega, rfl, yb, zal.empty yS yS⟩
 case round =>
  obtain ⟨i, hi, rfl, hb, hown⟩ := hrel; have HB := yq hb; have HO := yq hown; have hsz : w.heap.size <= wr.heap.size := hb.size; have hfl := zkT s c i; clear hb; by_cases hlt : i < s.size
  · have hE := zog s i hlt
    have HF := yq (zjx s c i); by_cases hc : s.data.getD i 0 = c
    · have HC := yq hc
      rw [hc] at hE; clear hc
      go_wp2_with (first
       | (at_builtin; go_must (refine zdj rfl _ _ rfl rfl rfl yS (by repeat (first | exact hown | apply zal.alloc)) yO (by first | omega | (simp; omega)) ?_)
          intro v' w1 hown1 hgrow hbw))
      go_roundw
      case rel => exact ⟨i + 1, by omega, by go_num, HB.o.trans hbw, by rw [HF.o, if_pos HC.o]; exact hown1⟩
      case measure => simp [intOf]; omega
    · have HC := yq hc
      have hne : ¬ (⟨#[s.data.getD i 0]⟩ : ByteArray) = ⟨#[c]⟩ := fun h => hc (by
       have h2 := congrArg ByteArray.data h
       simpa using h2)
      obtain ⟨d, hd⟩ : ∃ d, s.data.getD i 0 = d := ⟨_, rfl⟩
      rw [hd] at hne hE hc; have hbq : (d == c) = false := by simpa using hc
      clear hd; go_wp2_with fail
      go_roundw
      case rel => exact ⟨i + 1, by omega, by go_num, HB.o, by rw [HF.o, if_neg HC.o]; exact HO.o⟩
      case measure => simp [intOf]; omega
  · have hi2 : i = s.size := by omega
    subst hi2; go_wp2_with fail
    go_ret
    exact ⟨_, rfl, HO.o, HB.o⟩
theorem zoO (s : ByteArray) {k : Nat} (hk : k < 4) (h : zij s (ltr k) = true) : zj2 s (ltr k) = (zbH s k).length := by
 have : k = 0 \/ k = 1 \/ k = 2 \/ k = 3 := by omega
 have e01 : zcA (ltr 0) ≠ zcA (ltr 1) := by decide
 unfold zj2 zbH; rcases this with rfl | rfl | rfl | rfl <;> simp only [List.range_succ, List.range_zero, List.nil_append, List.cons_append, List.filter_cons, h] <;> (repeat' split) <;> first | rfl | decide | (simp_all; done)
def znU (s : ByteArray) (T : List Int) (k : Nat) : Prop := T.length = 4 /\ ∀ j, j < k -> zij s (ltr j) = true -> T.getD j 0 = (zj2 s (ltr j) : Nat)
theorem znU.next {s : ByteArray} {T : List Int} {k : Nat} (h : znU s T k) (hn : ¬ zij s (ltr k) = true) : znU s T (k + 1) :=
 ⟨h.1, fun j hj hc => by
  rcases Nat.lt_succ_iff_lt_or_eq.1 hj with h1 | rfl
  · exact h.2 j h1 hc
  · exact absurd hc hn⟩
theorem znU.put {s : ByteArray} {T : List Int} {k : Nat} (h : znU s T k) (hk : k < 4) (hc : zij s (ltr k) = true) : znU s (T.set k ((zbH s k).length : Nat)) (k + 1) :=
 ⟨by rw [List.length_set]; exact h.1, fun j hj hcj => by
  rw [ze3 (by rw [h.1]; exact hk)]; split
  · rename_i e; subst e; rw [zoO s hk hc]
  · exact h.2 j yO hcj⟩
theorem zgB (W : World) {W' : World} {ops : Array Oper} {o : Oper} {a : Act} {K : Act -> World -> Prop} {Q : Exit -> Act -> World -> Prop} {E : Prop} {t : ByteArray} {p q : Int} (hW : W' = W.alloc (.cells #[.string t, .int .i64 p, .int .i64 q] 112)) (hgd : o.guard = none) (s x : Operand)
  (ho : o.op = .call { callee := .builtin .append, args := #[s, x], argTypes := #[24, 24] }) {base : Nat} {v : Value} {l : List zaa}
  (hs : a.eval s = v) {N : Nat} (hx : a.eval x = .slice (some ⟨N, 0, none⟩) 1 1) (hN : N = W.heap.size) (hown : zab W base v l) (hlen : l.length <= 1099511627775) (hbase : base <= W.heap.size)
  (h : ∀ v' w', zab w' base v' (l ++ [⟨t, p, q⟩]) -> (W.alloc (.cells #[.string t, .int .i64 p, .int .i64 q] 112)).grownBy w' v.ownBlock -> Below base (W.alloc (.cells #[.string t, .int .i64 p, .int .i64 q] 112)) w' -> K (a.put o.dst v') w') :
  if Region.wanted o (yielded ops a.tmps) = true then Oper.wp Tryz.prog o a W' K Q else E := by
 subst hW; exact zbb hgd s x ho hs hx hN hown hlen hbase h
theorem ziB {s : ByteArray} {T : List Int} (hw : zay s = true) (hT : znU s T 4) {i : Nat} (h : i < s.size) : ∃ j : Nat, j < 4 /\ ((s[i].toNat : Int) - 97) % 256 = (j : Int) /\ IntKind.u8.wrap ((s[i].toNat : Int) - 97) = (j : Int) /\ T.getD j 0 = ((zj2 s (s.data.getD i 0) : Nat) : Int) := by
 obtain ⟨j, hj, e⟩ := zgr (zhz hw h); have hc := zlO h; rw [zbJ h]; rw [e] at hc |-
 have h1 : (((ltr j).toNat : Int) - 97) % 256 = (j : Int) := by
  rw [<- zgu hj]; omega
 exact ⟨j, hj, h1, h1, hT.2 j hj hc⟩
theorem ziC (s : ByteArray) (w : World) (hs : zay s = true) :
  Calls Tryz.prog 176 #[.string s] w (zmY (zcn s) w) := by
 have hsz : s.size <= 2000 := by unfold zay at hs; simp only [Bool.and_eq_true, decide_eq_true_eq] at hs; omega
 have HS := yq hs; clear hs
 have hmk : ∀ W : World, (Instr.makeSlice 117 (.int .i64 4) (.int .i64 4)).run Tryz.prog W = .ok (.slice (some ⟨W.heap.size, 0, none⟩) 4 4) (W.alloc (.cells #[.int .i64 0, .int .i64 0, .int .i64 0, .int .i64 0] 2)) :=
  fun W => by
   have h := run_make_row' (P := Tryz.prog) 117 2 (.int .i64 0) 8 Tryz.underlying117 Tryz.infoI rfl .i64 .i64 4 yO yO W
   have e : madeCells #[Value.int .i64 0] 4 = #[.int .i64 0, .int .i64 0, .int .i64 0, .int .i64 0] := by
    have hr : Array.range 4 = #[0, 1, 2, 3] := by decide
    simp [madeCells, hr]
   rw [e] at h; exact h
 go_enter Tryz.func176, Tryz.ntmps176
 go_wp2_with fail
 go_loopw [5, 6] (fun q u6 wr => ∃ (k : Nat) (vo : Value) (T : List Int), k <= 4 /\ q = .int .i64 (k : Int) /\ Below w.heap.size w wr /\ Blk wr w.heap.size #[.slice none 0 0] 26 /\ Boxed wr (w.heap.size + 1) 26 vo /\ zab wr (w.heap.size + 3) vo (zbH s k) /\ Blk wr (w.heap.size + 2) ((T.map (Value.int .i64)).toArray) 2 /\ znU s T k) (fun q _ _ => 4 - (intOf q).toNat)
 case atStart =>
  refine ⟨0, .slice none 0 0, [0, 0, 0, 0], by omega, rfl, yb, ?_, ?_, World.ownsRow_nil _ _ _ _, ?_, rfl, fun j hj => by omega⟩
  · repeat (first | (apply Blk.new'; simp; done) | apply Blk.alloc | apply Blk.drew)
  · show Blk _ _ #[.slice none 0 0] _
    repeat (first | (apply Blk.new'; simp; done) | apply Blk.alloc | apply Blk.drew)
  · show Blk _ _ #[.int .i64 0, .int .i64 0, .int .i64 0, .int .i64 0] _
    repeat (first | (apply Blk.new'; simp; done) | apply Blk.alloc | apply Blk.drew)
 case round =>
  obtain ⟨k, vo, T, hk, rfl, hb, h0, hbox, hown, hT, htab⟩ := hrel; have HB := yq hb; have H0 := yq h0; have Hbox := yq hbox; have Hown := yq hown; have HT := yq hT; have HTab := yq htab; obtain ⟨Ao, co, rfl, _⟩ := zae hown; clear hb h0 hbox hown hT htab; by_cases hlt : k < 4
  · have hcv : (convert 22 9 (.slice (some ⟨wr.heap.size, 0, none⟩) 1 1)).run Tryz.prog (wr.alloc (.cells #[.int .u8 (97 + (k : Int))] 5)) = .ok (.string (zcA (ltr k)).letter) (wr.alloc (.cells #[.int .u8 (97 + (k : Int))] 5)) := by
     have := zn9 wr _ rfl (ltr k); rw [<- zgu hlt, show ((97 + k : Nat) : Int) = 97 + (k : Int) by omega] at this; exact this
    have HSu := yq (zhg s k); have hTl := HTab.o.1; have cT := HT.o.cell (i := k) (zcG yO); have fT := HT.o.frozen k; have lT := HT.o.lt; have cb := Hbox.o.cell; have fb := Hbox.o.frozen; have lb := Hbox.o.lt; have hll := zd7 s k; go_wp2_with fail
    refine (ziA s (ltr k) _ yO).mono ?_
    rintro e w2 ⟨v2, rfl, own2, hb2⟩; obtain ⟨A2, c2, rfl, _⟩ := zal.sl own2; obtain ⟨hb3, _⟩ := Below.unalloc hb2; have z2 : wr.heap.size <= w2.heap.size := hb3.size; have HB2 := yq (HB.o.trans (hb3.mono HB.o.size)); have H02 := yq (H0.o.up hb3); have Hbox2 := yq (Boxed.up Hbox.o hb3 Hbox.o.lt); have Hown2 := yq (zab.below Hown.o hb3); have HT2 := yq (HT.o.up hb3); have cT2 := HT2.o.cell (i := k) (zcG yO); have fT2 := HT2.o.frozen k; have lT2 := HT2.o.lt; have cb2 := Hbox2.o.cell; have fb2 := Hbox2.o.frozen; have lb2 := Hbox2.o.lt; have hpos := zkU s (ltr k); generalize (zea s (ltr k) s.size).length = M at *; clear hb2 own2 cT fT lT cb fb lb HB H0 Hbox Hown HT hb3; by_cases hc : zij s (ltr k) = true
    · have hM : 0 < M := hpos.2 hc
      have HC := yq hc; clear hpos hc; have KX : ∀ v, Boxed (w2.setCell ⟨w.heap.size + 2, k, none⟩ v) (w.heap.size + 1) 26 (.slice Ao (zbH s k).length co) := fun v => Blk.other Hbox2.o (by show w.heap.size + 1 ≠ w.heap.size + 2; omega) v; have HKX := yq KX; have HOX := yq (fun v => ownsRow_setCell_below Hown2.o (a := ⟨w.heap.size + 2, k, none⟩) (by show w.heap.size + 2 < w.heap.size + 3; omega) v); clear KX
      go_wp2_with (first
       | (at_builtin; refine za6 (base := w.heap.size + 3) (t := ⟨#[ltr k]⟩) (p := 0) (q := 0) rfl _ _ rfl rfl rfl yS (HOX.o _) yO (by simp; omega) ?_; intro v3 w3 own3 hg3 hb3; have bx3 : Boxed w3 (w.heap.size + 1) 26 _ := Boxed.grown (HKX.o _) (by decide) (HOX.o _) hg3; obtain ⟨A3, c3, rfl, _⟩ := zae own3; have hcb3 := bx3.cell; have hfb3 := bx3.frozen; have hlb3 := bx3.lt))
      have hbz : Below (w.heap.size + 3) (w2.setCell ⟨w.heap.size + 2, k, none⟩ (.int .i64 ((zbH s k).length : Nat))) w3 := ((Below.refl _ _).alloc (by simp; omega) _).trans hb3; have hby : Below w.heap.size w w3 := (HB2.o.setCell (by show w.heap.size <= w.heap.size + 2; omega) _).trans (hbz.mono yO); go_roundw
      case rel =>
       refine ⟨k + 1, _, T.set k ((zbH s k).length : Nat), by omega, by go_num, hby.setCell (by show w.heap.size <= w.heap.size + 1; omega) _, ((H02.o.other (by show w.heap.size ≠ w.heap.size + 2; omega) _).upB hbz yO).other (by show w.heap.size ≠ w.heap.size + 1; omega) _, Boxed.set _ bx3, ?_, ?_, HTab.o.put hlt HC.o⟩
       · rw [HSu.o, if_pos HC.o]
         exact zcs bx3 own3 rfl yS
       · rw [<- zhB]
         exact ((HT2.o.set k _).upB hbz yO).other (by show w.heap.size + 2 ≠ w.heap.size + 1; omega) _
      case measure => simp [intOf]; omega
    · have hM : M = 0 := by
       rcases Nat.eq_zero_or_pos M with h | h
       · exact h
       · exact absurd (hpos.1 h) hc
      subst hM; have HC := yq hc; clear hpos hc; go_wp2_with fail
      go_roundw
      case rel => exact ⟨k + 1, _, T, by omega, by go_num, HB2.o, H02.o, Hbox2.o, by rw [HSu.o, if_neg HC.o]; exact Hown2.o, HT2.o, HTab.o.next HC.o⟩
      case measure => simp [intOf]; omega
  · have hk4 : k = 4 := by omega
    subst hk4; rw [show ((4 : Nat) : Int) = 4 from rfl]; have hlen4 := zd7 s 4; obtain ⟨wo, rfl⟩ : ∃ wo : World, wo = wr := ⟨_, rfl⟩
    have hTl := HTab.o.1; go_wp2_with fail
    go_loopw [7, 8] (fun q u8 wx => ∃ (i : Nat) (vo : Value), 1 <= i /\ (i <= s.size \/ i = 1) /\ q = .int .i64 (i : Int) /\ Below w.heap.size w wx /\ Blk wx w.heap.size #[.slice none 0 0] 26 /\ Boxed wx (w.heap.size + 1) 26 vo /\
     zab wx (w.heap.size + 3) vo (zb2 s (i - 1)) /\ Blk wx (w.heap.size + 2) ((T.map (Value.int .i64)).toArray) 2) (fun q _ _ => s.size + 1 - (intOf q).toNat)
    case atStart =>
     refine ⟨1, _, Nat.le_refl _, .inr rfl, rfl, HB.o, H0.o, Hbox.o, ?_, HT.o⟩
     rw [show 1 - 1 = 0 from rfl, zeH]; exact Hown.o
    case round =>
     obtain ⟨i, vo, hi1, hi2, rfl, hb, h0, hbox, hown, hT⟩ := hrel; have HB2 := yq hb; have HK0 := yq h0; have HX := yq hbox; have HO := yq hown; have HT2 := yq hT; have cb' := hbox.cell; have fb' := hbox.frozen; have lb' := hbox.lt; have lT' := hT.lt; have hlp := yq (zep s (i - 1)); obtain ⟨A2, c2, rfl, _⟩ := zae hown; clear hb h0 hbox hown hT HB H0 Hbox Hown HT; by_cases hlt2 : i < s.size
     · have HP := yq (zeG s (i - 1))
       have HLn := yq (show (zb2 s (i - 1)).length <= 1099511627775 by rw [hlp.o]; omega); have hpos : 0 < s.size := by omega
       have hpl1 : 1 <= (zb2 s (i - 1)).length := by have := zfp HS.o hpos; rw [hlp.o]; omega
       have hpl2 : (zb2 s (i - 1)).length <= 4000 := by rw [hlp.o]; omega
       obtain ⟨j1, hj1, hn1, hw1, ht1⟩ := ziB HS.o HTab.o hlt2; have hj1' : (j1 : Int) < 4 := by omega
       have cT1 := HT2.o.cell (i := j1) (zcG yO); obtain ⟨I, hI⟩ : ∃ I : Nat, I = zj2 s (s.data.getD i 0) := ⟨_, rfl⟩
       rw [ht1, <- hI] at cT1; obtain ⟨B, hB⟩ : ∃ B : Nat, (if i - 1 = 0 then (zj2 s (s.data.getD 0 0) : Nat) else (zbH s 4).length + (i - 1) - 1) = B := ⟨_, rfl⟩
       have hBp : zfP s (i - 1) = zaK (B : Int) (I : Int) := by
        unfold zfP; rw [show i - 1 + 1 = i by omega, <- hB, <- hI]; split <;> rfl
       have HBp := yq hBp; have HBq := yq hB; clear hBp hB hI ht1; go_upto_if 49 with fail
       go_cut [8] (fun u8 wx => u8 = .int .i64 (B : Int) /\ wx = wr)
       case first =>
        by_cases h1i : i = 1
        · subst h1i
          obtain ⟨j0, hj0, hn0, hw0, ht0⟩ := ziB HS.o HTab.o hpos; have cT0 := HT2.o.cell (i := j0) (zcG yO); rw [ht0] at cT0; go_wp2_with fail
          go_meet
          exact ⟨by rw [<- HBq.o, if_pos trivial, zbJ hpos]; rfl, rfl⟩
        · have hb1 : ((i : Int) == 1) = false := by rw [beq_eq_false_iff_ne]; omega
          go_wp2
          go_meet
          refine ⟨?_, rfl⟩
          rw [<- HBq.o, if_neg yO, hlp.o]; congr 1; omega
       case rest =>
        obtain ⟨rfl, rfl⟩ := hcut; go_wp2_with fail
        go_region_law (refine zgB wc.drew (base := w.heap.size + 3) yR yR _ _ yR yR (by first | rfl | simp) rfl HO.o.drew HLn.o (by show w.heap.size + 3 <= wc.heap.size; omega) ?_; intro v3 w3 own3 hg3 hb3; have bx3 : Boxed w3 (w.heap.size + 1) 26 _ := Boxed.grown (show Boxed wc.drew (w.heap.size + 1) 26 _ from HX.o) (by decide) HO.o.drew hg3; obtain ⟨A3, c3, rfl, _⟩ := zae own3; have hcb3 := bx3.cell; have hfb3 := bx3.frozen; have hlb3 := bx3.lt)
        all_goals
         have hbz : Below (w.heap.size + 3) wc w3 := (Below.drew (Below.refl _ _)).trans (((Below.refl _ _).alloc (by show w.heap.size + 3 <= wc.heap.size; omega) _).trans hb3); have HBZ := yq hbz; have HO3 := yq own3; have HX3 := yq bx3; clear hbz own3 bx3 hb3 hg3; go_wp2
         go_roundw
         case rel =>
          refine ⟨i + 1, _, by omega, .inl yO, by go_num, (HB2.o.trans (HBZ.o.mono yO)).setCell (by show w.heap.size <= w.heap.size + 1; omega) _, (HK0.o.upB HBZ.o yO).other (by show w.heap.size ≠ w.heap.size + 1; omega) _, Boxed.set _ HX3.o, ?_, (HT2.o.upB HBZ.o yO).other (by show w.heap.size + 2 ≠ w.heap.size + 1; omega) _⟩
          rw [show i + 1 - 1 = (i - 1) + 1 by omega, HP.o, HBp.o]; exact zcs HX3.o HO3.o rfl yS
         case measure => simp [intOf]; omega
     · have HE := yq (show zb2 s (i - 1) = zcn s by rw [zcn]; congr 1; omega)
       have r1 := HK0.o.cell (i := 0) (v := .slice none 0 0) rfl; have r2 := HK0.o.frozen 0; have r3 := HK0.o.lt; go_wp2
       rw [HE.o] at HO HX; refine bodyPost_ret (v := .agg #[.slice A2 (zcn s).length c2]) (by simp [results, Tryz.results176, go_sem, r1, HE.o]) rfl ⟨HB2.o.setCell (by show w.heap.size <= w.heap.size; omega) _, _, ?_, rfl⟩
       exact zac (ownsRow_setCell_below HO.o (a := ⟨w.heap.size, 0, none⟩) (by show w.heap.size < w.heap.size + 3; omega) _) yO
end Go.Proofs.YtdacndamehiglaaGreatDoor
