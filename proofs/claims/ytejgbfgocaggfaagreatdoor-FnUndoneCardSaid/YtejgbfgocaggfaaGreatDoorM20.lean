import Derived.Test.YtejgbfgocaggfaaGreatDoorM19
set_option maxRecDepth 100000
set_option maxHeartbeats 8000000
namespace Go.Proofs.YtejgbfgocaggfaaGreatDoor
open Go.RowKit
def zde (xs : List zaa) : List Int := (zaW xs).getD []
def zeD (xs : List zaa) (e : zam) : Option (List zaa) := za0 xs (zde xs) (zao (zde xs)) e
def zak (xs : List zaa) (e : zam) : List zaa := if zag xs && zat e then if zbp e (zaF xs) then ziQ (zeD xs e) else [] else []
def zah (xs : List zaa) (e : zam) : Int := if zag xs && zat e then if zbp e (zaF xs) then zhc (zeD xs e) else 2 else 1
theorem zfj {e : zam} (h : zat e = true) : znj e /\ zag e.part = true /\ inR e.kind 1 7 = true /\ (2 <= e.kind -> e.i <= e.j) := by
 obtain ⟨k, i, j, kk, part, map⟩ := e; simp only [zat, Bool.and_eq_true, inR, decide_eq_true_eq, Bool.not_eq_true', Bool.and_eq_false_iff, decide_eq_false_iff_not] at h
 obtain ⟨⟨⟨⟨⟨⟨⟨⟨h1, h1'⟩, h2⟩, h3⟩, h4⟩, h5⟩, h6⟩, h7⟩, h8⟩ := h; refine ⟨?_, h7, by simp [inR]; omega, fun hk => ?_⟩
 · unfold znj zjF
   rcases (by omega : k = 1 \/ k = 2 \/ k = 3 \/ k = 4 \/ k = 5 \/ k = 6 \/ k = 7) with rfl | rfl | rfl | rfl | rfl | rfl | rfl
   · exact .inl rfl
   · exact .inr (.inl rfl)
   · exact .inr (.inr (.inl rfl))
   · exact .inr (.inr (.inr (.inl rfl)))
   · exact .inr (.inr (.inr (.inr (.inl rfl))))
   · refine .inr (.inr (.inr (.inr (.inr (.inl ⟨rfl, ?_⟩)))))
     simpa [zaK, zbu, inR] using h4
   · refine .inr (.inr (.inr (.inr (.inr (.inr ⟨rfl, ?_⟩)))))
     have : map.size = 4 /\ zaB map = true := by simpa using h8
     exact ⟨this.2, this.1⟩
 · rcases h5 with h5 | h5
   · simp [zbq] at h5; simp only at hk; omega
   · simp only; omega
theorem zd5 (vG v : Value) (xs : List zaa) (e : zam) (w : World) (hG : Sl zar w w.heap.size vG xs) (hE : ze0 w w.heap.size v e) (hn : xs.length <= 1048576) (hn2 : e.part.length <= 1048576) (hm : e.map.size <= maxLen) (htab : Lib.TabIs Tryz.prog w "math/bits.deBruijn64tab" .u8 zfc) :
  Calls Tryz.prog 28 #[.agg #[vG], v] w (zl8 (zak xs e) (zah xs e) w) := by
 obtain ⟨vR, rfl, hR⟩ := hE; have HG := yq hG; have HR := yq hR; have HT := yq htab; obtain ⟨AG, cG, rfl, _⟩ := hG; obtain ⟨AR, cR, rfl, _⟩ := hR; clear htab; go_enter Tryz.func28, Tryz.ntmps28
 go_wp2_with fail
 refine (zen _ xs _ (HG.o.up yb) yO).mono ?_
 rintro e w1 ⟨rfl, hb_1⟩; have KQ_2 : Blk w1 (w.heap.size + 1 + 1) #[.slice none 0 0] 26 := by have := (Below.unalloc hb_1).2; simpa [Blk] using this
 replace hb_1 := (Below.unalloc hb_1).1
 have KE_3 : Blk w1 (w.heap.size + 1) #[.int .i64 e.kind, .int .i64 e.i, .int .i64 e.j, .int .i64 e.k, .slice AR e.part.length cR, .string e.map] 37 := by have := (Below.unalloc hb_1).2; simpa [Blk] using this
 replace hb_1 := (Below.unalloc hb_1).1
 have KP_4 : Blk w1 (w.heap.size) #[.slice AG xs.length cG] 26 := by have := (Below.unalloc hb_1).2; simpa [Blk] using this
 replace hb_1 := (Below.unalloc hb_1).1
 have z_w1 : w.heap.size <= w1.heap.size := hb_1.size; have KG_5 := yq (HG.o.up hb_1); have KR_6 := yq (HR.o.up hb_1); have KB_7 := yq hb_1; clear HG HR; have lz1 := Blk.lt KQ_2; cases hg : zag xs with
 | false =>
   have q1 : zma xs = 1 := by simp [zma, hg]
   have q2 : zak xs e = [] /\ zah xs e = 1 := by simp [zak, zah, hg]
   have HQ2 := yq q2; clear q2 hg; rw [q1]; clear q1; have cP0_8 := Blk.cell (i := 0) (v := .slice AG xs.length cG) KP_4 rfl; have lP_9 := Blk.lt KP_4; have cQ0_10 := Blk.cell (i := 0) (v := .slice none 0 0) KQ_2 rfl; have zQ0_11 := Blk.frozen KQ_2 0; have lQ_12 := Blk.lt KQ_2; have cE0_13 := Blk.cell (i := 0) (v := .int .i64 e.kind) KE_3 rfl; have cE1_14 := Blk.cell (i := 1) (v := .int .i64 e.i) KE_3 rfl; have cE2_15 := Blk.cell (i := 2) (v := .int .i64 e.j) KE_3 rfl; have cE3_16 := Blk.cell (i := 3) (v := .int .i64 e.k) KE_3 rfl; have cE4_17 := Blk.cell (i := 4) (v := .slice AR e.part.length cR) KE_3 rfl; have cE5_18 := Blk.cell (i := 5) (v := .string e.map) KE_3 rfl; have lE_19 := Blk.lt KE_3; go_wp2_with fail
   refine bodyPost_ret (v := .tuple #[.agg #[.slice none 0 0], .int .i64 1]) (by simp [results, Tryz.results28, go_sem, cQ0_10]) rfl ⟨Below.setCell KB_7.o (show w.heap.size <= w.heap.size + 2 by omega) _, .slice none 0 0, by rw [HQ2.o.1]; exact World.ownsRow_nil _ _ _ _, by rw [HQ2.o.2]⟩
 | true =>
   have q1 : zma xs = 0 := by simp [zma, hg]
   have q2 : zl9 xs = zaF xs := by simp [zl9, hg]
   rw [q1, q2]; clear q1 q2; have HGG := yq hg; clear hg; have cP0_20 := Blk.cell (i := 0) (v := .slice AG xs.length cG) KP_4 rfl; have lP_21 := Blk.lt KP_4; have cQ0_22 := Blk.cell (i := 0) (v := .slice none 0 0) KQ_2 rfl; have zQ0_23 := Blk.frozen KQ_2 0; have lQ_24 := Blk.lt KQ_2; have cE0_25 := Blk.cell (i := 0) (v := .int .i64 e.kind) KE_3 rfl; have cE1_26 := Blk.cell (i := 1) (v := .int .i64 e.i) KE_3 rfl; have cE2_27 := Blk.cell (i := 2) (v := .int .i64 e.j) KE_3 rfl; have cE3_28 := Blk.cell (i := 3) (v := .int .i64 e.k) KE_3 rfl; have cE4_29 := Blk.cell (i := 4) (v := .slice AR e.part.length cR) KE_3 rfl; have cE5_30 := Blk.cell (i := 5) (v := .string e.map) KE_3 rfl; have lE_31 := Blk.lt KE_3; go_wp2_with fail
   refine (zcf _ e _ ⟨_, rfl, KR_6.o.up yb⟩ yO hm).mono ?_
   rintro e w2 ⟨rfl, hb_32⟩; have z_w2 : w1.heap.size <= w2.heap.size := hb_32.size; have KG_33 := yq (KG_5.o.up hb_32); have KR_34 := yq (KR_6.o.up hb_32); have KQ_35 := Blk.up KQ_2 hb_32; have KE_36 := Blk.up KE_3 hb_32; have KP_37 := Blk.up KP_4 hb_32; have KB_38 := yq (Below.tr KB_7.o hb_32); clear hb_1 cP0_20 lP_21 cQ0_22 zQ0_23 lQ_24 cE0_25 cE1_26 cE2_27 cE3_28 cE4_29 cE5_30 lE_31 KG_5 KR_6 KQ_2 KE_3 KP_4 KB_7; cases he : zat e with
   | false =>
     have q2 : zak xs e = [] /\ zah xs e = 1 := by simp [zak, zah, he]
     have HQ2 := yq q2; clear q2 he; have cP0_39 := Blk.cell (i := 0) (v := .slice AG xs.length cG) KP_37 rfl; have lP_40 := Blk.lt KP_37; have cQ0_41 := Blk.cell (i := 0) (v := .slice none 0 0) KQ_35 rfl; have zQ0_42 := Blk.frozen KQ_35 0; have lQ_43 := Blk.lt KQ_35; have cE0_44 := Blk.cell (i := 0) (v := .int .i64 e.kind) KE_36 rfl; have cE1_45 := Blk.cell (i := 1) (v := .int .i64 e.i) KE_36 rfl; have cE2_46 := Blk.cell (i := 2) (v := .int .i64 e.j) KE_36 rfl; have cE3_47 := Blk.cell (i := 3) (v := .int .i64 e.k) KE_36 rfl; have cE4_48 := Blk.cell (i := 4) (v := .slice AR e.part.length cR) KE_36 rfl; have cE5_49 := Blk.cell (i := 5) (v := .string e.map) KE_36 rfl; have lE_50 := Blk.lt KE_36; go_wp2_with fail
     refine bodyPost_ret (v := .tuple #[.agg #[.slice none 0 0], .int .i64 1]) (by simp [results, Tryz.results28, go_sem, cQ0_41]) rfl ⟨Below.setCell KB_38.o (show w.heap.size <= w.heap.size + 2 by omega) _, .slice none 0 0, by rw [HQ2.o.1]; exact World.ownsRow_nil _ _ _ _, by rw [HQ2.o.2]⟩
   | true =>
     have HE := yq (zfj he); have HE0 := yq he; clear he; have cP0_51 := Blk.cell (i := 0) (v := .slice AG xs.length cG) KP_37 rfl; have lP_52 := Blk.lt KP_37; have cQ0_53 := Blk.cell (i := 0) (v := .slice none 0 0) KQ_35 rfl; have zQ0_54 := Blk.frozen KQ_35 0; have lQ_55 := Blk.lt KQ_35; have cE0_56 := Blk.cell (i := 0) (v := .int .i64 e.kind) KE_36 rfl; have cE1_57 := Blk.cell (i := 1) (v := .int .i64 e.i) KE_36 rfl; have cE2_58 := Blk.cell (i := 2) (v := .int .i64 e.j) KE_36 rfl; have cE3_59 := Blk.cell (i := 3) (v := .int .i64 e.k) KE_36 rfl; have cE4_60 := Blk.cell (i := 4) (v := .slice AR e.part.length cR) KE_36 rfl; have cE5_61 := Blk.cell (i := 5) (v := .string e.map) KE_36 rfl; have lE_62 := Blk.lt KE_36; go_wp2_with fail
     refine (zn7 _ e (zaF xs) _ ⟨_, rfl, KR_34.o.up yb⟩ HE.o.2.2.1 HE.o.2.2.2).mono ?_
     rintro e w3 ⟨rfl, hb_63⟩; have z_w3 : w2.heap.size <= w3.heap.size := hb_63.size; have KG_64 := yq (KG_33.o.up hb_63); have KR_65 := yq (KR_34.o.up hb_63); have KQ_66 := Blk.up KQ_35 hb_63; have KE_67 := Blk.up KE_36 hb_63; have KP_68 := Blk.up KP_37 hb_63; have KB_69 := yq (Below.tr KB_38.o hb_63); clear hb_32 cP0_51 lP_52 cQ0_53 zQ0_54 lQ_55 cE0_56 cE1_57 cE2_58 cE3_59 cE4_60 cE5_61 lE_62 KG_33 KR_34 KQ_35 KE_36 KP_37 KB_38; cases hf : zbp e (zaF xs) with
     | false =>
       have q2 : zak xs e = [] /\ zah xs e = 2 := by simp [zak, zah, HGG.o, HE0.o, hf]
       have HQ2 := yq q2; clear q2 hf; have cP0_70 := Blk.cell (i := 0) (v := .slice AG xs.length cG) KP_68 rfl; have lP_71 := Blk.lt KP_68; have cQ0_72 := Blk.cell (i := 0) (v := .slice none 0 0) KQ_66 rfl; have zQ0_73 := Blk.frozen KQ_66 0; have lQ_74 := Blk.lt KQ_66; have cE0_75 := Blk.cell (i := 0) (v := .int .i64 e.kind) KE_67 rfl; have cE1_76 := Blk.cell (i := 1) (v := .int .i64 e.i) KE_67 rfl; have cE2_77 := Blk.cell (i := 2) (v := .int .i64 e.j) KE_67 rfl; have cE3_78 := Blk.cell (i := 3) (v := .int .i64 e.k) KE_67 rfl; have cE4_79 := Blk.cell (i := 4) (v := .slice AR e.part.length cR) KE_67 rfl; have cE5_80 := Blk.cell (i := 5) (v := .string e.map) KE_67 rfl; have lE_81 := Blk.lt KE_67; go_wp2_with fail
       refine bodyPost_ret (v := .tuple #[.agg #[.slice none 0 0], .int .i64 2]) (by simp [results, Tryz.results28, go_sem, cQ0_72]) rfl ⟨Below.setCell KB_69.o (show w.heap.size <= w.heap.size + 2 by omega) _, .slice none 0 0, by rw [HQ2.o.1]; exact World.ownsRow_nil _ _ _ _, by rw [HQ2.o.2]⟩
     | true =>
       have hls : zaW xs = some (zde xs) := by
        obtain ⟨ls, h⟩ := (zai HGG.o).2; simp [zde, h]
       have q2 : zak xs e = ziQ (za0 xs (zde xs) (zao (zde xs)) e) /\ zah xs e = zhc (za0 xs (zde xs) (zao (zde xs)) e) := by simp [zak, zah, HGG.o, HE0.o, hf, zeD]
       have HQ2 := yq q2; have HLS := yq hls; clear q2 hf hls; have cP0_82 := Blk.cell (i := 0) (v := .slice AG xs.length cG) KP_68 rfl; have lP_83 := Blk.lt KP_68; have cQ0_84 := Blk.cell (i := 0) (v := .slice none 0 0) KQ_66 rfl; have zQ0_85 := Blk.frozen KQ_66 0; have lQ_86 := Blk.lt KQ_66; have cE0_87 := Blk.cell (i := 0) (v := .int .i64 e.kind) KE_67 rfl; have cE1_88 := Blk.cell (i := 1) (v := .int .i64 e.i) KE_67 rfl; have cE2_89 := Blk.cell (i := 2) (v := .int .i64 e.j) KE_67 rfl; have cE3_90 := Blk.cell (i := 3) (v := .int .i64 e.k) KE_67 rfl; have cE4_91 := Blk.cell (i := 4) (v := .slice AR e.part.length cR) KE_67 rfl; have cE5_92 := Blk.cell (i := 5) (v := .string e.map) KE_67 rfl; have lE_93 := Blk.lt KE_67; go_wp2_with fail
       refine (zlR _ (.slice AR e.part.length cR) xs (zde xs) e _ (KG_64.o.up yb) (KR_65.o.up yb) HLS.o hn HE.o.1 HE.o.2.1 (zi0 HT.o KB_69.o)).mono ?_
       rintro e w4 ⟨hb_94, v4, own4, rfl⟩; have z_w4 : w3.heap.size <= w4.heap.size := hb_94.size; have KG_95 := yq (KG_64.o.up hb_94); have KR_96 := yq (KR_65.o.up hb_94); have KQ_97 := Blk.up KQ_66 hb_94; have KE_98 := Blk.up KE_67 hb_94; have KP_99 := Blk.up KP_68 hb_94; have KB_100 := yq (Below.tr KB_69.o hb_94); clear hb_63 cP0_82 lP_83 cQ0_84 zQ0_85 lQ_86 cE0_87 cE1_88 cE2_89 cE3_90 cE4_91 cE5_92 lE_93 KG_64 KR_65 KQ_66 KE_67 KP_68 KB_69; obtain ⟨A4, k4, rfl, _⟩ := zae own4; have HO4 := yq own4; clear own4; have cQ0_101 := Blk.cell (i := 0) (v := .slice none 0 0) KQ_97 rfl; have zQ0_102 := Blk.frozen KQ_97 0; have lQ_103 := Blk.lt KQ_97; go_wp2_with fail
       refine bodyPost_ret (v := .tuple #[.agg #[.slice A4 (ziQ (za0 xs (zde xs) (zao (zde xs)) e)).length k4], .int .i64 (zhc (za0 xs (zde xs) (zao (zde xs)) e))]) (by simp [results, Tryz.results28, go_sem, cQ0_101]) rfl ⟨Below.setCell KB_100.o (show w.heap.size <= w.heap.size + 2 by omega) _, .slice A4 (ziQ (za0 xs (zde xs) (zao (zde xs)) e)).length k4, ?_, by rw [HQ2.o.2]⟩
       rw [HQ2.o.1]; exact zad (ownsRow_setCell_below HO4.o (a := ⟨w.heap.size + 2, 0, none⟩) (by show w.heap.size + 2 < _; omega) _) yO
def zqm (e : zam) (u : Value) : Prop := e.part = [] /\ ∃ A c, u = .slice A 0 c /\ c <= maxLen
theorem zbl {W : World} {lo : Nat} (h : lo <= W.heap.size) : zh6 W lo W.heap.size (.slice none 0 0) [] :=
 ⟨[], _, rfl, World.ownsRow_nil _ _ _ _, fun _ h => (by simp [Value.ownBlock] at h), Nat.le_refl _, zbT.nil h⟩
theorem za8 {W : World} {lo N : Nat} (hN : N = W.heap.size) (h : lo <= W.heap.size) : zh6 (W.alloc (Obj.cells #[] 37)) lo (W.heap.size + 1) (.slice (some ⟨N, 0, none⟩) 0 0) [] := by
 subst hN; exact ⟨[], _, rfl, World.ownsRow_lit W #[] 0 h (Nat.zero_le _) rfl, fun g hg => by simp [Value.ownBlock] at hg; omega, by simp, zbT.nil yO⟩
theorem zcS {W : World} {lo N : Nat} {e : zam} {u : Value} (hN : N = W.heap.size) (h : lo <= W.heap.size) (hu : zqm e u \/ znQ W lo W.heap.size u e.part) :
  zh6 (W.alloc (Obj.cells #[.int .i64 e.kind, .int .i64 e.i, .int .i64 e.j, .int .i64 e.k, u, .string e.map] 37)) lo (W.heap.size + 1) (.slice (some ⟨N, 0, none⟩) 1 1) [e] := by
 subst hN; have hrow := World.ownsRow_lit (e := 37) (size := 6) W #[.int .i64 e.kind, .int .i64 e.i, .int .i64 e.j, .int .i64 e.k, u, .string e.map] 1 h (by decide) rfl; refine ⟨[(e, u)], fun j => if j = 0 then lo else W.heap.size, rfl, hrow, fun g hg => by simp [Value.ownBlock] at hg; omega, by simp, Nat.le_refl _, ?_, ?_, ?_⟩
 · intro i j hij
   show (if i = 0 then lo else W.heap.size) <= (if j = 0 then lo else W.heap.size)
   repeat' split
   all_goals omega
 · intro i
   show (if i = 0 then lo else W.heap.size) <= W.heap.size + 1
   split <;> omega
 · intro i p hp
   have hi : i = 0 := by
    have := (List.getElem?_eq_some_iff.1 hp).1
    simp at this; exact this
   subst hi; simp at hp
   subst hp; refine ⟨?_, fun g hg => by simp [Value.ownBlock] at hg; simp; omega⟩
   rcases hu with hu | hu
   · exact .inl hu
   · exact .inr (by simpa using hu.alloc _)
def zgD (w : World) (lo hp : Nat) (v : Value) (es : List zam) : Prop :=
 ∃ ps r, ps.map Prod.fst = es /\ w.ownsRow lo 37 6 v es.length (ps.flatMap za1) /\ zbT w v lo hp r ps
theorem zgD.oeds {w : World} {lo hp : Nat} {v : Value} {es : List zam} (h : zgD w lo hp v es) (hh : hp <= w.heap.size) : zh6 w lo w.heap.size v es := by
 obtain ⟨ps, r, h1, h2, h3⟩ := h; exact ⟨ps, r, h1, h2, fun g hg => (World.ownsRow.lt h2 g hg).2, Nat.le_refl _, h3.le yL hh⟩
theorem zch {W : World} {lo N : Nat} (hN : N = W.heap.size) (h : lo <= W.heap.size) : zgD (W.alloc (Obj.cells #[] 37)) lo lo (.slice (some ⟨N, 0, none⟩) 0 0) [] := by
 subst hN; exact ⟨[], _, rfl, World.ownsRow_lit W #[] 0 h (Nat.zero_le _) rfl, zbT.nil yL⟩
theorem zgD.keep {w w' : World} {lo hp : Nat} {v : Value} {es : List zam} (h : zgD w lo hp v es) (hb : Below w.heap.size w w') (hh : hp <= w.heap.size) : zgD w' lo hp v es := by
 obtain ⟨ps, r, h1, h2, h3⟩ := h; exact ⟨ps, r, h1, zaI h2 hb, h3.keep (fun g _ b _ => hb.block g yO) hb.size⟩
theorem zbT.reval {w : World} {v v' : Value} {lo hi N : Nat} {r : Nat -> Nat} {ps : List (zam × Value)} (h : zbT w v lo hi r ps) (hv : v'.ownBlock = v.ownBlock \/ v'.ownBlock = some N) (hN : hi <= N) : zbT w v' lo hi r ps :=
 ⟨h.low, h.mono, h.high, fun i p hp => by
  obtain ⟨h1, h2⟩ := h.at_ i p hp; refine ⟨h1, fun g hg => ?_⟩
  rcases hv with hv | hv
  · exact h2 g (hv.symm.trans hg)
  · have : g = N := by rw [hv] at hg; exact (Option.some.inj hg).symm
    have := h.high (2 * i + 1)
    omega⟩
theorem zdQ {W : World} {ops : Array Oper} {rest : List Oper} {o : Oper} {a : Act} {Q : Exit -> Act -> World -> Prop} (hgd : o.guard = none) (s x : Operand)
  (ho : o.op = .call { callee := .builtin .append, args := #[s, x], argTypes := #[28, 28] }) {e : zam} {u : Value} {lo hp pa pb : Nat} {v : Value} {es : List zam}
  (hs : a.eval s = v) {N : Nat} (hx : a.eval x = .slice (some ⟨N, 0, none⟩) 1 1) (hN : N = W.heap.size) (hown : zgD W lo hp v es) (hlen : es.length <= 1048576) (hbase : lo <= W.heap.size)
  (hu1 : u.oneCell' = true) (hu : zh5 W v pa pb (e, u)) (h1 : hp <= pa) (h2 : pa <= pb) (h3 : pb <= W.heap.size) (h4 : lo <= pa)
  (h : ∀ g' c' w', zgD w' lo pb (.slice (some ⟨g', 0, none⟩) (es.length + 1) c') (es ++ [e]) -> (v.ownBlock = some g' \/ g' = W.heap.size + 1) -> W.grownBy w' v.ownBlock -> Below lo W w' -> wpList Tryz.prog ops Q rest (a.put o.dst (.slice (some ⟨g', 0, none⟩) (es.length + 1) c')) w') :
  wpList Tryz.prog ops Q (o :: rest) a (W.alloc (.cells #[.int .i64 e.kind, .int .i64 e.i, .int .i64 e.j, .int .i64 e.k, u, .string e.map] 37)) := by
 subst hN; obtain ⟨ps, r, hm, hrow, hP⟩ := hown; obtain ⟨i0, hi0, hz0, hz1, hz2⟩ := info_parts Tryz.infoEd; refine zem hgd s x 28 ho i0 _ 6 72 Tryz.underlying28 hi0 hz0 hz1 hz2 rfl (by decide) hs hx rfl (by simp [Value.oneCell'] at hu1 |-; exact hu1) hrow yO yO hbase ?_
 intro v' w' k1 k2 k3; have hg : W.grownBy w' v.ownBlock := ⟨k2.os, k2.tape, k2.output, Nat.le_trans yS k2.size, fun y hy hne => (k2.block y (by simp; omega) hne).trans (Below.heap_alloc W _ y hy)⟩
 have hb : Below lo W w' := (Below.refl lo W).grown hg hbase (fun y hy => (World.ownsRow.lt hrow y hy).1); have k1' : w'.ownsRow lo 37 6 v' (es.length + 1) ((ps ++ [(e, u)]).flatMap za1) := by simpa [za1] using k1
 obtain ⟨g', c', rfl, _⟩ := zbI k1' yO; refine h g' c' w' ?_ (k3.imp (fun q => q.symm.trans rfl) (fun q => by simpa [Value.ownBlock] using q)) hg hb
 obtain ⟨r', hr'⟩ := (hP.le yL h1).snoc hu h2 h4; refine ⟨ps ++ [(e, u)], r', by rw [List.map_append, hm]; rfl, by simpa using k1', ?_⟩
 refine zbT.reval (v := v) (N := W.heap.size + 1) (hr'.keep (fun y _ hy hne => hg.block y yO (fun e => hne e.symm)) hg.size) k3 yO
theorem zbZ (W : World) {W' : World} {e : zam} {u : Value} (hW : W' = W.alloc (.cells #[.int .i64 e.kind, .int .i64 e.i, .int .i64 e.j, .int .i64 e.k, u, .string e.map] 37))
  {ops : Array Oper} {o : Oper} {a : Act} {K : Act -> World -> Prop} {Q : Exit -> Act -> World -> Prop} {E : Prop} (hgd : o.guard = none) (s x : Operand)
  (ho : o.op = .call { callee := .builtin .append, args := #[s, x], argTypes := #[28, 28] }) {lo hp pa pb : Nat} {v : Value} {es : List zam}
  (hs : a.eval s = v) {N : Nat} (hx : a.eval x = .slice (some ⟨N, 0, none⟩) 1 1) (hN : N = W.heap.size) (hown : zgD W lo hp v es) (hlen : es.length <= 1048576) (hbase : lo <= W.heap.size)
  (hu1 : u.oneCell' = true) (hu : zh5 W v pa pb (e, u)) (h1 : hp <= pa) (h2 : pa <= pb) (h3 : pb <= W.heap.size) (h4 : lo <= pa)
  (h : ∀ g' c' w', zgD w' lo pb (.slice (some ⟨g', 0, none⟩) (es.length + 1) c') (es ++ [e]) -> (v.ownBlock = some g' \/ g' = W.heap.size + 1) -> W.grownBy w' v.ownBlock -> Below lo W w' -> K (a.put o.dst (.slice (some ⟨g', 0, none⟩) (es.length + 1) c')) w') :
  if Region.wanted o (yielded ops a.tmps) = true then Oper.wp Tryz.prog o a W' K Q else E := by
 subst hW; subst hN; have hw : Region.wanted o (yielded ops a.tmps) = true := by simp [Region.wanted, hgd]
 rw [if_pos hw]; obtain ⟨ps, r, hm, hrow, hP⟩ := hown; obtain ⟨i0, hi0, hz0, hz1, hz2⟩ := info_parts Tryz.infoEd
 obtain ⟨v', w', hrun, k1, k2, _, k3⟩ := run_append_own_at (P := Tryz.prog) (W.alloc (.cells #[.int .i64 e.kind, .int .i64 e.i, .int .i64 e.j, .int .i64 e.k, u, .string e.map] 37)) lo 28 o.type 37 i0 _ 6 72 Tryz.underlying28 hi0 hz0 hz1 hz2 rfl (by decide) v es.length _ (World.ownsRow.alloc hrow _) ⟨W.heap.size, 0, none⟩ 1 1 (za1 (e, u)) rfl
  (fun j y hy => by
    have : (W.alloc (.cells #[.int .i64 e.kind, .int .i64 e.i, .int .i64 e.j, .int .i64 e.k, u, .string e.map] 37)).cell? ⟨W.heap.size, j, none⟩ = (#[Value.int .i64 e.kind, .int .i64 e.i, .int .i64 e.j, .int .i64 e.k, u, .string e.map] : Array Value)[j]? := cell_of_row _ _ _ _ 37 (0, 0) (heap_alloc_new W _); have ha : (⟨W.heap.size, 0, none⟩ : Addr).add j = ⟨W.heap.size, j, none⟩ := by unfold Addr.add; split <;> simp_all
    rw [ha, this]; simpa [za1] using hy) (by simp [za1, Value.oneCell'] at hu1 |-; exact hu1) (by simp only [maxLen]; omega) yO (by simp; omega)
 unfold Oper.wp execOp; simp only [ho, resolve, invoke, builtin, Sem.run_bind, Sem.run_pure, Result.andThen_ok, List.map_toArray, List.map_cons, List.map_nil, hs, hx, hrun]
 have hg : W.grownBy w' v.ownBlock := ⟨k2.os, k2.tape, k2.output, Nat.le_trans yS k2.size, fun y hy hne => (k2.block y (by simp; omega) hne).trans (Below.heap_alloc W _ y hy)⟩
 have hb : Below lo W w' := (Below.refl lo W).grown hg hbase (fun y hy => (World.ownsRow.lt hrow y hy).1); have k1' : w'.ownsRow lo 37 6 v' (es.length + 1) ((ps ++ [(e, u)]).flatMap za1) := by simpa [za1] using k1
 obtain ⟨g', c', rfl, _⟩ := zbI k1' yO; refine h g' c' w' ?_ (k3.imp (fun q => q.symm.trans rfl) (fun q => by simpa [Value.ownBlock] using q)) hg hb
 obtain ⟨r', hr'⟩ := (hP.le yL h1).snoc hu h2 h4; refine ⟨ps ++ [(e, u)], r', by rw [List.map_append, hm]; rfl, by simpa using k1', ?_⟩
 refine zbT.reval (v := v) (N := W.heap.size + 1) (hr'.keep (fun y _ hy hne => hg.block y yO (fun e => hne e.symm)) hg.size) (by simpa using k3) yO
def zkw (xs : List zaa) (k i : Nat) : Bool := (xs.take i).any fun r => decide (r.letter = (zdn (ltr k)).letter)
theorem zlS {xs : List zaa} {k i : Nat} {r : zaa} (h : xs[i]? = some r) : zkw xs k (i + 1) = (zkw xs k i || decide (r.letter = (zdn (ltr k)).letter)) := by
 unfold zkw; rw [List.take_add_one, h, List.any_append]; simp
theorem znl {xs : List zaa} (hx : za2 xs) (k : Nat) : zkw xs k xs.length = zkb xs k := by
 unfold zkw zkb; rw [List.take_length, Bool.eq_iff_iff, List.any_eq_true, List.contains_iff_mem]; constructor
 · rintro ⟨r, hr, he⟩
   have he2 : r.letter = (zdn (ltr k)).letter := by simpa using he
   obtain ⟨i, hi⟩ := List.mem_iff_getElem?.1 hr
   have hp : r.pair = false := by
    unfold zaa.pair; rw [he2]; rfl
   obtain ⟨q1, q2, q3⟩ := zce (hx i r hi) hp
   have : r = zdn (ltr k) := by
    cases r
    simp only at he2 q2 q3
    simp [zdn, he2, q2, q3]
   rw [<- this]; exact hr
 · intro h
   exact ⟨_, h, by simp⟩
theorem zbU {xs : List zaa} (h : za2 xs) : zaY xs := by
 intro r hr; obtain ⟨k, hk⟩ := List.mem_iff_getElem?.1 hr; cases hp : r.pair with
 | true => have : r.letter.size = 0 := by simpa [zaa.pair] using hp
           omega
 | false => have := (zce (h k r hk) hp).1
            omega
theorem zd6 {w2 W w3 : World} {M : Nat} {vs vo : Value} {T : List Int} {P : List zaa} {a : Array Value} {t : TypeId} {o : Obj} (hb : Below M w2 W) (hbox : Boxed W M 26 vo) (hown : zac W (M + 2) vo P) (hi : zan W (M + 2) vs T) (hst : Blk W (M + 1) a t)
  (hg : (W.alloc o).grownBy w3 vs.ownBlock) (hM : M + 2 <= W.heap.size) : Below M w2 w3 /\ Boxed w3 M 26 vo /\ zac w3 (M + 2) vo P /\ Blk w3 (M + 1) a t := by
 have hlt : ∀ k, vs.ownBlock = some k -> M + 2 <= k := fun k hk => (World.ownsRow.lt hi k hk).1; refine ⟨(hb.alloc yO o).grown hg (by simp; omega) (fun k hk => by have := hlt k hk; omega), Boxed.kept (Boxed.alloc hbox o) hg (fun e => by have := hlt M e.symm; omega), zfW hown hi hg, ?_⟩
 exact (hg.block (M + 1) (by simp; omega) (fun e => by have := hlt (M + 1) e.symm; omega)).trans (hst.alloc o)
theorem zlT {x Z : Nat} {wr w2 w3 : World} {o : Obj} {v7 v3 vZ vG : Value} {G : List zaa} {t : TypeId} (hb : Below wr.heap.size wr w2) (hg : (w2.alloc o).grownBy w3 v7.ownBlock) (hor : v3.ownBlock = v7.ownBlock \/ v3.ownBlock = some (w2.heap.size + 1))
  (hob : ∀ g, v7.ownBlock = some g -> g < x \/ Z < g) (hz : Blk wr Z #[vZ] t) (hs : SlS zar wr (fun b => x <= b /\ b < Z) vG G) (hx : x <= Z) : Blk w3 Z #[vZ] t /\ SlS zar w3 (fun b => x <= b /\ b < Z) vG G /\ ∀ g, v3.ownBlock = some g -> g < x \/ Z < g := by
 have hZ := hz.lt; have h2 := hb.size; have hne : ∀ b', x <= b' -> b' <= Z -> some b' ≠ v7.ownBlock := fun b' h1 h2 e => by rcases hob b' e.symm with h | h <;> omega
 refine ⟨(hg.block Z (by simp; omega) (hne Z hx yL)).trans ((hz.up hb).alloc _), hs.keep (fun b hb' => (hg.block b (by simp; omega) (hne b hb'.1 yO)).trans ((Below.heap_alloc _ _ _ yO).trans (hb.block b yO))), fun g hg' => ?_⟩
 rcases hor with h | h
 · exact hob g (h.symm.trans hg')
 · have h8 := Option.some.inj (h.symm.trans hg')
   right; omega
theorem zhd {W : World} {ops : Array Oper} {o : Oper} {a : Act} {K : Act -> World -> Prop} {Q : Exit -> Act -> World -> Prop} {E : Prop} (hgd : o.guard = none) (s x : Operand)
  (ho : o.op = .call { callee := .builtin .append, args := #[s, x], argTypes := #[24, 24] }) {t : ByteArray} {p q : Int} {base : Nat} {v : Value} {l : List zaa}
  (hs : a.eval s = v) {N : Nat} (hx : a.eval x = .slice (some ⟨N, 0, none⟩) 1 1) (hN : N = W.heap.size) (hown : zac W base v l) (hlen : l.length <= 1099511627775) (hbase : base <= W.heap.size)
  (h : ∀ v' w', zac w' base v' (l ++ [⟨t, p, q⟩]) -> (W.alloc (.cells #[.string t, .int .i64 p, .int .i64 q] 88)).grownBy w' v.ownBlock -> (v'.ownBlock = v.ownBlock \/ v'.ownBlock = some (W.heap.size + 1)) ->
    Below base (W.alloc (.cells #[.string t, .int .i64 p, .int .i64 q] 88)) w' -> K (a.put o.dst v') w') :
  if Region.wanted o (yielded ops a.tmps) = true then Oper.wp Tryz.prog o a (W.alloc (.cells #[.string t, .int .i64 p, .int .i64 q] 88)) K Q else E := by
 subst hN; have hw : Region.wanted o (yielded ops a.tmps) = true := by simp [Region.wanted, hgd]
 rw [if_pos hw]; obtain ⟨i0, hi0, hz0, hz1, hz2⟩ := info_parts Tryz.infoR
 have hsl : SlS zar (W.alloc (.cells #[.string t, .int .i64 p, .int .i64 q] 88)) (fun b => b = W.heap.size) (.slice (some ⟨W.heap.size, 0, none⟩) 1 1) [⟨t, p, q⟩] := ⟨_, 1, rfl, Nat.le_refl _, by simp [maxLen], fun _ => ⟨W.heap.size, 0, rfl, rfl, fun k r hk => ⟨r.cells, rfl, fun j u hu => by
  have hk0 : k = 0 := by
   have := (List.getElem?_eq_some_iff.1 hk).1
   simp at this; exact this
  subst hk0; simp at hk
  subst hk; have hc : (W.alloc (.cells #[.string t, .int .i64 p, .int .i64 q] 88)).cell? ⟨W.heap.size, j, none⟩ = (#[Value.string t, .int .i64 p, .int .i64 q] : Array Value)[j]? := cell_of_row _ _ _ _ 88 (0, 0) (heap_alloc_new W _); simp only [Nat.zero_mul, Nat.zero_add]
  rw [hc]
  simpa [zaa.cells] using hu⟩⟩⟩
 obtain ⟨A, c, e, hc, hm, hrow⟩ := hsl; injection e with e1 e2 e3; subst e1
 obtain ⟨v', w', hrun, h2, h3, _, h5⟩ := run_append_own_at (P := Tryz.prog) (W.alloc (.cells #[.string t, .int .i64 p, .int .i64 q] 88)) base 24 o.type 88 i0 _ 3 32 Tryz.underlying24 hi0 hz0 hz1 hz2 rfl (by decide) v _ _ (World.ownsRow.alloc hown _) ⟨W.heap.size, 0, none⟩ 1 1 (([⟨t, p, q⟩] : List zaa).flatMap zaa.cells)
  (zcU _) (zcF hrow) (zej _) (by simp only [maxLen]; omega) yO (by simp; omega)
 unfold Oper.wp execOp; simp only [ho, resolve, invoke, builtin, Sem.run_bind, Sem.run_pure, Result.andThen_ok, List.map_toArray, List.map_cons, List.map_nil, hs, hx, hrun]
 refine h v' w' (by unfold zac; simpa using h2) h3 ?_ ((Below.refl base _).grown h3 (by simp; omega) (fun k hk => (World.ownsRow.lt hown k hk).1))
 simpa using h5
theorem zkx (v vW : Value) (xs : List zaa) (ws : List ByteArray) (w : World) (h : Sl zar w w.heap.size v xs) (hW : Sl zic w w.heap.size vW ws) (hsm : zaY xs) (hx : zag xs = true) (hws : ∀ s ∈ ws, zaB s = true) (hl4 : ws.length = 4) :
  Calls Tryz.prog 89 #[.agg #[v], vW] w (zl8 (zec xs ws) (zdd xs ws) w) := by
 have HS := yq h; have HW := yq hW; have HX := yq hx; have HWS := yq hws; have HL4 := yq hl4; have hn4 : xs.length <= 400 := (zai hx).1; have hokx := yq (zaz (zai hx).2.choose_spec); have HSM := yq hsm; obtain ⟨A, c, rfl, _⟩ := h; obtain ⟨AW, cW, rfl, _⟩ := hW; rw [hl4]; clear hx hws hl4 hsm; go_enter Tryz.func89, Tryz.ntmps89
 go_wp2_with fail
 refine (zaZ w.heap.size 0 _ xs _ (by simp [go_sem]) (by simp; omega) (HS.o.up yb) HSM.o).mono ?_
 rintro e w1 ⟨rfl, hb_1⟩; have KQ_2 : Blk w1 (w.heap.size + 1) #[.slice none 0 0] 26 := by have := (Below.unalloc hb_1).2; simpa [Blk] using this
 replace hb_1 := (Below.unalloc hb_1).1
 have KP_3 : Blk w1 (w.heap.size) #[.slice A xs.length c] 26 := by have := (Below.unalloc hb_1).2; simpa [Blk] using this
 replace hb_1 := (Below.unalloc hb_1).1
 have z_w1 : w.heap.size <= w1.heap.size := hb_1.size; have KB_4 := yq hb_1; rw [HX.o]; have HK0 := yq KP_3; have HK1 := yq KQ_2; have HB2 := yq KB_4.o; have HW2 := yq (show Sl zic w1 w1.heap.size (.slice AW 4 cW) ws by have := HW.o.up HB2.o; rw [HL4.o] at this; exact this); have HS2 := yq (HS.o.up HB2.o); go_wp2_with fail
 go_loopw [6] (fun q wr => ∃ k : Nat, k <= 4 /\ q = .int .i64 (k : Int) /\ wr = w1) (fun q _ => 4 - (intOf q).toNat)
 case atStart => exact ⟨0, by omega, rfl, rfl⟩
 case round =>
  obtain ⟨k, hk, rfl, rfl⟩ := hrel; by_cases hlt : k < 4
  · obtain ⟨s, hs⟩ : ∃ s, ws[k]? = some s := ⟨_, ye (by rw [HL4.o]; exact hlt)⟩
    obtain ⟨AW', cW', eW, _, _, hrow⟩ := HW2.o; injection eW with eW1 eW2 eW3; subst eW1; obtain ⟨b, o, rfl, hbl, hcell⟩ := hrow.str (k := k) (by rw [HL4.o]; exact hlt); have hcw := hcell k s hs; have hki : (k : Int) < 4 := by omega
    have HWk := yq (HWS.o s (List.mem_of_getElem? hs)); clear hcell hrow hs eW2 eW3; go_wp2_with fail
    refine (zfp s _ (by have h1 := HWk.o; unfold zaB at h1; simp only [Bool.and_eq_true, decide_eq_true_eq] at h1; unfold maxLen; omega)).mono ?_
    rintro e w' ⟨rfl, rfl⟩; rw [HWk.o]; go_wp2_with fail
    go_roundw
    case rel => exact ⟨k + 1, by omega, by go_num, trivial⟩
    case measure => simp [intOf]; omega
  · have hk4 : k = 4 := by omega
    subst hk4; rw [show ((4 : Nat) : Int) = 4 from rfl]; obtain ⟨wo, rfl⟩ : ∃ wo : World, wo = wr := ⟨_, rfl⟩
    go_wp2_with fail
    obtain ⟨M, hM⟩ : ∃ M, M = wo.heap.size := ⟨_, rfl⟩
    have HM := yq hM; rw [<- hM]
    have hSt : Blk ((wo.alloc (Obj.cells #[Value.slice none 0 0] 26)).alloc (Obj.cells #[Value.int IntKind.i64 (-1), Value.int IntKind.i64 (-1), Value.int IntKind.i64 (-1), Value.int IntKind.i64 (-1)] 2)) (M + 1) #[Value.int IntKind.i64 (-1), Value.int IntKind.i64 (-1), Value.int IntKind.i64 (-1), Value.int IntKind.i64 (-1)] 2 := by
     rw [hM]; repeat (first | (apply Blk.new'; simp; done) | apply Blk.alloc | apply Blk.drew)
    have hOut : Blk ((wo.alloc (Obj.cells #[Value.slice none 0 0] 26)).alloc (Obj.cells #[Value.int IntKind.i64 (-1), Value.int IntKind.i64 (-1), Value.int IntKind.i64 (-1), Value.int IntKind.i64 (-1)] 2)) M #[.slice none 0 0] 26 := by
     rw [hM]; repeat (first | (apply Blk.new'; simp; done) | apply Blk.alloc | apply Blk.drew)
    have HSt := yq hSt; have HOut := yq hOut; have z20 : w.heap.size <= M := by rw [hM]; exact HB2.o.size
    have z21 : w.heap.size + 1 < M := by rw [hM]; exact HK1.o.lt
    clear hSt hOut hM KQ_2 KP_3 hb_1 z_w1 KB_4; go_loopw [9, 10, 11, 12, 13, 14] (fun q _ _ _ _ _ wr => ∃ (k : Nat) (vo : Value), k <= 4 /\ q = .int .i64 (k : Int) /\ Below M wo wr /\ Boxed wr M 26 vo /\ zac wr (M + 2) vo (zbO xs ws k).1 /\ Blk wr (M + 1) (((zbO xs ws k).2.map (Value.int .i64)).toArray) 2) (fun q _ _ _ _ _ _ => 4 - (intOf q).toNat)
    case atStart =>
     refine ⟨0, _, by omega, rfl, ?_, HOut.o, World.ownsRow_nil _ _ _ _, HSt.o⟩
     rw [HM.o]; exact yb
    case round =>
     obtain ⟨k, vo, hk, rfl, hb, hbox, hown, hst⟩ := hrel; have hbase := zkc xs ws HWS.o HL4.o k hk; have hlen1 := hbase.len; have hlen2 := hbase.l4; have HBA := yq hbase; have HBs := yq (zeU xs ws k); clear hbase; obtain ⟨O, S, hOS⟩ : ∃ O S, zbO xs ws k = (O, S) := ⟨_, _, rfl⟩
     rw [hOS] at hown hst hlen1 hlen2
     replace hown : zac wr (M + 2) vo O := hown
     replace hst : Blk wr (M + 1) ((S.map (Value.int .i64)).toArray) 2 := hst
     replace hlen1 : O.length <= 2004 * k := hlen1
     replace hlen2 : S.length = 4 := hlen2
     have HOS := yq hOS; have HB := yq hb; have HX1 := yq hbox; have HO := yq hown; have HST := yq hst; have HS4 := yq hlen2; have c0 : wr.cell? ⟨w.heap.size, 0, none⟩ = some (.slice A xs.length c) := (HK0.o.upB hb yO).cell rfl; have lMw : M + 1 < wr.heap.size := hst.lt; obtain ⟨Ao, co, rfl, _⟩ := zae hown; clear hb hbox hown hst hOS hlen2; by_cases hlt : k < 4
     · have hcv : ∀ W : World, (convert 22 9 (.slice (some ⟨W.heap.size, 0, none⟩) 1 1)).run Tryz.prog (W.alloc (.cells #[.int .u8 (97 + (k : Int))] 5)).drew = .ok (.string (zdn (ltr k)).letter) (W.alloc (.cells #[.int .u8 (97 + (k : Int))] 5)).drew := fun W => by
        have := zoW W.drew _ rfl (ltr k); rw [<- zgX hlt, show ((97 + k : Nat) : Int) = 97 + (k : Int) by omega] at this; exact this
       obtain ⟨wq, rfl⟩ : ∃ wq : World, wq = wr := ⟨_, rfl⟩
       go_wp2_with fail
       go_loopw [10, 11] (fun u10 q wx => ∃ i : Nat, i <= xs.length /\ q = .int .i64 (i : Int) /\ u10 = .bool (zkw xs k i) /\ Below wq.heap.size wq wx) (fun _ q _ => xs.length - (intOf q).toNat)
       case atStart => exact ⟨0, by omega, rfl, rfl, Below.refl _ _⟩
       case round =>
        obtain ⟨i, hi, rfl, rfl, hbx⟩ := hrel; have HBX := yq hbx; have c0' : wr.cell? ⟨w.heap.size, 0, none⟩ = some (.slice A xs.length c) := (hbx.cell (p := ⟨w.heap.size, 0, none⟩) (by show w.heap.size < wq.heap.size; omega)).trans c0; have zq : wq.heap.size <= wr.heap.size := hbx.size; by_cases hlt2 : i < xs.length
        · obtain ⟨AG, cG, eG, _, _, hrow⟩ := HS2.o
          injection eG with eG1 eG2 eG3; subst eG1; obtain ⟨b, o, rfl, hbl, hcell⟩ := hrow.rule hlt2; obtain ⟨r, hr⟩ : ∃ r, xs[i]? = some r := ⟨_, ye hlt2⟩
          obtain ⟨g0, g1, g2⟩ := hcell i r hr; have hbl2 : b < M := by rw [HM.o]; exact hbl
          have hc0 := (hbx.cell (p := ⟨b, o + i * 3, none⟩) (by show b < wq.heap.size; omega)).trans ((HB.o.cell (p := ⟨b, o + i * 3, none⟩) hbl2).trans g0); have lbw : b < wr.heap.size := by omega
          have lP : w.heap.size < wr.heap.size := by omega
          have hs1 : IntKind.i64.wrap (97 + (k : Int)) = 97 + (k : Int) := IntWalk.i64_in _ yO; have hs2 : IntKind.u8.wrap (97 + (k : Int)) = 97 + (k : Int) := by rw [IntKind.wrap_u8]; omega
          have HU := yq (zlS (k := k) hr); have hki : (i : Int) < (xs.length : Int) := by omega
          clear hcell hrow g0 g1 g2 hr eG2 eG3 hbx c0; cases hu : zkw xs k i with
          | true =>
            rw [hu] at HU; clear hu; go_wp2_with fail
            go_region
            all_goals
             go_wp2_with fail
             go_roundw
             case rel => exact ⟨i + 1, by omega, by go_num, by rw [HU.o]; rfl, Below.drew HBX.o⟩
             case measure => simp [intOf]; omega
          | false =>
            rw [hu] at HU; clear hu; go_wp2_with fail
            by_cases hrl : r.letter = (zdn (ltr k)).letter
            · have hdl : decide (r.letter = (zdn (ltr k)).letter) = true := by simp [hrl]
              rw [hdl] at HU; go_region
              all_goals
               go_wp2_with fail
               go_roundw
               case rel => exact ⟨i + 1, by omega, by go_num, by rw [HU.o]; rfl, Below.drew (HBX.o.alloc zq _)⟩
               case measure => simp [intOf]; omega
            · have hdl : decide (r.letter = (zdn (ltr k)).letter) = false := by simp [hrl]
              have hdl2 : (r.letter.toList == (zdn (ltr k)).letter.toList) = false := by
               rw [beq_eq_false_iff_ne, ByteArray.toList_eq, ByteArray.toList_eq]; exact fun h => hrl (ByteArray.ext (Array.toList_inj.mp h))
              rw [hdl] at HU; go_region
              all_goals
               go_wp2_with fail
               go_roundw
               case rel => exact ⟨i + 1, by omega, by go_num, by rw [HU.o]; rfl, Below.drew (HBX.o.alloc zq _)⟩
               case measure => simp [intOf]; omega
        · have hik : i = xs.length := by omega
          subst hik; rw [znl hokx.o k]; obtain ⟨ws3, rfl⟩ : ∃ ws3 : World, ws3 = wr := ⟨_, rfl⟩
          obtain ⟨s, hs⟩ : ∃ s, ws[k]? = some s := ⟨_, ye (by rw [HL4.o]; exact hlt)⟩
          have hsg : ws.getD k ⟨#[]⟩ = s := by rw [yg, hs]; rfl
          obtain ⟨AW', cW', eW, _, _, hrow⟩ := HW2.o; injection eW with eW1 eW2 eW3; subst eW1; obtain ⟨b, o, rfl, hbl, hcell⟩ := hrow.str (k := k) (by rw [HL4.o]; exact hlt); have hbl2 : b < M := by rw [HM.o]; exact hbl
          have hcw : ws3.cell? ⟨b, o + k, none⟩ = some (.string s) := (hbx.cell (p := ⟨b, o + k, none⟩) (by show b < wq.heap.size; omega)).trans ((HB.o.cell (p := ⟨b, o + k, none⟩) hbl2).trans (hcell k s hs)); have lbw : b < ws3.heap.size := by omega
          have hki : (k : Int) < 4 := by omega
          have HWk := yq (HWS.o s (List.mem_of_getElem? hs)); have HSG := yq hsg; have HXr := yq (Boxed.up HX1.o hbx HX1.o.lt); have HOr := yq (zac.below HO.o hbx); have HSTr := yq (HST.o.up hbx); have HBr := yq (HB.o.trans (hbx.mono yO)); have lP : w.heap.size < ws3.heap.size := by omega
          clear hcell hrow hs hsg eW2 eW3 hbx HBX; by_cases hcd : s.size ≠ 0 /\ zkb xs k = true
          · have he1 : s.toList.isEmpty = false := by rw [zaq]; simp [hcd.1]
            have hL := hcd.2; rw [hL]; have HCD := yq hcd; clear hcd; have cX := HXr.o.cell; have lX := HXr.o.lt; go_wp2_with fail
            refine (zjr s _ HWk.o).mono ?_
            rintro e w4 ⟨hb4, v4, own4, rfl⟩; have HXp := yq (Boxed.up HXr.o hb4 HXr.o.lt); have HOp := yq (zac.below HOr.o hb4); have HSTp := yq (HSTr.o.up hb4); have HBp := yq (HBr.o.trans (hb4.mono yO)); have hsz : s.size <= 2000 := by have := HWk.o; unfold zaB at this; simp only [Bool.and_eq_true, decide_eq_true_eq] at this; omega
            have hpl := zdM s; have HP := yq (zgf (zcW HWk.o) yO); have hO8 : O.length <= 8016 := by omega
            obtain ⟨G, hG⟩ : ∃ G, zaM s = G := ⟨_, rfl⟩
            have HG := yq hG; rw [hG] at hpl HP own4; obtain ⟨A4, c4, rfl, _⟩ := zae own4; have z4 : ws3.heap.size <= w4.heap.size := hb4.size; have HG4 := yq (zac.slS own4 (S := fun b => ws3.heap.size <= b /\ b < w4.heap.size) fun g hg => World.ownsRow.lt own4 g hg); have cX4 := HXp.o.cell; have lX4 := HXp.o.lt; have hOB := yq (fun g (hg : (Value.slice Ao O.length co).ownBlock = some g) => (World.ownsRow.lt HOr.o g hg).2); clear hG hb4 own4 cX lX hcw; go_wp2_with fail
            obtain ⟨Z, hZ⟩ : ∃ Z, Z = w4.heap.size := ⟨_, rfl⟩
            have hZc : Blk (w4.alloc (Obj.cells #[Value.slice A4 G.length c4] 26)) Z #[.slice A4 G.length c4] 26 := by rw [hZ]; exact Blk.new _ _ _
            have HZc := yq hZc; have HZ := yq hZ; rw [<- hZ]; rw [<- hZ] at z4 lX4; clear hZ hZc
            go_loopw [14] (fun q wx => ∃ (i : Nat) (vo : Value), i <= G.length /\ q = .int .i64 (i : Int) /\ Below M wo wx /\ Boxed wx M 26 vo /\ zac wx (M + 2) vo (O ++ (G.take i).map (zaH O.length)) /\ Blk wx (M + 1) ((S.map (Value.int .i64)).toArray) 2 /\
             Blk wx Z #[.slice A4 G.length c4] 26 /\ SlS zar wx (fun b => ws3.heap.size <= b /\ b < Z) (.slice A4 G.length c4) G /\ (∀ g, vo.ownBlock = some g -> g < ws3.heap.size \/ Z < g)) (fun q _ => G.length - (intOf q).toNat)
            case atStart =>
             refine ⟨0, _, Nat.zero_le _, rfl, HBp.o.alloc (by rw [<- HZ.o]; omega) _, Boxed.alloc HXp.o _, ?_, HSTp.o.alloc _, HZc.o, ?_, fun g hg => .inl (hOB.o g hg)⟩
             · rw [List.take_zero, List.map_nil, List.append_nil]; exact HOp.o.alloc _
             · rw [HZ.o]; exact HG4.o.keep ((zgy.of_below (B := w4.heap.size) ((Below.refl _ _).alloc yL _)).mono fun _ hb => hb.2)
            case round =>
             obtain ⟨i, vo, hi, rfl, hb, hbox, hown, hst, hzc, hsl, hob⟩ := hrel; obtain ⟨L, hL9⟩ : ∃ L, L = O ++ (G.take i).map (zaH O.length) := ⟨_, rfl⟩
             rw [<- hL9] at hown; have hlk : L.length = O.length + i := by rw [hL9]; simp; omega
             have HL9 := yq hL9; have HB7 := yq hb; have HX7 := yq hbox; have HO7 := yq hown; have HST7 := yq hst; have HZ7 := yq hzc; have HS7 := yq hsl; have HOB7 := yq hob; have cO := hbox.cell; have fO := hbox.frozen; have lO := hbox.lt; have cZ := hzc.cell (i := 0) (v := .slice A4 G.length c4) rfl; have lZ := hzc.lt; have l1 := hst.lt; obtain ⟨A7, c7, rfl, _⟩ := zae hown; have HLl := yq (show L.length <= 1099511627775 by omega); have HLK := yq hlk; clear hb hbox hown hst hzc hob hL9 hlk; by_cases hlt3 : i < G.length
             · obtain ⟨AZ, cZ', eZ, _, _, hrowZ⟩ := HS7.o
               injection eZ with eZ1 eZ2 eZ3; subst eZ1; obtain ⟨b2, o2, rfl, hbl3, hcell⟩ := hrowZ.rule hlt3; obtain ⟨r, hr⟩ : ∃ r, G[i]? = some r := ⟨_, ye hlt3⟩
               obtain ⟨hg0, hg1, hg2⟩ := hcell i r hr; have lb2 : b2 < wr.heap.size := by omega
               have hgi : (i : Int) < (G.length : Int) := by omega
               have HPr := yq (HP.o r (List.mem_of_getElem? hr)); have hnx : O ++ (G.take (i + 1)).map (zaH O.length) = L ++ [zaH O.length r] := by rw [List.take_add_one, hr, List.map_append, <- List.append_assoc, <- HL9.o]; rfl
               have HNX := yq hnx; clear hcell hrowZ hr hsl eZ2 eZ3 hnx; go_wp2_with fail
               go_region_law (first
                | (refine zhd (base := M + 2) (v := .slice A7 L.length c7) yR _ _ yR yR (by first | rfl | simp) rfl (zac.below HO7.o.drew hb2) HLl.o yO ?_; intro v3 w3 own3 hg3 hor3 hb3; have bx3 : Boxed w3 M 26 _ := Boxed.grown (Boxed.up (Boxed.mk' HX7.o) hb2 lO) (by decide) (zac.below HO7.o.drew hb2) hg3; obtain ⟨A3, c3, rfl, _⟩ := zae own3; have hcb3 := bx3.cell; have hfb3 := bx3.frozen)
                | (go_simp; go_at_call 130; refine (zfv r O.length _ yO HPr.o).mono ?_; rintro e w2 ⟨rfl, hb2⟩; have bx2 := Boxed.up (Boxed.mk' HX7.o) hb2 lO; have hcb2 := bx2.cell; have hfb2 := bx2.frozen; have hlb2 := bx2.lt; have z2 : wr.heap.size <= w2.heap.size := hb2.size))
               all_goals
                have h2 : Below wr.heap.size wr w2 := Below.undrew hb2; have hbz : Below (M + 2) wr w3 := (h2.mono yO).trans (((Below.refl _ _).alloc yO _).trans hb3); obtain ⟨kZ, kS, kOB⟩ := zlT h2 hg3 hor3 HOB7.o HZ7.o HS7.o z4; have HBZ := yq hbz; have HO8 := yq own3; have HX8 := yq bx3; have HKZ := yq kZ; have HKS := yq kS; have HKO := yq kOB; clear hbz own3 bx3 hb2 hb3 hg3 hor3 h2 kZ kS kOB bx2; go_wp2_with fail
                go_roundw
                case rel =>
                 refine ⟨i + 1, .slice A3 (L.length + 1) c3, by omega, by go_num, (HB7.o.trans (HBZ.o.mono yO)).setCell (by show M <= M; omega) _, Boxed.set _ HX8.o, ?_, (HST7.o.upB HBZ.o yO).other (by show M + 1 ≠ M; omega) _, HKZ.o.other (by show Z ≠ M; omega) _, HKS.o.keep fun b hb => Below.heap_setCell _ _ _ _ (by show b ≠ M; omega), fun g hg => HKO.o g (by rw [List.length_append]; exact hg)⟩
                 rw [HNX.o]; exact zcK HX8.o HO8.o rfl yS
                case measure => simp [intOf]; omega
             · have hig : i = G.length := by omega
               subst hig; have cS := HST7.o.cell (i := k) (v := .int .i64 (S.getD k 0)) (zcX (by rw [HS4.o]; exact hlt)); have fS := HST7.o.frozen k; have hO9 : L.length <= 12000 := by rw [HLK.o]; omega
               have hHL : L = O ++ G.map (zaH O.length) := by rw [HL9.o, List.take_length]
               have HHL := yq hHL; clear hHL; go_wp2_with fail
               go_roundw
               case rel =>
                have ebs : zbO xs ws (k + 1) = (L, S.set k ((L.length : Int) - 1)) := by
                 rw [HBs.o, zbV, HSG.o, if_pos HCD.o, HOS.o, HG.o, HHL.o, List.length_append, List.length_map]
                refine ⟨k + 1, _, by omega, by go_num, HB7.o.setCell (by show M <= M + 1; omega) _, Blk.other HX7.o (by show M ≠ M + 1; omega) _, ?_, ?_⟩
                · rw [ebs]
                  exact ownsRow_setCell_below (a := ⟨M + 1, k, none⟩) HO7.o (by show M + 1 < M + 2; omega) _
                · rw [ebs, <- zip]
                  exact HST7.o.set k _
               case measure => simp [intOf]; omega
          · have e0 : ¬ ((ws.getD k ⟨#[]⟩).size ≠ 0 /\ zkb xs k = true) := by rw [HSG.o]; exact hcd
            have E0 := yq e0; cases hL : zkb xs k with
            | false =>
              go_wp2_with fail
              go_roundw
              case rel => exact ⟨k + 1, _, by omega, by go_num, HBr.o, HXr.o, by rw [HBs.o, zbV, if_neg E0.o, HOS.o]; exact HOr.o, by rw [HBs.o, zbV, if_neg E0.o, HOS.o]; exact HSTr.o⟩
              case measure => simp [intOf]; omega
            | true =>
              have hs0 : s.size = 0 := by
               rcases Nat.eq_zero_or_pos s.size with h | h
               · exact h
               · exact absurd ⟨by omega, hL⟩ hcd
              have hse : s = ⟨#[]⟩ := ByteArray.ext (Array.eq_empty_of_size_eq_zero hs0); have HSE := yq hse; rw [hse] at hcw; clear hse hs0; go_wp2_with fail
              go_roundw
              case rel => exact ⟨k + 1, _, by omega, by go_num, HBr.o, HXr.o, by rw [HBs.o, zbV, if_neg E0.o, HOS.o]; exact HOr.o, by rw [HBs.o, zbV, if_neg E0.o, HOS.o]; exact HSTr.o⟩
              case measure => simp [intOf]; omega
     · have hk4 : k = 4 := by omega
       subst hk4; obtain ⟨wq, rfl⟩ : ∃ wq : World, wq = wr := ⟨_, rfl⟩
       have HBO := yq (show (zbO xs ws 4).2 = S by rw [HOS.o]); have HSK := yq (fun k hk => zkT xs ws HWS.o HL4.o hokx.o k hk); have HBl := yq (fun i hi => HBA.o.low i hi); rw [HOS.o] at HBl; have hS0 := yq (show zb7 xs ws 0 = (O, []) by unfold zb7; rw [HOS.o]; rfl); go_wp2_with fail
       go_loopw [15, 16, 17, 18, 19] (fun sv q _ _ _ wr => ∃ (k : Nat) (vo : Value), k <= xs.length /\ q = .int .i64 (k : Int) /\ Below M wo wr /\ Boxed wr M 26 vo /\ zac wr (M + 2) vo (zb7 xs ws k).1 /\ zan wr (M + 2) sv (zb7 xs ws k).2 /\ Blk wr (M + 1) ((S.map (Value.int .i64)).toArray) 2) (fun _ q _ _ _ _ => xs.length - (intOf q).toNat)
       case atStart =>
        refine ⟨0, _, Nat.zero_le _, rfl, HB.o.alloc yO _, Boxed.alloc HX1.o _, ?_, ?_, HST.o.alloc _⟩
        · rw [hS0.o]; exact HO.o.alloc _
        · rw [hS0.o]; exact zan.empty rfl yO
       case round =>
        obtain ⟨k, vo, hk, rfl, hb, hbox, hown, hi, hst⟩ := hrel; have hsk := HSK.o k hk; have hlO := hsk.len; have hlS := hsk.ls; have hlow := hsk.low; have HOK := yq hsk.ok; have HNx := yq (fun r hr => zd1 (xs := xs) (ws := ws) (k := k) (r := r) hr); rw [HBO.o] at HNx; obtain ⟨P, T, hPT⟩ : ∃ P T, zb7 xs ws k = (P, T) := ⟨_, _, rfl⟩
        have HPT := yq hPT; rw [hPT] at hown hi hlO hlS hlow HOK HNx
        replace hown : zac wr (M + 2) vo P := hown
        replace hi : zan wr (M + 2) u15 T := hi
        replace hlO : P.length <= 8016 + k := hlO
        replace hlS : T.length = k := hlS
        have HTl := yq hlS; have HLow := yq hlow; have HB5 := yq hb; have HX5 := yq hbox; have HO5 := yq hown; have HI5 := yq hi; have HST5 := yq hst; have c05 : wr.cell? ⟨w.heap.size, 0, none⟩ = some (.slice A xs.length c) := (HK0.o.upB hb yO).cell rfl; have cb5 := hbox.cell; have fb5 := hbox.frozen; have lb5 := hbox.lt; have l15 := hst.lt; obtain ⟨A5, c5, rfl, _⟩ := zae hown; obtain ⟨A7, c7, rfl, _⟩ := zae hi; have HTl2 := yq (show T.length <= 1099511627775 by rw [hlS]; omega); have HPl2 := yq (show P.length <= 1099511627775 by omega); clear hb hbox hown hi hst hPT hsk hlow hlS c0; by_cases hlt2 : k < xs.length
        · obtain ⟨AG, cG, eG, _, _, hrow⟩ := HS2.o
          injection eG with eG1 eG2 eG3; subst eG1; obtain ⟨b, o, rfl, hbl, hcell⟩ := hrow.rule hlt2; obtain ⟨r, hr⟩ : ∃ r, xs[k]? = some r := ⟨_, ye hlt2⟩
          obtain ⟨g0, g1, g2⟩ := hcell k r hr; have hbl2 : b < M := by rw [HM.o]; exact hbl
          have hc0 := (HB5.o.cell (p := ⟨b, o + k * 3, none⟩) hbl2).trans g0; have hc1 := (HB5.o.cell (p := ⟨b, o + k * 3 + 1, none⟩) hbl2).trans g1; have hc2 := (HB5.o.cell (p := ⟨b, o + k * 3 + 2, none⟩) hbl2).trans g2; have lbw : b < wr.heap.size := by omega
          have Hr := yq hr; have hor := hokx.o k r hr; have HN := yq (HNx.o r hr); have hki : (k : Int) < (xs.length : Int) := by omega
          clear hcell hrow g0 g1 g2 hr eG2 eG3 HNx; cases hpr : r.pair with
          | false =>
            have he1 : r.letter.toList.isEmpty = false := by rw [zaq]; simpa [zaa.pair] using hpr
            have he2 : (!r.letter.toList.isEmpty) = true := by rw [he1]; rfl
            obtain ⟨q1, q2, q3⟩ := zce hor hpr; have hidx := zeV hor hpr; have hpos : 0 < r.letter.size := by omega
            rw [zbQ hpos] at hidx; obtain ⟨j, hj⟩ : ∃ j, j = r.letter[0].toNat - 97 := ⟨_, rfl⟩
            have hn1 : ((r.letter[0].toNat : Int) - 97) % 256 = (j : Int) := by omega
            have hw1 : IntKind.u8.wrap ((r.letter[0].toNat : Int) - 97) = (j : Int) := hn1; have hj4 : (j : Int) < 4 := by omega
            have cS := Blk.cell (i := j) (v := .int .i64 (S.getD j 0)) HST5.o (zcX (by rw [HS4.o]; omega)); obtain ⟨v, hv⟩ : ∃ v, S.getD j 0 = v := ⟨_, rfl⟩
            rw [hv] at cS
            have hst9 : zbj S (P, T) r = (P, T ++ [v]) := by
             unfold zbj; rw [if_neg (by simp [hpr]), zbQ hpos, <- hj, hv]
            rw [hst9] at HN; have Hq1 := yq q1; have hs1 : (r.letter.size : Int) = 1 := by omega
            clear hst9 hv hor q1 q2 q3 hj hidx; go_wp2_with (at_builtin; go_must (refine zbn (base := M + 2) (v := .slice A7 T.length c7) (l := T) rfl _ _ rfl rfl rfl yS HI5.o HTl2.o yO ?_); intro v3 w3 own3 hg3 hv3; obtain ⟨A3, c3, rfl, _⟩ := zae own3)
            obtain ⟨t1, t2, t3, t4⟩ := zd6 HB5.o HX5.o HO5.o HI5.o HST5.o hg3 yO; exact ⟨⟨k + 1, _, by omega, by go_num, t1, t2, by rw [HN.o]; exact t3, by rw [HN.o]; exact zdy own3, t4⟩, by simp [intOf]; omega⟩
          | true =>
            have he1 : r.letter.toList.isEmpty = true := by rw [zaq]; exact hpr
            have he2 : (!r.letter.toList.isEmpty) = false := by rw [he1]; rfl
            obtain ⟨q1, q2, q3, q4⟩ := zbs hor hpr; obtain ⟨l1, hl1⟩ := Int.eq_ofNat_of_zero_le q1; obtain ⟨l2, hl2⟩ := Int.eq_ofNat_of_zero_le q3; have h1k : l1 < T.length := by rw [HTl.o]; omega
            have h2k : l2 < T.length := by rw [HTl.o]; omega
            obtain ⟨g, cap, e1, hgb, hgl, _, hgc⟩ := zan.at_ HI5.o (j := l1) h1k; injection e1 with e11 e12 e13; subst e11; have ca := hgc l1 h1k; have cb' := hgc l2 h2k; have hLa := HLow.o l1 (by rw [<- HTl.o]; exact h1k); have hLb := HLow.o l2 (by rw [<- HTl.o]; exact h2k)
            replace hLa : -1 <= T.getD l1 0 /\ T.getD l1 0 < (P.length : Int) := hLa
            replace hLb : -1 <= T.getD l2 0 /\ T.getD l2 0 < (P.length : Int) := hLb
            obtain ⟨a, ha⟩ : ∃ a, T.getD l1 0 = a := ⟨_, rfl⟩
            obtain ⟨bb, hbb⟩ : ∃ a, T.getD l2 0 = a := ⟨_, rfl⟩
            rw [ha] at ca hLa; rw [hbb] at cb' hLb
            have hst9 : zbj S (P, T) r = if a < 0 then (P, T ++ [bb]) else if bb < 0 then (P, T ++ [a]) else (P ++ [zaP a bb], T ++ [(P.length : Int)]) := by
             unfold zbj; rw [if_pos hpr, hl1, hl2, Int.toNat_natCast, Int.toNat_natCast, ha, hbb]
            rw [hst9] at HN; rw [hl1] at hc1; rw [hl2] at hc2; have h1i : (l1 : Int) < (T.length : Int) := by omega
            have h2i : (l2 : Int) < (T.length : Int) := by omega
            clear hst9 hor q1 q2 q3 q4 hl1 hl2 ha hbb hgc e12 e13; by_cases hA : a < 0
            · rw [if_pos hA] at HN
              go_wp2_with (at_builtin; go_must (refine zbn (base := M + 2) (v := .slice (some ⟨g, 0, none⟩) T.length c7) (l := T) rfl _ _ rfl rfl rfl yS HI5.o HTl2.o yO ?_); intro v3 w3 own3 hg3 hv3; obtain ⟨A3, c3, rfl, _⟩ := zae own3)
              obtain ⟨t1, t2, t3, t4⟩ := zd6 HB5.o HX5.o HO5.o HI5.o HST5.o hg3 yO; exact ⟨⟨k + 1, _, by omega, by go_num, t1, t2, by rw [HN.o]; exact t3, by rw [HN.o]; exact zdy own3, t4⟩, by simp [intOf]; omega⟩
            · rw [if_neg hA] at HN
              by_cases hB : bb < 0
              · rw [if_pos hB] at HN
                go_wp2_with (at_builtin; go_must (refine zbn (base := M + 2) (v := .slice (some ⟨g, 0, none⟩) T.length c7) (l := T) rfl _ _ rfl rfl rfl yS HI5.o HTl2.o yO ?_); intro v3 w3 own3 hg3 hv3; obtain ⟨A3, c3, rfl, _⟩ := zae own3)
                obtain ⟨t1, t2, t3, t4⟩ := zd6 HB5.o HX5.o HO5.o HI5.o HST5.o hg3 yO; exact ⟨⟨k + 1, _, by omega, by go_num, t1, t2, by rw [HN.o]; exact t3, by rw [HN.o]; exact zdy own3, t4⟩, by simp [intOf]; omega⟩
              · rw [if_neg hB] at HN
                have hp8 : P.length <= 8500 := by omega
                go_wp2_with (first
                 | (at_builtin; refine za5 (base := M + 2) (t := ⟨#[]⟩) (p := a) (q := bb) (v := .slice A5 P.length c5) (l := P) rfl _ _ rfl rfl rfl yS HO5.o HPl2.o yO ?_; intro v5 w5 own5 hg5 hb5; have own4 : zan w5 (M + 2) (.slice (some ⟨g, 0, none⟩) T.length c7) T := zgQ HI5.o HO5.o hg5; have bx5 : Boxed w5 M 26 _ := Boxed.grown HX5.o (by decide) HO5.o hg5; obtain ⟨A9, c9, rfl, _⟩ := zae own5; have cb9 := bx5.cell; have fb9 := bx5.frozen; have lb9 := bx5.lt; have lg9 := (World.ownsRow.lt own4 g rfl); have hbz : Below (M + 2) wr w5 := ((Below.refl _ _).alloc yO _).trans hb5; have HO9 := yq own5; have HI9 := yq own4; have HX9 := yq bx5; have HBZ := yq hbz; clear own5 own4 hg5 hb5 hbz bx5)
                 | (at_builtin; go_must (refine zbn (base := M + 2) (v := .slice (some ⟨g, 0, none⟩) T.length c7) (l := T) rfl _ _ rfl rfl rfl yS (ownsRow_setCell_below HI9.o (by show M < M + 2; omega) _) HTl2.o (by simp; omega) ?_); intro v3 w3 own3 hg3 hv3; obtain ⟨A3, c3, rfl, _⟩ := zae own3))
                obtain ⟨t1, t2, t3, t4⟩ := zd6 (((HB5.o.trans (HBZ.o.mono yO)).setCell (by show M <= M; omega) _)) (Boxed.set _ HX9.o) (zcK HX9.o HO9.o rfl yS) (ownsRow_setCell_below HI9.o (by show M < M + 2; omega) _) ((HST5.o.upB HBZ.o yO).other (by show M + 1 ≠ M; omega) _) hg3 (by simp; omega); refine ⟨⟨k + 1, _, by omega, by go_num, t1, t2, by rw [HN.o]; exact t3, ?_, t4⟩, by simp [intOf]; omega⟩
                rw [HN.o]; have e8 : (P.length : Int) + 1 - 1 = (P.length : Int) := by omega
                first
                 | exact zdy own3
                 | (rw [e8] at own3; exact zdy own3)
        · have hkn : k = xs.length := by omega
          subst hkn; have HPM := yq (show zin xs ws = (P, T) from HPT.o); have hmo : zec xs ws = if 400 < P.length then [] else if xs.length = 0 \/ zao T < 0 then [] else zav (zaQ (P.take ((zao T).toNat + 1))) := by unfold zec; rw [HPM.o]
          have hmc : zdd xs ws = if 400 < P.length then 3 else if xs.length = 0 \/ zao T < 0 then 0 else zas (zaQ (P.take ((zao T).toNat + 1))) := by unfold zdd; rw [HPM.o]
          have HMO := yq hmo; have HMC := yq hmc; have hKR := HK1.o.upB HB5.o z21; have r1 := hKR.cell (i := 0) (v := .slice none 0 0) rfl; have r2 := hKR.frozen 0; have r3 := hKR.lt; have HKR := yq hKR; have HBw := yq (HB2.o.trans (HB5.o.mono yO)); clear hmo hmc hKR; by_cases h400 : 400 < P.length
          · rw [if_pos h400] at HMO HMC
            go_wp2
            refine bodyPost_ret (v := .tuple #[.agg #[.slice none 0 0], .int .i64 3]) (by simp [results, Tryz.results89, go_sem, r1]) rfl ⟨HBw.o.setCell (by show w.heap.size <= w.heap.size + 1; omega) _, _, ?_, by rw [HMC.o]⟩
            rw [HMO.o]; exact World.ownsRow_nil _ _ _ _
          · rw [if_neg h400] at HMO HMC
            have hTx := HTl.o; by_cases hx0 : xs.length = 0
            · rw [if_pos (.inl hx0)] at HMO HMC
              have g0 : ((T.length : Int) == 0) = true := by rw [beq_iff_eq]; omega
              have HX0 := yq hx0; clear hx0 hTx; go_wp2
              refine bodyPost_ret (v := .tuple #[.agg #[.slice none 0 0], .int .i64 0]) (by simp [results, Tryz.results89, go_sem, r1]) rfl ⟨HBw.o.setCell (by show w.heap.size <= w.heap.size + 1; omega) _, _, ?_, by rw [HMC.o]⟩
              rw [HMO.o]; exact World.ownsRow_nil _ _ _ _
            · have g0 : ((T.length : Int) == 0) = false := by rw [beq_eq_false_iff_ne]; omega
              have hlq := HLow.o (xs.length - 1) yO
              replace hlq : -1 <= T.getD (xs.length - 1) 0 /\ T.getD (xs.length - 1) 0 < (P.length : Int) := hlq
              have hlT : zao T = T.getD (xs.length - 1) 0 := by rw [zao, hTx]
              rw [<- hlT] at hlq; obtain ⟨g, cap, e1, hgb, hgl, _, hgc⟩ := zan.at_ HI5.o (j := T.length - 1) yO; injection e1 with e11 e12 e13; subst e11; have cL := hgc (T.length - 1) yO; obtain ⟨q, hq⟩ : ∃ q, zao T = q := ⟨_, rfl⟩
              have hq2 : T.getD (T.length - 1) 0 = q := hq; rw [hq2] at cL; rw [hq] at hlq HMO HMC; have hix : ((T.length : Int) - 1).toNat = T.length - 1 := by omega
              have hi0 : 0 <= (T.length : Int) - 1 := by omega
              have hi1 : (T.length : Int) - 1 < T.length := by omega
              have hiw : IntKind.i64.wrap ((T.length : Int) - 1) = (T.length : Int) - 1 := IntWalk.i64_in _ yO; clear hlT hTx hq hq2 hgc e12 e13; by_cases hq0 : q < 0
              · rw [if_pos (.inr hq0)] at HMO HMC
                go_wp2_with fail
                refine bodyPost_ret (v := .tuple #[.agg #[.slice none 0 0], .int .i64 0]) (by simp [results, Tryz.results89, go_sem, r1]) rfl ⟨HBw.o.setCell (by show w.heap.size <= w.heap.size + 1; omega) _, _, ?_, by rw [HMC.o]⟩
                rw [HMO.o]; exact World.ownsRow_nil _ _ _ _
              · rw [if_neg (fun h => h.elim hx0 hq0)] at HMO HMC
                obtain ⟨n, rfl⟩ := Int.eq_ofNat_of_zero_le (show 0 <= q by omega); rw [Int.toNat_natCast] at HMO HMC; have hnP : n + 1 <= P.length := by omega
                have hTrl : (zaQ (P.take (n + 1))).length <= 8500 := by
                 have h1 := zfs (P.take (n + 1)); rw [List.length_take] at h1; omega
                have HSmT := yq (show zaY (zaQ (P.take (n + 1))) from zgJ (zdJ HOK.o (n + 1))); obtain ⟨Q9, hQ9⟩ : ∃ Q9, P.take (n + 1) = Q9 := ⟨_, rfl⟩
                have HQl := yq (show Q9.length <= 4194304 by rw [<- hQ9, List.length_take]; omega); have HQok := yq (show za2 (P.take (n + 1)) from zdJ HOK.o (n + 1)); rw [hQ9] at HMO HMC HSmT HQok; have HSlq := yq (fun v => (zif (zac.sl (show zac (wr.setCell ⟨M, 0, none⟩ v) (M + 2) (.slice A5 P.length c5) P from ownsRow_setCell_below HO5.o (a := ⟨M, 0, none⟩) (by show M < M + 2; omega) v)) (m := n + 1) hnP)); rw [hQ9] at HSlq; have hcP : (P.length : Int) <= c5 := by omega
                have htn : ((n : Int) + 1).toNat = n + 1 := by omega
                have j1 : 0 <= (n : Int) + 1 := by omega
                have j2 : (n : Int) + 1 <= (c5 : Int) := by omega
                have j3 : IntKind.i64.wrap ((n : Int) + 1) = (n : Int) + 1 := IntWalk.i64_in _ yO; clear hQ9 hq0 hlq; go_wp2_with fail
                go_region
                all_goals
                 go_wp2_with fail
                 refine (zbM M 0 (.slice A5 (n + 1) c5) Q9 _ (by simp [go_sem, cb5]) (by simp [World.drew]; omega) (SlS.dr (HSlq.o _)) HQl.o HQok.o).mono ?_
                 rintro e w6 ⟨hb6, v6, own6, rfl⟩
                 have hKR6 : Blk w6 (w.heap.size + 1) #[.slice none 0 0] 26 := by
                  refine Blk.up ?_ hb6
                  exact HKR.o.other (p := ⟨M, 0, none⟩) (by show w.heap.size + 1 ≠ M; omega) _
                 have hB6 : Below w.heap.size w w6 := by
                  refine Below.trans ?_ (hb6.mono (by simp [World.drew]; omega))
                  first
                   | exact (Below.setCell HBw.o (show w.heap.size <= (⟨M, 0, none⟩ : Addr).block from (by show w.heap.size <= M; omega)) _).drew
                   | exact Below.setCell (HBw.o.drew) (show w.heap.size <= (⟨M, 0, none⟩ : Addr).block from (by show w.heap.size <= M; omega)) _
                 have HB6 := yq hB6; obtain ⟨A6, c6, rfl, _⟩ := zae own6; clear hB6 r1 r2 r3 cb5 fb5 cL; go_wp2_with fail
                 refine (zdY _ _ _ _ own6 HSmT.o).mono ?_
                 rintro e w7 ⟨hb7, v7, own7, rfl⟩; have hKR7 := hKR6.up hb7; have HB7 := yq (HB6.o.trans (hb7.mono HB6.o.size)); have s1 := hKR7.cell (i := 0) (v := .slice none 0 0) rfl; have s2 := hKR7.frozen 0; have s3 := hKR7.lt; obtain ⟨A7', c7', rfl, _⟩ := zae own7; have HO7 := yq own7; clear hb6 hb7 own6 own7; go_wp2_with fail
                 refine bodyPost_ret (v := .tuple #[.agg #[.slice A7' (zav (zaQ Q9)).length c7'], .int .i64 (zas (zaQ Q9))]) (by simp [results, Tryz.results89, go_sem, s1]) rfl ⟨HB7.o.setCell (by show w.heap.size <= w.heap.size + 1; omega) _, _, ?_, by rw [HMC.o]⟩
                 rw [HMO.o]; exact zad (ownsRow_setCell_below HO7.o (a := ⟨w.heap.size + 1, 0, none⟩) (by simp [World.drew]; omega) _) (by simp [World.drew]; omega)
end Go.Proofs.YtejgbfgocaggfaaGreatDoor
