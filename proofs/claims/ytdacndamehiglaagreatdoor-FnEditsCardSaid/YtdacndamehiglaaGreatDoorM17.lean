import Derived.Test.YtdacndamehiglaaGreatDoorM16
set_option maxRecDepth 100000
set_option maxHeartbeats 8000000
namespace Go.Proofs.YtdacndamehiglaaGreatDoor
open Go.RowKit
theorem zdO (b P oP E oE : Nat) (e : zap) (vG vR : Value) (xs : List zaa) (ls : List Int) (s : Option (List zaa)) (w : World) (h : Mk w b P oP s) (hP : C1 w ⟨P, oP, none⟩ vG) (hE : EC w E oE e vR) (hneE : E ≠ b) (hG : Sl zas w b vG xs) (hg : zaf xs = true) (hl : zaX xs = some ls)
  (hi : 0 <= e.i /\ e.i <= e.j /\ e.j <= zai ls) (hk : zjw e) :
  Calls Tryz.prog 90 #[.pointer (some ⟨b, 0, none⟩), .pointer (some ⟨E, oE, none⟩)] w fun e' w' => zkH e' /\ But b w w' /\ Mk w' b P oP (zbu s ((zbj (zam xs ls e.i e.j)).bind (zc8 e))) := by
 have hlt := h.lt; have HM := yq h; have HG := yq (hG.le (Nat.le_of_lt hlt)); have sm := yq (zcb (zaz (zag hg).2.choose_spec)); have hn : xs.length <= 1048576 := by have := zaG hg; omega
 have HY := yq (zb7 hg hl hi); have HE := yq hE; have HK := yq hk; obtain ⟨AG, cG, rfl, _⟩ := hG; obtain ⟨vO, out, hB, _⟩ := h; have k1 : C1 w ⟨b, 0, none⟩ (.pointer (some ⟨P, oP, none⟩)) := ⟨hB.cell rfl, hlt⟩
 have k3 : C1 w ⟨E, oE + 1, none⟩ (.int .i64 e.i) := ⟨hE.c1, hE.lt⟩
 have k4 : C1 w ⟨E, oE + 2, none⟩ (.int .i64 e.j) := ⟨hE.c2, hE.lt⟩
 clear hB hE hl hi hk; go_enter Tryz.func90, Tryz.ntmps90
 try go_wp2_with fail
 go_cut [4, 5] (fun s4 s5 wx => ∃ (Z : Nat) (A9 : Option Addr) (c9 : Nat), s4 = .pointer (some ⟨Z, 0, none⟩) /\ s5 = .int .i64 (zaB (zam xs ls e.i e.j)) /\ Z ≠ b /\ Z ≠ E /\ Below w.heap.size w wx /\ Blk wx Z #[.slice A9 (zaH (zam xs ls e.i e.j)).length c9] 26 /\ zab wx w.heap.size (.slice A9 (zaH (zam xs ls e.i e.j)).length c9) (zaH (zam xs ls e.i e.j)))
 case first =>
  have lP := hP.lt; have lE := HE.o.lt; have B0 := Below.drew (Below.refl w.heap.size w); have BA := yq (fun (o : Obj) => Below.drew (Below.alloc (Below.refl w.heap.size w) yL o)); have KD := zl2 k1 hP k3 k4 B0
  go_region_held3 (fun w' => Below w.heap.size w w' /\ w'.cell? ⟨b, 0, none⟩ = some (.pointer (some ⟨P, oP, none⟩)) /\ w'.cell? ⟨P, oP, none⟩ = some (.slice AG xs.length cG) /\ w'.cell? ⟨E, oE + 1, none⟩ = some (.int .i64 e.i) /\ w'.cell? ⟨E, oE + 2, none⟩ = some (.int .i64 e.j))
   (first | (with_reducible exact KD) | (with_reducible exact zl2 k1 hP k3 k4 (BA.o _)) | (with_reducible exact zl2 k1 hP k3 k4 b1) | (with_reducible exact zl2 k1 hP k3 k4 (b1.alloc z1 _)) | (with_reducible exact zl2 k1 hP k3 k4 (b1.setCell yL _)))
   (first
     | (go_at_call 123; (refine (zfN _ xs e.i e.j _ (HG.o.up yb) hn sm.o).mono ?_); rintro e w1 ⟨hb1, v1, own1, rfl⟩; rw [HY.o.1] at own1; rw [HY.o.2]; obtain ⟨A9, c9, rfl, _⟩ := zae own1; have b1 : Below w.heap.size w w1 := (by first | exact Below.undrew hb1 | exact (Below.unalloc (Below.undrew hb1)).1); have z1 := b1.size; (try (obtain ⟨hbz, KR⟩ := Below.unalloc (Below.undrew hb1); have cz := Blk.cell (i := 0) (v := .slice none 0 0) KR rfl; have fz := Blk.frozen KR 0; have lz := Blk.lt KR))))
  all_goals
   go_wp2_with fail
   go_meet
   first
    | exact ⟨w1.heap.size, A9, c9, rfl, rfl, by omega, by omega, b1.alloc z1 _, Blk.new _ _ _, World.ownsRow.alloc own1 _⟩
    | exact ⟨w.heap.size, A9, c9, rfl, rfl, by omega, by omega, b1.setCell yL _, Blk.set KR 0 _, zac (ownsRow_setCell_below own1 (a := ⟨w.heap.size, 0, none⟩) (by simp [World.drew]) _) (by simp [World.drew])⟩
 case rest =>
  obtain ⟨Z, A9, c9, rfl, rfl, hZb, hZE, hb, KZ, hown⟩ := hcut; revert hb KZ hown; generalize wc = w1; intro hb KZ hown; have HM1 := yq (HM.o.up hb); have HE1 := yq (HE.o.up hb); have HZ1 := yq KZ; have HB1 := yq hb; have HO1 := yq hown; have lb := HM1.o.lt; have lZ := KZ.lt; have lE := HE1.o.lt; have z1 := hb.size; clear HM HE hP k1 k3 k4 hb KZ hown; cases hq : zaf (zam xs ls e.i e.j) with
  | false =>
    have q2 : zaB (zam xs ls e.i e.j) = 3 := by unfold zaB; rw [hq]; rfl
    have q3 : zbj (zam xs ls e.i e.j) = none := by unfold zbj; rw [hq]; rfl
    have Q3 := yq (show zbu s ((zbj (zam xs ls e.i e.j)).bind (zc8 e)) = none by rw [q3]; exact zcU (.inr rfl)); obtain ⟨vO, out, hB9, hO9, hs9, hok9⟩ := HM1.o; have f2 := hB9.frozen 2; have c2 := hB9.cell (i := 2) (v := .bool s.isNone) rfl; have HB9 := yq hB9; have HO9 := yq hO9; have HK9 := yq hok9; rw [q2]; clear hq q2 q3 hB9 hO9 hs9 hok9; go_wp2_with fail
    refine bodyPost_ret (v := .tuple #[]) (by simp [results, Tryz.results90, go_sem]) rfl ⟨rfl, (But.of HB1.o).setCell _, ?_⟩
    rw [Q3.o]; exact ⟨vO, out, HB9.o.set 2 _, ownsRow_setCell_below HO9.o (by show b < b + 1; omega) _, (fun _ h => nomatch h), HK9.o⟩
  | true =>
    have q1 : zaH (zam xs ls e.i e.j) = zam xs ls e.i e.j := by unfold zaH; rw [hq]; rfl
    have q2 : zaB (zam xs ls e.i e.j) = 0 := by unfold zaB; rw [hq]; rfl
    have q3 : zbj (zam xs ls e.i e.j) = some (zam xs ls e.i e.j) := by unfold zbj; rw [hq]; rfl
    have HQ3 := yq (show zbu s ((zbj (zam xs ls e.i e.j)).bind (zc8 e)) = zbu s (zc8 e (zam xs ls e.i e.j)) by rw [q3]; rfl); rw [q1] at HZ1 HO1; rw [q2]; have HG1 := yq hq; clear q1 q2 q3 hq HY; generalize hpq : zam xs ls e.i e.j = p at *; have HPQ := yq hpq; clear hpq; have p4 := zaG HG1.o; have smp := yq (zcb (zaz (zag HG1.o).2.choose_spec)); have cZ := HZ1.o.cell (i := 0) (v := .slice A9 p.length c9) rfl; have x0 := HE1.o.c0; rcases HK.o with hk | ⟨hk, hk0, hk1⟩ | ⟨hk, hm, hm4⟩
    · have hc : zc8 e p = some (p.map zb6) := by unfold zc8; rw [if_pos hk]
      have HCI := yq (show zev (zc8 e p) (p.map zb6) 0 by rw [hc]; exact .inl ⟨rfl, rfl, zdK HG1.o⟩); have HT := yq (show zfj p = p.map zb6 /\ zeg p = 0 by simp [zfj, zeg, HG1.o]); rw [hk] at x0; clear hk hc; go_wp2_with fail
      refine (zh7 _ p _ HO1.o.sl smp.o yO).mono ?_
      rintro e2 w2 ⟨hb2, v2, own2, rfl⟩; rw [HT.o.1] at own2; rw [HT.o.2]; have HM2 := yq (HM1.o.up hb2); obtain ⟨A2, k2, rfl, _⟩ := zae own2; have HO2 := yq (show zab w2 w1.heap.size (.slice A2 p.length k2) (p.map zb6) by rw [<- (List.length_map zb6 : (p.map zb6).length = p.length)]; exact own2); have HB2 := yq (Below.tr HB1.o hb2); clear hb2 own2 cZ x0; go_wp2_with fail
      refine (zeb b P oP s (zc8 e p) (.slice A2 p.length k2) (p.map zb6) 0 w2 HM2.o (zeF HO2.o lb) HCI.o).mono ?_
      rintro e3 w3 ⟨rfl, hb3, ha3⟩; go_wp2
      go_end0
      rw [HPQ.o, HQ3.o]; exact ⟨rfl, (But.of HB2.o).trans hb3, ha3⟩
    · have hn5 : ¬ e.kind = 5 := by omega
      have hc : zc8 e p = zbj (zdz p e.k.toNat) := by unfold zc8; rw [if_neg hn5, if_pos hk]
      have hpc : zb3 p e.k = zaH (zdz p e.k.toNat) /\ zbK p e.k = zaB (zdz p e.k.toNat) := by
       have hb : inB e.k 0 1000000000000000 = true := by simp [inB]; omega
       unfold zb3 zbK; simp [HG1.o, hb]
      have HCI := yq (show zev (zc8 e p) (zb3 p e.k) (zbK p e.k) by rw [hc, hpc.1, hpc.2]; exact zcR _); rw [hk] at x0; have KZ1 : C1 w1 ⟨Z, 0, none⟩ (.slice A9 p.length c9) := ⟨cZ, lZ⟩
      have KE3 : C1 w1 ⟨E, oE + 3, none⟩ (.int .i64 e.k) := ⟨HE1.o.c3, lE⟩
      clear hk hc hn5 hpc; go_wp2_with fail
      have KD := And.intro (KZ1.up (Below.drew (Below.refl _ _))).c (KE3.up (Below.drew (Below.refl _ _))).c
      go_region_held3 (fun w' => w'.cell? ⟨Z, 0, none⟩ = some (.slice A9 p.length c9) /\ w'.cell? ⟨E, oE + 3, none⟩ = some (.int .i64 e.k))
       (first | (with_reducible exact KD) | (with_reducible exact KD2) | (with_reducible exact KD3))
       (first
         | (go_at_call 134; (refine (zhI _ p e.k _ (HO1.o.sl.up yb) yO smp.o).mono ?_); rintro e2 w2 ⟨hb2, v2, own2, rfl⟩; obtain ⟨A2, k2, rfl, _⟩ := zae own2; have b2 := Below.undrew hb2; have KD2 := And.intro (KZ1.up b2).c (KE3.up b2).c)
         | (go_at_call 89; (refine (zeb b P oP s (zc8 e p) (.slice A2 (zb3 p e.k).length k2) (zb3 p e.k) (zbK p e.k) w2 (HM1.o.up b2) (zeF own2 lb) HCI.o).mono ?_); rintro e3 w3 ⟨rfl, hb3, ha3⟩; have KD3 := And.intro ((KZ1.up b2).but hb3 hZb).c ((KE3.up b2).but hb3 hneE).c))
      go_wp2
      go_end0
      rw [HPQ.o, HQ3.o]; exact ⟨rfl, (But.of (Below.tr HB1.o b2)).trans hb3, ha3⟩
    · have hn5 : ¬ e.kind = 5 := by omega
      have hn6 : ¬ e.kind = 6 := by omega
      have hc : zc8 e p = zne p (zft e.map) := by unfold zc8; rw [if_neg hn5, if_neg hn6]
      have HC := yq hc; have HWM := yq (zdt hm hm4); have HM4 := yq hm4; rw [hk] at x0; clear hk hc hn5 hn6 hm hm4; go_wp2_with fail
      go_loopw [6, 7] (fun q a wx => ∃ (k g c : Nat) (l : List ByteArray), k <= 4 /\ a = .int .i64 (k : Int) /\ q = .slice (some ⟨g, 0, none⟩) l.length c /\ l = (zft e.map).take k /\ zkX wx w1.heap.size q l /\ Below w1.heap.size w1 wx) (fun _ a _ => (4 - intOf a).toNat)
      case atStart => exact ⟨0, _, 0, [], Nat.zero_le _, rfl, rfl, rfl, zkX.empty rfl yL, (Below.refl _ _).alloc yL _⟩
      case round =>
       obtain ⟨k, g, c, l, hk4, rfl, rfl, hlc, hown, hb3⟩ := hrel; have Hown := yq hown; have HB3 := yq hb3; have Hlc := yq hlc; have hs3 : w1.heap.size <= wr.heap.size := hb3.size; have hll : l.length <= 4 := by rw [hlc, List.length_take]; omega
       have HLL := yq hll; have HE3 := yq (HE1.o.up hb3); have HZ3 := yq (HZ1.o.up hb3); clear hown hb3 hlc hll; by_cases hlt : k < 4
       · have x5 := HE3.o.c5
         have l5 := HE3.o.lt; have hsz : k + 1 <= e.map.size := by rw [HM4.o]; omega
         have hk0 : k < e.map.size := by omega
         have hli : (k : Int) < 4 := by omega
         go_wp2_with (first
          | (at_builtin; refine zl4 (base := w1.heap.size) (v := .slice (some ⟨g, 0, none⟩) l.length c) (l := l) (y := e.map.extract k (k + 1)) rfl _ _ rfl rfl rfl rfl Hown.o (Nat.le_trans HLL.o (by decide)) hs3 ?_; intro g5 c5 w5 own5 hb5))
         have e5 : (l ++ [e.map.extract k (k + 1)]).length = l.length + 1 := by simp
         refine ⟨⟨k + 1, g5, c5, l ++ [e.map.extract k (k + 1)], by omega, rfl, by rw [e5], ?_, own5, HB3.o.trans hb5⟩, by simp [intOf]; omega⟩
         rw [zl5 hk0, <- Hlc.o]
       · have hk : k = 4 := by omega
         subst hk
         have hl : l = zft e.map := by
          have := Hlc.o; rwa [List.take_of_length_le (by rw [HWM.o.1]; omega)] at this
         subst hl; have HW := yq (zkX.sl Hown.o); have HM3 := yq (HM1.o.up HB3.o); have HO3 := yq (zab.below HO1.o HB3.o); have HB4 := yq (Below.tr HB1.o HB3.o); have cZ3 := HZ3.o.cell (i := 0) (v := .slice A9 p.length c9) rfl; have lb3 := HM3.o.lt; have HCI := yq (show zev (zc8 e p) (zdR p (zft e.map)) (zcW p (zft e.map)) by rw [HC.o]; exact zhh _ _); clear cZ x0 Hown; go_wp2_with fail
         refine (zjz _ _ p (zft e.map) _ HO3.o.sl HW.o smp.o HG1.o HWM.o.2 HWM.o.1).mono ?_
         rintro e2 w2 ⟨hb2, v2, own2, rfl⟩; obtain ⟨A2, k2, rfl, _⟩ := zae own2; have HM2 := yq (HM3.o.up hb2); have HO2 := yq own2; have HB2 := yq (Below.tr HB4.o hb2); clear hb2 own2 cZ3; go_wp2_with fail
         refine (zeb b P oP s (zc8 e p) (.slice A2 (zdR p (zft e.map)).length k2) (zdR p (zft e.map)) (zcW p (zft e.map)) w2 HM2.o (zeF HO2.o lb3) HCI.o).mono ?_
         rintro e3 w3 ⟨rfl, hb3, ha3⟩; go_wp2
         go_end0
         rw [HPQ.o, HQ3.o]; exact ⟨rfl, (But.of HB2.o).trans hb3, ha3⟩
theorem zhO (b o : Nat) (vR : Value) (e : zap) (n : Int) (w : World) (h : EC w b o e vR) (hk : inR e.kind 1 7 = true) :
  Calls Tryz.prog 42 #[.pointer (some ⟨b, o, none⟩), .int .i64 n] w fun r w' => r = .returned (.bool (zar e n)) /\ Below w.heap.size w w' := by
 obtain ⟨k, i, j, kk, part, map⟩ := e; obtain ⟨x0, x1, x2, x3, x4, x5, hlt⟩ := h; simp only at hk x0 x1 x2 x3 x4 x5
 rcases zdl hk with rfl | rfl | rfl | rfl | rfl | rfl | rfl
 all_goals clear hk
 rotate_left 3
 · by_cases c1 : j <= n
   · by_cases c2 : kk <= i
     · go_enter Tryz.func42, Tryz.ntmps42
       go_wp2_with fail
       go_quiet (fail)
       go_wp2_with fail
       go_ret
       exact ⟨zak (by simp [zar, c1, c2]), yb⟩
     · have g2 : decide (kk <= i) = false := by simp; omega
       by_cases c3 : j <= kk
       · go_enter Tryz.func42, Tryz.ntmps42
         go_wp2_with fail
         go_quiet (fail)
         go_wp2_with fail
         go_ret
         exact ⟨zak (by simp [zar, c1, g2, c3]), yb⟩
       · have g3 : decide (j <= kk) = false := by simp; omega
         have C3 := yq c3; go_enter Tryz.func42, Tryz.ntmps42
         go_wp2_with fail
         go_quiet (fail)
         go_wp2_with fail
         go_ret
         exact ⟨zak (by simp [zar, c1, g2, g3]), yb⟩
   · have g1 : decide (j <= n) = false := by simp; omega
     go_enter Tryz.func42, Tryz.ntmps42
     go_wp2_with fail
     go_quiet (fail)
     go_wp2_with fail
     go_ret
     exact ⟨zak (by simp [zar, g1]), yb⟩
 all_goals
  go_enter Tryz.func42, Tryz.ntmps42
  go_wp2_with fail
  all_goals
   go_ret
   refine ⟨zak ?_, yb⟩
   rw [Bool.eq_iff_iff]; simp [zar] at *
   try omega
structure MkJ (w0 : World) (P oP E oE R b : Nat) (e : zap) (vR vG : Value) (s : Option (List zaa)) (W : World) : Prop where
 bel : Below w0.heap.size w0 W
 hM : Mk W b P oP s
 cP : C1 W ⟨P, oP, none⟩ vG
 hE : EC W E oE e vR
 hR : Blk W R #[.slice none 0 0] 26
 neP : P ≠ b
 neE : E ≠ b
 neR : R ≠ b
 le : w0.heap.size <= b
 ltR : w0.heap.size <= R
theorem MkJ.next {w0 W W' : World} {P oP E oE R b : Nat} {e : zap} {vR vG : Value} {s s' : Option (List zaa)} (h : MkJ w0 P oP E oE R b e vR vG s W) (hb : But b W W') (ha : Mk W' b P oP s') : MkJ w0 P oP E oE R b e vR vG s' W' :=
 ⟨h.bel.trans (hb.below h.le h.bel.size), ha, h.cP.but hb h.neP, h.hE.but hb h.neE, h.hR.but hb h.neR, h.neP, h.neE, h.neR, h.le, h.ltR⟩
theorem MkJ.drewN {w0 W : World} {P oP E oE R b : Nat} {e : zap} {vR vG : Value} {s : Option (List zaa)} (h : MkJ w0 P oP E oE R b e vR vG s W) (n : Nat) : MkJ w0 P oP E oE R b e vR vG s (W.drewN n) :=
 h.next ((But.refl b W).drewN n) (h.hM.up (zat (Below.refl _ _) n))
theorem MkJ.drew {w0 W : World} {P oP E oE R b : Nat} {e : zap} {vR vG : Value} {s : Option (List zaa)} (h : MkJ w0 P oP E oE R b e vR vG s W) : MkJ w0 P oP E oE R b e vR vG s W.drew :=
 h.next (But.refl b W).drew (h.hM.up (Below.drew (Below.refl _ _)))
theorem znj {W : World} {P oP : Nat} {b : Nat} (h : Blk W b #[.pointer (some ⟨P, oP, none⟩), .slice none 0 0, .bool false] 124) : Mk W b P oP (some []) :=
 ⟨_, [], h, World.ownsRow_nil _ _ _ _, fun _ h => (Option.some.inj h).symm, rfl⟩
theorem ziE {e : zap} {n : Int} (h : zaA e = true) (hf : zar e n = true) :
  0 <= e.i /\ (e.kind = 1 -> e.i <= n) /\ (2 <= e.kind -> e.i <= e.j /\ e.j <= n) /\ (e.kind = 3 -> 0 <= e.k /\ e.k <= n) /\ (e.kind = 4 -> 0 <= e.k /\ (e.k <= e.i \/ (e.j <= e.k /\ e.k <= n))) := by
 obtain ⟨k, i, j, kk, part, map⟩ := e; have hk := (zfw h).2.2.2; have hr := (zfw h).2.2.1; simp only [zaA, Bool.and_eq_true, inR, decide_eq_true_eq] at h
 obtain ⟨⟨⟨⟨⟨⟨⟨⟨h1, h1'⟩, h2⟩, h3⟩, h4⟩, h5⟩, h6⟩, h7⟩, h8⟩ := h; simp only at h1 h1' h2 h3 h4 hk hr |-
 rcases (by omega : k = 1 \/ k = 2 \/ k = 3 \/ k = 4 \/ k = 5 \/ k = 6 \/ k = 7) with rfl | rfl | rfl | rfl | rfl | rfl | rfl
 all_goals
  simp [zar, za3, zcd, zcm, inR] at hf h3 h4 hk |-
  omega
theorem ziF (P oP E oE : Nat) (vG vR : Value) (xs : List zaa) (e : zap) (w : World) (hP : C1 w ⟨P, oP, none⟩ vG) (hE : EC w E oE e vR) (hG : Sl zas w w.heap.size vG xs) (hR : Sl zas w w.heap.size vR e.part) (hg : zaf xs = true) (hk : zaA e = true) :
  Calls Tryz.prog 37 #[.pointer (some ⟨P, oP, none⟩), .pointer (some ⟨E, oE, none⟩)] w (zlp (zaj xs e) (zah xs e) w) := by
 have hls : zaX xs = some (zdi xs) := by
  obtain ⟨ls, h⟩ := (zag hg).2; simp [zdi, h]
 obtain ⟨ls, hlq⟩ : ∃ ls, zdi xs = ls := ⟨_, rfl⟩
 rw [hlq] at hls; have HG := yq hG; have HR := yq hR; have HL := yq hls; have HOK := yq hg; have HK := yq (zfw hk); have HEK := yq hk; have hn : xs.length <= 1048576 := by have := zaG hg; omega
 have sm := yq (zcb (zaz (zag hg).2.choose_spec)); have hgl : zao xs = zai ls := zaq hls; have HAO := yq (show zaj xs e = if zar e (zai ls) then zhM (zaT xs ls (zai ls) e) else [] by simp [zaj, hg, hk, hgl, zco, hlq]); have HAC := yq (show zah xs e = if zar e (zai ls) then zgA (zaT xs ls (zai ls) e) else 2 by simp [zah, hg, hk, hgl, zco, hlq]); obtain ⟨AG, cG, rfl, _⟩ := hG; obtain ⟨AR, cR, rfl, _⟩ := hR; have HP := yq hP; have HE := yq hE; have KR := Blk.new w #[.slice none 0 0] 26; have bA := (Below.refl w.heap.size w).alloc yL (.cells #[.slice none 0 0] 26); clear hls hlq hg hk hgl hP hE; go_enter Tryz.func37, Tryz.ntmps37
 go_wp2_with fail
 refine (zbn P oP _ xs ls _ HL.o (HP.o.up bA).c (HP.o.up bA).lt (HG.o.up bA) sm.o yO).mono ?_
 rintro e1 w1 ⟨rfl, hb1⟩; have HP1 := yq ((HP.o.up bA).up hb1); have HE1 := yq ((HE.o.up bA).up hb1); have HR1 := yq (KR.up hb1); have HB1 := yq (Below.tr bA hb1); clear HP HE KR bA hb1; go_wp2_with fail
 refine (zhO E oE _ e _ _ HE1.o HK.o.2.2.1).mono ?_
 rintro e2 w2 ⟨rfl, hb2⟩; have HP2 := yq (HP1.o.up hb2); have HE2 := yq (HE1.o.up hb2); have HR2 := yq (HR1.o.up hb2); have HB2 := yq (Below.tr HB1.o hb2); clear HP1 HE1 HR1 HB1 hb2; have rl := HR2.o.lt; have rf := HR2.o.frozen 0; have rc := HR2.o.cell (i := 0) (v := .slice none 0 0) rfl; cases hf : zar e (zai ls) with
 | false =>
   have q1 : zaj xs e = [] /\ zah xs e = 2 := by rw [HAO.o, HAC.o, hf]; exact ⟨rfl, rfl⟩
   have HQ := yq q1; clear q1 hf; go_wp2_with fail
   refine bodyPost_ret (v := .tuple #[.agg #[.slice none 0 0], .int .i64 2]) (by simp [results, Tryz.results37, go_sem, rc]) rfl ⟨Below.setCell HB2.o (by show w.heap.size <= w.heap.size; omega) _, .slice none 0 0, by rw [HQ.o.1]; exact World.ownsRow_nil _ _ _ _, by rw [HQ.o.2]⟩
 | true =>
   have hao : zaj xs e = zhM (zaT xs ls (zai ls) e) /\ zah xs e = zgA (zaT xs ls (zai ls) e) := by rw [HAO.o, HAC.o, hf]; exact ⟨rfl, rfl⟩
   have HQA := yq hao; have HF := yq (ziE HEK.o hf); have hs2 := HB2.o.size; have KM := Blk.new w2 #[.pointer (some ⟨P, oP, none⟩), .slice none 0 0, .bool false] 124; have bM := (Below.refl w2.heap.size w2).alloc yL (.cells #[.pointer (some ⟨P, oP, none⟩), .slice none 0 0, .bool false] 124); have lp := HP2.o.lt; have le := HE2.o.lt
   have hj : MkJ w P oP E oE w.heap.size w2.heap.size e (.slice AR e.part.length cR) (.slice AG xs.length cG) (some []) (w2.alloc (.cells #[.pointer (some ⟨P, oP, none⟩), .slice none 0 0, .bool false] 124)) :=
    ⟨Below.tr HB2.o bM, znj KM, HP2.o.up bM, HE2.o.up bM, HR2.o.up bM, by show P ≠ _; have : P < w2.heap.size := lp; omega, by omega, by omega, hs2, Nat.le_refl _⟩
   have HJ1 := yq hj; clear hao hf hj KM bM rl rf rc lp HP2 HE2 HR2 HB2 HAO HAC; go_upto_region 8 with fail
   generalize w2.alloc (.cells #[.pointer (some ⟨P, oP, none⟩), .slice none 0 0, .bool false] 124) = W1 at *; obtain ⟨b, hbq⟩ : ∃ b, w2.heap.size = b := ⟨_, rfl⟩
   rw [hbq] at HJ1 |-
   clear hbq; rcases HK.o.1 with hk | hk | hk | hk | hkk
   · have x0 := HJ1.o.hE.c0
     rw [hk] at x0; have HKE := yq hk; clear hk; have aE1 := HJ1.o.hE.c1; have aE := HJ1.o.hE.lt; have aB := HJ1.o.hM.lt; go_wp2_with fail
     refine (zaU b P oP _ xs ls _ 0 (e.i) _ HJ1.o.hM HJ1.o.cP.c HJ1.o.cP.lt ((HG.o.below HJ1.o.bel).le HJ1.o.le) HOK.o HL.o (by first | (have := HF.o; have := HKE.o; omega) | (have := HF.o; have := HKE.o; have := HKI.o; omega))).mono ?_
     rintro e6 W2 ⟨rfl, hb1, ha1⟩; have HJ2 := yq (HJ1.o.next hb1 ha1); clear aE1 aE aB hb1 ha1 HJ1; have aE4 := HJ2.o.hE.c4; have aE := HJ2.o.hE.lt; have aB := HJ2.o.hM.lt; go_wp2_with fail
     refine (zeb b P oP _ (some e.part) (.slice AR e.part.length cR) e.part 0 _ HJ2.o.hM (zoJ (HR.o.below HJ2.o.bel) HJ2.o.le HJ2.o.hM.lt) (.inl ⟨rfl, rfl, HK.o.2.1⟩)).mono ?_
     rintro e7 W3 ⟨rfl, hb2, ha2⟩; have HJ3 := yq (HJ2.o.next hb2 ha2); clear aE4 aE aB hb2 ha2 HJ2; have aE1 := HJ3.o.hE.c1; have aE := HJ3.o.hE.lt; have aB := HJ3.o.hM.lt; go_wp2_with fail
     refine (zaU b P oP _ xs ls _ e.i (zai ls) _ HJ3.o.hM HJ3.o.cP.c HJ3.o.cP.lt ((HG.o.below HJ3.o.bel).le HJ3.o.le) HOK.o HL.o (by first | (have := HF.o; have := HKE.o; omega) | (have := HF.o; have := HKE.o; have := HKI.o; omega))).mono ?_
     rintro e8 W4 ⟨rfl, hb3, ha3⟩; have HJ4 := yq (HJ3.o.next hb3 ha3); clear aE1 aE aB hb3 ha3 HJ3; have hQ : zaT xs ls (zai ls) e = zbu (zbu (zbu (some []) (zbj (zam xs ls 0 (e.i)))) (some e.part)) (zbj (zam xs ls e.i (zai ls))) := by unfold zaT; rw [if_pos HKE.o]
     have HQ := yq hQ; clear hQ; obtain ⟨vO, out, hB9, hO9, hs9, hok9⟩ := HJ4.o.hM; obtain ⟨AO, kO, rfl, _⟩ := zae hO9; have HOut := yq hok9; have HO9 := yq hO9; have lb := hB9.lt; have rl := HJ4.o.hR.lt; have rf := HJ4.o.hR.frozen 0; have rc := HJ4.o.hR.cell (i := 0) (v := .slice none 0 0) rfl; have HBE := yq HJ4.o.bel; have HRR := yq HJ4.o.hR; have hle := HJ4.o.le; clear hok9 hO9 HJ4; rw [<- HQ.o] at hB9 hs9; cases hS : zaT xs ls (zai ls) e with
     | none =>
       have q1 : zaj xs e = [] /\ zah xs e = 3 := by rw [HQA.o.1, HQA.o.2, hS]; exact ⟨rfl, rfl⟩
       have HX := yq q1; have a2 := hB9.cell (i := 2) (v := .bool true) (by rw [hS]; rfl); clear hS hs9 hB9 q1; go_wp2_with fail
       refine bodyPost_ret (v := .tuple #[.agg #[.slice none 0 0], .int .i64 3]) (by simp [results, Tryz.results37, go_sem, rc]) rfl ⟨Below.setCell HBE.o (by show w.heap.size <= w.heap.size; omega) _, .slice none 0 0, by rw [HX.o.1]; exact World.ownsRow_nil _ _ _ _, by rw [HX.o.2]⟩
     | some o =>
       have e9 := hs9 o hS; subst e9; have q1 : zaj xs e = zaO o /\ zah xs e = 0 := by rw [HQA.o.1, HQA.o.2, hS]; exact ⟨rfl, rfl⟩
       have HX := yq q1; have a1 := hB9.cell (i := 1) (v := .slice AO o.length kO) rfl; have a2 := hB9.cell (i := 2) (v := .bool false) (by rw [hS]; rfl); clear hS hs9 hB9 q1; go_wp2_with fail
       refine (zbC b 1 _ o _ a1 lb HO9.o.sl (by have := zaG HOut.o; omega) (zaz (zag HOut.o).2.choose_spec)).mono ?_
       rintro e10 w10 ⟨hb10, v10, own10, rfl⟩; have HR10 := yq (HRR.o.up hb10); have HB10 := yq (Below.tr HBE.o hb10); have HO10 := yq own10; obtain ⟨A10, k10, rfl, _⟩ := zae own10; have b0 := HR10.o.cell (i := 0) (v := .slice none 0 0) rfl; have b1 := HR10.o.frozen 0; have b2 := HR10.o.lt; have hzz := HBE.o.size; clear hb10 own10 a1 a2 rl rf rc; go_wp2_with fail
       refine bodyPost_ret (v := .tuple #[.agg #[.slice A10 (zaO o).length k10], .int .i64 0]) (by simp [results, Tryz.results37, go_sem, b0]) rfl ⟨HB10.o.setCell (by show w.heap.size <= w.heap.size; omega) _, .slice A10 (zaO o).length k10, ?_, by rw [HX.o.2]⟩
       rw [HX.o.1]; exact zac (ownsRow_setCell_below HO10.o (a := ⟨w.heap.size, 0, none⟩) (by show w.heap.size < _; omega) _) yO
   · have x0 := HJ1.o.hE.c0
     rw [hk] at x0; have HKE := yq hk; clear hk; have aE1 := HJ1.o.hE.c1; have aE := HJ1.o.hE.lt; have aB := HJ1.o.hM.lt; go_wp2_with fail
     refine (zaU b P oP _ xs ls _ 0 (e.i) _ HJ1.o.hM HJ1.o.cP.c HJ1.o.cP.lt ((HG.o.below HJ1.o.bel).le HJ1.o.le) HOK.o HL.o (by first | (have := HF.o; have := HKE.o; omega) | (have := HF.o; have := HKE.o; have := HKI.o; omega))).mono ?_
     rintro e6 W2 ⟨rfl, hb1, ha1⟩; have HJ2 := yq (HJ1.o.next hb1 ha1); clear aE1 aE aB hb1 ha1 HJ1; have aE2 := HJ2.o.hE.c2; have aE := HJ2.o.hE.lt; have aB := HJ2.o.hM.lt; go_wp2_with fail
     refine (zaU b P oP _ xs ls _ e.j (zai ls) _ HJ2.o.hM HJ2.o.cP.c HJ2.o.cP.lt ((HG.o.below HJ2.o.bel).le HJ2.o.le) HOK.o HL.o (by first | (have := HF.o; have := HKE.o; omega) | (have := HF.o; have := HKE.o; have := HKI.o; omega))).mono ?_
     rintro e7 W3 ⟨rfl, hb2, ha2⟩; have HJ3 := yq (HJ2.o.next hb2 ha2); clear aE2 aE aB hb2 ha2 HJ2; have hQ : zaT xs ls (zai ls) e = zbu (zbu (some []) (zbj (zam xs ls 0 (e.i)))) (zbj (zam xs ls e.j (zai ls))) := by unfold zaT; rw [if_neg (by rw [HKE.o]; decide), if_pos HKE.o]
     have HQ := yq hQ; clear hQ; obtain ⟨vO, out, hB9, hO9, hs9, hok9⟩ := HJ3.o.hM; obtain ⟨AO, kO, rfl, _⟩ := zae hO9; have HOut := yq hok9; have HO9 := yq hO9; have lb := hB9.lt; have rl := HJ3.o.hR.lt; have rf := HJ3.o.hR.frozen 0; have rc := HJ3.o.hR.cell (i := 0) (v := .slice none 0 0) rfl; have HBE := yq HJ3.o.bel; have HRR := yq HJ3.o.hR; have hle := HJ3.o.le; clear hok9 hO9 HJ3; rw [<- HQ.o] at hB9 hs9; cases hS : zaT xs ls (zai ls) e with
     | none =>
       have q1 : zaj xs e = [] /\ zah xs e = 3 := by rw [HQA.o.1, HQA.o.2, hS]; exact ⟨rfl, rfl⟩
       have HX := yq q1; have a2 := hB9.cell (i := 2) (v := .bool true) (by rw [hS]; rfl); clear hS hs9 hB9 q1; go_wp2_with fail
       refine bodyPost_ret (v := .tuple #[.agg #[.slice none 0 0], .int .i64 3]) (by simp [results, Tryz.results37, go_sem, rc]) rfl ⟨Below.setCell HBE.o (by show w.heap.size <= w.heap.size; omega) _, .slice none 0 0, by rw [HX.o.1]; exact World.ownsRow_nil _ _ _ _, by rw [HX.o.2]⟩
     | some o =>
       have e9 := hs9 o hS; subst e9; have q1 : zaj xs e = zaO o /\ zah xs e = 0 := by rw [HQA.o.1, HQA.o.2, hS]; exact ⟨rfl, rfl⟩
       have HX := yq q1; have a1 := hB9.cell (i := 1) (v := .slice AO o.length kO) rfl; have a2 := hB9.cell (i := 2) (v := .bool false) (by rw [hS]; rfl); clear hS hs9 hB9 q1; go_wp2_with fail
       refine (zbC b 1 _ o _ a1 lb HO9.o.sl (by have := zaG HOut.o; omega) (zaz (zag HOut.o).2.choose_spec)).mono ?_
       rintro e10 w10 ⟨hb10, v10, own10, rfl⟩; have HR10 := yq (HRR.o.up hb10); have HB10 := yq (Below.tr HBE.o hb10); have HO10 := yq own10; obtain ⟨A10, k10, rfl, _⟩ := zae own10; have b0 := HR10.o.cell (i := 0) (v := .slice none 0 0) rfl; have b1 := HR10.o.frozen 0; have b2 := HR10.o.lt; have hzz := HBE.o.size; clear hb10 own10 a1 a2 rl rf rc; go_wp2_with fail
       refine bodyPost_ret (v := .tuple #[.agg #[.slice A10 (zaO o).length k10], .int .i64 0]) (by simp [results, Tryz.results37, go_sem, b0]) rfl ⟨HB10.o.setCell (by show w.heap.size <= w.heap.size; omega) _, .slice A10 (zaO o).length k10, ?_, by rw [HX.o.2]⟩
       rw [HX.o.1]; exact zac (ownsRow_setCell_below HO10.o (a := ⟨w.heap.size, 0, none⟩) (by show w.heap.size < _; omega) _) yO
   · have x0 := HJ1.o.hE.c0
     rw [hk] at x0; have HKE := yq hk; clear hk; have aE3 := HJ1.o.hE.c3; have aE := HJ1.o.hE.lt; have aB := HJ1.o.hM.lt; go_wp2_with fail
     refine (zaU b P oP _ xs ls _ 0 (e.k) _ HJ1.o.hM HJ1.o.cP.c HJ1.o.cP.lt ((HG.o.below HJ1.o.bel).le HJ1.o.le) HOK.o HL.o (by first | (have := HF.o; have := HKE.o; omega) | (have := HF.o; have := HKE.o; have := HKI.o; omega))).mono ?_
     rintro e6 W2 ⟨rfl, hb1, ha1⟩; have HJ2 := yq (HJ1.o.next hb1 ha1); clear aE3 aE aB hb1 ha1 HJ1; have aE1 := HJ2.o.hE.c1; have aE2 := HJ2.o.hE.c2; have aE := HJ2.o.hE.lt; have aB := HJ2.o.hM.lt; go_wp2_with fail
     go_still_tail 9, yk
     change wpList _ _ _ _ _ W2.drew
     replace HJ2 := yq HJ2.o.drew
     clear aE1 aE2 aE aB; generalize W2.drew = W2 at *; have aE1 := HJ2.o.hE.c1; have aE2 := HJ2.o.hE.c2; have aE := HJ2.o.hE.lt; have aB := HJ2.o.hM.lt; go_wp2_with fail
     refine (zaU b P oP _ xs ls _ e.i (e.j) _ HJ2.o.hM HJ2.o.cP.c HJ2.o.cP.lt ((HG.o.below HJ2.o.bel).le HJ2.o.le) HOK.o HL.o (by first | (have := HF.o; have := HKE.o; omega) | (have := HF.o; have := HKE.o; have := HKI.o; omega))).mono ?_
     rintro e7 W3 ⟨rfl, hb2, ha2⟩; have HJ3 := yq (HJ2.o.next hb2 ha2); clear aE1 aE2 aE aB hb2 ha2 HJ2; have aE3 := HJ3.o.hE.c3; have aE := HJ3.o.hE.lt; have aB := HJ3.o.hM.lt; go_wp2_with fail
     refine (zaU b P oP _ xs ls _ e.k (zai ls) _ HJ3.o.hM HJ3.o.cP.c HJ3.o.cP.lt ((HG.o.below HJ3.o.bel).le HJ3.o.le) HOK.o HL.o (by first | (have := HF.o; have := HKE.o; omega) | (have := HF.o; have := HKE.o; have := HKI.o; omega))).mono ?_
     rintro e8 W4 ⟨rfl, hb3, ha3⟩; have HJ4 := yq (HJ3.o.next hb3 ha3); clear aE3 aE aB hb3 ha3 HJ3; have hQ : zaT xs ls (zai ls) e = zbu (zbu (zbu (some []) (zbj (zam xs ls 0 (e.k)))) (zbj (zam xs ls e.i (e.j)))) (zbj (zam xs ls e.k (zai ls))) := by unfold zaT; rw [if_neg (by rw [HKE.o]; decide), if_neg (by rw [HKE.o]; decide), if_pos HKE.o]
     have HQ := yq hQ; clear hQ; obtain ⟨vO, out, hB9, hO9, hs9, hok9⟩ := HJ4.o.hM; obtain ⟨AO, kO, rfl, _⟩ := zae hO9; have HOut := yq hok9; have HO9 := yq hO9; have lb := hB9.lt; have rl := HJ4.o.hR.lt; have rf := HJ4.o.hR.frozen 0; have rc := HJ4.o.hR.cell (i := 0) (v := .slice none 0 0) rfl; have HBE := yq HJ4.o.bel; have HRR := yq HJ4.o.hR; have hle := HJ4.o.le; clear hok9 hO9 HJ4; rw [<- HQ.o] at hB9 hs9; cases hS : zaT xs ls (zai ls) e with
     | none =>
       have q1 : zaj xs e = [] /\ zah xs e = 3 := by rw [HQA.o.1, HQA.o.2, hS]; exact ⟨rfl, rfl⟩
       have HX := yq q1; have a2 := hB9.cell (i := 2) (v := .bool true) (by rw [hS]; rfl); clear hS hs9 hB9 q1; go_wp2_with fail
       refine bodyPost_ret (v := .tuple #[.agg #[.slice none 0 0], .int .i64 3]) (by simp [results, Tryz.results37, go_sem, rc]) rfl ⟨Below.setCell HBE.o (by show w.heap.size <= w.heap.size; omega) _, .slice none 0 0, by rw [HX.o.1]; exact World.ownsRow_nil _ _ _ _, by rw [HX.o.2]⟩
     | some o =>
       have e9 := hs9 o hS; subst e9; have q1 : zaj xs e = zaO o /\ zah xs e = 0 := by rw [HQA.o.1, HQA.o.2, hS]; exact ⟨rfl, rfl⟩
       have HX := yq q1; have a1 := hB9.cell (i := 1) (v := .slice AO o.length kO) rfl; have a2 := hB9.cell (i := 2) (v := .bool false) (by rw [hS]; rfl); clear hS hs9 hB9 q1; go_wp2_with fail
       refine (zbC b 1 _ o _ a1 lb HO9.o.sl (by have := zaG HOut.o; omega) (zaz (zag HOut.o).2.choose_spec)).mono ?_
       rintro e10 w10 ⟨hb10, v10, own10, rfl⟩; have HR10 := yq (HRR.o.up hb10); have HB10 := yq (Below.tr HBE.o hb10); have HO10 := yq own10; obtain ⟨A10, k10, rfl, _⟩ := zae own10; have b0 := HR10.o.cell (i := 0) (v := .slice none 0 0) rfl; have b1 := HR10.o.frozen 0; have b2 := HR10.o.lt; have hzz := HBE.o.size; clear hb10 own10 a1 a2 rl rf rc; go_wp2_with fail
       refine bodyPost_ret (v := .tuple #[.agg #[.slice A10 (zaO o).length k10], .int .i64 0]) (by simp [results, Tryz.results37, go_sem, b0]) rfl ⟨HB10.o.setCell (by show w.heap.size <= w.heap.size; omega) _, .slice A10 (zaO o).length k10, ?_, by rw [HX.o.2]⟩
       rw [HX.o.1]; exact zac (ownsRow_setCell_below HO10.o (a := ⟨w.heap.size, 0, none⟩) (by show w.heap.size < _; omega) _) yO
   · have x0 := HJ1.o.hE.c0
     rw [hk] at x0; have HKE := yq hk; clear hk; by_cases hki : e.k <= e.i
     · have HKI := yq hki
       have y1 := HJ1.o.hE.c1; have y3 := HJ1.o.hE.c3; have yl := HJ1.o.hE.lt; go_wp2_with fail
       go_quiet (fail)
       replace HJ1 := yq (HJ1.o.drewN nq)
       clear x0 y1 y3 yl; generalize W1.drewN nq = W1 at *; have x0 := HJ1.o.hE.c0; rw [HKE.o] at x0; have yl := HJ1.o.hE.lt; clear hki; have aE3 := HJ1.o.hE.c3; have aE := HJ1.o.hE.lt; have aB := HJ1.o.hM.lt; go_wp2_with fail
       refine (zaU b P oP _ xs ls _ 0 (e.k) _ HJ1.o.hM HJ1.o.cP.c HJ1.o.cP.lt ((HG.o.below HJ1.o.bel).le HJ1.o.le) HOK.o HL.o (by first | (have := HF.o; have := HKE.o; omega) | (have := HF.o; have := HKE.o; have := HKI.o; omega))).mono ?_
       rintro e6 W2 ⟨rfl, hb1, ha1⟩; have HJ2 := yq (HJ1.o.next hb1 ha1); clear aE3 aE aB hb1 ha1 HJ1; have aE1 := HJ2.o.hE.c1; have aE2 := HJ2.o.hE.c2; have aE := HJ2.o.hE.lt; have aB := HJ2.o.hM.lt; go_wp2_with fail
       go_still_tail 9, yk
       change wpList _ _ _ _ _ W2.drew
       replace HJ2 := yq HJ2.o.drew
       clear aE1 aE2 aE aB; generalize W2.drew = W2 at *; have aE1 := HJ2.o.hE.c1; have aE2 := HJ2.o.hE.c2; have aE := HJ2.o.hE.lt; have aB := HJ2.o.hM.lt; go_wp2_with fail
       refine (zaU b P oP _ xs ls _ e.i (e.j) _ HJ2.o.hM HJ2.o.cP.c HJ2.o.cP.lt ((HG.o.below HJ2.o.bel).le HJ2.o.le) HOK.o HL.o (by first | (have := HF.o; have := HKE.o; omega) | (have := HF.o; have := HKE.o; have := HKI.o; omega))).mono ?_
       rintro e7 W3 ⟨rfl, hb2, ha2⟩; have HJ3 := yq (HJ2.o.next hb2 ha2); clear aE1 aE2 aE aB hb2 ha2 HJ2; have aE1 := HJ3.o.hE.c1; have aE3 := HJ3.o.hE.c3; have aE := HJ3.o.hE.lt; have aB := HJ3.o.hM.lt; go_wp2_with fail
       go_still_tail 9, yk
       change wpList _ _ _ _ _ W3.drew
       replace HJ3 := yq HJ3.o.drew
       clear aE1 aE3 aE aB; generalize W3.drew = W3 at *; have aE1 := HJ3.o.hE.c1; have aE3 := HJ3.o.hE.c3; have aE := HJ3.o.hE.lt; have aB := HJ3.o.hM.lt; go_wp2_with fail
       refine (zaU b P oP _ xs ls _ e.k (e.i) _ HJ3.o.hM HJ3.o.cP.c HJ3.o.cP.lt ((HG.o.below HJ3.o.bel).le HJ3.o.le) HOK.o HL.o (by first | (have := HF.o; have := HKE.o; omega) | (have := HF.o; have := HKE.o; have := HKI.o; omega))).mono ?_
       rintro e8 W4 ⟨rfl, hb3, ha3⟩; have HJ4 := yq (HJ3.o.next hb3 ha3); clear aE1 aE3 aE aB hb3 ha3 HJ3; have aE2 := HJ4.o.hE.c2; have aE := HJ4.o.hE.lt; have aB := HJ4.o.hM.lt; go_wp2_with fail
       refine (zaU b P oP _ xs ls _ e.j (zai ls) _ HJ4.o.hM HJ4.o.cP.c HJ4.o.cP.lt ((HG.o.below HJ4.o.bel).le HJ4.o.le) HOK.o HL.o (by first | (have := HF.o; have := HKE.o; omega) | (have := HF.o; have := HKE.o; have := HKI.o; omega))).mono ?_
       rintro e9 W5 ⟨rfl, hb4, ha4⟩; have HJ5 := yq (HJ4.o.next hb4 ha4); clear aE2 aE aB hb4 ha4 HJ4; have hQ : zaT xs ls (zai ls) e = zbu (zbu (zbu (zbu (some []) (zbj (zam xs ls 0 (e.k)))) (zbj (zam xs ls e.i (e.j)))) (zbj (zam xs ls e.k (e.i)))) (zbj (zam xs ls e.j (zai ls))) := by unfold zaT; rw [if_neg (by rw [HKE.o]; decide), if_neg (by rw [HKE.o]; decide), if_neg (by rw [HKE.o]; decide), if_pos HKE.o, if_pos HKI.o]
       have HQ := yq hQ; clear hQ; obtain ⟨vO, out, hB9, hO9, hs9, hok9⟩ := HJ5.o.hM; obtain ⟨AO, kO, rfl, _⟩ := zae hO9; have HOut := yq hok9; have HO9 := yq hO9; have lb := hB9.lt; have rl := HJ5.o.hR.lt; have rf := HJ5.o.hR.frozen 0; have rc := HJ5.o.hR.cell (i := 0) (v := .slice none 0 0) rfl; have HBE := yq HJ5.o.bel; have HRR := yq HJ5.o.hR; have hle := HJ5.o.le; clear hok9 hO9 HJ5; rw [<- HQ.o] at hB9 hs9; cases hS : zaT xs ls (zai ls) e with
       | none =>
         have q1 : zaj xs e = [] /\ zah xs e = 3 := by rw [HQA.o.1, HQA.o.2, hS]; exact ⟨rfl, rfl⟩
         have HX := yq q1; have a2 := hB9.cell (i := 2) (v := .bool true) (by rw [hS]; rfl); clear hS hs9 hB9 q1; go_wp2_with fail
         refine bodyPost_ret (v := .tuple #[.agg #[.slice none 0 0], .int .i64 3]) (by simp [results, Tryz.results37, go_sem, rc]) rfl ⟨Below.setCell HBE.o (by show w.heap.size <= w.heap.size; omega) _, .slice none 0 0, by rw [HX.o.1]; exact World.ownsRow_nil _ _ _ _, by rw [HX.o.2]⟩
       | some o =>
         have e9 := hs9 o hS; subst e9; have q1 : zaj xs e = zaO o /\ zah xs e = 0 := by rw [HQA.o.1, HQA.o.2, hS]; exact ⟨rfl, rfl⟩
         have HX := yq q1; have a1 := hB9.cell (i := 1) (v := .slice AO o.length kO) rfl; have a2 := hB9.cell (i := 2) (v := .bool false) (by rw [hS]; rfl); clear hS hs9 hB9 q1; go_wp2_with fail
         refine (zbC b 1 _ o _ a1 lb HO9.o.sl (by have := zaG HOut.o; omega) (zaz (zag HOut.o).2.choose_spec)).mono ?_
         rintro e10 w10 ⟨hb10, v10, own10, rfl⟩; have HR10 := yq (HRR.o.up hb10); have HB10 := yq (Below.tr HBE.o hb10); have HO10 := yq own10; obtain ⟨A10, k10, rfl, _⟩ := zae own10; have b0 := HR10.o.cell (i := 0) (v := .slice none 0 0) rfl; have b1 := HR10.o.frozen 0; have b2 := HR10.o.lt; have hzz := HBE.o.size; clear hb10 own10 a1 a2 rl rf rc; go_wp2_with fail
         refine bodyPost_ret (v := .tuple #[.agg #[.slice A10 (zaO o).length k10], .int .i64 0]) (by simp [results, Tryz.results37, go_sem, b0]) rfl ⟨HB10.o.setCell (by show w.heap.size <= w.heap.size; omega) _, .slice A10 (zaO o).length k10, ?_, by rw [HX.o.2]⟩
         rw [HX.o.1]; exact zac (ownsRow_setCell_below HO10.o (a := ⟨w.heap.size, 0, none⟩) (by show w.heap.size < _; omega) _) yO
     · have HKI := yq hki
       have hkd : decide (e.k <= e.i) = false := by simp; omega
       have y1 := HJ1.o.hE.c1; have y3 := HJ1.o.hE.c3; have yl := HJ1.o.hE.lt; go_wp2_with fail
       go_quiet (fail)
       replace HJ1 := yq (HJ1.o.drewN nq)
       clear x0 y1 y3 yl; generalize W1.drewN nq = W1 at *; have x0 := HJ1.o.hE.c0; rw [HKE.o] at x0; have yl := HJ1.o.hE.lt; clear hki hkd; have aE1 := HJ1.o.hE.c1; have aE := HJ1.o.hE.lt; have aB := HJ1.o.hM.lt; go_wp2_with fail
       refine (zaU b P oP _ xs ls _ 0 (e.i) _ HJ1.o.hM HJ1.o.cP.c HJ1.o.cP.lt ((HG.o.below HJ1.o.bel).le HJ1.o.le) HOK.o HL.o (by first | (have := HF.o; have := HKE.o; omega) | (have := HF.o; have := HKE.o; have := HKI.o; omega))).mono ?_
       rintro e6 W2 ⟨rfl, hb1, ha1⟩; have HJ2 := yq (HJ1.o.next hb1 ha1); clear aE1 aE aB hb1 ha1 HJ1; have aE2 := HJ2.o.hE.c2; have aE3 := HJ2.o.hE.c3; have aE := HJ2.o.hE.lt; have aB := HJ2.o.hM.lt; go_wp2_with fail
       go_still_tail 9, yk
       change wpList _ _ _ _ _ W2.drew
       replace HJ2 := yq HJ2.o.drew
       clear aE2 aE3 aE aB; generalize W2.drew = W2 at *; have aE2 := HJ2.o.hE.c2; have aE3 := HJ2.o.hE.c3; have aE := HJ2.o.hE.lt; have aB := HJ2.o.hM.lt; go_wp2_with fail
       refine (zaU b P oP _ xs ls _ e.j (e.k) _ HJ2.o.hM HJ2.o.cP.c HJ2.o.cP.lt ((HG.o.below HJ2.o.bel).le HJ2.o.le) HOK.o HL.o (by first | (have := HF.o; have := HKE.o; omega) | (have := HF.o; have := HKE.o; have := HKI.o; omega))).mono ?_
       rintro e7 W3 ⟨rfl, hb2, ha2⟩; have HJ3 := yq (HJ2.o.next hb2 ha2); clear aE2 aE3 aE aB hb2 ha2 HJ2; have aE1 := HJ3.o.hE.c1; have aE2 := HJ3.o.hE.c2; have aE := HJ3.o.hE.lt; have aB := HJ3.o.hM.lt; go_wp2_with fail
       go_still_tail 9, yk
       change wpList _ _ _ _ _ W3.drew
       replace HJ3 := yq HJ3.o.drew
       clear aE1 aE2 aE aB; generalize W3.drew = W3 at *; have aE1 := HJ3.o.hE.c1; have aE2 := HJ3.o.hE.c2; have aE := HJ3.o.hE.lt; have aB := HJ3.o.hM.lt; go_wp2_with fail
       refine (zaU b P oP _ xs ls _ e.i (e.j) _ HJ3.o.hM HJ3.o.cP.c HJ3.o.cP.lt ((HG.o.below HJ3.o.bel).le HJ3.o.le) HOK.o HL.o (by first | (have := HF.o; have := HKE.o; omega) | (have := HF.o; have := HKE.o; have := HKI.o; omega))).mono ?_
       rintro e8 W4 ⟨rfl, hb3, ha3⟩; have HJ4 := yq (HJ3.o.next hb3 ha3); clear aE1 aE2 aE aB hb3 ha3 HJ3; have aE3 := HJ4.o.hE.c3; have aE := HJ4.o.hE.lt; have aB := HJ4.o.hM.lt; go_wp2_with fail
       refine (zaU b P oP _ xs ls _ e.k (zai ls) _ HJ4.o.hM HJ4.o.cP.c HJ4.o.cP.lt ((HG.o.below HJ4.o.bel).le HJ4.o.le) HOK.o HL.o (by first | (have := HF.o; have := HKE.o; omega) | (have := HF.o; have := HKE.o; have := HKI.o; omega))).mono ?_
       rintro e9 W5 ⟨rfl, hb4, ha4⟩; have HJ5 := yq (HJ4.o.next hb4 ha4); clear aE3 aE aB hb4 ha4 HJ4; have hQ : zaT xs ls (zai ls) e = zbu (zbu (zbu (zbu (some []) (zbj (zam xs ls 0 (e.i)))) (zbj (zam xs ls e.j (e.k)))) (zbj (zam xs ls e.i (e.j)))) (zbj (zam xs ls e.k (zai ls))) := by unfold zaT; rw [if_neg (by rw [HKE.o]; decide), if_neg (by rw [HKE.o]; decide), if_neg (by rw [HKE.o]; decide), if_pos HKE.o, if_neg (by have := HKI.o; omega)]
       have HQ := yq hQ; clear hQ; obtain ⟨vO, out, hB9, hO9, hs9, hok9⟩ := HJ5.o.hM; obtain ⟨AO, kO, rfl, _⟩ := zae hO9; have HOut := yq hok9; have HO9 := yq hO9; have lb := hB9.lt; have rl := HJ5.o.hR.lt; have rf := HJ5.o.hR.frozen 0; have rc := HJ5.o.hR.cell (i := 0) (v := .slice none 0 0) rfl; have HBE := yq HJ5.o.bel; have HRR := yq HJ5.o.hR; have hle := HJ5.o.le; clear hok9 hO9 HJ5; rw [<- HQ.o] at hB9 hs9; cases hS : zaT xs ls (zai ls) e with
       | none =>
         have q1 : zaj xs e = [] /\ zah xs e = 3 := by rw [HQA.o.1, HQA.o.2, hS]; exact ⟨rfl, rfl⟩
         have HX := yq q1; have a2 := hB9.cell (i := 2) (v := .bool true) (by rw [hS]; rfl); clear hS hs9 hB9 q1; go_wp2_with fail
         refine bodyPost_ret (v := .tuple #[.agg #[.slice none 0 0], .int .i64 3]) (by simp [results, Tryz.results37, go_sem, rc]) rfl ⟨Below.setCell HBE.o (by show w.heap.size <= w.heap.size; omega) _, .slice none 0 0, by rw [HX.o.1]; exact World.ownsRow_nil _ _ _ _, by rw [HX.o.2]⟩
       | some o =>
         have e9 := hs9 o hS; subst e9; have q1 : zaj xs e = zaO o /\ zah xs e = 0 := by rw [HQA.o.1, HQA.o.2, hS]; exact ⟨rfl, rfl⟩
         have HX := yq q1; have a1 := hB9.cell (i := 1) (v := .slice AO o.length kO) rfl; have a2 := hB9.cell (i := 2) (v := .bool false) (by rw [hS]; rfl); clear hS hs9 hB9 q1; go_wp2_with fail
         refine (zbC b 1 _ o _ a1 lb HO9.o.sl (by have := zaG HOut.o; omega) (zaz (zag HOut.o).2.choose_spec)).mono ?_
         rintro e10 w10 ⟨hb10, v10, own10, rfl⟩; have HR10 := yq (HRR.o.up hb10); have HB10 := yq (Below.tr HBE.o hb10); have HO10 := yq own10; obtain ⟨A10, k10, rfl, _⟩ := zae own10; have b0 := HR10.o.cell (i := 0) (v := .slice none 0 0) rfl; have b1 := HR10.o.frozen 0; have b2 := HR10.o.lt; have hzz := HBE.o.size; clear hb10 own10 a1 a2 rl rf rc; go_wp2_with fail
         refine bodyPost_ret (v := .tuple #[.agg #[.slice A10 (zaO o).length k10], .int .i64 0]) (by simp [results, Tryz.results37, go_sem, b0]) rfl ⟨HB10.o.setCell (by show w.heap.size <= w.heap.size; omega) _, .slice A10 (zaO o).length k10, ?_, by rw [HX.o.2]⟩
         rw [HX.o.1]; exact zac (ownsRow_setCell_below HO10.o (a := ⟨w.heap.size, 0, none⟩) (by show w.heap.size < _; omega) _) yO
   · have HCK := yq hkk
     have hkc : ¬ e.kind = 1 /\ ¬ e.kind = 2 /\ ¬ e.kind = 3 /\ ¬ e.kind = 4 /\ (e.kind = 5 \/ e.kind = 6 \/ e.kind = 7) := by unfold zjw at hkk; omega
     have HKC := yq hkc; obtain ⟨_, _, _, _, hk⟩ := hkc; clear hkk; rcases hk with hk | hk | hk
     · have x0 := HJ1.o.hE.c0
       rw [hk] at x0; have HKE := yq hk; clear hk; have y1 := HJ1.o.hE.c1; have y3 := HJ1.o.hE.c3; have yl := HJ1.o.hE.lt; go_wp2_with fail
       go_quiet (fail)
       replace HJ1 := yq (HJ1.o.drewN nq)
       clear x0 y1 y3 yl; generalize W1.drewN nq = W1 at *; have x0 := HJ1.o.hE.c0; rw [HKE.o] at x0; have yl := HJ1.o.hE.lt; have aE1 := HJ1.o.hE.c1; have aE := HJ1.o.hE.lt; have aB := HJ1.o.hM.lt; go_wp2_with fail
       refine (zaU b P oP _ xs ls _ 0 (e.i) _ HJ1.o.hM HJ1.o.cP.c HJ1.o.cP.lt ((HG.o.below HJ1.o.bel).le HJ1.o.le) HOK.o HL.o (by first | (have := HF.o; have := HKE.o; omega) | (have := HF.o; have := HKE.o; have := HKI.o; omega))).mono ?_
       rintro e6 W2 ⟨rfl, hb1, ha1⟩; have HJ2 := yq (HJ1.o.next hb1 ha1); clear aE1 aE aB hb1 ha1 HJ1; have aE := HJ2.o.hE.lt; have aB := HJ2.o.hM.lt; go_wp2_with fail
       refine (zdO b P oP E oE e _ _ xs ls _ _ HJ2.o.hM HJ2.o.cP HJ2.o.hE HJ2.o.neE ((HG.o.below HJ2.o.bel).le HJ2.o.le) HOK.o HL.o (by first | (have := HF.o; have := HKE.o; omega) | (have := HF.o; have := HKE.o; have := HKI.o; omega)) HCK.o).mono ?_
       rintro e7 W3 ⟨rfl, hb2, ha2⟩; have HJ3 := yq (HJ2.o.next hb2 ha2); clear aE aB hb2 ha2 HJ2; have aE2 := HJ3.o.hE.c2; have aE := HJ3.o.hE.lt; have aB := HJ3.o.hM.lt; go_wp2_with fail
       refine (zaU b P oP _ xs ls _ e.j (zai ls) _ HJ3.o.hM HJ3.o.cP.c HJ3.o.cP.lt ((HG.o.below HJ3.o.bel).le HJ3.o.le) HOK.o HL.o (by first | (have := HF.o; have := HKE.o; omega) | (have := HF.o; have := HKE.o; have := HKI.o; omega))).mono ?_
       rintro e8 W4 ⟨rfl, hb3, ha3⟩; have HJ4 := yq (HJ3.o.next hb3 ha3); clear aE2 aE aB hb3 ha3 HJ3; have hQ : zaT xs ls (zai ls) e = zbu (zbu (zbu (some []) (zbj (zam xs ls 0 (e.i)))) ((zbj (zam xs ls e.i e.j)).bind (zc8 e))) (zbj (zam xs ls e.j (zai ls))) := by unfold zaT; rw [if_neg HKC.o.1, if_neg HKC.o.2.1, if_neg HKC.o.2.2.1, if_neg HKC.o.2.2.2.1]
       have HQ := yq hQ; clear hQ; obtain ⟨vO, out, hB9, hO9, hs9, hok9⟩ := HJ4.o.hM; obtain ⟨AO, kO, rfl, _⟩ := zae hO9; have HOut := yq hok9; have HO9 := yq hO9; have lb := hB9.lt; have rl := HJ4.o.hR.lt; have rf := HJ4.o.hR.frozen 0; have rc := HJ4.o.hR.cell (i := 0) (v := .slice none 0 0) rfl; have HBE := yq HJ4.o.bel; have HRR := yq HJ4.o.hR; have hle := HJ4.o.le; clear hok9 hO9 HJ4; rw [<- HQ.o] at hB9 hs9; cases hS : zaT xs ls (zai ls) e with
       | none =>
         have q1 : zaj xs e = [] /\ zah xs e = 3 := by rw [HQA.o.1, HQA.o.2, hS]; exact ⟨rfl, rfl⟩
         have HX := yq q1; have a2 := hB9.cell (i := 2) (v := .bool true) (by rw [hS]; rfl); clear hS hs9 hB9 q1; go_wp2_with fail
         refine bodyPost_ret (v := .tuple #[.agg #[.slice none 0 0], .int .i64 3]) (by simp [results, Tryz.results37, go_sem, rc]) rfl ⟨Below.setCell HBE.o (by show w.heap.size <= w.heap.size; omega) _, .slice none 0 0, by rw [HX.o.1]; exact World.ownsRow_nil _ _ _ _, by rw [HX.o.2]⟩
       | some o =>
         have e9 := hs9 o hS; subst e9; have q1 : zaj xs e = zaO o /\ zah xs e = 0 := by rw [HQA.o.1, HQA.o.2, hS]; exact ⟨rfl, rfl⟩
         have HX := yq q1; have a1 := hB9.cell (i := 1) (v := .slice AO o.length kO) rfl; have a2 := hB9.cell (i := 2) (v := .bool false) (by rw [hS]; rfl); clear hS hs9 hB9 q1; go_wp2_with fail
         refine (zbC b 1 _ o _ a1 lb HO9.o.sl (by have := zaG HOut.o; omega) (zaz (zag HOut.o).2.choose_spec)).mono ?_
         rintro e10 w10 ⟨hb10, v10, own10, rfl⟩; have HR10 := yq (HRR.o.up hb10); have HB10 := yq (Below.tr HBE.o hb10); have HO10 := yq own10; obtain ⟨A10, k10, rfl, _⟩ := zae own10; have b0 := HR10.o.cell (i := 0) (v := .slice none 0 0) rfl; have b1 := HR10.o.frozen 0; have b2 := HR10.o.lt; have hzz := HBE.o.size; clear hb10 own10 a1 a2 rl rf rc; go_wp2_with fail
         refine bodyPost_ret (v := .tuple #[.agg #[.slice A10 (zaO o).length k10], .int .i64 0]) (by simp [results, Tryz.results37, go_sem, b0]) rfl ⟨HB10.o.setCell (by show w.heap.size <= w.heap.size; omega) _, .slice A10 (zaO o).length k10, ?_, by rw [HX.o.2]⟩
         rw [HX.o.1]; exact zac (ownsRow_setCell_below HO10.o (a := ⟨w.heap.size, 0, none⟩) (by show w.heap.size < _; omega) _) yO
     · have x0 := HJ1.o.hE.c0
       rw [hk] at x0; have HKE := yq hk; clear hk; have y1 := HJ1.o.hE.c1; have y3 := HJ1.o.hE.c3; have yl := HJ1.o.hE.lt; go_wp2_with fail
       go_quiet (fail)
       replace HJ1 := yq (HJ1.o.drewN nq)
       clear x0 y1 y3 yl; generalize W1.drewN nq = W1 at *; have x0 := HJ1.o.hE.c0; rw [HKE.o] at x0; have yl := HJ1.o.hE.lt; have aE1 := HJ1.o.hE.c1; have aE := HJ1.o.hE.lt; have aB := HJ1.o.hM.lt; go_wp2_with fail
       refine (zaU b P oP _ xs ls _ 0 (e.i) _ HJ1.o.hM HJ1.o.cP.c HJ1.o.cP.lt ((HG.o.below HJ1.o.bel).le HJ1.o.le) HOK.o HL.o (by first | (have := HF.o; have := HKE.o; omega) | (have := HF.o; have := HKE.o; have := HKI.o; omega))).mono ?_
       rintro e6 W2 ⟨rfl, hb1, ha1⟩; have HJ2 := yq (HJ1.o.next hb1 ha1); clear aE1 aE aB hb1 ha1 HJ1; have aE := HJ2.o.hE.lt; have aB := HJ2.o.hM.lt; go_wp2_with fail
       refine (zdO b P oP E oE e _ _ xs ls _ _ HJ2.o.hM HJ2.o.cP HJ2.o.hE HJ2.o.neE ((HG.o.below HJ2.o.bel).le HJ2.o.le) HOK.o HL.o (by first | (have := HF.o; have := HKE.o; omega) | (have := HF.o; have := HKE.o; have := HKI.o; omega)) HCK.o).mono ?_
       rintro e7 W3 ⟨rfl, hb2, ha2⟩; have HJ3 := yq (HJ2.o.next hb2 ha2); clear aE aB hb2 ha2 HJ2; have aE2 := HJ3.o.hE.c2; have aE := HJ3.o.hE.lt; have aB := HJ3.o.hM.lt; go_wp2_with fail
       refine (zaU b P oP _ xs ls _ e.j (zai ls) _ HJ3.o.hM HJ3.o.cP.c HJ3.o.cP.lt ((HG.o.below HJ3.o.bel).le HJ3.o.le) HOK.o HL.o (by first | (have := HF.o; have := HKE.o; omega) | (have := HF.o; have := HKE.o; have := HKI.o; omega))).mono ?_
       rintro e8 W4 ⟨rfl, hb3, ha3⟩; have HJ4 := yq (HJ3.o.next hb3 ha3); clear aE2 aE aB hb3 ha3 HJ3; have hQ : zaT xs ls (zai ls) e = zbu (zbu (zbu (some []) (zbj (zam xs ls 0 (e.i)))) ((zbj (zam xs ls e.i e.j)).bind (zc8 e))) (zbj (zam xs ls e.j (zai ls))) := by unfold zaT; rw [if_neg HKC.o.1, if_neg HKC.o.2.1, if_neg HKC.o.2.2.1, if_neg HKC.o.2.2.2.1]
       have HQ := yq hQ; clear hQ; obtain ⟨vO, out, hB9, hO9, hs9, hok9⟩ := HJ4.o.hM; obtain ⟨AO, kO, rfl, _⟩ := zae hO9; have HOut := yq hok9; have HO9 := yq hO9; have lb := hB9.lt; have rl := HJ4.o.hR.lt; have rf := HJ4.o.hR.frozen 0; have rc := HJ4.o.hR.cell (i := 0) (v := .slice none 0 0) rfl; have HBE := yq HJ4.o.bel; have HRR := yq HJ4.o.hR; have hle := HJ4.o.le; clear hok9 hO9 HJ4; rw [<- HQ.o] at hB9 hs9; cases hS : zaT xs ls (zai ls) e with
       | none =>
         have q1 : zaj xs e = [] /\ zah xs e = 3 := by rw [HQA.o.1, HQA.o.2, hS]; exact ⟨rfl, rfl⟩
         have HX := yq q1; have a2 := hB9.cell (i := 2) (v := .bool true) (by rw [hS]; rfl); clear hS hs9 hB9 q1; go_wp2_with fail
         refine bodyPost_ret (v := .tuple #[.agg #[.slice none 0 0], .int .i64 3]) (by simp [results, Tryz.results37, go_sem, rc]) rfl ⟨Below.setCell HBE.o (by show w.heap.size <= w.heap.size; omega) _, .slice none 0 0, by rw [HX.o.1]; exact World.ownsRow_nil _ _ _ _, by rw [HX.o.2]⟩
       | some o =>
         have e9 := hs9 o hS; subst e9; have q1 : zaj xs e = zaO o /\ zah xs e = 0 := by rw [HQA.o.1, HQA.o.2, hS]; exact ⟨rfl, rfl⟩
         have HX := yq q1; have a1 := hB9.cell (i := 1) (v := .slice AO o.length kO) rfl; have a2 := hB9.cell (i := 2) (v := .bool false) (by rw [hS]; rfl); clear hS hs9 hB9 q1; go_wp2_with fail
         refine (zbC b 1 _ o _ a1 lb HO9.o.sl (by have := zaG HOut.o; omega) (zaz (zag HOut.o).2.choose_spec)).mono ?_
         rintro e10 w10 ⟨hb10, v10, own10, rfl⟩; have HR10 := yq (HRR.o.up hb10); have HB10 := yq (Below.tr HBE.o hb10); have HO10 := yq own10; obtain ⟨A10, k10, rfl, _⟩ := zae own10; have b0 := HR10.o.cell (i := 0) (v := .slice none 0 0) rfl; have b1 := HR10.o.frozen 0; have b2 := HR10.o.lt; have hzz := HBE.o.size; clear hb10 own10 a1 a2 rl rf rc; go_wp2_with fail
         refine bodyPost_ret (v := .tuple #[.agg #[.slice A10 (zaO o).length k10], .int .i64 0]) (by simp [results, Tryz.results37, go_sem, b0]) rfl ⟨HB10.o.setCell (by show w.heap.size <= w.heap.size; omega) _, .slice A10 (zaO o).length k10, ?_, by rw [HX.o.2]⟩
         rw [HX.o.1]; exact zac (ownsRow_setCell_below HO10.o (a := ⟨w.heap.size, 0, none⟩) (by show w.heap.size < _; omega) _) yO
     · have x0 := HJ1.o.hE.c0
       rw [hk] at x0; have HKE := yq hk; clear hk; have y1 := HJ1.o.hE.c1; have y3 := HJ1.o.hE.c3; have yl := HJ1.o.hE.lt; go_wp2_with fail
       go_quiet (fail)
       replace HJ1 := yq (HJ1.o.drewN nq)
       clear x0 y1 y3 yl; generalize W1.drewN nq = W1 at *; have x0 := HJ1.o.hE.c0; rw [HKE.o] at x0; have yl := HJ1.o.hE.lt; have aE1 := HJ1.o.hE.c1; have aE := HJ1.o.hE.lt; have aB := HJ1.o.hM.lt; go_wp2_with fail
       refine (zaU b P oP _ xs ls _ 0 (e.i) _ HJ1.o.hM HJ1.o.cP.c HJ1.o.cP.lt ((HG.o.below HJ1.o.bel).le HJ1.o.le) HOK.o HL.o (by first | (have := HF.o; have := HKE.o; omega) | (have := HF.o; have := HKE.o; have := HKI.o; omega))).mono ?_
       rintro e6 W2 ⟨rfl, hb1, ha1⟩; have HJ2 := yq (HJ1.o.next hb1 ha1); clear aE1 aE aB hb1 ha1 HJ1; have aE := HJ2.o.hE.lt; have aB := HJ2.o.hM.lt; go_wp2_with fail
       refine (zdO b P oP E oE e _ _ xs ls _ _ HJ2.o.hM HJ2.o.cP HJ2.o.hE HJ2.o.neE ((HG.o.below HJ2.o.bel).le HJ2.o.le) HOK.o HL.o (by first | (have := HF.o; have := HKE.o; omega) | (have := HF.o; have := HKE.o; have := HKI.o; omega)) HCK.o).mono ?_
       rintro e7 W3 ⟨rfl, hb2, ha2⟩; have HJ3 := yq (HJ2.o.next hb2 ha2); clear aE aB hb2 ha2 HJ2; have aE2 := HJ3.o.hE.c2; have aE := HJ3.o.hE.lt; have aB := HJ3.o.hM.lt; go_wp2_with fail
       refine (zaU b P oP _ xs ls _ e.j (zai ls) _ HJ3.o.hM HJ3.o.cP.c HJ3.o.cP.lt ((HG.o.below HJ3.o.bel).le HJ3.o.le) HOK.o HL.o (by first | (have := HF.o; have := HKE.o; omega) | (have := HF.o; have := HKE.o; have := HKI.o; omega))).mono ?_
       rintro e8 W4 ⟨rfl, hb3, ha3⟩; have HJ4 := yq (HJ3.o.next hb3 ha3); clear aE2 aE aB hb3 ha3 HJ3; have hQ : zaT xs ls (zai ls) e = zbu (zbu (zbu (some []) (zbj (zam xs ls 0 (e.i)))) ((zbj (zam xs ls e.i e.j)).bind (zc8 e))) (zbj (zam xs ls e.j (zai ls))) := by unfold zaT; rw [if_neg HKC.o.1, if_neg HKC.o.2.1, if_neg HKC.o.2.2.1, if_neg HKC.o.2.2.2.1]
       have HQ := yq hQ; clear hQ; obtain ⟨vO, out, hB9, hO9, hs9, hok9⟩ := HJ4.o.hM; obtain ⟨AO, kO, rfl, _⟩ := zae hO9; have HOut := yq hok9; have HO9 := yq hO9; have lb := hB9.lt; have rl := HJ4.o.hR.lt; have rf := HJ4.o.hR.frozen 0; have rc := HJ4.o.hR.cell (i := 0) (v := .slice none 0 0) rfl; have HBE := yq HJ4.o.bel; have HRR := yq HJ4.o.hR; have hle := HJ4.o.le; clear hok9 hO9 HJ4; rw [<- HQ.o] at hB9 hs9; cases hS : zaT xs ls (zai ls) e with
       | none =>
         have q1 : zaj xs e = [] /\ zah xs e = 3 := by rw [HQA.o.1, HQA.o.2, hS]; exact ⟨rfl, rfl⟩
         have HX := yq q1; have a2 := hB9.cell (i := 2) (v := .bool true) (by rw [hS]; rfl); clear hS hs9 hB9 q1; go_wp2_with fail
         refine bodyPost_ret (v := .tuple #[.agg #[.slice none 0 0], .int .i64 3]) (by simp [results, Tryz.results37, go_sem, rc]) rfl ⟨Below.setCell HBE.o (by show w.heap.size <= w.heap.size; omega) _, .slice none 0 0, by rw [HX.o.1]; exact World.ownsRow_nil _ _ _ _, by rw [HX.o.2]⟩
       | some o =>
         have e9 := hs9 o hS; subst e9; have q1 : zaj xs e = zaO o /\ zah xs e = 0 := by rw [HQA.o.1, HQA.o.2, hS]; exact ⟨rfl, rfl⟩
         have HX := yq q1; have a1 := hB9.cell (i := 1) (v := .slice AO o.length kO) rfl; have a2 := hB9.cell (i := 2) (v := .bool false) (by rw [hS]; rfl); clear hS hs9 hB9 q1; go_wp2_with fail
         refine (zbC b 1 _ o _ a1 lb HO9.o.sl (by have := zaG HOut.o; omega) (zaz (zag HOut.o).2.choose_spec)).mono ?_
         rintro e10 w10 ⟨hb10, v10, own10, rfl⟩; have HR10 := yq (HRR.o.up hb10); have HB10 := yq (Below.tr HBE.o hb10); have HO10 := yq own10; obtain ⟨A10, k10, rfl, _⟩ := zae own10; have b0 := HR10.o.cell (i := 0) (v := .slice none 0 0) rfl; have b1 := HR10.o.frozen 0; have b2 := HR10.o.lt; have hzz := HBE.o.size; clear hb10 own10 a1 a2 rl rf rc; go_wp2_with fail
         refine bodyPost_ret (v := .tuple #[.agg #[.slice A10 (zaO o).length k10], .int .i64 0]) (by simp [results, Tryz.results37, go_sem, b0]) rfl ⟨HB10.o.setCell (by show w.heap.size <= w.heap.size; omega) _, .slice A10 (zaO o).length k10, ?_, by rw [HX.o.2]⟩
         rw [HX.o.1]; exact zac (ownsRow_setCell_below HO10.o (a := ⟨w.heap.size, 0, none⟩) (by show w.heap.size < _; omega) _) yO
def zeP (i j : Int) : zap := ⟨2, i, j, 0, [], ⟨#[]⟩⟩
def zf8 (i : Int) (p : List zaa) : zap := ⟨1, i, 0, 0, p, ⟨#[]⟩⟩
def zgQ (i j k : Int) : zap := ⟨4, i, j, k, [], ⟨#[]⟩⟩
def zhP (i j : Int) : zap := ⟨5, i, j, 0, [], ⟨#[]⟩⟩
def zgY (e : zap) : List zap :=
 if e.kind = 2 then [] else if e.kind = 6 then (if 0 < (e.j - e.i) * e.k then [zeP e.i (e.i + (e.j - e.i) * e.k)] else []) else [zeP e.i e.j]
def zfy (xs : List zaa) (ls : List Int) (e : zap) : Option (List zap) :=
 if e.kind = 1 then some [zeP e.i (e.i + zao e.part)]
 else if e.j - e.i = 0 then some []
 else if e.kind = 3 then some [zeP e.k (e.k + (e.j - e.i))]
 else if e.kind = 4 then (if e.k <= e.i then some [zgQ e.k (e.k + (e.j - e.i)) e.j] else some [zgQ (e.k - (e.j - e.i)) e.k e.i])
 else if e.kind = 5 then some [zhP e.i e.j]
 else if zaf (zam xs ls e.i e.j) then some (zgY e ++ [zf8 e.i (zam xs ls e.i e.j)]) else none
def zbm (xs : List zaa) (e : zap) : List zap := if zah xs e = 0 then (zfy xs (zdi xs) e).getD [] else []
def zbq (xs : List zaa) (e : zap) : Int := if zah xs e = 0 then (if (zfy xs (zdi xs) e).isSome then 0 else 3) else zah xs e
def zf9 (es : List zap) (c : Int) (w : World) (r : Ending) (w' : World) : Prop :=
 Below w.heap.size w w' /\ ∃ v, r = .returned (.tuple #[v, .int .i64 c]) /\ zkS w' w.heap.size w'.heap.size v es
theorem zjB (s : Option (List zaa)) : zgA s = 0 \/ zgA s = 3 := by cases s <;> simp [zgA]
theorem zgD (xs : List zaa) (e : zap) : zah xs e = 0 \/ zah xs e = 1 \/ zah xs e = 2 \/ zah xs e = 3 := by
 unfold zah; split
 · split
   · rcases zjB (zco xs e) with h | h <;> simp [h]
   · simp
 · simp
theorem za2 {xs : List zaa} {e : zap} (h : zah xs e = 0) : zaf xs = true /\ zaA e = true /\ zar e (zao xs) = true := by
 unfold zah at h; split at h
 · rename_i h1
   rw [Bool.and_eq_true] at h1; split at h
   · rename_i h2; exact ⟨h1.1, h1.2, h2⟩
   · cases h
 · cases h
theorem zhj {s g : Option (List zaa)} (h : zbu s g ≠ none) : s ≠ none /\ g ≠ none := by
 constructor
 · rintro rfl; exact h (zcU (.inl rfl))
 · rintro rfl; exact h (zcU (.inr rfl))
theorem zl6 {xs : List zaa} {ls : List Int} {e : zap} (h : zah xs e = 0) (hk : e.kind = 6) (hl : zaX xs = some ls) (hp : zao (zam xs ls e.i e.j) = e.j - e.i) : (e.j - e.i) * e.k <= 1000000000000000 := by
 obtain ⟨h1, h2, h3⟩ := za2 h; have hlq : zdi xs = ls := by simp [zdi, hl]
 have hs : zaT xs ls (zai ls) e ≠ none := by
  intro hn; unfold zah zco at h; rw [hlq, hn] at h; simp [h1, h2, h3, zgA] at h
 unfold zaT at hs; rw [if_neg yO, if_neg yO, if_neg yO, if_neg yO] at hs; have h4 := (zhj (zhj hs).1).2
 have h5 : zaf (zam xs ls e.i e.j) = true := by
  cases hg : zaf (zam xs ls e.i e.j) with
  | true => rfl
  | false => exfalso; apply h4; unfold zbj; rw [hg]; rfl
 have h6 : zaf (zdz (zam xs ls e.i e.j) e.k.toNat) = true := by
  cases hg : zaf (zdz (zam xs ls e.i e.j) e.k.toNat) with
  | true => rfl
  | false => exfalso; apply h4; unfold zbj; rw [h5]; show zc8 e _ = none; unfold zc8; rw [if_neg yO, if_pos hk]; unfold zbj; rw [hg]; rfl
 have h7 := ziy h5 h6; have h8 := zaM (zdz (zam xs ls e.i e.j) e.k.toNat); rw [h7, hp] at h8; have hk0 : 0 <= e.k := by rcases (zfw h2).1 with h | h | h | h | h | ⟨_, h, _⟩ | ⟨h, _⟩ <;> omega
 rw [Int.toNat_of_nonneg hk0] at h8; rw [Int.mul_comm]; omega
theorem zf9.mk1 {w W : World} {es : List zap} {c : Int} {lo hi : Nat} {v : Value} (hb : Below w.heap.size w W) (h : zkS W lo hi v es) (hl : w.heap.size <= lo) : zf9 es c w (.returned (.tuple #[v, .int .i64 c])) W := by
 refine ⟨hb, v, rfl, ?_⟩
 obtain ⟨ps, r, h1, h2, h3, h4, h5⟩ := h; exact ⟨ps, r, h1, zac h2 hl, fun g hg => by have := h3 g hg; omega, Nat.le_refl _, h5.le hl h4⟩
end Go.Proofs.YtdacndamehiglaaGreatDoor
