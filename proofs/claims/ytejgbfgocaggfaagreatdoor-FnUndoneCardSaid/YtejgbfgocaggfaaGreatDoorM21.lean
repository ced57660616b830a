import Derived.Test.YtejgbfgocaggfaaGreatDoorM20
set_option maxRecDepth 100000
set_option maxHeartbeats 8000000
namespace Go.Proofs.YtejgbfgocaggfaaGreatDoor
open Go.RowKit
theorem ziR (n : Nat) (r : zaa) : (zaH n r).letter = r.letter := by unfold zaH; split <;> rfl
theorem zky {xs ys : List zaa} (h : zaY xs) (h' : zaY ys) : zaY (zbh xs ys) := by
 unfold zbh; split
 · exact h'
 split
 · exact h
 rename_i h0 h0'
 intro r hr; rcases List.mem_append.1 hr with hr | hr
 · rcases List.mem_append.1 hr with hr | hr
   · exact h r hr
   · obtain ⟨a, ha, rfl⟩ := List.mem_map.1 hr
     rw [ziR]; exact h' a ha
 · rw [List.mem_singleton] at hr; subst hr; exact (by decide : (0 : Nat) <= 9223372036854775807)
theorem zjH (v u : Value) (xs ys : List zaa) (w : World) (h : Sl zar w w.heap.size v xs) (h' : Sl zar w w.heap.size u ys) (hn : xs.length <= 1048576) (hn' : ys.length <= 1048576) (hs : zaY xs) (hs' : zaY ys) :
  Calls Tryz.prog 86 #[.agg #[v], .agg #[u]] w (zl8 (zdw xs ys) (zdp xs ys) w) := by
 have h1 := fun o o' o'' => (h.below ((((Below.refl w.heap.size w).alloc yL o).alloc yS o').alloc yo o'')).le (B' := (((w.alloc o).alloc o').alloc o'').heap.size) (by simp; omega); have h2 := fun o o' o'' => (h'.below ((((Below.refl w.heap.size w).alloc yL o).alloc yS o').alloc yo o'')).le (B' := (((w.alloc o).alloc o').alloc o'').heap.size) (by simp; omega); have H1 := yq h1; have H2 := yq h2; have Hs := yq hs; have Hs' := yq hs'; clear h1 h2 hs hs'; obtain ⟨A, c, rfl, hc, hm, hrow⟩ := h; obtain ⟨A', c', rfl, hc', hm', hrow'⟩ := h'; clear hm hm' hrow hrow'; go_enter Tryz.func86, Tryz.ntmps86
 go_wp2_with fail
 refine (zaZ _ _ _ _ _ (by simp [go_sem]) yo (H1.o _ _ _) Hs.o).mono ?_
 rintro e w1 ⟨rfl, hb1⟩; obtain ⟨hc1, hf1⟩ := zdu hb1; have hz1 : w.heap.size + 2 < w1.heap.size := by have := hb1.size; simp at this; omega
 have a1 : w1.cell? ⟨w.heap.size, 0, none⟩ = some (.slice A xs.length c) := by rw [hc1 _ _ yo]; simp [go_sem]
 have b1 : w1.cell? ⟨w.heap.size + 1, 0, none⟩ = some (.slice A' ys.length c') := by rw [hc1 _ _ yo]; simp [go_sem]
 have c1 : w1.cell? ⟨w.heap.size + 2, 0, none⟩ = some (.slice none 0 0) := by rw [hc1 _ _ yo]; simp [go_sem]
 have f1 : w1.frozen? ⟨w.heap.size + 2, 0, none⟩ = false := by rw [hf1 _ _ yo]; simp [go_sem]
 have S1 := yq ((H1.o (Obj.cells #[Value.slice A xs.length c] 26) (Obj.cells #[Value.slice A' ys.length c'] 26) (Obj.cells #[Value.slice none 0 0] 26)).up hb1); have T1 := yq ((H2.o (Obj.cells #[Value.slice A xs.length c] 26) (Obj.cells #[Value.slice A' ys.length c'] 26) (Obj.cells #[Value.slice none 0 0] 26)).up hb1); have B1 := yq ((((Below.refl w.heap.size w).alloc yL (Obj.cells #[Value.slice A xs.length c] 26)).alloc yS (Obj.cells #[Value.slice A' ys.length c'] 26)).alloc (by simp; omega) (Obj.cells #[Value.slice none 0 0] 26) |>.trans (hb1.mono (by simp; omega))); clear hc1 hf1 hb1; by_cases hok : zag xs = true
 · have hok2 : (!zag xs) = false := by simp [hok]
   have Hok := yq hok; clear hok; go_wp2_with fail
   refine (zaZ _ _ _ _ _ b1 yO T1.o Hs'.o).mono ?_
   rintro e w2 ⟨rfl, hb2⟩; have z2 : w1.heap.size <= w2.heap.size := hb2.size; have hz2 : w.heap.size + 2 < w2.heap.size := by omega
   have a2 := zb5 a1 hb2 yO; have b2 := zb5 b1 hb2 yO; have c2 := zb5 c1 hb2 yO; have f2 : w2.frozen? ⟨w.heap.size + 2, 0, none⟩ = false := by rw [hb2.frozen hz1, f1]
   have S2 := yq (S1.o.up hb2); have T2 := yq (T1.o.up hb2); have B2 := yq (B1.o.trans (hb2.mono yO)); clear a1 b1 c1 f1 hb2; by_cases hoky : zag ys = true
   · have hoky2 : (!zag ys) = false := by simp [hoky]
     have Hoky := yq hoky; clear hoky; go_wp2_with fail
     refine (zj1 _ _ _ _ _ _ _ _ _ a2 b2 yO yO S2.o T2.o hn hn' (zgK Hoky.o)).mono ?_
     rintro e w3 ⟨hb3, v3, own3, rfl⟩; have z3 : w2.heap.size <= w3.heap.size := hb3.size; have hz3 : w.heap.size + 2 < w3.heap.size := by omega
     have c3 := zb5 c2 hb3 yO; have f3 : w3.frozen? ⟨w.heap.size + 2, 0, none⟩ = false := by rw [hb3.frozen hz2, f2]
     have B3 := yq (B2.o.trans (hb3.mono yO)); have O3 := yq own3; clear a2 b2 c2 f2 hb3 own3; go_wp2_with fail
     refine (zdY _ _ _ _ O3.o (zky Hs.o Hs'.o)).mono ?_
     rintro e w4 ⟨hb4, v4, own4, rfl⟩; obtain ⟨A4, k4, rfl, _⟩ := zae own4; have c4 := zb5 c3 hb4 yO; have f4 : w4.frozen? ⟨w.heap.size + 2, 0, none⟩ = false := by rw [hb4.frozen hz3, f3]
     have B4 := yq (B3.o.trans (hb4.mono yO)); have O4 := yq own4; clear c3 f3 hb4 own4; have e1 : zdw xs ys = zav (zbh xs ys) := by rw [zdw, Hok.o, Hoky.o]; rfl
     have e2 : zdp xs ys = zas (zbh xs ys) := by rw [zdp, Hok.o, Hoky.o]; rfl
     have E1 := yq e1; have E2 := yq e2; clear e1 e2; go_wp2
     refine bodyPost_ret (v := .tuple #[.agg #[.slice A4 (zav (zbh xs ys)).length k4], .int .i64 (zas (zbh xs ys))]) (by simp [results, Tryz.results86, go_sem, c4]) rfl ⟨?_, _, ?_, by rw [E2.o]⟩
     · exact B4.o.setCell (by show w.heap.size <= w.heap.size + 2; omega) _
     · rw [E1.o]
       exact zad (ownsRow_setCell_below O4.o (a := ⟨w.heap.size + 2, 0, none⟩) (by show w.heap.size + 2 < w2.heap.size; omega) _) yO
   · have hoky2 : (!zag ys) = true := by simp [hoky]
     have Hoky := yq hoky; clear hoky; go_wp2
     refine bodyPost_ret (v := .tuple #[.agg #[.slice none 0 0], .int .i64 1]) (by simp [results, Tryz.results86, go_sem, c2]) rfl ⟨?_, _, ?_, by rw [zdp, if_neg (by simp [Hoky.o])]⟩
     · exact B2.o.setCell (by show w.heap.size <= w.heap.size + 2; omega) _
     · rw [zdw, if_neg (by simp [Hoky.o])]; exact World.ownsRow_nil _ _ _ _
 · have hok2 : (!zag xs) = true := by simp [hok]
   have Hok := yq hok; clear hok; go_wp2
   refine bodyPost_ret (v := .tuple #[.agg #[.slice none 0 0], .int .i64 1]) (by simp [results, Tryz.results86, go_sem, c1]) rfl ⟨?_, _, ?_, by rw [zdp, if_neg (by simp [Hok.o])]⟩
   · exact B1.o.setCell (by show w.heap.size <= w.heap.size + 2; omega) _
   · rw [zdw, if_neg (by simp [Hok.o])]; exact World.ownsRow_nil _ _ _ _
def Mk (w : World) (b P oP : Nat) (s : Option (List zaa)) : Prop :=
 ∃ vO out, Blk w b #[.pointer (some ⟨P, oP, none⟩), vO, .bool s.isNone] 100 /\ zac w (b + 1) vO out /\ (∀ o, s = some o -> o = out) /\ zag out = true
theorem Mk.lt {w : World} {b P oP : Nat} {s : Option (List zaa)} (h : Mk w b P oP s) : b < w.heap.size := by
 obtain ⟨_, _, h, _⟩ := h; exact h.lt
theorem Mk.up {w w' : World} {b P oP : Nat} {s : Option (List zaa)} (h : Mk w b P oP s) (hb : Below w.heap.size w w') : Mk w' b P oP s := by
 obtain ⟨vO, out, h1, h2, h3, h4⟩ := h; exact ⟨vO, out, h1.up hb, zac.below h2 hb, h3, h4⟩
theorem zeE (b P oP : Nat) (s g : Option (List zaa)) (vN : Value) (ys : List zaa) (cN : Int) (w : World) (h : Mk w b P oP s) (hN : SlS zar w (fun k => k ≠ b /\ k < w.heap.size) vN ys) (hg : ze5 g ys cN) :
  Calls Tryz.prog 55 #[.pointer (some ⟨b, 0, none⟩), .agg #[vN], .int .i64 cN] w fun e w' => zlr e /\ But b w w' /\ Mk w' b P oP (zbC s g) := by
 obtain ⟨vO, out, hB, hO, hs, hok⟩ := h; have hlt := hB.lt; have HB0 := yq hB; have HO := yq hO; have HN := yq hN; have HK := yq hok; obtain ⟨AN, kN, rfl, _⟩ := hN; obtain ⟨AO, kO, rfl, _⟩ := zae hO; clear hO; rcases hg with ⟨rfl, rfl, hgy⟩ | ⟨rfl, rfl⟩
 · cases s with
   | none =>
     rw [zdb (.inl rfl)]; have c2 := hB.cell (i := 2) (v := .bool true) rfl; have f2 := hB.frozen 2; clear hB; go_enter Tryz.func55, Tryz.ntmps55
     go_wp2_with fail
     have hbb : ∀ o, But b w ((w.setCell ⟨b, 2, none⟩ (.bool true)).alloc o) := fun o => ((But.refl b w).setCell _).alloc _; refine bodyPost_ret (v := .tuple #[]) (by simp [results, Tryz.results55, go_sem]) rfl ⟨rfl, hbb _, .slice AO out.length kO, out, ((HB0.o.set 2 _).alloc _), World.ownsRow.alloc (ownsRow_setCell_below HO.o (by show b < b + 1; omega) _) _, (fun _ h => nomatch h), HK.o⟩
   | some o =>
     have e := hs o rfl; subst e; have c1 := hB.cell (i := 1) (v := .slice AO o.length kO) rfl; have c2 := hB.cell (i := 2) (v := .bool false) rfl; have f2 := hB.frozen 2; have HGY := yq hgy; have KN := yq (Blk.new w #[Value.slice AN ys.length kN] 26); clear hB hgy; go_enter Tryz.func55, Tryz.ntmps55
     go_wp2_with fail
     have hBW : Blk (w.alloc (Obj.cells #[Value.slice AN ys.length kN] 26)) b _ _ := HB0.o.alloc _; have hNW : SlS zar (w.alloc (Obj.cells #[Value.slice AN ys.length kN] 26)) (fun k => k ≠ b /\ k < w.heap.size) (.slice AN ys.length kN) ys := HN.o.keep fun k hk => Below.heap_alloc _ _ _ hk.2; have hOW : zac (w.alloc (Obj.cells #[Value.slice AN ys.length kN] 26)) (b + 1) (.slice AO o.length kO) o := World.ownsRow.alloc HO.o _; have hbW : But b w (w.alloc (Obj.cells #[Value.slice AN ys.length kN] 26)) := (But.refl b w).alloc _; have hzW : w.heap.size < (w.alloc (Obj.cells #[Value.slice AN ys.length kN] 26)).heap.size := by simp
     clear c1 c2 f2; generalize (w.alloc (Obj.cells #[Value.slice AN ys.length kN] 26)) = W at *; have c1 := hBW.cell (i := 1) (v := .slice AO o.length kO) rfl; have c3 := KN.o.cell (i := 0) (v := .slice AN ys.length kN) rfl; have lW := hBW.lt; have HBW := yq hBW; have HNW := yq (hNW.more (S' := (· < W.heap.size)) fun k hk => by have := hk.2; omega); have HOW := yq hOW; have HbW := yq hbW; have l1 : o.length <= 1048576 := by have := zax hok; omega
     have l2 : ys.length <= 1048576 := by have := zax HGY.o; omega
     have sm1 := yq (zbU (zaz (zai hok).2.choose_spec)); have sm2 := yq (zbU (zaz (zai HGY.o).2.choose_spec)); clear hBW hNW hOW hbW; go_cut [6, 7] (fun s6 s7 wx => ∃ (Z : Nat) (A9 : Option Addr) (c9 : Nat), s6 = .pointer (some ⟨Z, 0, none⟩) /\ s7 = .int .i64 (zdp o ys) /\ Z ≠ b /\ Below W.heap.size W wx /\ Blk wx Z #[.slice A9 (zdw o ys).length c9] 26 /\ zac wx W.heap.size (.slice A9 (zdw o ys).length c9) (zdw o ys))
     case first =>
      go_region_law (go_simp; go_at_call 86; (refine (zjH _ _ o ys _ (HOW.o.sl.up yb) (HNW.o.up yb) l1 l2 sm1.o sm2.o).mono ?_); rintro e w1 ⟨hb1, v1, own1, rfl⟩; obtain ⟨A9, c9, rfl, _⟩ := zae own1; (try (obtain ⟨hbz, KR⟩ := Below.unalloc (Below.undrew hb1); have cz := Blk.cell (i := 0) (v := .slice none 0 0) KR rfl; have fz := Blk.frozen KR 0; have lz := Blk.lt KR)))
      all_goals
       go_wp2_with fail
       go_meet
       have hz1 : W.heap.size <= w1.heap.size := by have := hb1.size; first | exact this | (simp [World.drew] at this; omega)
       first
        | exact ⟨w1.heap.size, A9, c9, rfl, rfl, by omega, (Below.undrew hb1).alloc hz1 _, Blk.new _ _ _, World.ownsRow.alloc own1 _⟩
        | exact ⟨W.heap.size, A9, c9, rfl, rfl, by omega, Below.setCell hbz (show W.heap.size <= (⟨W.heap.size, 0, none⟩ : Addr).block from Nat.le_refl _) _, Blk.set KR 0 _, zad (ownsRow_setCell_below own1 (a := ⟨W.heap.size, 0, none⟩) (by simp [World.drew]) _) (by simp [World.drew])⟩
     case rest =>
      obtain ⟨Z, A9, c9, rfl, rfl, hne, hb, hZ, hown⟩ := hcut; have hj : zdw o ys = zav (zbh o ys) /\ zdp o ys = zas (zbh o ys) := by simp [zdw, zdp, HK.o, HGY.o]
      rw [hj.1] at hZ hown; rw [hj.2]; have hKB := HBW.o.up hb; have HKB := yq hKB; have HO9 := yq (zad hown (base' := b + 1) yO); have HbC := yq (HbW.o.tr hb); have d1 := hKB.cell (i := 1) (v := .slice AO o.length kO) rfl; have d2 := hKB.cell (i := 2) (v := .bool false) rfl; have f1 := hKB.frozen 1; have f2 := hKB.frozen 2; have lb := hKB.lt; have dz := hZ.cell (i := 0) (v := .slice A9 (zav (zbh o ys)).length c9) rfl; have lz := hZ.lt; have hne' : b ≠ Z := fun h => hne h.symm; have HLok := yq (zgU (zbh o ys)); clear hKB hb hZ hown hj c1 c3; cases hg : zag (zbh o ys) with
      | true =>
        have q1 : zas (zbh o ys) = 0 := by unfold zas; rw [hg]; rfl
        have q2 : zbC (some o) (some ys) = some (zav (zbh o ys)) := by rw [zkP]; unfold zbt zav; rw [hg]; rfl
        have Q2 := yq q2; rw [q1]; clear q1 q2 hg; go_wp2_with fail
        go_end0
        rw [Q2.o]; exact ⟨rfl, (HbC.o.setCell _).setCell _, .slice A9 (zav (zbh o ys)).length c9, zav (zbh o ys), ((HKB.o.set 1 _).set 2 _), ownsRow_setCell_below (ownsRow_setCell_below HO9.o (by show b < b + 1; omega) _) (by show b < b + 1; omega) _, (fun _ h => (Option.some.inj h).symm), HLok.o⟩
      | false =>
        have q1 : zas (zbh o ys) = 3 := by unfold zas; rw [hg]; rfl
        have q2 : zbC (some o) (some ys) = none := by rw [zkP]; unfold zbt; rw [hg]; rfl
        have Q2 := yq q2; rw [q1]; clear q1 q2 hg; go_wp2_with fail
        go_end0
        rw [Q2.o]; exact ⟨rfl, (HbC.o.setCell _).setCell _, .slice A9 (zav (zbh o ys)).length c9, zav (zbh o ys), ((HKB.o.set 1 _).set 2 _), ownsRow_setCell_below (ownsRow_setCell_below HO9.o (by show b < b + 1; omega) _) (by show b < b + 1; omega) _, (fun _ h => nomatch h), HLok.o⟩
 · rw [zdb (.inr rfl)]
   have c2 := hB.cell (i := 2) (v := .bool s.isNone) rfl; have f2 := hB.frozen 2; clear hB; go_enter Tryz.func55, Tryz.ntmps55
   go_wp2_with fail
   have hbb : ∀ o, But b w ((w.setCell ⟨b, 2, none⟩ (.bool true)).alloc o) := fun o => ((But.refl b w).setCell _).alloc _; refine bodyPost_ret (v := .tuple #[]) (by simp [results, Tryz.results55, go_sem]) rfl ⟨rfl, hbb _, .slice AO out.length kO, out, ((HB0.o.set 2 _).alloc _), World.ownsRow.alloc (ownsRow_setCell_below HO.o (by show b < b + 1; omega) _) _, (fun _ h => nomatch h), HK.o⟩
theorem zaT (b P oP : Nat) (vG : Value) (xs : List zaa) (ls : List Int) (s : Option (List zaa)) (i j : Int) (w : World) (h : Mk w b P oP s) (hP : w.cell? ⟨P, oP, none⟩ = some vG) (hPl : P < w.heap.size) (hG : Sl zar w b vG xs) (hg : zag xs = true) (hl : zaW xs = some ls) (hi : 0 <= i /\ i <= j /\ j <= zao ls) :
  Calls Tryz.prog 54 #[.pointer (some ⟨b, 0, none⟩), .int .i64 i, .int .i64 j] w fun e w' => zlr e /\ But b w w' /\ Mk w' b P oP (zbC s (zbt (zap xs ls i j))) := by
 have hlt := h.lt; have HM := yq h; have HG := yq (hG.le (Nat.le_of_lt hlt)); have sm := zbU (zaz (zai hg).2.choose_spec); have hn : xs.length <= 1048576 := by have := zax hg; omega
 have HY := yq (zbN hg hl hi); obtain ⟨AG, cG, rfl, _⟩ := hG; obtain ⟨vO, out, hB, _⟩ := h; have c0 := hB.cell (i := 0) (v := .pointer (some ⟨P, oP, none⟩)) rfl; have cP := hP; have lP := hPl; clear hB hP hl hi; go_enter Tryz.func54, Tryz.ntmps54
 go_wp2_with fail
 refine (zcV _ xs i j _ (HG.o.up yb) hn sm).mono ?_
 rintro e w1 ⟨hb1, v1, own1, rfl⟩; rw [HY.o.1] at own1; rw [HY.o.2]; have HB1 := yq hb1; have HO1 := yq own1; obtain ⟨A1, k1, rfl, _⟩ := zae own1; clear hb1 own1; go_wp2_with fail
 refine (zeE b P oP s _ _ _ _ _ (HM.o.up HB1.o) (zfa HO1.o hlt) (zc8 (zap xs ls i j))).mono ?_
 rintro e w2 ⟨rfl, hb2, ha2⟩; go_wp2
 go_end0
 exact ⟨rfl, (But.of HB1.o).trans hb2, ha2⟩
theorem zd7 (b P oP E oE : Nat) (e : zam) (vG vR : Value) (xs : List zaa) (ls : List Int) (s : Option (List zaa)) (w : World) (h : Mk w b P oP s) (hP : C1 w ⟨P, oP, none⟩ vG) (hE : EC w E oE e vR) (hneE : E ≠ b) (hG : Sl zar w b vG xs) (hg : zag xs = true) (hl : zaW xs = some ls)
  (hi : 0 <= e.i /\ e.i <= e.j /\ e.j <= zao ls) (hk : zjF e) :
  Calls Tryz.prog 56 #[.pointer (some ⟨b, 0, none⟩), .pointer (some ⟨E, oE, none⟩)] w fun e' w' => zlr e' /\ But b w w' /\ Mk w' b P oP (zbC s ((zbt (zap xs ls e.i e.j)).bind (zed e))) := by
 have hlt := h.lt; have HM := yq h; have HG := yq (hG.le (Nat.le_of_lt hlt)); have sm := yq (zbU (zaz (zai hg).2.choose_spec)); have hn : xs.length <= 1048576 := by have := zax hg; omega
 have HY := yq (zbN hg hl hi); have HE := yq hE; have HK := yq hk; obtain ⟨AG, cG, rfl, _⟩ := hG; obtain ⟨vO, out, hB, _⟩ := h; have k1 : C1 w ⟨b, 0, none⟩ (.pointer (some ⟨P, oP, none⟩)) := ⟨hB.cell rfl, hlt⟩
 have k3 : C1 w ⟨E, oE + 1, none⟩ (.int .i64 e.i) := ⟨hE.c1, hE.lt⟩
 have k4 : C1 w ⟨E, oE + 2, none⟩ (.int .i64 e.j) := ⟨hE.c2, hE.lt⟩
 clear hB hE hl hi hk; go_enter Tryz.func56, Tryz.ntmps56
 try go_wp2_with fail
 go_cut [4, 5] (fun s4 s5 wx => ∃ (Z : Nat) (A9 : Option Addr) (c9 : Nat), s4 = .pointer (some ⟨Z, 0, none⟩) /\ s5 = .int .i64 (zas (zap xs ls e.i e.j)) /\ Z ≠ b /\ Z ≠ E /\ Below w.heap.size w wx /\ Blk wx Z #[.slice A9 (zav (zap xs ls e.i e.j)).length c9] 26 /\ zac wx w.heap.size (.slice A9 (zav (zap xs ls e.i e.j)).length c9) (zav (zap xs ls e.i e.j)))
 case first =>
  have lP := hP.lt; have lE := HE.o.lt; have B0 := Below.drew (Below.refl w.heap.size w); have BA := yq (fun (o : Obj) => Below.drew (Below.alloc (Below.refl w.heap.size w) yL o)); have KD := znk k1 hP k3 k4 B0
  go_region_held3 (fun w' => Below w.heap.size w w' /\ w'.cell? ⟨b, 0, none⟩ = some (.pointer (some ⟨P, oP, none⟩)) /\ w'.cell? ⟨P, oP, none⟩ = some (.slice AG xs.length cG) /\ w'.cell? ⟨E, oE + 1, none⟩ = some (.int .i64 e.i) /\ w'.cell? ⟨E, oE + 2, none⟩ = some (.int .i64 e.j))
   (first | (with_reducible exact KD) | (with_reducible exact znk k1 hP k3 k4 (BA.o _)) | (with_reducible exact znk k1 hP k3 k4 b1) | (with_reducible exact znk k1 hP k3 k4 (b1.alloc z1 _)) | (with_reducible exact znk k1 hP k3 k4 (b1.setCell yL _)))
   (first
     | (go_at_call 58; (refine (zcV _ xs e.i e.j _ (HG.o.up yb) hn sm.o).mono ?_); rintro e w1 ⟨hb1, v1, own1, rfl⟩; rw [HY.o.1] at own1; rw [HY.o.2]; obtain ⟨A9, c9, rfl, _⟩ := zae own1; have b1 : Below w.heap.size w w1 := (by first | exact Below.undrew hb1 | exact (Below.unalloc (Below.undrew hb1)).1); have z1 := b1.size; (try (obtain ⟨hbz, KR⟩ := Below.unalloc (Below.undrew hb1); have cz := Blk.cell (i := 0) (v := .slice none 0 0) KR rfl; have fz := Blk.frozen KR 0; have lz := Blk.lt KR))))
  all_goals
   go_wp2_with fail
   go_meet
   first
    | exact ⟨w1.heap.size, A9, c9, rfl, rfl, by omega, by omega, b1.alloc z1 _, Blk.new _ _ _, World.ownsRow.alloc own1 _⟩
    | exact ⟨w.heap.size, A9, c9, rfl, rfl, by omega, by omega, b1.setCell yL _, Blk.set KR 0 _, zad (ownsRow_setCell_below own1 (a := ⟨w.heap.size, 0, none⟩) (by simp [World.drew]) _) (by simp [World.drew])⟩
 case rest =>
  obtain ⟨Z, A9, c9, rfl, rfl, hZb, hZE, hb, KZ, hown⟩ := hcut; revert hb KZ hown; generalize wc = w1; intro hb KZ hown; have HM1 := yq (HM.o.up hb); have HE1 := yq (HE.o.up hb); have HZ1 := yq KZ; have HB1 := yq hb; have HO1 := yq hown; have lb := HM1.o.lt; have lZ := KZ.lt; have lE := HE1.o.lt; have z1 := hb.size; clear HM HE hP k1 k3 k4 hb KZ hown; cases hq : zag (zap xs ls e.i e.j) with
  | false =>
    have q2 : zas (zap xs ls e.i e.j) = 3 := by unfold zas; rw [hq]; rfl
    have q3 : zbt (zap xs ls e.i e.j) = none := by unfold zbt; rw [hq]; rfl
    have Q3 := yq (show zbC s ((zbt (zap xs ls e.i e.j)).bind (zed e)) = none by rw [q3]; exact zdb (.inr rfl)); obtain ⟨vO, out, hB9, hO9, hs9, hok9⟩ := HM1.o; have f2 := hB9.frozen 2; have c2 := hB9.cell (i := 2) (v := .bool s.isNone) rfl; have HB9 := yq hB9; have HO9 := yq hO9; have HK9 := yq hok9; rw [q2]; clear hq q2 q3 hB9 hO9 hs9 hok9; go_wp2_with fail
    refine bodyPost_ret (v := .tuple #[]) (by simp [results, Tryz.results56, go_sem]) rfl ⟨rfl, (But.of HB1.o).setCell _, ?_⟩
    rw [Q3.o]; exact ⟨vO, out, HB9.o.set 2 _, ownsRow_setCell_below HO9.o (by show b < b + 1; omega) _, (fun _ h => nomatch h), HK9.o⟩
  | true =>
    have q1 : zav (zap xs ls e.i e.j) = zap xs ls e.i e.j := by unfold zav; rw [hq]; rfl
    have q2 : zas (zap xs ls e.i e.j) = 0 := by unfold zas; rw [hq]; rfl
    have q3 : zbt (zap xs ls e.i e.j) = some (zap xs ls e.i e.j) := by unfold zbt; rw [hq]; rfl
    have HQ3 := yq (show zbC s ((zbt (zap xs ls e.i e.j)).bind (zed e)) = zbC s (zed e (zap xs ls e.i e.j)) by rw [q3]; rfl); rw [q1] at HZ1 HO1; rw [q2]; have HG1 := yq hq; clear q1 q2 q3 hq HY; generalize hpq : zap xs ls e.i e.j = p at *; have HPQ := yq hpq; clear hpq; have p4 := zax HG1.o; have smp := yq (zbU (zaz (zai HG1.o).2.choose_spec)); have cZ := HZ1.o.cell (i := 0) (v := .slice A9 p.length c9) rfl; have x0 := HE1.o.c0; rcases HK.o with hk | ⟨hk, hk0, hk1⟩ | ⟨hk, hm, hm4⟩
    · have hc : zed e p = some (p.map zcu) := by unfold zed; rw [if_pos hk]
      have HCI := yq (show ze5 (zed e p) (p.map zcu) 0 by rw [hc]; exact .inl ⟨rfl, rfl, zfe HG1.o⟩); have HT := yq (show zfS p = p.map zcu /\ zeJ p = 0 by simp [zfS, zeJ, HG1.o]); rw [hk] at x0; clear hk hc; go_wp2_with fail
      refine (zi3 _ p _ HO1.o.sl smp.o yO).mono ?_
      rintro e2 w2 ⟨hb2, v2, own2, rfl⟩; rw [HT.o.1] at own2; rw [HT.o.2]; have HM2 := yq (HM1.o.up hb2); obtain ⟨A2, k2, rfl, _⟩ := zae own2; have HO2 := yq (show zac w2 w1.heap.size (.slice A2 p.length k2) (p.map zcu) by rw [<- (List.length_map zcu : (p.map zcu).length = p.length)]; exact own2); have HB2 := yq (Below.tr HB1.o hb2); clear hb2 own2 cZ x0; go_wp2_with fail
      refine (zeE b P oP s (zed e p) (.slice A2 p.length k2) (p.map zcu) 0 w2 HM2.o (zfa HO2.o lb) HCI.o).mono ?_
      rintro e3 w3 ⟨rfl, hb3, ha3⟩; go_wp2
      go_end0
      rw [HPQ.o, HQ3.o]; exact ⟨rfl, (But.of HB2.o).trans hb3, ha3⟩
    · have hn5 : ¬ e.kind = 5 := by omega
      have hc : zed e p = zbt (zdT p e.k.toNat) := by unfold zed; rw [if_neg hn5, if_pos hk]
      have hpc : zck p e.k = zav (zdT p e.k.toNat) /\ zbR p e.k = zas (zdT p e.k.toNat) := by
       have hb : inB e.k 0 1000000000000000 = true := by simp [inB]; omega
       unfold zck zbR; simp [HG1.o, hb]
      have HCI := yq (show ze5 (zed e p) (zck p e.k) (zbR p e.k) by rw [hc, hpc.1, hpc.2]; exact zc8 _); rw [hk] at x0; have KZ1 : C1 w1 ⟨Z, 0, none⟩ (.slice A9 p.length c9) := ⟨cZ, lZ⟩
      have KE3 : C1 w1 ⟨E, oE + 3, none⟩ (.int .i64 e.k) := ⟨HE1.o.c3, lE⟩
      clear hk hc hn5 hpc; go_wp2_with fail
      have KD := And.intro (KZ1.up (Below.drew (Below.refl _ _))).c (KE3.up (Below.drew (Below.refl _ _))).c
      go_region_held3 (fun w' => w'.cell? ⟨Z, 0, none⟩ = some (.slice A9 p.length c9) /\ w'.cell? ⟨E, oE + 3, none⟩ = some (.int .i64 e.k))
       (first | (with_reducible exact KD) | (with_reducible exact KD2) | (with_reducible exact KD3))
       (first
         | (go_at_call 88; (refine (zix _ p e.k _ (HO1.o.sl.up yb) yO smp.o).mono ?_); rintro e2 w2 ⟨hb2, v2, own2, rfl⟩; obtain ⟨A2, k2, rfl, _⟩ := zae own2; have b2 := Below.undrew hb2; have KD2 := And.intro (KZ1.up b2).c (KE3.up b2).c)
         | (go_at_call 55; (refine (zeE b P oP s (zed e p) (.slice A2 (zck p e.k).length k2) (zck p e.k) (zbR p e.k) w2 (HM1.o.up b2) (zfa own2 lb) HCI.o).mono ?_); rintro e3 w3 ⟨rfl, hb3, ha3⟩; have KD3 := And.intro ((KZ1.up b2).but hb3 hZb).c ((KE3.up b2).but hb3 hneE).c))
      go_wp2
      go_end0
      rw [HPQ.o, HQ3.o]; exact ⟨rfl, (But.of (Below.tr HB1.o b2)).trans hb3, ha3⟩
    · have hn5 : ¬ e.kind = 5 := by omega
      have hn6 : ¬ e.kind = 6 := by omega
      have hc : zed e p = zo2 p (zgg e.map) := by unfold zed; rw [if_neg hn5, if_neg hn6]
      have HC := yq hc; have HWM := yq (zex hm hm4); have HM4 := yq hm4; rw [hk] at x0; clear hk hc hn5 hn6 hm hm4; go_wp2_with fail
      go_loopw [6, 7] (fun q a wx => ∃ (k g c : Nat) (l : List ByteArray), k <= 4 /\ a = .int .i64 (k : Int) /\ q = .slice (some ⟨g, 0, none⟩) l.length c /\ l = (zgg e.map).take k /\ zg0 wx w1.heap.size q l /\ Below w1.heap.size w1 wx) (fun _ a _ => (4 - intOf a).toNat)
      case atStart => exact ⟨0, _, 0, [], Nat.zero_le _, rfl, rfl, rfl, zg0.empty rfl yL, (Below.refl _ _).alloc yL _⟩
      case round =>
       obtain ⟨k, g, c, l, hk4, rfl, rfl, hlc, hown, hb3⟩ := hrel; have Hown := yq hown; have HB3 := yq hb3; have Hlc := yq hlc; have hs3 : w1.heap.size <= wr.heap.size := hb3.size; have hll : l.length <= 4 := by rw [hlc, List.length_take]; omega
       have HLL := yq hll; have HE3 := yq (HE1.o.up hb3); have HZ3 := yq (HZ1.o.up hb3); clear hown hb3 hlc hll; by_cases hlt : k < 4
       · have x5 := HE3.o.c5
         have l5 := HE3.o.lt; have hsz : k + 1 <= e.map.size := by rw [HM4.o]; omega
         have hk0 : k < e.map.size := by omega
         have hli : (k : Int) < 4 := by omega
         go_wp2_with (first
          | (at_builtin; refine zmJ (base := w1.heap.size) (v := .slice (some ⟨g, 0, none⟩) l.length c) (l := l) (y := e.map.extract k (k + 1)) rfl _ _ rfl rfl rfl rfl Hown.o (Nat.le_trans HLL.o (by decide)) hs3 ?_; intro g5 c5 w5 own5 hb5))
         have e5 : (l ++ [e.map.extract k (k + 1)]).length = l.length + 1 := by simp
         refine ⟨⟨k + 1, g5, c5, l ++ [e.map.extract k (k + 1)], by omega, rfl, by rw [e5], ?_, own5, HB3.o.trans hb5⟩, by simp [intOf]; omega⟩
         rw [zmK hk0, <- Hlc.o]
       · have hk : k = 4 := by omega
         subst hk
         have hl : l = zgg e.map := by
          have := Hlc.o; rwa [List.take_of_length_le (by rw [HWM.o.1]; omega)] at this
         subst hl; have HW := yq (zg0.sl Hown.o); have HM3 := yq (HM1.o.up HB3.o); have HO3 := yq (zac.below HO1.o HB3.o); have HB4 := yq (Below.tr HB1.o HB3.o); have cZ3 := HZ3.o.cell (i := 0) (v := .slice A9 p.length c9) rfl; have lb3 := HM3.o.lt; have HCI := yq (show ze5 (zed e p) (zec p (zgg e.map)) (zdd p (zgg e.map)) by rw [HC.o]; exact zhZ _ _); clear cZ x0 Hown; go_wp2_with fail
         refine (zkx _ _ p (zgg e.map) _ HO3.o.sl HW.o smp.o HG1.o HWM.o.2 HWM.o.1).mono ?_
         rintro e2 w2 ⟨hb2, v2, own2, rfl⟩; obtain ⟨A2, k2, rfl, _⟩ := zae own2; have HM2 := yq (HM3.o.up hb2); have HO2 := yq own2; have HB2 := yq (Below.tr HB4.o hb2); clear hb2 own2 cZ3; go_wp2_with fail
         refine (zeE b P oP s (zed e p) (.slice A2 (zec p (zgg e.map)).length k2) (zec p (zgg e.map)) (zdd p (zgg e.map)) w2 HM2.o (zfa HO2.o lb3) HCI.o).mono ?_
         rintro e3 w3 ⟨rfl, hb3, ha3⟩; go_wp2
         go_end0
         rw [HPQ.o, HQ3.o]; exact ⟨rfl, (But.of HB2.o).trans hb3, ha3⟩
theorem ziS (b o : Nat) (vR : Value) (e : zam) (n : Int) (w : World) (h : EC w b o e vR) (hk : inR e.kind 1 7 = true) :
  Calls Tryz.prog 53 #[.pointer (some ⟨b, o, none⟩), .int .i64 n] w fun r w' => r = .returned (.bool (zbp e n)) /\ Below w.heap.size w w' := by
 obtain ⟨k, i, j, kk, part, map⟩ := e; obtain ⟨x0, x1, x2, x3, x4, x5, hlt⟩ := h; simp only at hk x0 x1 x2 x3 x4 x5
 rcases zeo hk with rfl | rfl | rfl | rfl | rfl | rfl | rfl
 all_goals clear hk
 rotate_left 3
 · by_cases c1 : j <= n
   · by_cases c2 : kk <= i
     · go_enter Tryz.func53, Tryz.ntmps53
       go_wp2_with fail
       go_quiet (fail)
       go_wp2_with fail
       go_ret
       exact ⟨zaf (by simp [zbp, c1, c2]), yb⟩
     · have g2 : decide (kk <= i) = false := by simp; omega
       by_cases c3 : j <= kk
       · go_enter Tryz.func53, Tryz.ntmps53
         go_wp2_with fail
         go_quiet (fail)
         go_wp2_with fail
         go_ret
         exact ⟨zaf (by simp [zbp, c1, g2, c3]), yb⟩
       · have g3 : decide (j <= kk) = false := by simp; omega
         have C3 := yq c3; go_enter Tryz.func53, Tryz.ntmps53
         go_wp2_with fail
         go_quiet (fail)
         go_wp2_with fail
         go_ret
         exact ⟨zaf (by simp [zbp, c1, g2, g3]), yb⟩
   · have g1 : decide (j <= n) = false := by simp; omega
     go_enter Tryz.func53, Tryz.ntmps53
     go_wp2_with fail
     go_quiet (fail)
     go_wp2_with fail
     go_ret
     exact ⟨zaf (by simp [zbp, g1]), yb⟩
 all_goals
  go_enter Tryz.func53, Tryz.ntmps53
  go_wp2_with fail
  all_goals
   go_ret
   refine ⟨zaf ?_, yb⟩
   rw [Bool.eq_iff_iff]; simp [zbp] at *
   try omega
end Go.Proofs.YtejgbfgocaggfaaGreatDoor
