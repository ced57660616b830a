import Derived.Test.YtejgbfgocaggfaaGreatDoorM27
set_option maxRecDepth 100000
set_option maxHeartbeats 8000000
namespace Go.Proofs.YtejgbfgocaggfaaGreatDoor
open Go.RowKit
def DrE (e : zam) : Prop := (e.part.length <= 14 /\ zaF e.part <= 5) /\ zaY e.part /\ zat e = true /\ e.map.size <= 4
theorem zf6 {xs : List zaa} (h : zag xs = true) : zaY xs := by
 obtain ⟨_, ls, hl⟩ := zai h; exact fun r hr => Nat.le_trans (zgI (zaz hl) r hr) (by decide)
def EdQ (b n M E : Nat) (w4 wx : World) : Prop :=
 ∃ (e : zam) (A5 : Option Addr) (c5 : Nat), DrE e /\ Blk wx E (zbK e (.slice A5 e.part.length c5)) 37 /\ SlS zar wx (fun k => k ≠ b /\ n < k /\ k < wx.heap.size) (.slice A5 e.part.length c5) e.part /\ Src wx b M /\ But b w4 wx
structure znK (w : World) (b c M : Nat) (wx : World) (A : Option Addr) (cA : Nat) (xs : List zaa) (v : Value) (es : List zam) : Prop where
 src : Src wx b M
 bel : But b w wx
 box : Blk wx c #[.slice A xs.length cA] 26
 own : zac wx w.heap.size (.slice A xs.length cA) xs
 row : zhq wx b c w.heap.size v es
section
variable {w wx w' : World} {b c M M' : Nat} {A : Option Addr} {cA : Nat} {xs : List zaa} {v : Value} {es : List zam}
theorem znK.pick (h : znK w b c M wx A cA xs v es) (hb : But b wx w') (hs : Src w' b M') (hlt : b < w.heap.size) (hc : w.heap.size <= c) : znK w b c M' w' A cA xs v es :=
 ⟨hs, h.bel.trans hb, h.box.but hb yO, zac.but h.own hb hlt, h.row.but hb⟩
theorem znK.up (h : znK w b c M wx A cA xs v es) (hb : Below wx.heap.size wx w') (hlt : b < w.heap.size) (hc : w.heap.size <= c) : znK w b c M w' A cA xs v es := h.pick (But.of hb) (h.src.keep hb) hlt hc
end
theorem zkF (b N P oP : Nat) (most : Int) (vG : Value) (xs0 : List zaa) (w : World) (hs : Src w b N) (hN : N <= 100000) (hP : C1 w ⟨P, oP, none⟩ vG) (hG : Sl zar w w.heap.size vG xs0) (hg : zag xs0 = true) (hm : 0 <= most /\ most <= 6) :
  Calls Tryz.prog 18 #[.pointer (some ⟨b, 0, none⟩), .pointer (some ⟨P, oP, none⟩), .int .i64 most] w fun r w' => ∃ v es c, r = .returned v /\ zhq w' b c w.heap.size v es /\ es.length <= 6 /\ (∀ e ∈ es, DrE e) /\ But b w w' := by
 have hlt := hs.lt; have HS := yq hs; have HG := yq hG; have h4 := (zai hg).1; have HGG := yq hg; have wm : IntKind.i64.wrap (most + 1) = most + 1 := IntWalk.i64_in _ yO; have ba := (Below.refl _ w).alloc yL (Obj.cells #[] 37); have HP := yq (hP.up ba); have HBA := yq ba; clear hs hG hP ba hg; go_enter Tryz.func18, Tryz.ntmps18
 go_wp2_with fail
 refine (zcd P oP _ xs0 _ HP.o.c HP.o.lt (HG.o.up HBA.o) yO).mono ?_
 rintro r w1 ⟨vN, rfl, ownN, hb1⟩; obtain ⟨AN, cN, rfl, _⟩ := zae ownN; have z1 : w.heap.size < w1.heap.size := Nat.lt_of_lt_of_le yS hb1.size
 have st1 : znK w b w1.heap.size N (w1.alloc (Obj.cells #[.slice AN xs0.length cN] 26)) AN cN xs0 (.slice (some ⟨w.heap.size, 0, none⟩) 0 0) [] := by
  have bb := (Below.refl _ w1).alloc yL (Obj.cells #[.slice AN xs0.length cN] 26); refine ⟨(HS.o.keep HBA.o).keepB hb1 (by simp; omega) |>.keep bb, (But.of HBA.o).trans ((But.of hb1).trans (But.of bb)), Blk.new _ _ _, ?_, ?_⟩
  · exact World.ownsRow.alloc (zad ownN yS) _
  · exact ((zl4 (b := b) (c := w1.heap.size) rfl yL hlt yO).up hb1).up bb
 have St1 := yq st1; clear st1 ownN; go_wp2_with fail
 refine (zb2 b N (most + 1) _ St1.o.src yO).mono ?_
 rintro r w2 ⟨x, rfl, hx, _, hs2, hb2⟩; have St2 := yq (St1.o.pick hb2 hs2 hlt yO); obtain ⟨c, hc⟩ : ∃ c, w1.heap.size = c := ⟨_, rfl⟩
 rw [hc] at St2 z1; rw [hc]; clear St1 hs2 hb2 hb1 hc; have hx6 : x <= 6 := by omega
 clear hx; go_wp2_with fail
 go_loopw [7, 9] (fun o k wx => ∃ (m M : Nat) (A : Option Addr) (cA : Nat) (xs : List zaa) (Av : Option Addr) (cv : Nat) (es : List zam), o = .slice Av es.length cv /\ k = .int .i64 m /\ m + es.length <= 6 /\ M <= N + 2 + 700 * es.length /\ zag xs = true /\ yh (∀ e ∈ es, DrE e) /\ yh (znK w b c M wx A cA xs (.slice Av es.length cv) es)) (fun _ k _ => (intOf k).toNat)
 case atStart => exact ⟨x, N + 2, AN, cN, xs0, _, _, [], rfl, rfl, by simp; omega, by simp, HGG.o, yq (fun e he => absurd he yS), St2⟩
 case round =>
  obtain ⟨m, M, A, cA, xs, Av, cv, es, rfl, rfl, hml, hM, hgx, HD, St⟩ := hrel; by_cases h0 : m = 0
  · subst h0
    go_wp2_with fail
    go_ret
    exact ⟨_, es, c, rfl, St.o.row, by omega, HD.o, St.o.bel⟩
  · have hm0 : (0 : Int) < (m : Int) := by omega
    obtain ⟨hx4, ls, hl⟩ := zai hgx; have hlb := za4 xs; rw [zaD hl] at hlb; have HL := yq hl; have HX := yq hgx; have hsx := yq (zf6 hgx); have cN1 := Blk.cell (i := 0) (v := .slice A xs.length cA) St.o.box rfl; have lN1 := Blk.lt St.o.box; clear hl hgx h0; go_wp2_with fail
    refine (zbm c 0 _ xs ls _ HL.o cN1 lN1 St.o.own.sl hsx.o yO).mono ?_
    rintro r w3 ⟨rfl, hb3⟩; obtain ⟨n, hn⟩ : ∃ n, zao ls = n := ⟨_, rfl⟩
    rw [hn] at hlb; rw [hn]; have HLN := yq hn; have St3 := yq (St.o.up hb3 hlt yO); clear hn cN1 lN1 hb3; have z3 : c < w3.heap.size := St3.o.box.lt; have hown3 := St3.o.row.own; go_wp2_with fail
    refine (zgs b M n _ St3.o.src yO yO).mono ?_
    rintro r w4 ⟨_, vR, e, rfl, rfl, hsl4, h14, hsm4, hok4, hm4, hs4, hb4⟩; have St4 := yq (St3.o.pick hb4 hs4 hlt yO); have hsl4b := hsl4; obtain ⟨AR, cR, rfl, _⟩ := hsl4b; have bE := (Below.refl _ w4).alloc yL (Obj.cells #[.int .i64 e.kind, .int .i64 e.i, .int .i64 e.j, .int .i64 e.k, .slice AR e.part.length cR, .string e.map] 37); have zE : w3.heap.size <= w4.heap.size := hb4.size
    have Q5 : yh (EdQ b w3.heap.size (M + 240) w4.heap.size w4 (w4.alloc (Obj.cells #[.int .i64 e.kind, .int .i64 e.i, .int .i64 e.j, .int .i64 e.k, .slice AR e.part.length cR, .string e.map] 37))) :=
     ⟨e, AR, cR, ⟨h14, hsm4, hok4, hm4⟩, Blk.new _ _ _, (hsl4.keep fun k hk => bE.block k hk.2.2).more fun k hk => ⟨hk.1, hk.2.1, Nat.lt_of_lt_of_le hk.2.2 bE.size⟩, hs4.keep bE, But.of bE⟩
    have HKE := yq (Blk.new w4 (zbK e (.slice AR e.part.length cR)) 37); have HN5 := yq (St4.o.up bE hlt yO); clear hsl4 h14 hsm4 hok4 hm4 hs4 hb4 bE; go_upto_region 7 with fail
    revert Q5 HKE HN5; generalize (w4.alloc (Obj.cells #[.int .i64 e.kind, .int .i64 e.i, .int .i64 e.j, .int .i64 e.k, .slice AR e.part.length cR, .string e.map] 37)) = w5; intro Q5 HKE HN5; obtain ⟨E, hE⟩ : ∃ E, w4.heap.size = E := ⟨_, rfl⟩
    rw [hE] at Q5 HKE zE; rw [hE]; have hs5 : yh (Src w5 b (M + 240)) := by obtain ⟨_, _, _, _, _, _, h, _⟩ := Q5.o; exact h
    have hb5 : yh (But b w4 w5) := by obtain ⟨_, _, _, _, _, _, _, h⟩ := Q5.o; exact h
    go_wp2_with fail
    refine (zhn b (M + 240) 12 _ hs5.o yO).mono ?_
    rintro r w6 ⟨t, rfl, hs6, hb6⟩; go_upto_if 28 with fail
    have Q6 : yh (EdQ b w3.heap.size (M + 242) E w4 w6) := by
     obtain ⟨e', A5, c5, q1, q2, q3, q4, q5⟩ := Q5.o; exact ⟨e', A5, c5, q1, q2.but hb6 yO, (q3.keep fun k hk => hb6.block k hk.2.2 hk.1).more fun k hk => ⟨hk.1, hk.2.1, Nat.lt_of_lt_of_le hk.2.2 hb6.size⟩, hs6, q5.trans hb6⟩
    have HN6 := yq (HN5.o.pick hb6 hs6 hlt yO); clear hs6 hb6 Q5 HKE HN5 hs5 hb5; go_cut [] (fun wx => EdQ b w3.heap.size (M + 500) E w4 wx)
    case first =>
     cases t with
     | false =>
       go_wp2_with fail
       go_meet
       obtain ⟨e', A5, c5, q1, q2, q3, q4, q5⟩ := Q6.o; exact ⟨e', A5, c5, q1, q2, q3, q4.more yO, q5⟩
     | true =>
       have cN1 := Blk.cell (i := 0) (v := .slice A xs.length cA) HN6.o.box rfl; have lN1 := Blk.lt HN6.o.box; go_wp2_with fail
       refine (zbm c 0 _ xs ls _ HL.o cN1 lN1 HN6.o.own.sl hsx.o yO).mono ?_
       rintro r w7 ⟨rfl, hb7⟩; rw [HLN.o]; have HN7 := yq (HN6.o.up hb7 hlt yO)
       have Q7 : yh (EdQ b w3.heap.size (M + 242) E w4 w7) := by
        obtain ⟨e', A5, c5, q1, q2, q3, q4, q5⟩ := Q6.o; exact ⟨e', A5, c5, q1, q2.up hb7, (q3.keep fun k hk => hb7.block k hk.2.2).more fun k hk => ⟨hk.1, hk.2.1, Nat.lt_of_lt_of_le hk.2.2 hb7.size⟩, q4.keep hb7, q5.trans (But.of hb7)⟩
       have z7 : w3.heap.size <= w7.heap.size := by
        obtain ⟨_, _, _, _, _, _, _, q5⟩ := Q7.o; have := q5.size; omega
       have w3n : IntKind.i64.wrap (n + 3) = n + 3 := IntWalk.i64_in _ yO; clear cN1 lN1 hb7 Q6 HN6; go_wp2_with fail
       refine (zgs b (M + 242) (n + 3) _ HN7.o.src yO yO).mono ?_
       rintro r w8 ⟨_, vR8, e8, rfl, rfl, hsl8, h14, hsm8, hok8, hm8, hs8, hb8⟩; have hsl8b := hsl8; obtain ⟨A8, c8, rfl, _⟩ := hsl8b; obtain ⟨e', A5, c5, q1, q2, q3, q4, q5⟩ := Q7.o; have k8 := q2.but hb8 yO; have z8 : E < w8.heap.size := k8.lt; have zE7 : E < w7.heap.size := q2.lt; have HQ8 := yq (show DrE e8 /\ SlS zar w8 (fun k => k ≠ b /\ w7.heap.size < k /\ k < w8.heap.size) (.slice A8 e8.part.length c8) e8.part /\ Src w8 b (M + 482) /\ But b w4 w8 from ⟨⟨h14, hsm8, hok8, hm8⟩, hsl8, hs8, q5.trans hb8⟩); have HK8 := yq k8; have f0 := Blk.frozen k8 0; have f1 := Blk.frozen k8 1; have f2 := Blk.frozen k8 2; have f3 := Blk.frozen k8 3; have f4 := Blk.frozen k8 4; have f5 := Blk.frozen k8 5; have g0 := Blk.cell (i := 0) k8 rfl; have g1 := Blk.cell (i := 1) k8 rfl; have g2 := Blk.cell (i := 2) k8 rfl; have g3 := Blk.cell (i := 3) k8 rfl; have g4 := Blk.cell (i := 4) k8 rfl; have g5 := Blk.cell (i := 5) k8 rfl; clear hsl8 h14 hsm8 hok8 hm8 hs8 hb8 q1 q2 q3 q4 q5 k8 Q7; go_wp2_with fail
       go_meet
       obtain ⟨r1, r2, r3, r4⟩ := HQ8.o; obtain ⟨s1, s2, s3⟩ := six HK8.o (.int .i64 e8.kind) (.int .i64 e8.i) (.int .i64 e8.j) (.int .i64 e8.k) (.slice A8 e8.part.length c8) (.string e8.map); exact ⟨e8, A8, c8, r1, s1, (r2.keep fun k hk => s2 k (by have := hk.2.1; omega)).more fun k hk => ⟨hk.1, by have := hk.2.1; omega, Nat.lt_of_lt_of_le hk.2.2 s3.size⟩, (r3.keepB s3 yO).more yO, r4.up s3 yO⟩
    case rest =>
     revert hcut; generalize wc = wC; intro hcut; obtain ⟨e', A5, c5, q1, q2, q3, q4, q5⟩ := hcut; have StC := yq (St4.o.pick q5 q4 hlt yO); have HQ := yq (And.intro q1 (And.intro q2 q3)); have zC : E < wC.heap.size := q2.lt; have hnC : ∀ g, (Value.slice Av es.length cv).ownBlock = some g -> g < w3.heap.size := hown3; have HNC := yq hnC; have c0 := Blk.cell (i := 0) (v := .int .i64 e'.kind) q2 rfl; have c1 := Blk.cell (i := 1) (v := .int .i64 e'.i) q2 rfl; have c2 := Blk.cell (i := 2) (v := .int .i64 e'.j) q2 rfl; have c3 := Blk.cell (i := 3) (v := .int .i64 e'.k) q2 rfl; have c4 := Blk.cell (i := 4) (v := .slice A5 e'.part.length c5) q2 rfl; have c5' := Blk.cell (i := 5) (v := .string e'.map) q2 rfl; have hpart : SlS zar wC (QS wC b c w.heap.size (.slice Av es.length cv)) (.slice A5 e'.part.length c5) e'.part := q3.more fun k hk => ⟨hk.1, by omega, fun q => by have := hnC k q; omega, by omega, hk.2.2⟩
     have HP5 := yq hpart; have hles : es.length <= 1048576 := by omega
     have hloC : w.heap.size <= wC.heap.size := by omega
     have hbC : b < wC.heap.size := by omega
     have hcC : c < wC.heap.size := by omega
     clear q1 q2 q3 q4 q5 hpart HN6 Q6 St4 hown3 hnC
     go_wp2_with (first
      | (at_builtin; refine zl5 (e := e') (u := .slice A5 e'.part.length c5) rfl _ _ rfl yR yR rfl StC.o.row hles hloC hbC hcC HP5.o ?_; intro g9 c9 w9 row9 tk9 kp9 hb9))
     obtain ⟨q1, q2, q3⟩ := HQ.o; have kE9 : Blk w9 E (zbK e' (.slice A5 e'.part.length c5)) 37 := (kp9 E zC (fun q => by have := HNC.o E q; omega)).trans q2; have hp9 : Sl zar w9 w9.heap.size (.slice A5 e'.part.length c5) e'.part := (q3.keep fun k hk => kp9 k hk.2.2 (fun q => by have := HNC.o k q; omega)).more fun k hk => Nat.lt_of_lt_of_le hk.2.2 hb9.size; have el : (es ++ [e']).length = es.length + 1 := by simp
     have St9 : znK w b c (M + 500) w9 A cA xs (.slice (some ⟨g9, 0, none⟩) (es ++ [e']).length c9) (es ++ [e']) :=
      ⟨StC.o.src.keepB hb9 hlt, StC.o.bel.up hb9 yL, TK.blk StC.o.box tk9 (by decide), TK.row StC.o.own tk9 (by decide), by rw [el]; exact row9⟩
     have HS9 := yq St9; have HE9 := yq (EC.of kE9); have HP9 := yq hp9
     have HD9 : yh (∀ x ∈ es ++ [e'], DrE x) := fun x hx => by
      rcases List.mem_append.1 hx with hx | hx
      · exact HD.o x hx
      · simp at hx; subst hx; exact q1
     have hok' := q1.2.2.1; have HOK := yq hok'; have cN9 := Blk.cell (i := 0) (v := .slice A xs.length cA) St9.box rfl; have lN9 := Blk.lt St9.box; clear q1 q2 q3 kE9 hp9 row9 tk9 kp9 hb9 St9 c0 c1 c2 c3 c4 c5' HP5 hok' HQ; go_wp2_with fail
     refine (zds c 0 E 0 _ _ xs e' _ ⟨cN9, lN9⟩ HE9.o HS9.o.own.sl HP9.o HX.o HOK.o).mono ?_
     rintro r w10 ⟨hb10, v10, own10, rfl⟩; obtain ⟨A10, c10, rfl, _⟩ := zae own10; have b11 := hb10.alloc hb10.size (Obj.cells #[.slice A10 (zak xs e').length c10] 26); have HS11 := yq (HS9.o.up b11 hlt yO); have z10 := hb10.size; have HO10 := yq own10; have HS10 := yq (HS9.o.up hb10 hlt yO); clear hb10 own10 b11 cN9 HE9 HP9; by_cases hc : zah xs e' = 0
     · rw [hc]
       have xN := HS11.o.box.cell (i := 0) (v := .slice A xs.length cA) rfl; have fN := HS11.o.box.frozen 0; have lN11 : c < w10.heap.size := by omega
       have hgo := zd8 xs e'; clear hc; have HGO := yq hgo; clear hgo; go_wp2_with fail
       go_roundw
       case rel =>
        refine ⟨m - 1, M + 500, A10, c10, zak xs e', some ⟨g9, 0, none⟩, c9, es ++ [e'], by rw [el], by go_num, by rw [el]; omega, by rw [el]; omega, HGO.o, HD9, yq ?_⟩
        have bs : Below c w10 (w10.setCell ⟨c, 0, none⟩ (.slice A10 (zak xs e').length c10)) := (Below.refl c _).setCell (p := ⟨c, 0, none⟩) yL _
        have st : znK w b c (M + 500) (w10.setCell ⟨c, 0, none⟩ (.slice A10 (zak xs e').length c10)) A10 c10 (zak xs e') (.slice (some ⟨g9, 0, none⟩) (es ++ [e']).length c9) (es ++ [e']) :=
         ⟨HS10.o.src.keepB bs yO, HS10.o.bel.up bs yO, HS10.o.box.set 0 _, zad (ownsRow_setCell_below HO10.o (a := ⟨c, 0, none⟩) (by show c < _; omega) _) yO, HS10.o.row.put 0 _⟩
        exact st.up ((Below.refl _ _).alloc yL _) hlt yO
       case measure => simp [intOf]; omega
     · have hcb : (zah xs e' == 0) = false := by simp [hc]
       go_wp2_with fail
       go_roundw
       case rel => exact ⟨m - 1, M + 500, A, cA, xs, some ⟨g9, 0, none⟩, c9, es ++ [e'], by rw [el], by go_num, by rw [el]; omega, by rw [el]; omega, HX.o, HD9, HS11⟩
       case measure => simp [intOf]; omega
theorem zkG (v u : Value) (l : List UInt8) (xs : List zaa) (w : World) (h : Sl zfl w w.heap.size v l) (hG : Sl zar w w.heap.size u xs) (hg : zag xs = true) :
  Calls Tryz.prog 6 #[v, .agg #[u]] w fun r w' => ∃ vE es, r = .returned vE /\ Sl zdB w' w'.heap.size vE es /\ es.length <= 6 /\ (∀ e ∈ es, DrE e) /\ Below w.heap.size w w' := by
 have HL := yq h; have HG := yq hG; have HGG := yq hg; obtain ⟨A, c, rfl, _⟩ := h; obtain ⟨A', c', rfl, _⟩ := hG; clear hg; have ba := (Below.refl _ w).alloc yL (.cells #[.slice A' xs.length c'] 26); have HC := yq (show C1 (w.alloc (.cells #[.slice A' xs.length c'] 26)) ⟨w.heap.size, 0, none⟩ (.slice A' xs.length c') from ⟨Blk.cell (i := 0) (Blk.new w _ _) rfl, by simp⟩); have HBA := yq ba; clear ba; go_enter Tryz.func6, Tryz.ntmps6
 go_wp2_with fail
 refine (zk9 _ l _ (HL.o.up HBA.o)).mono ?_
 rintro r w1 ⟨b, rfl, hb, hs, hb1⟩; have HB1 := yq (Below.tr HBA.o hb1); have HS1 := yq hs; have HC1 := yq (HC.o.up hb1); have hbz : w.heap.size <= b := by simp at hb; omega
 have hz1 := HB1.o.size; clear hs hb1 hb; go_wp2_with fail
 refine (zkF b 0 w.heap.size 0 6 _ xs _ HS1.o yO HC1.o (HG.o.up HB1.o) HGG.o yO).mono ?_
 rintro r w2 ⟨vE, es, c2, rfl, ho, h6, hd, hb2⟩; obtain ⟨AE, cE, rfl⟩ := ho.form; have HR := yq (show Sl zdB w2 w2.heap.size _ es /\ es.length <= 6 /\ (∀ e ∈ es, DrE e) /\ Below w.heap.size w w2 from ⟨ho.sl, h6, hd, HB1.o.trans (hb2.below (B := w.heap.size) yO yO)⟩); clear ho h6 hd hb2; go_wp2_with fail
 go_ret
 exact ⟨_, es, rfl, HR.o.1, HR.o.2.1, HR.o.2.2.1, HR.o.2.2.2⟩
theorem zb3 (vG vE : Value) (xs : List zaa) (es : List zam) (w : World) (hG : Sl zar w w.heap.size vG xs) (hE : Sl zdB w w.heap.size vE es) (hn : xs.length <= 1048576) (hs : ∀ e ∈ es, e.part.length <= 1048576 /\ e.map.size <= maxLen) (htab : Lib.TabIs Tryz.prog w "math/bits.deBruijn64tab" .u8 zfc) :
  Calls Tryz.prog 10 #[.agg #[vG], vE] w (zqi (za9 xs es) (zhl xs es) (zaS xs es) w) := by
 have HG := yq hG; have HE := yq hE; have HS := yq hs; have HT := yq htab; clear htab; obtain ⟨AG, cG, rfl, _⟩ := hG; obtain ⟨AE, cE, rfl, hcE, hmE, _⟩ := hE; unfold maxLen at hmE; clear hs; have b1 := (Below.refl w.heap.size w).alloc yL (Obj.cells #[.slice AG xs.length cG] 26); have b2 := b1.alloc b1.size (Obj.cells #[.slice none 0 0] 26); have KP : Blk ((w.alloc (Obj.cells #[.slice AG xs.length cG] 26)).alloc (Obj.cells #[.slice none 0 0] 26)) w.heap.size #[.slice AG xs.length cG] 26 := (Blk.new w _ _).alloc _
 have KR : Blk ((w.alloc (Obj.cells #[.slice AG xs.length cG] 26)).alloc (Obj.cells #[.slice none 0 0] 26)) (w.heap.size + 1) #[.slice none 0 0] 26 := by
  have := (Blk.new (w.alloc (Obj.cells #[.slice AG xs.length cG] 26)) #[.slice none 0 0] 26)
  simpa [Blk] using this
 go_enter Tryz.func10, Tryz.ntmps10
 go_upto_region 1 with fail
 generalize ((w.alloc (Obj.cells #[.slice AG xs.length cG] 26)).alloc (Obj.cells #[.slice none 0 0] 26)) = w0 at *; have KB := yq b2; clear b1 b2; have cP0_1 := Blk.cell (i := 0) (v := .slice AG xs.length cG) KP rfl; have lP_2 := Blk.lt KP; go_wp2_with fail
 refine (zbG _ xs _ (HG.o.up KB.o) yO).mono ?_
 rintro e w1 ⟨rfl, hb_3⟩; have z_w1 : w0.heap.size <= w1.heap.size := hb_3.size; have KB_4 := yq (Below.tr KB.o hb_3); have KP_5 := Blk.up KP hb_3; have KR_6 := Blk.up KR hb_3; clear cP0_1 lP_2 KB KP KR; cases hg : zag xs with
 | false =>
   have hc : zaS xs es = 1 := by simp [zaS, hg]
   have HQ := yq (show za9 xs es = [] /\ zhl xs es = 0 /\ zaS xs es = 1 by unfold za9 zhl; rw [hc]; exact ⟨rfl, rfl, rfl⟩); clear hg hc; have cR0_7 := Blk.cell (i := 0) (v := .slice none 0 0) KR_6 rfl; have zR0_8 := Blk.frozen KR_6 0; have lR_9 := Blk.lt KR_6; go_wp2_with fail
   refine bodyPost_ret (v := .tuple #[.agg #[.slice none 0 0], .int .i64 0, .int .i64 1]) (by simp [results, Tryz.results10, go_sem, cR0_7]) rfl ⟨Below.setCell KB_4.o (show w.heap.size <= w.heap.size + 1 by omega) _, .slice none 0 0, by rw [HQ.o.1]; exact World.ownsRow_nil _ _ _ _, by rw [HQ.o.2.1, HQ.o.2.2]⟩
 | true =>
   have HGG := yq hg; clear hg; have cR0_10 := Blk.cell (i := 0) (v := .slice none 0 0) KR_6 rfl; have lR_11 := Blk.lt KR_6; go_wp2_with fail
   refine (zgo _ es _ (HE.o.up KB_4.o) HS.o).mono ?_
   rintro e w2 ⟨rfl, hb_12⟩; have z_w2 : w1.heap.size <= w2.heap.size := hb_12.size; have KB_13 := yq (Below.tr KB_4.o hb_12); have KP_14 := Blk.up KP_5 hb_12; have KR_15 := Blk.up KR_6 hb_12; clear hb_3 cR0_10 lR_11 KB_4 KP_5 KR_6; cases ha : es.all zat with
   | false =>
     have hc : zaS xs es = 1 := by simp [zaS, ha]
     have HQ := yq (show za9 xs es = [] /\ zhl xs es = 0 /\ zaS xs es = 1 by unfold za9 zhl; rw [hc]; exact ⟨rfl, rfl, rfl⟩); clear ha hc; have cR0_16 := Blk.cell (i := 0) (v := .slice none 0 0) KR_15 rfl; have zR0_17 := Blk.frozen KR_15 0; have lR_18 := Blk.lt KR_15; go_wp2_with fail
     refine bodyPost_ret (v := .tuple #[.agg #[.slice none 0 0], .int .i64 0, .int .i64 1]) (by simp [results, Tryz.results10, go_sem, cR0_16]) rfl ⟨Below.setCell KB_13.o (show w.heap.size <= w.heap.size + 1 by omega) _, .slice none 0 0, by rw [HQ.o.1]; exact World.ownsRow_nil _ _ _ _, by rw [HQ.o.2.1, HQ.o.2.2]⟩
   | true =>
     have HAA := yq ha; clear ha; by_cases hl : 60 < es.length
     · have hc : zaS xs es = 2 := by unfold zaS; rw [HGG.o, HAA.o, if_pos yR, if_pos hl]
       have HQ := yq (show za9 xs es = [] /\ zhl xs es = 0 /\ zaS xs es = 2 by unfold za9 zhl; rw [hc]; exact ⟨rfl, rfl, rfl⟩); have hli : (60 : Int) < (es.length : Int) := by omega
       clear hc; have cR0_19 := Blk.cell (i := 0) (v := .slice none 0 0) KR_15 rfl; have zR0_20 := Blk.frozen KR_15 0; have lR_21 := Blk.lt KR_15; go_wp2_with fail
       refine bodyPost_ret (v := .tuple #[.agg #[.slice none 0 0], .int .i64 0, .int .i64 2]) (by simp [results, Tryz.results10, go_sem, cR0_19]) rfl ⟨Below.setCell KB_13.o (show w.heap.size <= w.heap.size + 1 by omega) _, .slice none 0 0, by rw [HQ.o.1]; exact World.ownsRow_nil _ _ _ _, by rw [HQ.o.2.1, HQ.o.2.2]⟩
     · have hc : zaS xs es = 0 := by unfold zaS; rw [HGG.o, HAA.o, if_pos yR, if_neg hl]
       have HQ := yq (show za9 xs es = (zb1 xs es).1 /\ zhl xs es = (zb1 xs es).2 /\ zaS xs es = 0 by unfold za9 zhl; rw [hc]; exact ⟨rfl, rfl, rfl⟩); have hli : ¬ (60 : Int) < (es.length : Int) := by omega
       have hx4 := zax HGG.o; clear hc; have hs2 : w.heap.size + 2 <= w2.heap.size := Blk.lt KR_15; have cR0_22 := Blk.cell (i := 0) (v := .slice none 0 0) KR_15 rfl; have lR_23 := Blk.lt KR_15; have cP0_24 := Blk.cell (i := 0) (v := .slice AG xs.length cG) KP_14 rfl; have lP_25 := Blk.lt KP_14; go_wp2_with fail
       refine (zcs _ xs _ (HG.o.up KB_13.o) yO).mono ?_
       rintro e w3 ⟨vN, rfl, ownN, hb_26⟩; have z_w3 : w2.heap.size <= w3.heap.size := hb_26.size; have KB_27 := yq (Below.tr KB_13.o hb_26); have KP_28 := Blk.up KP_14 hb_26; have KR_29 := Blk.up KR_15 hb_26; clear hb_12 cR0_22 lR_23 cP0_24 lP_25 KB_13 KP_14 KR_15; obtain ⟨AN, cN, rfl, _⟩ := zae ownN; have bZ := (Below.refl w3.heap.size w3).alloc yL (Obj.cells #[.slice AN xs.length cN] 26); have KN := Blk.new w3 #[.slice AN xs.length cN] 26; have KO := zac.below ownN bZ; have hsz := Below.size KB_27.o; have lR := Blk.lt KR_29; have lP := Blk.lt KP_28; have KBZ := yq (Below.tr KB_27.o bZ); have KRZ := yq (Blk.up KR_29 bZ); have KOZ := yq KO; have KNZ := yq KN; clear ownN KO KN bZ; go_wp2_with fail
       go_loopw [8, 32] (fun d i wx => ∃ (k : Nat) (A : Option Addr) (c : Nat), k <= es.length /\ d = .int .i64 (zb1 xs (es.take k)).2 /\ i = .int .i64 k /\ yh (Blk wx w3.heap.size #[.slice A (zb1 xs (es.take k)).1.length c] 26) /\ yh (Blk wx (w.heap.size + 1) #[.slice none 0 0] 26) /\ yh (zac wx (w.heap.size + 2) (.slice A (zb1 xs (es.take k)).1.length c) (zb1 xs (es.take k)).1) /\ yh (Below w.heap.size w wx)) (fun _ i _ => es.length - (intOf i).toNat)
       case atStart => exact ⟨0, AN, cN, Nat.zero_le _, rfl, rfl, KNZ, KRZ, yq (zad KOZ.o yO), KBZ⟩
       case round =>
        obtain ⟨k, A, c, hk, rfl, rfl, HN, HR, HO, HB⟩ := hrel; by_cases hlt : k < es.length
        · obtain ⟨_, _, hAE, _, _, hrow⟩ := HE.o.up HB.o
          injection hAE with hA1 hA2 hA3; subst hA1 hA3; obtain ⟨b, o, rfl, hbl, hcell⟩ := hrow.edit (fun _ h => h) hlt; obtain ⟨e, he⟩ : ∃ e, es[k]? = some e := ⟨_, ye hlt⟩
          obtain ⟨vR, hec, hR⟩ := hcell k e he; have heok := List.all_eq_true.1 HAA.o e (List.mem_of_getElem? he); have HFT := yq (zf4 (xs := xs) he); have hgo := zfK (es.take k) HGG.o; have hnum := zjL xs (es.take k); rw [List.length_take] at hnum; obtain ⟨out, n, hon⟩ : ∃ out n, zb1 xs (es.take k) = (out, n) := ⟨_, _, rfl⟩
          rw [hon] at HN HO HFT hgo hnum |-
          simp only at HN HO hgo hnum |-
          have HON := yq hon; have HEC := yq hec; have HRR := yq hR; have HEO := yq heok; have HGO := yq hgo; have lN := HN.o.lt; have lR2 := HR.o.lt; have hbz := HB.o.size; have hi : (k : Int) < (es.length : Int) := by omega
          have hse := HS.o e (List.mem_of_getElem? he); have ho4 := zax hgo; obtain ⟨AR, cR, rfl, _⟩ := hR; obtain ⟨x0, x1, x2, x3, x4, x5, xl⟩ := HEC.o; have xN := HN.o.cell (i := 0) (v := .slice A out.length c) rfl; clear hcell he hec heok hgo hon; go_wp2_with fail
          refine (zd5 _ _ out e _ (HO.o.sl.up yb) ⟨_, rfl, HRR.o.up yb⟩ yO hse.1 hse.2 (zi0 HT.o (have yx := HB.o; yb))).mono ?_
          rintro r w4 ⟨hb4', v4, own4', rfl⟩; have hb4 := (Below.unalloc hb4').1; have own4 : zac w4 wr.heap.size v4 (zak out e) := zad own4' yS; clear hb4' own4' x0 x1 x2 x3 x4 x5 xl xN; obtain ⟨A4, c4, rfl, _⟩ := zae own4; have HN4 := yq (HN.o.up hb4); have HR4 := yq (HR.o.up hb4); have HB4 := yq (Below.tr HB.o hb4); have HO4 := yq own4; have bZ := hb4.alloc hb4.size (Obj.cells #[.slice A4 (zak out e).length c4] 26); have HN5 := yq (HN.o.up bZ); have HR5 := yq (HR.o.up bZ); have HO5 := yq (zac.below HO.o bZ); have HB5 := yq (Below.tr HB.o bZ); have z4 := hb4.size; clear hb4 own4 bZ HN HR HO; by_cases hc : zah out e = 0
          · have HFT2 := yq (show zb1 xs (es.take (k + 1)) = (zak out e, n + 1) by rw [HFT.o]; unfold zb0; rw [if_pos hc])
            rw [hc]; clear hc; have ws : IntKind.i64.wrap (n + 1) = n + 1 := IntWalk.i64_in _ yO; have xN := HN5.o.cell (i := 0) (v := .slice A out.length c) rfl; have fN := HN5.o.frozen 0; have lN5 : w3.heap.size < w4.heap.size := by omega
            go_wp2_with fail
            go_roundw
            case rel =>
             refine ⟨k + 1, A4, c4, by omega, by rw [HFT2.o], by go_num, ?_, ?_, ?_, ?_⟩
             · rw [HFT2.o]; exact yq ((HN4.o.set 0 _).alloc _)
             · exact yq ((HR4.o.other (p := ⟨w3.heap.size, 0, none⟩) (by show w.heap.size + 1 ≠ w3.heap.size; omega) _).alloc _)
             · rw [HFT2.o]; exact yq (World.ownsRow.alloc (zad (ownsRow_setCell_below HO4.o (a := ⟨w3.heap.size, 0, none⟩) lN _) yO) _)
             · exact yq ((Below.setCell HB4.o (by show w.heap.size <= w3.heap.size; omega) _).alloc (by show w.heap.size <= _; have := HB4.o.size; simp [World.setCell]; omega) _)
            case measure => simp [intOf]; omega
          · have HFT2 := yq (show zb1 xs (es.take (k + 1)) = (out, n) by rw [HFT.o]; unfold zb0; rw [if_neg hc])
            have hcb : (zah out e == 0) = false := by simp [hc]
            go_wp2_with fail
            go_roundw
            case rel => exact ⟨k + 1, A, c, by omega, by rw [HFT2.o], by go_num, by rw [HFT2.o]; exact HN5, HR5, by rw [HFT2.o]; exact HO5, HB5⟩
            case measure => simp [intOf]; omega
        · have hkn : k = es.length := by omega
          subst hkn; rw [List.take_length] at HN HO |-
          have xN := HN.o.cell (i := 0) (v := .slice A (zb1 xs es).1.length c) rfl; have lN := HN.o.lt; have xR := HR.o.cell (i := 0) (v := .slice none 0 0) rfl; have fR := HR.o.frozen 0; have lR2 := HR.o.lt; go_wp2_with fail
          refine bodyPost_ret (v := .tuple #[.agg #[.slice A (zb1 xs es).1.length c], .int .i64 (zb1 xs es).2, .int .i64 0]) (by simp [results, Tryz.results10, go_sem, xR]) rfl ⟨Below.setCell HB.o (by show w.heap.size <= w.heap.size + 1; omega) _, .slice A (zb1 xs es).1.length c, ?_, by rw [HQ.o.2.1, HQ.o.2.2]⟩
          rw [HQ.o.1]; exact zad (ownsRow_setCell_below HO.o (a := ⟨w.heap.size + 1, 0, none⟩) (by show w.heap.size + 1 < w.heap.size + 2; omega) _) yO
theorem zgD.lt {w : World} {lo hp : Nat} {v : Value} {es : List zam} (h : zgD w lo hp v es) : ∀ g, v.ownBlock = some g -> lo <= g /\ g < w.heap.size := by
 obtain ⟨ps, r, h1, h2, h3⟩ := h; exact fun g hg => World.ownsRow.lt h2 g hg
theorem zhr {l : List (List zaa)} {k : Nat} {x : List zaa} (h : l.length = k + 1) (hx : l[k]? = some x) : zdh l = x := by
 unfold zdh; rw [h, Nat.add_sub_cancel, yg, hx]; rfl
theorem zoK {w : World} {lo : Nat} {u : Value} {x : List zaa} {n c : Nat} {A : Option Addr} (h : zac w lo u x) (hv : ∀ g, (Value.slice A n c).ownBlock = some g -> g < lo) : ∀ g, (Value.slice A n c).ownBlock = some g -> SlS zar w (fun b => b < w.heap.size /\ b ≠ g) u x :=
 fun g hg => h.slS fun g' hg' => ⟨(World.ownsRow.lt h g' hg').2, by have := (World.ownsRow.lt h g' hg').1; have := hv g hg; omega⟩
theorem znC {xs : List zaa} {es : List zam} {count : Int} {gs : List (List zaa)} (hg : zag xs = true) (ha : es.all zat = true) (h1 : ¬ 60 < es.length) (h2 : 0 <= count) (h3 : count <= es.length) (hf : zbg xs es = some gs) :
  (∀ l, zbD gs es (es.length - count.toNat) = some l -> zdj xs es count = l /\ zbE xs es count = 0) /\ (zbD gs es (es.length - count.toNat) = none -> zdj xs es count = [] /\ zbE xs es count = 3) := by
 have hs : zpt xs es count = some (zbD gs es (es.length - count.toNat)) := by simp [zpt, hf]
 have hc : ∀ o, zbD gs es (es.length - count.toNat) = o -> zbE xs es count = (match o with | none => 3 | some _ => 0) := by
  rintro o rfl; unfold zbE; rw [hg, ha, if_pos yR, if_neg yO, hs]; cases zbD gs es (es.length - count.toNat) <;> rfl
 refine ⟨fun l hl => ?_, fun hl => ?_⟩
 · have := hc _ hl
   exact ⟨by unfold zdj; rw [if_pos this, hs, hl]; rfl, this⟩
 · have := hc _ hl
   exact zdC this (by decide)
theorem zlc {xs : List zaa} {es : List zam} {count : Int} (hg : zag xs = true) (ha : es.all zat = true) (h1 : ¬ 60 < es.length) (h2 : 0 <= count) (h3 : count <= es.length) (hf : zbg xs es = none) : zdj xs es count = [] /\ zbE xs es count = 4 := by
 refine zdC ?_ (by decide)
 unfold zbE zpt; rw [hg, ha, if_pos yR, if_neg yO, hf]; rfl
theorem zeI {gs : List (List zaa)} {es l : List zam} {i : Nat} {g : List zaa} {e : zam} (hg : gs[i]? = some g) (he : es[i]? = some e) (h : zay g e = 0) : zb9 gs es (some l) i = some (l ++ zaJ g e) := by
 have h1 : gs.getD i [] = g := by rw [yg, hg]; rfl
 have h2 : es.getD i noE = e := by rw [yg, he]; rfl
 unfold zb9; rw [h1, h2, Option.bind_some, if_pos h]
theorem ze8 {gs : List (List zaa)} {es l : List zam} {i : Nat} {g : List zaa} {e : zam} (hg : gs[i]? = some g) (he : es[i]? = some e) (h : ¬ zay g e = 0) : zb9 gs es (some l) i = none := by
 have h1 : gs.getD i [] = g := by rw [yg, hg]; rfl
 have h2 : es.getD i noE = e := by rw [yg, he]; rfl
 unfold zb9; rw [h1, h2, Option.bind_some, if_neg h]
theorem zia {xs : List zaa} {es : List zam} {gs : List (List zaa)} (h : zbg xs es = some gs) : ∀ (i : Nat) g e, gs[i]? = some g -> es[i]? = some e -> zah g e = 0 := by
 unfold zbg at h
 suffices H : ∀ (l : List zam) (a o : List (List zaa)) (n : Nat), a.length = n + 1 -> l.foldl zdi (some a) = some o -> (∀ i, i <= n -> o[i]? = a[i]?) /\ ∀ (i : Nat) g e, n <= i -> o[i]? = some g -> l[i - n]? = some e -> zah g e = 0 by
  intro i g e hg he; exact (H es _ _ 0 rfl h).2 i g e (Nat.zero_le _) hg (by simpa using he)
 intro l
 induction l with
 | nil => intro a o n ha h; simp at h; subst h; exact ⟨fun _ _ => rfl, fun i g e _ _ he => by simp at he⟩
 | cons x r ih =>
   intro a o n ha h; rw [List.foldl_cons] at h; by_cases hc : zah (zdh a) x = 0
   · rw [zcr hc] at h
     obtain ⟨k1, k2⟩ := ih _ _ (n + 1) (by simp [ha]) h; refine ⟨fun i hi => ?_, fun i g e hi hg he => ?_⟩
     · rw [k1 i yO, List.getElem?_append_left yO]
     · rcases Nat.lt_or_ge n i with hlt | hge
       · refine k2 i g e yO hg ?_
         rw [show i - n = (i - (n + 1)) + 1 by omega] at he; simpa using he
       · have hin : i = n := by omega
         subst hin; rw [k1 i yO, List.getElem?_append_left yO] at hg
         simp at he
         subst he; rw [<- zhr ha hg]; exact hc
   · rw [zcP hc, zcZ] at h; cases h
theorem zld (xs : List zaa) (e : zam) : (zaJ xs e).length <= 2 := by
 unfold zaJ; split
 · cases h : zc1 xs (zde xs) e with
   | none => simp
   | some l =>
     unfold zc1 at h
     repeat' split at h
     all_goals (try cases h)
     all_goals (try (simp; done))
     unfold zfo
     repeat' split
     all_goals simp
 · simp
theorem zhL (vG vE : Value) (xs : List zaa) (es : List zam) (count : Int) (w : World) (hG : Sl zar w w.heap.size vG xs) (hE : Sl zdB w w.heap.size vE es) (hsm : zaY xs) (hs : ∀ e ∈ es, zaY e.part /\ e.part.length <= 1048576 /\ e.map.size <= maxLen) :
  Calls Tryz.prog 8 #[.agg #[vG], vE, .int .i64 count] w (zcv (zdj xs es count) (zbE xs es count) w) := by
 have HG := yq hG; have HE := yq hE; have HS := yq hs; obtain ⟨AG, cG, rfl, _⟩ := hG; obtain ⟨AE, cE, rfl, hcE, hmE, _⟩ := hE; unfold maxLen at hmE; clear hs; have b1 := (Below.refl w.heap.size w).alloc yL (Obj.cells #[.slice AG xs.length cG] 26); have KP := Blk.new w #[.slice AG xs.length cG] 26; go_enter Tryz.func8, Tryz.ntmps8
 go_upto_region 1 with fail
 generalize (w.alloc (Obj.cells #[.slice AG xs.length cG] 26)) = w0 at *; have KB := yq b1; clear b1; have cP0_1 := Blk.cell (i := 0) (v := .slice AG xs.length cG) KP rfl; have lP_2 := Blk.lt KP; go_wp2_with fail
 refine (zaZ w.heap.size 0 _ xs _ cP0_1 (Blk.lt KP) (HG.o.up KB.o) hsm).mono ?_
 rintro e w1 ⟨rfl, hb_3⟩; have z_w1 : w0.heap.size <= w1.heap.size := hb_3.size; have KB_4 := yq (Below.tr KB.o hb_3); have KP_5 := Blk.up KP hb_3; clear cP0_1 lP_2 KB KP; cases hg : zag xs with
 | false =>
   have HQ := yq (zdC (xs := xs) (es := es) (count := count) (c := 1) (by simp [zbE, hg]) (by decide)); clear hg; go_wp2_with fail
   refine bodyPost_ret (v := .tuple #[.slice (some ⟨w1.heap.size, 0, none⟩) 0 0, .int .i64 1]) (by simp [results, Tryz.results8, go_sem]) rfl ?_
   rw [HQ.o.1, HQ.o.2]; exact zcv.mk1 (lo := w1.heap.size) (Below.alloc KB_4.o (Below.size KB_4.o) _) (za8 rfl yL) (Below.size KB_4.o)
 | true =>
   have HGG := yq hg; clear hg; go_wp2_with fail
   refine (zh8 _ es _ (HE.o.up KB_4.o) HS.o).mono ?_
   rintro e w2 ⟨rfl, hb_6⟩; have z_w2 : w1.heap.size <= w2.heap.size := hb_6.size; have KB_7 := yq (Below.tr KB_4.o hb_6); have KP_8 := Blk.up KP_5 hb_6; clear hb_3 KB_4 KP_5; cases ha : es.all zat with
   | false =>
     have HQ := yq (zdC (xs := xs) (es := es) (count := count) (c := 1) (by simp [zbE, ha]) (by decide)); clear ha; go_wp2_with fail
     refine bodyPost_ret (v := .tuple #[.slice (some ⟨w2.heap.size, 0, none⟩) 0 0, .int .i64 1]) (by simp [results, Tryz.results8, go_sem]) rfl ?_
     rw [HQ.o.1, HQ.o.2]; exact zcv.mk1 (lo := w2.heap.size) (Below.alloc KB_7.o (Below.size KB_7.o) _) (za8 rfl yL) (Below.size KB_7.o)
   | true =>
     have HAA := yq ha; clear ha; by_cases hl : 60 < es.length
     · have HQ := yq (zdC (xs := xs) (es := es) (count := count) (c := 2) (by unfold zbE; rw [HGG.o, HAA.o, if_pos yR, if_pos (Or.inl hl)]) (by decide))
       have hli : (60 : Int) < (es.length : Int) := by omega
       go_wp2_with fail
       refine bodyPost_ret (v := .tuple #[.slice (some ⟨w2.heap.size, 0, none⟩) 0 0, .int .i64 2]) (by simp [results, Tryz.results8, go_sem]) rfl ?_
       rw [HQ.o.1, HQ.o.2]; exact zcv.mk1 (lo := w2.heap.size) (Below.alloc KB_7.o (Below.size KB_7.o) _) (za8 rfl yL) (Below.size KB_7.o)
     · have hli : ¬ (60 : Int) < (es.length : Int) := by omega
       have HIN := yq (fun (W : World) => zdF count 0 (es.length : Int) W); by_cases hcn : 0 <= count /\ count <= (es.length : Int)
       · have hd : (decide (0 <= count) && decide (count <= (es.length : Int))) = true := by simp [hcn]
         have HCN := yq hcn; have HL := yq hl; clear hcn hl; go_wp2_with fail
         refine (HIN.o _).mono ?_
         rintro r wz ⟨rfl, rfl⟩; rw [hd]; clear hd; have cP0_9 := Blk.cell (i := 0) (v := .slice AG xs.length cG) KP_8 rfl; have lP_10 := Blk.lt KP_8; go_wp2_with fail
         refine (zcd w.heap.size 0 _ xs _ cP0_9 (Blk.lt KP_8) (HG.o.up KB_7.o) (by have := zax HGG.o; omega)).mono ?_
         rintro e w3 ⟨vN, rfl, ownN, hb_11⟩; have z_w3 : w2.heap.size <= w3.heap.size := hb_11.size; have KB_12 := yq (Below.tr KB_7.o hb_11); have KP_13 := Blk.up KP_8 hb_11; clear hb_6 cP0_9 lP_10 KB_7 KP_8; clear KP_13; obtain ⟨AN, cN, rfl, _⟩ := zae ownN; have hsz := Below.size KB_12.o; have KOG := yq (zk8 (lo := w.heap.size) rfl hsz (zac.sl ownN)); have KBZ := yq (Below.alloc KB_12.o hsz (Obj.cells #[.slice AN xs.length cN] 26)); clear ownN; go_wp2_with fail
         go_loopw [8, 9] (fun st i wx => ∃ (k : Nat) (gs : List (List zaa)) (g c : Nat), k <= es.length /\ i = .int .i64 k /\ st = .slice (some ⟨g, 0, none⟩) gs.length c /\ yh (zbg xs (es.take k) = some gs) /\ yh (gs.length = k + 1) /\ yh (znJ wx w.heap.size (.slice (some ⟨g, 0, none⟩) gs.length c) gs) /\ yh (Below w.heap.size w wx)) (fun _ i _ => es.length - (intOf i).toNat)
         case atStart => exact ⟨0, [xs], _, _, Nat.zero_le _, rfl, rfl, yq rfl, yq rfl, KOG, KBZ⟩
         case round =>
          obtain ⟨k, gs, g, c, hk, rfl, rfl, HF, HGL, HOG, HB⟩ := hrel; by_cases hlt : k < es.length
          · obtain ⟨_, _, hAE, _, _, hrow⟩ := HE.o.up HB.o
            injection hAE with hA1 hA2 hA3; subst hA1 hA3; obtain ⟨b, o, rfl, hbl, hcell⟩ := hrow.edit (fun _ h => h) hlt; obtain ⟨e, he⟩ : ∃ e, es[k]? = some e := ⟨_, ye hlt⟩
            obtain ⟨vR, hec, hR⟩ := hcell k e he; have heok := List.all_eq_true.1 HAA.o e (List.mem_of_getElem? he); obtain ⟨x, hx⟩ : ∃ x, gs[k]? = some x := ⟨_, ye (by have := HGL.o; omega)⟩
            have hxo := zdS HGG.o HF.o x (List.mem_of_getElem? hx); have htop := zhr HGL.o hx; obtain ⟨g', c', u, hv, hg1, hg2, hg3, hg4, hcu, hsu⟩ := HOG.o.at_ hx; injection hv with hv1 hv2 hv3; injection hv1 with hv1; injection hv1 with hv1; subst hv1 hv3; have HFT := yq (zeG (xs := xs) he); rw [HF.o] at HFT; have HTP := yq htop; have HEC := yq hec; have HRR := yq hR; have HEO := yq heok; have HXO := yq hxo; have HCU := yq (show C1 wr ⟨g, k, none⟩ u from ⟨hcu, hg2⟩); have HSU := yq hsu; have hbz := HB.o.size; have hi : (k : Int) < (es.length : Int) := by omega
            have hk1 : (k : Int) < (gs.length : Int) := by have := HGL.o; omega
            unfold maxLen at hg4; clear hcell he hec hR heok hx hxo htop hcu hsu; go_upto_region 9 with fail
            go_cut [10, 11] (fun p q wx => ∃ (Z : Nat) (A9 : Option Addr) (c9 : Nat), p = .pointer (some ⟨Z, 0, none⟩) /\ q = .int .i64 (zah x e) /\ wr.heap.size <= Z /\ Below wr.heap.size wr wx /\ Blk wx Z #[.slice A9 (zak x e).length c9] 26 /\ zac wx wr.heap.size (.slice A9 (zak x e).length c9) (zak x e))
            case first =>
             have B0 := Below.drew (Below.refl wr.heap.size wr); have BA := yq (fun (o : Obj) => Below.drew (Below.alloc (Below.refl wr.heap.size wr) yL o))
             go_region_held3 (fun w' => Below wr.heap.size wr w')
              (first | (with_reducible exact B0) | (with_reducible exact (BA.o _)) | (with_reducible exact b1) | (with_reducible exact (b1.alloc z1 _)) | (with_reducible exact ((b1.alloc z1 _).setCell z1 _)) | (with_reducible exact (b1.setCell yL _)) | (with_reducible exact ((BA.o _).setCell yL _)))
              (first
                | (go_at_call 23; (refine (zds g k b (o + k * 6) _ _ x e _ (HCU.o.up yb) (HEC.o.up yb) (HSU.o.up yb) (HRR.o.up yb) HXO.o HEO.o).mono ?_); rintro r u1 ⟨hb1, v1, own1, rfl⟩; obtain ⟨A9, c9, rfl, _⟩ := zae own1; have b1 : Below wr.heap.size wr u1 := (by first | exact Below.undrew hb1 | exact (Below.unalloc (Below.undrew hb1)).1); have z1 := b1.size; (try (have KZ : Blk u1 wr.heap.size #[.slice none 0 0] 26 := (Below.unalloc (Below.undrew hb1)).2; have l1 := Blk.lt KZ; have kz := Blk.cell (i := 0) (v := .slice none 0 0) KZ rfl; have fz := Blk.frozen KZ 0))))
             all_goals
              go_wp2_with fail
              go_meet
              have own5 : zac u1 wr.heap.size _ _ := zad own1 (base' := wr.heap.size) (by first | omega | (simp; omega) | simp)
              first
               | exact ⟨u1.heap.size, A9, c9, rfl, rfl, z1, b1.alloc z1 _, Blk.new _ _ _, World.ownsRow.alloc own5 _⟩
               | exact ⟨wr.heap.size, A9, c9, rfl, rfl, Nat.le_refl _, b1.setCell (show wr.heap.size <= (⟨wr.heap.size, 0, none⟩ : Addr).block from Nat.le_refl _) _, KZ.set 0 _, zad (ownsRow_setCell_below own1 (a := ⟨wr.heap.size, 0, none⟩) (by first | (show _ < _; omega) | (simp; done) | (simp; omega)) _) (by first | omega | (simp; omega) | simp)⟩
            case rest =>
             obtain ⟨Z, A4, c4, rfl, rfl, hZl, hbR, KZ, own4⟩ := hcut; have HOG4 := yq (HOG.o.up hbR); have HB4 := yq (Below.tr HB.o hbR); have HO4 := yq own4; have z4 := hbR.size; have lZ := Blk.lt KZ; have kz := Blk.cell (i := 0) (v := .slice A4 (zak x e).length c4) KZ rfl; clear own4 hbR HOG KZ; revert HOG4 HB4 HO4 z4 lZ kz; generalize wc = w4; intro HOG4 HB4 HO4 z4 lZ kz; by_cases hc : zah x e = 0
             · have HFT2 := yq (show zbg xs (es.take (k + 1)) = some (gs ++ [zak x e]) by rw [HFT.o, zcr (by rw [HTP.o]; exact hc), HTP.o])
               rw [hc]; clear hc; have HGL2 := yq (show (gs ++ [zak x e]).length = k + 1 + 1 by simp [HGL.o]); have HSF := yq (zoK (A := some ⟨g, 0, none⟩) (n := gs.length) (c := c) HO4.o (fun g' hg' => by simp [Value.ownBlock] at hg'; omega)); have hkl : k <= 60 := by have := HL.o; omega
               go_wp2_with (first | (at_builtin; refine zns (W := w4) (N := w4.heap.size) (u := .slice A4 (zak x e).length c4) (y := zak x e) (lo := w.heap.size) (v := .slice (some ⟨g, 0, none⟩) gs.length c) (gs := gs) rfl _ _ rfl rfl rfl rfl HOG4.o (by have := HGL.o; omega) yO (zac.sl HO4.o) HSF.o ?_; intro g5 c5 w5 own5 hg5 hgr5 hb5))
               go_roundw
               case rel => exact ⟨k + 1, gs ++ [zak x e], g5, c5, by omega, by go_num, by simp, HFT2, HGL2, yq (by rw [List.length_append]; exact own5), yq (HB4.o.trans hb5)⟩
               case measure => simp [intOf]; omega
             · have HFT2 := yq (zeH (es := es) (k := k + 1) (show zbg xs (es.take (k + 1)) = none by rw [HFT.o, zcP (by rw [HTP.o]; exact hc)]))
               have hcb : (zah x e != 0) = true := by simp [hc]
               have HQ := yq (zlc (count := count) HGG.o HAA.o HL.o HCN.o.1 HCN.o.2 HFT2.o); go_wp2_with fail
               refine bodyPost_ret (v := .tuple #[.slice (some ⟨w4.heap.size, 0, none⟩) 0 0, .int .i64 4]) (by simp [results, Tryz.results8, go_sem]) rfl ?_
               rw [HQ.o.1, HQ.o.2]; exact zcv.mk1 (lo := w4.heap.size) (Below.alloc HB4.o (Below.size HB4.o) _) (za8 rfl yL) (Below.size HB4.o)
          · have hkn : k = es.length := by omega
            subst hkn; rw [List.take_length] at HF; have HUS := yq (znC (count := count) HGG.o HAA.o HL.o HCN.o.1 HCN.o.2 HF.o); have HAT := yq (zia HF.o); have HXO := yq (zdS HGG.o HF.o); obtain ⟨wo, rfl⟩ : ∃ wo : World, wo = wr := ⟨_, rfl⟩
            have hbz := HB.o.size; have KE := yq (zch (W := wo) (lo := wo.heap.size) rfl yL); have bo := (Below.refl wo.heap.size wo).alloc yL (Obj.cells #[] 37); have HBO := yq bo; clear bo; obtain ⟨c0, c1⟩ := HCN.o; have HCN2 := HCN; clear HCN; have wle : IntKind.i64.wrap ((es.length : Int) - 1) = (es.length : Int) - 1 := IntWalk.i64_in _ yO; go_wp2_with fail
            go_loopw [12, 13] (fun ot i wx => ∃ (n m : Nat) (l : List zam) (A : Option Addr) (c hp : Nat), n + m = es.length /\ (n : Int) + count <= es.length /\ i = .int .i64 ((m : Int) - 1) /\ ot = .slice A l.length c /\ yh (zbD gs es n = some l) /\ yh (l.length <= 2 * n) /\ yh (zgD wx wo.heap.size hp (.slice A l.length c) l) /\ yh (wo.heap.size <= hp /\ hp <= wx.heap.size) /\ yh (Below wo.heap.size wo wx)) (fun _ i _ => (intOf i + 1).toNat)
            case atStart => exact ⟨0, es.length, [], _, _, wo.heap.size, by omega, by omega, rfl, rfl, yq rfl, yq yS, KE, yq ⟨Nat.le_refl _, by simp⟩, HBO⟩
            case round =>
             obtain ⟨n, m, l, A, c, hp, hnm, hnc, rfl, rfl, HU, HLL, HOE, HHP, HBX⟩ := hrel; by_cases hcm : count <= (m : Int) - 1
             · obtain ⟨m, rfl⟩ : ∃ m', m = m' + 1 := ⟨m - 1, by omega⟩
               have hm0 : ((m + 1 : Nat) : Int) - 1 = (m : Int) := by omega
               rw [hm0] at hcm |-
               clear hm0; have hlt : m < es.length := by omega
               obtain ⟨_, _, hAE, _, _, hrow⟩ := HE.o.up (HB.o.trans (HBX.o.mono hbz)); injection hAE with hA1 hA2 hA3; subst hA1 hA3; obtain ⟨b, o, rfl, hbl, hcell⟩ := hrow.edit (fun _ h => h) hlt; obtain ⟨e, he⟩ : ∃ e, es[m]? = some e := ⟨_, ye hlt⟩
               obtain ⟨vR, hec, hR⟩ := hcell m e he; have heok := List.all_eq_true.1 HAA.o e (List.mem_of_getElem? he); have hsmE := (HS.o e (List.mem_of_getElem? he)).1; obtain ⟨x, hx⟩ : ∃ x, gs[m]? = some x := ⟨_, ye (by have := HGL.o; omega)⟩
               have hxo := HXO.o x (List.mem_of_getElem? hx); obtain ⟨g', c', u, hv, hg1, hg2, hg3, hg4, hcu, hsu⟩ := (HOG.o.up HBX.o).at_ hx; injection hv with hv1 hv2 hv3; injection hv1 with hv1; injection hv1 with hv1; subst hv1 hv3; have hac := HAT.o m x e hx he; have HAC := yq hac; have HY := yq (fun h => zeI (l := l) hx he h); have HN := yq (fun h => ze8 (l := l) hx he h); have HEC := yq hec; have HRR := yq hR; have HEO := yq heok; have HXO2 := yq hxo; have HCU := yq (show C1 wr ⟨g, m, none⟩ u from ⟨hcu, hg2⟩); have HSU := yq hsu; have hi : (m : Int) < (es.length : Int) := by omega
               have hi2 : (m : Int) < (gs.length : Int) := by have := HGL.o; omega
               have hbx := HBX.o.size; unfold maxLen at hg4; clear hcell he hec hR heok hx hxo hcu hsu hac; go_upto_region 17 with fail
               have B0 := Below.drew (Below.refl wr.heap.size wr)
               go_region_held3 (fun w' => Below wr.heap.size wr w')
                (first | (with_reducible exact B0) | (with_reducible exact b6))
                (first | (go_at_call 24; (refine (zhJ g m b (o + m * 6) _ _ x e _ (HCU.o.up yb) (HEC.o.up yb) (HSU.o.up yb) (HRR.o.up yb) HXO2.o HEO.o hsmE).mono ?_); rintro r w6 ⟨hb6', v6, rfl, own6'⟩; have b6 := Below.undrew hb6'))
               have hb6 := b6; have own6 : zh6 w6 wr.heap.size w6.heap.size v6 (zaJ x e) := own6'; clear b6 hb6' own6' B0; obtain ⟨A6, c6, rfl, _⟩ := zh6.sl own6; have HOE6 := yq (HOE.o.keep hb6 HHP.o.2); have HB6 := yq (HBX.o.trans (hb6.mono hbx)); have HO6 := yq own6; have z6 := hb6.size; have HFR := yq (fun g hg => (HOE.o.lt g hg).2); clear hb6 own6; have hle : es.length - 1 - n = m := by omega
               by_cases hc : zay x e = 0
               · have HU2 := yq (show zbD gs es (n + 1) = some (l ++ zaJ x e) by rw [zca, HU.o, hle]; exact HY.o hc)
                 rw [hc]; clear hc; have hsm2 := (zld x e)
                 have HLL2 := yq (show (l ++ zaJ x e).length <= 2 * (n + 1) by have := HLL.o; rw [List.length_append]; omega); have HSM2 := yq hsm2; clear hsm2 hle; go_wp2_with (first | (at_builtin; refine zgq (W := w6) (lo := wo.heap.size) (hp := hp) (lo2 := wr.heap.size) (hi2 := w6.heap.size) (v := .slice A l.length c) (v2 := .slice A6 (zaJ x e).length c6) (es := l) (es2 := zaJ x e) rfl _ _ rfl rfl rfl HOE6.o HO6.o (by have := HLL.o; have := HSM2.o; omega) yO (by have := HHP.o; omega) HFR.o HHP.o.1 z6 yL ?_; intro A7 c7 w7 own7 hg7 hgr7 hb7))
                 rw [<- List.length_append] at own7 |-
                 have hw7 := hgr7.size; go_roundw
                 case rel => exact ⟨n + 1, m, l ++ zaJ x e, A7, c7, w6.heap.size, by omega, by omega, by go_num, rfl, HU2, HLL2, yq own7, yq ⟨by omega, hw7⟩, yq (HB6.o.trans hb7)⟩
                 case measure => first | (simp [intOf]; done) | (simp [intOf]; omega)
               · have hc3 : zay x e = 3 := by rcases zh9 HAC.o with h | h; exact absurd h hc; exact h
                 have HU2 := yq (HUS.o.2 (zgp (k := n + 1) (by rw [zca, HU.o, hle]; exact HN.o hc) _ yO)); have hcb : (zay x e != 0) = true := by simp [hc]
                 go_wp2_with fail
                 refine bodyPost_ret (v := .tuple #[.slice (some ⟨w6.heap.size, 0, none⟩) 0 0, .int .i64 3]) (by simp [results, Tryz.results8, go_sem]) rfl ?_
                 rw [HU2.o.1, HU2.o.2]; have HB7 : Below w.heap.size w w6 := HB.o.trans (HB6.o.mono hbz); exact zcv.mk1 (lo := w6.heap.size) (Below.alloc HB7 HB7.size _) (za8 rfl yL) HB7.size
             · have hnn : es.length - count.toNat = n := by omega
               have HQ := yq (HUS.o.1 l (by rw [hnn]; exact HU.o)); clear hnn; go_wp2_with fail
               refine bodyPost_ret (v := .tuple #[.slice A l.length c, .int .i64 0]) (by simp [results, Tryz.results8, go_sem]) rfl ?_
               rw [HQ.o.1, HQ.o.2]; exact zcv.mk1 (lo := wo.heap.size) (HB.o.trans (HBX.o.mono hbz)) (HOE.o.oeds HHP.o.2) hbz
       · have hd : (decide (0 <= count) && decide (count <= (es.length : Int))) = false := by rw [<- Bool.not_eq_true]; simp; omega
         have HQ := yq (zdC (xs := xs) (es := es) (count := count) (c := 2) (by unfold zbE; rw [HGG.o, HAA.o, if_pos yR, if_pos yO]) (by decide)); clear hcn; go_wp2_with fail
         refine (HIN.o _).mono ?_
         rintro r wz ⟨rfl, rfl⟩; rw [hd]; go_wp2_with fail
         refine bodyPost_ret (v := .tuple #[.slice (some ⟨w2.heap.size, 0, none⟩) 0 0, .int .i64 2]) (by simp [results, Tryz.results8, go_sem]) rfl ?_
         rw [HQ.o.1, HQ.o.2]; exact zcv.mk1 (lo := w2.heap.size) (Below.alloc KB_7.o (Below.size KB_7.o) _) (za8 rfl yL) (Below.size KB_7.o)
end Go.Proofs.YtejgbfgocaggfaaGreatDoor
