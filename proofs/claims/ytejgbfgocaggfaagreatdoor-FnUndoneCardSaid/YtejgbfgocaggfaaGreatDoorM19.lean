import Derived.Test.YtejgbfgocaggfaaGreatDoorM18
set_option maxRecDepth 100000
set_option maxHeartbeats 8000000
namespace Go.Proofs.YtejgbfgocaggfaaGreatDoor
open Go.RowKit
structure EdJ (w0 : World) (E R K b : Nat) (e : zam) (vR : Value) (xs : List zaa) (ls : List Int) (s : Option (List zaa)) (W : World) : Prop where
 bel : Below w0.heap.size w0 W
 hE : Blk W E (zbK e vR) 37
 hR : Blk W R #[.slice none 0 0] 26
 hK : Blk W K #[.pointer (some ⟨b, 0, none⟩)] 135
 asm : Asm W b xs ls s
 neE : E ≠ b
 neR : R ≠ b
 neK : K ≠ b
 le : w0.heap.size <= b
 ltR : w0.heap.size <= R
 neKR : K ≠ R
theorem EdJ.next {w0 W W' : World} {E R K b : Nat} {e : zam} {vR : Value} {xs : List zaa} {ls : List Int} {s s' : Option (List zaa)} (h : EdJ w0 E R K b e vR xs ls s W) (hb : But b W W') (ha : Asm W' b xs ls s') : EdJ w0 E R K b e vR xs ls s' W' :=
 ⟨h.bel.trans (hb.below h.le h.bel.size), h.hE.but hb h.neE, h.hR.but hb h.neR, h.hK.but hb h.neK, ha, h.neE, h.neR, h.neK, h.le, h.ltR, h.neKR⟩
def za0 (xs : List zaa) (ls : List Int) (n : Int) (e : zam) : Option (List zaa) :=
 if e.kind = 1 then zbC (zbC (zbC (some []) (zbt (zap xs ls 0 e.i))) (some e.part)) (zbt (zap xs ls e.i n))
 else if e.kind = 2 then zbC (zbC (some []) (zbt (zap xs ls 0 e.i))) (zbt (zap xs ls e.j n))
 else if e.kind = 3 then zbC (zbC (zbC (some []) (zbt (zap xs ls 0 e.k))) (zbt (zap xs ls e.i e.j))) (zbt (zap xs ls e.k n))
 else if e.kind = 4 then
  if e.k <= e.i then zbC (zbC (zbC (zbC (some []) (zbt (zap xs ls 0 e.k))) (zbt (zap xs ls e.i e.j))) (zbt (zap xs ls e.k e.i))) (zbt (zap xs ls e.j n))
  else zbC (zbC (zbC (zbC (some []) (zbt (zap xs ls 0 e.i))) (zbt (zap xs ls e.j e.k))) (zbt (zap xs ls e.i e.j))) (zbt (zap xs ls e.k n))
 else zbC (zbC (zbC (some []) (zbt (zap xs ls 0 e.i))) ((zbt (zap xs ls e.i e.j)).bind (zed e))) (zbt (zap xs ls e.j n))
def ziQ (s : Option (List zaa)) : List zaa := match s with | some o => zaQ o | none => []
def zhc (s : Option (List zaa)) : Int := match s with | some _ => 0 | none => 3
def znj (e : zam) : Prop := e.kind = 1 \/ e.kind = 2 \/ e.kind = 3 \/ e.kind = 4 \/ zjF e
theorem zjG {W : World} {b : Nat} {vG vL : Value} {xs : List zaa} {ls : List Int} (h : Blk W b #[vG, vL, .slice none 0 0, .int .i64 0] 137) (hg : Sl zar W b vG xs) (hl : Sl zgt W b vL ls) : Asm W b xs ls (some []) :=
 ⟨vG, vL, .slice none 0 0, [], 0, h, hg, hl, World.ownsRow_nil _ _ _ _, .inl ⟨rfl, rfl, rfl⟩, rfl⟩
theorem zlP {w w1 : World} {E R : Nat} {e : zam} {vR vG vL : Value} {xs : List zaa} {ls : List Int} (hb : Below w.heap.size w w1) (hE : Blk w1 E (zbK e vR) 37) (hR : Blk w1 R #[.slice none 0 0] 26)
  (hg : Sl zar w1 w1.heap.size vG xs) (hl : Sl zgt w1 w1.heap.size vL ls) (hr : w.heap.size <= R) :
  EdJ w E R (w1.heap.size + 1) w1.heap.size e vR xs ls (some []) ((w1.alloc (.cells #[vG, vL, .slice none 0 0, .int .i64 0] 137)).alloc (.cells #[.pointer (some ⟨w1.heap.size, 0, none⟩)] 135)).drew := by
 have h1 := hE.lt; have h2 := hR.lt; have h3 := hb.size; have h4 : Blk (w1.alloc (.cells #[vG, vL, .slice none 0 0, .int .i64 0] 137)) w1.heap.size _ _ := Blk.new _ _ _; refine ⟨((hb.alloc h3 _).alloc (by simp; omega) _).drew, (hE.alloc _).alloc _, (hR.alloc _).alloc _, ?_, zjG (h4.alloc _) ?_ ?_, by omega, by omega, by omega, h3, hr, by omega⟩
 · have := Blk.new (w1.alloc (.cells #[vG, vL, .slice none 0 0, .int .i64 0] 137)) #[.pointer (some ⟨w1.heap.size, 0, none⟩)] 135
   exact Blk.drew (by simpa [Blk] using this)
 · exact hg.below (((Below.refl _ _).alloc yL _).alloc yS _).drew
 · exact hl.below (((Below.refl _ _).alloc yL _).alloc yS _).drew
theorem zlQ {w w1 : World} {E R : Nat} {e : zam} {vR vG vL : Value} {xs : List zaa} {ls : List Int} (hb : Below w.heap.size w w1) (hE : Blk w1 E (zbK e vR) 37) (hR : Blk w1 R #[.slice none 0 0] 26)
  (hg : Sl zar w1 w1.heap.size vG xs) (hl : Sl zgt w1 w1.heap.size vL ls) (hr : w.heap.size <= R) :
  EdJ w E R w1.heap.size (w1.heap.size + 1) e vR xs ls (some []) ((w1.alloc (.cells #[.pointer (some ⟨w1.heap.size + 1, 0, none⟩)] 135)).alloc (.cells #[vG, vL, .slice none 0 0, .int .i64 0] 137)).drew := by
 have h1 := hE.lt; have h2 := hR.lt; have h3 := hb.size; have h4 : Blk (w1.alloc (.cells #[.pointer (some ⟨w1.heap.size + 1, 0, none⟩)] 135)) w1.heap.size _ _ := Blk.new _ _ _; have hbz := (((Below.refl w1.heap.size w1).alloc yL (.cells #[.pointer (some ⟨w1.heap.size + 1, 0, none⟩)] 135)).alloc yS (.cells #[vG, vL, .slice none 0 0, .int .i64 0] 137)).drew; refine ⟨((hb.alloc h3 _).alloc (by simp; omega) _).drew, (hE.alloc _).alloc _, (hR.alloc _).alloc _, h4.alloc _, zjG ?_ ((hg.below hbz).le yO) ((hl.below hbz).le yO), by omega, by omega, by omega, by omega, hr, by omega⟩
 have := Blk.new (w1.alloc (.cells #[.pointer (some ⟨w1.heap.size + 1, 0, none⟩)] 135)) #[vG, vL, .slice none 0 0, .int .i64 0] 137; exact Blk.drew (by simpa [Blk] using this)
theorem zlR (vG vR : Value) (xs : List zaa) (ls : List Int) (e : zam) (w : World) (hG : Sl zar w w.heap.size vG xs) (hR : Sl zar w w.heap.size vR e.part) (hl : zaW xs = some ls) (hn : xs.length <= 1048576) (hk : znj e) (hp : zag e.part = true) (htab : Lib.TabIs Tryz.prog w "math/bits.deBruijn64tab" .u8 zfc) :
  Calls Tryz.prog 64 #[.agg #[vG], .agg (zbK e vR)] w (zl8 (ziQ (za0 xs ls (zao ls) e)) (zhc (za0 xs ls (zao ls) e)) w) := by
 have HG := yq hG; have HR := yq hR; have HL := yq hl; have HK := yq hk; have HP := yq hp; have HT := yq htab; obtain ⟨AG, cG, rfl, _⟩ := hG; obtain ⟨AR, cR, rfl, _⟩ := hR; clear hl hk hp htab; unfold zbK; go_enter Tryz.func64, Tryz.ntmps64
 go_wp2_with fail
 refine (zcE _ xs _ (HG.o.up yb) yO).mono ?_
 rintro e1 w1 ⟨hb, (⟨ls', v1, h1, rfl, h2⟩ | ⟨h1, rfl⟩)⟩
 case inr => rw [HL.o] at h1; cases h1
 have h3 : ls' = ls := by rw [HL.o] at h1; exact (Option.some.inj h1).symm
 subst h3; obtain ⟨hb1, K2⟩ := Below.unalloc hb; obtain ⟨hb2, K1⟩ := Below.unalloc hb1; obtain ⟨hb3, K0⟩ := Below.unalloc hb2; have KP : Blk w1 w.heap.size #[.slice AG xs.length cG] 26 := K0; have KE : Blk w1 (w.heap.size + 1) (zbK e (.slice AR e.part.length cR)) 37 := by simpa [Blk, zbK] using K1
 have KR : Blk w1 (w.heap.size + 2) #[.slice none 0 0] 26 := by simpa [Blk] using K2
 have HL1 := yq (zan.sl h2); have HB := yq hb3; have HE1 := yq KE; have HR1 := yq KR; obtain ⟨AL, cL, rfl, _⟩ := zan.sl h2; have HI := yq h2; clear hb hb1 hb2 hb3 K0 K1 K2 KE KR h1 h2; have cP := KP.cell (i := 0) (v := .slice AG xs.length cG) rfl; have lP := KP.lt; have lR1 := HR1.o.lt; go_wp2_with fail
 go_cut [8, 9] (fun s8 s9 wx => ∃ K b : Nat, s8 = .int .i64 (zao ls') /\ s9 = .pointer (some ⟨K, 0, none⟩) /\ EdJ w (w.heap.size + 1) (w.heap.size + 2) K b e (.slice AR e.part.length cR) xs ls' (some []) wx)
 case first =>
  go_region_law (go_simp; go_at_call 96; (refine (zdX _ ls' _ ?_).mono ?_); (first | (exact HL1.o.up yb) | skip); rintro e2 w2 ⟨rfl, rfl⟩)
  all_goals
   go_wp2_with fail
   go_meet
   first
    | exact ⟨_, _, rfl, rfl, zlP HB.o HE1.o HR1.o (HG.o.up HB.o) HL1.o yO⟩
    | exact ⟨_, _, rfl, rfl, zlQ HB.o HE1.o HR1.o (HG.o.up HB.o) HL1.o yO⟩
 -- GEN
 case rest =>
  obtain ⟨K, b, rfl, rfl, hj⟩ := hcut; have HJ1 := yq hj; clear hj cP lP lR1 KP HE1 HR1 HL1 HI HB; rcases HK.o with hk | hk | hk | hk | hkk
  · have x0 := HJ1.o.hE.cell (i := 0) (v := .int .i64 1) (by rw [<- hk]; rfl)
    have HKE := yq hk; clear hk; have aK := HJ1.o.hK.cell (i := 0) (v := .pointer (some ⟨b, 0, none⟩)) rfl; have aE1 := HJ1.o.hE.cell (i := 1) (v := .int .i64 e.i) rfl; have aB := HJ1.o.asm.lt; have aE := HJ1.o.hE.lt; have aKl := HJ1.o.hK.lt; go_wp2_with fail
    refine (zaN b xs ls' _ 0 (e.i) _ HJ1.o.asm HL.o hn).mono ?_
    rintro e6 w6 ⟨rfl, hb1, ha1⟩; have HJ2 := yq (HJ1.o.next hb1 ha1); clear aK aB aE aKl aE1 hb1 ha1 HJ1; have aK := HJ2.o.hK.cell (i := 0) (v := .pointer (some ⟨b, 0, none⟩)) rfl; have aE4 := HJ2.o.hE.cell (i := 4) (v := .slice AR e.part.length cR) rfl; have aB := HJ2.o.asm.lt; go_wp2_with fail
    refine (zeT b xs ls' _ (some e.part) (.slice AR e.part.length cR) e.part 0 _ HJ2.o.asm (zpA (HR.o.below HJ2.o.bel) HJ2.o.le aB) (.inl ⟨rfl, rfl, HP.o⟩)).mono ?_
    rintro e7 w7 ⟨rfl, hb2, ha2⟩; have HJ3 := yq (HJ2.o.next hb2 ha2); clear aK aE4 aB hb2 ha2 HJ2; have aK := HJ3.o.hK.cell (i := 0) (v := .pointer (some ⟨b, 0, none⟩)) rfl; have aE1 := HJ3.o.hE.cell (i := 1) (v := .int .i64 e.i) rfl; have aB := HJ3.o.asm.lt; have aE := HJ3.o.hE.lt; have aKl := HJ3.o.hK.lt; go_wp2_with fail
    refine (zaN b xs ls' _ e.i (zao ls') _ HJ3.o.asm HL.o hn).mono ?_
    rintro e8 w8 ⟨rfl, hb3, ha3⟩; have HJ4 := yq (HJ3.o.next hb3 ha3); clear aK aB aE aKl aE1 hb3 ha3 HJ3; have hQ : za0 xs ls' (zao ls') e = zbC (zbC (zbC (some []) (zbt (zap xs ls' 0 (e.i)))) (some e.part)) (zbt (zap xs ls' e.i (zao ls'))) := by unfold za0; rw [if_pos HKE.o]
    have HQ := yq hQ; clear hQ; obtain ⟨vG9, vL9, vO, out, c9, hB9, hG9, hL9, hO9, hs9, hok9⟩ := HJ4.o.asm; obtain ⟨AO, kO, rfl, _⟩ := zae hO9; have aK := HJ4.o.hK.cell (i := 0) (v := .pointer (some ⟨b, 0, none⟩)) rfl; have aR := HJ4.o.hR.cell (i := 0) (v := .slice none 0 0) rfl; have aRf := HJ4.o.hR.frozen 0; have aRl := HJ4.o.hR.lt; have HO9 := yq hO9; have HBE := yq HJ4.o.bel; have HRR := yq HJ4.o.hR; have hle := HJ4.o.le; have HOK := yq hok9; have aBl := hB9.lt; have nKR : K ≠ w.heap.size + 1 + 1 := HJ4.o.neKR; have nbR : b ≠ w.heap.size + 1 + 1 := fun h => HJ4.o.neR h.symm; clear hG9 hL9 hO9; rcases hs9 with ⟨hs, rfl, _⟩ | ⟨hs, rfl⟩
    · have HS := yq hs
      have a2 := hB9.cell (i := 2) (v := .slice AO out.length kO) rfl; have a3 := hB9.cell (i := 3) (v := .int .i64 0) rfl; clear hs hB9 hok9 HJ4; go_wp2_with fail
      refine (zbz _ out _ HO9.o.sl (by have := zax HOK.o; omega) (zaz (zai HOK.o).2.choose_spec)).mono ?_
      rintro e10 w10 ⟨hb10, v10, own10, rfl⟩; have HR10 := yq (HRR.o.up hb10); have HB10 := yq (Below.tr HBE.o hb10); have HO10 := yq own10; obtain ⟨A10, k10, rfl, _⟩ := zae own10; have b0 := HR10.o.cell (i := 0) (v := .slice none 0 0) rfl; have b1 := HR10.o.frozen 0; have b2 := HR10.o.lt; have hzz := HBE.o.size; clear hb10 own10 a2 a3 aK aR aRf; go_wp2_with fail
      refine bodyPost_ret (v := .tuple #[.agg #[.slice A10 (zaQ out).length k10], .int .i64 0]) (by simp [results, Tryz.results64, go_sem, b0]) rfl ⟨HB10.o.setCell (by show w.heap.size <= w.heap.size + 2; omega) _, .slice A10 (zaQ out).length k10, ?_, by rw [HQ.o, HS.o]; rfl⟩
      rw [HQ.o, HS.o]; exact zad (ownsRow_setCell_below HO10.o (a := ⟨w.heap.size + 2, 0, none⟩) aRl _) hzz
    · have HS := yq hs
      have a3 := hB9.cell (i := 3) (v := .int .i64 3) rfl; clear hs hB9 hok9 HJ4; go_wp2_with fail
      go_region
      all_goals
       go_wp2_with fail
       refine bodyPost_ret (v := .tuple #[.agg #[.slice none 0 0], .int .i64 3]) (by simp [results, Tryz.results64, go_sem, aR]) rfl ⟨(HBE.o.drew).setCell (by show w.heap.size <= w.heap.size + 2; omega) _, .slice none 0 0, ?_, by rw [HQ.o, HS.o]; rfl⟩
       rw [HQ.o, HS.o]; exact World.ownsRow_nil _ _ _ _
  · have x0 := HJ1.o.hE.cell (i := 0) (v := .int .i64 2) (by rw [<- hk]; rfl)
    have HKE := yq hk; clear hk; have aK := HJ1.o.hK.cell (i := 0) (v := .pointer (some ⟨b, 0, none⟩)) rfl; have aE1 := HJ1.o.hE.cell (i := 1) (v := .int .i64 e.i) rfl; have aB := HJ1.o.asm.lt; have aE := HJ1.o.hE.lt; have aKl := HJ1.o.hK.lt; go_wp2_with fail
    refine (zaN b xs ls' _ 0 (e.i) _ HJ1.o.asm HL.o hn).mono ?_
    rintro e6 w6 ⟨rfl, hb1, ha1⟩; have HJ2 := yq (HJ1.o.next hb1 ha1); clear aK aB aE aKl aE1 hb1 ha1 HJ1; have aK := HJ2.o.hK.cell (i := 0) (v := .pointer (some ⟨b, 0, none⟩)) rfl; have aE2 := HJ2.o.hE.cell (i := 2) (v := .int .i64 e.j) rfl; have aB := HJ2.o.asm.lt; have aE := HJ2.o.hE.lt; have aKl := HJ2.o.hK.lt; go_wp2_with fail
    refine (zaN b xs ls' _ e.j (zao ls') _ HJ2.o.asm HL.o hn).mono ?_
    rintro e7 w7 ⟨rfl, hb2, ha2⟩; have HJ3 := yq (HJ2.o.next hb2 ha2); clear aK aB aE aKl aE2 hb2 ha2 HJ2; have hQ : za0 xs ls' (zao ls') e = zbC (zbC (some []) (zbt (zap xs ls' 0 (e.i)))) (zbt (zap xs ls' e.j (zao ls'))) := by unfold za0; rw [if_neg (by rw [HKE.o]; decide), if_pos HKE.o]
    have HQ := yq hQ; clear hQ; obtain ⟨vG9, vL9, vO, out, c9, hB9, hG9, hL9, hO9, hs9, hok9⟩ := HJ3.o.asm; obtain ⟨AO, kO, rfl, _⟩ := zae hO9; have aK := HJ3.o.hK.cell (i := 0) (v := .pointer (some ⟨b, 0, none⟩)) rfl; have aR := HJ3.o.hR.cell (i := 0) (v := .slice none 0 0) rfl; have aRf := HJ3.o.hR.frozen 0; have aRl := HJ3.o.hR.lt; have HO9 := yq hO9; have HBE := yq HJ3.o.bel; have HRR := yq HJ3.o.hR; have hle := HJ3.o.le; have HOK := yq hok9; have aBl := hB9.lt; have nKR : K ≠ w.heap.size + 1 + 1 := HJ3.o.neKR; have nbR : b ≠ w.heap.size + 1 + 1 := fun h => HJ3.o.neR h.symm; clear hG9 hL9 hO9; rcases hs9 with ⟨hs, rfl, _⟩ | ⟨hs, rfl⟩
    · have HS := yq hs
      have a2 := hB9.cell (i := 2) (v := .slice AO out.length kO) rfl; have a3 := hB9.cell (i := 3) (v := .int .i64 0) rfl; clear hs hB9 hok9 HJ3; go_wp2_with fail
      refine (zbz _ out _ HO9.o.sl (by have := zax HOK.o; omega) (zaz (zai HOK.o).2.choose_spec)).mono ?_
      rintro e10 w10 ⟨hb10, v10, own10, rfl⟩; have HR10 := yq (HRR.o.up hb10); have HB10 := yq (Below.tr HBE.o hb10); have HO10 := yq own10; obtain ⟨A10, k10, rfl, _⟩ := zae own10; have b0 := HR10.o.cell (i := 0) (v := .slice none 0 0) rfl; have b1 := HR10.o.frozen 0; have b2 := HR10.o.lt; have hzz := HBE.o.size; clear hb10 own10 a2 a3 aK aR aRf; go_wp2_with fail
      refine bodyPost_ret (v := .tuple #[.agg #[.slice A10 (zaQ out).length k10], .int .i64 0]) (by simp [results, Tryz.results64, go_sem, b0]) rfl ⟨HB10.o.setCell (by show w.heap.size <= w.heap.size + 2; omega) _, .slice A10 (zaQ out).length k10, ?_, by rw [HQ.o, HS.o]; rfl⟩
      rw [HQ.o, HS.o]; exact zad (ownsRow_setCell_below HO10.o (a := ⟨w.heap.size + 2, 0, none⟩) aRl _) hzz
    · have HS := yq hs
      have a3 := hB9.cell (i := 3) (v := .int .i64 3) rfl; clear hs hB9 hok9 HJ3; go_wp2_with fail
      go_region
      all_goals
       go_wp2_with fail
       refine bodyPost_ret (v := .tuple #[.agg #[.slice none 0 0], .int .i64 3]) (by simp [results, Tryz.results64, go_sem, aR]) rfl ⟨(HBE.o.drew).setCell (by show w.heap.size <= w.heap.size + 2; omega) _, .slice none 0 0, ?_, by rw [HQ.o, HS.o]; rfl⟩
       rw [HQ.o, HS.o]; exact World.ownsRow_nil _ _ _ _
  · have x0 := HJ1.o.hE.cell (i := 0) (v := .int .i64 3) (by rw [<- hk]; rfl)
    have HKE := yq hk; clear hk; have aK := HJ1.o.hK.cell (i := 0) (v := .pointer (some ⟨b, 0, none⟩)) rfl; have aE3 := HJ1.o.hE.cell (i := 3) (v := .int .i64 e.k) rfl; have aB := HJ1.o.asm.lt; have aE := HJ1.o.hE.lt; have aKl := HJ1.o.hK.lt; go_wp2_with fail
    refine (zaN b xs ls' _ 0 (e.k) _ HJ1.o.asm HL.o hn).mono ?_
    rintro e6 w6 ⟨rfl, hb1, ha1⟩; have HJ2 := yq (HJ1.o.next hb1 ha1); clear aK aB aE aKl aE3 hb1 ha1 HJ1; have aK := HJ2.o.hK.cell (i := 0) (v := .pointer (some ⟨b, 0, none⟩)) rfl; have aE1 := HJ2.o.hE.cell (i := 1) (v := .int .i64 e.i) rfl; have aE2 := HJ2.o.hE.cell (i := 2) (v := .int .i64 e.j) rfl; have aB := HJ2.o.asm.lt; have aE := HJ2.o.hE.lt; have aKl := HJ2.o.hK.lt; go_wp2_with fail
    refine (zaN b xs ls' _ e.i (e.j) _ HJ2.o.asm HL.o hn).mono ?_
    rintro e7 w7 ⟨rfl, hb2, ha2⟩; have HJ3 := yq (HJ2.o.next hb2 ha2); clear aK aB aE aKl aE1 aE2 hb2 ha2 HJ2; have aK := HJ3.o.hK.cell (i := 0) (v := .pointer (some ⟨b, 0, none⟩)) rfl; have aE3 := HJ3.o.hE.cell (i := 3) (v := .int .i64 e.k) rfl; have aB := HJ3.o.asm.lt; have aE := HJ3.o.hE.lt; have aKl := HJ3.o.hK.lt; go_wp2_with fail
    refine (zaN b xs ls' _ e.k (zao ls') _ HJ3.o.asm HL.o hn).mono ?_
    rintro e8 w8 ⟨rfl, hb3, ha3⟩; have HJ4 := yq (HJ3.o.next hb3 ha3); clear aK aB aE aKl aE3 hb3 ha3 HJ3; have hQ : za0 xs ls' (zao ls') e = zbC (zbC (zbC (some []) (zbt (zap xs ls' 0 (e.k)))) (zbt (zap xs ls' e.i (e.j)))) (zbt (zap xs ls' e.k (zao ls'))) := by unfold za0; rw [if_neg (by rw [HKE.o]; decide), if_neg (by rw [HKE.o]; decide), if_pos HKE.o]
    have HQ := yq hQ; clear hQ; obtain ⟨vG9, vL9, vO, out, c9, hB9, hG9, hL9, hO9, hs9, hok9⟩ := HJ4.o.asm; obtain ⟨AO, kO, rfl, _⟩ := zae hO9; have aK := HJ4.o.hK.cell (i := 0) (v := .pointer (some ⟨b, 0, none⟩)) rfl; have aR := HJ4.o.hR.cell (i := 0) (v := .slice none 0 0) rfl; have aRf := HJ4.o.hR.frozen 0; have aRl := HJ4.o.hR.lt; have HO9 := yq hO9; have HBE := yq HJ4.o.bel; have HRR := yq HJ4.o.hR; have hle := HJ4.o.le; have HOK := yq hok9; have aBl := hB9.lt; have nKR : K ≠ w.heap.size + 1 + 1 := HJ4.o.neKR; have nbR : b ≠ w.heap.size + 1 + 1 := fun h => HJ4.o.neR h.symm; clear hG9 hL9 hO9; rcases hs9 with ⟨hs, rfl, _⟩ | ⟨hs, rfl⟩
    · have HS := yq hs
      have a2 := hB9.cell (i := 2) (v := .slice AO out.length kO) rfl; have a3 := hB9.cell (i := 3) (v := .int .i64 0) rfl; clear hs hB9 hok9 HJ4; go_wp2_with fail
      refine (zbz _ out _ HO9.o.sl (by have := zax HOK.o; omega) (zaz (zai HOK.o).2.choose_spec)).mono ?_
      rintro e10 w10 ⟨hb10, v10, own10, rfl⟩; have HR10 := yq (HRR.o.up hb10); have HB10 := yq (Below.tr HBE.o hb10); have HO10 := yq own10; obtain ⟨A10, k10, rfl, _⟩ := zae own10; have b0 := HR10.o.cell (i := 0) (v := .slice none 0 0) rfl; have b1 := HR10.o.frozen 0; have b2 := HR10.o.lt; have hzz := HBE.o.size; clear hb10 own10 a2 a3 aK aR aRf; go_wp2_with fail
      refine bodyPost_ret (v := .tuple #[.agg #[.slice A10 (zaQ out).length k10], .int .i64 0]) (by simp [results, Tryz.results64, go_sem, b0]) rfl ⟨HB10.o.setCell (by show w.heap.size <= w.heap.size + 2; omega) _, .slice A10 (zaQ out).length k10, ?_, by rw [HQ.o, HS.o]; rfl⟩
      rw [HQ.o, HS.o]; exact zad (ownsRow_setCell_below HO10.o (a := ⟨w.heap.size + 2, 0, none⟩) aRl _) hzz
    · have HS := yq hs
      have a3 := hB9.cell (i := 3) (v := .int .i64 3) rfl; clear hs hB9 hok9 HJ4; go_wp2_with fail
      go_region
      all_goals
       go_wp2_with fail
       refine bodyPost_ret (v := .tuple #[.agg #[.slice none 0 0], .int .i64 3]) (by simp [results, Tryz.results64, go_sem, aR]) rfl ⟨(HBE.o.drew).setCell (by show w.heap.size <= w.heap.size + 2; omega) _, .slice none 0 0, ?_, by rw [HQ.o, HS.o]; rfl⟩
       rw [HQ.o, HS.o]; exact World.ownsRow_nil _ _ _ _
  · have x0 := HJ1.o.hE.cell (i := 0) (v := .int .i64 4) (by rw [<- hk]; rfl)
    have HKE := yq hk; clear hk; have y1 := HJ1.o.hE.cell (i := 1) (v := .int .i64 e.i) rfl; have y3 := HJ1.o.hE.cell (i := 3) (v := .int .i64 e.k) rfl; by_cases hki : e.k <= e.i
    · have HKI := yq hki
      have aK := HJ1.o.hK.cell (i := 0) (v := .pointer (some ⟨b, 0, none⟩)) rfl; have aE3 := HJ1.o.hE.cell (i := 3) (v := .int .i64 e.k) rfl; have aB := HJ1.o.asm.lt; have aE := HJ1.o.hE.lt; have aKl := HJ1.o.hK.lt; go_wp2_with fail
      refine (zaN b xs ls' _ 0 (e.k) _ HJ1.o.asm HL.o hn).mono ?_
      rintro e6 w6 ⟨rfl, hb1, ha1⟩; have HJ2 := yq (HJ1.o.next hb1 ha1); clear aK aB aE aKl aE3 hb1 ha1 HJ1; have aK := HJ2.o.hK.cell (i := 0) (v := .pointer (some ⟨b, 0, none⟩)) rfl; have aE1 := HJ2.o.hE.cell (i := 1) (v := .int .i64 e.i) rfl; have aE2 := HJ2.o.hE.cell (i := 2) (v := .int .i64 e.j) rfl; have aB := HJ2.o.asm.lt; have aE := HJ2.o.hE.lt; have aKl := HJ2.o.hK.lt; go_wp2_with fail
      refine (zaN b xs ls' _ e.i (e.j) _ HJ2.o.asm HL.o hn).mono ?_
      rintro e7 w7 ⟨rfl, hb2, ha2⟩; have HJ3 := yq (HJ2.o.next hb2 ha2); clear aK aB aE aKl aE1 aE2 hb2 ha2 HJ2; have aK := HJ3.o.hK.cell (i := 0) (v := .pointer (some ⟨b, 0, none⟩)) rfl; have aE1 := HJ3.o.hE.cell (i := 1) (v := .int .i64 e.i) rfl; have aE3 := HJ3.o.hE.cell (i := 3) (v := .int .i64 e.k) rfl; have aB := HJ3.o.asm.lt; have aE := HJ3.o.hE.lt; have aKl := HJ3.o.hK.lt; go_wp2_with fail
      refine (zaN b xs ls' _ e.k (e.i) _ HJ3.o.asm HL.o hn).mono ?_
      rintro e8 w8 ⟨rfl, hb3, ha3⟩; have HJ4 := yq (HJ3.o.next hb3 ha3); clear aK aB aE aKl aE1 aE3 hb3 ha3 HJ3; have aK := HJ4.o.hK.cell (i := 0) (v := .pointer (some ⟨b, 0, none⟩)) rfl; have aE2 := HJ4.o.hE.cell (i := 2) (v := .int .i64 e.j) rfl; have aB := HJ4.o.asm.lt; have aE := HJ4.o.hE.lt; have aKl := HJ4.o.hK.lt; go_wp2_with fail
      refine (zaN b xs ls' _ e.j (zao ls') _ HJ4.o.asm HL.o hn).mono ?_
      rintro e9 w9 ⟨rfl, hb4, ha4⟩; have HJ5 := yq (HJ4.o.next hb4 ha4); clear aK aB aE aKl aE2 hb4 ha4 HJ4; have hQ : za0 xs ls' (zao ls') e = zbC (zbC (zbC (zbC (some []) (zbt (zap xs ls' 0 (e.k)))) (zbt (zap xs ls' e.i (e.j)))) (zbt (zap xs ls' e.k (e.i)))) (zbt (zap xs ls' e.j (zao ls'))) := by unfold za0; rw [if_neg (by rw [HKE.o]; decide), if_neg (by rw [HKE.o]; decide), if_neg (by rw [HKE.o]; decide), if_pos HKE.o, if_pos HKI.o]
      have HQ := yq hQ; clear hQ; obtain ⟨vG9, vL9, vO, out, c9, hB9, hG9, hL9, hO9, hs9, hok9⟩ := HJ5.o.asm; obtain ⟨AO, kO, rfl, _⟩ := zae hO9; have aK := HJ5.o.hK.cell (i := 0) (v := .pointer (some ⟨b, 0, none⟩)) rfl; have aR := HJ5.o.hR.cell (i := 0) (v := .slice none 0 0) rfl; have aRf := HJ5.o.hR.frozen 0; have aRl := HJ5.o.hR.lt; have HO9 := yq hO9; have HBE := yq HJ5.o.bel; have HRR := yq HJ5.o.hR; have hle := HJ5.o.le; have HOK := yq hok9; have aBl := hB9.lt; have nKR : K ≠ w.heap.size + 1 + 1 := HJ5.o.neKR; have nbR : b ≠ w.heap.size + 1 + 1 := fun h => HJ5.o.neR h.symm; clear hG9 hL9 hO9; rcases hs9 with ⟨hs, rfl, _⟩ | ⟨hs, rfl⟩
      · have HS := yq hs
        have a2 := hB9.cell (i := 2) (v := .slice AO out.length kO) rfl; have a3 := hB9.cell (i := 3) (v := .int .i64 0) rfl; clear hs hB9 hok9 HJ5; go_wp2_with fail
        refine (zbz _ out _ HO9.o.sl (by have := zax HOK.o; omega) (zaz (zai HOK.o).2.choose_spec)).mono ?_
        rintro e10 w10 ⟨hb10, v10, own10, rfl⟩; have HR10 := yq (HRR.o.up hb10); have HB10 := yq (Below.tr HBE.o hb10); have HO10 := yq own10; obtain ⟨A10, k10, rfl, _⟩ := zae own10; have b0 := HR10.o.cell (i := 0) (v := .slice none 0 0) rfl; have b1 := HR10.o.frozen 0; have b2 := HR10.o.lt; have hzz := HBE.o.size; clear hb10 own10 a2 a3 aK aR aRf; go_wp2_with fail
        refine bodyPost_ret (v := .tuple #[.agg #[.slice A10 (zaQ out).length k10], .int .i64 0]) (by simp [results, Tryz.results64, go_sem, b0]) rfl ⟨HB10.o.setCell (by show w.heap.size <= w.heap.size + 2; omega) _, .slice A10 (zaQ out).length k10, ?_, by rw [HQ.o, HS.o]; rfl⟩
        rw [HQ.o, HS.o]; exact zad (ownsRow_setCell_below HO10.o (a := ⟨w.heap.size + 2, 0, none⟩) aRl _) hzz
      · have HS := yq hs
        have a3 := hB9.cell (i := 3) (v := .int .i64 3) rfl; clear hs hB9 hok9 HJ5; go_wp2_with fail
        go_region
        all_goals
         go_wp2_with fail
         refine bodyPost_ret (v := .tuple #[.agg #[.slice none 0 0], .int .i64 3]) (by simp [results, Tryz.results64, go_sem, aR]) rfl ⟨(HBE.o.drew).setCell (by show w.heap.size <= w.heap.size + 2; omega) _, .slice none 0 0, ?_, by rw [HQ.o, HS.o]; rfl⟩
         rw [HQ.o, HS.o]; exact World.ownsRow_nil _ _ _ _
    · have HKI := yq hki
      have aK := HJ1.o.hK.cell (i := 0) (v := .pointer (some ⟨b, 0, none⟩)) rfl; have aE1 := HJ1.o.hE.cell (i := 1) (v := .int .i64 e.i) rfl; have aB := HJ1.o.asm.lt; have aE := HJ1.o.hE.lt; have aKl := HJ1.o.hK.lt; go_wp2_with fail
      refine (zaN b xs ls' _ 0 (e.i) _ HJ1.o.asm HL.o hn).mono ?_
      rintro e6 w6 ⟨rfl, hb1, ha1⟩; have HJ2 := yq (HJ1.o.next hb1 ha1); clear aK aB aE aKl aE1 hb1 ha1 HJ1; have aK := HJ2.o.hK.cell (i := 0) (v := .pointer (some ⟨b, 0, none⟩)) rfl; have aE2 := HJ2.o.hE.cell (i := 2) (v := .int .i64 e.j) rfl; have aE3 := HJ2.o.hE.cell (i := 3) (v := .int .i64 e.k) rfl; have aB := HJ2.o.asm.lt; have aE := HJ2.o.hE.lt; have aKl := HJ2.o.hK.lt; go_wp2_with fail
      refine (zaN b xs ls' _ e.j (e.k) _ HJ2.o.asm HL.o hn).mono ?_
      rintro e7 w7 ⟨rfl, hb2, ha2⟩; have HJ3 := yq (HJ2.o.next hb2 ha2); clear aK aB aE aKl aE2 aE3 hb2 ha2 HJ2; have aK := HJ3.o.hK.cell (i := 0) (v := .pointer (some ⟨b, 0, none⟩)) rfl; have aE1 := HJ3.o.hE.cell (i := 1) (v := .int .i64 e.i) rfl; have aE2 := HJ3.o.hE.cell (i := 2) (v := .int .i64 e.j) rfl; have aB := HJ3.o.asm.lt; have aE := HJ3.o.hE.lt; have aKl := HJ3.o.hK.lt; go_wp2_with fail
      refine (zaN b xs ls' _ e.i (e.j) _ HJ3.o.asm HL.o hn).mono ?_
      rintro e8 w8 ⟨rfl, hb3, ha3⟩; have HJ4 := yq (HJ3.o.next hb3 ha3); clear aK aB aE aKl aE1 aE2 hb3 ha3 HJ3; have aK := HJ4.o.hK.cell (i := 0) (v := .pointer (some ⟨b, 0, none⟩)) rfl; have aE3 := HJ4.o.hE.cell (i := 3) (v := .int .i64 e.k) rfl; have aB := HJ4.o.asm.lt; have aE := HJ4.o.hE.lt; have aKl := HJ4.o.hK.lt; go_wp2_with fail
      refine (zaN b xs ls' _ e.k (zao ls') _ HJ4.o.asm HL.o hn).mono ?_
      rintro e9 w9 ⟨rfl, hb4, ha4⟩; have HJ5 := yq (HJ4.o.next hb4 ha4); clear aK aB aE aKl aE3 hb4 ha4 HJ4; have hQ : za0 xs ls' (zao ls') e = zbC (zbC (zbC (zbC (some []) (zbt (zap xs ls' 0 (e.i)))) (zbt (zap xs ls' e.j (e.k)))) (zbt (zap xs ls' e.i (e.j)))) (zbt (zap xs ls' e.k (zao ls'))) := by unfold za0; rw [if_neg (by rw [HKE.o]; decide), if_neg (by rw [HKE.o]; decide), if_neg (by rw [HKE.o]; decide), if_pos HKE.o, if_neg (by have := HKI.o; omega)]
      have HQ := yq hQ; clear hQ; obtain ⟨vG9, vL9, vO, out, c9, hB9, hG9, hL9, hO9, hs9, hok9⟩ := HJ5.o.asm; obtain ⟨AO, kO, rfl, _⟩ := zae hO9; have aK := HJ5.o.hK.cell (i := 0) (v := .pointer (some ⟨b, 0, none⟩)) rfl; have aR := HJ5.o.hR.cell (i := 0) (v := .slice none 0 0) rfl; have aRf := HJ5.o.hR.frozen 0; have aRl := HJ5.o.hR.lt; have HO9 := yq hO9; have HBE := yq HJ5.o.bel; have HRR := yq HJ5.o.hR; have hle := HJ5.o.le; have HOK := yq hok9; have aBl := hB9.lt; have nKR : K ≠ w.heap.size + 1 + 1 := HJ5.o.neKR; have nbR : b ≠ w.heap.size + 1 + 1 := fun h => HJ5.o.neR h.symm; clear hG9 hL9 hO9; rcases hs9 with ⟨hs, rfl, _⟩ | ⟨hs, rfl⟩
      · have HS := yq hs
        have a2 := hB9.cell (i := 2) (v := .slice AO out.length kO) rfl; have a3 := hB9.cell (i := 3) (v := .int .i64 0) rfl; clear hs hB9 hok9 HJ5; go_wp2_with fail
        refine (zbz _ out _ HO9.o.sl (by have := zax HOK.o; omega) (zaz (zai HOK.o).2.choose_spec)).mono ?_
        rintro e10 w10 ⟨hb10, v10, own10, rfl⟩; have HR10 := yq (HRR.o.up hb10); have HB10 := yq (Below.tr HBE.o hb10); have HO10 := yq own10; obtain ⟨A10, k10, rfl, _⟩ := zae own10; have b0 := HR10.o.cell (i := 0) (v := .slice none 0 0) rfl; have b1 := HR10.o.frozen 0; have b2 := HR10.o.lt; have hzz := HBE.o.size; clear hb10 own10 a2 a3 aK aR aRf; go_wp2_with fail
        refine bodyPost_ret (v := .tuple #[.agg #[.slice A10 (zaQ out).length k10], .int .i64 0]) (by simp [results, Tryz.results64, go_sem, b0]) rfl ⟨HB10.o.setCell (by show w.heap.size <= w.heap.size + 2; omega) _, .slice A10 (zaQ out).length k10, ?_, by rw [HQ.o, HS.o]; rfl⟩
        rw [HQ.o, HS.o]; exact zad (ownsRow_setCell_below HO10.o (a := ⟨w.heap.size + 2, 0, none⟩) aRl _) hzz
      · have HS := yq hs
        have a3 := hB9.cell (i := 3) (v := .int .i64 3) rfl; clear hs hB9 hok9 HJ5; go_wp2_with fail
        go_region
        all_goals
         go_wp2_with fail
         refine bodyPost_ret (v := .tuple #[.agg #[.slice none 0 0], .int .i64 3]) (by simp [results, Tryz.results64, go_sem, aR]) rfl ⟨(HBE.o.drew).setCell (by show w.heap.size <= w.heap.size + 2; omega) _, .slice none 0 0, ?_, by rw [HQ.o, HS.o]; rfl⟩
         rw [HQ.o, HS.o]; exact World.ownsRow_nil _ _ _ _
  · have hkc : ¬ e.kind = 1 /\ ¬ e.kind = 2 /\ ¬ e.kind = 3 /\ ¬ e.kind = 4 /\ (e.kind = 5 \/ e.kind = 6 \/ e.kind = 7) := by unfold zjF at hkk; omega
    have HKC := yq hkc; have HKK := yq hkk; obtain ⟨_, _, _, _, hk⟩ := hkc; clear hkk; rcases hk with hk | hk | hk
    · have x0 := HJ1.o.hE.cell (i := 0) (v := .int .i64 5) (by rw [<- hk]; rfl)
      have HKE := yq hk; clear hk; have aK := HJ1.o.hK.cell (i := 0) (v := .pointer (some ⟨b, 0, none⟩)) rfl; have aE1 := HJ1.o.hE.cell (i := 1) (v := .int .i64 e.i) rfl; have aB := HJ1.o.asm.lt; have aE := HJ1.o.hE.lt; have aKl := HJ1.o.hK.lt; go_wp2_with fail
      refine (zaN b xs ls' _ 0 (e.i) _ HJ1.o.asm HL.o hn).mono ?_
      rintro e6 w6 ⟨rfl, hb1, ha1⟩; have HJ2 := yq (HJ1.o.next hb1 ha1); clear aK aB aE aKl aE1 hb1 ha1 HJ1; have aB := HJ2.o.asm.lt; go_wp2_with fail
      refine (zfi (w.heap.size + 1) b K e (.slice AR e.part.length cR) xs ls' _ _ HJ2.o.hK HJ2.o.asm HJ2.o.hE HKK.o HL.o hn (zi0 HT.o HJ2.o.bel)).mono ?_
      rintro e7 w7 ⟨rfl, hb2, ha2⟩; have HJ3 := yq (HJ2.o.next hb2 ha2); clear aB hb2 ha2 HJ2; have aK := HJ3.o.hK.cell (i := 0) (v := .pointer (some ⟨b, 0, none⟩)) rfl; have aE2 := HJ3.o.hE.cell (i := 2) (v := .int .i64 e.j) rfl; have aB := HJ3.o.asm.lt; have aE := HJ3.o.hE.lt; have aKl := HJ3.o.hK.lt; go_wp2_with fail
      refine (zaN b xs ls' _ e.j (zao ls') _ HJ3.o.asm HL.o hn).mono ?_
      rintro e8 w8 ⟨rfl, hb3, ha3⟩; have HJ4 := yq (HJ3.o.next hb3 ha3); clear aK aB aE aKl aE2 hb3 ha3 HJ3; have hQ : za0 xs ls' (zao ls') e = zbC (zbC (zbC (some []) (zbt (zap xs ls' 0 (e.i)))) ((zbt (zap xs ls' e.i e.j)).bind (zed e))) (zbt (zap xs ls' e.j (zao ls'))) := by unfold za0; rw [if_neg HKC.o.1, if_neg HKC.o.2.1, if_neg HKC.o.2.2.1, if_neg HKC.o.2.2.2.1]
      have HQ := yq hQ; clear hQ; obtain ⟨vG9, vL9, vO, out, c9, hB9, hG9, hL9, hO9, hs9, hok9⟩ := HJ4.o.asm; obtain ⟨AO, kO, rfl, _⟩ := zae hO9; have aK := HJ4.o.hK.cell (i := 0) (v := .pointer (some ⟨b, 0, none⟩)) rfl; have aR := HJ4.o.hR.cell (i := 0) (v := .slice none 0 0) rfl; have aRf := HJ4.o.hR.frozen 0; have aRl := HJ4.o.hR.lt; have HO9 := yq hO9; have HBE := yq HJ4.o.bel; have HRR := yq HJ4.o.hR; have hle := HJ4.o.le; have HOK := yq hok9; have aBl := hB9.lt; have nKR : K ≠ w.heap.size + 1 + 1 := HJ4.o.neKR; have nbR : b ≠ w.heap.size + 1 + 1 := fun h => HJ4.o.neR h.symm; clear hG9 hL9 hO9; rcases hs9 with ⟨hs, rfl, _⟩ | ⟨hs, rfl⟩
      · have HS := yq hs
        have a2 := hB9.cell (i := 2) (v := .slice AO out.length kO) rfl; have a3 := hB9.cell (i := 3) (v := .int .i64 0) rfl; clear hs hB9 hok9 HJ4; go_wp2_with fail
        refine (zbz _ out _ HO9.o.sl (by have := zax HOK.o; omega) (zaz (zai HOK.o).2.choose_spec)).mono ?_
        rintro e10 w10 ⟨hb10, v10, own10, rfl⟩; have HR10 := yq (HRR.o.up hb10); have HB10 := yq (Below.tr HBE.o hb10); have HO10 := yq own10; obtain ⟨A10, k10, rfl, _⟩ := zae own10; have b0 := HR10.o.cell (i := 0) (v := .slice none 0 0) rfl; have b1 := HR10.o.frozen 0; have b2 := HR10.o.lt; have hzz := HBE.o.size; clear hb10 own10 a2 a3 aK aR aRf; go_wp2_with fail
        refine bodyPost_ret (v := .tuple #[.agg #[.slice A10 (zaQ out).length k10], .int .i64 0]) (by simp [results, Tryz.results64, go_sem, b0]) rfl ⟨HB10.o.setCell (by show w.heap.size <= w.heap.size + 2; omega) _, .slice A10 (zaQ out).length k10, ?_, by rw [HQ.o, HS.o]; rfl⟩
        rw [HQ.o, HS.o]; exact zad (ownsRow_setCell_below HO10.o (a := ⟨w.heap.size + 2, 0, none⟩) aRl _) hzz
      · have HS := yq hs
        have a3 := hB9.cell (i := 3) (v := .int .i64 3) rfl; clear hs hB9 hok9 HJ4; go_wp2_with fail
        go_region
        all_goals
         go_wp2_with fail
         refine bodyPost_ret (v := .tuple #[.agg #[.slice none 0 0], .int .i64 3]) (by simp [results, Tryz.results64, go_sem, aR]) rfl ⟨(HBE.o.drew).setCell (by show w.heap.size <= w.heap.size + 2; omega) _, .slice none 0 0, ?_, by rw [HQ.o, HS.o]; rfl⟩
         rw [HQ.o, HS.o]; exact World.ownsRow_nil _ _ _ _
    · have x0 := HJ1.o.hE.cell (i := 0) (v := .int .i64 6) (by rw [<- hk]; rfl)
      have HKE := yq hk; clear hk; have aK := HJ1.o.hK.cell (i := 0) (v := .pointer (some ⟨b, 0, none⟩)) rfl; have aE1 := HJ1.o.hE.cell (i := 1) (v := .int .i64 e.i) rfl; have aB := HJ1.o.asm.lt; have aE := HJ1.o.hE.lt; have aKl := HJ1.o.hK.lt; go_wp2_with fail
      refine (zaN b xs ls' _ 0 (e.i) _ HJ1.o.asm HL.o hn).mono ?_
      rintro e6 w6 ⟨rfl, hb1, ha1⟩; have HJ2 := yq (HJ1.o.next hb1 ha1); clear aK aB aE aKl aE1 hb1 ha1 HJ1; have aB := HJ2.o.asm.lt; go_wp2_with fail
      refine (zfi (w.heap.size + 1) b K e (.slice AR e.part.length cR) xs ls' _ _ HJ2.o.hK HJ2.o.asm HJ2.o.hE HKK.o HL.o hn (zi0 HT.o HJ2.o.bel)).mono ?_
      rintro e7 w7 ⟨rfl, hb2, ha2⟩; have HJ3 := yq (HJ2.o.next hb2 ha2); clear aB hb2 ha2 HJ2; have aK := HJ3.o.hK.cell (i := 0) (v := .pointer (some ⟨b, 0, none⟩)) rfl; have aE2 := HJ3.o.hE.cell (i := 2) (v := .int .i64 e.j) rfl; have aB := HJ3.o.asm.lt; have aE := HJ3.o.hE.lt; have aKl := HJ3.o.hK.lt; go_wp2_with fail
      refine (zaN b xs ls' _ e.j (zao ls') _ HJ3.o.asm HL.o hn).mono ?_
      rintro e8 w8 ⟨rfl, hb3, ha3⟩; have HJ4 := yq (HJ3.o.next hb3 ha3); clear aK aB aE aKl aE2 hb3 ha3 HJ3; have hQ : za0 xs ls' (zao ls') e = zbC (zbC (zbC (some []) (zbt (zap xs ls' 0 (e.i)))) ((zbt (zap xs ls' e.i e.j)).bind (zed e))) (zbt (zap xs ls' e.j (zao ls'))) := by unfold za0; rw [if_neg HKC.o.1, if_neg HKC.o.2.1, if_neg HKC.o.2.2.1, if_neg HKC.o.2.2.2.1]
      have HQ := yq hQ; clear hQ; obtain ⟨vG9, vL9, vO, out, c9, hB9, hG9, hL9, hO9, hs9, hok9⟩ := HJ4.o.asm; obtain ⟨AO, kO, rfl, _⟩ := zae hO9; have aK := HJ4.o.hK.cell (i := 0) (v := .pointer (some ⟨b, 0, none⟩)) rfl; have aR := HJ4.o.hR.cell (i := 0) (v := .slice none 0 0) rfl; have aRf := HJ4.o.hR.frozen 0; have aRl := HJ4.o.hR.lt; have HO9 := yq hO9; have HBE := yq HJ4.o.bel; have HRR := yq HJ4.o.hR; have hle := HJ4.o.le; have HOK := yq hok9; have aBl := hB9.lt; have nKR : K ≠ w.heap.size + 1 + 1 := HJ4.o.neKR; have nbR : b ≠ w.heap.size + 1 + 1 := fun h => HJ4.o.neR h.symm; clear hG9 hL9 hO9; rcases hs9 with ⟨hs, rfl, _⟩ | ⟨hs, rfl⟩
      · have HS := yq hs
        have a2 := hB9.cell (i := 2) (v := .slice AO out.length kO) rfl; have a3 := hB9.cell (i := 3) (v := .int .i64 0) rfl; clear hs hB9 hok9 HJ4; go_wp2_with fail
        refine (zbz _ out _ HO9.o.sl (by have := zax HOK.o; omega) (zaz (zai HOK.o).2.choose_spec)).mono ?_
        rintro e10 w10 ⟨hb10, v10, own10, rfl⟩; have HR10 := yq (HRR.o.up hb10); have HB10 := yq (Below.tr HBE.o hb10); have HO10 := yq own10; obtain ⟨A10, k10, rfl, _⟩ := zae own10; have b0 := HR10.o.cell (i := 0) (v := .slice none 0 0) rfl; have b1 := HR10.o.frozen 0; have b2 := HR10.o.lt; have hzz := HBE.o.size; clear hb10 own10 a2 a3 aK aR aRf; go_wp2_with fail
        refine bodyPost_ret (v := .tuple #[.agg #[.slice A10 (zaQ out).length k10], .int .i64 0]) (by simp [results, Tryz.results64, go_sem, b0]) rfl ⟨HB10.o.setCell (by show w.heap.size <= w.heap.size + 2; omega) _, .slice A10 (zaQ out).length k10, ?_, by rw [HQ.o, HS.o]; rfl⟩
        rw [HQ.o, HS.o]; exact zad (ownsRow_setCell_below HO10.o (a := ⟨w.heap.size + 2, 0, none⟩) aRl _) hzz
      · have HS := yq hs
        have a3 := hB9.cell (i := 3) (v := .int .i64 3) rfl; clear hs hB9 hok9 HJ4; go_wp2_with fail
        go_region
        all_goals
         go_wp2_with fail
         refine bodyPost_ret (v := .tuple #[.agg #[.slice none 0 0], .int .i64 3]) (by simp [results, Tryz.results64, go_sem, aR]) rfl ⟨(HBE.o.drew).setCell (by show w.heap.size <= w.heap.size + 2; omega) _, .slice none 0 0, ?_, by rw [HQ.o, HS.o]; rfl⟩
         rw [HQ.o, HS.o]; exact World.ownsRow_nil _ _ _ _
    · have x0 := HJ1.o.hE.cell (i := 0) (v := .int .i64 7) (by rw [<- hk]; rfl)
      have HKE := yq hk; clear hk; have aK := HJ1.o.hK.cell (i := 0) (v := .pointer (some ⟨b, 0, none⟩)) rfl; have aE1 := HJ1.o.hE.cell (i := 1) (v := .int .i64 e.i) rfl; have aB := HJ1.o.asm.lt; have aE := HJ1.o.hE.lt; have aKl := HJ1.o.hK.lt; go_wp2_with fail
      refine (zaN b xs ls' _ 0 (e.i) _ HJ1.o.asm HL.o hn).mono ?_
      rintro e6 w6 ⟨rfl, hb1, ha1⟩; have HJ2 := yq (HJ1.o.next hb1 ha1); clear aK aB aE aKl aE1 hb1 ha1 HJ1; have aB := HJ2.o.asm.lt; go_wp2_with fail
      refine (zfi (w.heap.size + 1) b K e (.slice AR e.part.length cR) xs ls' _ _ HJ2.o.hK HJ2.o.asm HJ2.o.hE HKK.o HL.o hn (zi0 HT.o HJ2.o.bel)).mono ?_
      rintro e7 w7 ⟨rfl, hb2, ha2⟩; have HJ3 := yq (HJ2.o.next hb2 ha2); clear aB hb2 ha2 HJ2; have aK := HJ3.o.hK.cell (i := 0) (v := .pointer (some ⟨b, 0, none⟩)) rfl; have aE2 := HJ3.o.hE.cell (i := 2) (v := .int .i64 e.j) rfl; have aB := HJ3.o.asm.lt; have aE := HJ3.o.hE.lt; have aKl := HJ3.o.hK.lt; go_wp2_with fail
      refine (zaN b xs ls' _ e.j (zao ls') _ HJ3.o.asm HL.o hn).mono ?_
      rintro e8 w8 ⟨rfl, hb3, ha3⟩; have HJ4 := yq (HJ3.o.next hb3 ha3); clear aK aB aE aKl aE2 hb3 ha3 HJ3; have hQ : za0 xs ls' (zao ls') e = zbC (zbC (zbC (some []) (zbt (zap xs ls' 0 (e.i)))) ((zbt (zap xs ls' e.i e.j)).bind (zed e))) (zbt (zap xs ls' e.j (zao ls'))) := by unfold za0; rw [if_neg HKC.o.1, if_neg HKC.o.2.1, if_neg HKC.o.2.2.1, if_neg HKC.o.2.2.2.1]
      have HQ := yq hQ; clear hQ; obtain ⟨vG9, vL9, vO, out, c9, hB9, hG9, hL9, hO9, hs9, hok9⟩ := HJ4.o.asm; obtain ⟨AO, kO, rfl, _⟩ := zae hO9; have aK := HJ4.o.hK.cell (i := 0) (v := .pointer (some ⟨b, 0, none⟩)) rfl; have aR := HJ4.o.hR.cell (i := 0) (v := .slice none 0 0) rfl; have aRf := HJ4.o.hR.frozen 0; have aRl := HJ4.o.hR.lt; have HO9 := yq hO9; have HBE := yq HJ4.o.bel; have HRR := yq HJ4.o.hR; have hle := HJ4.o.le; have HOK := yq hok9; have aBl := hB9.lt; have nKR : K ≠ w.heap.size + 1 + 1 := HJ4.o.neKR; have nbR : b ≠ w.heap.size + 1 + 1 := fun h => HJ4.o.neR h.symm; clear hG9 hL9 hO9; rcases hs9 with ⟨hs, rfl, _⟩ | ⟨hs, rfl⟩
      · have HS := yq hs
        have a2 := hB9.cell (i := 2) (v := .slice AO out.length kO) rfl; have a3 := hB9.cell (i := 3) (v := .int .i64 0) rfl; clear hs hB9 hok9 HJ4; go_wp2_with fail
        refine (zbz _ out _ HO9.o.sl (by have := zax HOK.o; omega) (zaz (zai HOK.o).2.choose_spec)).mono ?_
        rintro e10 w10 ⟨hb10, v10, own10, rfl⟩; have HR10 := yq (HRR.o.up hb10); have HB10 := yq (Below.tr HBE.o hb10); have HO10 := yq own10; obtain ⟨A10, k10, rfl, _⟩ := zae own10; have b0 := HR10.o.cell (i := 0) (v := .slice none 0 0) rfl; have b1 := HR10.o.frozen 0; have b2 := HR10.o.lt; have hzz := HBE.o.size; clear hb10 own10 a2 a3 aK aR aRf; go_wp2_with fail
        refine bodyPost_ret (v := .tuple #[.agg #[.slice A10 (zaQ out).length k10], .int .i64 0]) (by simp [results, Tryz.results64, go_sem, b0]) rfl ⟨HB10.o.setCell (by show w.heap.size <= w.heap.size + 2; omega) _, .slice A10 (zaQ out).length k10, ?_, by rw [HQ.o, HS.o]; rfl⟩
        rw [HQ.o, HS.o]; exact zad (ownsRow_setCell_below HO10.o (a := ⟨w.heap.size + 2, 0, none⟩) aRl _) hzz
      · have HS := yq hs
        have a3 := hB9.cell (i := 3) (v := .int .i64 3) rfl; clear hs hB9 hok9 HJ4; go_wp2_with fail
        go_region
        all_goals
         go_wp2_with fail
         refine bodyPost_ret (v := .tuple #[.agg #[.slice none 0 0], .int .i64 3]) (by simp [results, Tryz.results64, go_sem, aR]) rfl ⟨(HBE.o.drew).setCell (by show w.heap.size <= w.heap.size + 2; omega) _, .slice none 0 0, ?_, by rw [HQ.o, HS.o]; rfl⟩
         rw [HQ.o, HS.o]; exact World.ownsRow_nil _ _ _ _
structure EC (w : World) (E o : Nat) (e : zam) (vR : Value) : Prop where
 c0 : w.cell? ⟨E, o, none⟩ = some (.int .i64 e.kind)
 c1 : w.cell? ⟨E, o + 1, none⟩ = some (.int .i64 e.i)
 c2 : w.cell? ⟨E, o + 2, none⟩ = some (.int .i64 e.j)
 c3 : w.cell? ⟨E, o + 3, none⟩ = some (.int .i64 e.k)
 c4 : w.cell? ⟨E, o + 4, none⟩ = some vR
 c5 : w.cell? ⟨E, o + 5, none⟩ = some (.string e.map)
 lt : E < w.heap.size
section
variable {w w' : World} {E o b : Nat} {e : zam} {vR : Value}
theorem EC.same (h : EC w E o e vR) (hs : w'.heap[E]? = w.heap[E]?) : EC w' E o e vR := by
 have k : ∀ {j : Nat} {v : Value}, w.cell? ⟨E, j, none⟩ = some v -> w'.cell? ⟨E, j, none⟩ = some v := fun {j v} hc => (World.cell?_of_block (a := ⟨E, j, none⟩) hs).trans hc
 refine ⟨k h.c0, k h.c1, k h.c2, k h.c3, k h.c4, k h.c5, ?_⟩
 have h1 : w.heap[E]? = some (w.heap[E]'h.lt) := Array.getElem?_eq_getElem h.lt
 exact (Array.getElem?_eq_some_iff.1 (hs.trans h1)).1
theorem EC.up (h : EC w E o e vR) (hb : Below w.heap.size w w') : EC w' E o e vR := h.same (hb.block E h.lt)
theorem EC.but (h : EC w E o e vR) (hb : But b w w') (hne : E ≠ b) : EC w' E o e vR := h.same (hb.block E h.lt hne)
theorem EC.of (h : Blk w E (zbK e vR) 37) : EC w E 0 e vR :=
 ⟨h.cell rfl, h.cell rfl, h.cell rfl, h.cell rfl, h.cell rfl, h.cell rfl, h.lt⟩
end
structure C1 (w : World) (p : Addr) (v : Value) : Prop where
 c : w.cell? p = some v
 lt : p.block < w.heap.size
theorem C1.same {w w' : World} {p : Addr} {v : Value} (h : C1 w p v) (hs : w'.heap[p.block]? = w.heap[p.block]?) : C1 w' p v := by
 refine ⟨(World.cell?_of_block hs).trans h.c, ?_⟩
 have h1 : w.heap[p.block]? = some (w.heap[p.block]'h.lt) := Array.getElem?_eq_getElem h.lt
 exact (Array.getElem?_eq_some_iff.1 (hs.trans h1)).1
theorem C1.up {w w' : World} {p : Addr} {v : Value} (h : C1 w p v) (hb : Below w.heap.size w w') : C1 w' p v := h.same (hb.block _ h.lt)
theorem C1.but {w w' : World} {b : Nat} {p : Addr} {v : Value} (h : C1 w p v) (hb : But b w w') (hne : p.block ≠ b) : C1 w' p v := h.same (hb.block _ h.lt hne)
theorem znk {wr W : World} {p q r s : Addr} {v1 v2 v3 v4 : Value} (k1 : C1 wr p v1) (k2 : C1 wr q v2) (k3 : C1 wr r v3) (k4 : C1 wr s v4) (h : Below wr.heap.size wr W) :
  Below wr.heap.size wr W /\ W.cell? p = some v1 /\ W.cell? q = some v2 /\ W.cell? r = some v3 /\ W.cell? s = some v4 := ⟨h, (k1.up h).c, (k2.up h).c, (k3.up h).c, (k4.up h).c⟩
def zdB : Enc zam where
 size := 6
 pos := by decide
 cells := fun w S e cs => ∃ vR, cs = [.int .i64 e.kind, .int .i64 e.i, .int .i64 e.j, .int .i64 e.k, vR, .string e.map] /\ SlS zar w S vR e.part
 len := by rintro _ _ _ _ ⟨vR, rfl, _⟩; rfl
 keep := by rintro _ _ _ _ _ ⟨vR, rfl, h⟩ hb; exact ⟨vR, rfl, h.keep hb⟩
 more := by rintro _ _ _ _ _ ⟨vR, rfl, h⟩ hb; exact ⟨vR, rfl, h.more hb⟩
 one := by rintro _ _ _ _ ⟨vR, rfl, A, c, rfl, _⟩; simp [Value.oneCell']
theorem Row.edit {w : World} {S : Nat -> Prop} {A : Option Addr} {l : List zam} (h : Row zdB w S A l) (hS : ∀ b, S b -> b < w.heap.size) {k : Nat} (hk : k < l.length) :
  ∃ b o, A = some ⟨b, o, none⟩ /\ S b /\ ∀ i e, l[i]? = some e -> ∃ vR, EC w b (o + i * 6) e vR /\ SlS zar w S vR e.part := by
 obtain ⟨b, o, rfl, hlt, hc⟩ := h yO; refine ⟨b, o, rfl, hlt, fun i e hi => ?_⟩
 obtain ⟨cs, ⟨vR, rfl, h1⟩, h2⟩ := hc i e hi; exact ⟨vR, ⟨by simpa [zdB] using h2 0 _ rfl, by simpa [zdB, Nat.add_assoc] using h2 1 _ rfl, by simpa [zdB, Nat.add_assoc] using h2 2 _ rfl, by simpa [zdB, Nat.add_assoc] using h2 3 _ rfl, by simpa [zdB, Nat.add_assoc] using h2 4 _ rfl, by simpa [zdB, Nat.add_assoc] using h2 5 _ rfl, hS b hlt⟩, h1⟩
end Go.Proofs.YtejgbfgocaggfaaGreatDoor
namespace Go.Proofs
theorem Tryz.infoEd : (Tryz.prog.info? 37).map (fun i => (i.zero, i.size, i.bytes)) = some (some (.agg #[.int .i64 0, .int .i64 0, .int .i64 0, .int .i64 0, .slice none 0 0, .string ⟨#[]⟩]), 6, 72) := by kernel_rfl
end Go.Proofs
namespace Go.Proofs.YtejgbfgocaggfaaGreatDoor
open Go.RowKit
def za1 (p : zam × Value) : List Value := [.int .i64 p.1.kind, .int .i64 p.1.i, .int .i64 p.1.j, .int .i64 p.1.k, p.2, .string p.1.map]
theorem zoI (ps : List (zam × Value)) : (ps.flatMap za1).length = ps.length * 6 := by
 induction ps with
 | nil => rfl
 | cons x xs ih => rw [List.flatMap_cons, List.length_append, ih]; simp [za1]; omega
theorem zpN (ps : List (zam × Value)) (k : Nat) (p : zam × Value) (h : ps[k]? = some p) (j : Nat) (hj : j < 6) : (ps.flatMap za1)[k * 6 + j]? = (za1 p)[j]? := by
 induction ps generalizing k with
 | nil => simp at h
 | cons x xs ih =>
   cases k with
   | zero =>
     simp at h; subst h
     rw [List.flatMap_cons, List.getElem?_append_left (by simp [za1]; omega), Nat.zero_mul, Nat.zero_add]
   | succ k =>
     have := ih k (by simpa using h); rw [List.flatMap_cons, List.getElem?_append_right (by simp [za1]; omega)]
     rw [show (k + 1) * 6 + j - (za1 x).length = k * 6 + j by simp [za1]; omega]; exact this
def zh5 (w : World) (v : Value) (a b : Nat) (p : zam × Value) : Prop :=
 ((p.1.part = [] /\ ∃ A c, p.2 = .slice A 0 c /\ c <= maxLen) \/ znQ w a b p.2 p.1.part) /\ ∀ g, v.ownBlock = some g -> g < a \/ b <= g
theorem zh5.sl {w : World} {v : Value} {a b : Nat} {p : zam × Value} (h : zh5 w v a b p) : Sl zar w w.heap.size p.2 p.1.part := by
 rcases h.1 with ⟨h1, A, c, h2, h3⟩ | h1
 · rw [h1, h2]; exact ⟨A, c, rfl, Nat.zero_le _, h3, fun h => absurd h yS⟩
 · exact h1.sl
structure zbT (w : World) (v : Value) (lo hi : Nat) (r : Nat -> Nat) (ps : List (zam × Value)) : Prop where
 low : lo <= r 0
 mono : ∀ i j, i <= j -> r i <= r j
 high : ∀ i, r i <= hi
 at_ : ∀ i p, ps[i]? = some p -> zh5 w v (r (2 * i)) (r (2 * i + 1)) p
theorem zbT.keep {w w' : World} {v : Value} {lo hi : Nat} {r : Nat -> Nat} {ps : List (zam × Value)} (h : zbT w v lo hi r ps) (hk : ∀ g, lo <= g -> g < hi -> v.ownBlock ≠ some g -> w'.heap[g]? = w.heap[g]?) (hs : w.heap.size <= w'.heap.size) : zbT w' v lo hi r ps := by
 refine ⟨h.low, h.mono, h.high, fun i p hp => ?_⟩
 obtain ⟨h0, h2⟩ := h.at_ i p hp; refine ⟨?_, h2⟩
 rcases h0 with h1 | h1
 · exact .inl h1
 · refine .inr ⟨za7 h1.1 fun g hg => ?_, h1.2.1, Nat.le_trans h1.2.2 hs⟩
   have hr := h1.rng g hg; have a1 := h.mono 0 (2 * i) (Nat.zero_le _); have a2 := h.high (2 * i + 1); have a3 := h.low; refine hk g yO yO fun e => ?_
   have := h2 g e; omega
theorem zbT.snoc {w : World} {v : Value} {lo hi hi' : Nat} {r : Nat -> Nat} {ps : List (zam × Value)} {q : zam × Value} (h : zbT w v lo hi r ps) (hq : zh5 w v hi hi' q) (hh : hi <= hi') (hl : lo <= hi) : ∃ r', zbT w v lo hi' r' (ps ++ [q]) := by
 refine ⟨fun j => if j < 2 * ps.length then r j else if j = 2 * ps.length then hi else hi', ?_, ?_, ?_, ?_⟩
 · have := h.low
   split
   · omega
   · split <;> omega
 · intro i j hij
   have h1 := h.mono i j hij; have h2 := h.high i
   repeat' split
   all_goals omega
 · intro i
   have h2 := h.high i
   repeat' split
   all_goals omega
 · intro i p hp
   rcases Nat.lt_or_ge i ps.length with hlt | hge
   · rw [List.getElem?_append_left hlt] at hp
     have := h.at_ i p hp; simp only [show 2 * i < 2 * ps.length by omega, show 2 * i + 1 < 2 * ps.length by omega, if_true]
     exact this
   · rw [List.getElem?_append_right hge] at hp
     have hi0 : i = ps.length := by
      have := (List.getElem?_eq_some_iff.1 hp).1
      simp at this; omega
     subst hi0; simp at hp
     subst hp; simp only [Nat.lt_irrefl, if_false, if_true, show ¬ (2 * ps.length + 1 < 2 * ps.length) by omega, show ¬ (2 * ps.length + 1 = 2 * ps.length) by omega]
     exact hq
theorem zbT.nil {w : World} {v : Value} {lo hi : Nat} (h : lo <= hi) : zbT w v lo hi (fun _ => hi) [] := ⟨h, fun _ _ _ => Nat.le_refl _, fun _ => Nat.le_refl _, fun i p hp => by simp at hp⟩
theorem zbT.le {w : World} {v : Value} {lo lo' hi hi' : Nat} {r : Nat -> Nat} {ps : List (zam × Value)} (h : zbT w v lo hi r ps) (h1 : lo' <= lo) (h2 : hi <= hi') : zbT w v lo' hi' r ps := ⟨Nat.le_trans h1 h.low, h.mono, fun i => Nat.le_trans (h.high i) h2, h.at_⟩
def zh6 (w : World) (lo hi : Nat) (v : Value) (es : List zam) : Prop :=
 ∃ ps r, ps.map Prod.fst = es /\ w.ownsRow lo 37 6 v es.length (ps.flatMap za1) /\ (∀ g, v.ownBlock = some g -> g < hi) /\ hi <= w.heap.size /\ zbT w v lo hi r ps
section
variable {w w' : World} {lo hi : Nat} {v : Value} {es : List zam}
theorem zh6.keep (h : zh6 w lo hi v es) (hk : ∀ g, lo <= g -> g < hi -> w'.heap[g]? = w.heap[g]?) (hs : w.heap.size <= w'.heap.size) : zh6 w' lo hi v es := by
 obtain ⟨ps, r, h1, h2, h3, h4, h5⟩ := h; exact ⟨ps, r, h1, za7 h2 fun g hg => hk g (World.ownsRow.lt h2 g hg).1 (h3 g hg), h3, Nat.le_trans h4 hs, h5.keep (fun g a b _ => hk g a b) hs⟩
theorem zh6.up (h : zh6 w lo hi v es) (hb : Below w.heap.size w w') : zh6 w' lo hi v es := h.keep (fun g _ b => hb.block g (by obtain ⟨_, _, _, _, _, h4, _⟩ := h; omega)) hb.size
theorem zpO {ps : List (zam × Value)} {i : Nat} {e : zam} (h : (ps.map Prod.fst)[i]? = some e) : ∃ u, ps[i]? = some (e, u) := by
 rw [List.getElem?_map] at h
 obtain ⟨p, h1, h2⟩ := Option.map_eq_some_iff.1 h; exact ⟨p.2, by rw [h1, <- h2]⟩
theorem zh6.sl (h : zh6 w lo hi v es) : Sl zdB w w.heap.size v es := by
 obtain ⟨ps, r, rfl, h2, h3, h4, h5⟩ := h; obtain ⟨A, cap, rfl, c1, c2⟩ := zae h2; refine ⟨A, cap, rfl, c1, c2, Row.of_own (E := zdB) h2 rfl (fun g hg => (World.ownsRow.lt h2 g hg).2) fun k e hx => ?_⟩
 obtain ⟨u, hu⟩ := zpO hx; refine ⟨za1 (e, u), ⟨u, rfl, (h5.at_ k _ hu).sl⟩, fun j x hj => ?_⟩
 have hj6 : j < 6 := by have := (List.getElem?_eq_some_iff.1 hj).1; simpa [za1] using this
 show (ps.flatMap za1)[k * 6 + j]? = some x
 rw [zpN ps k _ hu j hj6]; exact hj
end
def zE : zam := ⟨0, 0, 0, 0, [], ⟨#[]⟩⟩
end Go.Proofs.YtejgbfgocaggfaaGreatDoor
