import Derived.Test.YtbifijlenbibmaaGreatDoorM11
import Derived.Test.YtbifijlenbibmaaGreatDoorM8
import Derived.Test.YtbifijlenbibmaaGreatDoorM10
import Derived.Test.YtbifijlenbibmaaGreatDoorM2
import Derived.Test.YtbifijlenbibmaaGreatDoorM9
import Derived.WalkSmall
namespace Go.Proofs.YtbifijlenbibmaaGreatDoor
open Go.RowKit
structure EdJ (w0 : World) (E R K b : Nat) (e : GEdit) (vR : Value) (xs : List GRule) (ls : List Int) (s : Option (List GRule)) (W : World) : Prop where
  bel : Below w0.heap.size w0 W
  hE : Blk W E (editCells e vR) 46
  hR : Blk W R #[.slice none 0 0] 30
  hK : Blk W K #[.pointer (some ⟨b, 0, none⟩)] 197
  asm : Asm W b xs ls s
  neE : E ≠ b
  neR : R ≠ b
  neK : K ≠ b
  le : w0.heap.size ≤ b
  ltR : w0.heap.size ≤ R
  neKR : K ≠ R
theorem EdJ.next {w0 W W' : World} {E R K b : Nat} {e : GEdit} {vR : Value} {xs : List GRule} {ls : List Int} {s s' : Option (List GRule)} (h : EdJ w0 E R K b e vR xs ls s W) (hb : But b W W') (ha : Asm W' b xs ls s') : EdJ w0 E R K b e vR xs ls s' W' :=
  ⟨h.bel.trans (hb.below h.le h.bel.size), h.hE.but hb h.neE, h.hR.but hb h.neR, h.hK.but hb h.neK, ha, h.neE, h.neR, h.neK, h.le, h.ltR, h.neKR⟩
def editS (xs : List GRule) (ls : List Int) (n : Int) (e : GEdit) : Option (List GRule) :=
  if e.kind = 1 then addO (addO (addO (some []) (limO (partG xs ls 0 e.i))) (some e.part)) (limO (partG xs ls e.i n))
  else if e.kind = 2 then addO (addO (some []) (limO (partG xs ls 0 e.i))) (limO (partG xs ls e.j n))
  else if e.kind = 3 then addO (addO (addO (some []) (limO (partG xs ls 0 e.k))) (limO (partG xs ls e.i e.j))) (limO (partG xs ls e.k n))
  else if e.kind = 4 then
    if e.k ≤ e.i then addO (addO (addO (addO (some []) (limO (partG xs ls 0 e.k))) (limO (partG xs ls e.i e.j))) (limO (partG xs ls e.k e.i))) (limO (partG xs ls e.j n))
    else addO (addO (addO (addO (some []) (limO (partG xs ls 0 e.i))) (limO (partG xs ls e.j e.k))) (limO (partG xs ls e.i e.j))) (limO (partG xs ls e.k n))
  else addO (addO (addO (some []) (limO (partG xs ls 0 e.i))) ((limO (partG xs ls e.i e.j)).bind (chgO e))) (limO (partG xs ls e.j n))
def editG (s : Option (List GRule)) : List GRule := match s with | some o => trimG o | none => []
def editC (s : Option (List GRule)) : Int := match s with | some _ => 0 | none => 3
def kindOk (e : GEdit) : Prop := e.kind = 1 ∨ e.kind = 2 ∨ e.kind = 3 ∨ e.kind = 4 ∨ chgOK e
theorem asm_start {W : World} {b : Nat} {vG vL : Value} {xs : List GRule} {ls : List Int} (h : Blk W b #[vG, vL, .slice none 0 0, .int .i64 0] 199) (hg : Sl RuleE W b vG xs) (hl : Sl IntE W b vL ls) : Asm W b xs ls (some []) :=
  ⟨vG, vL, .slice none 0 0, [], 0, h, hg, hl, World.ownsRow_nil _ _ _ _, .inl ⟨rfl, rfl, rfl⟩, rfl⟩
theorem edJ_start1 {w w1 : World} {E R : Nat} {e : GEdit} {vR vG vL : Value} {xs : List GRule} {ls : List Int} (hb : Below w.heap.size w w1) (hE : Blk w1 E (editCells e vR) 46) (hR : Blk w1 R #[.slice none 0 0] 30)
    (hg : Sl RuleE w1 w1.heap.size vG xs) (hl : Sl IntE w1 w1.heap.size vL ls) (hr : w.heap.size ≤ R) :
    EdJ w E R (w1.heap.size + 1) w1.heap.size e vR xs ls (some []) ((w1.alloc (.cells #[vG, vL, .slice none 0 0, .int .i64 0] 199)).alloc (.cells #[.pointer (some ⟨w1.heap.size, 0, none⟩)] 197)).drew := by
  have h1 := hE.lt; have h2 := hR.lt; have h3 := hb.size
  have h4 : Blk (w1.alloc (.cells #[vG, vL, .slice none 0 0, .int .i64 0] 199)) w1.heap.size _ _ := Blk.new _ _ _
  refine ⟨((hb.alloc h3 _).alloc (by simp; omega) _).drew, (hE.alloc _).alloc _, (hR.alloc _).alloc _, ?_, asm_start (h4.alloc _) ?_ ?_, by omega, by omega, by omega, h3, hr, by omega⟩
  · have := Blk.new (w1.alloc (.cells #[vG, vL, .slice none 0 0, .int .i64 0] 199)) #[.pointer (some ⟨w1.heap.size, 0, none⟩)] 197
    exact Blk.drew (by simpa [Blk] using this)
  · exact hg.below (((Below.refl _ _).alloc (Nat.le_refl _) _).alloc (by simp) _).drew
  · exact hl.below (((Below.refl _ _).alloc (Nat.le_refl _) _).alloc (by simp) _).drew
theorem edJ_start2 {w w1 : World} {E R : Nat} {e : GEdit} {vR vG vL : Value} {xs : List GRule} {ls : List Int} (hb : Below w.heap.size w w1) (hE : Blk w1 E (editCells e vR) 46) (hR : Blk w1 R #[.slice none 0 0] 30)
    (hg : Sl RuleE w1 w1.heap.size vG xs) (hl : Sl IntE w1 w1.heap.size vL ls) (hr : w.heap.size ≤ R) :
    EdJ w E R w1.heap.size (w1.heap.size + 1) e vR xs ls (some []) ((w1.alloc (.cells #[.pointer (some ⟨w1.heap.size + 1, 0, none⟩)] 197)).alloc (.cells #[vG, vL, .slice none 0 0, .int .i64 0] 199)).drew := by
  have h1 := hE.lt; have h2 := hR.lt; have h3 := hb.size
  have h4 : Blk (w1.alloc (.cells #[.pointer (some ⟨w1.heap.size + 1, 0, none⟩)] 197)) w1.heap.size _ _ := Blk.new _ _ _
  have hbz := (((Below.refl w1.heap.size w1).alloc (Nat.le_refl _) (.cells #[.pointer (some ⟨w1.heap.size + 1, 0, none⟩)] 197)).alloc (by simp) (.cells #[vG, vL, .slice none 0 0, .int .i64 0] 199)).drew
  refine ⟨((hb.alloc h3 _).alloc (by simp; omega) _).drew, (hE.alloc _).alloc _, (hR.alloc _).alloc _, h4.alloc _, asm_start ?_ ((hg.below hbz).le (by omega)) ((hl.below hbz).le (by omega)), by omega, by omega, by omega, by omega, hr, by omega⟩
  have := Blk.new (w1.alloc (.cells #[.pointer (some ⟨w1.heap.size + 1, 0, none⟩)] 197)) #[vG, vL, .slice none 0 0, .int .i64 0] 199
  exact Blk.drew (by simpa [Blk] using this)
set_option maxRecDepth 100000 in
set_option maxHeartbeats 4000000 in
theorem edited_any (vG vR : Value) (xs : List GRule) (ls : List Int) (e : GEdit) (w : World) (hG : Sl RuleE w w.heap.size vG xs) (hR : Sl RuleE w w.heap.size vR e.part) (hl : lens xs = some ls) (hn : xs.length ≤ 1048576) (hk : kindOk e) (hp : gramOk e.part = true) (htab : Lib.TabIs Tryz.prog w "math/bits.deBruijn64tab" .u8 deB64) :
    Calls Tryz.prog 90 #[.agg #[vG], .agg (editCells e vR)] w (GRes (editG (editS xs ls (lastI ls) e)) (editC (editS xs ls (lastI ls) e)) w) := by
  have HG := Lib.hid hG
  have HR := Lib.hid hR
  have HL := Lib.hid hl
  have HK := Lib.hid hk
  have HP := Lib.hid hp
  have HT := Lib.hid htab
  obtain ⟨AG, cG, rfl, _⟩ := hG
  obtain ⟨AR, cR, rfl, _⟩ := hR
  clear hl hk hp htab
  unfold editCells
  go_enter Tryz.func90, Tryz.ntmps90
  go_wp2_with fail
  refine (lengths_any _ xs _ (HG.out.up (by repeat (first | exact Below.refl _ _ | (refine Below.alloc ?_ (by first | omega | (simp; done) | (simp; omega)) _) | (refine Below.setCell ?_ (by first | exact Nat.le_refl _ | (show _ ≤ _; omega) | (simp; done) | (simp; omega)) _) | refine below_drewN ?_ _ | refine Below.drew ?_))) (by omega)).mono ?_
  rintro e1 w1 ⟨hb, (⟨ls', v1, h1, rfl, h2⟩ | ⟨h1, rfl⟩)⟩
  case inr => rw [HL.out] at h1; cases h1
  have h3 : ls' = ls := by rw [HL.out] at h1; exact (Option.some.inj h1).symm
  subst h3
  obtain ⟨hb1, K2⟩ := Below.unalloc hb
  obtain ⟨hb2, K1⟩ := Below.unalloc hb1
  obtain ⟨hb3, K0⟩ := Below.unalloc hb2
  have KP : Blk w1 w.heap.size #[.slice AG xs.length cG] 30 := K0
  have KE : Blk w1 (w.heap.size + 1) (editCells e (.slice AR e.part.length cR)) 46 := by simpa [Blk, editCells] using K1
  have KR : Blk w1 (w.heap.size + 2) #[.slice none 0 0] 30 := by simpa [Blk] using K2
  have HL1 := Lib.hid (OwnInts.sl h2)
  have HB := Lib.hid hb3
  have HE1 := Lib.hid KE
  have HR1 := Lib.hid KR
  obtain ⟨AL, cL, rfl, _⟩ := OwnInts.sl h2
  have HI := Lib.hid h2
  clear hb hb1 hb2 hb3 K0 K1 K2 KE KR h1 h2
  have cP := KP.cell (i := 0) (v := .slice AG xs.length cG) rfl
  have lP := KP.lt
  have lR1 := HR1.out.lt
  go_wp2_with fail
  go_cut [8, 9] (fun s8 s9 wx => ∃ K b : Nat, s8 = .int .i64 (lastI ls') ∧ s9 = .pointer (some ⟨K, 0, none⟩) ∧ EdJ w (w.heap.size + 1) (w.heap.size + 2) K b e (.slice AR e.part.length cR) xs ls' (some []) wx)
  case first =>
    go_region_law (go_simp; go_at_call 86; (refine (last_any _ ls' _ ?_).mono ?_); (first | (exact HL1.out.up (by repeat (first | exact Below.refl _ _ | (refine Below.alloc ?_ (by first | omega | (simp; done) | (simp; omega)) _) | (refine Below.setCell ?_ (by first | exact Nat.le_refl _ | (show _ ≤ _; omega) | (simp; done) | (simp; omega)) _) | refine below_drewN ?_ _ | refine Below.drew ?_))) | skip); rintro e2 w2 ⟨rfl, rfl⟩)
    all_goals
      go_wp2_with fail
      go_meet
      first
        | exact ⟨_, _, rfl, rfl, edJ_start1 HB.out HE1.out HR1.out (HG.out.up HB.out) HL1.out (by omega)⟩
        | exact ⟨_, _, rfl, rfl, edJ_start2 HB.out HE1.out HR1.out (HG.out.up HB.out) HL1.out (by omega)⟩
  -- GEN
  case rest =>
    obtain ⟨K, b, rfl, rfl, hj⟩ := hcut
    have HJ1 := Lib.hid hj
    clear hj cP lP lR1 KP HE1 HR1 HL1 HI HB
    rcases HK.out with hk | hk | hk | hk | hkk
    · have x0 := HJ1.out.hE.cell (i := 0) (v := .int .i64 1) (by rw [← hk]; rfl)
      have HKE := Lib.hid hk
      clear hk
      have aK := HJ1.out.hK.cell (i := 0) (v := .pointer (some ⟨b, 0, none⟩)) rfl
      have aE1 := HJ1.out.hE.cell (i := 1) (v := .int .i64 e.i) rfl
      have aB := HJ1.out.asm.lt
      have aE := HJ1.out.hE.lt
      have aKl := HJ1.out.hK.lt
      go_wp2_with fail
      refine (asmKeep_any b xs ls' _ 0 (e.i) _ HJ1.out.asm HL.out hn).mono ?_
      rintro e6 w6 ⟨rfl, hb1, ha1⟩
      have HJ2 := Lib.hid (HJ1.out.next hb1 ha1)
      clear aK aB aE aKl aE1 hb1 ha1 HJ1
      have aK := HJ2.out.hK.cell (i := 0) (v := .pointer (some ⟨b, 0, none⟩)) rfl
      have aE4 := HJ2.out.hE.cell (i := 4) (v := .slice AR e.part.length cR) rfl
      have aB := HJ2.out.asm.lt
      go_wp2_with fail
      refine (asmAdd_any b xs ls' _ (some e.part) (.slice AR e.part.length cR) e.part 0 _ HJ2.out.asm (sl_ne (HR.out.below HJ2.out.bel) HJ2.out.le aB) (.inl ⟨rfl, rfl, HP.out⟩)).mono ?_
      rintro e7 w7 ⟨rfl, hb2, ha2⟩
      have HJ3 := Lib.hid (HJ2.out.next hb2 ha2)
      clear aK aE4 aB hb2 ha2 HJ2
      have aK := HJ3.out.hK.cell (i := 0) (v := .pointer (some ⟨b, 0, none⟩)) rfl
      have aE1 := HJ3.out.hE.cell (i := 1) (v := .int .i64 e.i) rfl
      have aB := HJ3.out.asm.lt
      have aE := HJ3.out.hE.lt
      have aKl := HJ3.out.hK.lt
      go_wp2_with fail
      refine (asmKeep_any b xs ls' _ e.i (lastI ls') _ HJ3.out.asm HL.out hn).mono ?_
      rintro e8 w8 ⟨rfl, hb3, ha3⟩
      have HJ4 := Lib.hid (HJ3.out.next hb3 ha3)
      clear aK aB aE aKl aE1 hb3 ha3 HJ3
      have hQ : editS xs ls' (lastI ls') e = addO (addO (addO (some []) (limO (partG xs ls' 0 (e.i)))) (some e.part)) (limO (partG xs ls' e.i (lastI ls'))) := by unfold editS; rw [if_pos HKE.out]
      have HQ := Lib.hid hQ
      clear hQ
      obtain ⟨vG9, vL9, vO, out, c9, hB9, hG9, hL9, hO9, hs9, hok9⟩ := HJ4.out.asm
      obtain ⟨AO, kO, rfl, _⟩ := own_nil hO9
      have aK := HJ4.out.hK.cell (i := 0) (v := .pointer (some ⟨b, 0, none⟩)) rfl
      have aR := HJ4.out.hR.cell (i := 0) (v := .slice none 0 0) rfl
      have aRf := HJ4.out.hR.frozen 0
      have aRl := HJ4.out.hR.lt
      have HO9 := Lib.hid hO9
      have HBE := Lib.hid HJ4.out.bel
      have HRR := Lib.hid HJ4.out.hR
      have hle := HJ4.out.le
      have HOK := Lib.hid hok9
      have aBl := hB9.lt
      have nKR : K ≠ w.heap.size + 1 + 1 := HJ4.out.neKR
      have nbR : b ≠ w.heap.size + 1 + 1 := fun h => HJ4.out.neR h.symm
      clear hG9 hL9 hO9
      rcases hs9 with ⟨hs, rfl, _⟩ | ⟨hs, rfl⟩
      · have HS := Lib.hid hs
        have a2 := hB9.cell (i := 2) (v := .slice AO out.length kO) rfl
        have a3 := hB9.cell (i := 3) (v := .int .i64 0) rfl
        clear hs hB9 hok9 HJ4
        go_wp2_with fail
        refine (trimmed_any _ out _ HO9.out.sl (by have := gram_len400 HOK.out; omega) (okAll_lens (gram_lens HOK.out).2.choose_spec)).mono ?_
        rintro e10 w10 ⟨hb10, v10, own10, rfl⟩
        have HR10 := Lib.hid (HRR.out.up hb10)
        have HB10 := Lib.hid (Below.tr HBE.out hb10)
        have HO10 := Lib.hid own10
        obtain ⟨A10, k10, rfl, _⟩ := own_nil own10
        have b0 := HR10.out.cell (i := 0) (v := .slice none 0 0) rfl
        have b1 := HR10.out.frozen 0
        have b2 := HR10.out.lt
        have hzz := HBE.out.size
        clear hb10 own10 a2 a3 aK aR aRf
        go_wp2_with fail
        refine bodyPost_ret (v := .tuple #[.agg #[.slice A10 (trimG out).length k10], .int .i64 0]) (by simp [results, Tryz.results90, go_sem, b0]) rfl ⟨HB10.out.setCell (by show w.heap.size ≤ w.heap.size + 2; omega) _, .slice A10 (trimG out).length k10, ?_, by rw [HQ.out, HS.out]; rfl⟩
        rw [HQ.out, HS.out]
        exact ownsRow_more (ownsRow_setCell_below HO10.out (a := ⟨w.heap.size + 2, 0, none⟩) aRl _) hzz
      · have HS := Lib.hid hs
        have a3 := hB9.cell (i := 3) (v := .int .i64 3) rfl
        clear hs hB9 hok9 HJ4
        go_wp2_with fail
        go_region
        all_goals
          go_wp2_with fail
          refine bodyPost_ret (v := .tuple #[.agg #[.slice none 0 0], .int .i64 3]) (by simp [results, Tryz.results90, go_sem, aR]) rfl ⟨(HBE.out.drew).setCell (by show w.heap.size ≤ w.heap.size + 2; omega) _, .slice none 0 0, ?_, by rw [HQ.out, HS.out]; rfl⟩
          rw [HQ.out, HS.out]
          exact World.ownsRow_nil _ _ _ _
    · have x0 := HJ1.out.hE.cell (i := 0) (v := .int .i64 2) (by rw [← hk]; rfl)
      have HKE := Lib.hid hk
      clear hk
      have aK := HJ1.out.hK.cell (i := 0) (v := .pointer (some ⟨b, 0, none⟩)) rfl
      have aE1 := HJ1.out.hE.cell (i := 1) (v := .int .i64 e.i) rfl
      have aB := HJ1.out.asm.lt
      have aE := HJ1.out.hE.lt
      have aKl := HJ1.out.hK.lt
      go_wp2_with fail
      refine (asmKeep_any b xs ls' _ 0 (e.i) _ HJ1.out.asm HL.out hn).mono ?_
      rintro e6 w6 ⟨rfl, hb1, ha1⟩
      have HJ2 := Lib.hid (HJ1.out.next hb1 ha1)
      clear aK aB aE aKl aE1 hb1 ha1 HJ1
      have aK := HJ2.out.hK.cell (i := 0) (v := .pointer (some ⟨b, 0, none⟩)) rfl
      have aE2 := HJ2.out.hE.cell (i := 2) (v := .int .i64 e.j) rfl
      have aB := HJ2.out.asm.lt
      have aE := HJ2.out.hE.lt
      have aKl := HJ2.out.hK.lt
      go_wp2_with fail
      refine (asmKeep_any b xs ls' _ e.j (lastI ls') _ HJ2.out.asm HL.out hn).mono ?_
      rintro e7 w7 ⟨rfl, hb2, ha2⟩
      have HJ3 := Lib.hid (HJ2.out.next hb2 ha2)
      clear aK aB aE aKl aE2 hb2 ha2 HJ2
      have hQ : editS xs ls' (lastI ls') e = addO (addO (some []) (limO (partG xs ls' 0 (e.i)))) (limO (partG xs ls' e.j (lastI ls'))) := by unfold editS; rw [if_neg (by rw [HKE.out]; decide), if_pos HKE.out]
      have HQ := Lib.hid hQ
      clear hQ
      obtain ⟨vG9, vL9, vO, out, c9, hB9, hG9, hL9, hO9, hs9, hok9⟩ := HJ3.out.asm
      obtain ⟨AO, kO, rfl, _⟩ := own_nil hO9
      have aK := HJ3.out.hK.cell (i := 0) (v := .pointer (some ⟨b, 0, none⟩)) rfl
      have aR := HJ3.out.hR.cell (i := 0) (v := .slice none 0 0) rfl
      have aRf := HJ3.out.hR.frozen 0
      have aRl := HJ3.out.hR.lt
      have HO9 := Lib.hid hO9
      have HBE := Lib.hid HJ3.out.bel
      have HRR := Lib.hid HJ3.out.hR
      have hle := HJ3.out.le
      have HOK := Lib.hid hok9
      have aBl := hB9.lt
      have nKR : K ≠ w.heap.size + 1 + 1 := HJ3.out.neKR
      have nbR : b ≠ w.heap.size + 1 + 1 := fun h => HJ3.out.neR h.symm
      clear hG9 hL9 hO9
      rcases hs9 with ⟨hs, rfl, _⟩ | ⟨hs, rfl⟩
      · have HS := Lib.hid hs
        have a2 := hB9.cell (i := 2) (v := .slice AO out.length kO) rfl
        have a3 := hB9.cell (i := 3) (v := .int .i64 0) rfl
        clear hs hB9 hok9 HJ3
        go_wp2_with fail
        refine (trimmed_any _ out _ HO9.out.sl (by have := gram_len400 HOK.out; omega) (okAll_lens (gram_lens HOK.out).2.choose_spec)).mono ?_
        rintro e10 w10 ⟨hb10, v10, own10, rfl⟩
        have HR10 := Lib.hid (HRR.out.up hb10)
        have HB10 := Lib.hid (Below.tr HBE.out hb10)
        have HO10 := Lib.hid own10
        obtain ⟨A10, k10, rfl, _⟩ := own_nil own10
        have b0 := HR10.out.cell (i := 0) (v := .slice none 0 0) rfl
        have b1 := HR10.out.frozen 0
        have b2 := HR10.out.lt
        have hzz := HBE.out.size
        clear hb10 own10 a2 a3 aK aR aRf
        go_wp2_with fail
        refine bodyPost_ret (v := .tuple #[.agg #[.slice A10 (trimG out).length k10], .int .i64 0]) (by simp [results, Tryz.results90, go_sem, b0]) rfl ⟨HB10.out.setCell (by show w.heap.size ≤ w.heap.size + 2; omega) _, .slice A10 (trimG out).length k10, ?_, by rw [HQ.out, HS.out]; rfl⟩
        rw [HQ.out, HS.out]
        exact ownsRow_more (ownsRow_setCell_below HO10.out (a := ⟨w.heap.size + 2, 0, none⟩) aRl _) hzz
      · have HS := Lib.hid hs
        have a3 := hB9.cell (i := 3) (v := .int .i64 3) rfl
        clear hs hB9 hok9 HJ3
        go_wp2_with fail
        go_region
        all_goals
          go_wp2_with fail
          refine bodyPost_ret (v := .tuple #[.agg #[.slice none 0 0], .int .i64 3]) (by simp [results, Tryz.results90, go_sem, aR]) rfl ⟨(HBE.out.drew).setCell (by show w.heap.size ≤ w.heap.size + 2; omega) _, .slice none 0 0, ?_, by rw [HQ.out, HS.out]; rfl⟩
          rw [HQ.out, HS.out]
          exact World.ownsRow_nil _ _ _ _
    · have x0 := HJ1.out.hE.cell (i := 0) (v := .int .i64 3) (by rw [← hk]; rfl)
      have HKE := Lib.hid hk
      clear hk
      have aK := HJ1.out.hK.cell (i := 0) (v := .pointer (some ⟨b, 0, none⟩)) rfl
      have aE3 := HJ1.out.hE.cell (i := 3) (v := .int .i64 e.k) rfl
      have aB := HJ1.out.asm.lt
      have aE := HJ1.out.hE.lt
      have aKl := HJ1.out.hK.lt
      go_wp2_with fail
      refine (asmKeep_any b xs ls' _ 0 (e.k) _ HJ1.out.asm HL.out hn).mono ?_
      rintro e6 w6 ⟨rfl, hb1, ha1⟩
      have HJ2 := Lib.hid (HJ1.out.next hb1 ha1)
      clear aK aB aE aKl aE3 hb1 ha1 HJ1
      have aK := HJ2.out.hK.cell (i := 0) (v := .pointer (some ⟨b, 0, none⟩)) rfl
      have aE1 := HJ2.out.hE.cell (i := 1) (v := .int .i64 e.i) rfl
      have aE2 := HJ2.out.hE.cell (i := 2) (v := .int .i64 e.j) rfl
      have aB := HJ2.out.asm.lt
      have aE := HJ2.out.hE.lt
      have aKl := HJ2.out.hK.lt
      go_wp2_with fail
      refine (asmKeep_any b xs ls' _ e.i (e.j) _ HJ2.out.asm HL.out hn).mono ?_
      rintro e7 w7 ⟨rfl, hb2, ha2⟩
      have HJ3 := Lib.hid (HJ2.out.next hb2 ha2)
      clear aK aB aE aKl aE1 aE2 hb2 ha2 HJ2
      have aK := HJ3.out.hK.cell (i := 0) (v := .pointer (some ⟨b, 0, none⟩)) rfl
      have aE3 := HJ3.out.hE.cell (i := 3) (v := .int .i64 e.k) rfl
      have aB := HJ3.out.asm.lt
      have aE := HJ3.out.hE.lt
      have aKl := HJ3.out.hK.lt
      go_wp2_with fail
      refine (asmKeep_any b xs ls' _ e.k (lastI ls') _ HJ3.out.asm HL.out hn).mono ?_
      rintro e8 w8 ⟨rfl, hb3, ha3⟩
      have HJ4 := Lib.hid (HJ3.out.next hb3 ha3)
      clear aK aB aE aKl aE3 hb3 ha3 HJ3
      have hQ : editS xs ls' (lastI ls') e = addO (addO (addO (some []) (limO (partG xs ls' 0 (e.k)))) (limO (partG xs ls' e.i (e.j)))) (limO (partG xs ls' e.k (lastI ls'))) := by unfold editS; rw [if_neg (by rw [HKE.out]; decide), if_neg (by rw [HKE.out]; decide), if_pos HKE.out]
      have HQ := Lib.hid hQ
      clear hQ
      obtain ⟨vG9, vL9, vO, out, c9, hB9, hG9, hL9, hO9, hs9, hok9⟩ := HJ4.out.asm
      obtain ⟨AO, kO, rfl, _⟩ := own_nil hO9
      have aK := HJ4.out.hK.cell (i := 0) (v := .pointer (some ⟨b, 0, none⟩)) rfl
      have aR := HJ4.out.hR.cell (i := 0) (v := .slice none 0 0) rfl
      have aRf := HJ4.out.hR.frozen 0
      have aRl := HJ4.out.hR.lt
      have HO9 := Lib.hid hO9
      have HBE := Lib.hid HJ4.out.bel
      have HRR := Lib.hid HJ4.out.hR
      have hle := HJ4.out.le
      have HOK := Lib.hid hok9
      have aBl := hB9.lt
      have nKR : K ≠ w.heap.size + 1 + 1 := HJ4.out.neKR
      have nbR : b ≠ w.heap.size + 1 + 1 := fun h => HJ4.out.neR h.symm
      clear hG9 hL9 hO9
      rcases hs9 with ⟨hs, rfl, _⟩ | ⟨hs, rfl⟩
      · have HS := Lib.hid hs
        have a2 := hB9.cell (i := 2) (v := .slice AO out.length kO) rfl
        have a3 := hB9.cell (i := 3) (v := .int .i64 0) rfl
        clear hs hB9 hok9 HJ4
        go_wp2_with fail
        refine (trimmed_any _ out _ HO9.out.sl (by have := gram_len400 HOK.out; omega) (okAll_lens (gram_lens HOK.out).2.choose_spec)).mono ?_
        rintro e10 w10 ⟨hb10, v10, own10, rfl⟩
        have HR10 := Lib.hid (HRR.out.up hb10)
        have HB10 := Lib.hid (Below.tr HBE.out hb10)
        have HO10 := Lib.hid own10
        obtain ⟨A10, k10, rfl, _⟩ := own_nil own10
        have b0 := HR10.out.cell (i := 0) (v := .slice none 0 0) rfl
        have b1 := HR10.out.frozen 0
        have b2 := HR10.out.lt
        have hzz := HBE.out.size
        clear hb10 own10 a2 a3 aK aR aRf
        go_wp2_with fail
        refine bodyPost_ret (v := .tuple #[.agg #[.slice A10 (trimG out).length k10], .int .i64 0]) (by simp [results, Tryz.results90, go_sem, b0]) rfl ⟨HB10.out.setCell (by show w.heap.size ≤ w.heap.size + 2; omega) _, .slice A10 (trimG out).length k10, ?_, by rw [HQ.out, HS.out]; rfl⟩
        rw [HQ.out, HS.out]
        exact ownsRow_more (ownsRow_setCell_below HO10.out (a := ⟨w.heap.size + 2, 0, none⟩) aRl _) hzz
      · have HS := Lib.hid hs
        have a3 := hB9.cell (i := 3) (v := .int .i64 3) rfl
        clear hs hB9 hok9 HJ4
        go_wp2_with fail
        go_region
        all_goals
          go_wp2_with fail
          refine bodyPost_ret (v := .tuple #[.agg #[.slice none 0 0], .int .i64 3]) (by simp [results, Tryz.results90, go_sem, aR]) rfl ⟨(HBE.out.drew).setCell (by show w.heap.size ≤ w.heap.size + 2; omega) _, .slice none 0 0, ?_, by rw [HQ.out, HS.out]; rfl⟩
          rw [HQ.out, HS.out]
          exact World.ownsRow_nil _ _ _ _
    · have x0 := HJ1.out.hE.cell (i := 0) (v := .int .i64 4) (by rw [← hk]; rfl)
      have HKE := Lib.hid hk
      clear hk
      have y1 := HJ1.out.hE.cell (i := 1) (v := .int .i64 e.i) rfl
      have y3 := HJ1.out.hE.cell (i := 3) (v := .int .i64 e.k) rfl
      by_cases hki : e.k ≤ e.i
      · have HKI := Lib.hid hki
        have aK := HJ1.out.hK.cell (i := 0) (v := .pointer (some ⟨b, 0, none⟩)) rfl
        have aE3 := HJ1.out.hE.cell (i := 3) (v := .int .i64 e.k) rfl
        have aB := HJ1.out.asm.lt
        have aE := HJ1.out.hE.lt
        have aKl := HJ1.out.hK.lt
        go_wp2_with fail
        refine (asmKeep_any b xs ls' _ 0 (e.k) _ HJ1.out.asm HL.out hn).mono ?_
        rintro e6 w6 ⟨rfl, hb1, ha1⟩
        have HJ2 := Lib.hid (HJ1.out.next hb1 ha1)
        clear aK aB aE aKl aE3 hb1 ha1 HJ1
        have aK := HJ2.out.hK.cell (i := 0) (v := .pointer (some ⟨b, 0, none⟩)) rfl
        have aE1 := HJ2.out.hE.cell (i := 1) (v := .int .i64 e.i) rfl
        have aE2 := HJ2.out.hE.cell (i := 2) (v := .int .i64 e.j) rfl
        have aB := HJ2.out.asm.lt
        have aE := HJ2.out.hE.lt
        have aKl := HJ2.out.hK.lt
        go_wp2_with fail
        refine (asmKeep_any b xs ls' _ e.i (e.j) _ HJ2.out.asm HL.out hn).mono ?_
        rintro e7 w7 ⟨rfl, hb2, ha2⟩
        have HJ3 := Lib.hid (HJ2.out.next hb2 ha2)
        clear aK aB aE aKl aE1 aE2 hb2 ha2 HJ2
        have aK := HJ3.out.hK.cell (i := 0) (v := .pointer (some ⟨b, 0, none⟩)) rfl
        have aE1 := HJ3.out.hE.cell (i := 1) (v := .int .i64 e.i) rfl
        have aE3 := HJ3.out.hE.cell (i := 3) (v := .int .i64 e.k) rfl
        have aB := HJ3.out.asm.lt
        have aE := HJ3.out.hE.lt
        have aKl := HJ3.out.hK.lt
        go_wp2_with fail
        refine (asmKeep_any b xs ls' _ e.k (e.i) _ HJ3.out.asm HL.out hn).mono ?_
        rintro e8 w8 ⟨rfl, hb3, ha3⟩
        have HJ4 := Lib.hid (HJ3.out.next hb3 ha3)
        clear aK aB aE aKl aE1 aE3 hb3 ha3 HJ3
        have aK := HJ4.out.hK.cell (i := 0) (v := .pointer (some ⟨b, 0, none⟩)) rfl
        have aE2 := HJ4.out.hE.cell (i := 2) (v := .int .i64 e.j) rfl
        have aB := HJ4.out.asm.lt
        have aE := HJ4.out.hE.lt
        have aKl := HJ4.out.hK.lt
        go_wp2_with fail
        refine (asmKeep_any b xs ls' _ e.j (lastI ls') _ HJ4.out.asm HL.out hn).mono ?_
        rintro e9 w9 ⟨rfl, hb4, ha4⟩
        have HJ5 := Lib.hid (HJ4.out.next hb4 ha4)
        clear aK aB aE aKl aE2 hb4 ha4 HJ4
        have hQ : editS xs ls' (lastI ls') e = addO (addO (addO (addO (some []) (limO (partG xs ls' 0 (e.k)))) (limO (partG xs ls' e.i (e.j)))) (limO (partG xs ls' e.k (e.i)))) (limO (partG xs ls' e.j (lastI ls'))) := by unfold editS; rw [if_neg (by rw [HKE.out]; decide), if_neg (by rw [HKE.out]; decide), if_neg (by rw [HKE.out]; decide), if_pos HKE.out, if_pos HKI.out]
        have HQ := Lib.hid hQ
        clear hQ
        obtain ⟨vG9, vL9, vO, out, c9, hB9, hG9, hL9, hO9, hs9, hok9⟩ := HJ5.out.asm
        obtain ⟨AO, kO, rfl, _⟩ := own_nil hO9
        have aK := HJ5.out.hK.cell (i := 0) (v := .pointer (some ⟨b, 0, none⟩)) rfl
        have aR := HJ5.out.hR.cell (i := 0) (v := .slice none 0 0) rfl
        have aRf := HJ5.out.hR.frozen 0
        have aRl := HJ5.out.hR.lt
        have HO9 := Lib.hid hO9
        have HBE := Lib.hid HJ5.out.bel
        have HRR := Lib.hid HJ5.out.hR
        have hle := HJ5.out.le
        have HOK := Lib.hid hok9
        have aBl := hB9.lt
        have nKR : K ≠ w.heap.size + 1 + 1 := HJ5.out.neKR
        have nbR : b ≠ w.heap.size + 1 + 1 := fun h => HJ5.out.neR h.symm
        clear hG9 hL9 hO9
        rcases hs9 with ⟨hs, rfl, _⟩ | ⟨hs, rfl⟩
        · have HS := Lib.hid hs
          have a2 := hB9.cell (i := 2) (v := .slice AO out.length kO) rfl
          have a3 := hB9.cell (i := 3) (v := .int .i64 0) rfl
          clear hs hB9 hok9 HJ5
          go_wp2_with fail
          refine (trimmed_any _ out _ HO9.out.sl (by have := gram_len400 HOK.out; omega) (okAll_lens (gram_lens HOK.out).2.choose_spec)).mono ?_
          rintro e10 w10 ⟨hb10, v10, own10, rfl⟩
          have HR10 := Lib.hid (HRR.out.up hb10)
          have HB10 := Lib.hid (Below.tr HBE.out hb10)
          have HO10 := Lib.hid own10
          obtain ⟨A10, k10, rfl, _⟩ := own_nil own10
          have b0 := HR10.out.cell (i := 0) (v := .slice none 0 0) rfl
          have b1 := HR10.out.frozen 0
          have b2 := HR10.out.lt
          have hzz := HBE.out.size
          clear hb10 own10 a2 a3 aK aR aRf
          go_wp2_with fail
          refine bodyPost_ret (v := .tuple #[.agg #[.slice A10 (trimG out).length k10], .int .i64 0]) (by simp [results, Tryz.results90, go_sem, b0]) rfl ⟨HB10.out.setCell (by show w.heap.size ≤ w.heap.size + 2; omega) _, .slice A10 (trimG out).length k10, ?_, by rw [HQ.out, HS.out]; rfl⟩
          rw [HQ.out, HS.out]
          exact ownsRow_more (ownsRow_setCell_below HO10.out (a := ⟨w.heap.size + 2, 0, none⟩) aRl _) hzz
        · have HS := Lib.hid hs
          have a3 := hB9.cell (i := 3) (v := .int .i64 3) rfl
          clear hs hB9 hok9 HJ5
          go_wp2_with fail
          go_region
          all_goals
            go_wp2_with fail
            refine bodyPost_ret (v := .tuple #[.agg #[.slice none 0 0], .int .i64 3]) (by simp [results, Tryz.results90, go_sem, aR]) rfl ⟨(HBE.out.drew).setCell (by show w.heap.size ≤ w.heap.size + 2; omega) _, .slice none 0 0, ?_, by rw [HQ.out, HS.out]; rfl⟩
            rw [HQ.out, HS.out]
            exact World.ownsRow_nil _ _ _ _
      · have HKI := Lib.hid hki
        have aK := HJ1.out.hK.cell (i := 0) (v := .pointer (some ⟨b, 0, none⟩)) rfl
        have aE1 := HJ1.out.hE.cell (i := 1) (v := .int .i64 e.i) rfl
        have aB := HJ1.out.asm.lt
        have aE := HJ1.out.hE.lt
        have aKl := HJ1.out.hK.lt
        go_wp2_with fail
        refine (asmKeep_any b xs ls' _ 0 (e.i) _ HJ1.out.asm HL.out hn).mono ?_
        rintro e6 w6 ⟨rfl, hb1, ha1⟩
        have HJ2 := Lib.hid (HJ1.out.next hb1 ha1)
        clear aK aB aE aKl aE1 hb1 ha1 HJ1
        have aK := HJ2.out.hK.cell (i := 0) (v := .pointer (some ⟨b, 0, none⟩)) rfl
        have aE2 := HJ2.out.hE.cell (i := 2) (v := .int .i64 e.j) rfl
        have aE3 := HJ2.out.hE.cell (i := 3) (v := .int .i64 e.k) rfl
        have aB := HJ2.out.asm.lt
        have aE := HJ2.out.hE.lt
        have aKl := HJ2.out.hK.lt
        go_wp2_with fail
        refine (asmKeep_any b xs ls' _ e.j (e.k) _ HJ2.out.asm HL.out hn).mono ?_
        rintro e7 w7 ⟨rfl, hb2, ha2⟩
        have HJ3 := Lib.hid (HJ2.out.next hb2 ha2)
        clear aK aB aE aKl aE2 aE3 hb2 ha2 HJ2
        have aK := HJ3.out.hK.cell (i := 0) (v := .pointer (some ⟨b, 0, none⟩)) rfl
        have aE1 := HJ3.out.hE.cell (i := 1) (v := .int .i64 e.i) rfl
        have aE2 := HJ3.out.hE.cell (i := 2) (v := .int .i64 e.j) rfl
        have aB := HJ3.out.asm.lt
        have aE := HJ3.out.hE.lt
        have aKl := HJ3.out.hK.lt
        go_wp2_with fail
        refine (asmKeep_any b xs ls' _ e.i (e.j) _ HJ3.out.asm HL.out hn).mono ?_
        rintro e8 w8 ⟨rfl, hb3, ha3⟩
        have HJ4 := Lib.hid (HJ3.out.next hb3 ha3)
        clear aK aB aE aKl aE1 aE2 hb3 ha3 HJ3
        have aK := HJ4.out.hK.cell (i := 0) (v := .pointer (some ⟨b, 0, none⟩)) rfl
        have aE3 := HJ4.out.hE.cell (i := 3) (v := .int .i64 e.k) rfl
        have aB := HJ4.out.asm.lt
        have aE := HJ4.out.hE.lt
        have aKl := HJ4.out.hK.lt
        go_wp2_with fail
        refine (asmKeep_any b xs ls' _ e.k (lastI ls') _ HJ4.out.asm HL.out hn).mono ?_
        rintro e9 w9 ⟨rfl, hb4, ha4⟩
        have HJ5 := Lib.hid (HJ4.out.next hb4 ha4)
        clear aK aB aE aKl aE3 hb4 ha4 HJ4
        have hQ : editS xs ls' (lastI ls') e = addO (addO (addO (addO (some []) (limO (partG xs ls' 0 (e.i)))) (limO (partG xs ls' e.j (e.k)))) (limO (partG xs ls' e.i (e.j)))) (limO (partG xs ls' e.k (lastI ls'))) := by unfold editS; rw [if_neg (by rw [HKE.out]; decide), if_neg (by rw [HKE.out]; decide), if_neg (by rw [HKE.out]; decide), if_pos HKE.out, if_neg (by have := HKI.out; omega)]
        have HQ := Lib.hid hQ
        clear hQ
        obtain ⟨vG9, vL9, vO, out, c9, hB9, hG9, hL9, hO9, hs9, hok9⟩ := HJ5.out.asm
        obtain ⟨AO, kO, rfl, _⟩ := own_nil hO9
        have aK := HJ5.out.hK.cell (i := 0) (v := .pointer (some ⟨b, 0, none⟩)) rfl
        have aR := HJ5.out.hR.cell (i := 0) (v := .slice none 0 0) rfl
        have aRf := HJ5.out.hR.frozen 0
        have aRl := HJ5.out.hR.lt
        have HO9 := Lib.hid hO9
        have HBE := Lib.hid HJ5.out.bel
        have HRR := Lib.hid HJ5.out.hR
        have hle := HJ5.out.le
        have HOK := Lib.hid hok9
        have aBl := hB9.lt
        have nKR : K ≠ w.heap.size + 1 + 1 := HJ5.out.neKR
        have nbR : b ≠ w.heap.size + 1 + 1 := fun h => HJ5.out.neR h.symm
        clear hG9 hL9 hO9
        rcases hs9 with ⟨hs, rfl, _⟩ | ⟨hs, rfl⟩
        · have HS := Lib.hid hs
          have a2 := hB9.cell (i := 2) (v := .slice AO out.length kO) rfl
          have a3 := hB9.cell (i := 3) (v := .int .i64 0) rfl
          clear hs hB9 hok9 HJ5
          go_wp2_with fail
          refine (trimmed_any _ out _ HO9.out.sl (by have := gram_len400 HOK.out; omega) (okAll_lens (gram_lens HOK.out).2.choose_spec)).mono ?_
          rintro e10 w10 ⟨hb10, v10, own10, rfl⟩
          have HR10 := Lib.hid (HRR.out.up hb10)
          have HB10 := Lib.hid (Below.tr HBE.out hb10)
          have HO10 := Lib.hid own10
          obtain ⟨A10, k10, rfl, _⟩ := own_nil own10
          have b0 := HR10.out.cell (i := 0) (v := .slice none 0 0) rfl
          have b1 := HR10.out.frozen 0
          have b2 := HR10.out.lt
          have hzz := HBE.out.size
          clear hb10 own10 a2 a3 aK aR aRf
          go_wp2_with fail
          refine bodyPost_ret (v := .tuple #[.agg #[.slice A10 (trimG out).length k10], .int .i64 0]) (by simp [results, Tryz.results90, go_sem, b0]) rfl ⟨HB10.out.setCell (by show w.heap.size ≤ w.heap.size + 2; omega) _, .slice A10 (trimG out).length k10, ?_, by rw [HQ.out, HS.out]; rfl⟩
          rw [HQ.out, HS.out]
          exact ownsRow_more (ownsRow_setCell_below HO10.out (a := ⟨w.heap.size + 2, 0, none⟩) aRl _) hzz
        · have HS := Lib.hid hs
          have a3 := hB9.cell (i := 3) (v := .int .i64 3) rfl
          clear hs hB9 hok9 HJ5
          go_wp2_with fail
          go_region
          all_goals
            go_wp2_with fail
            refine bodyPost_ret (v := .tuple #[.agg #[.slice none 0 0], .int .i64 3]) (by simp [results, Tryz.results90, go_sem, aR]) rfl ⟨(HBE.out.drew).setCell (by show w.heap.size ≤ w.heap.size + 2; omega) _, .slice none 0 0, ?_, by rw [HQ.out, HS.out]; rfl⟩
            rw [HQ.out, HS.out]
            exact World.ownsRow_nil _ _ _ _
    · have hkc : ¬ e.kind = 1 ∧ ¬ e.kind = 2 ∧ ¬ e.kind = 3 ∧ ¬ e.kind = 4 ∧ (e.kind = 5 ∨ e.kind = 6 ∨ e.kind = 7) := by unfold chgOK at hkk; omega
      have HKC := Lib.hid hkc
      have HKK := Lib.hid hkk
      obtain ⟨_, _, _, _, hk⟩ := hkc
      clear hkk
      rcases hk with hk | hk | hk
      · have x0 := HJ1.out.hE.cell (i := 0) (v := .int .i64 5) (by rw [← hk]; rfl)
        have HKE := Lib.hid hk
        clear hk
        have aK := HJ1.out.hK.cell (i := 0) (v := .pointer (some ⟨b, 0, none⟩)) rfl
        have aE1 := HJ1.out.hE.cell (i := 1) (v := .int .i64 e.i) rfl
        have aB := HJ1.out.asm.lt
        have aE := HJ1.out.hE.lt
        have aKl := HJ1.out.hK.lt
        go_wp2_with fail
        refine (asmKeep_any b xs ls' _ 0 (e.i) _ HJ1.out.asm HL.out hn).mono ?_
        rintro e6 w6 ⟨rfl, hb1, ha1⟩
        have HJ2 := Lib.hid (HJ1.out.next hb1 ha1)
        clear aK aB aE aKl aE1 hb1 ha1 HJ1
        have aB := HJ2.out.asm.lt
        go_wp2_with fail
        refine (changed_any (w.heap.size + 1) b K e (.slice AR e.part.length cR) xs ls' _ _ HJ2.out.hK HJ2.out.asm HJ2.out.hE HKK.out HL.out hn (tabB HT.out HJ2.out.bel)).mono ?_
        rintro e7 w7 ⟨rfl, hb2, ha2⟩
        have HJ3 := Lib.hid (HJ2.out.next hb2 ha2)
        clear aB hb2 ha2 HJ2
        have aK := HJ3.out.hK.cell (i := 0) (v := .pointer (some ⟨b, 0, none⟩)) rfl
        have aE2 := HJ3.out.hE.cell (i := 2) (v := .int .i64 e.j) rfl
        have aB := HJ3.out.asm.lt
        have aE := HJ3.out.hE.lt
        have aKl := HJ3.out.hK.lt
        go_wp2_with fail
        refine (asmKeep_any b xs ls' _ e.j (lastI ls') _ HJ3.out.asm HL.out hn).mono ?_
        rintro e8 w8 ⟨rfl, hb3, ha3⟩
        have HJ4 := Lib.hid (HJ3.out.next hb3 ha3)
        clear aK aB aE aKl aE2 hb3 ha3 HJ3
        have hQ : editS xs ls' (lastI ls') e = addO (addO (addO (some []) (limO (partG xs ls' 0 (e.i)))) ((limO (partG xs ls' e.i e.j)).bind (chgO e))) (limO (partG xs ls' e.j (lastI ls'))) := by unfold editS; rw [if_neg HKC.out.1, if_neg HKC.out.2.1, if_neg HKC.out.2.2.1, if_neg HKC.out.2.2.2.1]
        have HQ := Lib.hid hQ
        clear hQ
        obtain ⟨vG9, vL9, vO, out, c9, hB9, hG9, hL9, hO9, hs9, hok9⟩ := HJ4.out.asm
        obtain ⟨AO, kO, rfl, _⟩ := own_nil hO9
        have aK := HJ4.out.hK.cell (i := 0) (v := .pointer (some ⟨b, 0, none⟩)) rfl
        have aR := HJ4.out.hR.cell (i := 0) (v := .slice none 0 0) rfl
        have aRf := HJ4.out.hR.frozen 0
        have aRl := HJ4.out.hR.lt
        have HO9 := Lib.hid hO9
        have HBE := Lib.hid HJ4.out.bel
        have HRR := Lib.hid HJ4.out.hR
        have hle := HJ4.out.le
        have HOK := Lib.hid hok9
        have aBl := hB9.lt
        have nKR : K ≠ w.heap.size + 1 + 1 := HJ4.out.neKR
        have nbR : b ≠ w.heap.size + 1 + 1 := fun h => HJ4.out.neR h.symm
        clear hG9 hL9 hO9
        rcases hs9 with ⟨hs, rfl, _⟩ | ⟨hs, rfl⟩
        · have HS := Lib.hid hs
          have a2 := hB9.cell (i := 2) (v := .slice AO out.length kO) rfl
          have a3 := hB9.cell (i := 3) (v := .int .i64 0) rfl
          clear hs hB9 hok9 HJ4
          go_wp2_with fail
          refine (trimmed_any _ out _ HO9.out.sl (by have := gram_len400 HOK.out; omega) (okAll_lens (gram_lens HOK.out).2.choose_spec)).mono ?_
          rintro e10 w10 ⟨hb10, v10, own10, rfl⟩
          have HR10 := Lib.hid (HRR.out.up hb10)
          have HB10 := Lib.hid (Below.tr HBE.out hb10)
          have HO10 := Lib.hid own10
          obtain ⟨A10, k10, rfl, _⟩ := own_nil own10
          have b0 := HR10.out.cell (i := 0) (v := .slice none 0 0) rfl
          have b1 := HR10.out.frozen 0
          have b2 := HR10.out.lt
          have hzz := HBE.out.size
          clear hb10 own10 a2 a3 aK aR aRf
          go_wp2_with fail
          refine bodyPost_ret (v := .tuple #[.agg #[.slice A10 (trimG out).length k10], .int .i64 0]) (by simp [results, Tryz.results90, go_sem, b0]) rfl ⟨HB10.out.setCell (by show w.heap.size ≤ w.heap.size + 2; omega) _, .slice A10 (trimG out).length k10, ?_, by rw [HQ.out, HS.out]; rfl⟩
          rw [HQ.out, HS.out]
          exact ownsRow_more (ownsRow_setCell_below HO10.out (a := ⟨w.heap.size + 2, 0, none⟩) aRl _) hzz
        · have HS := Lib.hid hs
          have a3 := hB9.cell (i := 3) (v := .int .i64 3) rfl
          clear hs hB9 hok9 HJ4
          go_wp2_with fail
          go_region
          all_goals
            go_wp2_with fail
            refine bodyPost_ret (v := .tuple #[.agg #[.slice none 0 0], .int .i64 3]) (by simp [results, Tryz.results90, go_sem, aR]) rfl ⟨(HBE.out.drew).setCell (by show w.heap.size ≤ w.heap.size + 2; omega) _, .slice none 0 0, ?_, by rw [HQ.out, HS.out]; rfl⟩
            rw [HQ.out, HS.out]
            exact World.ownsRow_nil _ _ _ _
      · have x0 := HJ1.out.hE.cell (i := 0) (v := .int .i64 6) (by rw [← hk]; rfl)
        have HKE := Lib.hid hk
        clear hk
        have aK := HJ1.out.hK.cell (i := 0) (v := .pointer (some ⟨b, 0, none⟩)) rfl
        have aE1 := HJ1.out.hE.cell (i := 1) (v := .int .i64 e.i) rfl
        have aB := HJ1.out.asm.lt
        have aE := HJ1.out.hE.lt
        have aKl := HJ1.out.hK.lt
        go_wp2_with fail
        refine (asmKeep_any b xs ls' _ 0 (e.i) _ HJ1.out.asm HL.out hn).mono ?_
        rintro e6 w6 ⟨rfl, hb1, ha1⟩
        have HJ2 := Lib.hid (HJ1.out.next hb1 ha1)
        clear aK aB aE aKl aE1 hb1 ha1 HJ1
        have aB := HJ2.out.asm.lt
        go_wp2_with fail
        refine (changed_any (w.heap.size + 1) b K e (.slice AR e.part.length cR) xs ls' _ _ HJ2.out.hK HJ2.out.asm HJ2.out.hE HKK.out HL.out hn (tabB HT.out HJ2.out.bel)).mono ?_
        rintro e7 w7 ⟨rfl, hb2, ha2⟩
        have HJ3 := Lib.hid (HJ2.out.next hb2 ha2)
        clear aB hb2 ha2 HJ2
        have aK := HJ3.out.hK.cell (i := 0) (v := .pointer (some ⟨b, 0, none⟩)) rfl
        have aE2 := HJ3.out.hE.cell (i := 2) (v := .int .i64 e.j) rfl
        have aB := HJ3.out.asm.lt
        have aE := HJ3.out.hE.lt
        have aKl := HJ3.out.hK.lt
        go_wp2_with fail
        refine (asmKeep_any b xs ls' _ e.j (lastI ls') _ HJ3.out.asm HL.out hn).mono ?_
        rintro e8 w8 ⟨rfl, hb3, ha3⟩
        have HJ4 := Lib.hid (HJ3.out.next hb3 ha3)
        clear aK aB aE aKl aE2 hb3 ha3 HJ3
        have hQ : editS xs ls' (lastI ls') e = addO (addO (addO (some []) (limO (partG xs ls' 0 (e.i)))) ((limO (partG xs ls' e.i e.j)).bind (chgO e))) (limO (partG xs ls' e.j (lastI ls'))) := by unfold editS; rw [if_neg HKC.out.1, if_neg HKC.out.2.1, if_neg HKC.out.2.2.1, if_neg HKC.out.2.2.2.1]
        have HQ := Lib.hid hQ
        clear hQ
        obtain ⟨vG9, vL9, vO, out, c9, hB9, hG9, hL9, hO9, hs9, hok9⟩ := HJ4.out.asm
        obtain ⟨AO, kO, rfl, _⟩ := own_nil hO9
        have aK := HJ4.out.hK.cell (i := 0) (v := .pointer (some ⟨b, 0, none⟩)) rfl
        have aR := HJ4.out.hR.cell (i := 0) (v := .slice none 0 0) rfl
        have aRf := HJ4.out.hR.frozen 0
        have aRl := HJ4.out.hR.lt
        have HO9 := Lib.hid hO9
        have HBE := Lib.hid HJ4.out.bel
        have HRR := Lib.hid HJ4.out.hR
        have hle := HJ4.out.le
        have HOK := Lib.hid hok9
        have aBl := hB9.lt
        have nKR : K ≠ w.heap.size + 1 + 1 := HJ4.out.neKR
        have nbR : b ≠ w.heap.size + 1 + 1 := fun h => HJ4.out.neR h.symm
        clear hG9 hL9 hO9
        rcases hs9 with ⟨hs, rfl, _⟩ | ⟨hs, rfl⟩
        · have HS := Lib.hid hs
          have a2 := hB9.cell (i := 2) (v := .slice AO out.length kO) rfl
          have a3 := hB9.cell (i := 3) (v := .int .i64 0) rfl
          clear hs hB9 hok9 HJ4
          go_wp2_with fail
          refine (trimmed_any _ out _ HO9.out.sl (by have := gram_len400 HOK.out; omega) (okAll_lens (gram_lens HOK.out).2.choose_spec)).mono ?_
          rintro e10 w10 ⟨hb10, v10, own10, rfl⟩
          have HR10 := Lib.hid (HRR.out.up hb10)
          have HB10 := Lib.hid (Below.tr HBE.out hb10)
          have HO10 := Lib.hid own10
          obtain ⟨A10, k10, rfl, _⟩ := own_nil own10
          have b0 := HR10.out.cell (i := 0) (v := .slice none 0 0) rfl
          have b1 := HR10.out.frozen 0
          have b2 := HR10.out.lt
          have hzz := HBE.out.size
          clear hb10 own10 a2 a3 aK aR aRf
          go_wp2_with fail
          refine bodyPost_ret (v := .tuple #[.agg #[.slice A10 (trimG out).length k10], .int .i64 0]) (by simp [results, Tryz.results90, go_sem, b0]) rfl ⟨HB10.out.setCell (by show w.heap.size ≤ w.heap.size + 2; omega) _, .slice A10 (trimG out).length k10, ?_, by rw [HQ.out, HS.out]; rfl⟩
          rw [HQ.out, HS.out]
          exact ownsRow_more (ownsRow_setCell_below HO10.out (a := ⟨w.heap.size + 2, 0, none⟩) aRl _) hzz
        · have HS := Lib.hid hs
          have a3 := hB9.cell (i := 3) (v := .int .i64 3) rfl
          clear hs hB9 hok9 HJ4
          go_wp2_with fail
          go_region
          all_goals
            go_wp2_with fail
            refine bodyPost_ret (v := .tuple #[.agg #[.slice none 0 0], .int .i64 3]) (by simp [results, Tryz.results90, go_sem, aR]) rfl ⟨(HBE.out.drew).setCell (by show w.heap.size ≤ w.heap.size + 2; omega) _, .slice none 0 0, ?_, by rw [HQ.out, HS.out]; rfl⟩
            rw [HQ.out, HS.out]
            exact World.ownsRow_nil _ _ _ _
      · have x0 := HJ1.out.hE.cell (i := 0) (v := .int .i64 7) (by rw [← hk]; rfl)
        have HKE := Lib.hid hk
        clear hk
        have aK := HJ1.out.hK.cell (i := 0) (v := .pointer (some ⟨b, 0, none⟩)) rfl
        have aE1 := HJ1.out.hE.cell (i := 1) (v := .int .i64 e.i) rfl
        have aB := HJ1.out.asm.lt
        have aE := HJ1.out.hE.lt
        have aKl := HJ1.out.hK.lt
        go_wp2_with fail
        refine (asmKeep_any b xs ls' _ 0 (e.i) _ HJ1.out.asm HL.out hn).mono ?_
        rintro e6 w6 ⟨rfl, hb1, ha1⟩
        have HJ2 := Lib.hid (HJ1.out.next hb1 ha1)
        clear aK aB aE aKl aE1 hb1 ha1 HJ1
        have aB := HJ2.out.asm.lt
        go_wp2_with fail
        refine (changed_any (w.heap.size + 1) b K e (.slice AR e.part.length cR) xs ls' _ _ HJ2.out.hK HJ2.out.asm HJ2.out.hE HKK.out HL.out hn (tabB HT.out HJ2.out.bel)).mono ?_
        rintro e7 w7 ⟨rfl, hb2, ha2⟩
        have HJ3 := Lib.hid (HJ2.out.next hb2 ha2)
        clear aB hb2 ha2 HJ2
        have aK := HJ3.out.hK.cell (i := 0) (v := .pointer (some ⟨b, 0, none⟩)) rfl
        have aE2 := HJ3.out.hE.cell (i := 2) (v := .int .i64 e.j) rfl
        have aB := HJ3.out.asm.lt
        have aE := HJ3.out.hE.lt
        have aKl := HJ3.out.hK.lt
        go_wp2_with fail
        refine (asmKeep_any b xs ls' _ e.j (lastI ls') _ HJ3.out.asm HL.out hn).mono ?_
        rintro e8 w8 ⟨rfl, hb3, ha3⟩
        have HJ4 := Lib.hid (HJ3.out.next hb3 ha3)
        clear aK aB aE aKl aE2 hb3 ha3 HJ3
        have hQ : editS xs ls' (lastI ls') e = addO (addO (addO (some []) (limO (partG xs ls' 0 (e.i)))) ((limO (partG xs ls' e.i e.j)).bind (chgO e))) (limO (partG xs ls' e.j (lastI ls'))) := by unfold editS; rw [if_neg HKC.out.1, if_neg HKC.out.2.1, if_neg HKC.out.2.2.1, if_neg HKC.out.2.2.2.1]
        have HQ := Lib.hid hQ
        clear hQ
        obtain ⟨vG9, vL9, vO, out, c9, hB9, hG9, hL9, hO9, hs9, hok9⟩ := HJ4.out.asm
        obtain ⟨AO, kO, rfl, _⟩ := own_nil hO9
        have aK := HJ4.out.hK.cell (i := 0) (v := .pointer (some ⟨b, 0, none⟩)) rfl
        have aR := HJ4.out.hR.cell (i := 0) (v := .slice none 0 0) rfl
        have aRf := HJ4.out.hR.frozen 0
        have aRl := HJ4.out.hR.lt
        have HO9 := Lib.hid hO9
        have HBE := Lib.hid HJ4.out.bel
        have HRR := Lib.hid HJ4.out.hR
        have hle := HJ4.out.le
        have HOK := Lib.hid hok9
        have aBl := hB9.lt
        have nKR : K ≠ w.heap.size + 1 + 1 := HJ4.out.neKR
        have nbR : b ≠ w.heap.size + 1 + 1 := fun h => HJ4.out.neR h.symm
        clear hG9 hL9 hO9
        rcases hs9 with ⟨hs, rfl, _⟩ | ⟨hs, rfl⟩
        · have HS := Lib.hid hs
          have a2 := hB9.cell (i := 2) (v := .slice AO out.length kO) rfl
          have a3 := hB9.cell (i := 3) (v := .int .i64 0) rfl
          clear hs hB9 hok9 HJ4
          go_wp2_with fail
          refine (trimmed_any _ out _ HO9.out.sl (by have := gram_len400 HOK.out; omega) (okAll_lens (gram_lens HOK.out).2.choose_spec)).mono ?_
          rintro e10 w10 ⟨hb10, v10, own10, rfl⟩
          have HR10 := Lib.hid (HRR.out.up hb10)
          have HB10 := Lib.hid (Below.tr HBE.out hb10)
          have HO10 := Lib.hid own10
          obtain ⟨A10, k10, rfl, _⟩ := own_nil own10
          have b0 := HR10.out.cell (i := 0) (v := .slice none 0 0) rfl
          have b1 := HR10.out.frozen 0
          have b2 := HR10.out.lt
          have hzz := HBE.out.size
          clear hb10 own10 a2 a3 aK aR aRf
          go_wp2_with fail
          refine bodyPost_ret (v := .tuple #[.agg #[.slice A10 (trimG out).length k10], .int .i64 0]) (by simp [results, Tryz.results90, go_sem, b0]) rfl ⟨HB10.out.setCell (by show w.heap.size ≤ w.heap.size + 2; omega) _, .slice A10 (trimG out).length k10, ?_, by rw [HQ.out, HS.out]; rfl⟩
          rw [HQ.out, HS.out]
          exact ownsRow_more (ownsRow_setCell_below HO10.out (a := ⟨w.heap.size + 2, 0, none⟩) aRl _) hzz
        · have HS := Lib.hid hs
          have a3 := hB9.cell (i := 3) (v := .int .i64 3) rfl
          clear hs hB9 hok9 HJ4
          go_wp2_with fail
          go_region
          all_goals
            go_wp2_with fail
            refine bodyPost_ret (v := .tuple #[.agg #[.slice none 0 0], .int .i64 3]) (by simp [results, Tryz.results90, go_sem, aR]) rfl ⟨(HBE.out.drew).setCell (by show w.heap.size ≤ w.heap.size + 2; omega) _, .slice none 0 0, ?_, by rw [HQ.out, HS.out]; rfl⟩
            rw [HQ.out, HS.out]
            exact World.ownsRow_nil _ _ _ _
def lsOf (xs : List GRule) : List Int := (lens xs).getD []
def applyS (xs : List GRule) (e : GEdit) : Option (List GRule) := editS xs (lsOf xs) (lastI (lsOf xs)) e
def applyOut (xs : List GRule) (e : GEdit) : List GRule := if gramOk xs && editOk e then if editFits e (gramLen xs) then editG (applyS xs e) else [] else []
def applyCode (xs : List GRule) (e : GEdit) : Int := if gramOk xs && editOk e then if editFits e (gramLen xs) then editC (applyS xs e) else 2 else 1
theorem kind_ok {e : GEdit} (h : editOk e = true) : kindOk e ∧ gramOk e.part = true ∧ inR e.kind 1 7 = true ∧ (2 ≤ e.kind → e.i ≤ e.j) := by
  obtain ⟨k, i, j, kk, part, map⟩ := e
  simp only [editOk, Bool.and_eq_true, inR, decide_eq_true_eq, Bool.not_eq_true', Bool.and_eq_false_iff, decide_eq_false_iff_not] at h
  obtain ⟨⟨⟨⟨⟨⟨⟨⟨h1, h1'⟩, h2⟩, h3⟩, h4⟩, h5⟩, h6⟩, h7⟩, h8⟩ := h
  refine ⟨?_, h7, by simp [inR]; omega, fun hk => ?_⟩
  · unfold kindOk chgOK
    rcases (by omega : k = 1 ∨ k = 2 ∨ k = 3 ∨ k = 4 ∨ k = 5 ∨ k = 6 ∨ k = 7) with rfl | rfl | rfl | rfl | rfl | rfl | rfl
    · exact .inl rfl
    · exact .inr (.inl rfl)
    · exact .inr (.inr (.inl rfl))
    · exact .inr (.inr (.inr (.inl rfl)))
    · exact .inr (.inr (.inr (.inr (.inl rfl))))
    · refine .inr (.inr (.inr (.inr (.inr (.inl ⟨rfl, ?_⟩)))))
      simpa [numOk, usesK, inR] using h4
    · refine .inr (.inr (.inr (.inr (.inr (.inr ⟨rfl, ?_⟩)))))
      have : map.size = 4 ∧ wordOk map = true := by simpa using h8
      exact ⟨this.2, this.1⟩
  · rcases h5 with h5 | h5
    · simp [usesJ] at h5; simp only at hk; omega
    · simp only; omega
set_option maxRecDepth 100000 in
set_option maxHeartbeats 4000000 in
theorem implApply_any (vG v : Value) (xs : List GRule) (e : GEdit) (w : World) (hG : Sl RuleE w w.heap.size vG xs) (hE : EditV w w.heap.size v e) (hn : xs.length ≤ 1048576) (hn2 : e.part.length ≤ 1048576) (hm : e.map.size ≤ maxLen) (htab : Lib.TabIs Tryz.prog w "math/bits.deBruijn64tab" .u8 deB64) :
    Calls Tryz.prog 32 #[.agg #[vG], v] w (GRes (applyOut xs e) (applyCode xs e) w) := by
  obtain ⟨vR, rfl, hR⟩ := hE
  have HG := Lib.hid hG
  have HR := Lib.hid hR
  have HT := Lib.hid htab
  obtain ⟨AG, cG, rfl, _⟩ := hG
  obtain ⟨AR, cR, rfl, _⟩ := hR
  clear htab
  go_enter Tryz.func32, Tryz.ntmps32
  go_wp2_with fail
  refine (LengthOf_any _ xs _ (HG.out.up (by repeat (first | exact Below.refl _ _ | (refine Below.alloc ?_ (by first | omega | (simp; done) | (simp; omega)) _) | (refine Below.setCell ?_ (by first | exact Nat.le_refl _ | (show _ ≤ _; omega) | (simp; done) | (simp; omega)) _) | refine below_drewN ?_ _ | refine Below.drew ?_))) (by omega)).mono ?_
  rintro e w1 ⟨rfl, hb_1⟩
  have KQ_2 : Blk w1 (w.heap.size + 1 + 1) #[.slice none 0 0] 30 := by have := (Below.unalloc hb_1).2; simpa [Blk] using this
  replace hb_1 := (Below.unalloc hb_1).1
  have KE_3 : Blk w1 (w.heap.size + 1) #[.int .i64 e.kind, .int .i64 e.i, .int .i64 e.j, .int .i64 e.k, .slice AR e.part.length cR, .string e.map] 46 := by have := (Below.unalloc hb_1).2; simpa [Blk] using this
  replace hb_1 := (Below.unalloc hb_1).1
  have KP_4 : Blk w1 (w.heap.size) #[.slice AG xs.length cG] 30 := by have := (Below.unalloc hb_1).2; simpa [Blk] using this
  replace hb_1 := (Below.unalloc hb_1).1
  have z_w1 : w.heap.size ≤ w1.heap.size := hb_1.size
  have KG_5 := Lib.hid (HG.out.up hb_1)
  have KR_6 := Lib.hid (HR.out.up hb_1)
  have KB_7 := Lib.hid hb_1
  clear HG HR
  have lz1 := Blk.lt KQ_2
  cases hg : gramOk xs with
  | false =>
    have q1 : lenC xs = 1 := by simp [lenC, hg]
    have q2 : applyOut xs e = [] ∧ applyCode xs e = 1 := by simp [applyOut, applyCode, hg]
    have HQ2 := Lib.hid q2
    clear q2 hg
    rw [q1]
    clear q1
    have cP0_8 := Blk.cell (i := 0) (v := .slice AG xs.length cG) KP_4 rfl
    have lP_9 := Blk.lt KP_4
    have cQ0_10 := Blk.cell (i := 0) (v := .slice none 0 0) KQ_2 rfl
    have zQ0_11 := Blk.frozen KQ_2 0
    have lQ_12 := Blk.lt KQ_2
    have cE0_13 := Blk.cell (i := 0) (v := .int .i64 e.kind) KE_3 rfl
    have cE1_14 := Blk.cell (i := 1) (v := .int .i64 e.i) KE_3 rfl
    have cE2_15 := Blk.cell (i := 2) (v := .int .i64 e.j) KE_3 rfl
    have cE3_16 := Blk.cell (i := 3) (v := .int .i64 e.k) KE_3 rfl
    have cE4_17 := Blk.cell (i := 4) (v := .slice AR e.part.length cR) KE_3 rfl
    have cE5_18 := Blk.cell (i := 5) (v := .string e.map) KE_3 rfl
    have lE_19 := Blk.lt KE_3
    go_wp2_with fail
    refine bodyPost_ret (v := .tuple #[.agg #[.slice none 0 0], .int .i64 1]) (by simp [results, Tryz.results32, go_sem, cQ0_10]) rfl ⟨Below.setCell KB_7.out (show w.heap.size ≤ w.heap.size + 2 by omega) _, .slice none 0 0, by rw [HQ2.out.1]; exact World.ownsRow_nil _ _ _ _, by rw [HQ2.out.2]⟩
  | true =>
    have q1 : lenC xs = 0 := by simp [lenC, hg]
    have q2 : lenV xs = gramLen xs := by simp [lenV, hg]
    rw [q1, q2]
    clear q1 q2
    have HGG := Lib.hid hg
    clear hg
    have cP0_20 := Blk.cell (i := 0) (v := .slice AG xs.length cG) KP_4 rfl
    have lP_21 := Blk.lt KP_4
    have cQ0_22 := Blk.cell (i := 0) (v := .slice none 0 0) KQ_2 rfl
    have zQ0_23 := Blk.frozen KQ_2 0
    have lQ_24 := Blk.lt KQ_2
    have cE0_25 := Blk.cell (i := 0) (v := .int .i64 e.kind) KE_3 rfl
    have cE1_26 := Blk.cell (i := 1) (v := .int .i64 e.i) KE_3 rfl
    have cE2_27 := Blk.cell (i := 2) (v := .int .i64 e.j) KE_3 rfl
    have cE3_28 := Blk.cell (i := 3) (v := .int .i64 e.k) KE_3 rfl
    have cE4_29 := Blk.cell (i := 4) (v := .slice AR e.part.length cR) KE_3 rfl
    have cE5_30 := Blk.cell (i := 5) (v := .string e.map) KE_3 rfl
    have lE_31 := Blk.lt KE_3
    go_wp2_with fail
    refine (implValidEdit_any _ e _ ⟨_, rfl, KR_6.out.up (by repeat (first | exact Below.refl _ _ | (refine Below.alloc ?_ (by first | omega | (simp; done) | (simp; omega)) _) | (refine Below.setCell ?_ (by first | exact Nat.le_refl _ | (show _ ≤ _; omega) | (simp; done) | (simp; omega)) _) | refine below_drewN ?_ _ | refine Below.drew ?_))⟩ (by omega) hm).mono ?_
    rintro e w2 ⟨rfl, hb_32⟩
    have z_w2 : w1.heap.size ≤ w2.heap.size := hb_32.size
    have KG_33 := Lib.hid (KG_5.out.up hb_32)
    have KR_34 := Lib.hid (KR_6.out.up hb_32)
    have KQ_35 := Blk.up KQ_2 hb_32
    have KE_36 := Blk.up KE_3 hb_32
    have KP_37 := Blk.up KP_4 hb_32
    have KB_38 := Lib.hid (Below.tr KB_7.out hb_32)
    clear hb_1 cP0_20 lP_21 cQ0_22 zQ0_23 lQ_24 cE0_25 cE1_26 cE2_27 cE3_28 cE4_29 cE5_30 lE_31 KG_5 KR_6 KQ_2 KE_3 KP_4 KB_7
    cases he : editOk e with
    | false =>
      have q2 : applyOut xs e = [] ∧ applyCode xs e = 1 := by simp [applyOut, applyCode, he]
      have HQ2 := Lib.hid q2
      clear q2 he
      have cP0_39 := Blk.cell (i := 0) (v := .slice AG xs.length cG) KP_37 rfl
      have lP_40 := Blk.lt KP_37
      have cQ0_41 := Blk.cell (i := 0) (v := .slice none 0 0) KQ_35 rfl
      have zQ0_42 := Blk.frozen KQ_35 0
      have lQ_43 := Blk.lt KQ_35
      have cE0_44 := Blk.cell (i := 0) (v := .int .i64 e.kind) KE_36 rfl
      have cE1_45 := Blk.cell (i := 1) (v := .int .i64 e.i) KE_36 rfl
      have cE2_46 := Blk.cell (i := 2) (v := .int .i64 e.j) KE_36 rfl
      have cE3_47 := Blk.cell (i := 3) (v := .int .i64 e.k) KE_36 rfl
      have cE4_48 := Blk.cell (i := 4) (v := .slice AR e.part.length cR) KE_36 rfl
      have cE5_49 := Blk.cell (i := 5) (v := .string e.map) KE_36 rfl
      have lE_50 := Blk.lt KE_36
      go_wp2_with fail
      refine bodyPost_ret (v := .tuple #[.agg #[.slice none 0 0], .int .i64 1]) (by simp [results, Tryz.results32, go_sem, cQ0_41]) rfl ⟨Below.setCell KB_38.out (show w.heap.size ≤ w.heap.size + 2 by omega) _, .slice none 0 0, by rw [HQ2.out.1]; exact World.ownsRow_nil _ _ _ _, by rw [HQ2.out.2]⟩
    | true =>
      have HE := Lib.hid (kind_ok he)
      have HE0 := Lib.hid he
      clear he
      have cP0_51 := Blk.cell (i := 0) (v := .slice AG xs.length cG) KP_37 rfl
      have lP_52 := Blk.lt KP_37
      have cQ0_53 := Blk.cell (i := 0) (v := .slice none 0 0) KQ_35 rfl
      have zQ0_54 := Blk.frozen KQ_35 0
      have lQ_55 := Blk.lt KQ_35
      have cE0_56 := Blk.cell (i := 0) (v := .int .i64 e.kind) KE_36 rfl
      have cE1_57 := Blk.cell (i := 1) (v := .int .i64 e.i) KE_36 rfl
      have cE2_58 := Blk.cell (i := 2) (v := .int .i64 e.j) KE_36 rfl
      have cE3_59 := Blk.cell (i := 3) (v := .int .i64 e.k) KE_36 rfl
      have cE4_60 := Blk.cell (i := 4) (v := .slice AR e.part.length cR) KE_36 rfl
      have cE5_61 := Blk.cell (i := 5) (v := .string e.map) KE_36 rfl
      have lE_62 := Blk.lt KE_36
      go_wp2_with fail
      refine (fits_any _ e (gramLen xs) _ ⟨_, rfl, KR_34.out.up (by repeat (first | exact Below.refl _ _ | (refine Below.alloc ?_ (by first | omega | (simp; done) | (simp; omega)) _) | (refine Below.setCell ?_ (by first | exact Nat.le_refl _ | (show _ ≤ _; omega) | (simp; done) | (simp; omega)) _) | refine below_drewN ?_ _ | refine Below.drew ?_))⟩ HE.out.2.2.1 HE.out.2.2.2).mono ?_
      rintro e w3 ⟨rfl, hb_63⟩
      have z_w3 : w2.heap.size ≤ w3.heap.size := hb_63.size
      have KG_64 := Lib.hid (KG_33.out.up hb_63)
      have KR_65 := Lib.hid (KR_34.out.up hb_63)
      have KQ_66 := Blk.up KQ_35 hb_63
      have KE_67 := Blk.up KE_36 hb_63
      have KP_68 := Blk.up KP_37 hb_63
      have KB_69 := Lib.hid (Below.tr KB_38.out hb_63)
      clear hb_32 cP0_51 lP_52 cQ0_53 zQ0_54 lQ_55 cE0_56 cE1_57 cE2_58 cE3_59 cE4_60 cE5_61 lE_62 KG_33 KR_34 KQ_35 KE_36 KP_37 KB_38
      cases hf : editFits e (gramLen xs) with
      | false =>
        have q2 : applyOut xs e = [] ∧ applyCode xs e = 2 := by simp [applyOut, applyCode, HGG.out, HE0.out, hf]
        have HQ2 := Lib.hid q2
        clear q2 hf
        have cP0_70 := Blk.cell (i := 0) (v := .slice AG xs.length cG) KP_68 rfl
        have lP_71 := Blk.lt KP_68
        have cQ0_72 := Blk.cell (i := 0) (v := .slice none 0 0) KQ_66 rfl
        have zQ0_73 := Blk.frozen KQ_66 0
        have lQ_74 := Blk.lt KQ_66
        have cE0_75 := Blk.cell (i := 0) (v := .int .i64 e.kind) KE_67 rfl
        have cE1_76 := Blk.cell (i := 1) (v := .int .i64 e.i) KE_67 rfl
        have cE2_77 := Blk.cell (i := 2) (v := .int .i64 e.j) KE_67 rfl
        have cE3_78 := Blk.cell (i := 3) (v := .int .i64 e.k) KE_67 rfl
        have cE4_79 := Blk.cell (i := 4) (v := .slice AR e.part.length cR) KE_67 rfl
        have cE5_80 := Blk.cell (i := 5) (v := .string e.map) KE_67 rfl
        have lE_81 := Blk.lt KE_67
        go_wp2_with fail
        refine bodyPost_ret (v := .tuple #[.agg #[.slice none 0 0], .int .i64 2]) (by simp [results, Tryz.results32, go_sem, cQ0_72]) rfl ⟨Below.setCell KB_69.out (show w.heap.size ≤ w.heap.size + 2 by omega) _, .slice none 0 0, by rw [HQ2.out.1]; exact World.ownsRow_nil _ _ _ _, by rw [HQ2.out.2]⟩
      | true =>
        have hls : lens xs = some (lsOf xs) := by
          obtain ⟨ls, h⟩ := (gram_lens HGG.out).2
          simp [lsOf, h]
        have q2 : applyOut xs e = editG (editS xs (lsOf xs) (lastI (lsOf xs)) e) ∧ applyCode xs e = editC (editS xs (lsOf xs) (lastI (lsOf xs)) e) := by simp [applyOut, applyCode, HGG.out, HE0.out, hf, applyS]
        have HQ2 := Lib.hid q2
        have HLS := Lib.hid hls
        clear q2 hf hls
        have cP0_82 := Blk.cell (i := 0) (v := .slice AG xs.length cG) KP_68 rfl
        have lP_83 := Blk.lt KP_68
        have cQ0_84 := Blk.cell (i := 0) (v := .slice none 0 0) KQ_66 rfl
        have zQ0_85 := Blk.frozen KQ_66 0
        have lQ_86 := Blk.lt KQ_66
        have cE0_87 := Blk.cell (i := 0) (v := .int .i64 e.kind) KE_67 rfl
        have cE1_88 := Blk.cell (i := 1) (v := .int .i64 e.i) KE_67 rfl
        have cE2_89 := Blk.cell (i := 2) (v := .int .i64 e.j) KE_67 rfl
        have cE3_90 := Blk.cell (i := 3) (v := .int .i64 e.k) KE_67 rfl
        have cE4_91 := Blk.cell (i := 4) (v := .slice AR e.part.length cR) KE_67 rfl
        have cE5_92 := Blk.cell (i := 5) (v := .string e.map) KE_67 rfl
        have lE_93 := Blk.lt KE_67
        go_wp2_with fail
        refine (edited_any _ (.slice AR e.part.length cR) xs (lsOf xs) e _ (KG_64.out.up (by repeat (first | exact Below.refl _ _ | (refine Below.alloc ?_ (by first | omega | (simp; done) | (simp; omega)) _) | (refine Below.setCell ?_ (by first | exact Nat.le_refl _ | (show _ ≤ _; omega) | (simp; done) | (simp; omega)) _) | refine below_drewN ?_ _ | refine Below.drew ?_))) (KR_65.out.up (by repeat (first | exact Below.refl _ _ | (refine Below.alloc ?_ (by first | omega | (simp; done) | (simp; omega)) _) | (refine Below.setCell ?_ (by first | exact Nat.le_refl _ | (show _ ≤ _; omega) | (simp; done) | (simp; omega)) _) | refine below_drewN ?_ _ | refine Below.drew ?_))) HLS.out hn HE.out.1 HE.out.2.1 (tabB HT.out KB_69.out)).mono ?_
        rintro e w4 ⟨hb_94, v4, own4, rfl⟩
        have z_w4 : w3.heap.size ≤ w4.heap.size := hb_94.size
        have KG_95 := Lib.hid (KG_64.out.up hb_94)
        have KR_96 := Lib.hid (KR_65.out.up hb_94)
        have KQ_97 := Blk.up KQ_66 hb_94
        have KE_98 := Blk.up KE_67 hb_94
        have KP_99 := Blk.up KP_68 hb_94
        have KB_100 := Lib.hid (Below.tr KB_69.out hb_94)
        clear hb_63 cP0_82 lP_83 cQ0_84 zQ0_85 lQ_86 cE0_87 cE1_88 cE2_89 cE3_90 cE4_91 cE5_92 lE_93 KG_64 KR_65 KQ_66 KE_67 KP_68 KB_69
        obtain ⟨A4, k4, rfl, _⟩ := own_nil own4
        have HO4 := Lib.hid own4
        clear own4
        have cQ0_101 := Blk.cell (i := 0) (v := .slice none 0 0) KQ_97 rfl
        have zQ0_102 := Blk.frozen KQ_97 0
        have lQ_103 := Blk.lt KQ_97
        go_wp2_with fail
        refine bodyPost_ret (v := .tuple #[.agg #[.slice A4 (editG (editS xs (lsOf xs) (lastI (lsOf xs)) e)).length k4], .int .i64 (editC (editS xs (lsOf xs) (lastI (lsOf xs)) e))]) (by simp [results, Tryz.results32, go_sem, cQ0_101]) rfl ⟨Below.setCell KB_100.out (show w.heap.size ≤ w.heap.size + 2 by omega) _, .slice A4 (editG (editS xs (lsOf xs) (lastI (lsOf xs)) e)).length k4, ?_, by rw [HQ2.out.2]⟩
        rw [HQ2.out.1]
        exact ownsRow_more (ownsRow_setCell_below HO4.out (a := ⟨w.heap.size + 2, 0, none⟩) (by show w.heap.size + 2 < _; omega) _) (by omega)
theorem addO_ok {s g : Option (List GRule)} {o : List GRule} (h : addO s g = some o) : gramOk o = true := by
  unfold addO at h
  split at h
  · split at h
    · rename_i h2; cases h; exact h2
    · cases h
  · cases h
theorem editS_ok {xs : List GRule} {ls : List Int} {n : Int} {e : GEdit} {o : List GRule} (h : editS xs ls n e = some o) : gramOk o = true := by
  unfold editS at h
  repeat' split at h
  all_goals exact addO_ok h
theorem applyOut_ok (xs : List GRule) (e : GEdit) : gramOk (applyOut xs e) = true := by
  unfold applyOut
  split
  · split
    · unfold editG applyS
      cases h : editS xs (lsOf xs) (lastI (lsOf xs)) e with
      | none => rfl
      | some o => exact gramOk_trim (editS_ok h)
    · rfl
  · rfl
theorem up_bad {xs : List GRule} (h : gramOk xs = false) : upV xs = [] ∧ upC xs = 1 := by simp [upV, upC, h]
theorem up_long {xs : List GRule} (h : gramOk xs = true) (hl : ¬ (wordG xs).length ≤ 2000) : upV xs = [] ∧ upC xs = 3 := by
  unfold upV upC
  rw [h, decide_eq_false hl]
  simp [hl]
theorem up_ok {xs : List GRule} (h : gramOk xs = true) (hl : (wordG xs).length ≤ 2000) : upV xs = wordG xs ∧ upC xs = 0 := by
  unfold upV upC
  rw [h, decide_eq_true hl]
  simp [hl]
set_option maxRecDepth 100000 in
set_option maxHeartbeats 1000000 in
theorem specUnpackWord_any (v : Value) (xs : List GRule) (w : World) (h : Sl RuleE w w.heap.size v xs) (hsm : SmallL xs) :
    Calls Tryz.prog 87 #[.agg #[v]] w fun e w' => e = .returned (.tuple #[.string ⟨(upV xs).toArray⟩, .int .i64 (upC xs)]) ∧ Below w.heap.size w w' := by
  have HG := Lib.hid h
  obtain ⟨A, c, rfl, _⟩ := h
  have b1 := (Below.refl w.heap.size w).alloc (Nat.le_refl _) (Obj.cells #[.slice A xs.length c] 30)
  have KP := Blk.new w #[.slice A xs.length c] 30
  go_enter Tryz.func87, Tryz.ntmps87
  go_upto_region 1 with fail
  generalize (w.alloc (Obj.cells #[.slice A xs.length c] 30)) = w0 at *
  have KB := Lib.hid b1
  clear b1
  have cP0_1 := Blk.cell (i := 0) (v := .slice A xs.length c) KP rfl
  have lP_2 := Blk.lt KP
  go_wp2_with fail
  refine (l02Ok_any w.heap.size 0 _ xs _ cP0_1 (Blk.lt KP) (HG.out.up KB.out) hsm).mono ?_
  rintro e w1 ⟨rfl, hb_3⟩
  have z_w1 : w0.heap.size ≤ w1.heap.size := hb_3.size
  have KB_4 := Lib.hid (Below.tr KB.out hb_3)
  have KP_5 := Blk.up KP hb_3
  clear cP0_1 lP_2 KB KP
  cases hg : gramOk xs with
  | false =>
    have HQ := Lib.hid (up_bad hg)
    clear hg
    go_wp2_with fail
    go_ret2
    exact ⟨by rw [HQ.out.1, HQ.out.2]; rfl, KB_4.out⟩
  | true =>
    obtain ⟨h4, ls, hl⟩ := gram_lens hg
    have HGG := Lib.hid hg
    have HL := Lib.hid hl
    have hwl := wordG_len hl
    have hlb := lastI_bounds hl
    clear hg hl
    have cP0_6 := Blk.cell (i := 0) (v := .slice A xs.length c) KP_5 rfl
    have lP_7 := Blk.lt KP_5
    go_wp2_with fail
    refine (l02Length_any w.heap.size 0 _ xs ls _ HL.out cP0_6 (Blk.lt KP_5) (HG.out.up KB_4.out) hsm (by omega)).mono ?_
    rintro e w2 ⟨rfl, hb_8⟩
    have z_w2 : w1.heap.size ≤ w2.heap.size := hb_8.size
    have KB_9 := Lib.hid (Below.tr KB_4.out hb_8)
    have KP_10 := Blk.up KP_5 hb_8
    clear hb_3 cP0_6 lP_7 KB_4 KP_5
    by_cases hbig : (2000 : Int) < lastI ls
    · have HQ := Lib.hid (up_long HGG.out (by omega))
      go_wp2_with fail
      go_ret2
      exact ⟨by rw [HQ.out.1, HQ.out.2]; rfl, KB_9.out⟩
    · have HQ := Lib.hid (up_ok HGG.out (by omega))
      have hcut : cutL (wordG xs) 0 (lastI ls) = wordG xs := cutL_all (Int.le_refl _) (by omega)
      have HC := Lib.hid hcut
      clear hcut
      have cP0_11 := Blk.cell (i := 0) (v := .slice A xs.length c) KP_10 rfl
      have lP_12 := Blk.lt KP_10
      go_wp2_with fail
      refine (l02Unpack_any w.heap.size 0 _ xs ls 0 (lastI ls) _ cP0_11 (Blk.lt KP_10) (HG.out.up KB_9.out) hsm HL.out h4 (by omega) (by omega) (by omega) (by omega)).mono ?_
      rintro e w3 ⟨rfl, hb_13⟩
      have z_w3 : w2.heap.size ≤ w3.heap.size := hb_13.size
      have KB_14 := Lib.hid (Below.tr KB_9.out hb_13)
      have KP_15 := Blk.up KP_10 hb_13
      clear hb_8 cP0_11 lP_12 KB_9 KP_10
      go_wp2_with fail
      go_ret2
      exact ⟨by rw [HQ.out.1, HQ.out.2, HC.out]; rfl, KB_14.out⟩
theorem Unpacked_any (v : Value) (xs : List GRule) (w : World) (h : Sl RuleE w w.heap.size v xs) (hsm : SmallL xs) :
    Calls Tryz.prog 29 #[.agg #[v]] w fun e w' => e = .returned (.string ⟨(upV xs).toArray⟩) ∧ Below w.heap.size w w' := by
  have HG := Lib.hid h
  obtain ⟨A, c, rfl, _⟩ := h
  go_enter Tryz.func29, Tryz.ntmps29
  go_wp2_with fail
  refine (specUnpackWord_any _ xs _ (HG.out.up (by repeat (first | exact Below.refl _ _ | (refine Below.alloc ?_ (by first | omega | (simp; done) | (simp; omega)) _) | (refine Below.setCell ?_ (by first | exact Nat.le_refl _ | (show _ ≤ _; omega) | (simp; done) | (simp; omega)) _) | refine below_drewN ?_ _ | refine Below.drew ?_))) hsm).mono ?_
  rintro e w1 ⟨rfl, hb⟩
  go_wp2_with fail
  go_ret
  exact ⟨rfl, (Below.unalloc hb).1⟩
def atB : ByteArray := ⟨#[97, 116]⟩
def undoB : ByteArray := ⟨#[117, 110, 100, 111]⟩
def lengthB : ByteArray := ⟨#[108, 101, 110, 103, 116, 104]⟩
def wordB : ByteArray := ⟨#[119, 111, 114, 100]⟩
def whatB : ByteArray := ⟨#[119, 104, 97, 116]⟩
def okB : ByteArray := ⟨#[111, 107]⟩
def errP : ByteArray := ⟨#[101, 114, 114, 111, 114, 32]⟩
def nmsB : List ByteArray := [⟨#[111, 107]⟩, ⟨#[105, 110, 118, 97, 108, 105, 100]⟩, ⟨#[114, 97, 110, 103, 101]⟩, ⟨#[108, 105, 109, 105, 116]⟩, ⟨#[115, 116, 97, 116, 101]⟩, ⟨#[115, 121, 110, 116, 97, 120]⟩, ⟨#[110, 111, 116, 102, 111, 117, 110, 100]⟩, ⟨#[98, 117, 100, 103, 101, 116]⟩, ⟨#[112, 114, 111, 111, 102]⟩]
def codeNm (c : Int) : ByteArray := if 0 ≤ c ∧ c ≤ 8 then nmsB.getD c.toNat ⟨#[]⟩ else ⟨#[]⟩
def errB (c : Int) : ByteArray := errP ++ codeNm c
def spokB (t : ByteArray) (c : Int) : ByteArray := if c = 0 then t else errB c
structure ScS where
  gs : List (List GRule)
  n : Nat
def rsTop (l : List (List GRule)) : List GRule := l.getD (l.length - 1) []
def scEdit (s : ScS) (e : GEdit) : ByteArray × ScS :=
  if s.n = 60 then (errB 3, s)
  else if applyCode (rsTop s.gs) e = 0 then (okB, ⟨s.gs ++ [applyOut (rsTop s.gs) e], s.n + 1⟩) else (errB (applyCode (rsTop s.gs) e), s)
def scPlace (t : ByteArray) : Option Int := if t.data.toList.take 3 = [97, 116, 32] ∧ rdOk (t.data.toList.drop 3) = true then some (numV (t.data.toList.drop 3)) else none
def scLet (x : List GRule) (i : Int) : ByteArray := if i < lenV x then ⟨(cutL (wordG x) i (i + 1)).toArray⟩ else errB 2
def scRest (s : ScS) (t : ByteArray) : ByteArray × ScS :=
  match scPlace t with
  | some i => (scLet (rsTop s.gs) i, s)
  | none =>
    if t = undoB then (if s.gs.length = 1 then (errB 4, s) else (okB, ⟨s.gs.dropLast, s.n⟩))
    else if t = lengthB then (⟨(dec (lenV (rsTop s.gs))).toArray⟩, s)
    else if t = wordB then (spokB ⟨(upV (rsTop s.gs)).toArray⟩ (upC (rsTop s.gs)), s)
    else (whatB, s)
def scAns (s : ScS) (t : ByteArray) : ByteArray × ScS := if rdCode t = 0 then scEdit s (rdOut t) else scRest s t
def scStep (p : List UInt8 × ScS) (t : ByteArray) : List UInt8 × ScS := (p.1 ++ ((scAns p.2 t).1.data.toList ++ [10]), (scAns p.2 t).2)
def scRun (x : List GRule) (ls : List ByteArray) : List UInt8 × ScS := ls.foldl scStep ([], ⟨[x], 0⟩)
def scLines (t : ByteArray) : List ByteArray := if (splB 10 t).getLast? = some ⟨#[]⟩ then (splB 10 t).dropLast else splB 10 t
def scCode (x : List GRule) (t : ByteArray) : Int := if gramOk x then (if t.size ≤ 20000 ∧ (scLines t).length ≤ 120 then 0 else 2) else 1
def scOut (x : List GRule) (t : ByteArray) : List UInt8 := if scCode x t = 0 then (scRun x (scLines t)).1 else []
structure ScOk (s : ScS) : Prop where
  ok : ∀ g ∈ s.gs, gramOk g = true
  pos : 0 < s.gs.length
  len : s.gs.length ≤ s.n + 1
  most : s.n ≤ 60
theorem top_mem {l : List (List GRule)} (h : 0 < l.length) : rsTop l ∈ l := by
  unfold rsTop
  rw [List.getD_eq_getElem?_getD, List.getElem?_eq_getElem (by omega)]
  exact List.getElem_mem _
theorem ScOk.top {s : ScS} (h : ScOk s) : gramOk (rsTop s.gs) = true := h.ok _ (top_mem h.pos)
theorem ScOk.edit {s : ScS} (h : ScOk s) (e : GEdit) : ScOk (scEdit s e).2 := by
  unfold scEdit
  split
  · exact h
  · split
    · refine ⟨fun g hg => ?_, by simp, by have := h.len; simp; omega, by have := h.most; show s.n + 1 ≤ 60; omega⟩
      rcases List.mem_append.1 hg with hg | hg
      · exact h.ok g hg
      · simp at hg; rw [hg]; exact applyOut_ok _ _
    · exact h
theorem ScOk.rest {s : ScS} (h : ScOk s) (t : ByteArray) : ScOk (scRest s t).2 := by
  unfold scRest
  split
  · exact h
  · split
    · split
      · exact h
      · rename_i h1
        have := h.pos
        have := h.len
        exact ⟨fun g hg => h.ok g (List.dropLast_subset _ hg), by simp; omega, by simp; omega, h.most⟩
    · split
      · exact h
      · split <;> exact h
theorem ScOk.ans {s : ScS} (h : ScOk s) (t : ByteArray) : ScOk (scAns s t).2 := by
  unfold scAns
  split
  · exact h.edit _
  · exact h.rest _
theorem place_hit {t x : ByteArray} (h : splB 32 t = [atB, x]) : t.data.toList = [97, 116, 32] ++ x.data.toList := by
  have h1 := splB_lists 32 t
  rw [h] at h1
  have h2 := glue_spl 32 t.data.toList []
  rw [← h1] at h2
  simpa [glue, atB] using h2.symm
theorem place_yes {t x : ByteArray} (h : splB 32 t = [atB, x]) (hx : rdOk x.data.toList = true) : scPlace t = some (numV x.data.toList) := by
  have := place_hit h
  unfold scPlace
  rw [this]
  simp [hx]
theorem place_no {t x : ByteArray} (h : splB 32 t = [atB, x]) (hx : rdOk x.data.toList = false) : scPlace t = none := by
  have := place_hit h
  unfold scPlace
  rw [this]
  simp [hx]
theorem rdOk_no32 {u : List UInt8} (h : rdOk u = true) : ∀ c ∈ u, c ≠ 32 := by
  have h4 := ((rdOk_iff u).1 h).2.2.2
  intro c hc e
  have := List.all_eq_true.1 h4 c hc
  rw [e] at this
  exact absurd this (by decide)
theorem place_some {t : ByteArray} {i : Int} (h : scPlace t = some i) : ∃ x, splB 32 t = [atB, x] ∧ rdOk x.data.toList = true ∧ i = numV x.data.toList ∧ x.data.toList = t.data.toList.drop 3 := by
  unfold scPlace at h
  split at h
  · rename_i hh
    obtain ⟨h1, h2⟩ := hh
    cases h
    have ht : t.data.toList = [97, 116] ++ 32 :: t.data.toList.drop 3 := by
      have := List.take_append_drop 3 t.data.toList
      rw [h1] at this
      exact this.symm
    refine ⟨⟨(t.data.toList.drop 3).toArray⟩, ?_, by simpa using h2, by simp, by simp⟩
    unfold splB
    rw [ht, spl_piece [97, 116] [] _ (by decide), spl_none _ [] (rdOk_no32 h2)]
    simp [atB]
  · cases h
def TK (ts : TypeId → Prop) (w w' : World) : Prop := ∀ (b : Nat) cs t fz, ts t → w.heap[b]? = some (.cells cs t fz) → w'.heap[b]? = some (.cells cs t fz)
section
variable {ts ts' : TypeId → Prop} {w w' w'' : World}
theorem TK.refl : TK ts w w := fun _ _ _ _ _ h => h
theorem TK.tr (h : TK ts w w') (h2 : TK ts w' w'') : TK ts w w'' := fun b cs t fz ht hb => h2 b cs t fz ht (h b cs t fz ht hb)
theorem TK.of_below (h : Below w.heap.size w w') : TK ts w w' := fun b _ _ _ _ hb => (h.block b (Array.getElem?_eq_some_iff.1 hb).1).trans hb
theorem TK.sub (h : TK ts w w') (hs : ∀ t, ts' t → ts t) : TK ts' w w' := fun b cs t fz ht hb => h b cs t fz (hs t ht) hb
theorem TK.others {e tb : TypeId} {b : Nat} {c0 : Array Value} {f0 : Nat × Nat} (h : Lib.OthersKept e (some b) w w') (hb : w.heap[b]? = some (.cells c0 tb f0)) (he : ∀ t, ts t → t ≠ e ∧ t ≠ tb) : TK ts w w' := by
  intro k cs t fz ht hk
  refine h k _ hk (fun q => ?_) (fun c fz' q => ?_)
  · have : k = b := by simpa using q
    subst this
    rw [hk] at hb
    injection hb with hb
    injection hb with _ hb _
    exact (he t ht).2 hb
  · injection q with _ q _
    exact (he t ht).1 q
theorem TK.setCell {b i : Nat} {a : Array Value} {tb : TypeId} {v : Value} (hb : Blk w b a tb) (he : ∀ t, ts t → t ≠ tb) : TK ts w (w.setCell ⟨b, i, none⟩ v) := by
  intro k cs t fz ht hk
  rcases Nat.decEq k b with h | h
  · exact (Below.heap_setCell w ⟨b, i, none⟩ v k h).trans hk
  · subst h
    rw [show w.heap[k]? = _ from hb] at hk
    injection hk with hk
    injection hk with _ hk _
    exact absurd hk.symm (he t ht)
theorem TK.grown {base e size n : Nat} {v : Value} {xs : List Value} (h : w.ownsRow base e size v n xs) (hg : w.grownBy w' v.ownBlock) (he : ∀ t, ts t → t ≠ e) : TK ts w w' := by
  intro k cs t fz ht hk
  refine (hg.block k (Array.getElem?_eq_some_iff.1 hk).1 (fun q => ?_)).trans hk
  rcases h.2 with ⟨rfl, _⟩ | ⟨g, cap, cur, rfl, _, hh, _⟩
  · cases q
  · have : k = g := by simpa [Value.ownBlock] using q
    subst this
    rw [hk] at hh
    injection hh with hh
    injection hh with _ hh _
    exact he t ht hh
theorem TK.row {base e size n : Nat} {v : Value} {xs : List Value} (h : w.ownsRow base e size v n xs) (hk : TK ts w w') (he : ts e) : w'.ownsRow base e size v n xs := by
  refine ⟨h.1, ?_⟩
  rcases h.2 with h2 | ⟨g, cap, cur, rfl, hb, hh, r⟩
  · exact .inl h2
  · exact .inr ⟨g, cap, cur, rfl, hb, hk g _ _ _ he hh, r⟩
theorem TK.blk {b : Nat} {a : Array Value} {t : TypeId} (h : Blk w b a t) (hk : TK ts w w') (he : ts t) : Blk w' b a t := hk b _ _ _ he h
end
theorem Tryz.infoGr2 : (Tryz.prog.info? 30).map (fun i => (i.zero, i.size, i.bytes)) = some (some (.agg #[.slice none 0 0]), 1, 24) := by kernel_rfl
def GP (w : World) (lo : Nat) (u : Value) (x : List GRule) : Prop := Sl RuleE w lo u x ∨ OwnRules w lo u x
theorem GP.sl {w : World} {lo : Nat} {u : Value} {x : List GRule} (h : GP w lo u x) (hl : lo ≤ w.heap.size) : Sl RuleE w w.heap.size u x := by
  rcases h with h | h
  · exact h.le hl
  · exact OwnRules.sl h
theorem GP.one {w : World} {lo : Nat} {u : Value} {x : List GRule} (h : GP w lo u x) : u.oneCell' = true ∧ ∃ A c, u = .slice A x.length c := by
  rcases h with ⟨A, c, rfl, _⟩ | h
  · exact ⟨rfl, A, c, rfl⟩
  · obtain ⟨A, c, rfl, _⟩ := own_nil h
    exact ⟨rfl, A, c, rfl⟩
theorem GP.keep {w w' : World} {lo : Nat} {u : Value} {x : List GRule} {ts : TypeId → Prop} (h : GP w lo u x) (hb : Below lo w w') (hk : TK ts w w') (he : ts 165) : GP w' lo u x :=
  h.imp (fun h => h.below hb) (fun h => TK.row h hk he)
def OGp (w : World) (lo : Nat) (v : Value) (gs : List (List GRule)) : Prop :=
  ∃ us : List Value, us.length = gs.length ∧ w.ownsRow lo 30 1 v gs.length us ∧ ∀ (i : Nat) u x, us[i]? = some u → gs[i]? = some x → GP w lo u x
theorem OGp.keep {w w' : World} {lo : Nat} {v : Value} {gs : List (List GRule)} {ts : TypeId → Prop} (h : OGp w lo v gs) (hb : Below lo w w') (hk : TK ts w w') (h1 : ts 165) (h2 : ts 30) : OGp w' lo v gs := by
  obtain ⟨us, a1, a2, a3⟩ := h
  exact ⟨us, a1, TK.row a2 hk h2, fun i u x hu hx => (a3 i u x hu hx).keep hb hk h1⟩
theorem OGp.up {w w' : World} {lo : Nat} {v : Value} {gs : List (List GRule)} (h : OGp w lo v gs) (hb : Below w.heap.size w w') (hl : lo ≤ w.heap.size) : OGp w' lo v gs :=
  h.keep (hb.mono hl) (TK.of_below (ts := fun _ => True) hb) trivial trivial
theorem OGp.at_ {w : World} {lo : Nat} {v : Value} {gs : List (List GRule)} (h : OGp w lo v gs) {i : Nat} {x : List GRule} (hx : gs[i]? = some x) :
    ∃ g cap u, v = .slice (some ⟨g, 0, none⟩) gs.length cap ∧ lo ≤ g ∧ g < w.heap.size ∧ gs.length ≤ cap ∧ cap ≤ maxLen ∧ w.cell? ⟨g, i, none⟩ = some u ∧ GP w lo u x := by
  obtain ⟨us, h1, h2, h3⟩ := h
  have hi : i < gs.length := (List.getElem?_eq_some_iff.1 hx).1
  obtain ⟨g, cap, rfl, h4, h5, h6, h7⟩ := own_form h2 (by omega)
  have hu : us[i]? = some us[i] := List.getElem?_eq_getElem (by omega)
  exact ⟨g, cap, us[i], rfl, h4, h5, h6.1, h6.2, h7 i _ hu, h3 i _ x hu hx⟩
theorem OGp.one {W : World} {lo N : Nat} {u : Value} {x : List GRule} (hN : N = W.heap.size) (h : lo ≤ W.heap.size) (hu : GP W lo u x) : OGp (W.alloc (.cells #[u] 30)) lo (.slice (some ⟨N, 0, none⟩) 1 1) [x] := by
  subst hN
  refine ⟨[u], rfl, World.ownsRow_lit W #[u] 1 h (by decide) rfl, fun i u' g hu' hg => ?_⟩
  have hi : i = 0 := by
    have := (List.getElem?_eq_some_iff.1 hg).1
    simp at this; exact this
  subst hi
  simp at hu' hg
  subst hu' hg
  have hb := (Below.refl W.heap.size W).alloc (Nat.le_refl _) (Obj.cells #[u] 30)
  exact hu.keep (hb.mono h) (TK.of_below (ts := fun _ => True) hb) trivial
theorem OGp.pop {w : World} {lo g c : Nat} {gs : List (List GRule)} (h : OGp w lo (.slice (some ⟨g, 0, none⟩) gs.length c) gs) (h0 : 0 < gs.length) : OGp w lo (.slice (some ⟨g, 0, none⟩) (gs.length - 1) c) gs.dropLast := by
  obtain ⟨us, h1, h2, h3⟩ := h
  have hu0 : us ≠ [] := by intro e; subst e; simp at h1; omega
  have hus : us.dropLast ++ [us.getLast hu0] = us := List.dropLast_concat_getLast hu0
  have hl : us.dropLast.length = gs.dropLast.length := by simp [h1]
  refine ⟨us.dropLast, hl, ?_, fun i u x hu hx => ?_⟩
  · rw [← hus, show gs.length = (gs.length - 1) + 1 by omega] at h2
    have := ownsRow_pop (by simp; omega) h2
    simpa using this
  · refine h3 i u x ?_ ?_
    · rw [List.getElem?_dropLast] at hu; split at hu
      · exact hu
      · cases hu
    · rw [List.getElem?_dropLast] at hx; split at hx
      · exact hx
      · cases hx
theorem OGp.snoc {W w' : World} {lo : Nat} {v v' : Value} {gs : List (List GRule)} {us : List Value} {u : Value} {y : List GRule} (h1 : us.length = gs.length) (hrow : W.ownsRow lo 30 1 v gs.length us) (h3 : ∀ (i : Nat) u x, us[i]? = some u → gs[i]? = some x → GP W lo u x)
    (hu : GP W lo u y) (hrow' : w'.ownsRow lo 30 1 v' (gs.length + 1) (us ++ [u])) (hg : W.grownBy w' v.ownBlock) (hb : Below lo W w') : OGp w' lo v' (gs ++ [y]) := by
  have hk : TK (fun t => t ≠ 30) W w' := TK.grown hrow hg (fun t ht => ht)
  refine ⟨us ++ [u], by simp [h1], by simpa using hrow', fun i u' g hu' hg' => ?_⟩
  rcases Nat.lt_or_ge i us.length with hlt | hge
  · rw [List.getElem?_append_left hlt] at hu'
    rw [List.getElem?_append_left (by omega)] at hg'
    exact (h3 i u' g hu' hg').keep hb hk (by decide)
  · rw [List.getElem?_append_right hge] at hu'
    rw [List.getElem?_append_right (by omega)] at hg'
    have hi0 : i - us.length = 0 := by
      have := (List.getElem?_eq_some_iff.1 hu').1
      simp at this; omega
    rw [hi0] at hu'
    rw [show i - gs.length = 0 by omega] at hg'
    simp at hu' hg'
    subst hu' hg'
    exact hu.keep hb hk (by decide)
theorem step_push_gp {W : World} {ops : Array Oper} {o : Oper} {a : Act} {K : Act → World → Prop} {Q : Exit → Act → World → Prop} {E : Prop} (hgd : o.guard = none) (s x : Operand)
    (ho : o.op = .call { callee := .builtin .append, args := #[s, x], argTypes := #[68, 68] }) {u : Value} {y : List GRule} {lo g c : Nat} {gs : List (List GRule)}
    (hs : a.eval s = .slice (some ⟨g, 0, none⟩) gs.length c) {N : Nat} (hx : a.eval x = .slice (some ⟨N, 0, none⟩) 1 1) (hc : W.cell? ⟨N, 0, none⟩ = some u) (hown : OGp W lo (.slice (some ⟨g, 0, none⟩) gs.length c) gs) (hlen : gs.length ≤ 1048576) (hbase : lo ≤ W.heap.size)
    (hu : GP W lo u y)
    (h : ∀ g' c' w', OGp w' lo (.slice (some ⟨g', 0, none⟩) (gs.length + 1) c') (gs ++ [y]) → Below lo W w' → TK (fun t => t ≠ 30) W w' → W.heap.size ≤ w'.heap.size → K (a.put o.dst (.slice (some ⟨g', 0, none⟩) (gs.length + 1) c')) w') :
    if Region.wanted o (yielded ops a.tmps) = true then Oper.wp Tryz.prog o a W K Q else E := by
  have hw : Region.wanted o (yielded ops a.tmps) = true := by simp [Region.wanted, hgd]
  rw [if_pos hw]
  obtain ⟨us, h1, hrow, h3⟩ := hown
  obtain ⟨i0, hi0, hz0, hz1, hz2⟩ := info_parts Tryz.infoGr2
  obtain ⟨v', w', hrun, k1, k2, _, k5⟩ := run_append_own_at (P := Tryz.prog) W lo 68 o.type 30 i0 _ 1 24 Tryz.underlying68 hi0 hz0 hz1 hz2 rfl (by decide) _ _ _ hrow ⟨N, 0, none⟩ 1 1 [u] rfl
    (fun j u' hu' => by
      cases j with
      | zero => simp at hu'; subst hu'; simpa [Addr.add] using hc
      | succ j => simp at hu') (by simpa using hu.one.1) (by simp only [maxLen]; omega) (by omega) hbase
  unfold Oper.wp execOp
  simp only [ho, resolve, invoke, builtin, Sem.run_bind, Sem.run_pure, Result.andThen_ok, List.map_toArray, List.map_cons, List.map_nil, hs, hx, hrun]
  have k1' : w'.ownsRow lo 30 1 v' (gs.length + 1) (us ++ [u]) := by simpa using k1
  have hb : Below lo W w' := (Below.refl lo W).grown k2 hbase (fun y hy => (World.ownsRow.lt hrow y hy).1)
  obtain ⟨g', c', rfl, _⟩ := own_form k1' (by omega)
  exact h g' c' w' (OGp.snoc h1 hrow h3 hu k1' k2 hb) hb (TK.grown hrow k2 (fun t ht => ht)) k2.size
def Ses (T : TypeId) (w : World) (lo P : Nat) (s : ScS) : Prop :=
  ∃ g c, Blk w P #[.slice (some ⟨g, 0, none⟩) s.gs.length c, .int .i64 s.n] T ∧ lo ≤ P ∧ lo ≤ g ∧ g < w.heap.size ∧ g ≠ P ∧ c ≤ maxLen ∧ s.gs.length ≤ c ∧ OGp w lo (.slice (some ⟨g, 0, none⟩) s.gs.length c) s.gs
theorem Ses.keep {T : TypeId} {w w' : World} {lo P : Nat} {s : ScS} {ts : TypeId → Prop} (h : Ses T w lo P s) (hb : Below lo w w') (hk : TK ts w w') (hz : w.heap.size ≤ w'.heap.size) (h1 : ts 165) (h2 : ts 30) (h3 : ts T) : Ses T w' lo P s := by
  obtain ⟨g, c, a1, a2, a3, a4, a5, a6, a7, a8⟩ := h
  exact ⟨g, c, TK.blk a1 hk h3, a2, a3, by omega, a5, a6, a7, a8.keep hb hk h1 h2⟩
theorem Ses.up {T : TypeId} {w w' : World} {lo P : Nat} {s : ScS} (h : Ses T w lo P s) (hb : Below w.heap.size w w') : Ses T w' lo P s := by
  have hl : lo ≤ w.heap.size := by obtain ⟨g, c, a1, a2, a3, a4, _⟩ := h; omega
  exact h.keep (hb.mono hl) (TK.of_below (ts := fun _ => True) hb) hb.size trivial trivial trivial
theorem Ses.of {T : TypeId} {w : World} {lo P g c : Nat} {s : ScS} (hT : T ≠ 30) (kP : Blk w P #[.slice (some ⟨g, 0, none⟩) s.gs.length c, .int .i64 s.n] T) (hlo : lo ≤ P) (og : OGp w lo (.slice (some ⟨g, 0, none⟩) s.gs.length c) s.gs) : Ses T w lo P s := by
  have og' := og
  obtain ⟨us, _, hrow, _⟩ := og
  rcases hrow.2 with ⟨h1, _⟩ | ⟨g', cap, cur, h1, h2, h3, h4, h5, _⟩
  · cases h1
  · injection h1 with h1 _ h6
    injection h1 with h1
    injection h1 with h1
    subst h1 h6
    refine ⟨g, c, kP, hlo, h2, (Array.getElem?_eq_some_iff.1 h3).1, ?_, h5, h4, og'⟩
    rintro rfl
    rw [show w.heap[g]? = _ from kP] at h3
    injection h3 with h3
    injection h3 with _ h3 _
    exact hT h3
theorem OGp.setP {T : TypeId} {w : World} {lo P i : Nat} {v u : Value} {a : Array Value} {gs : List (List GRule)} (h : OGp w lo v gs) (kP : Blk w P a T) (hlo : lo ≤ P) (h1 : 165 ≠ T) (h2 : 30 ≠ T) : OGp (w.setCell ⟨P, i, none⟩ u) lo v gs :=
  h.keep (ts := fun t => t ≠ T) ((Below.refl lo w).setCell (p := ⟨P, i, none⟩) hlo u) (TK.setCell kP (fun _ ht => ht)) h1 h2
def SK (T : TypeId) (t : TypeId) : Prop := t ≠ 30 ∧ t ≠ T
structure AnsSt (T : TypeId) (w wx : World) (lo P g c : Nat) (s : ScS) (D : Nat) (A : Option Addr) (cx : Nat) (x : List GRule) : Prop where
  bel : Below w.heap.size w wx
  kP : Blk wx P #[.slice (some ⟨g, 0, none⟩) s.gs.length c, .int .i64 s.n] T
  og : OGp wx lo (.slice (some ⟨g, 0, none⟩) s.gs.length c) s.gs
  kD : Blk wx D #[.slice A x.length cx] 30
  gx : Sl RuleE wx wx.heap.size (.slice A x.length cx) x
  wl : lo ≤ w.heap.size
theorem AnsSt.up {T : TypeId} {w wx w' : World} {lo P g c : Nat} {s : ScS} {D : Nat} {A : Option Addr} {cx : Nat} {x : List GRule} (h : AnsSt T w wx lo P g c s D A cx x) (hb : Below wx.heap.size wx w') : AnsSt T w w' lo P g c s D A cx x :=
  ⟨Below.tr h.bel hb, h.kP.up hb, h.og.up hb (Nat.le_trans h.wl h.bel.size), h.kD.up hb, h.gx.up hb, h.wl⟩
def AnsPost (T : TypeId) (lo P : Nat) (r : ByteArray × ScS) (w : World) (e : Ending) (w' : World) : Prop :=
  e = .returned (.string r.1) ∧ Ses T w' lo P r.2 ∧ Below lo w w' ∧ TK (SK T) w w' ∧ w.heap.size ≤ w'.heap.size
theorem AnsSt.same {T : TypeId} {w wx : World} {lo P g c : Nat} {s : ScS} {D : Nat} {A : Option Addr} {cx : Nat} {x : List GRule} (h : AnsSt T w wx lo P g c s D A cx x) (hT : T ≠ 30) (hlo : lo ≤ P) {b : ByteArray} {r : ByteArray × ScS} (hr : r = (b, s)) :
    AnsPost T lo P r w (.returned (.string b)) wx := by
  subst hr
  exact ⟨rfl, Ses.of hT h.kP hlo h.og, h.bel.mono h.wl, TK.of_below h.bel, h.bel.size⟩
end Go.Proofs.YtbifijlenbibmaaGreatDoor
