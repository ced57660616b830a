import Derived.Test.YtdacndamehiglaaGreatDoorM11
import Derived.Test.YtdacndamehiglaaGreatDoorM10
import Derived.Test.YtdacndamehiglaaGreatDoorM3
namespace Go.Proofs.YtdacndamehiglaaGreatDoor
open Go.RowKit
structure EdJ (w0 : World) (E R K b : Nat) (e : GEdit) (vR : Value) (xs : List GRule) (ls : List Int) (s : Option (List GRule)) (W : World) : Prop where
  bel : Below w0.heap.size w0 W
  hE : Blk W E (editCells e vR) 30
  hR : Blk W R #[.slice none 0 0] 26
  hK : Blk W K #[.pointer (some ⟨b, 0, none⟩)] 129
  asm : Asm W b xs ls s
  neE : E ≠ b
  neR : R ≠ b
  neK : K ≠ b
  le : w0.heap.size ≤ b
  ltR : w0.heap.size ≤ R
  neKR : K ≠ R
theorem EdJ.next {w0 W W' : World} {E R K b : Nat} {e : GEdit} {vR : Value} {xs : List GRule} {ls : List Int} {s s' : Option (List GRule)} (h : EdJ w0 E R K b e vR xs ls s W) (hb : But b W W') (ha : Asm W' b xs ls s') : EdJ w0 E R K b e vR xs ls s' W' :=
  ⟨h.bel.trans (hb.below h.le h.bel.size), h.hE.but hb h.neE, h.hR.but hb h.neR, h.hK.but hb h.neK, ha, h.neE, h.neR, h.neK, h.le, h.ltR, h.neKR⟩
def editS (xs : List GRule) (ls : List Int) (n : Int) (e : GEdit) : Option (List GRule) :=
  if e.kind = 1 then addO (addO (addO (some []) (limO (partG xs ls 0 e.i))) (some e.part)) (limO (partG xs ls e.i n))
  else if e.kind = 2 then addO (addO (some []) (limO (partG xs ls 0 e.i))) (limO (partG xs ls e.j n))
  else if e.kind = 3 then addO (addO (addO (some []) (limO (partG xs ls 0 e.k))) (limO (partG xs ls e.i e.j))) (limO (partG xs ls e.k n))
  else if e.kind = 4 then
    if e.k ≤ e.i then addO (addO (addO (addO (some []) (limO (partG xs ls 0 e.k))) (limO (partG xs ls e.i e.j))) (limO (partG xs ls e.k e.i))) (limO (partG xs ls e.j n))
    else addO (addO (addO (addO (some []) (limO (partG xs ls 0 e.i))) (limO (partG xs ls e.j e.k))) (limO (partG xs ls e.i e.j))) (limO (partG xs ls e.k n))
  else addO (addO (addO (some []) (limO (partG xs ls 0 e.i))) ((limO (partG xs ls e.i e.j)).bind (chgO e))) (limO (partG xs ls e.j n))
def editG (s : Option (List GRule)) : List GRule := match s with | some o => trimG o | none => []
def editC (s : Option (List GRule)) : Int := match s with | some _ => 0 | none => 3
def kindOk (e : GEdit) : Prop := e.kind = 1 ∨ e.kind = 2 ∨ e.kind = 3 ∨ e.kind = 4 ∨ chgOK e
theorem asm_start {W : World} {b : Nat} {vG vL : Value} {xs : List GRule} {ls : List Int} (h : Blk W b #[vG, vL, .slice none 0 0, .int .i64 0] 131) (hg : Sl RuleE W b vG xs) (hl : Sl IntE W b vL ls) : Asm W b xs ls (some []) :=
  ⟨vG, vL, .slice none 0 0, [], 0, h, hg, hl, World.ownsRow_nil _ _ _ _, .inl ⟨rfl, rfl, rfl⟩, rfl⟩
theorem edJ_start1 {w w1 : World} {E R : Nat} {e : GEdit} {vR vG vL : Value} {xs : List GRule} {ls : List Int} (hb : Below w.heap.size w w1) (hE : Blk w1 E (editCells e vR) 30) (hR : Blk w1 R #[.slice none 0 0] 26)
    (hg : Sl RuleE w1 w1.heap.size vG xs) (hl : Sl IntE w1 w1.heap.size vL ls) (hr : w.heap.size ≤ R) :
    EdJ w E R (w1.heap.size + 1) w1.heap.size e vR xs ls (some []) ((w1.alloc (.cells #[vG, vL, .slice none 0 0, .int .i64 0] 131)).alloc (.cells #[.pointer (some ⟨w1.heap.size, 0, none⟩)] 129)).drew := by
  have h1 := hE.lt; have h2 := hR.lt; have h3 := hb.size
  have h4 : Blk (w1.alloc (.cells #[vG, vL, .slice none 0 0, .int .i64 0] 131)) w1.heap.size _ _ := Blk.new _ _ _
  refine ⟨((hb.alloc h3 _).alloc (by simp; omega) _).drew, (hE.alloc _).alloc _, (hR.alloc _).alloc _, ?_, asm_start (h4.alloc _) ?_ ?_, by omega, by omega, by omega, h3, hr, by omega⟩
  · have := Blk.new (w1.alloc (.cells #[vG, vL, .slice none 0 0, .int .i64 0] 131)) #[.pointer (some ⟨w1.heap.size, 0, none⟩)] 129
    exact Blk.drew (by simpa [Blk] using this)
  · exact hg.below (((Below.refl _ _).alloc (Nat.le_refl _) _).alloc (by simp) _).drew
  · exact hl.below (((Below.refl _ _).alloc (Nat.le_refl _) _).alloc (by simp) _).drew
theorem edJ_start2 {w w1 : World} {E R : Nat} {e : GEdit} {vR vG vL : Value} {xs : List GRule} {ls : List Int} (hb : Below w.heap.size w w1) (hE : Blk w1 E (editCells e vR) 30) (hR : Blk w1 R #[.slice none 0 0] 26)
    (hg : Sl RuleE w1 w1.heap.size vG xs) (hl : Sl IntE w1 w1.heap.size vL ls) (hr : w.heap.size ≤ R) :
    EdJ w E R w1.heap.size (w1.heap.size + 1) e vR xs ls (some []) ((w1.alloc (.cells #[.pointer (some ⟨w1.heap.size + 1, 0, none⟩)] 129)).alloc (.cells #[vG, vL, .slice none 0 0, .int .i64 0] 131)).drew := by
  have h1 := hE.lt; have h2 := hR.lt; have h3 := hb.size
  have h4 : Blk (w1.alloc (.cells #[.pointer (some ⟨w1.heap.size + 1, 0, none⟩)] 129)) w1.heap.size _ _ := Blk.new _ _ _
  have hbz := (((Below.refl w1.heap.size w1).alloc (Nat.le_refl _) (.cells #[.pointer (some ⟨w1.heap.size + 1, 0, none⟩)] 129)).alloc (by simp) (.cells #[vG, vL, .slice none 0 0, .int .i64 0] 131)).drew
  refine ⟨((hb.alloc h3 _).alloc (by simp; omega) _).drew, (hE.alloc _).alloc _, (hR.alloc _).alloc _, h4.alloc _, asm_start ?_ ((hg.below hbz).le (by omega)) ((hl.below hbz).le (by omega)), by omega, by omega, by omega, by omega, hr, by omega⟩
  have := Blk.new (w1.alloc (.cells #[.pointer (some ⟨w1.heap.size + 1, 0, none⟩)] 129)) #[vG, vL, .slice none 0 0, .int .i64 0] 131
  exact Blk.drew (by simpa [Blk] using this)
set_option maxRecDepth 100000 in
set_option maxHeartbeats 4000000 in
theorem edited_any (vG vR : Value) (xs : List GRule) (ls : List Int) (e : GEdit) (w : World) (hG : Sl RuleE w w.heap.size vG xs) (hR : Sl RuleE w w.heap.size vR e.part) (hl : lens xs = some ls) (hn : xs.length ≤ 1048576) (hk : kindOk e) (hp : gramOk e.part = true) (htab : Lib.TabIs Tryz.prog w "math/bits.deBruijn64tab" .u8 deB64) :
    Calls Tryz.prog 40 #[.agg #[vG], .agg (editCells e vR)] w (GRes (editG (editS xs ls (lastI ls) e)) (editC (editS xs ls (lastI ls) e)) w) := by
  have HG := Lib.hid hG
  have HR := Lib.hid hR
  have HL := Lib.hid hl
  have HK := Lib.hid hk
  have HP := Lib.hid hp
  have HT := Lib.hid htab
  obtain ⟨AG, cG, rfl, _⟩ := hG
  obtain ⟨AR, cR, rfl, _⟩ := hR
  clear hl hk hp htab
  unfold editCells
  go_enter Tryz.func40, Tryz.ntmps40
  go_wp2_with fail
  refine (lengths_any _ xs _ (HG.out.up (by repeat (first | exact Below.refl _ _ | (refine Below.alloc ?_ (by first | omega | (simp; done) | (simp; omega)) _) | (refine Below.setCell ?_ (by first | exact Nat.le_refl _ | (show _ ≤ _; omega) | (simp; done) | (simp; omega)) _) | refine below_drewN ?_ _ | refine Below.drew ?_))) (by omega)).mono ?_
  rintro e1 w1 ⟨hb, (⟨ls', v1, h1, rfl, h2⟩ | ⟨h1, rfl⟩)⟩
  case inr => rw [HL.out] at h1; cases h1
  have h3 : ls' = ls := by rw [HL.out] at h1; exact (Option.some.inj h1).symm
  subst h3
  obtain ⟨hb1, K2⟩ := Below.unalloc hb
  obtain ⟨hb2, K1⟩ := Below.unalloc hb1
  obtain ⟨hb3, K0⟩ := Below.unalloc hb2
  have KP : Blk w1 w.heap.size #[.slice AG xs.length cG] 26 := K0
  have KE : Blk w1 (w.heap.size + 1) (editCells e (.slice AR e.part.length cR)) 30 := by simpa [Blk, editCells] using K1
  have KR : Blk w1 (w.heap.size + 2) #[.slice none 0 0] 26 := by simpa [Blk] using K2
  have HL1 := Lib.hid (OwnInts.sl h2)
  have HB := Lib.hid hb3
  have HE1 := Lib.hid KE
  have HR1 := Lib.hid KR
  obtain ⟨AL, cL, rfl, _⟩ := OwnInts.sl h2
  have HI := Lib.hid h2
  clear hb hb1 hb2 hb3 K0 K1 K2 KE KR h1 h2
  have cP := KP.cell (i := 0) (v := .slice AG xs.length cG) rfl
  have lP := KP.lt
  have lR1 := HR1.out.lt
  go_wp2_with fail
  go_cut [8, 9] (fun s8 s9 wx => ∃ K b : Nat, s8 = .int .i64 (lastI ls') ∧ s9 = .pointer (some ⟨K, 0, none⟩) ∧ EdJ w (w.heap.size + 1) (w.heap.size + 2) K b e (.slice AR e.part.length cR) xs ls' (some []) wx)
  case first =>
    go_region_law (go_simp; go_at_call 93; (refine (last_any _ ls' _ ?_).mono ?_); (first | (exact HL1.out.up (by repeat (first | exact Below.refl _ _ | (refine Below.alloc ?_ (by first | omega | (simp; done) | (simp; omega)) _) | (refine Below.setCell ?_ (by first | exact Nat.le_refl _ | (show _ ≤ _; omega) | (simp; done) | (simp; omega)) _) | refine below_drewN ?_ _ | refine Below.drew ?_))) | skip); rintro e2 w2 ⟨rfl, rfl⟩)
    all_goals
      go_wp2_with fail
      go_meet
      first
        | exact ⟨_, _, rfl, rfl, edJ_start1 HB.out HE1.out HR1.out (HG.out.up HB.out) HL1.out (by omega)⟩
        | exact ⟨_, _, rfl, rfl, edJ_start2 HB.out HE1.out HR1.out (HG.out.up HB.out) HL1.out (by omega)⟩
  -- GEN
  case rest =>
    obtain ⟨K, b, rfl, rfl, hj⟩ := hcut
    have HJ1 := Lib.hid hj
    clear hj cP lP lR1 KP HE1 HR1 HL1 HI HB
    rcases HK.out with hk | hk | hk | hk | hkk
    · have x0 := HJ1.out.hE.cell (i := 0) (v := .int .i64 1) (by rw [← hk]; rfl)
      have HKE := Lib.hid hk
      clear hk
      have aK := HJ1.out.hK.cell (i := 0) (v := .pointer (some ⟨b, 0, none⟩)) rfl
      have aE1 := HJ1.out.hE.cell (i := 1) (v := .int .i64 e.i) rfl
      have aB := HJ1.out.asm.lt
      have aE := HJ1.out.hE.lt
      have aKl := HJ1.out.hK.lt
      go_wp2_with fail
      refine (asmKeep_any b xs ls' _ 0 (e.i) _ HJ1.out.asm HL.out hn).mono ?_
      rintro e6 w6 ⟨rfl, hb1, ha1⟩
      have HJ2 := Lib.hid (HJ1.out.next hb1 ha1)
      clear aK aB aE aKl aE1 hb1 ha1 HJ1
      have aK := HJ2.out.hK.cell (i := 0) (v := .pointer (some ⟨b, 0, none⟩)) rfl
      have aE4 := HJ2.out.hE.cell (i := 4) (v := .slice AR e.part.length cR) rfl
      have aB := HJ2.out.asm.lt
      go_wp2_with fail
      refine (asmAdd_any b xs ls' _ (some e.part) (.slice AR e.part.length cR) e.part 0 _ HJ2.out.asm (sl_ne (HR.out.below HJ2.out.bel) HJ2.out.le aB) (.inl ⟨rfl, rfl, HP.out⟩)).mono ?_
      rintro e7 w7 ⟨rfl, hb2, ha2⟩
      have HJ3 := Lib.hid (HJ2.out.next hb2 ha2)
      clear aK aE4 aB hb2 ha2 HJ2
      have aK := HJ3.out.hK.cell (i := 0) (v := .pointer (some ⟨b, 0, none⟩)) rfl
      have aE1 := HJ3.out.hE.cell (i := 1) (v := .int .i64 e.i) rfl
      have aB := HJ3.out.asm.lt
      have aE := HJ3.out.hE.lt
      have aKl := HJ3.out.hK.lt
      go_wp2_with fail
      refine (asmKeep_any b xs ls' _ e.i (lastI ls') _ HJ3.out.asm HL.out hn).mono ?_
      rintro e8 w8 ⟨rfl, hb3, ha3⟩
      have HJ4 := Lib.hid (HJ3.out.next hb3 ha3)
      clear aK aB aE aKl aE1 hb3 ha3 HJ3
      have hQ : editS xs ls' (lastI ls') e = addO (addO (addO (some []) (limO (partG xs ls' 0 (e.i)))) (some e.part)) (limO (partG xs ls' e.i (lastI ls'))) := by unfold editS; rw [if_pos HKE.out]
      have HQ := Lib.hid hQ
      clear hQ
      obtain ⟨vG9, vL9, vO, out, c9, hB9, hG9, hL9, hO9, hs9, hok9⟩ := HJ4.out.asm
      obtain ⟨AO, kO, rfl, _⟩ := own_nil hO9
      have aK := HJ4.out.hK.cell (i := 0) (v := .pointer (some ⟨b, 0, none⟩)) rfl
      have aR := HJ4.out.hR.cell (i := 0) (v := .slice none 0 0) rfl
      have aRf := HJ4.out.hR.frozen 0
      have aRl := HJ4.out.hR.lt
      have HO9 := Lib.hid hO9
      have HBE := Lib.hid HJ4.out.bel
      have HRR := Lib.hid HJ4.out.hR
      have hle := HJ4.out.le
      have HOK := Lib.hid hok9
      have aBl := hB9.lt
      have nKR : K ≠ w.heap.size + 1 + 1 := HJ4.out.neKR
      have nbR : b ≠ w.heap.size + 1 + 1 := fun h => HJ4.out.neR h.symm
      clear hG9 hL9 hO9
      rcases hs9 with ⟨hs, rfl, _⟩ | ⟨hs, rfl⟩
      · have HS := Lib.hid hs
        have a2 := hB9.cell (i := 2) (v := .slice AO out.length kO) rfl
        have a3 := hB9.cell (i := 3) (v := .int .i64 0) rfl
        clear hs hB9 hok9 HJ4
        go_wp2_with fail
        refine (trimmed_any _ out _ HO9.out.sl (by have := gram_len400 HOK.out; omega) (okAll_lens (gram_lens HOK.out).2.choose_spec)).mono ?_
        rintro e10 w10 ⟨hb10, v10, own10, rfl⟩
        have HR10 := Lib.hid (HRR.out.up hb10)
        have HB10 := Lib.hid (Below.tr HBE.out hb10)
        have HO10 := Lib.hid own10
        obtain ⟨A10, k10, rfl, _⟩ := own_nil own10
        have b0 := HR10.out.cell (i := 0) (v := .slice none 0 0) rfl
        have b1 := HR10.out.frozen 0
        have b2 := HR10.out.lt
        have hzz := HBE.out.size
        clear hb10 own10 a2 a3 aK aR aRf
        go_wp2_with fail
        refine bodyPost_ret (v := .tuple #[.agg #[.slice A10 (trimG out).length k10], .int .i64 0]) (by simp [results, Tryz.results40, go_sem, b0]) rfl ⟨HB10.out.setCell (by show w.heap.size ≤ w.heap.size + 2; omega) _, .slice A10 (trimG out).length k10, ?_, by rw [HQ.out, HS.out]; rfl⟩
        rw [HQ.out, HS.out]
        exact ownsRow_more (ownsRow_setCell_below HO10.out (a := ⟨w.heap.size + 2, 0, none⟩) aRl _) hzz
      · have HS := Lib.hid hs
        have a3 := hB9.cell (i := 3) (v := .int .i64 3) rfl
        clear hs hB9 hok9 HJ4
        go_wp2_with fail
        go_region
        all_goals
          go_wp2_with fail
          refine bodyPost_ret (v := .tuple #[.agg #[.slice none 0 0], .int .i64 3]) (by simp [results, Tryz.results40, go_sem, aR]) rfl ⟨(HBE.out.drew).setCell (by show w.heap.size ≤ w.heap.size + 2; omega) _, .slice none 0 0, ?_, by rw [HQ.out, HS.out]; rfl⟩
          rw [HQ.out, HS.out]
          exact World.ownsRow_nil _ _ _ _
    · have x0 := HJ1.out.hE.cell (i := 0) (v := .int .i64 2) (by rw [← hk]; rfl)
      have HKE := Lib.hid hk
      clear hk
      have aK := HJ1.out.hK.cell (i := 0) (v := .pointer (some ⟨b, 0, none⟩)) rfl
      have aE1 := HJ1.out.hE.cell (i := 1) (v := .int .i64 e.i) rfl
      have aB := HJ1.out.asm.lt
      have aE := HJ1.out.hE.lt
      have aKl := HJ1.out.hK.lt
      go_wp2_with fail
      refine (asmKeep_any b xs ls' _ 0 (e.i) _ HJ1.out.asm HL.out hn).mono ?_
      rintro e6 w6 ⟨rfl, hb1, ha1⟩
      have HJ2 := Lib.hid (HJ1.out.next hb1 ha1)
      clear aK aB aE aKl aE1 hb1 ha1 HJ1
      have aK := HJ2.out.hK.cell (i := 0) (v := .pointer (some ⟨b, 0, none⟩)) rfl
      have aE2 := HJ2.out.hE.cell (i := 2) (v := .int .i64 e.j) rfl
      have aB := HJ2.out.asm.lt
      have aE := HJ2.out.hE.lt
      have aKl := HJ2.out.hK.lt
      go_wp2_with fail
      refine (asmKeep_any b xs ls' _ e.j (lastI ls') _ HJ2.out.asm HL.out hn).mono ?_
      rintro e7 w7 ⟨rfl, hb2, ha2⟩
      have HJ3 := Lib.hid (HJ2.out.next hb2 ha2)
      clear aK aB aE aKl aE2 hb2 ha2 HJ2
      have hQ : editS xs ls' (lastI ls') e = addO (addO (some []) (limO (partG xs ls' 0 (e.i)))) (limO (partG xs ls' e.j (lastI ls'))) := by unfold editS; rw [if_neg (by rw [HKE.out]; decide), if_pos HKE.out]
      have HQ := Lib.hid hQ
      clear hQ
      obtain ⟨vG9, vL9, vO, out, c9, hB9, hG9, hL9, hO9, hs9, hok9⟩ := HJ3.out.asm
      obtain ⟨AO, kO, rfl, _⟩ := own_nil hO9
      have aK := HJ3.out.hK.cell (i := 0) (v := .pointer (some ⟨b, 0, none⟩)) rfl
      have aR := HJ3.out.hR.cell (i := 0) (v := .slice none 0 0) rfl
      have aRf := HJ3.out.hR.frozen 0
      have aRl := HJ3.out.hR.lt
      have HO9 := Lib.hid hO9
      have HBE := Lib.hid HJ3.out.bel
      have HRR := Lib.hid HJ3.out.hR
      have hle := HJ3.out.le
      have HOK := Lib.hid hok9
      have aBl := hB9.lt
      have nKR : K ≠ w.heap.size + 1 + 1 := HJ3.out.neKR
      have nbR : b ≠ w.heap.size + 1 + 1 := fun h => HJ3.out.neR h.symm
      clear hG9 hL9 hO9
      rcases hs9 with ⟨hs, rfl, _⟩ | ⟨hs, rfl⟩
      · have HS := Lib.hid hs
        have a2 := hB9.cell (i := 2) (v := .slice AO out.length kO) rfl
        have a3 := hB9.cell (i := 3) (v := .int .i64 0) rfl
        clear hs hB9 hok9 HJ3
        go_wp2_with fail
        refine (trimmed_any _ out _ HO9.out.sl (by have := gram_len400 HOK.out; omega) (okAll_lens (gram_lens HOK.out).2.choose_spec)).mono ?_
        rintro e10 w10 ⟨hb10, v10, own10, rfl⟩
        have HR10 := Lib.hid (HRR.out.up hb10)
        have HB10 := Lib.hid (Below.tr HBE.out hb10)
        have HO10 := Lib.hid own10
        obtain ⟨A10, k10, rfl, _⟩ := own_nil own10
        have b0 := HR10.out.cell (i := 0) (v := .slice none 0 0) rfl
        have b1 := HR10.out.frozen 0
        have b2 := HR10.out.lt
        have hzz := HBE.out.size
        clear hb10 own10 a2 a3 aK aR aRf
        go_wp2_with fail
        refine bodyPost_ret (v := .tuple #[.agg #[.slice A10 (trimG out).length k10], .int .i64 0]) (by simp [results, Tryz.results40, go_sem, b0]) rfl ⟨HB10.out.setCell (by show w.heap.size ≤ w.heap.size + 2; omega) _, .slice A10 (trimG out).length k10, ?_, by rw [HQ.out, HS.out]; rfl⟩
        rw [HQ.out, HS.out]
        exact ownsRow_more (ownsRow_setCell_below HO10.out (a := ⟨w.heap.size + 2, 0, none⟩) aRl _) hzz
      · have HS := Lib.hid hs
        have a3 := hB9.cell (i := 3) (v := .int .i64 3) rfl
        clear hs hB9 hok9 HJ3
        go_wp2_with fail
        go_region
        all_goals
          go_wp2_with fail
          refine bodyPost_ret (v := .tuple #[.agg #[.slice none 0 0], .int .i64 3]) (by simp [results, Tryz.results40, go_sem, aR]) rfl ⟨(HBE.out.drew).setCell (by show w.heap.size ≤ w.heap.size + 2; omega) _, .slice none 0 0, ?_, by rw [HQ.out, HS.out]; rfl⟩
          rw [HQ.out, HS.out]
          exact World.ownsRow_nil _ _ _ _
    · have x0 := HJ1.out.hE.cell (i := 0) (v := .int .i64 3) (by rw [← hk]; rfl)
      have HKE := Lib.hid hk
      clear hk
      have aK := HJ1.out.hK.cell (i := 0) (v := .pointer (some ⟨b, 0, none⟩)) rfl
      have aE3 := HJ1.out.hE.cell (i := 3) (v := .int .i64 e.k) rfl
      have aB := HJ1.out.asm.lt
      have aE := HJ1.out.hE.lt
      have aKl := HJ1.out.hK.lt
      go_wp2_with fail
      refine (asmKeep_any b xs ls' _ 0 (e.k) _ HJ1.out.asm HL.out hn).mono ?_
      rintro e6 w6 ⟨rfl, hb1, ha1⟩
      have HJ2 := Lib.hid (HJ1.out.next hb1 ha1)
      clear aK aB aE aKl aE3 hb1 ha1 HJ1
      have aK := HJ2.out.hK.cell (i := 0) (v := .pointer (some ⟨b, 0, none⟩)) rfl
      have aE1 := HJ2.out.hE.cell (i := 1) (v := .int .i64 e.i) rfl
      have aE2 := HJ2.out.hE.cell (i := 2) (v := .int .i64 e.j) rfl
      have aB := HJ2.out.asm.lt
      have aE := HJ2.out.hE.lt
      have aKl := HJ2.out.hK.lt
      go_wp2_with fail
      refine (asmKeep_any b xs ls' _ e.i (e.j) _ HJ2.out.asm HL.out hn).mono ?_
      rintro e7 w7 ⟨rfl, hb2, ha2⟩
      have HJ3 := Lib.hid (HJ2.out.next hb2 ha2)
      clear aK aB aE aKl aE1 aE2 hb2 ha2 HJ2
      have aK := HJ3.out.hK.cell (i := 0) (v := .pointer (some ⟨b, 0, none⟩)) rfl
      have aE3 := HJ3.out.hE.cell (i := 3) (v := .int .i64 e.k) rfl
      have aB := HJ3.out.asm.lt
      have aE := HJ3.out.hE.lt
      have aKl := HJ3.out.hK.lt
      go_wp2_with fail
      refine (asmKeep_any b xs ls' _ e.k (lastI ls') _ HJ3.out.asm HL.out hn).mono ?_
      rintro e8 w8 ⟨rfl, hb3, ha3⟩
      have HJ4 := Lib.hid (HJ3.out.next hb3 ha3)
      clear aK aB aE aKl aE3 hb3 ha3 HJ3
      have hQ : editS xs ls' (lastI ls') e = addO (addO (addO (some []) (limO (partG xs ls' 0 (e.k)))) (limO (partG xs ls' e.i (e.j)))) (limO (partG xs ls' e.k (lastI ls'))) := by unfold editS; rw [if_neg (by rw [HKE.out]; decide), if_neg (by rw [HKE.out]; decide), if_pos HKE.out]
      have HQ := Lib.hid hQ
      clear hQ
      obtain ⟨vG9, vL9, vO, out, c9, hB9, hG9, hL9, hO9, hs9, hok9⟩ := HJ4.out.asm
      obtain ⟨AO, kO, rfl, _⟩ := own_nil hO9
      have aK := HJ4.out.hK.cell (i := 0) (v := .pointer (some ⟨b, 0, none⟩)) rfl
      have aR := HJ4.out.hR.cell (i := 0) (v := .slice none 0 0) rfl
      have aRf := HJ4.out.hR.frozen 0
      have aRl := HJ4.out.hR.lt
      have HO9 := Lib.hid hO9
      have HBE := Lib.hid HJ4.out.bel
      have HRR := Lib.hid HJ4.out.hR
      have hle := HJ4.out.le
      have HOK := Lib.hid hok9
      have aBl := hB9.lt
      have nKR : K ≠ w.heap.size + 1 + 1 := HJ4.out.neKR
      have nbR : b ≠ w.heap.size + 1 + 1 := fun h => HJ4.out.neR h.symm
      clear hG9 hL9 hO9
      rcases hs9 with ⟨hs, rfl, _⟩ | ⟨hs, rfl⟩
      · have HS := Lib.hid hs
        have a2 := hB9.cell (i := 2) (v := .slice AO out.length kO) rfl
        have a3 := hB9.cell (i := 3) (v := .int .i64 0) rfl
        clear hs hB9 hok9 HJ4
        go_wp2_with fail
        refine (trimmed_any _ out _ HO9.out.sl (by have := gram_len400 HOK.out; omega) (okAll_lens (gram_lens HOK.out).2.choose_spec)).mono ?_
        rintro e10 w10 ⟨hb10, v10, own10, rfl⟩
        have HR10 := Lib.hid (HRR.out.up hb10)
        have HB10 := Lib.hid (Below.tr HBE.out hb10)
        have HO10 := Lib.hid own10
        obtain ⟨A10, k10, rfl, _⟩ := own_nil own10
        have b0 := HR10.out.cell (i := 0) (v := .slice none 0 0) rfl
        have b1 := HR10.out.frozen 0
        have b2 := HR10.out.lt
        have hzz := HBE.out.size
        clear hb10 own10 a2 a3 aK aR aRf
        go_wp2_with fail
        refine bodyPost_ret (v := .tuple #[.agg #[.slice A10 (trimG out).length k10], .int .i64 0]) (by simp [results, Tryz.results40, go_sem, b0]) rfl ⟨HB10.out.setCell (by show w.heap.size ≤ w.heap.size + 2; omega) _, .slice A10 (trimG out).length k10, ?_, by rw [HQ.out, HS.out]; rfl⟩
        rw [HQ.out, HS.out]
        exact ownsRow_more (ownsRow_setCell_below HO10.out (a := ⟨w.heap.size + 2, 0, none⟩) aRl _) hzz
      · have HS := Lib.hid hs
        have a3 := hB9.cell (i := 3) (v := .int .i64 3) rfl
        clear hs hB9 hok9 HJ4
        go_wp2_with fail
        go_region
        all_goals
          go_wp2_with fail
          refine bodyPost_ret (v := .tuple #[.agg #[.slice none 0 0], .int .i64 3]) (by simp [results, Tryz.results40, go_sem, aR]) rfl ⟨(HBE.out.drew).setCell (by show w.heap.size ≤ w.heap.size + 2; omega) _, .slice none 0 0, ?_, by rw [HQ.out, HS.out]; rfl⟩
          rw [HQ.out, HS.out]
          exact World.ownsRow_nil _ _ _ _
    · have x0 := HJ1.out.hE.cell (i := 0) (v := .int .i64 4) (by rw [← hk]; rfl)
      have HKE := Lib.hid hk
      clear hk
      have y1 := HJ1.out.hE.cell (i := 1) (v := .int .i64 e.i) rfl
      have y3 := HJ1.out.hE.cell (i := 3) (v := .int .i64 e.k) rfl
      by_cases hki : e.k ≤ e.i
      · have HKI := Lib.hid hki
        have aK := HJ1.out.hK.cell (i := 0) (v := .pointer (some ⟨b, 0, none⟩)) rfl
        have aE3 := HJ1.out.hE.cell (i := 3) (v := .int .i64 e.k) rfl
        have aB := HJ1.out.asm.lt
        have aE := HJ1.out.hE.lt
        have aKl := HJ1.out.hK.lt
        go_wp2_with fail
        refine (asmKeep_any b xs ls' _ 0 (e.k) _ HJ1.out.asm HL.out hn).mono ?_
        rintro e6 w6 ⟨rfl, hb1, ha1⟩
        have HJ2 := Lib.hid (HJ1.out.next hb1 ha1)
        clear aK aB aE aKl aE3 hb1 ha1 HJ1
        have aK := HJ2.out.hK.cell (i := 0) (v := .pointer (some ⟨b, 0, none⟩)) rfl
        have aE1 := HJ2.out.hE.cell (i := 1) (v := .int .i64 e.i) rfl
        have aE2 := HJ2.out.hE.cell (i := 2) (v := .int .i64 e.j) rfl
        have aB := HJ2.out.asm.lt
        have aE := HJ2.out.hE.lt
        have aKl := HJ2.out.hK.lt
        go_wp2_with fail
        refine (asmKeep_any b xs ls' _ e.i (e.j) _ HJ2.out.asm HL.out hn).mono ?_
        rintro e7 w7 ⟨rfl, hb2, ha2⟩
        have HJ3 := Lib.hid (HJ2.out.next hb2 ha2)
        clear aK aB aE aKl aE1 aE2 hb2 ha2 HJ2
        have aK := HJ3.out.hK.cell (i := 0) (v := .pointer (some ⟨b, 0, none⟩)) rfl
        have aE1 := HJ3.out.hE.cell (i := 1) (v := .int .i64 e.i) rfl
        have aE3 := HJ3.out.hE.cell (i := 3) (v := .int .i64 e.k) rfl
        have aB := HJ3.out.asm.lt
        have aE := HJ3.out.hE.lt
        have aKl := HJ3.out.hK.lt
        go_wp2_with fail
        refine (asmKeep_any b xs ls' _ e.k (e.i) _ HJ3.out.asm HL.out hn).mono ?_
        rintro e8 w8 ⟨rfl, hb3, ha3⟩
        have HJ4 := Lib.hid (HJ3.out.next hb3 ha3)
        clear aK aB aE aKl aE1 aE3 hb3 ha3 HJ3
        have aK := HJ4.out.hK.cell (i := 0) (v := .pointer (some ⟨b, 0, none⟩)) rfl
        have aE2 := HJ4.out.hE.cell (i := 2) (v := .int .i64 e.j) rfl
        have aB := HJ4.out.asm.lt
        have aE := HJ4.out.hE.lt
        have aKl := HJ4.out.hK.lt
        go_wp2_with fail
        refine (asmKeep_any b xs ls' _ e.j (lastI ls') _ HJ4.out.asm HL.out hn).mono ?_
        rintro e9 w9 ⟨rfl, hb4, ha4⟩
        have HJ5 := Lib.hid (HJ4.out.next hb4 ha4)
        clear aK aB aE aKl aE2 hb4 ha4 HJ4
        have hQ : editS xs ls' (lastI ls') e = addO (addO (addO (addO (some []) (limO (partG xs ls' 0 (e.k)))) (limO (partG xs ls' e.i (e.j)))) (limO (partG xs ls' e.k (e.i)))) (limO (partG xs ls' e.j (lastI ls'))) := by unfold editS; rw [if_neg (by rw [HKE.out]; decide), if_neg (by rw [HKE.out]; decide), if_neg (by rw [HKE.out]; decide), if_pos HKE.out, if_pos HKI.out]
        have HQ := Lib.hid hQ
        clear hQ
        obtain ⟨vG9, vL9, vO, out, c9, hB9, hG9, hL9, hO9, hs9, hok9⟩ := HJ5.out.asm
        obtain ⟨AO, kO, rfl, _⟩ := own_nil hO9
        have aK := HJ5.out.hK.cell (i := 0) (v := .pointer (some ⟨b, 0, none⟩)) rfl
        have aR := HJ5.out.hR.cell (i := 0) (v := .slice none 0 0) rfl
        have aRf := HJ5.out.hR.frozen 0
        have aRl := HJ5.out.hR.lt
        have HO9 := Lib.hid hO9
        have HBE := Lib.hid HJ5.out.bel
        have HRR := Lib.hid HJ5.out.hR
        have hle := HJ5.out.le
        have HOK := Lib.hid hok9
        have aBl := hB9.lt
        have nKR : K ≠ w.heap.size + 1 + 1 := HJ5.out.neKR
        have nbR : b ≠ w.heap.size + 1 + 1 := fun h => HJ5.out.neR h.symm
        clear hG9 hL9 hO9
        rcases hs9 with ⟨hs, rfl, _⟩ | ⟨hs, rfl⟩
        · have HS := Lib.hid hs
          have a2 := hB9.cell (i := 2) (v := .slice AO out.length kO) rfl
          have a3 := hB9.cell (i := 3) (v := .int .i64 0) rfl
          clear hs hB9 hok9 HJ5
          go_wp2_with fail
          refine (trimmed_any _ out _ HO9.out.sl (by have := gram_len400 HOK.out; omega) (okAll_lens (gram_lens HOK.out).2.choose_spec)).mono ?_
          rintro e10 w10 ⟨hb10, v10, own10, rfl⟩
          have HR10 := Lib.hid (HRR.out.up hb10)
          have HB10 := Lib.hid (Below.tr HBE.out hb10)
          have HO10 := Lib.hid own10
          obtain ⟨A10, k10, rfl, _⟩ := own_nil own10
          have b0 := HR10.out.cell (i := 0) (v := .slice none 0 0) rfl
          have b1 := HR10.out.frozen 0
          have b2 := HR10.out.lt
          have hzz := HBE.out.size
          clear hb10 own10 a2 a3 aK aR aRf
          go_wp2_with fail
          refine bodyPost_ret (v := .tuple #[.agg #[.slice A10 (trimG out).length k10], .int .i64 0]) (by simp [results, Tryz.results40, go_sem, b0]) rfl ⟨HB10.out.setCell (by show w.heap.size ≤ w.heap.size + 2; omega) _, .slice A10 (trimG out).length k10, ?_, by rw [HQ.out, HS.out]; rfl⟩
          rw [HQ.out, HS.out]
          exact ownsRow_more (ownsRow_setCell_below HO10.out (a := ⟨w.heap.size + 2, 0, none⟩) aRl _) hzz
        · have HS := Lib.hid hs
          have a3 := hB9.cell (i := 3) (v := .int .i64 3) rfl
          clear hs hB9 hok9 HJ5
          go_wp2_with fail
          go_region
          all_goals
            go_wp2_with fail
            refine bodyPost_ret (v := .tuple #[.agg #[.slice none 0 0], .int .i64 3]) (by simp [results, Tryz.results40, go_sem, aR]) rfl ⟨(HBE.out.drew).setCell (by show w.heap.size ≤ w.heap.size + 2; omega) _, .slice none 0 0, ?_, by rw [HQ.out, HS.out]; rfl⟩
            rw [HQ.out, HS.out]
            exact World.ownsRow_nil _ _ _ _
      · have HKI := Lib.hid hki
        have aK := HJ1.out.hK.cell (i := 0) (v := .pointer (some ⟨b, 0, none⟩)) rfl
        have aE1 := HJ1.out.hE.cell (i := 1) (v := .int .i64 e.i) rfl
        have aB := HJ1.out.asm.lt
        have aE := HJ1.out.hE.lt
        have aKl := HJ1.out.hK.lt
        go_wp2_with fail
        refine (asmKeep_any b xs ls' _ 0 (e.i) _ HJ1.out.asm HL.out hn).mono ?_
        rintro e6 w6 ⟨rfl, hb1, ha1⟩
        have HJ2 := Lib.hid (HJ1.out.next hb1 ha1)
        clear aK aB aE aKl aE1 hb1 ha1 HJ1
        have aK := HJ2.out.hK.cell (i := 0) (v := .pointer (some ⟨b, 0, none⟩)) rfl
        have aE2 := HJ2.out.hE.cell (i := 2) (v := .int .i64 e.j) rfl
        have aE3 := HJ2.out.hE.cell (i := 3) (v := .int .i64 e.k) rfl
        have aB := HJ2.out.asm.lt
        have aE := HJ2.out.hE.lt
        have aKl := HJ2.out.hK.lt
        go_wp2_with fail
        refine (asmKeep_any b xs ls' _ e.j (e.k) _ HJ2.out.asm HL.out hn).mono ?_
        rintro e7 w7 ⟨rfl, hb2, ha2⟩
        have HJ3 := Lib.hid (HJ2.out.next hb2 ha2)
        clear aK aB aE aKl aE2 aE3 hb2 ha2 HJ2
        have aK := HJ3.out.hK.cell (i := 0) (v := .pointer (some ⟨b, 0, none⟩)) rfl
        have aE1 := HJ3.out.hE.cell (i := 1) (v := .int .i64 e.i) rfl
        have aE2 := HJ3.out.hE.cell (i := 2) (v := .int .i64 e.j) rfl
        have aB := HJ3.out.asm.lt
        have aE := HJ3.out.hE.lt
        have aKl := HJ3.out.hK.lt
        go_wp2_with fail
        refine (asmKeep_any b xs ls' _ e.i (e.j) _ HJ3.out.asm HL.out hn).mono ?_
        rintro e8 w8 ⟨rfl, hb3, ha3⟩
        have HJ4 := Lib.hid (HJ3.out.next hb3 ha3)
        clear aK aB aE aKl aE1 aE2 hb3 ha3 HJ3
        have aK := HJ4.out.hK.cell (i := 0) (v := .pointer (some ⟨b, 0, none⟩)) rfl
        have aE3 := HJ4.out.hE.cell (i := 3) (v := .int .i64 e.k) rfl
        have aB := HJ4.out.asm.lt
        have aE := HJ4.out.hE.lt
        have aKl := HJ4.out.hK.lt
        go_wp2_with fail
        refine (asmKeep_any b xs ls' _ e.k (lastI ls') _ HJ4.out.asm HL.out hn).mono ?_
        rintro e9 w9 ⟨rfl, hb4, ha4⟩
        have HJ5 := Lib.hid (HJ4.out.next hb4 ha4)
        clear aK aB aE aKl aE3 hb4 ha4 HJ4
        have hQ : editS xs ls' (lastI ls') e = addO (addO (addO (addO (some []) (limO (partG xs ls' 0 (e.i)))) (limO (partG xs ls' e.j (e.k)))) (limO (partG xs ls' e.i (e.j)))) (limO (partG xs ls' e.k (lastI ls'))) := by unfold editS; rw [if_neg (by rw [HKE.out]; decide), if_neg (by rw [HKE.out]; decide), if_neg (by rw [HKE.out]; decide), if_pos HKE.out, if_neg (by have := HKI.out; omega)]
        have HQ := Lib.hid hQ
        clear hQ
        obtain ⟨vG9, vL9, vO, out, c9, hB9, hG9, hL9, hO9, hs9, hok9⟩ := HJ5.out.asm
        obtain ⟨AO, kO, rfl, _⟩ := own_nil hO9
        have aK := HJ5.out.hK.cell (i := 0) (v := .pointer (some ⟨b, 0, none⟩)) rfl
        have aR := HJ5.out.hR.cell (i := 0) (v := .slice none 0 0) rfl
        have aRf := HJ5.out.hR.frozen 0
        have aRl := HJ5.out.hR.lt
        have HO9 := Lib.hid hO9
        have HBE := Lib.hid HJ5.out.bel
        have HRR := Lib.hid HJ5.out.hR
        have hle := HJ5.out.le
        have HOK := Lib.hid hok9
        have aBl := hB9.lt
        have nKR : K ≠ w.heap.size + 1 + 1 := HJ5.out.neKR
        have nbR : b ≠ w.heap.size + 1 + 1 := fun h => HJ5.out.neR h.symm
        clear hG9 hL9 hO9
        rcases hs9 with ⟨hs, rfl, _⟩ | ⟨hs, rfl⟩
        · have HS := Lib.hid hs
          have a2 := hB9.cell (i := 2) (v := .slice AO out.length kO) rfl
          have a3 := hB9.cell (i := 3) (v := .int .i64 0) rfl
          clear hs hB9 hok9 HJ5
          go_wp2_with fail
          refine (trimmed_any _ out _ HO9.out.sl (by have := gram_len400 HOK.out; omega) (okAll_lens (gram_lens HOK.out).2.choose_spec)).mono ?_
          rintro e10 w10 ⟨hb10, v10, own10, rfl⟩
          have HR10 := Lib.hid (HRR.out.up hb10)
          have HB10 := Lib.hid (Below.tr HBE.out hb10)
          have HO10 := Lib.hid own10
          obtain ⟨A10, k10, rfl, _⟩ := own_nil own10
          have b0 := HR10.out.cell (i := 0) (v := .slice none 0 0) rfl
          have b1 := HR10.out.frozen 0
          have b2 := HR10.out.lt
          have hzz := HBE.out.size
          clear hb10 own10 a2 a3 aK aR aRf
          go_wp2_with fail
          refine bodyPost_ret (v := .tuple #[.agg #[.slice A10 (trimG out).length k10], .int .i64 0]) (by simp [results, Tryz.results40, go_sem, b0]) rfl ⟨HB10.out.setCell (by show w.heap.size ≤ w.heap.size + 2; omega) _, .slice A10 (trimG out).length k10, ?_, by rw [HQ.out, HS.out]; rfl⟩
          rw [HQ.out, HS.out]
          exact ownsRow_more (ownsRow_setCell_below HO10.out (a := ⟨w.heap.size + 2, 0, none⟩) aRl _) hzz
        · have HS := Lib.hid hs
          have a3 := hB9.cell (i := 3) (v := .int .i64 3) rfl
          clear hs hB9 hok9 HJ5
          go_wp2_with fail
          go_region
          all_goals
            go_wp2_with fail
            refine bodyPost_ret (v := .tuple #[.agg #[.slice none 0 0], .int .i64 3]) (by simp [results, Tryz.results40, go_sem, aR]) rfl ⟨(HBE.out.drew).setCell (by show w.heap.size ≤ w.heap.size + 2; omega) _, .slice none 0 0, ?_, by rw [HQ.out, HS.out]; rfl⟩
            rw [HQ.out, HS.out]
            exact World.ownsRow_nil _ _ _ _
    · have hkc : ¬ e.kind = 1 ∧ ¬ e.kind = 2 ∧ ¬ e.kind = 3 ∧ ¬ e.kind = 4 ∧ (e.kind = 5 ∨ e.kind = 6 ∨ e.kind = 7) := by unfold chgOK at hkk; omega
      have HKC := Lib.hid hkc
      have HKK := Lib.hid hkk
      obtain ⟨_, _, _, _, hk⟩ := hkc
      clear hkk
      rcases hk with hk | hk | hk
      · have x0 := HJ1.out.hE.cell (i := 0) (v := .int .i64 5) (by rw [← hk]; rfl)
        have HKE := Lib.hid hk
        clear hk
        have aK := HJ1.out.hK.cell (i := 0) (v := .pointer (some ⟨b, 0, none⟩)) rfl
        have aE1 := HJ1.out.hE.cell (i := 1) (v := .int .i64 e.i) rfl
        have aB := HJ1.out.asm.lt
        have aE := HJ1.out.hE.lt
        have aKl := HJ1.out.hK.lt
        go_wp2_with fail
        refine (asmKeep_any b xs ls' _ 0 (e.i) _ HJ1.out.asm HL.out hn).mono ?_
        rintro e6 w6 ⟨rfl, hb1, ha1⟩
        have HJ2 := Lib.hid (HJ1.out.next hb1 ha1)
        clear aK aB aE aKl aE1 hb1 ha1 HJ1
        have aB := HJ2.out.asm.lt
        go_wp2_with fail
        refine (changed_any (w.heap.size + 1) b K e (.slice AR e.part.length cR) xs ls' _ _ HJ2.out.hK HJ2.out.asm HJ2.out.hE HKK.out HL.out hn (tabB HT.out HJ2.out.bel)).mono ?_
        rintro e7 w7 ⟨rfl, hb2, ha2⟩
        have HJ3 := Lib.hid (HJ2.out.next hb2 ha2)
        clear aB hb2 ha2 HJ2
        have aK := HJ3.out.hK.cell (i := 0) (v := .pointer (some ⟨b, 0, none⟩)) rfl
        have aE2 := HJ3.out.hE.cell (i := 2) (v := .int .i64 e.j) rfl
        have aB := HJ3.out.asm.lt
        have aE := HJ3.out.hE.lt
        have aKl := HJ3.out.hK.lt
        go_wp2_with fail
        refine (asmKeep_any b xs ls' _ e.j (lastI ls') _ HJ3.out.asm HL.out hn).mono ?_
        rintro e8 w8 ⟨rfl, hb3, ha3⟩
        have HJ4 := Lib.hid (HJ3.out.next hb3 ha3)
        clear aK aB aE aKl aE2 hb3 ha3 HJ3
        have hQ : editS xs ls' (lastI ls') e = addO (addO (addO (some []) (limO (partG xs ls' 0 (e.i)))) ((limO (partG xs ls' e.i e.j)).bind (chgO e))) (limO (partG xs ls' e.j (lastI ls'))) := by unfold editS; rw [if_neg HKC.out.1, if_neg HKC.out.2.1, if_neg HKC.out.2.2.1, if_neg HKC.out.2.2.2.1]
        have HQ := Lib.hid hQ
        clear hQ
        obtain ⟨vG9, vL9, vO, out, c9, hB9, hG9, hL9, hO9, hs9, hok9⟩ := HJ4.out.asm
        obtain ⟨AO, kO, rfl, _⟩ := own_nil hO9
        have aK := HJ4.out.hK.cell (i := 0) (v := .pointer (some ⟨b, 0, none⟩)) rfl
        have aR := HJ4.out.hR.cell (i := 0) (v := .slice none 0 0) rfl
        have aRf := HJ4.out.hR.frozen 0
        have aRl := HJ4.out.hR.lt
        have HO9 := Lib.hid hO9
        have HBE := Lib.hid HJ4.out.bel
        have HRR := Lib.hid HJ4.out.hR
        have hle := HJ4.out.le
        have HOK := Lib.hid hok9
        have aBl := hB9.lt
        have nKR : K ≠ w.heap.size + 1 + 1 := HJ4.out.neKR
        have nbR : b ≠ w.heap.size + 1 + 1 := fun h => HJ4.out.neR h.symm
        clear hG9 hL9 hO9
        rcases hs9 with ⟨hs, rfl, _⟩ | ⟨hs, rfl⟩
        · have HS := Lib.hid hs
          have a2 := hB9.cell (i := 2) (v := .slice AO out.length kO) rfl
          have a3 := hB9.cell (i := 3) (v := .int .i64 0) rfl
          clear hs hB9 hok9 HJ4
          go_wp2_with fail
          refine (trimmed_any _ out _ HO9.out.sl (by have := gram_len400 HOK.out; omega) (okAll_lens (gram_lens HOK.out).2.choose_spec)).mono ?_
          rintro e10 w10 ⟨hb10, v10, own10, rfl⟩
          have HR10 := Lib.hid (HRR.out.up hb10)
          have HB10 := Lib.hid (Below.tr HBE.out hb10)
          have HO10 := Lib.hid own10
          obtain ⟨A10, k10, rfl, _⟩ := own_nil own10
          have b0 := HR10.out.cell (i := 0) (v := .slice none 0 0) rfl
          have b1 := HR10.out.frozen 0
          have b2 := HR10.out.lt
          have hzz := HBE.out.size
          clear hb10 own10 a2 a3 aK aR aRf
          go_wp2_with fail
          refine bodyPost_ret (v := .tuple #[.agg #[.slice A10 (trimG out).length k10], .int .i64 0]) (by simp [results, Tryz.results40, go_sem, b0]) rfl ⟨HB10.out.setCell (by show w.heap.size ≤ w.heap.size + 2; omega) _, .slice A10 (trimG out).length k10, ?_, by rw [HQ.out, HS.out]; rfl⟩
          rw [HQ.out, HS.out]
          exact ownsRow_more (ownsRow_setCell_below HO10.out (a := ⟨w.heap.size + 2, 0, none⟩) aRl _) hzz
        · have HS := Lib.hid hs
          have a3 := hB9.cell (i := 3) (v := .int .i64 3) rfl
          clear hs hB9 hok9 HJ4
          go_wp2_with fail
          go_region
          all_goals
            go_wp2_with fail
            refine bodyPost_ret (v := .tuple #[.agg #[.slice none 0 0], .int .i64 3]) (by simp [results, Tryz.results40, go_sem, aR]) rfl ⟨(HBE.out.drew).setCell (by show w.heap.size ≤ w.heap.size + 2; omega) _, .slice none 0 0, ?_, by rw [HQ.out, HS.out]; rfl⟩
            rw [HQ.out, HS.out]
            exact World.ownsRow_nil _ _ _ _
      · have x0 := HJ1.out.hE.cell (i := 0) (v := .int .i64 6) (by rw [← hk]; rfl)
        have HKE := Lib.hid hk
        clear hk
        have aK := HJ1.out.hK.cell (i := 0) (v := .pointer (some ⟨b, 0, none⟩)) rfl
        have aE1 := HJ1.out.hE.cell (i := 1) (v := .int .i64 e.i) rfl
        have aB := HJ1.out.asm.lt
        have aE := HJ1.out.hE.lt
        have aKl := HJ1.out.hK.lt
        go_wp2_with fail
        refine (asmKeep_any b xs ls' _ 0 (e.i) _ HJ1.out.asm HL.out hn).mono ?_
        rintro e6 w6 ⟨rfl, hb1, ha1⟩
        have HJ2 := Lib.hid (HJ1.out.next hb1 ha1)
        clear aK aB aE aKl aE1 hb1 ha1 HJ1
        have aB := HJ2.out.asm.lt
        go_wp2_with fail
        refine (changed_any (w.heap.size + 1) b K e (.slice AR e.part.length cR) xs ls' _ _ HJ2.out.hK HJ2.out.asm HJ2.out.hE HKK.out HL.out hn (tabB HT.out HJ2.out.bel)).mono ?_
        rintro e7 w7 ⟨rfl, hb2, ha2⟩
        have HJ3 := Lib.hid (HJ2.out.next hb2 ha2)
        clear aB hb2 ha2 HJ2
        have aK := HJ3.out.hK.cell (i := 0) (v := .pointer (some ⟨b, 0, none⟩)) rfl
        have aE2 := HJ3.out.hE.cell (i := 2) (v := .int .i64 e.j) rfl
        have aB := HJ3.out.asm.lt
        have aE := HJ3.out.hE.lt
        have aKl := HJ3.out.hK.lt
        go_wp2_with fail
        refine (asmKeep_any b xs ls' _ e.j (lastI ls') _ HJ3.out.asm HL.out hn).mono ?_
        rintro e8 w8 ⟨rfl, hb3, ha3⟩
        have HJ4 := Lib.hid (HJ3.out.next hb3 ha3)
        clear aK aB aE aKl aE2 hb3 ha3 HJ3
        have hQ : editS xs ls' (lastI ls') e = addO (addO (addO (some []) (limO (partG xs ls' 0 (e.i)))) ((limO (partG xs ls' e.i e.j)).bind (chgO e))) (limO (partG xs ls' e.j (lastI ls'))) := by unfold editS; rw [if_neg HKC.out.1, if_neg HKC.out.2.1, if_neg HKC.out.2.2.1, if_neg HKC.out.2.2.2.1]
        have HQ := Lib.hid hQ
        clear hQ
        obtain ⟨vG9, vL9, vO, out, c9, hB9, hG9, hL9, hO9, hs9, hok9⟩ := HJ4.out.asm
        obtain ⟨AO, kO, rfl, _⟩ := own_nil hO9
        have aK := HJ4.out.hK.cell (i := 0) (v := .pointer (some ⟨b, 0, none⟩)) rfl
        have aR := HJ4.out.hR.cell (i := 0) (v := .slice none 0 0) rfl
        have aRf := HJ4.out.hR.frozen 0
        have aRl := HJ4.out.hR.lt
        have HO9 := Lib.hid hO9
        have HBE := Lib.hid HJ4.out.bel
        have HRR := Lib.hid HJ4.out.hR
        have hle := HJ4.out.le
        have HOK := Lib.hid hok9
        have aBl := hB9.lt
        have nKR : K ≠ w.heap.size + 1 + 1 := HJ4.out.neKR
        have nbR : b ≠ w.heap.size + 1 + 1 := fun h => HJ4.out.neR h.symm
        clear hG9 hL9 hO9
        rcases hs9 with ⟨hs, rfl, _⟩ | ⟨hs, rfl⟩
        · have HS := Lib.hid hs
          have a2 := hB9.cell (i := 2) (v := .slice AO out.length kO) rfl
          have a3 := hB9.cell (i := 3) (v := .int .i64 0) rfl
          clear hs hB9 hok9 HJ4
          go_wp2_with fail
          refine (trimmed_any _ out _ HO9.out.sl (by have := gram_len400 HOK.out; omega) (okAll_lens (gram_lens HOK.out).2.choose_spec)).mono ?_
          rintro e10 w10 ⟨hb10, v10, own10, rfl⟩
          have HR10 := Lib.hid (HRR.out.up hb10)
          have HB10 := Lib.hid (Below.tr HBE.out hb10)
          have HO10 := Lib.hid own10
          obtain ⟨A10, k10, rfl, _⟩ := own_nil own10
          have b0 := HR10.out.cell (i := 0) (v := .slice none 0 0) rfl
          have b1 := HR10.out.frozen 0
          have b2 := HR10.out.lt
          have hzz := HBE.out.size
          clear hb10 own10 a2 a3 aK aR aRf
          go_wp2_with fail
          refine bodyPost_ret (v := .tuple #[.agg #[.slice A10 (trimG out).length k10], .int .i64 0]) (by simp [results, Tryz.results40, go_sem, b0]) rfl ⟨HB10.out.setCell (by show w.heap.size ≤ w.heap.size + 2; omega) _, .slice A10 (trimG out).length k10, ?_, by rw [HQ.out, HS.out]; rfl⟩
          rw [HQ.out, HS.out]
          exact ownsRow_more (ownsRow_setCell_below HO10.out (a := ⟨w.heap.size + 2, 0, none⟩) aRl _) hzz
        · have HS := Lib.hid hs
          have a3 := hB9.cell (i := 3) (v := .int .i64 3) rfl
          clear hs hB9 hok9 HJ4
          go_wp2_with fail
          go_region
          all_goals
            go_wp2_with fail
            refine bodyPost_ret (v := .tuple #[.agg #[.slice none 0 0], .int .i64 3]) (by simp [results, Tryz.results40, go_sem, aR]) rfl ⟨(HBE.out.drew).setCell (by show w.heap.size ≤ w.heap.size + 2; omega) _, .slice none 0 0, ?_, by rw [HQ.out, HS.out]; rfl⟩
            rw [HQ.out, HS.out]
            exact World.ownsRow_nil _ _ _ _
      · have x0 := HJ1.out.hE.cell (i := 0) (v := .int .i64 7) (by rw [← hk]; rfl)
        have HKE := Lib.hid hk
        clear hk
        have aK := HJ1.out.hK.cell (i := 0) (v := .pointer (some ⟨b, 0, none⟩)) rfl
        have aE1 := HJ1.out.hE.cell (i := 1) (v := .int .i64 e.i) rfl
        have aB := HJ1.out.asm.lt
        have aE := HJ1.out.hE.lt
        have aKl := HJ1.out.hK.lt
        go_wp2_with fail
        refine (asmKeep_any b xs ls' _ 0 (e.i) _ HJ1.out.asm HL.out hn).mono ?_
        rintro e6 w6 ⟨rfl, hb1, ha1⟩
        have HJ2 := Lib.hid (HJ1.out.next hb1 ha1)
        clear aK aB aE aKl aE1 hb1 ha1 HJ1
        have aB := HJ2.out.asm.lt
        go_wp2_with fail
        refine (changed_any (w.heap.size + 1) b K e (.slice AR e.part.length cR) xs ls' _ _ HJ2.out.hK HJ2.out.asm HJ2.out.hE HKK.out HL.out hn (tabB HT.out HJ2.out.bel)).mono ?_
        rintro e7 w7 ⟨rfl, hb2, ha2⟩
        have HJ3 := Lib.hid (HJ2.out.next hb2 ha2)
        clear aB hb2 ha2 HJ2
        have aK := HJ3.out.hK.cell (i := 0) (v := .pointer (some ⟨b, 0, none⟩)) rfl
        have aE2 := HJ3.out.hE.cell (i := 2) (v := .int .i64 e.j) rfl
        have aB := HJ3.out.asm.lt
        have aE := HJ3.out.hE.lt
        have aKl := HJ3.out.hK.lt
        go_wp2_with fail
        refine (asmKeep_any b xs ls' _ e.j (lastI ls') _ HJ3.out.asm HL.out hn).mono ?_
        rintro e8 w8 ⟨rfl, hb3, ha3⟩
        have HJ4 := Lib.hid (HJ3.out.next hb3 ha3)
        clear aK aB aE aKl aE2 hb3 ha3 HJ3
        have hQ : editS xs ls' (lastI ls') e = addO (addO (addO (some []) (limO (partG xs ls' 0 (e.i)))) ((limO (partG xs ls' e.i e.j)).bind (chgO e))) (limO (partG xs ls' e.j (lastI ls'))) := by unfold editS; rw [if_neg HKC.out.1, if_neg HKC.out.2.1, if_neg HKC.out.2.2.1, if_neg HKC.out.2.2.2.1]
        have HQ := Lib.hid hQ
        clear hQ
        obtain ⟨vG9, vL9, vO, out, c9, hB9, hG9, hL9, hO9, hs9, hok9⟩ := HJ4.out.asm
        obtain ⟨AO, kO, rfl, _⟩ := own_nil hO9
        have aK := HJ4.out.hK.cell (i := 0) (v := .pointer (some ⟨b, 0, none⟩)) rfl
        have aR := HJ4.out.hR.cell (i := 0) (v := .slice none 0 0) rfl
        have aRf := HJ4.out.hR.frozen 0
        have aRl := HJ4.out.hR.lt
        have HO9 := Lib.hid hO9
        have HBE := Lib.hid HJ4.out.bel
        have HRR := Lib.hid HJ4.out.hR
        have hle := HJ4.out.le
        have HOK := Lib.hid hok9
        have aBl := hB9.lt
        have nKR : K ≠ w.heap.size + 1 + 1 := HJ4.out.neKR
        have nbR : b ≠ w.heap.size + 1 + 1 := fun h => HJ4.out.neR h.symm
        clear hG9 hL9 hO9
        rcases hs9 with ⟨hs, rfl, _⟩ | ⟨hs, rfl⟩
        · have HS := Lib.hid hs
          have a2 := hB9.cell (i := 2) (v := .slice AO out.length kO) rfl
          have a3 := hB9.cell (i := 3) (v := .int .i64 0) rfl
          clear hs hB9 hok9 HJ4
          go_wp2_with fail
          refine (trimmed_any _ out _ HO9.out.sl (by have := gram_len400 HOK.out; omega) (okAll_lens (gram_lens HOK.out).2.choose_spec)).mono ?_
          rintro e10 w10 ⟨hb10, v10, own10, rfl⟩
          have HR10 := Lib.hid (HRR.out.up hb10)
          have HB10 := Lib.hid (Below.tr HBE.out hb10)
          have HO10 := Lib.hid own10
          obtain ⟨A10, k10, rfl, _⟩ := own_nil own10
          have b0 := HR10.out.cell (i := 0) (v := .slice none 0 0) rfl
          have b1 := HR10.out.frozen 0
          have b2 := HR10.out.lt
          have hzz := HBE.out.size
          clear hb10 own10 a2 a3 aK aR aRf
          go_wp2_with fail
          refine bodyPost_ret (v := .tuple #[.agg #[.slice A10 (trimG out).length k10], .int .i64 0]) (by simp [results, Tryz.results40, go_sem, b0]) rfl ⟨HB10.out.setCell (by show w.heap.size ≤ w.heap.size + 2; omega) _, .slice A10 (trimG out).length k10, ?_, by rw [HQ.out, HS.out]; rfl⟩
          rw [HQ.out, HS.out]
          exact ownsRow_more (ownsRow_setCell_below HO10.out (a := ⟨w.heap.size + 2, 0, none⟩) aRl _) hzz
        · have HS := Lib.hid hs
          have a3 := hB9.cell (i := 3) (v := .int .i64 3) rfl
          clear hs hB9 hok9 HJ4
          go_wp2_with fail
          go_region
          all_goals
            go_wp2_with fail
            refine bodyPost_ret (v := .tuple #[.agg #[.slice none 0 0], .int .i64 3]) (by simp [results, Tryz.results40, go_sem, aR]) rfl ⟨(HBE.out.drew).setCell (by show w.heap.size ≤ w.heap.size + 2; omega) _, .slice none 0 0, ?_, by rw [HQ.out, HS.out]; rfl⟩
            rw [HQ.out, HS.out]
            exact World.ownsRow_nil _ _ _ _
structure EC (w : World) (E o : Nat) (e : GEdit) (vR : Value) : Prop where
  c0 : w.cell? ⟨E, o, none⟩ = some (.int .i64 e.kind)
  c1 : w.cell? ⟨E, o + 1, none⟩ = some (.int .i64 e.i)
  c2 : w.cell? ⟨E, o + 2, none⟩ = some (.int .i64 e.j)
  c3 : w.cell? ⟨E, o + 3, none⟩ = some (.int .i64 e.k)
  c4 : w.cell? ⟨E, o + 4, none⟩ = some vR
  c5 : w.cell? ⟨E, o + 5, none⟩ = some (.string e.map)
  lt : E < w.heap.size
section
variable {w w' : World} {E o b : Nat} {e : GEdit} {vR : Value}
theorem EC.same (h : EC w E o e vR) (hs : w'.heap[E]? = w.heap[E]?) : EC w' E o e vR := by
  have k : ∀ {j : Nat} {v : Value}, w.cell? ⟨E, j, none⟩ = some v → w'.cell? ⟨E, j, none⟩ = some v := fun {j v} hc => (World.cell?_of_block (a := ⟨E, j, none⟩) hs).trans hc
  refine ⟨k h.c0, k h.c1, k h.c2, k h.c3, k h.c4, k h.c5, ?_⟩
  have h1 : w.heap[E]? = some (w.heap[E]'h.lt) := Array.getElem?_eq_getElem h.lt
  exact (Array.getElem?_eq_some_iff.1 (hs.trans h1)).1
theorem EC.up (h : EC w E o e vR) (hb : Below w.heap.size w w') : EC w' E o e vR := h.same (hb.block E h.lt)
theorem EC.but (h : EC w E o e vR) (hb : But b w w') (hne : E ≠ b) : EC w' E o e vR := h.same (hb.block E h.lt hne)
theorem EC.of (h : Blk w E (editCells e vR) 30) : EC w E 0 e vR :=
  ⟨h.cell rfl, h.cell rfl, h.cell rfl, h.cell rfl, h.cell rfl, h.cell rfl, h.lt⟩
end
structure C1 (w : World) (p : Addr) (v : Value) : Prop where
  c : w.cell? p = some v
  lt : p.block < w.heap.size
theorem C1.same {w w' : World} {p : Addr} {v : Value} (h : C1 w p v) (hs : w'.heap[p.block]? = w.heap[p.block]?) : C1 w' p v := by
  refine ⟨(World.cell?_of_block hs).trans h.c, ?_⟩
  have h1 : w.heap[p.block]? = some (w.heap[p.block]'h.lt) := Array.getElem?_eq_getElem h.lt
  exact (Array.getElem?_eq_some_iff.1 (hs.trans h1)).1
theorem C1.up {w w' : World} {p : Addr} {v : Value} (h : C1 w p v) (hb : Below w.heap.size w w') : C1 w' p v := h.same (hb.block _ h.lt)
theorem C1.but {w w' : World} {b : Nat} {p : Addr} {v : Value} (h : C1 w p v) (hb : But b w w') (hne : p.block ≠ b) : C1 w' p v := h.same (hb.block _ h.lt hne)
def EditE : Enc GEdit where
  size := 6
  pos := by decide
  cells := fun w S e cs => ∃ vR, cs = [.int .i64 e.kind, .int .i64 e.i, .int .i64 e.j, .int .i64 e.k, vR, .string e.map] ∧ SlS RuleE w S vR e.part
  len := by rintro _ _ _ _ ⟨vR, rfl, _⟩; rfl
  keep := by rintro _ _ _ _ _ ⟨vR, rfl, h⟩ hb; exact ⟨vR, rfl, h.keep hb⟩
  more := by rintro _ _ _ _ _ ⟨vR, rfl, h⟩ hb; exact ⟨vR, rfl, h.more hb⟩
  one := by rintro _ _ _ _ ⟨vR, rfl, A, c, rfl, _⟩; simp [Value.oneCell']
theorem Row.edit {w : World} {S : Nat → Prop} {A : Option Addr} {l : List GEdit} (h : Row EditE w S A l) (hS : ∀ b, S b → b < w.heap.size) {k : Nat} (hk : k < l.length) :
    ∃ b o, A = some ⟨b, o, none⟩ ∧ S b ∧ ∀ i e, l[i]? = some e → ∃ vR, EC w b (o + i * 6) e vR ∧ SlS RuleE w S vR e.part := by
  obtain ⟨b, o, rfl, hlt, hc⟩ := h (by omega)
  refine ⟨b, o, rfl, hlt, fun i e hi => ?_⟩
  obtain ⟨cs, ⟨vR, rfl, h1⟩, h2⟩ := hc i e hi
  exact ⟨vR, ⟨by simpa [EditE] using h2 0 _ rfl, by simpa [EditE, Nat.add_assoc] using h2 1 _ rfl, by simpa [EditE, Nat.add_assoc] using h2 2 _ rfl, by simpa [EditE, Nat.add_assoc] using h2 3 _ rfl, by simpa [EditE, Nat.add_assoc] using h2 4 _ rfl, by simpa [EditE, Nat.add_assoc] using h2 5 _ rfl, hS b hlt⟩, h1⟩
end Go.Proofs.YtdacndamehiglaaGreatDoor
namespace Go.Proofs
theorem Tryz.infoEd : (Tryz.prog.info? 30).map (fun i => (i.zero, i.size, i.bytes)) = some (some (.agg #[.int .i64 0, .int .i64 0, .int .i64 0, .int .i64 0, .slice none 0 0, .string ⟨#[]⟩]), 6, 72) := by kernel_rfl
end Go.Proofs
namespace Go.Proofs.YtdacndamehiglaaGreatDoor
open Go.RowKit
def epCells (p : GEdit × Value) : List Value := [.int .i64 p.1.kind, .int .i64 p.1.i, .int .i64 p.1.j, .int .i64 p.1.k, p.2, .string p.1.map]
theorem ep_at (ps : List (GEdit × Value)) (k : Nat) (p : GEdit × Value) (h : ps[k]? = some p) (j : Nat) (hj : j < 6) : (ps.flatMap epCells)[k * 6 + j]? = (epCells p)[j]? := by
  induction ps generalizing k with
  | nil => simp at h
  | cons x xs ih =>
    cases k with
    | zero =>
      simp at h; subst h
      rw [List.flatMap_cons, List.getElem?_append_left (by simp [epCells]; omega), Nat.zero_mul, Nat.zero_add]
    | succ k =>
      have := ih k (by simpa using h)
      rw [List.flatMap_cons, List.getElem?_append_right (by simp [epCells]; omega)]
      rw [show (k + 1) * 6 + j - (epCells x).length = k * 6 + j by simp [epCells]; omega]
      exact this
def PartAt (w : World) (v : Value) (a b : Nat) (p : GEdit × Value) : Prop :=
  ((p.1.part = [] ∧ ∃ A c, p.2 = .slice A 0 c ∧ c ≤ maxLen) ∨ OwnR w a b p.2 p.1.part) ∧ ∀ g, v.ownBlock = some g → g < a ∨ b ≤ g
theorem PartAt.keep {w w' : World} {v : Value} {a b : Nat} {p : GEdit × Value} (h : PartAt w v a b p) (hk : ∀ g, a ≤ g → g < b → w'.heap[g]? = w.heap[g]?) (hs : w.heap.size ≤ w'.heap.size) : PartAt w' v a b p := by
  refine ⟨?_, h.2⟩
  rcases h.1 with h | h1
  · exact .inl h
  · exact .inr ⟨own_keep h1.1 fun g hg => hk g (h1.rng g hg).1 (h1.rng g hg).2, h1.2.1, Nat.le_trans h1.2.2 hs⟩
theorem PartAt.row {w w' : World} {v : Value} {a b g : Nat} {p : GEdit × Value} (h : PartAt w v a b p) (hv : v.ownBlock = some g) (hb : b ≤ w.heap.size) (hg : w.grownBy w' (some g)) : PartAt w' v a b p :=
  h.keep (fun g' h1 h2 => hg.block g' (by omega) (fun e => by have := h.2 g hv; simp at e; omega)) hg.size
theorem PartAt.sl {w : World} {v : Value} {a b : Nat} {p : GEdit × Value} (h : PartAt w v a b p) : Sl RuleE w w.heap.size p.2 p.1.part := by
  rcases h.1 with ⟨h1, A, c, h2, h3⟩ | h1
  · rw [h1, h2]; exact ⟨A, c, rfl, Nat.zero_le _, h3, fun h => absurd h (by simp)⟩
  · exact h1.sl
structure PartsR (w : World) (v : Value) (lo hi : Nat) (r : Nat → Nat) (ps : List (GEdit × Value)) : Prop where
  low : lo ≤ r 0
  mono : ∀ i j, i ≤ j → r i ≤ r j
  high : ∀ i, r i ≤ hi
  at_ : ∀ i p, ps[i]? = some p → PartAt w v (r (2 * i)) (r (2 * i + 1)) p
theorem PartsR.keep {w w' : World} {v : Value} {lo hi : Nat} {r : Nat → Nat} {ps : List (GEdit × Value)} (h : PartsR w v lo hi r ps) (hk : ∀ g, lo ≤ g → g < hi → v.ownBlock ≠ some g → w'.heap[g]? = w.heap[g]?) (hs : w.heap.size ≤ w'.heap.size) : PartsR w' v lo hi r ps := by
  refine ⟨h.low, h.mono, h.high, fun i p hp => ?_⟩
  obtain ⟨h0, h2⟩ := h.at_ i p hp
  refine ⟨?_, h2⟩
  rcases h0 with h1 | h1
  · exact .inl h1
  · refine .inr ⟨own_keep h1.1 fun g hg => ?_, h1.2.1, Nat.le_trans h1.2.2 hs⟩
    have hr := h1.rng g hg
    have a1 := h.mono 0 (2 * i) (Nat.zero_le _)
    have a2 := h.high (2 * i + 1)
    have a3 := h.low
    refine hk g (by omega) (by omega) fun e => ?_
    have := h2 g e
    omega
theorem PartsR.snoc {w : World} {v : Value} {lo hi hi' : Nat} {r : Nat → Nat} {ps : List (GEdit × Value)} {q : GEdit × Value} (h : PartsR w v lo hi r ps) (hq : PartAt w v hi hi' q) (hh : hi ≤ hi') (hl : lo ≤ hi) : ∃ r', PartsR w v lo hi' r' (ps ++ [q]) := by
  refine ⟨fun j => if j < 2 * ps.length then r j else if j = 2 * ps.length then hi else hi', ?_, ?_, ?_, ?_⟩
  · have := h.low
    split
    · omega
    · split <;> omega
  · intro i j hij
    have h1 := h.mono i j hij
    have h2 := h.high i
    repeat' split
    all_goals omega
  · intro i
    have h2 := h.high i
    repeat' split
    all_goals omega
  · intro i p hp
    rcases Nat.lt_or_ge i ps.length with hlt | hge
    · rw [List.getElem?_append_left hlt] at hp
      have := h.at_ i p hp
      simp only [show 2 * i < 2 * ps.length by omega, show 2 * i + 1 < 2 * ps.length by omega, if_true]
      exact this
    · rw [List.getElem?_append_right hge] at hp
      have hi0 : i = ps.length := by
        have := (List.getElem?_eq_some_iff.1 hp).1
        simp at this; omega
      subst hi0
      simp at hp
      subst hp
      simp only [Nat.lt_irrefl, if_false, if_true, show ¬ (2 * ps.length + 1 < 2 * ps.length) by omega, show ¬ (2 * ps.length + 1 = 2 * ps.length) by omega]
      exact hq
theorem PartsR.nil {w : World} {v : Value} {lo hi : Nat} (h : lo ≤ hi) : PartsR w v lo hi (fun _ => hi) [] := ⟨h, fun _ _ _ => Nat.le_refl _, fun _ => Nat.le_refl _, fun i p hp => by simp at hp⟩
theorem PartsR.le {w : World} {v : Value} {lo lo' hi hi' : Nat} {r : Nat → Nat} {ps : List (GEdit × Value)} (h : PartsR w v lo hi r ps) (h1 : lo' ≤ lo) (h2 : hi ≤ hi') : PartsR w v lo' hi' r ps := ⟨Nat.le_trans h1 h.low, h.mono, fun i => Nat.le_trans (h.high i) h2, h.at_⟩
def OEds (w : World) (lo hi : Nat) (v : Value) (es : List GEdit) : Prop :=
  ∃ ps r, ps.map Prod.fst = es ∧ w.ownsRow lo 30 6 v es.length (ps.flatMap epCells) ∧ (∀ g, v.ownBlock = some g → g < hi) ∧ hi ≤ w.heap.size ∧ PartsR w v lo hi r ps
section
variable {w w' : World} {lo hi : Nat} {v : Value} {es : List GEdit}
theorem OEds.keep (h : OEds w lo hi v es) (hk : ∀ g, lo ≤ g → g < hi → w'.heap[g]? = w.heap[g]?) (hs : w.heap.size ≤ w'.heap.size) : OEds w' lo hi v es := by
  obtain ⟨ps, r, h1, h2, h3, h4, h5⟩ := h
  exact ⟨ps, r, h1, own_keep h2 fun g hg => hk g (World.ownsRow.lt h2 g hg).1 (h3 g hg), h3, Nat.le_trans h4 hs, h5.keep (fun g a b _ => hk g a b) hs⟩
theorem OEds.up (h : OEds w lo hi v es) (hb : Below w.heap.size w w') : OEds w' lo hi v es := h.keep (fun g _ b => hb.block g (by obtain ⟨_, _, _, _, _, h4, _⟩ := h; omega)) hb.size
theorem ps_at {ps : List (GEdit × Value)} {i : Nat} {e : GEdit} (h : (ps.map Prod.fst)[i]? = some e) : ∃ u, ps[i]? = some (e, u) := by
  rw [List.getElem?_map] at h
  obtain ⟨p, h1, h2⟩ := Option.map_eq_some_iff.1 h
  exact ⟨p.2, by rw [h1, ← h2]⟩
theorem OEds.sl (h : OEds w lo hi v es) : Sl EditE w w.heap.size v es := by
  obtain ⟨ps, r, rfl, h2, h3, h4, h5⟩ := h
  obtain ⟨A, cap, rfl, c1, c2⟩ := own_nil h2
  refine ⟨A, cap, rfl, c1, c2, Row.of_own (E := EditE) h2 rfl (fun g hg => (World.ownsRow.lt h2 g hg).2) fun k e hx => ?_⟩
  obtain ⟨u, hu⟩ := ps_at hx
  refine ⟨epCells (e, u), ⟨u, rfl, (h5.at_ k _ hu).sl⟩, fun j x hj => ?_⟩
  have hj6 : j < 6 := by have := (List.getElem?_eq_some_iff.1 hj).1; simpa [epCells] using this
  show (ps.flatMap epCells)[k * 6 + j]? = some x
  rw [ep_at ps k _ hu j hj6]; exact hj
end
end Go.Proofs.YtdacndamehiglaaGreatDoor
