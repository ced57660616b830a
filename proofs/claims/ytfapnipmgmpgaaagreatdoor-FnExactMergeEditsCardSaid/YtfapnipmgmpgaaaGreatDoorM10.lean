import Derived.Test.YtfapnipmgmpgaaaGreatDoorM9
import Derived.Test.YtfapnipmgmpgaaaGreatDoorM6
import Derived.Test.YtfapnipmgmpgaaaGreatDoorM7
namespace Go.Proofs.YtfapnipmgmpgaaaGreatDoor
open Go.RowKit

/-- The state of an assembly of an edit: E the edit, R the result's cell, K the pointer's cell, b the assembly. -/
structure EdJ (w0 : World) (E R K b : Nat) (e : GEdit) (vR : Value) (xs : List GRule) (ls : List Int) (s : Option (List GRule)) (W : World) : Prop where
  bel : Below w0.heap.size w0 W
  hE : Blk W E (editCells e vR) 36
  hR : Blk W R #[.slice none 0 0] 31
  hK : Blk W K #[.pointer (some ⟨b, 0, none⟩)] 127
  asm : Asm W b xs ls s
  neE : E ≠ b
  neR : R ≠ b
  neK : K ≠ b
  le : w0.heap.size ≤ b
  ltR : w0.heap.size ≤ R
  neKR : K ≠ R
theorem EdJ.next {w0 W W' : World} {E R K b : Nat} {e : GEdit} {vR : Value} {xs : List GRule} {ls : List Int} {s s' : Option (List GRule)} (h : EdJ w0 E R K b e vR xs ls s W) (hb : But b W W') (ha : Asm W' b xs ls s') : EdJ w0 E R K b e vR xs ls s' W' :=
  ⟨h.bel.trans (hb.below h.le h.bel.size), h.hE.but hb h.neE, h.hR.but hb h.neR, h.hK.but hb h.neK, ha, h.neE, h.neR, h.neK, h.le, h.ltR, h.neKR⟩

def editS (xs : List GRule) (ls : List Int) (n : Int) (e : GEdit) : Option (List GRule) :=
  if e.kind = 1 then addO (addO (addO (some []) (limO (partG xs ls 0 e.i))) (some e.part)) (limO (partG xs ls e.i n))
  else if e.kind = 2 then addO (addO (some []) (limO (partG xs ls 0 e.i))) (limO (partG xs ls e.j n))
  else if e.kind = 3 then addO (addO (addO (some []) (limO (partG xs ls 0 e.k))) (limO (partG xs ls e.i e.j))) (limO (partG xs ls e.k n))
  else if e.kind = 4 then
    if e.k ≤ e.i then addO (addO (addO (addO (some []) (limO (partG xs ls 0 e.k))) (limO (partG xs ls e.i e.j))) (limO (partG xs ls e.k e.i))) (limO (partG xs ls e.j n))
    else addO (addO (addO (addO (some []) (limO (partG xs ls 0 e.i))) (limO (partG xs ls e.j e.k))) (limO (partG xs ls e.i e.j))) (limO (partG xs ls e.k n))
  else addO (addO (addO (some []) (limO (partG xs ls 0 e.i))) ((limO (partG xs ls e.i e.j)).bind (chgO e))) (limO (partG xs ls e.j n))
def editG (s : Option (List GRule)) : List GRule := match s with | some o => trimG o | none => []
def editC (s : Option (List GRule)) : Int := match s with | some _ => 0 | none => 3
def kindOk (e : GEdit) : Prop := e.kind = 1 ∨ e.kind = 2 ∨ e.kind = 3 ∨ e.kind = 4 ∨ chgOK e
theorem asm_start {W : World} {b : Nat} {vG vL : Value} {xs : List GRule} {ls : List Int} (h : Blk W b #[vG, vL, .slice none 0 0, .int .i64 0] 129) (hg : Sl RuleE W b vG xs) (hl : Sl IntE W b vL ls) : Asm W b xs ls (some []) :=
  ⟨vG, vL, .slice none 0 0, [], 0, h, hg, hl, World.ownsRow_nil _ _ _ _, .inl ⟨rfl, rfl, rfl⟩, rfl⟩
theorem edJ_start1 {w w1 : World} {E R : Nat} {e : GEdit} {vR vG vL : Value} {xs : List GRule} {ls : List Int} (hb : Below w.heap.size w w1) (hE : Blk w1 E (editCells e vR) 36) (hR : Blk w1 R #[.slice none 0 0] 31)
    (hg : Sl RuleE w1 w1.heap.size vG xs) (hl : Sl IntE w1 w1.heap.size vL ls) (hr : w.heap.size ≤ R) :
    EdJ w E R (w1.heap.size + 1) w1.heap.size e vR xs ls (some []) ((w1.alloc (.cells #[vG, vL, .slice none 0 0, .int .i64 0] 129)).alloc (.cells #[.pointer (some ⟨w1.heap.size, 0, none⟩)] 127)).drew := by
  have h1 := hE.lt; have h2 := hR.lt; have h3 := hb.size
  have h4 : Blk (w1.alloc (.cells #[vG, vL, .slice none 0 0, .int .i64 0] 129)) w1.heap.size _ _ := Blk.new _ _ _
  refine ⟨((hb.alloc h3 _).alloc (by simp; omega) _).drew, (hE.alloc _).alloc _, (hR.alloc _).alloc _, ?_, asm_start (h4.alloc _) ?_ ?_, by omega, by omega, by omega, h3, hr, by omega⟩
  · have := Blk.new (w1.alloc (.cells #[vG, vL, .slice none 0 0, .int .i64 0] 129)) #[.pointer (some ⟨w1.heap.size, 0, none⟩)] 127
    exact Blk.drew (by simpa [Blk] using this)
  · exact hg.below (((Below.refl _ _).alloc (Nat.le_refl _) _).alloc (by simp) _).drew
  · exact hl.below (((Below.refl _ _).alloc (Nat.le_refl _) _).alloc (by simp) _).drew
theorem edJ_start2 {w w1 : World} {E R : Nat} {e : GEdit} {vR vG vL : Value} {xs : List GRule} {ls : List Int} (hb : Below w.heap.size w w1) (hE : Blk w1 E (editCells e vR) 36) (hR : Blk w1 R #[.slice none 0 0] 31)
    (hg : Sl RuleE w1 w1.heap.size vG xs) (hl : Sl IntE w1 w1.heap.size vL ls) (hr : w.heap.size ≤ R) :
    EdJ w E R w1.heap.size (w1.heap.size + 1) e vR xs ls (some []) ((w1.alloc (.cells #[.pointer (some ⟨w1.heap.size + 1, 0, none⟩)] 127)).alloc (.cells #[vG, vL, .slice none 0 0, .int .i64 0] 129)).drew := by
  have h1 := hE.lt; have h2 := hR.lt; have h3 := hb.size
  have h4 : Blk (w1.alloc (.cells #[.pointer (some ⟨w1.heap.size + 1, 0, none⟩)] 127)) w1.heap.size _ _ := Blk.new _ _ _
  have hbz := (((Below.refl w1.heap.size w1).alloc (Nat.le_refl _) (.cells #[.pointer (some ⟨w1.heap.size + 1, 0, none⟩)] 127)).alloc (by simp) (.cells #[vG, vL, .slice none 0 0, .int .i64 0] 129)).drew
  refine ⟨((hb.alloc h3 _).alloc (by simp; omega) _).drew, (hE.alloc _).alloc _, (hR.alloc _).alloc _, h4.alloc _, asm_start ?_ ((hg.below hbz).le (by omega)) ((hl.below hbz).le (by omega)), by omega, by omega, by omega, by omega, hr, by omega⟩
  have := Blk.new (w1.alloc (.cells #[.pointer (some ⟨w1.heap.size + 1, 0, none⟩)] 127)) #[vG, vL, .slice none 0 0, .int .i64 0] 129
  exact Blk.drew (by simpa [Blk] using this)
set_option maxRecDepth 100000 in
set_option maxHeartbeats 4000000 in
theorem edited_any (vG vR : Value) (xs : List GRule) (ls : List Int) (e : GEdit) (w : World) (hG : Sl RuleE w w.heap.size vG xs) (hR : Sl RuleE w w.heap.size vR e.part) (hl : lens xs = some ls) (hn : xs.length ≤ 1048576) (hk : kindOk e) (hp : gramOk e.part = true) (htab : Lib.TabIs Tryz.prog w "math/bits.deBruijn64tab" .u8 deB64) :
    Calls Tryz.prog 44 #[.agg #[vG], .agg (editCells e vR)] w (GRes (editG (editS xs ls (lastI ls) e)) (editC (editS xs ls (lastI ls) e)) w) := by
  have HG := Lib.hid hG
  have HR := Lib.hid hR
  have HL := Lib.hid hl
  have HK := Lib.hid hk
  have HP := Lib.hid hp
  have HT := Lib.hid htab
  obtain ⟨AG, cG, rfl, _⟩ := hG
  obtain ⟨AR, cR, rfl, _⟩ := hR
  clear hl hk hp htab
  unfold editCells
  go_enter Tryz.func44, Tryz.ntmps44
  go_wp2_with fail
  refine (lengths_any _ xs _ (HG.out.up (by repeat (first | exact Below.refl _ _ | (refine Below.alloc ?_ (by first | omega | (simp; done) | (simp; omega)) _) | (refine Below.setCell ?_ (by first | exact Nat.le_refl _ | (show _ ≤ _; omega) | (simp; done) | (simp; omega)) _) | refine below_drewN ?_ _ | refine Below.drew ?_))) (by omega)).mono ?_
  rintro e1 w1 ⟨hb, (⟨ls', v1, h1, rfl, h2⟩ | ⟨h1, rfl⟩)⟩
  case inr => rw [HL.out] at h1; cases h1
  have h3 : ls' = ls := by rw [HL.out] at h1; exact (Option.some.inj h1).symm
  subst h3
  obtain ⟨hb1, K2⟩ := Below.unalloc hb
  obtain ⟨hb2, K1⟩ := Below.unalloc hb1
  obtain ⟨hb3, K0⟩ := Below.unalloc hb2
  have KP : Blk w1 w.heap.size #[.slice AG xs.length cG] 31 := K0
  have KE : Blk w1 (w.heap.size + 1) (editCells e (.slice AR e.part.length cR)) 36 := by simpa [Blk, editCells] using K1
  have KR : Blk w1 (w.heap.size + 2) #[.slice none 0 0] 31 := by simpa [Blk] using K2
  have HL1 := Lib.hid (OwnInts.sl h2)
  have HB := Lib.hid hb3
  have HE1 := Lib.hid KE
  have HR1 := Lib.hid KR
  obtain ⟨AL, cL, rfl, _⟩ := OwnInts.sl h2
  have HI := Lib.hid h2
  clear hb hb1 hb2 hb3 K0 K1 K2 KE KR h1 h2
  have cP := KP.cell (i := 0) (v := .slice AG xs.length cG) rfl
  have lP := KP.lt
  have lR1 := HR1.out.lt
  go_wp2_with fail
  go_cut [8, 9] (fun s8 s9 wx => ∃ K b : Nat, s8 = .int .i64 (lastI ls') ∧ s9 = .pointer (some ⟨K, 0, none⟩) ∧ EdJ w (w.heap.size + 1) (w.heap.size + 2) K b e (.slice AR e.part.length cR) xs ls' (some []) wx)
  case first =>
    go_region_law (go_simp; go_at_call 87; (refine (last_any _ ls' _ ?_).mono ?_); (first | (exact HL1.out.up (by repeat (first | exact Below.refl _ _ | (refine Below.alloc ?_ (by first | omega | (simp; done) | (simp; omega)) _) | (refine Below.setCell ?_ (by first | exact Nat.le_refl _ | (show _ ≤ _; omega) | (simp; done) | (simp; omega)) _) | refine below_drewN ?_ _ | refine Below.drew ?_))) | skip); rintro e2 w2 ⟨rfl, rfl⟩)
    all_goals
      go_wp2_with fail
      go_meet
      first
        | exact ⟨_, _, rfl, rfl, edJ_start1 HB.out HE1.out HR1.out (HG.out.up HB.out) HL1.out (by omega)⟩
        | exact ⟨_, _, rfl, rfl, edJ_start2 HB.out HE1.out HR1.out (HG.out.up HB.out) HL1.out (by omega)⟩
  -- GEN
  case rest =>
    obtain ⟨K, b, rfl, rfl, hj⟩ := hcut
    have HJ1 := Lib.hid hj
    clear hj cP lP lR1 KP HE1 HR1 HL1 HI HB
    rcases HK.out with hk | hk | hk | hk | hkk
    · have x0 := HJ1.out.hE.cell (i := 0) (v := .int .i64 1) (by rw [← hk]; rfl)
      have HKE := Lib.hid hk
      clear hk
      have aK := HJ1.out.hK.cell (i := 0) (v := .pointer (some ⟨b, 0, none⟩)) rfl
      have aE1 := HJ1.out.hE.cell (i := 1) (v := .int .i64 e.i) rfl
      have aB := HJ1.out.asm.lt
      have aE := HJ1.out.hE.lt
      have aKl := HJ1.out.hK.lt
      go_wp2_with fail
      refine (asmKeep_any b xs ls' _ 0 (e.i) _ HJ1.out.asm HL.out hn).mono ?_
      rintro e6 w6 ⟨rfl, hb1, ha1⟩
      have HJ2 := Lib.hid (HJ1.out.next hb1 ha1)
      clear aK aB aE aKl aE1 hb1 ha1 HJ1
      have aK := HJ2.out.hK.cell (i := 0) (v := .pointer (some ⟨b, 0, none⟩)) rfl
      have aE4 := HJ2.out.hE.cell (i := 4) (v := .slice AR e.part.length cR) rfl
      have aB := HJ2.out.asm.lt
      go_wp2_with fail
      refine (asmAdd_any b xs ls' _ (some e.part) (.slice AR e.part.length cR) e.part 0 _ HJ2.out.asm (sl_ne (HR.out.below HJ2.out.bel) HJ2.out.le aB) (.inl ⟨rfl, rfl, HP.out⟩)).mono ?_
      rintro e7 w7 ⟨rfl, hb2, ha2⟩
      have HJ3 := Lib.hid (HJ2.out.next hb2 ha2)
      clear aK aE4 aB hb2 ha2 HJ2
      have aK := HJ3.out.hK.cell (i := 0) (v := .pointer (some ⟨b, 0, none⟩)) rfl
      have aE1 := HJ3.out.hE.cell (i := 1) (v := .int .i64 e.i) rfl
      have aB := HJ3.out.asm.lt
      have aE := HJ3.out.hE.lt
      have aKl := HJ3.out.hK.lt
      go_wp2_with fail
      refine (asmKeep_any b xs ls' _ e.i (lastI ls') _ HJ3.out.asm HL.out hn).mono ?_
      rintro e8 w8 ⟨rfl, hb3, ha3⟩
      have HJ4 := Lib.hid (HJ3.out.next hb3 ha3)
      clear aK aB aE aKl aE1 hb3 ha3 HJ3
      have hQ : editS xs ls' (lastI ls') e = addO (addO (addO (some []) (limO (partG xs ls' 0 (e.i)))) (some e.part)) (limO (partG xs ls' e.i (lastI ls'))) := by unfold editS; rw [if_pos HKE.out]
      have HQ := Lib.hid hQ
      clear hQ
      obtain ⟨vG9, vL9, vO, out, c9, hB9, hG9, hL9, hO9, hs9, hok9⟩ := HJ4.out.asm
      obtain ⟨AO, kO, rfl, _⟩ := own_nil hO9
      have aK := HJ4.out.hK.cell (i := 0) (v := .pointer (some ⟨b, 0, none⟩)) rfl
      have aR := HJ4.out.hR.cell (i := 0) (v := .slice none 0 0) rfl
      have aRf := HJ4.out.hR.frozen 0
      have aRl := HJ4.out.hR.lt
      have HO9 := Lib.hid hO9
      have HBE := Lib.hid HJ4.out.bel
      have HRR := Lib.hid HJ4.out.hR
      have hle := HJ4.out.le
      have HOK := Lib.hid hok9
      have aBl := hB9.lt
      have nKR : K ≠ w.heap.size + 1 + 1 := HJ4.out.neKR
      have nbR : b ≠ w.heap.size + 1 + 1 := fun h => HJ4.out.neR h.symm
      clear hG9 hL9 hO9
      rcases hs9 with ⟨hs, rfl, _⟩ | ⟨hs, rfl⟩
      · have HS := Lib.hid hs
        have a2 := hB9.cell (i := 2) (v := .slice AO out.length kO) rfl
        have a3 := hB9.cell (i := 3) (v := .int .i64 0) rfl
        clear hs hB9 hok9 HJ4
        go_wp2_with fail
        refine (trimmed_any _ out _ HO9.out.sl (by have := gram_len400 HOK.out; omega) (okAll_lens (gram_lens HOK.out).2.choose_spec)).mono ?_
        rintro e10 w10 ⟨hb10, v10, own10, rfl⟩
        have HR10 := Lib.hid (HRR.out.up hb10)
        have HB10 := Lib.hid (Below.tr HBE.out hb10)
        have HO10 := Lib.hid own10
        obtain ⟨A10, k10, rfl, _⟩ := own_nil own10
        have b0 := HR10.out.cell (i := 0) (v := .slice none 0 0) rfl
        have b1 := HR10.out.frozen 0
        have b2 := HR10.out.lt
        have hzz := HBE.out.size
        clear hb10 own10 a2 a3 aK aR aRf
        go_wp2_with fail
        refine bodyPost_ret (v := .tuple #[.agg #[.slice A10 (trimG out).length k10], .int .i64 0]) (by simp [results, Tryz.results44, go_sem, b0]) rfl ⟨HB10.out.setCell (by show w.heap.size ≤ w.heap.size + 2; omega) _, .slice A10 (trimG out).length k10, ?_, by rw [HQ.out, HS.out]; rfl⟩
        rw [HQ.out, HS.out]
        exact ownsRow_more (ownsRow_setCell_below HO10.out (a := ⟨w.heap.size + 2, 0, none⟩) aRl _) hzz
      · have HS := Lib.hid hs
        have a3 := hB9.cell (i := 3) (v := .int .i64 3) rfl
        clear hs hB9 hok9 HJ4
        go_wp2_with fail
        go_region
        all_goals
          go_wp2_with fail
          refine bodyPost_ret (v := .tuple #[.agg #[.slice none 0 0], .int .i64 3]) (by simp [results, Tryz.results44, go_sem, aR]) rfl ⟨(HBE.out.drew).setCell (by show w.heap.size ≤ w.heap.size + 2; omega) _, .slice none 0 0, ?_, by rw [HQ.out, HS.out]; rfl⟩
          rw [HQ.out, HS.out]
          exact World.ownsRow_nil _ _ _ _
    · have x0 := HJ1.out.hE.cell (i := 0) (v := .int .i64 2) (by rw [← hk]; rfl)
      have HKE := Lib.hid hk
      clear hk
      have aK := HJ1.out.hK.cell (i := 0) (v := .pointer (some ⟨b, 0, none⟩)) rfl
      have aE1 := HJ1.out.hE.cell (i := 1) (v := .int .i64 e.i) rfl
      have aB := HJ1.out.asm.lt
      have aE := HJ1.out.hE.lt
      have aKl := HJ1.out.hK.lt
      go_wp2_with fail
      refine (asmKeep_any b xs ls' _ 0 (e.i) _ HJ1.out.asm HL.out hn).mono ?_
      rintro e6 w6 ⟨rfl, hb1, ha1⟩
      have HJ2 := Lib.hid (HJ1.out.next hb1 ha1)
      clear aK aB aE aKl aE1 hb1 ha1 HJ1
      have aK := HJ2.out.hK.cell (i := 0) (v := .pointer (some ⟨b, 0, none⟩)) rfl
      have aE2 := HJ2.out.hE.cell (i := 2) (v := .int .i64 e.j) rfl
      have aB := HJ2.out.asm.lt
      have aE := HJ2.out.hE.lt
      have aKl := HJ2.out.hK.lt
      go_wp2_with fail
      refine (asmKeep_any b xs ls' _ e.j (lastI ls') _ HJ2.out.asm HL.out hn).mono ?_
      rintro e7 w7 ⟨rfl, hb2, ha2⟩
      have HJ3 := Lib.hid (HJ2.out.next hb2 ha2)
      clear aK aB aE aKl aE2 hb2 ha2 HJ2
      have hQ : editS xs ls' (lastI ls') e = addO (addO (some []) (limO (partG xs ls' 0 (e.i)))) (limO (partG xs ls' e.j (lastI ls'))) := by unfold editS; rw [if_neg (by rw [HKE.out]; decide), if_pos HKE.out]
      have HQ := Lib.hid hQ
      clear hQ
      obtain ⟨vG9, vL9, vO, out, c9, hB9, hG9, hL9, hO9, hs9, hok9⟩ := HJ3.out.asm
      obtain ⟨AO, kO, rfl, _⟩ := own_nil hO9
      have aK := HJ3.out.hK.cell (i := 0) (v := .pointer (some ⟨b, 0, none⟩)) rfl
      have aR := HJ3.out.hR.cell (i := 0) (v := .slice none 0 0) rfl
      have aRf := HJ3.out.hR.frozen 0
      have aRl := HJ3.out.hR.lt
      have HO9 := Lib.hid hO9
      have HBE := Lib.hid HJ3.out.bel
      have HRR := Lib.hid HJ3.out.hR
      have hle := HJ3.out.le
      have HOK := Lib.hid hok9
      have aBl := hB9.lt
      have nKR : K ≠ w.heap.size + 1 + 1 := HJ3.out.neKR
      have nbR : b ≠ w.heap.size + 1 + 1 := fun h => HJ3.out.neR h.symm
      clear hG9 hL9 hO9
      rcases hs9 with ⟨hs, rfl, _⟩ | ⟨hs, rfl⟩
      · have HS := Lib.hid hs
        have a2 := hB9.cell (i := 2) (v := .slice AO out.length kO) rfl
        have a3 := hB9.cell (i := 3) (v := .int .i64 0) rfl
        clear hs hB9 hok9 HJ3
        go_wp2_with fail
        refine (trimmed_any _ out _ HO9.out.sl (by have := gram_len400 HOK.out; omega) (okAll_lens (gram_lens HOK.out).2.choose_spec)).mono ?_
        rintro e10 w10 ⟨hb10, v10, own10, rfl⟩
        have HR10 := Lib.hid (HRR.out.up hb10)
        have HB10 := Lib.hid (Below.tr HBE.out hb10)
        have HO10 := Lib.hid own10
        obtain ⟨A10, k10, rfl, _⟩ := own_nil own10
        have b0 := HR10.out.cell (i := 0) (v := .slice none 0 0) rfl
        have b1 := HR10.out.frozen 0
        have b2 := HR10.out.lt
        have hzz := HBE.out.size
        clear hb10 own10 a2 a3 aK aR aRf
        go_wp2_with fail
        refine bodyPost_ret (v := .tuple #[.agg #[.slice A10 (trimG out).length k10], .int .i64 0]) (by simp [results, Tryz.results44, go_sem, b0]) rfl ⟨HB10.out.setCell (by show w.heap.size ≤ w.heap.size + 2; omega) _, .slice A10 (trimG out).length k10, ?_, by rw [HQ.out, HS.out]; rfl⟩
        rw [HQ.out, HS.out]
        exact ownsRow_more (ownsRow_setCell_below HO10.out (a := ⟨w.heap.size + 2, 0, none⟩) aRl _) hzz
      · have HS := Lib.hid hs
        have a3 := hB9.cell (i := 3) (v := .int .i64 3) rfl
        clear hs hB9 hok9 HJ3
        go_wp2_with fail
        go_region
        all_goals
          go_wp2_with fail
          refine bodyPost_ret (v := .tuple #[.agg #[.slice none 0 0], .int .i64 3]) (by simp [results, Tryz.results44, go_sem, aR]) rfl ⟨(HBE.out.drew).setCell (by show w.heap.size ≤ w.heap.size + 2; omega) _, .slice none 0 0, ?_, by rw [HQ.out, HS.out]; rfl⟩
          rw [HQ.out, HS.out]
          exact World.ownsRow_nil _ _ _ _
    · have x0 := HJ1.out.hE.cell (i := 0) (v := .int .i64 3) (by rw [← hk]; rfl)
      have HKE := Lib.hid hk
      clear hk
      have aK := HJ1.out.hK.cell (i := 0) (v := .pointer (some ⟨b, 0, none⟩)) rfl
      have aE3 := HJ1.out.hE.cell (i := 3) (v := .int .i64 e.k) rfl
      have aB := HJ1.out.asm.lt
      have aE := HJ1.out.hE.lt
      have aKl := HJ1.out.hK.lt
      go_wp2_with fail
      refine (asmKeep_any b xs ls' _ 0 (e.k) _ HJ1.out.asm HL.out hn).mono ?_
      rintro e6 w6 ⟨rfl, hb1, ha1⟩
      have HJ2 := Lib.hid (HJ1.out.next hb1 ha1)
      clear aK aB aE aKl aE3 hb1 ha1 HJ1
      have aK := HJ2.out.hK.cell (i := 0) (v := .pointer (some ⟨b, 0, none⟩)) rfl
      have aE1 := HJ2.out.hE.cell (i := 1) (v := .int .i64 e.i) rfl
      have aE2 := HJ2.out.hE.cell (i := 2) (v := .int .i64 e.j) rfl
      have aB := HJ2.out.asm.lt
      have aE := HJ2.out.hE.lt
      have aKl := HJ2.out.hK.lt
      go_wp2_with fail
      refine (asmKeep_any b xs ls' _ e.i (e.j) _ HJ2.out.asm HL.out hn).mono ?_
      rintro e7 w7 ⟨rfl, hb2, ha2⟩
      have HJ3 := Lib.hid (HJ2.out.next hb2 ha2)
      clear aK aB aE aKl aE1 aE2 hb2 ha2 HJ2
      have aK := HJ3.out.hK.cell (i := 0) (v := .pointer (some ⟨b, 0, none⟩)) rfl
      have aE3 := HJ3.out.hE.cell (i := 3) (v := .int .i64 e.k) rfl
      have aB := HJ3.out.asm.lt
      have aE := HJ3.out.hE.lt
      have aKl := HJ3.out.hK.lt
      go_wp2_with fail
      refine (asmKeep_any b xs ls' _ e.k (lastI ls') _ HJ3.out.asm HL.out hn).mono ?_
      rintro e8 w8 ⟨rfl, hb3, ha3⟩
      have HJ4 := Lib.hid (HJ3.out.next hb3 ha3)
      clear aK aB aE aKl aE3 hb3 ha3 HJ3
      have hQ : editS xs ls' (lastI ls') e = addO (addO (addO (some []) (limO (partG xs ls' 0 (e.k)))) (limO (partG xs ls' e.i (e.j)))) (limO (partG xs ls' e.k (lastI ls'))) := by unfold editS; rw [if_neg (by rw [HKE.out]; decide), if_neg (by rw [HKE.out]; decide), if_pos HKE.out]
      have HQ := Lib.hid hQ
      clear hQ
      obtain ⟨vG9, vL9, vO, out, c9, hB9, hG9, hL9, hO9, hs9, hok9⟩ := HJ4.out.asm
      obtain ⟨AO, kO, rfl, _⟩ := own_nil hO9
      have aK := HJ4.out.hK.cell (i := 0) (v := .pointer (some ⟨b, 0, none⟩)) rfl
      have aR := HJ4.out.hR.cell (i := 0) (v := .slice none 0 0) rfl
      have aRf := HJ4.out.hR.frozen 0
      have aRl := HJ4.out.hR.lt
      have HO9 := Lib.hid hO9
      have HBE := Lib.hid HJ4.out.bel
      have HRR := Lib.hid HJ4.out.hR
      have hle := HJ4.out.le
      have HOK := Lib.hid hok9
      have aBl := hB9.lt
      have nKR : K ≠ w.heap.size + 1 + 1 := HJ4.out.neKR
      have nbR : b ≠ w.heap.size + 1 + 1 := fun h => HJ4.out.neR h.symm
      clear hG9 hL9 hO9
      rcases hs9 with ⟨hs, rfl, _⟩ | ⟨hs, rfl⟩
      · have HS := Lib.hid hs
        have a2 := hB9.cell (i := 2) (v := .slice AO out.length kO) rfl
        have a3 := hB9.cell (i := 3) (v := .int .i64 0) rfl
        clear hs hB9 hok9 HJ4
        go_wp2_with fail
        refine (trimmed_any _ out _ HO9.out.sl (by have := gram_len400 HOK.out; omega) (okAll_lens (gram_lens HOK.out).2.choose_spec)).mono ?_
        rintro e10 w10 ⟨hb10, v10, own10, rfl⟩
        have HR10 := Lib.hid (HRR.out.up hb10)
        have HB10 := Lib.hid (Below.tr HBE.out hb10)
        have HO10 := Lib.hid own10
        obtain ⟨A10, k10, rfl, _⟩ := own_nil own10
        have b0 := HR10.out.cell (i := 0) (v := .slice none 0 0) rfl
        have b1 := HR10.out.frozen 0
        have b2 := HR10.out.lt
        have hzz := HBE.out.size
        clear hb10 own10 a2 a3 aK aR aRf
        go_wp2_with fail
        refine bodyPost_ret (v := .tuple #[.agg #[.slice A10 (trimG out).length k10], .int .i64 0]) (by simp [results, Tryz.results44, go_sem, b0]) rfl ⟨HB10.out.setCell (by show w.heap.size ≤ w.heap.size + 2; omega) _, .slice A10 (trimG out).length k10, ?_, by rw [HQ.out, HS.out]; rfl⟩
        rw [HQ.out, HS.out]
        exact ownsRow_more (ownsRow_setCell_below HO10.out (a := ⟨w.heap.size + 2, 0, none⟩) aRl _) hzz
      · have HS := Lib.hid hs
        have a3 := hB9.cell (i := 3) (v := .int .i64 3) rfl
        clear hs hB9 hok9 HJ4
        go_wp2_with fail
        go_region
        all_goals
          go_wp2_with fail
          refine bodyPost_ret (v := .tuple #[.agg #[.slice none 0 0], .int .i64 3]) (by simp [results, Tryz.results44, go_sem, aR]) rfl ⟨(HBE.out.drew).setCell (by show w.heap.size ≤ w.heap.size + 2; omega) _, .slice none 0 0, ?_, by rw [HQ.out, HS.out]; rfl⟩
          rw [HQ.out, HS.out]
          exact World.ownsRow_nil _ _ _ _
    · have x0 := HJ1.out.hE.cell (i := 0) (v := .int .i64 4) (by rw [← hk]; rfl)
      have HKE := Lib.hid hk
      clear hk
      have y1 := HJ1.out.hE.cell (i := 1) (v := .int .i64 e.i) rfl
      have y3 := HJ1.out.hE.cell (i := 3) (v := .int .i64 e.k) rfl
      by_cases hki : e.k ≤ e.i
      · have HKI := Lib.hid hki
        have aK := HJ1.out.hK.cell (i := 0) (v := .pointer (some ⟨b, 0, none⟩)) rfl
        have aE3 := HJ1.out.hE.cell (i := 3) (v := .int .i64 e.k) rfl
        have aB := HJ1.out.asm.lt
        have aE := HJ1.out.hE.lt
        have aKl := HJ1.out.hK.lt
        go_wp2_with fail
        refine (asmKeep_any b xs ls' _ 0 (e.k) _ HJ1.out.asm HL.out hn).mono ?_
        rintro e6 w6 ⟨rfl, hb1, ha1⟩
        have HJ2 := Lib.hid (HJ1.out.next hb1 ha1)
        clear aK aB aE aKl aE3 hb1 ha1 HJ1
        have aK := HJ2.out.hK.cell (i := 0) (v := .pointer (some ⟨b, 0, none⟩)) rfl
        have aE1 := HJ2.out.hE.cell (i := 1) (v := .int .i64 e.i) rfl
        have aE2 := HJ2.out.hE.cell (i := 2) (v := .int .i64 e.j) rfl
        have aB := HJ2.out.asm.lt
        have aE := HJ2.out.hE.lt
        have aKl := HJ2.out.hK.lt
        go_wp2_with fail
        refine (asmKeep_any b xs ls' _ e.i (e.j) _ HJ2.out.asm HL.out hn).mono ?_
        rintro e7 w7 ⟨rfl, hb2, ha2⟩
        have HJ3 := Lib.hid (HJ2.out.next hb2 ha2)
        clear aK aB aE aKl aE1 aE2 hb2 ha2 HJ2
        have aK := HJ3.out.hK.cell (i := 0) (v := .pointer (some ⟨b, 0, none⟩)) rfl
        have aE1 := HJ3.out.hE.cell (i := 1) (v := .int .i64 e.i) rfl
        have aE3 := HJ3.out.hE.cell (i := 3) (v := .int .i64 e.k) rfl
        have aB := HJ3.out.asm.lt
        have aE := HJ3.out.hE.lt
        have aKl := HJ3.out.hK.lt
        go_wp2_with fail
        refine (asmKeep_any b xs ls' _ e.k (e.i) _ HJ3.out.asm HL.out hn).mono ?_
        rintro e8 w8 ⟨rfl, hb3, ha3⟩
        have HJ4 := Lib.hid (HJ3.out.next hb3 ha3)
        clear aK aB aE aKl aE1 aE3 hb3 ha3 HJ3
        have aK := HJ4.out.hK.cell (i := 0) (v := .pointer (some ⟨b, 0, none⟩)) rfl
        have aE2 := HJ4.out.hE.cell (i := 2) (v := .int .i64 e.j) rfl
        have aB := HJ4.out.asm.lt
        have aE := HJ4.out.hE.lt
        have aKl := HJ4.out.hK.lt
        go_wp2_with fail
        refine (asmKeep_any b xs ls' _ e.j (lastI ls') _ HJ4.out.asm HL.out hn).mono ?_
        rintro e9 w9 ⟨rfl, hb4, ha4⟩
        have HJ5 := Lib.hid (HJ4.out.next hb4 ha4)
        clear aK aB aE aKl aE2 hb4 ha4 HJ4
        have hQ : editS xs ls' (lastI ls') e = addO (addO (addO (addO (some []) (limO (partG xs ls' 0 (e.k)))) (limO (partG xs ls' e.i (e.j)))) (limO (partG xs ls' e.k (e.i)))) (limO (partG xs ls' e.j (lastI ls'))) := by unfold editS; rw [if_neg (by rw [HKE.out]; decide), if_neg (by rw [HKE.out]; decide), if_neg (by rw [HKE.out]; decide), if_pos HKE.out, if_pos HKI.out]
        have HQ := Lib.hid hQ
        clear hQ
        obtain ⟨vG9, vL9, vO, out, c9, hB9, hG9, hL9, hO9, hs9, hok9⟩ := HJ5.out.asm
        obtain ⟨AO, kO, rfl, _⟩ := own_nil hO9
        have aK := HJ5.out.hK.cell (i := 0) (v := .pointer (some ⟨b, 0, none⟩)) rfl
        have aR := HJ5.out.hR.cell (i := 0) (v := .slice none 0 0) rfl
        have aRf := HJ5.out.hR.frozen 0
        have aRl := HJ5.out.hR.lt
        have HO9 := Lib.hid hO9
        have HBE := Lib.hid HJ5.out.bel
        have HRR := Lib.hid HJ5.out.hR
        have hle := HJ5.out.le
        have HOK := Lib.hid hok9
        have aBl := hB9.lt
        have nKR : K ≠ w.heap.size + 1 + 1 := HJ5.out.neKR
        have nbR : b ≠ w.heap.size + 1 + 1 := fun h => HJ5.out.neR h.symm
        clear hG9 hL9 hO9
        rcases hs9 with ⟨hs, rfl, _⟩ | ⟨hs, rfl⟩
        · have HS := Lib.hid hs
          have a2 := hB9.cell (i := 2) (v := .slice AO out.length kO) rfl
          have a3 := hB9.cell (i := 3) (v := .int .i64 0) rfl
          clear hs hB9 hok9 HJ5
          go_wp2_with fail
          refine (trimmed_any _ out _ HO9.out.sl (by have := gram_len400 HOK.out; omega) (okAll_lens (gram_lens HOK.out).2.choose_spec)).mono ?_
          rintro e10 w10 ⟨hb10, v10, own10, rfl⟩
          have HR10 := Lib.hid (HRR.out.up hb10)
          have HB10 := Lib.hid (Below.tr HBE.out hb10)
          have HO10 := Lib.hid own10
          obtain ⟨A10, k10, rfl, _⟩ := own_nil own10
          have b0 := HR10.out.cell (i := 0) (v := .slice none 0 0) rfl
          have b1 := HR10.out.frozen 0
          have b2 := HR10.out.lt
          have hzz := HBE.out.size
          clear hb10 own10 a2 a3 aK aR aRf
          go_wp2_with fail
          refine bodyPost_ret (v := .tuple #[.agg #[.slice A10 (trimG out).length k10], .int .i64 0]) (by simp [results, Tryz.results44, go_sem, b0]) rfl ⟨HB10.out.setCell (by show w.heap.size ≤ w.heap.size + 2; omega) _, .slice A10 (trimG out).length k10, ?_, by rw [HQ.out, HS.out]; rfl⟩
          rw [HQ.out, HS.out]
          exact ownsRow_more (ownsRow_setCell_below HO10.out (a := ⟨w.heap.size + 2, 0, none⟩) aRl _) hzz
        · have HS := Lib.hid hs
          have a3 := hB9.cell (i := 3) (v := .int .i64 3) rfl
          clear hs hB9 hok9 HJ5
          go_wp2_with fail
          go_region
          all_goals
            go_wp2_with fail
            refine bodyPost_ret (v := .tuple #[.agg #[.slice none 0 0], .int .i64 3]) (by simp [results, Tryz.results44, go_sem, aR]) rfl ⟨(HBE.out.drew).setCell (by show w.heap.size ≤ w.heap.size + 2; omega) _, .slice none 0 0, ?_, by rw [HQ.out, HS.out]; rfl⟩
            rw [HQ.out, HS.out]
            exact World.ownsRow_nil _ _ _ _
      · have HKI := Lib.hid hki
        have aK := HJ1.out.hK.cell (i := 0) (v := .pointer (some ⟨b, 0, none⟩)) rfl
        have aE1 := HJ1.out.hE.cell (i := 1) (v := .int .i64 e.i) rfl
        have aB := HJ1.out.asm.lt
        have aE := HJ1.out.hE.lt
        have aKl := HJ1.out.hK.lt
        go_wp2_with fail
        refine (asmKeep_any b xs ls' _ 0 (e.i) _ HJ1.out.asm HL.out hn).mono ?_
        rintro e6 w6 ⟨rfl, hb1, ha1⟩
        have HJ2 := Lib.hid (HJ1.out.next hb1 ha1)
        clear aK aB aE aKl aE1 hb1 ha1 HJ1
        have aK := HJ2.out.hK.cell (i := 0) (v := .pointer (some ⟨b, 0, none⟩)) rfl
        have aE2 := HJ2.out.hE.cell (i := 2) (v := .int .i64 e.j) rfl
        have aE3 := HJ2.out.hE.cell (i := 3) (v := .int .i64 e.k) rfl
        have aB := HJ2.out.asm.lt
        have aE := HJ2.out.hE.lt
        have aKl := HJ2.out.hK.lt
        go_wp2_with fail
        refine (asmKeep_any b xs ls' _ e.j (e.k) _ HJ2.out.asm HL.out hn).mono ?_
        rintro e7 w7 ⟨rfl, hb2, ha2⟩
        have HJ3 := Lib.hid (HJ2.out.next hb2 ha2)
        clear aK aB aE aKl aE2 aE3 hb2 ha2 HJ2
        have aK := HJ3.out.hK.cell (i := 0) (v := .pointer (some ⟨b, 0, none⟩)) rfl
        have aE1 := HJ3.out.hE.cell (i := 1) (v := .int .i64 e.i) rfl
        have aE2 := HJ3.out.hE.cell (i := 2) (v := .int .i64 e.j) rfl
        have aB := HJ3.out.asm.lt
        have aE := HJ3.out.hE.lt
        have aKl := HJ3.out.hK.lt
        go_wp2_with fail
        refine (asmKeep_any b xs ls' _ e.i (e.j) _ HJ3.out.asm HL.out hn).mono ?_
        rintro e8 w8 ⟨rfl, hb3, ha3⟩
        have HJ4 := Lib.hid (HJ3.out.next hb3 ha3)
        clear aK aB aE aKl aE1 aE2 hb3 ha3 HJ3
        have aK := HJ4.out.hK.cell (i := 0) (v := .pointer (some ⟨b, 0, none⟩)) rfl
        have aE3 := HJ4.out.hE.cell (i := 3) (v := .int .i64 e.k) rfl
        have aB := HJ4.out.asm.lt
        have aE := HJ4.out.hE.lt
        have aKl := HJ4.out.hK.lt
        go_wp2_with fail
        refine (asmKeep_any b xs ls' _ e.k (lastI ls') _ HJ4.out.asm HL.out hn).mono ?_
        rintro e9 w9 ⟨rfl, hb4, ha4⟩
        have HJ5 := Lib.hid (HJ4.out.next hb4 ha4)
        clear aK aB aE aKl aE3 hb4 ha4 HJ4
        have hQ : editS xs ls' (lastI ls') e = addO (addO (addO (addO (some []) (limO (partG xs ls' 0 (e.i)))) (limO (partG xs ls' e.j (e.k)))) (limO (partG xs ls' e.i (e.j)))) (limO (partG xs ls' e.k (lastI ls'))) := by unfold editS; rw [if_neg (by rw [HKE.out]; decide), if_neg (by rw [HKE.out]; decide), if_neg (by rw [HKE.out]; decide), if_pos HKE.out, if_neg (by have := HKI.out; omega)]
        have HQ := Lib.hid hQ
        clear hQ
        obtain ⟨vG9, vL9, vO, out, c9, hB9, hG9, hL9, hO9, hs9, hok9⟩ := HJ5.out.asm
        obtain ⟨AO, kO, rfl, _⟩ := own_nil hO9
        have aK := HJ5.out.hK.cell (i := 0) (v := .pointer (some ⟨b, 0, none⟩)) rfl
        have aR := HJ5.out.hR.cell (i := 0) (v := .slice none 0 0) rfl
        have aRf := HJ5.out.hR.frozen 0
        have aRl := HJ5.out.hR.lt
        have HO9 := Lib.hid hO9
        have HBE := Lib.hid HJ5.out.bel
        have HRR := Lib.hid HJ5.out.hR
        have hle := HJ5.out.le
        have HOK := Lib.hid hok9
        have aBl := hB9.lt
        have nKR : K ≠ w.heap.size + 1 + 1 := HJ5.out.neKR
        have nbR : b ≠ w.heap.size + 1 + 1 := fun h => HJ5.out.neR h.symm
        clear hG9 hL9 hO9
        rcases hs9 with ⟨hs, rfl, _⟩ | ⟨hs, rfl⟩
        · have HS := Lib.hid hs
          have a2 := hB9.cell (i := 2) (v := .slice AO out.length kO) rfl
          have a3 := hB9.cell (i := 3) (v := .int .i64 0) rfl
          clear hs hB9 hok9 HJ5
          go_wp2_with fail
          refine (trimmed_any _ out _ HO9.out.sl (by have := gram_len400 HOK.out; omega) (okAll_lens (gram_lens HOK.out).2.choose_spec)).mono ?_
          rintro e10 w10 ⟨hb10, v10, own10, rfl⟩
          have HR10 := Lib.hid (HRR.out.up hb10)
          have HB10 := Lib.hid (Below.tr HBE.out hb10)
          have HO10 := Lib.hid own10
          obtain ⟨A10, k10, rfl, _⟩ := own_nil own10
          have b0 := HR10.out.cell (i := 0) (v := .slice none 0 0) rfl
          have b1 := HR10.out.frozen 0
          have b2 := HR10.out.lt
          have hzz := HBE.out.size
          clear hb10 own10 a2 a3 aK aR aRf
          go_wp2_with fail
          refine bodyPost_ret (v := .tuple #[.agg #[.slice A10 (trimG out).length k10], .int .i64 0]) (by simp [results, Tryz.results44, go_sem, b0]) rfl ⟨HB10.out.setCell (by show w.heap.size ≤ w.heap.size + 2; omega) _, .slice A10 (trimG out).length k10, ?_, by rw [HQ.out, HS.out]; rfl⟩
          rw [HQ.out, HS.out]
          exact ownsRow_more (ownsRow_setCell_below HO10.out (a := ⟨w.heap.size + 2, 0, none⟩) aRl _) hzz
        · have HS := Lib.hid hs
          have a3 := hB9.cell (i := 3) (v := .int .i64 3) rfl
          clear hs hB9 hok9 HJ5
          go_wp2_with fail
          go_region
          all_goals
            go_wp2_with fail
            refine bodyPost_ret (v := .tuple #[.agg #[.slice none 0 0], .int .i64 3]) (by simp [results, Tryz.results44, go_sem, aR]) rfl ⟨(HBE.out.drew).setCell (by show w.heap.size ≤ w.heap.size + 2; omega) _, .slice none 0 0, ?_, by rw [HQ.out, HS.out]; rfl⟩
            rw [HQ.out, HS.out]
            exact World.ownsRow_nil _ _ _ _
    · have hkc : ¬ e.kind = 1 ∧ ¬ e.kind = 2 ∧ ¬ e.kind = 3 ∧ ¬ e.kind = 4 ∧ (e.kind = 5 ∨ e.kind = 6 ∨ e.kind = 7) := by unfold chgOK at hkk; omega
      have HKC := Lib.hid hkc
      have HKK := Lib.hid hkk
      obtain ⟨_, _, _, _, hk⟩ := hkc
      clear hkk
      rcases hk with hk | hk | hk
      · have x0 := HJ1.out.hE.cell (i := 0) (v := .int .i64 5) (by rw [← hk]; rfl)
        have HKE := Lib.hid hk
        clear hk
        have aK := HJ1.out.hK.cell (i := 0) (v := .pointer (some ⟨b, 0, none⟩)) rfl
        have aE1 := HJ1.out.hE.cell (i := 1) (v := .int .i64 e.i) rfl
        have aB := HJ1.out.asm.lt
        have aE := HJ1.out.hE.lt
        have aKl := HJ1.out.hK.lt
        go_wp2_with fail
        refine (asmKeep_any b xs ls' _ 0 (e.i) _ HJ1.out.asm HL.out hn).mono ?_
        rintro e6 w6 ⟨rfl, hb1, ha1⟩
        have HJ2 := Lib.hid (HJ1.out.next hb1 ha1)
        clear aK aB aE aKl aE1 hb1 ha1 HJ1
        have aB := HJ2.out.asm.lt
        go_wp2_with fail
        refine (changed_any (w.heap.size + 1) b K e (.slice AR e.part.length cR) xs ls' _ _ HJ2.out.hK HJ2.out.asm HJ2.out.hE HKK.out HL.out hn (tabB HT.out HJ2.out.bel)).mono ?_
        rintro e7 w7 ⟨rfl, hb2, ha2⟩
        have HJ3 := Lib.hid (HJ2.out.next hb2 ha2)
        clear aB hb2 ha2 HJ2
        have aK := HJ3.out.hK.cell (i := 0) (v := .pointer (some ⟨b, 0, none⟩)) rfl
        have aE2 := HJ3.out.hE.cell (i := 2) (v := .int .i64 e.j) rfl
        have aB := HJ3.out.asm.lt
        have aE := HJ3.out.hE.lt
        have aKl := HJ3.out.hK.lt
        go_wp2_with fail
        refine (asmKeep_any b xs ls' _ e.j (lastI ls') _ HJ3.out.asm HL.out hn).mono ?_
        rintro e8 w8 ⟨rfl, hb3, ha3⟩
        have HJ4 := Lib.hid (HJ3.out.next hb3 ha3)
        clear aK aB aE aKl aE2 hb3 ha3 HJ3
        have hQ : editS xs ls' (lastI ls') e = addO (addO (addO (some []) (limO (partG xs ls' 0 (e.i)))) ((limO (partG xs ls' e.i e.j)).bind (chgO e))) (limO (partG xs ls' e.j (lastI ls'))) := by unfold editS; rw [if_neg HKC.out.1, if_neg HKC.out.2.1, if_neg HKC.out.2.2.1, if_neg HKC.out.2.2.2.1]
        have HQ := Lib.hid hQ
        clear hQ
        obtain ⟨vG9, vL9, vO, out, c9, hB9, hG9, hL9, hO9, hs9, hok9⟩ := HJ4.out.asm
        obtain ⟨AO, kO, rfl, _⟩ := own_nil hO9
        have aK := HJ4.out.hK.cell (i := 0) (v := .pointer (some ⟨b, 0, none⟩)) rfl
        have aR := HJ4.out.hR.cell (i := 0) (v := .slice none 0 0) rfl
        have aRf := HJ4.out.hR.frozen 0
        have aRl := HJ4.out.hR.lt
        have HO9 := Lib.hid hO9
        have HBE := Lib.hid HJ4.out.bel
        have HRR := Lib.hid HJ4.out.hR
        have hle := HJ4.out.le
        have HOK := Lib.hid hok9
        have aBl := hB9.lt
        have nKR : K ≠ w.heap.size + 1 + 1 := HJ4.out.neKR
        have nbR : b ≠ w.heap.size + 1 + 1 := fun h => HJ4.out.neR h.symm
        clear hG9 hL9 hO9
        rcases hs9 with ⟨hs, rfl, _⟩ | ⟨hs, rfl⟩
        · have HS := Lib.hid hs
          have a2 := hB9.cell (i := 2) (v := .slice AO out.length kO) rfl
          have a3 := hB9.cell (i := 3) (v := .int .i64 0) rfl
          clear hs hB9 hok9 HJ4
          go_wp2_with fail
          refine (trimmed_any _ out _ HO9.out.sl (by have := gram_len400 HOK.out; omega) (okAll_lens (gram_lens HOK.out).2.choose_spec)).mono ?_
          rintro e10 w10 ⟨hb10, v10, own10, rfl⟩
          have HR10 := Lib.hid (HRR.out.up hb10)
          have HB10 := Lib.hid (Below.tr HBE.out hb10)
          have HO10 := Lib.hid own10
          obtain ⟨A10, k10, rfl, _⟩ := own_nil own10
          have b0 := HR10.out.cell (i := 0) (v := .slice none 0 0) rfl
          have b1 := HR10.out.frozen 0
          have b2 := HR10.out.lt
          have hzz := HBE.out.size
          clear hb10 own10 a2 a3 aK aR aRf
          go_wp2_with fail
          refine bodyPost_ret (v := .tuple #[.agg #[.slice A10 (trimG out).length k10], .int .i64 0]) (by simp [results, Tryz.results44, go_sem, b0]) rfl ⟨HB10.out.setCell (by show w.heap.size ≤ w.heap.size + 2; omega) _, .slice A10 (trimG out).length k10, ?_, by rw [HQ.out, HS.out]; rfl⟩
          rw [HQ.out, HS.out]
          exact ownsRow_more (ownsRow_setCell_below HO10.out (a := ⟨w.heap.size + 2, 0, none⟩) aRl _) hzz
        · have HS := Lib.hid hs
          have a3 := hB9.cell (i := 3) (v := .int .i64 3) rfl
          clear hs hB9 hok9 HJ4
          go_wp2_with fail
          go_region
          all_goals
            go_wp2_with fail
            refine bodyPost_ret (v := .tuple #[.agg #[.slice none 0 0], .int .i64 3]) (by simp [results, Tryz.results44, go_sem, aR]) rfl ⟨(HBE.out.drew).setCell (by show w.heap.size ≤ w.heap.size + 2; omega) _, .slice none 0 0, ?_, by rw [HQ.out, HS.out]; rfl⟩
            rw [HQ.out, HS.out]
            exact World.ownsRow_nil _ _ _ _
      · have x0 := HJ1.out.hE.cell (i := 0) (v := .int .i64 6) (by rw [← hk]; rfl)
        have HKE := Lib.hid hk
        clear hk
        have aK := HJ1.out.hK.cell (i := 0) (v := .pointer (some ⟨b, 0, none⟩)) rfl
        have aE1 := HJ1.out.hE.cell (i := 1) (v := .int .i64 e.i) rfl
        have aB := HJ1.out.asm.lt
        have aE := HJ1.out.hE.lt
        have aKl := HJ1.out.hK.lt
        go_wp2_with fail
        refine (asmKeep_any b xs ls' _ 0 (e.i) _ HJ1.out.asm HL.out hn).mono ?_
        rintro e6 w6 ⟨rfl, hb1, ha1⟩
        have HJ2 := Lib.hid (HJ1.out.next hb1 ha1)
        clear aK aB aE aKl aE1 hb1 ha1 HJ1
        have aB := HJ2.out.asm.lt
        go_wp2_with fail
        refine (changed_any (w.heap.size + 1) b K e (.slice AR e.part.length cR) xs ls' _ _ HJ2.out.hK HJ2.out.asm HJ2.out.hE HKK.out HL.out hn (tabB HT.out HJ2.out.bel)).mono ?_
        rintro e7 w7 ⟨rfl, hb2, ha2⟩
        have HJ3 := Lib.hid (HJ2.out.next hb2 ha2)
        clear aB hb2 ha2 HJ2
        have aK := HJ3.out.hK.cell (i := 0) (v := .pointer (some ⟨b, 0, none⟩)) rfl
        have aE2 := HJ3.out.hE.cell (i := 2) (v := .int .i64 e.j) rfl
        have aB := HJ3.out.asm.lt
        have aE := HJ3.out.hE.lt
        have aKl := HJ3.out.hK.lt
        go_wp2_with fail
        refine (asmKeep_any b xs ls' _ e.j (lastI ls') _ HJ3.out.asm HL.out hn).mono ?_
        rintro e8 w8 ⟨rfl, hb3, ha3⟩
        have HJ4 := Lib.hid (HJ3.out.next hb3 ha3)
        clear aK aB aE aKl aE2 hb3 ha3 HJ3
        have hQ : editS xs ls' (lastI ls') e = addO (addO (addO (some []) (limO (partG xs ls' 0 (e.i)))) ((limO (partG xs ls' e.i e.j)).bind (chgO e))) (limO (partG xs ls' e.j (lastI ls'))) := by unfold editS; rw [if_neg HKC.out.1, if_neg HKC.out.2.1, if_neg HKC.out.2.2.1, if_neg HKC.out.2.2.2.1]
        have HQ := Lib.hid hQ
        clear hQ
        obtain ⟨vG9, vL9, vO, out, c9, hB9, hG9, hL9, hO9, hs9, hok9⟩ := HJ4.out.asm
        obtain ⟨AO, kO, rfl, _⟩ := own_nil hO9
        have aK := HJ4.out.hK.cell (i := 0) (v := .pointer (some ⟨b, 0, none⟩)) rfl
        have aR := HJ4.out.hR.cell (i := 0) (v := .slice none 0 0) rfl
        have aRf := HJ4.out.hR.frozen 0
        have aRl := HJ4.out.hR.lt
        have HO9 := Lib.hid hO9
        have HBE := Lib.hid HJ4.out.bel
        have HRR := Lib.hid HJ4.out.hR
        have hle := HJ4.out.le
        have HOK := Lib.hid hok9
        have aBl := hB9.lt
        have nKR : K ≠ w.heap.size + 1 + 1 := HJ4.out.neKR
        have nbR : b ≠ w.heap.size + 1 + 1 := fun h => HJ4.out.neR h.symm
        clear hG9 hL9 hO9
        rcases hs9 with ⟨hs, rfl, _⟩ | ⟨hs, rfl⟩
        · have HS := Lib.hid hs
          have a2 := hB9.cell (i := 2) (v := .slice AO out.length kO) rfl
          have a3 := hB9.cell (i := 3) (v := .int .i64 0) rfl
          clear hs hB9 hok9 HJ4
          go_wp2_with fail
          refine (trimmed_any _ out _ HO9.out.sl (by have := gram_len400 HOK.out; omega) (okAll_lens (gram_lens HOK.out).2.choose_spec)).mono ?_
          rintro e10 w10 ⟨hb10, v10, own10, rfl⟩
          have HR10 := Lib.hid (HRR.out.up hb10)
          have HB10 := Lib.hid (Below.tr HBE.out hb10)
          have HO10 := Lib.hid own10
          obtain ⟨A10, k10, rfl, _⟩ := own_nil own10
          have b0 := HR10.out.cell (i := 0) (v := .slice none 0 0) rfl
          have b1 := HR10.out.frozen 0
          have b2 := HR10.out.lt
          have hzz := HBE.out.size
          clear hb10 own10 a2 a3 aK aR aRf
          go_wp2_with fail
          refine bodyPost_ret (v := .tuple #[.agg #[.slice A10 (trimG out).length k10], .int .i64 0]) (by simp [results, Tryz.results44, go_sem, b0]) rfl ⟨HB10.out.setCell (by show w.heap.size ≤ w.heap.size + 2; omega) _, .slice A10 (trimG out).length k10, ?_, by rw [HQ.out, HS.out]; rfl⟩
          rw [HQ.out, HS.out]
          exact ownsRow_more (ownsRow_setCell_below HO10.out (a := ⟨w.heap.size + 2, 0, none⟩) aRl _) hzz
        · have HS := Lib.hid hs
          have a3 := hB9.cell (i := 3) (v := .int .i64 3) rfl
          clear hs hB9 hok9 HJ4
          go_wp2_with fail
          go_region
          all_goals
            go_wp2_with fail
            refine bodyPost_ret (v := .tuple #[.agg #[.slice none 0 0], .int .i64 3]) (by simp [results, Tryz.results44, go_sem, aR]) rfl ⟨(HBE.out.drew).setCell (by show w.heap.size ≤ w.heap.size + 2; omega) _, .slice none 0 0, ?_, by rw [HQ.out, HS.out]; rfl⟩
            rw [HQ.out, HS.out]
            exact World.ownsRow_nil _ _ _ _
      · have x0 := HJ1.out.hE.cell (i := 0) (v := .int .i64 7) (by rw [← hk]; rfl)
        have HKE := Lib.hid hk
        clear hk
        have aK := HJ1.out.hK.cell (i := 0) (v := .pointer (some ⟨b, 0, none⟩)) rfl
        have aE1 := HJ1.out.hE.cell (i := 1) (v := .int .i64 e.i) rfl
        have aB := HJ1.out.asm.lt
        have aE := HJ1.out.hE.lt
        have aKl := HJ1.out.hK.lt
        go_wp2_with fail
        refine (asmKeep_any b xs ls' _ 0 (e.i) _ HJ1.out.asm HL.out hn).mono ?_
        rintro e6 w6 ⟨rfl, hb1, ha1⟩
        have HJ2 := Lib.hid (HJ1.out.next hb1 ha1)
        clear aK aB aE aKl aE1 hb1 ha1 HJ1
        have aB := HJ2.out.asm.lt
        go_wp2_with fail
        refine (changed_any (w.heap.size + 1) b K e (.slice AR e.part.length cR) xs ls' _ _ HJ2.out.hK HJ2.out.asm HJ2.out.hE HKK.out HL.out hn (tabB HT.out HJ2.out.bel)).mono ?_
        rintro e7 w7 ⟨rfl, hb2, ha2⟩
        have HJ3 := Lib.hid (HJ2.out.next hb2 ha2)
        clear aB hb2 ha2 HJ2
        have aK := HJ3.out.hK.cell (i := 0) (v := .pointer (some ⟨b, 0, none⟩)) rfl
        have aE2 := HJ3.out.hE.cell (i := 2) (v := .int .i64 e.j) rfl
        have aB := HJ3.out.asm.lt
        have aE := HJ3.out.hE.lt
        have aKl := HJ3.out.hK.lt
        go_wp2_with fail
        refine (asmKeep_any b xs ls' _ e.j (lastI ls') _ HJ3.out.asm HL.out hn).mono ?_
        rintro e8 w8 ⟨rfl, hb3, ha3⟩
        have HJ4 := Lib.hid (HJ3.out.next hb3 ha3)
        clear aK aB aE aKl aE2 hb3 ha3 HJ3
        have hQ : editS xs ls' (lastI ls') e = addO (addO (addO (some []) (limO (partG xs ls' 0 (e.i)))) ((limO (partG xs ls' e.i e.j)).bind (chgO e))) (limO (partG xs ls' e.j (lastI ls'))) := by unfold editS; rw [if_neg HKC.out.1, if_neg HKC.out.2.1, if_neg HKC.out.2.2.1, if_neg HKC.out.2.2.2.1]
        have HQ := Lib.hid hQ
        clear hQ
        obtain ⟨vG9, vL9, vO, out, c9, hB9, hG9, hL9, hO9, hs9, hok9⟩ := HJ4.out.asm
        obtain ⟨AO, kO, rfl, _⟩ := own_nil hO9
        have aK := HJ4.out.hK.cell (i := 0) (v := .pointer (some ⟨b, 0, none⟩)) rfl
        have aR := HJ4.out.hR.cell (i := 0) (v := .slice none 0 0) rfl
        have aRf := HJ4.out.hR.frozen 0
        have aRl := HJ4.out.hR.lt
        have HO9 := Lib.hid hO9
        have HBE := Lib.hid HJ4.out.bel
        have HRR := Lib.hid HJ4.out.hR
        have hle := HJ4.out.le
        have HOK := Lib.hid hok9
        have aBl := hB9.lt
        have nKR : K ≠ w.heap.size + 1 + 1 := HJ4.out.neKR
        have nbR : b ≠ w.heap.size + 1 + 1 := fun h => HJ4.out.neR h.symm
        clear hG9 hL9 hO9
        rcases hs9 with ⟨hs, rfl, _⟩ | ⟨hs, rfl⟩
        · have HS := Lib.hid hs
          have a2 := hB9.cell (i := 2) (v := .slice AO out.length kO) rfl
          have a3 := hB9.cell (i := 3) (v := .int .i64 0) rfl
          clear hs hB9 hok9 HJ4
          go_wp2_with fail
          refine (trimmed_any _ out _ HO9.out.sl (by have := gram_len400 HOK.out; omega) (okAll_lens (gram_lens HOK.out).2.choose_spec)).mono ?_
          rintro e10 w10 ⟨hb10, v10, own10, rfl⟩
          have HR10 := Lib.hid (HRR.out.up hb10)
          have HB10 := Lib.hid (Below.tr HBE.out hb10)
          have HO10 := Lib.hid own10
          obtain ⟨A10, k10, rfl, _⟩ := own_nil own10
          have b0 := HR10.out.cell (i := 0) (v := .slice none 0 0) rfl
          have b1 := HR10.out.frozen 0
          have b2 := HR10.out.lt
          have hzz := HBE.out.size
          clear hb10 own10 a2 a3 aK aR aRf
          go_wp2_with fail
          refine bodyPost_ret (v := .tuple #[.agg #[.slice A10 (trimG out).length k10], .int .i64 0]) (by simp [results, Tryz.results44, go_sem, b0]) rfl ⟨HB10.out.setCell (by show w.heap.size ≤ w.heap.size + 2; omega) _, .slice A10 (trimG out).length k10, ?_, by rw [HQ.out, HS.out]; rfl⟩
          rw [HQ.out, HS.out]
          exact ownsRow_more (ownsRow_setCell_below HO10.out (a := ⟨w.heap.size + 2, 0, none⟩) aRl _) hzz
        · have HS := Lib.hid hs
          have a3 := hB9.cell (i := 3) (v := .int .i64 3) rfl
          clear hs hB9 hok9 HJ4
          go_wp2_with fail
          go_region
          all_goals
            go_wp2_with fail
            refine bodyPost_ret (v := .tuple #[.agg #[.slice none 0 0], .int .i64 3]) (by simp [results, Tryz.results44, go_sem, aR]) rfl ⟨(HBE.out.drew).setCell (by show w.heap.size ≤ w.heap.size + 2; omega) _, .slice none 0 0, ?_, by rw [HQ.out, HS.out]; rfl⟩
            rw [HQ.out, HS.out]
            exact World.ownsRow_nil _ _ _ _
end Go.Proofs.YtfapnipmgmpgaaaGreatDoor

namespace Go.Proofs.YtfapnipmgmpgaaaGreatDoor
open Go.RowKit

def lsOf (xs : List GRule) : List Int := (lens xs).getD []
def applyS (xs : List GRule) (e : GEdit) : Option (List GRule) := editS xs (lsOf xs) (lastI (lsOf xs)) e
def applyOut (xs : List GRule) (e : GEdit) : List GRule := if gramOk xs && editOk e then if editFits e (gramLen xs) then editG (applyS xs e) else [] else []
def applyCode (xs : List GRule) (e : GEdit) : Int := if gramOk xs && editOk e then if editFits e (gramLen xs) then editC (applyS xs e) else 2 else 1
theorem kind_ok {e : GEdit} (h : editOk e = true) : kindOk e ∧ gramOk e.part = true ∧ inR e.kind 1 7 = true ∧ (2 ≤ e.kind → e.i ≤ e.j) := by
  obtain ⟨k, i, j, kk, part, map⟩ := e
  simp only [editOk, Bool.and_eq_true, inR, decide_eq_true_eq, Bool.not_eq_true', Bool.and_eq_false_iff, decide_eq_false_iff_not] at h
  obtain ⟨⟨⟨⟨⟨⟨⟨⟨h1, h1'⟩, h2⟩, h3⟩, h4⟩, h5⟩, h6⟩, h7⟩, h8⟩ := h
  refine ⟨?_, h7, by simp [inR]; omega, fun hk => ?_⟩
  · unfold kindOk chgOK
    rcases (by omega : k = 1 ∨ k = 2 ∨ k = 3 ∨ k = 4 ∨ k = 5 ∨ k = 6 ∨ k = 7) with rfl | rfl | rfl | rfl | rfl | rfl | rfl
    · exact .inl rfl
    · exact .inr (.inl rfl)
    · exact .inr (.inr (.inl rfl))
    · exact .inr (.inr (.inr (.inl rfl)))
    · exact .inr (.inr (.inr (.inr (.inl rfl))))
    · refine .inr (.inr (.inr (.inr (.inr (.inl ⟨rfl, ?_⟩)))))
      simpa [numOk, usesK, inR] using h4
    · refine .inr (.inr (.inr (.inr (.inr (.inr ⟨rfl, ?_⟩)))))
      have : map.size = 4 ∧ wordOk map = true := by simpa using h8
      exact ⟨this.2, this.1⟩
  · rcases h5 with h5 | h5
    · simp [usesJ] at h5; simp only at hk; omega
    · simp only; omega
set_option maxRecDepth 100000 in
set_option maxHeartbeats 4000000 in
theorem implApply_any (vG v : Value) (xs : List GRule) (e : GEdit) (w : World) (hG : Sl RuleE w w.heap.size vG xs) (hE : EditV w w.heap.size v e) (hn : xs.length ≤ 1048576) (hn2 : e.part.length ≤ 1048576) (hm : e.map.size ≤ maxLen) (htab : Lib.TabIs Tryz.prog w "math/bits.deBruijn64tab" .u8 deB64) :
    Calls Tryz.prog 14 #[.agg #[vG], v] w (GRes (applyOut xs e) (applyCode xs e) w) := by
  obtain ⟨vR, rfl, hR⟩ := hE
  have HG := Lib.hid hG
  have HR := Lib.hid hR
  have HT := Lib.hid htab
  obtain ⟨AG, cG, rfl, _⟩ := hG
  obtain ⟨AR, cR, rfl, _⟩ := hR
  clear htab
  go_enter Tryz.func14, Tryz.ntmps14
  go_wp2_with fail
  refine (LengthOf_any _ xs _ (HG.out.up (by repeat (first | exact Below.refl _ _ | (refine Below.alloc ?_ (by first | omega | (simp; done) | (simp; omega)) _) | (refine Below.setCell ?_ (by first | exact Nat.le_refl _ | (show _ ≤ _; omega) | (simp; done) | (simp; omega)) _) | refine below_drewN ?_ _ | refine Below.drew ?_))) (by omega)).mono ?_
  rintro e w1 ⟨rfl, hb_1⟩
  have KQ_2 : Blk w1 (w.heap.size + 1 + 1) #[.slice none 0 0] 31 := by have := (Below.unalloc hb_1).2; simpa [Blk] using this
  replace hb_1 := (Below.unalloc hb_1).1
  have KE_3 : Blk w1 (w.heap.size + 1) #[.int .i64 e.kind, .int .i64 e.i, .int .i64 e.j, .int .i64 e.k, .slice AR e.part.length cR, .string e.map] 36 := by have := (Below.unalloc hb_1).2; simpa [Blk] using this
  replace hb_1 := (Below.unalloc hb_1).1
  have KP_4 : Blk w1 (w.heap.size) #[.slice AG xs.length cG] 31 := by have := (Below.unalloc hb_1).2; simpa [Blk] using this
  replace hb_1 := (Below.unalloc hb_1).1
  have z_w1 : w.heap.size ≤ w1.heap.size := hb_1.size
  have KG_5 := Lib.hid (HG.out.up hb_1)
  have KR_6 := Lib.hid (HR.out.up hb_1)
  have KB_7 := Lib.hid hb_1
  clear HG HR
  have lz1 := Blk.lt KQ_2
  cases hg : gramOk xs with
  | false =>
    have q1 : lenC xs = 1 := by simp [lenC, hg]
    have q2 : applyOut xs e = [] ∧ applyCode xs e = 1 := by simp [applyOut, applyCode, hg]
    have HQ2 := Lib.hid q2
    clear q2 hg
    rw [q1]
    clear q1
    have cP0_8 := Blk.cell (i := 0) (v := .slice AG xs.length cG) KP_4 rfl
    have lP_9 := Blk.lt KP_4
    have cQ0_10 := Blk.cell (i := 0) (v := .slice none 0 0) KQ_2 rfl
    have zQ0_11 := Blk.frozen KQ_2 0
    have lQ_12 := Blk.lt KQ_2
    have cE0_13 := Blk.cell (i := 0) (v := .int .i64 e.kind) KE_3 rfl
    have cE1_14 := Blk.cell (i := 1) (v := .int .i64 e.i) KE_3 rfl
    have cE2_15 := Blk.cell (i := 2) (v := .int .i64 e.j) KE_3 rfl
    have cE3_16 := Blk.cell (i := 3) (v := .int .i64 e.k) KE_3 rfl
    have cE4_17 := Blk.cell (i := 4) (v := .slice AR e.part.length cR) KE_3 rfl
    have cE5_18 := Blk.cell (i := 5) (v := .string e.map) KE_3 rfl
    have lE_19 := Blk.lt KE_3
    go_wp2_with fail
    refine bodyPost_ret (v := .tuple #[.agg #[.slice none 0 0], .int .i64 1]) (by simp [results, Tryz.results14, go_sem, cQ0_10]) rfl ⟨Below.setCell KB_7.out (show w.heap.size ≤ w.heap.size + 2 by omega) _, .slice none 0 0, by rw [HQ2.out.1]; exact World.ownsRow_nil _ _ _ _, by rw [HQ2.out.2]⟩
  | true =>
    have q1 : lenC xs = 0 := by simp [lenC, hg]
    have q2 : lenV xs = gramLen xs := by simp [lenV, hg]
    rw [q1, q2]
    clear q1 q2
    have HGG := Lib.hid hg
    clear hg
    have cP0_20 := Blk.cell (i := 0) (v := .slice AG xs.length cG) KP_4 rfl
    have lP_21 := Blk.lt KP_4
    have cQ0_22 := Blk.cell (i := 0) (v := .slice none 0 0) KQ_2 rfl
    have zQ0_23 := Blk.frozen KQ_2 0
    have lQ_24 := Blk.lt KQ_2
    have cE0_25 := Blk.cell (i := 0) (v := .int .i64 e.kind) KE_3 rfl
    have cE1_26 := Blk.cell (i := 1) (v := .int .i64 e.i) KE_3 rfl
    have cE2_27 := Blk.cell (i := 2) (v := .int .i64 e.j) KE_3 rfl
    have cE3_28 := Blk.cell (i := 3) (v := .int .i64 e.k) KE_3 rfl
    have cE4_29 := Blk.cell (i := 4) (v := .slice AR e.part.length cR) KE_3 rfl
    have cE5_30 := Blk.cell (i := 5) (v := .string e.map) KE_3 rfl
    have lE_31 := Blk.lt KE_3
    go_wp2_with fail
    refine (implValidEdit_any _ e _ ⟨_, rfl, KR_6.out.up (by repeat (first | exact Below.refl _ _ | (refine Below.alloc ?_ (by first | omega | (simp; done) | (simp; omega)) _) | (refine Below.setCell ?_ (by first | exact Nat.le_refl _ | (show _ ≤ _; omega) | (simp; done) | (simp; omega)) _) | refine below_drewN ?_ _ | refine Below.drew ?_))⟩ (by omega) hm).mono ?_
    rintro e w2 ⟨rfl, hb_32⟩
    have z_w2 : w1.heap.size ≤ w2.heap.size := hb_32.size
    have KG_33 := Lib.hid (KG_5.out.up hb_32)
    have KR_34 := Lib.hid (KR_6.out.up hb_32)
    have KQ_35 := Blk.up KQ_2 hb_32
    have KE_36 := Blk.up KE_3 hb_32
    have KP_37 := Blk.up KP_4 hb_32
    have KB_38 := Lib.hid (Below.tr KB_7.out hb_32)
    clear hb_1 cP0_20 lP_21 cQ0_22 zQ0_23 lQ_24 cE0_25 cE1_26 cE2_27 cE3_28 cE4_29 cE5_30 lE_31 KG_5 KR_6 KQ_2 KE_3 KP_4 KB_7
    cases he : editOk e with
    | false =>
      have q2 : applyOut xs e = [] ∧ applyCode xs e = 1 := by simp [applyOut, applyCode, he]
      have HQ2 := Lib.hid q2
      clear q2 he
      have cP0_39 := Blk.cell (i := 0) (v := .slice AG xs.length cG) KP_37 rfl
      have lP_40 := Blk.lt KP_37
      have cQ0_41 := Blk.cell (i := 0) (v := .slice none 0 0) KQ_35 rfl
      have zQ0_42 := Blk.frozen KQ_35 0
      have lQ_43 := Blk.lt KQ_35
      have cE0_44 := Blk.cell (i := 0) (v := .int .i64 e.kind) KE_36 rfl
      have cE1_45 := Blk.cell (i := 1) (v := .int .i64 e.i) KE_36 rfl
      have cE2_46 := Blk.cell (i := 2) (v := .int .i64 e.j) KE_36 rfl
      have cE3_47 := Blk.cell (i := 3) (v := .int .i64 e.k) KE_36 rfl
      have cE4_48 := Blk.cell (i := 4) (v := .slice AR e.part.length cR) KE_36 rfl
      have cE5_49 := Blk.cell (i := 5) (v := .string e.map) KE_36 rfl
      have lE_50 := Blk.lt KE_36
      go_wp2_with fail
      refine bodyPost_ret (v := .tuple #[.agg #[.slice none 0 0], .int .i64 1]) (by simp [results, Tryz.results14, go_sem, cQ0_41]) rfl ⟨Below.setCell KB_38.out (show w.heap.size ≤ w.heap.size + 2 by omega) _, .slice none 0 0, by rw [HQ2.out.1]; exact World.ownsRow_nil _ _ _ _, by rw [HQ2.out.2]⟩
    | true =>
      have HE := Lib.hid (kind_ok he)
      have HE0 := Lib.hid he
      clear he
      have cP0_51 := Blk.cell (i := 0) (v := .slice AG xs.length cG) KP_37 rfl
      have lP_52 := Blk.lt KP_37
      have cQ0_53 := Blk.cell (i := 0) (v := .slice none 0 0) KQ_35 rfl
      have zQ0_54 := Blk.frozen KQ_35 0
      have lQ_55 := Blk.lt KQ_35
      have cE0_56 := Blk.cell (i := 0) (v := .int .i64 e.kind) KE_36 rfl
      have cE1_57 := Blk.cell (i := 1) (v := .int .i64 e.i) KE_36 rfl
      have cE2_58 := Blk.cell (i := 2) (v := .int .i64 e.j) KE_36 rfl
      have cE3_59 := Blk.cell (i := 3) (v := .int .i64 e.k) KE_36 rfl
      have cE4_60 := Blk.cell (i := 4) (v := .slice AR e.part.length cR) KE_36 rfl
      have cE5_61 := Blk.cell (i := 5) (v := .string e.map) KE_36 rfl
      have lE_62 := Blk.lt KE_36
      go_wp2_with fail
      refine (fits_any _ e (gramLen xs) _ ⟨_, rfl, KR_34.out.up (by repeat (first | exact Below.refl _ _ | (refine Below.alloc ?_ (by first | omega | (simp; done) | (simp; omega)) _) | (refine Below.setCell ?_ (by first | exact Nat.le_refl _ | (show _ ≤ _; omega) | (simp; done) | (simp; omega)) _) | refine below_drewN ?_ _ | refine Below.drew ?_))⟩ HE.out.2.2.1 HE.out.2.2.2).mono ?_
      rintro e w3 ⟨rfl, hb_63⟩
      have z_w3 : w2.heap.size ≤ w3.heap.size := hb_63.size
      have KG_64 := Lib.hid (KG_33.out.up hb_63)
      have KR_65 := Lib.hid (KR_34.out.up hb_63)
      have KQ_66 := Blk.up KQ_35 hb_63
      have KE_67 := Blk.up KE_36 hb_63
      have KP_68 := Blk.up KP_37 hb_63
      have KB_69 := Lib.hid (Below.tr KB_38.out hb_63)
      clear hb_32 cP0_51 lP_52 cQ0_53 zQ0_54 lQ_55 cE0_56 cE1_57 cE2_58 cE3_59 cE4_60 cE5_61 lE_62 KG_33 KR_34 KQ_35 KE_36 KP_37 KB_38
      cases hf : editFits e (gramLen xs) with
      | false =>
        have q2 : applyOut xs e = [] ∧ applyCode xs e = 2 := by simp [applyOut, applyCode, HGG.out, HE0.out, hf]
        have HQ2 := Lib.hid q2
        clear q2 hf
        have cP0_70 := Blk.cell (i := 0) (v := .slice AG xs.length cG) KP_68 rfl
        have lP_71 := Blk.lt KP_68
        have cQ0_72 := Blk.cell (i := 0) (v := .slice none 0 0) KQ_66 rfl
        have zQ0_73 := Blk.frozen KQ_66 0
        have lQ_74 := Blk.lt KQ_66
        have cE0_75 := Blk.cell (i := 0) (v := .int .i64 e.kind) KE_67 rfl
        have cE1_76 := Blk.cell (i := 1) (v := .int .i64 e.i) KE_67 rfl
        have cE2_77 := Blk.cell (i := 2) (v := .int .i64 e.j) KE_67 rfl
        have cE3_78 := Blk.cell (i := 3) (v := .int .i64 e.k) KE_67 rfl
        have cE4_79 := Blk.cell (i := 4) (v := .slice AR e.part.length cR) KE_67 rfl
        have cE5_80 := Blk.cell (i := 5) (v := .string e.map) KE_67 rfl
        have lE_81 := Blk.lt KE_67
        go_wp2_with fail
        refine bodyPost_ret (v := .tuple #[.agg #[.slice none 0 0], .int .i64 2]) (by simp [results, Tryz.results14, go_sem, cQ0_72]) rfl ⟨Below.setCell KB_69.out (show w.heap.size ≤ w.heap.size + 2 by omega) _, .slice none 0 0, by rw [HQ2.out.1]; exact World.ownsRow_nil _ _ _ _, by rw [HQ2.out.2]⟩
      | true =>
        have hls : lens xs = some (lsOf xs) := by
          obtain ⟨ls, h⟩ := (gram_lens HGG.out).2
          simp [lsOf, h]
        have q2 : applyOut xs e = editG (editS xs (lsOf xs) (lastI (lsOf xs)) e) ∧ applyCode xs e = editC (editS xs (lsOf xs) (lastI (lsOf xs)) e) := by simp [applyOut, applyCode, HGG.out, HE0.out, hf, applyS]
        have HQ2 := Lib.hid q2
        have HLS := Lib.hid hls
        clear q2 hf hls
        have cP0_82 := Blk.cell (i := 0) (v := .slice AG xs.length cG) KP_68 rfl
        have lP_83 := Blk.lt KP_68
        have cQ0_84 := Blk.cell (i := 0) (v := .slice none 0 0) KQ_66 rfl
        have zQ0_85 := Blk.frozen KQ_66 0
        have lQ_86 := Blk.lt KQ_66
        have cE0_87 := Blk.cell (i := 0) (v := .int .i64 e.kind) KE_67 rfl
        have cE1_88 := Blk.cell (i := 1) (v := .int .i64 e.i) KE_67 rfl
        have cE2_89 := Blk.cell (i := 2) (v := .int .i64 e.j) KE_67 rfl
        have cE3_90 := Blk.cell (i := 3) (v := .int .i64 e.k) KE_67 rfl
        have cE4_91 := Blk.cell (i := 4) (v := .slice AR e.part.length cR) KE_67 rfl
        have cE5_92 := Blk.cell (i := 5) (v := .string e.map) KE_67 rfl
        have lE_93 := Blk.lt KE_67
        go_wp2_with fail
        refine (edited_any _ (.slice AR e.part.length cR) xs (lsOf xs) e _ (KG_64.out.up (by repeat (first | exact Below.refl _ _ | (refine Below.alloc ?_ (by first | omega | (simp; done) | (simp; omega)) _) | (refine Below.setCell ?_ (by first | exact Nat.le_refl _ | (show _ ≤ _; omega) | (simp; done) | (simp; omega)) _) | refine below_drewN ?_ _ | refine Below.drew ?_))) (KR_65.out.up (by repeat (first | exact Below.refl _ _ | (refine Below.alloc ?_ (by first | omega | (simp; done) | (simp; omega)) _) | (refine Below.setCell ?_ (by first | exact Nat.le_refl _ | (show _ ≤ _; omega) | (simp; done) | (simp; omega)) _) | refine below_drewN ?_ _ | refine Below.drew ?_))) HLS.out hn HE.out.1 HE.out.2.1 (tabB HT.out KB_69.out)).mono ?_
        rintro e w4 ⟨hb_94, v4, own4, rfl⟩
        have z_w4 : w3.heap.size ≤ w4.heap.size := hb_94.size
        have KG_95 := Lib.hid (KG_64.out.up hb_94)
        have KR_96 := Lib.hid (KR_65.out.up hb_94)
        have KQ_97 := Blk.up KQ_66 hb_94
        have KE_98 := Blk.up KE_67 hb_94
        have KP_99 := Blk.up KP_68 hb_94
        have KB_100 := Lib.hid (Below.tr KB_69.out hb_94)
        clear hb_63 cP0_82 lP_83 cQ0_84 zQ0_85 lQ_86 cE0_87 cE1_88 cE2_89 cE3_90 cE4_91 cE5_92 lE_93 KG_64 KR_65 KQ_66 KE_67 KP_68 KB_69
        obtain ⟨A4, k4, rfl, _⟩ := own_nil own4
        have HO4 := Lib.hid own4
        clear own4
        have cQ0_101 := Blk.cell (i := 0) (v := .slice none 0 0) KQ_97 rfl
        have zQ0_102 := Blk.frozen KQ_97 0
        have lQ_103 := Blk.lt KQ_97
        go_wp2_with fail
        refine bodyPost_ret (v := .tuple #[.agg #[.slice A4 (editG (editS xs (lsOf xs) (lastI (lsOf xs)) e)).length k4], .int .i64 (editC (editS xs (lsOf xs) (lastI (lsOf xs)) e))]) (by simp [results, Tryz.results14, go_sem, cQ0_101]) rfl ⟨Below.setCell KB_100.out (show w.heap.size ≤ w.heap.size + 2 by omega) _, .slice A4 (editG (editS xs (lsOf xs) (lastI (lsOf xs)) e)).length k4, ?_, by rw [HQ2.out.2]⟩
        rw [HQ2.out.1]
        exact ownsRow_more (ownsRow_setCell_below HO4.out (a := ⟨w.heap.size + 2, 0, none⟩) (by show w.heap.size + 2 < _; omega) _) (by omega)
end Go.Proofs.YtfapnipmgmpgaaaGreatDoor

namespace Go.Proofs.YtfapnipmgmpgaaaGreatDoor
open Go.RowKit

def foundK (s : ByteArray) (c : UInt8) (k : Nat) : List Int := ((List.range k).filter (fun j => s.data.getD j 0 == c)).map fun (j : Nat) => (j : Int)
theorem foundK_succ (s : ByteArray) (c : UInt8) (k : Nat) : foundK s c (k + 1) = if s.data.getD k 0 = c then foundK s c k ++ [(k : Int)] else foundK s c k := by
  unfold foundK
  rw [List.range_succ, List.filter_append, List.map_append]
  by_cases h : s.data.getD k 0 = c
  · rw [if_pos h]; simp at h; simp [h]
  · rw [if_neg h]; simp at h; simp [h]
theorem foundK_len (s : ByteArray) (c : UInt8) (k : Nat) : (foundK s c k).length ≤ k := by
  unfold foundK
  rw [List.length_map]
  exact Nat.le_trans (List.length_filter_le _ _) (by simp)
theorem foundK_pos (s : ByteArray) (c : UInt8) : 0 < (foundK s c s.size).length ↔ hasC s c = true := by
  unfold foundK hasC
  rw [List.length_map, List.length_pos_iff_exists_mem, List.contains_iff_mem]
  constructor
  · rintro ⟨j, hj⟩
    obtain ⟨h1, h2⟩ := List.mem_filter.1 hj
    have h3 := List.mem_range.1 h1
    rw [getD_data h3] at h2
    have : s[j] = c := by simpa using h2
    rw [← this]
    exact List.mem_of_getElem? (toList_getElem? s j h3)
  · intro h
    obtain ⟨j, hj⟩ := List.mem_iff_getElem?.1 h
    have hlt : j < s.size := by have := (List.getElem?_eq_some_iff.1 hj).1; simpa using this
    refine ⟨j, List.mem_filter.2 ⟨List.mem_range.2 hlt, ?_⟩⟩
    rw [toList_getElem? s j hlt] at hj
    rw [getD_data hlt]
    simpa using hj
theorem ext_one (s : ByteArray) (i : Nat) (h : i < s.size) : s.extract i (i + 1) = ⟨#[s.data.getD i 0]⟩ := by
  rw [getD_data h]
  apply ByteArray.ext
  apply Array.ext'
  show (s.extract i (i + 1)).data.toList = [s[i]]
  rw [Lib.extract_data, show i + 1 - i = 1 by omega]
  have h1 := toList_getElem? s i h
  have hl : i < s.data.toList.length := (List.getElem?_eq_some_iff.1 h1).1
  rw [List.drop_eq_getElem_cons hl]
  have h2 : s.data.toList[i] = s[i] := by
    have := List.getElem?_eq_getElem hl
    rw [h1] at this
    exact (Option.some.inj this).symm
  rw [h2]; rfl
set_option maxRecDepth 100000 in
set_option maxHeartbeats 1000000 in
theorem l01Found_any (s : ByteArray) (c : UInt8) (w : World) (hs : s.size ≤ 1048576) :
    Calls Tryz.prog 110 #[.string ⟨#[c]⟩, .string s] w fun e w' => ∃ v, e = .returned v ∧ OwnInts w' w.heap.size v (foundK s c s.size) ∧ Below w.heap.size w w' := by
  go_enter Tryz.func110, Tryz.ntmps110
  go_wp2_with fail
  go_loopw [5, 6] (fun out q wr => ∃ (i : Nat), i ≤ s.size ∧ q = .int .i64 (i : Int) ∧ Below w.heap.size w wr ∧ OwnInts wr w.heap.size out (foundK s c i)) (fun _ q _ => s.size - (intOf q).toNat)
  case atStart => exact ⟨0, by omega, rfl, (by repeat (first | exact Below.refl _ _ | (refine Below.alloc ?_ (by first | omega | (simp; done) | (simp; omega)) _) | (refine Below.setCell ?_ (by first | exact Nat.le_refl _ | (show _ ≤ _; omega) | (simp; done) | (simp; omega)) _) | refine below_drewN ?_ _ | refine Below.drew ?_)), OwnInts.empty (by simp) (by simp)⟩
  case round =>
    obtain ⟨i, hi, rfl, hb, hown⟩ := hrel
    have HB := Lib.hid hb
    have HO := Lib.hid hown
    have hsz : w.heap.size ≤ wr.heap.size := hb.size
    have hfl := foundK_len s c i
    clear hb
    by_cases hlt : i < s.size
    · have hE := ext_one s i hlt
      have HF := Lib.hid (foundK_succ s c i)
      by_cases hc : s.data.getD i 0 = c
      · have HC := Lib.hid hc
        rw [hc] at hE
        clear hc
        go_wp2_with (first
          | (at_builtin; go_must (refine push_ints rfl _ _ rfl rfl rfl (by simp) (by repeat (first | exact hown | apply OwnInts.alloc)) (by omega) (by first | omega | (simp; omega)) ?_)
             intro v' w1 hown1 hgrow hbw))
        go_roundw
        case rel => exact ⟨i + 1, by omega, by go_num, HB.out.trans hbw, by rw [HF.out, if_pos HC.out]; exact hown1⟩
        case measure => simp [intOf]; omega
      · have HC := Lib.hid hc
        have hne : ¬ (⟨#[s.data.getD i 0]⟩ : ByteArray) = ⟨#[c]⟩ := fun h => hc (by
          have h2 := congrArg ByteArray.data h
          simpa using h2)
        obtain ⟨d, hd⟩ : ∃ d, s.data.getD i 0 = d := ⟨_, rfl⟩
        rw [hd] at hne hE hc
        have hbq : (d == c) = false := by simpa using hc
        clear hd
        go_wp2_with fail
        go_roundw
        case rel => exact ⟨i + 1, by omega, by go_num, HB.out, by rw [HF.out, if_neg HC.out]; exact HO.out⟩
        case measure => simp [intOf]; omega
    · have hi2 : i = s.size := by omega
      subst hi2
      go_wp2_with fail
      go_ret
      exact ⟨_, rfl, HO.out, HB.out⟩
end Go.Proofs.YtfapnipmgmpgaaaGreatDoor

namespace Go.Proofs.YtfapnipmgmpgaaaGreatDoor
open Go.RowKit

theorem idx_at (s : ByteArray) {k : Nat} (hk : k < 4) (h : hasC s (ltr k) = true) : idxG s (ltr k) = (letsG s k).length := by
  have : k = 0 ∨ k = 1 ∨ k = 2 ∨ k = 3 := by omega
  have e01 : letR (ltr 0) ≠ letR (ltr 1) := by decide
  unfold idxG letsG
  rcases this with rfl | rfl | rfl | rfl <;> simp only [List.range_succ, List.range_zero, List.nil_append, List.cons_append, List.filter_cons, h] <;> (repeat' split) <;> first | rfl | decide | (simp_all; done)
/-- The places of the letters. -/
def TabI (s : ByteArray) (T : List Int) (k : Nat) : Prop := T.length = 4 ∧ ∀ j, j < k → hasC s (ltr j) = true → T.getD j 0 = (idxG s (ltr j) : Nat)
theorem TabI.next {s : ByteArray} {T : List Int} {k : Nat} (h : TabI s T k) (hn : ¬ hasC s (ltr k) = true) : TabI s T (k + 1) :=
  ⟨h.1, fun j hj hc => by
    rcases Nat.lt_succ_iff_lt_or_eq.1 hj with h1 | rfl
    · exact h.2 j h1 hc
    · exact absurd hc hn⟩
theorem TabI.put {s : ByteArray} {T : List Int} {k : Nat} (h : TabI s T k) (hk : k < 4) (hc : hasC s (ltr k) = true) : TabI s (T.set k ((letsG s k).length : Nat)) (k + 1) :=
  ⟨by rw [List.length_set]; exact h.1, fun j hj hcj => by
    rw [getD_set (by rw [h.1]; exact hk)]
    split
    · rename_i e; subst e; rw [idx_at s hk hc]
    · exact h.2 j (by omega) hcj⟩
theorem step_push_ruleW (W : World) {W' : World} {ops : Array Oper} {o : Oper} {a : Act} {K : Act → World → Prop} {Q : Exit → Act → World → Prop} {E : Prop} {t : ByteArray} {p q : Int} (hW : W' = W.alloc (.cells #[.string t, .int .i64 p, .int .i64 q] 123)) (hgd : o.guard = none) (s x : Operand)
    (ho : o.op = .call { callee := .builtin .append, args := #[s, x], argTypes := #[29, 29] }) {base : Nat} {v : Value} {l : List GRule}
    (hs : a.eval s = v) {N : Nat} (hx : a.eval x = .slice (some ⟨N, 0, none⟩) 1 1) (hN : N = W.heap.size) (hown : OwnRules W base v l) (hlen : l.length ≤ 1099511627775) (hbase : base ≤ W.heap.size)
    (h : ∀ v' w', OwnRules w' base v' (l ++ [⟨t, p, q⟩]) → (W.alloc (.cells #[.string t, .int .i64 p, .int .i64 q] 123)).grownBy w' v.ownBlock → Below base (W.alloc (.cells #[.string t, .int .i64 p, .int .i64 q] 123)) w' → K (a.put o.dst v') w') :
    if Region.wanted o (yielded ops a.tmps) = true then Oper.wp Tryz.prog o a W' K Q else E := by
  subst hW
  exact step_push_rule hgd s x ho hs hx hN hown hlen hbase h
theorem let_place {s : ByteArray} {T : List Int} (hw : wordOk s = true) (hT : TabI s T 4) {i : Nat} (h : i < s.size) : ∃ j : Nat, j < 4 ∧ ((s[i].toNat : Int) - 97) % 256 = (j : Int) ∧ IntKind.u8.wrap ((s[i].toNat : Int) - 97) = (j : Int) ∧ T.getD j 0 = ((idxG s (s.data.getD i 0) : Nat) : Int) := by
  obtain ⟨j, hj, e⟩ := let_ltr (letOk_at hw h)
  have hc := hasC_at h
  rw [getD_data h]
  rw [e] at hc ⊢
  have h1 : (((ltr j).toNat : Int) - 97) % 256 = (j : Int) := by
    rw [← ltr_nat hj]
    omega
  exact ⟨j, hj, h1, h1, hT.2 j hj hc⟩
set_option maxRecDepth 100000 in
set_option maxHeartbeats 4000000 in
theorem l02Plain_any (s : ByteArray) (w : World) (hs : wordOk s = true) :
    Calls Tryz.prog 70 #[.string s] w (GOwn (plainG s) w) := by
  have hsz : s.size ≤ 2000 := by unfold wordOk at hs; simp only [Bool.and_eq_true, decide_eq_true_eq] at hs; omega
  have HS := Lib.hid hs
  clear hs
  have hmk : ∀ W : World, (Instr.makeSlice 112 (.int .i64 4) (.int .i64 4)).run Tryz.prog W = .ok (.slice (some ⟨W.heap.size, 0, none⟩) 4 4) (W.alloc (.cells #[.int .i64 0, .int .i64 0, .int .i64 0, .int .i64 0] 2)) :=
    fun W => by
      have h := run_make_row' (P := Tryz.prog) 112 2 (.int .i64 0) 8 Tryz.underlying112 Tryz.infoI rfl .i64 .i64 4 (by omega) (by omega) W
      have e : madeCells #[Value.int .i64 0] 4 = #[.int .i64 0, .int .i64 0, .int .i64 0, .int .i64 0] := by
        have hr : Array.range 4 = #[0, 1, 2, 3] := by decide
        simp [madeCells, hr]
      rw [e] at h
      exact h
  go_enter Tryz.func70, Tryz.ntmps70
  go_wp2_with fail
  go_loopw [5, 6] (fun q u6 wr => ∃ (k : Nat) (vo : Value) (T : List Int), k ≤ 4 ∧ q = .int .i64 (k : Int) ∧ Below w.heap.size w wr ∧ Blk wr w.heap.size #[.slice none 0 0] 31 ∧ Boxed wr (w.heap.size + 1) 31 vo ∧ OwnRules wr (w.heap.size + 3) vo (letsG s k) ∧ Blk wr (w.heap.size + 2) ((T.map (Value.int .i64)).toArray) 2 ∧ TabI s T k) (fun q _ _ => 4 - (intOf q).toNat)
  case atStart =>
    refine ⟨0, .slice none 0 0, [0, 0, 0, 0], by omega, rfl, (by repeat (first | exact Below.refl _ _ | (refine Below.alloc ?_ (by first | omega | (simp; done) | (simp; omega)) _) | (refine Below.setCell ?_ (by first | exact Nat.le_refl _ | (show _ ≤ _; omega) | (simp; done) | (simp; omega)) _) | refine below_drewN ?_ _ | refine Below.drew ?_)), ?_, ?_, World.ownsRow_nil _ _ _ _, ?_, rfl, fun j hj => by omega⟩
    · repeat (first | (apply Blk.new'; simp; done) | apply Blk.alloc | apply Blk.drew)
    · show Blk _ _ #[.slice none 0 0] _
      repeat (first | (apply Blk.new'; simp; done) | apply Blk.alloc | apply Blk.drew)
    · show Blk _ _ #[.int .i64 0, .int .i64 0, .int .i64 0, .int .i64 0] _
      repeat (first | (apply Blk.new'; simp; done) | apply Blk.alloc | apply Blk.drew)
  case round =>
    obtain ⟨k, vo, T, hk, rfl, hb, h0, hbox, hown, hT, htab⟩ := hrel
    have HB := Lib.hid hb
    have H0 := Lib.hid h0
    have Hbox := Lib.hid hbox
    have Hown := Lib.hid hown
    have HT := Lib.hid hT
    have HTab := Lib.hid htab
    obtain ⟨Ao, co, rfl, _⟩ := own_nil hown
    clear hb h0 hbox hown hT htab
    by_cases hlt : k < 4
    · have hcv : (convert 139 9 (.slice (some ⟨wr.heap.size, 0, none⟩) 1 1)).run Tryz.prog (wr.alloc (.cells #[.int .u8 (97 + (k : Int))] 5)) = .ok (.string (letR (ltr k)).letter) (wr.alloc (.cells #[.int .u8 (97 + (k : Int))] 5)) := by
        have := convC wr _ rfl (ltr k)
        rw [← ltr_nat hlt, show ((97 + k : Nat) : Int) = 97 + (k : Int) by omega] at this
        exact this
      have HSu := Lib.hid (letsG_succ s k)
      have hTl := HTab.out.1
      have cT := HT.out.cell (i := k) (ints_cell (by omega))
      have fT := HT.out.frozen k
      have lT := HT.out.lt
      have cb := Hbox.out.cell
      have fb := Hbox.out.frozen
      have lb := Hbox.out.lt
      have hll := letsG_len s k
      go_wp2_with fail
      refine (l01Found_any s (ltr k) _ (by omega)).mono ?_
      rintro e w2 ⟨v2, rfl, own2, hb2⟩
      obtain ⟨A2, c2, rfl, _⟩ := OwnInts.sl own2
      obtain ⟨hb3, _⟩ := Below.unalloc hb2
      have z2 : wr.heap.size ≤ w2.heap.size := hb3.size
      have HB2 := Lib.hid (HB.out.trans (hb3.mono HB.out.size))
      have H02 := Lib.hid (H0.out.up hb3)
      have Hbox2 := Lib.hid (Boxed.up Hbox.out hb3 Hbox.out.lt)
      have Hown2 := Lib.hid (OwnRules.below Hown.out hb3)
      have HT2 := Lib.hid (HT.out.up hb3)
      have cT2 := HT2.out.cell (i := k) (ints_cell (by omega))
      have fT2 := HT2.out.frozen k
      have lT2 := HT2.out.lt
      have cb2 := Hbox2.out.cell
      have fb2 := Hbox2.out.frozen
      have lb2 := Hbox2.out.lt
      have hpos := foundK_pos s (ltr k)
      generalize (foundK s (ltr k) s.size).length = M at *
      clear hb2 own2 cT fT lT cb fb lb HB H0 Hbox Hown HT hb3
      by_cases hc : hasC s (ltr k) = true
      · have hM : 0 < M := hpos.2 hc
        have HC := Lib.hid hc
        clear hpos hc
        have KX : ∀ v, Boxed (w2.setCell ⟨w.heap.size + 2, k, none⟩ v) (w.heap.size + 1) 31 (.slice Ao (letsG s k).length co) := fun v => Blk.other Hbox2.out (by show w.heap.size + 1 ≠ w.heap.size + 2; omega) v
        have HKX := Lib.hid KX
        have HOX := Lib.hid (fun v => ownsRow_setCell_below Hown2.out (a := ⟨w.heap.size + 2, k, none⟩) (by show w.heap.size + 2 < w.heap.size + 3; omega) v)
        clear KX
        go_wp2_with (first
          | (at_builtin; refine list_push_rule (base := w.heap.size + 3) (t := ⟨#[ltr k]⟩) (p := 0) (q := 0) rfl _ _ rfl rfl rfl (by simp) (HOX.out _) (by omega) (by simp; omega) ?_; intro v3 w3 own3 hg3 hb3; have bx3 : Boxed w3 (w.heap.size + 1) 31 _ := Boxed.grown (HKX.out _) (by decide) (HOX.out _) hg3; obtain ⟨A3, c3, rfl, _⟩ := own_nil own3; have hcb3 := bx3.cell; have hfb3 := bx3.frozen; have hlb3 := bx3.lt))
        have hbz : Below (w.heap.size + 3) (w2.setCell ⟨w.heap.size + 2, k, none⟩ (.int .i64 ((letsG s k).length : Nat))) w3 := ((Below.refl _ _).alloc (by simp; omega) _).trans hb3
        have hby : Below w.heap.size w w3 := (HB2.out.setCell (by show w.heap.size ≤ w.heap.size + 2; omega) _).trans (hbz.mono (by omega))
        go_roundw
        case rel =>
          refine ⟨k + 1, _, T.set k ((letsG s k).length : Nat), by omega, by go_num, hby.setCell (by show w.heap.size ≤ w.heap.size + 1; omega) _, ((H02.out.other (by show w.heap.size ≠ w.heap.size + 2; omega) _).upB hbz (by omega)).other (by show w.heap.size ≠ w.heap.size + 1; omega) _, Boxed.set _ bx3, ?_, ?_, HTab.out.put hlt HC.out⟩
          · rw [HSu.out, if_pos HC.out]
            exact own_put bx3 own3 rfl (by simp)
          · rw [← ints_set]
            exact ((HT2.out.set k _).upB hbz (by omega)).other (by show w.heap.size + 2 ≠ w.heap.size + 1; omega) _
        case measure => simp [intOf]; omega
      · have hM : M = 0 := by
          rcases Nat.eq_zero_or_pos M with h | h
          · exact h
          · exact absurd (hpos.1 h) hc
        subst hM
        have HC := Lib.hid hc
        clear hpos hc
        go_wp2_with fail
        go_roundw
        case rel => exact ⟨k + 1, _, T, by omega, by go_num, HB2.out, H02.out, Hbox2.out, by rw [HSu.out, if_neg HC.out]; exact Hown2.out, HT2.out, HTab.out.next HC.out⟩
        case measure => simp [intOf]; omega
    · have hk4 : k = 4 := by omega
      subst hk4
      rw [show ((4 : Nat) : Int) = 4 from rfl]
      have hlen4 := letsG_len s 4
      obtain ⟨wo, rfl⟩ : ∃ wo : World, wo = wr := ⟨_, rfl⟩
      have hTl := HTab.out.1
      go_wp2_with fail
      go_loopw [7, 8] (fun q u8 wx => ∃ (i : Nat) (vo : Value), 1 ≤ i ∧ (i ≤ s.size ∨ i = 1) ∧ q = .int .i64 (i : Int) ∧ Below w.heap.size w wx ∧ Blk wx w.heap.size #[.slice none 0 0] 31 ∧ Boxed wx (w.heap.size + 1) 31 vo ∧
        OwnRules wx (w.heap.size + 3) vo (plainK s (i - 1)) ∧ Blk wx (w.heap.size + 2) ((T.map (Value.int .i64)).toArray) 2) (fun q _ _ => s.size + 1 - (intOf q).toNat)
      case atStart =>
        refine ⟨1, _, Nat.le_refl _, .inr rfl, rfl, HB.out, H0.out, Hbox.out, ?_, HT.out⟩
        rw [show 1 - 1 = 0 from rfl, plainK_zero]
        exact Hown.out
      case round =>
        obtain ⟨i, vo, hi1, hi2, rfl, hb, h0, hbox, hown, hT⟩ := hrel
        have HB2 := Lib.hid hb
        have HK0 := Lib.hid h0
        have HX := Lib.hid hbox
        have HO := Lib.hid hown
        have HT2 := Lib.hid hT
        have cb' := hbox.cell
        have fb' := hbox.frozen
        have lb' := hbox.lt
        have lT' := hT.lt
        have hlp := Lib.hid (plainK_len s (i - 1))
        obtain ⟨A2, c2, rfl, _⟩ := own_nil hown
        clear hb h0 hbox hown hT HB H0 Hbox Hown HT
        by_cases hlt2 : i < s.size
        · have HP := Lib.hid (plainK_succ s (i - 1))
          have HLn := Lib.hid (show (plainK s (i - 1)).length ≤ 1099511627775 by rw [hlp.out]; omega)
          have hpos : 0 < s.size := by omega
          have hpl1 : 1 ≤ (plainK s (i - 1)).length := by have := idxG_lt HS.out hpos; rw [hlp.out]; omega
          have hpl2 : (plainK s (i - 1)).length ≤ 4000 := by rw [hlp.out]; omega
          obtain ⟨j1, hj1, hn1, hw1, ht1⟩ := let_place HS.out HTab.out hlt2
          have hj1' : (j1 : Int) < 4 := by omega
          have cT1 := HT2.out.cell (i := j1) (ints_cell (by omega))
          obtain ⟨I, hI⟩ : ∃ I : Nat, I = idxG s (s.data.getD i 0) := ⟨_, rfl⟩
          rw [ht1, ← hI] at cT1
          obtain ⟨B, hB⟩ : ∃ B : Nat, (if i - 1 = 0 then (idxG s (s.data.getD 0 0) : Nat) else (letsG s 4).length + (i - 1) - 1) = B := ⟨_, rfl⟩
          have hBp : pairAt s (i - 1) = pairR (B : Int) (I : Int) := by
            unfold pairAt
            rw [show i - 1 + 1 = i by omega, ← hB, ← hI]
            split <;> rfl
          have HBp := Lib.hid hBp
          have HBq := Lib.hid hB
          clear hBp hB hI ht1
          go_upto_if 49 with fail
          go_cut [8] (fun u8 wx => u8 = .int .i64 (B : Int) ∧ wx = wr)
          case first =>
            by_cases h1i : i = 1
            · subst h1i
              obtain ⟨j0, hj0, hn0, hw0, ht0⟩ := let_place HS.out HTab.out hpos
              have cT0 := HT2.out.cell (i := j0) (ints_cell (by omega))
              rw [ht0] at cT0
              go_wp2_with fail
              go_meet
              exact ⟨by rw [← HBq.out, if_pos trivial, getD_data hpos]; rfl, rfl⟩
            · have hb1 : ((i : Int) == 1) = false := by rw [beq_eq_false_iff_ne]; omega
              go_wp2
              go_meet
              refine ⟨?_, rfl⟩
              rw [← HBq.out, if_neg (by omega), hlp.out]
              congr 1; omega
          case rest => 
            obtain ⟨rfl, rfl⟩ := hcut
            go_wp2_with fail
            go_region_law (refine step_push_ruleW wc.drew (base := w.heap.size + 3) (by rfl) (by rfl) _ _ (by rfl) (by rfl) (by first | rfl | simp) rfl HO.out.drew HLn.out (by show w.heap.size + 3 ≤ wc.heap.size; omega) ?_; intro v3 w3 own3 hg3 hb3; have bx3 : Boxed w3 (w.heap.size + 1) 31 _ := Boxed.grown (show Boxed wc.drew (w.heap.size + 1) 31 _ from HX.out) (by decide) HO.out.drew hg3; obtain ⟨A3, c3, rfl, _⟩ := own_nil own3; have hcb3 := bx3.cell; have hfb3 := bx3.frozen; have hlb3 := bx3.lt)
            all_goals
              have hbz : Below (w.heap.size + 3) wc w3 := (Below.drew (Below.refl _ _)).trans (((Below.refl _ _).alloc (by show w.heap.size + 3 ≤ wc.heap.size; omega) _).trans hb3)
              have HBZ := Lib.hid hbz
              have HO3 := Lib.hid own3
              have HX3 := Lib.hid bx3
              clear hbz own3 bx3 hb3 hg3
              go_wp2
              go_roundw
              case rel =>
                refine ⟨i + 1, _, by omega, .inl (by omega), by go_num, (HB2.out.trans (HBZ.out.mono (by omega))).setCell (by show w.heap.size ≤ w.heap.size + 1; omega) _, (HK0.out.upB HBZ.out (by omega)).other (by show w.heap.size ≠ w.heap.size + 1; omega) _, Boxed.set _ HX3.out, ?_, (HT2.out.upB HBZ.out (by omega)).other (by show w.heap.size + 2 ≠ w.heap.size + 1; omega) _⟩
                rw [show i + 1 - 1 = (i - 1) + 1 by omega, HP.out, HBp.out]
                exact own_put HX3.out HO3.out rfl (by simp)
              case measure => simp [intOf]; omega
        · have HE := Lib.hid (show plainK s (i - 1) = plainG s by rw [plainG]; congr 1; omega)
          have r1 := HK0.out.cell (i := 0) (v := .slice none 0 0) rfl
          have r2 := HK0.out.frozen 0
          have r3 := HK0.out.lt
          go_wp2
          rw [HE.out] at HO HX
          refine bodyPost_ret (v := .agg #[.slice A2 (plainG s).length c2]) (by simp [results, Tryz.results70, go_sem, r1, HE.out]) rfl ⟨HB2.out.setCell (by show w.heap.size ≤ w.heap.size; omega) _, _, ?_, rfl⟩
          exact ownsRow_more (ownsRow_setCell_below HO.out (a := ⟨w.heap.size, 0, none⟩) (by show w.heap.size < w.heap.size + 3; omega) _) (by omega)
end Go.Proofs.YtfapnipmgmpgaaaGreatDoor

