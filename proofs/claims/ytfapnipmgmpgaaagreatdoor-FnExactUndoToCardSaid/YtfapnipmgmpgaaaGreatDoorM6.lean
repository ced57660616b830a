import Derived.Test.YtfapnipmgmpgaaaGreatDoorM5
import Derived.Test.YtfapnipmgmpgaaaGreatDoorM3
import Derived.Test.YtfapnipmgmpgaaaGreatDoorM2
import Derived.Deep.RegionWith
import Derived.Deep.RegionLaw
import Derived.Shelf.Small.Strs
import Derived.Shelf.Utf8.RuneCount
import Derived.Shelf.LaysM
import Derived.Shelf.Strings.Search1
import Derived.Shelf.Strings.Search2
import Derived.Shelf.Strings.Search3
import Derived.Shelf.Strings.Count
import Derived.Shelf.Strings.Shaped
import Derived.Shelf.Strings.Split
import Derived.Shelf.Strings.SplitShaped
import Derived.Shelf.Strings.RuneCount
import Derived.Shelf.Strings.Explode
import Derived.Test.YtfapnipmgmpgaaaGreatDoorProg
import Derived.Test.YtfapnipmgmpgaaaGreatDoorM1
import Derived.Lib.UnsafeStr
import Derived.Laws.IdiomStrings
namespace Go.Proofs.YtfapnipmgmpgaaaGreatDoor
open Go.RowKit

/-- What PartGrammar answers. -/
def partX (xs : List GRule) (i j : Int) : List GRule := match lens xs with
  | some ls => partG xs ls i j
  | none => []
def partIn (xs : List GRule) (i j : Int) : Bool := match lens xs with
  | some ls => decide (0 ≤ i) && decide (i ≤ j) && decide (j ≤ lastI ls)
  | none => false
def partOut (xs : List GRule) (i j : Int) : List GRule := if gramOk xs && partIn xs i j then limOut (partX xs i j) else []
def partCode (xs : List GRule) (i j : Int) : Int := if gramOk xs then if partIn xs i j then limCode (partX xs i j) else 2 else 1
theorem partOut_yes {xs : List GRule} {ls : List Int} {i j : Int} (h : gramOk xs = true) (hl : lens xs = some ls) (hi : 0 ≤ i ∧ i ≤ j ∧ j ≤ lastI ls) : partOut xs i j = limOut (partG xs ls i j) ∧ partCode xs i j = limCode (partG xs ls i j) := by
  have e1 : partIn xs i j = true := by simp [partIn, hl, hi]
  have e2 : partX xs i j = partG xs ls i j := by simp [partX, hl]
  simp [partOut, partCode, h, e1, e2]
theorem partOut_no {xs : List GRule} {ls : List Int} {i j : Int} (h : gramOk xs = true) (hl : lens xs = some ls) (hi : ¬ (0 ≤ i ∧ i ≤ j ∧ j ≤ lastI ls)) : partOut xs i j = [] ∧ partCode xs i j = 2 := by
  have e1 : partIn xs i j = false := by
    simp only [partIn, hl]
    rw [Bool.eq_false_iff]
    intro e; simp at e; exact hi ⟨e.1.1, e.1.2, e.2⟩
  simp [partOut, partCode, h, e1]
theorem partOut_bad {xs : List GRule} {i j : Int} (h : gramOk xs = false) : partOut xs i j = [] ∧ partCode xs i j = 1 := by simp [partOut, partCode, h]
theorem inR_iff (n a b : Int) : inR n a b = (decide (a ≤ n) && decide (n ≤ b)) := rfl

set_option maxRecDepth 100000 in
set_option maxHeartbeats 1000000 in
theorem implPart_any (v : Value) (xs : List GRule) (i j : Int) (w : World) (h : Sl RuleE w w.heap.size v xs) (hn : xs.length ≤ 1048576) :
    Calls Tryz.prog 55 #[.agg #[v], .int .i64 i, .int .i64 j] w (GRes (partOut xs i j) (partCode xs i j) w) := by
  have h1 := fun o o' => (h.below (((Below.refl w.heap.size w).alloc (Nat.le_refl _) o).alloc (by simp) o')).le (B' := ((w.alloc o).alloc o').heap.size) (by simp; omega)
  have H1 := Lib.hid h1
  clear h1
  obtain ⟨A, c, rfl, hc, hm, hrow⟩ := h
  clear hm hrow
  go_enter Tryz.func55, Tryz.ntmps55
  go_wp2_with fail
  refine (lengths_any _ xs _ (H1.out _ _) (by omega)).mono ?_
  rintro e w1 ⟨hb1, hpost⟩
  obtain ⟨hc1, hf1⟩ := bcell hb1
  have hz1 : w.heap.size + 1 < w1.heap.size := by have := hb1.size; simp at this; omega
  have a1 : w1.cell? ⟨w.heap.size, 0, none⟩ = some (.slice A xs.length c) := by rw [hc1 _ _ (by first | omega | (simp; done) | (simp; omega))]; simp [go_sem]
  have c1 : w1.cell? ⟨w.heap.size + 1, 0, none⟩ = some (.slice none 0 0) := by rw [hc1 _ _ (by first | omega | (simp; done) | (simp; omega))]; simp [go_sem]
  have f1 : w1.frozen? ⟨w.heap.size + 1, 0, none⟩ = false := by rw [hf1 _ _ (by first | omega | (simp; done) | (simp; omega))]; simp [go_sem]
  have S1 := Lib.hid ((H1.out (Obj.cells #[Value.slice A xs.length c] 31) (Obj.cells #[Value.slice none 0 0] 31)).up hb1)
  have B1 := Lib.hid (((Below.refl w.heap.size w).alloc (Nat.le_refl _) (Obj.cells #[Value.slice A xs.length c] 31)).alloc (by simp) (Obj.cells #[Value.slice none 0 0] 31) |>.trans (hb1.mono (by simp; omega)))
  clear hc1 hf1 hb1
  have hcase : (gramOk xs = false ∧ ∃ vv, e = .returned (.tuple #[vv, .bool false])) ∨ (gramOk xs = true ∧ ∃ ls vv, lens xs = some ls ∧ e = .returned (.tuple #[vv, .bool true]) ∧ Sl IntE w1 w1.heap.size vv ls) := by
    rcases hpost with ⟨ls, vv, hl, he, ho⟩ | ⟨hl, he⟩
    · by_cases h4 : xs.length ≤ 400
      · exact .inr ⟨by simp [gramOk, h4, hl], ls, vv, hl, by rw [he]; simp [h4], ho.sl⟩
      · exact .inl ⟨by simp [gramOk, h4], vv, by rw [he]; simp [h4]⟩
    · exact .inl ⟨by simp [gramOk, hl], _, he⟩
  clear hpost
  rcases hcase with ⟨hok, vv, rfl⟩ | ⟨hok, ls, vv, hl, rfl, hL⟩
  · obtain ⟨e1, e2⟩ := partOut_bad (i := i) (j := j) hok
    have E1 := Lib.hid e1
    have E2 := Lib.hid e2
    clear e1 e2 hok
    go_wp2
    refine bodyPost_ret (v := .tuple #[.agg #[.slice none 0 0], .int .i64 1]) (by simp [results, Tryz.results55, go_sem, c1]) rfl ⟨?_, _, ?_, by rw [E2.out]⟩
    · exact B1.out.setCell (by show w.heap.size ≤ w.heap.size + 1; omega) _
    · rw [E1.out]; exact World.ownsRow_nil _ _ _ _
  · have Hok := Lib.hid hok
    have Hl := Lib.hid hl
    have HL := Lib.hid hL
    obtain ⟨AL, cL, rfl, _⟩ := hL
    clear hok hl
    by_cases hin : 0 ≤ i ∧ i ≤ j ∧ j ≤ lastI ls
    · obtain ⟨E1, E2⟩ := partOut_yes Hok.out Hl.out hin
      obtain ⟨i1, i2, i3⟩ := hin
      have E1 := Lib.hid E1
      have E2 := Lib.hid E2
      have hw1 : inR i 0 j = true := by simp [inR_iff, i1, i2]
      have hgt : ¬ (j > lastI ls) := by omega
      clear i1 i2 i3
      go_wp2_with fail
      refine (within_yes _ _ _ _ hw1).mono ?_
      rintro e w' ⟨rfl, rfl⟩
      go_wp2_with fail
      refine (last_any _ ls _ HL.out).mono ?_
      rintro e w' ⟨rfl, rfl⟩
      go_wp2_with fail
      refine (part_any _ _ xs ls i j _ S1.out HL.out Hl.out hn).mono ?_
      rintro e w3 ⟨hb3, v3, own3, rfl⟩
      have z3 : w1.heap.size ≤ w3.heap.size := hb3.size
      have hz3 : w.heap.size + 1 < w3.heap.size := by omega
      have c3 := cell_up c1 hb3 (by omega)
      have f3 : w3.frozen? ⟨w.heap.size + 1, 0, none⟩ = false := by rw [hb3.frozen hz1, f1]
      have B3 := Lib.hid (B1.out.trans (hb3.mono (by omega)))
      have O3 := Lib.hid own3
      have hpl := partG_len Hl.out i j
      clear a1 c1 f1 hb3 own3
      go_wp2_with fail
      refine (orLimit_any _ _ _ _ O3.out (by omega)).mono ?_
      rintro e w4 ⟨hb4, v4, own4, rfl⟩
      obtain ⟨A4, k4, rfl, _⟩ := own_nil own4
      have c4 := cell_up c3 hb4 (by omega)
      have f4 : w4.frozen? ⟨w.heap.size + 1, 0, none⟩ = false := by rw [hb4.frozen hz3, f3]
      have B4 := Lib.hid (B3.out.trans (hb4.mono (by omega)))
      have O4 := Lib.hid own4
      clear c3 f3 hb4 own4
      go_wp2
      refine bodyPost_ret (v := .tuple #[.agg #[.slice A4 (limOut (partG xs ls i j)).length k4], .int .i64 (limCode (partG xs ls i j))]) (by simp [results, Tryz.results55, go_sem, c4]) rfl ⟨?_, _, ?_, by rw [E2.out]⟩
      · exact B4.out.setCell (by show w.heap.size ≤ w.heap.size + 1; omega) _
      · rw [E1.out]
        exact ownsRow_more (ownsRow_setCell_below O4.out (a := ⟨w.heap.size + 1, 0, none⟩) (by show w.heap.size + 1 < w1.heap.size; omega) _) (by omega)
    · obtain ⟨e1, e2⟩ := partOut_no Hok.out Hl.out hin
      have E1 := Lib.hid e1
      have E2 := Lib.hid e2
      have hcs : inR i 0 j = false ∨ (inR i 0 j = true ∧ j > lastI ls) := by
        by_cases h : 0 ≤ i ∧ i ≤ j
        · refine .inr ⟨by simp [inR_iff, h], ?_⟩
          omega
        · refine .inl ?_
          rw [Bool.eq_false_iff]
          intro e; simp [inR_iff] at e; exact h e
      clear e1 e2 hin
      rcases hcs with hw1 | ⟨hw1, hgt⟩
      · go_wp2_with fail
        refine (within_no _ _ _ _ hw1).mono ?_
        rintro e w' ⟨rfl, rfl⟩
        go_wp2_with fail
        refine bodyPost_ret (v := .tuple #[.agg #[.slice none 0 0], .int .i64 2]) (by simp [results, Tryz.results55, go_sem, c1]) rfl ⟨?_, _, ?_, by rw [E2.out]⟩
        · exact B1.out.setCell (by show w.heap.size ≤ w.heap.size + 1; omega) _
        · rw [E1.out]; exact World.ownsRow_nil _ _ _ _
      · go_wp2_with fail
        refine (within_yes _ _ _ _ hw1).mono ?_
        rintro e w' ⟨rfl, rfl⟩
        go_wp2_with fail
        refine (last_any _ ls _ HL.out).mono ?_
        rintro e w' ⟨rfl, rfl⟩
        go_wp2_with fail
        refine bodyPost_ret (v := .tuple #[.agg #[.slice none 0 0], .int .i64 2]) (by simp [results, Tryz.results55, go_sem, c1]) rfl ⟨?_, _, ?_, by rw [E2.out]⟩
        · exact B1.out.setCell (by show w.heap.size ≤ w.heap.size + 1; omega) _
        · rw [E1.out]; exact World.ownsRow_nil _ _ _ _

def partAsk (xs : List GRule) (i j : Int) : Int := if gramOk xs then if partIn xs i j then 0 else 2 else 1
set_option maxRecDepth 100000 in
set_option maxHeartbeats 1000000 in
theorem l02Part_any (b o : Nat) (v : Value) (xs : List GRule) (i j : Int) (w : World) (hp : w.cell? ⟨b, o, none⟩ = some v) (hbl : b < w.heap.size) (h : Sl RuleE w w.heap.size v xs) (hsm : SmallL xs) (hn : xs.length ≤ 1048576) :
    Calls Tryz.prog 132 #[.pointer (some ⟨b, o, none⟩), .int .i64 i, .int .i64 j] w fun e w' => e = .returned (.int .i64 (partAsk xs i j)) ∧ Below w.heap.size w w' := by
  have HR := Lib.hid h
  clear h
  go_enter Tryz.func132, Tryz.ntmps132
  go_wp2_with fail
  refine (l02Ok_any _ _ _ xs _ hp hbl HR.out hsm).mono ?_
  rintro e w1 ⟨rfl, hb1⟩
  have p1 := (hb1.cell (p := ⟨b, o, none⟩) hbl).trans hp
  have z1 : b < w1.heap.size := Nat.lt_of_lt_of_le hbl hb1.size
  have B1 := Lib.hid hb1
  have R1 := Lib.hid (HR.out.up hb1)
  clear hb1 hp
  by_cases hok : gramOk xs = true
  · have Hok := Lib.hid hok
    obtain ⟨h4, ls, hl⟩ := gram_lens hok
    have Hl := Lib.hid hl
    have ho2 : (!gramOk xs) = false := by simp [hok]
    clear hok hl
    by_cases hin : 0 ≤ i ∧ i ≤ j ∧ j ≤ lastI ls
    · have e1 : partIn xs i j = true := by simp [partIn, Hl.out, hin]
      have e2 : partAsk xs i j = 0 := by simp [partAsk, Hok.out, e1]
      have E2 := Lib.hid e2
      obtain ⟨i1, i2, i3⟩ := hin
      have n1 : ¬ i < 0 := by omega
      have n2 : ¬ i > j := by omega
      have n3 : ¬ j > lastI ls := by omega
      clear e1 e2 i1 i2 i3
      go_wp2_with fail
      refine (l02Length_any _ _ _ xs ls _ Hl.out p1 z1 R1.out hsm (by omega)).mono ?_
      rintro e w2 ⟨rfl, hb2⟩
      go_wp2_with fail
      go_ret
      exact ⟨by rw [E2.out]; rfl, B1.out.trans (hb2.mono B1.out.size)⟩
    · have e1 : partIn xs i j = false := by
        simp only [partIn, Hl.out]
        rw [Bool.eq_false_iff]
        intro e; simp at e; exact hin ⟨e.1.1, e.1.2, e.2⟩
      have e2 : partAsk xs i j = 2 := by simp [partAsk, Hok.out, e1]
      have E2 := Lib.hid e2
      have hcs : i < 0 ∨ (¬ i < 0 ∧ i > j) ∨ (¬ i < 0 ∧ ¬ i > j ∧ j > lastI ls) := by omega
      clear e1 e2 hin
      rcases hcs with d | ⟨d1, d2⟩ | ⟨d1, d2, d3⟩
      · go_wp2_with fail
        go_ret
        exact ⟨by rw [E2.out]; rfl, B1.out⟩
      · go_wp2_with fail
        go_ret
        exact ⟨by rw [E2.out]; rfl, B1.out⟩
      · go_wp2_with fail
        refine (l02Length_any _ _ _ xs ls _ Hl.out p1 z1 R1.out hsm (by omega)).mono ?_
        rintro e w2 ⟨rfl, hb2⟩
        go_wp2_with fail
        go_ret
        exact ⟨by rw [E2.out]; rfl, B1.out.trans (hb2.mono B1.out.size)⟩
  · have ho2 : (!gramOk xs) = true := by simp [hok]
    have e2 : partAsk xs i j = 1 := by simp [partAsk, hok]
    have E2 := Lib.hid e2
    clear e2 hok
    go_wp2_with fail
    go_ret
    exact ⟨by rw [E2.out]; rfl, B1.out⟩

set_option maxRecDepth 100000 in
set_option maxHeartbeats 1000000 in
theorem specPart_any (v : Value) (xs : List GRule) (i j : Int) (w : World) (h : Sl RuleE w w.heap.size v xs) (hn : xs.length ≤ 1048576) (hsm : SmallL xs) :
    Calls Tryz.prog 103 #[.agg #[v], .int .i64 i, .int .i64 j] w (GRes (partOut xs i j) (partCode xs i j) w) := by
  have h1 := fun o o' => (h.below (((Below.refl w.heap.size w).alloc (Nat.le_refl _) o).alloc (by simp) o')).le (B' := ((w.alloc o).alloc o').heap.size) (by simp; omega)
  have H1 := Lib.hid h1
  clear h1
  obtain ⟨A, c, rfl, hc, hm, hrow⟩ := h
  clear hm hrow
  go_enter Tryz.func103, Tryz.ntmps103
  go_wp2_with fail
  refine (l02Part_any _ _ _ xs i j _ (by simp [go_sem]) (by simp; omega) (H1.out _ _) hsm hn).mono ?_
  rintro e w1 ⟨rfl, hb1⟩
  obtain ⟨hc1, hf1⟩ := bcell hb1
  have hz1 : w.heap.size + 1 < w1.heap.size := by have := hb1.size; simp at this; omega
  have a1 : w1.cell? ⟨w.heap.size, 0, none⟩ = some (.slice A xs.length c) := by rw [hc1 _ _ (by first | omega | (simp; done) | (simp; omega))]; simp [go_sem]
  have c1 : w1.cell? ⟨w.heap.size + 1, 0, none⟩ = some (.slice none 0 0) := by rw [hc1 _ _ (by first | omega | (simp; done) | (simp; omega))]; simp [go_sem]
  have f1 : w1.frozen? ⟨w.heap.size + 1, 0, none⟩ = false := by rw [hf1 _ _ (by first | omega | (simp; done) | (simp; omega))]; simp [go_sem]
  have S1 := Lib.hid ((H1.out (Obj.cells #[Value.slice A xs.length c] 31) (Obj.cells #[Value.slice none 0 0] 31)).up hb1)
  have B1 := Lib.hid (((Below.refl w.heap.size w).alloc (Nat.le_refl _) (Obj.cells #[Value.slice A xs.length c] 31)).alloc (by simp) (Obj.cells #[Value.slice none 0 0] 31) |>.trans (hb1.mono (by simp; omega)))
  clear hc1 hf1 hb1
  by_cases hgo : gramOk xs = true ∧ partIn xs i j = true
  · obtain ⟨hok, hin⟩ := hgo
    have ea : partAsk xs i j = 0 := by simp [partAsk, hok, hin]
    obtain ⟨h4, ls, hl⟩ := gram_lens hok
    have hi : 0 ≤ i ∧ i ≤ j ∧ j ≤ lastI ls := by
      simp only [partIn, hl] at hin
      simp at hin; exact ⟨hin.1.1, hin.1.2, hin.2⟩
    obtain ⟨E1, E2⟩ := partOut_yes hok hl hi
    have E1 := Lib.hid E1
    have E2 := Lib.hid E2
    have Hl := Lib.hid hl
    have Hi := Lib.hid hi
    rw [ea]
    have z0 : w.heap.size < w1.heap.size := by omega
    clear ea hok hin hl hi
    go_wp2_with fail
    refine (l02Cut_any _ _ _ xs ls i j _ a1 z0 S1.out hsm Hl.out h4 Hi.out.1 Hi.out.2.1 Hi.out.2.2).mono ?_
    rintro e w2 ⟨hb2, v2, own2, rfl⟩
    obtain ⟨A2, k2, rfl, _⟩ := own_nil own2
    have c2 := cell_up c1 hb2 (by omega)
    have f2 : w2.frozen? ⟨w.heap.size + 1, 0, none⟩ = false := by rw [hb2.frozen hz1, f1]
    have z2 : w.heap.size + 1 < w2.heap.size := by have := hb2.size; omega
    have z12 : w1.heap.size ≤ w2.heap.size := hb2.size
    have B2 := Lib.hid (B1.out.trans (hb2.mono (by omega)))
    have hcg := cutG_ok (okAll_lens Hl.out) (piecesL xs ls i j) (pieces_mem Hl.out i j)
    have hpl := pieces_len Hl.out i j
    have Hcg := Lib.hid hcg
    obtain ⟨C, hC⟩ : ∃ C, cutG xs (piecesL xs ls i j) = C := ⟨_, rfl⟩
    rw [hC] at own2 Hcg
    rw [hC]
    have HC : Hid (partG xs ls i j = trimG C) := by rw [Hid, partG, hC]
    have hcl : C.length ≤ 4194304 := by have := Hcg.out.2; omega
    have bx3 : Boxed (w2.alloc (Obj.cells #[Value.slice A2 C.length k2] 31)) w2.heap.size 31 (.slice A2 C.length k2) := Boxed.new _ _ _
    have S3 := Lib.hid ((own2.alloc (Obj.cells #[Value.slice A2 C.length k2] 31)).sl)
    have hb3 : Below w2.heap.size w2 (w2.alloc (Obj.cells #[Value.slice A2 C.length k2] 31)) := (Below.refl _ _).alloc (Nat.le_refl _) _
    have c3 := cell_up c2 hb3 (by omega)
    have f3 : (w2.alloc (Obj.cells #[Value.slice A2 C.length k2] 31)).frozen? ⟨w.heap.size + 1, 0, none⟩ = false := by rw [hb3.frozen z2, f2]
    have B3 := Lib.hid (B2.out.trans (hb3.mono (by omega)))
    have cb3 := bx3.cell
    have lb3 := bx3.lt
    clear a1 c1 f1 c2 f2 hb2 own2 hC hb3 bx3 hcg
    go_wp2_with fail
    refine (l02Trim_any _ _ _ C _ cb3 lb3 S3.out hcl Hcg.out.1).mono ?_
    rintro e w4 ⟨hb4, v4, own4, rfl⟩
    have c4 := cell_up c3 hb4 (by simp; omega)
    have f4 : w4.frozen? ⟨w.heap.size + 1, 0, none⟩ = false := by rw [hb4.frozen (by simp; omega), f3]
    have z4 : w.heap.size + 1 < w4.heap.size := by have := hb4.size; simp at this; omega
    have z24 : w2.heap.size + 1 ≤ w4.heap.size := by have := hb4.size; simpa using this
    have B4 := Lib.hid (B3.out.trans (hb4.mono (by simp; omega)))
    have O4 := Lib.hid own4
    clear c3 f3 hb4 own4 cb3 lb3
    go_wp2_with fail
    refine (l02Told_any _ _ _ _ O4.out (trimG_small Hcg.out.1)).mono ?_
    rintro e w5 ⟨hb5, v5, own5, rfl⟩
    obtain ⟨A5, k5, rfl, _⟩ := own_nil own5
    have c5 := cell_up c4 hb5 (by omega)
    have f5 : w5.frozen? ⟨w.heap.size + 1, 0, none⟩ = false := by rw [hb5.frozen z4, f4]
    have B5 := Lib.hid (B4.out.trans (hb5.mono (by omega)))
    have O5 := Lib.hid own5
    clear c4 f4 hb5 own5
    go_wp2
    refine bodyPost_ret (v := .tuple #[.agg #[.slice A5 (limOut (trimG C)).length k5], .int .i64 (limCode (trimG C))]) (by simp [results, Tryz.results103, go_sem, c5]) rfl ⟨?_, _, ?_, by rw [E2.out, HC.out]⟩
    · exact B5.out.setCell (by show w.heap.size ≤ w.heap.size + 1; omega) _
    · rw [E1.out, HC.out]
      exact ownsRow_more (ownsRow_setCell_below O5.out (a := ⟨w.heap.size + 1, 0, none⟩) (by simp; omega) _) (by simp; omega)
  · have hcs : (partOut xs i j = [] ∧ partCode xs i j = partAsk xs i j) ∧ (partAsk xs i j = 1 ∨ partAsk xs i j = 2) := by
      unfold partOut partCode partAsk
      cases hg : gramOk xs <;> cases hp : partIn xs i j <;> simp_all
    obtain ⟨⟨e1, e2⟩, e3⟩ := hcs
    have E1 := Lib.hid e1
    have E2 := Lib.hid e2
    clear e1 e2 hgo
    rcases e3 with e | e
    all_goals
      rw [e]
      have E3 := Lib.hid e
      clear e
      go_wp2
      first
        | refine bodyPost_ret (v := .tuple #[.agg #[.slice none 0 0], .int .i64 1]) (by simp [results, Tryz.results103, go_sem, c1]) rfl ⟨?_, _, ?_, by rw [E2.out, E3.out]⟩
        | refine bodyPost_ret (v := .tuple #[.agg #[.slice none 0 0], .int .i64 2]) (by simp [results, Tryz.results103, go_sem, c1]) rfl ⟨?_, _, ?_, by rw [E2.out, E3.out]⟩
      · exact B1.out.setCell (by show w.heap.size ≤ w.heap.size + 1; omega) _
      · rw [E1.out]; exact World.ownsRow_nil _ _ _ _
end Go.Proofs.YtfapnipmgmpgaaaGreatDoor

namespace Go.Proofs.YtfapnipmgmpgaaaGreatDoor

/-- The letters of a rule's word. -/
def wordR (xs : List GRule) : Nat → Nat → List UInt8
  | 0, _ => []
  | f + 1, r => if (getR xs r).pair then wordR xs f (getR xs r).left.toNat ++ wordR xs f (getR xs r).right.toNat else (getR xs r).letter.data.toList
def W1 (xs : List GRule) (r : Nat) : List UInt8 := wordR xs (r + 1) r
/-- The word of a grammar. -/
def wordG (xs : List GRule) : List UInt8 := if xs = [] then [] else W1 xs (xs.length - 1)
/-- What lies from i to j. -/
def cutL {α : Type} (l : List α) (i j : Int) : List α := (l.take j.toNat).drop i.toNat

theorem wordR_fuel {xs : List GRule} {ls : List Int} (h : lens xs = some ls) : ∀ (f r : Nat), r < f → r < xs.length → wordR xs f r = W1 xs r := by
  intro f
  induction f using Nat.strongRecOn with
  | _ f ih =>
    intro r hr hx
    obtain ⟨g, rfl⟩ : ∃ g, f = g + 1 := ⟨f - 1, by omega⟩
    unfold W1
    rw [wordR, wordR]
    cases hp : (getR xs r).pair with
    | false => rfl
    | true =>
      obtain ⟨q1, q2, q3, q4, q5⟩ := lens_pair h hx hp
      rw [if_pos rfl, if_pos rfl, ih g (by omega) _ (by omega) (by omega), ih g (by omega) _ (by omega) (by omega)]
      by_cases e : r = g
      · subst e
        rw [ih r (by omega) _ (by omega) (by omega), ih r (by omega) _ (by omega) (by omega)]
      · rw [ih r (by omega) _ q2 (by omega), ih r (by omega) _ q4 (by omega)]
theorem W1_pair {xs : List GRule} {ls : List Int} (h : lens xs = some ls) {r : Nat} (hx : r < xs.length) (hp : (getR xs r).pair = true) : W1 xs r = W1 xs (getR xs r).left.toNat ++ W1 xs (getR xs r).right.toNat := by
  obtain ⟨q1, q2, q3, q4, q5⟩ := lens_pair h hx hp
  rw [W1, wordR, if_pos hp, wordR_fuel h r _ q2 (by omega), wordR_fuel h r _ q4 (by omega)]
theorem W1_let {xs : List GRule} {r : Nat} (hp : (getR xs r).pair = false) : W1 xs r = (getR xs r).letter.data.toList := by
  rw [W1, wordR, if_neg (by simp [hp])]
theorem lens_isLet {xs : List GRule} {ls : List Int} (h : lens xs = some ls) {r : Nat} (hx : r < xs.length) (hp : (getR xs r).pair = false) : isLet (getR xs r).letter = true := by
  have h1 := (lens_steps h r _ (getR_at hx)).1
  unfold okRule at h1
  rw [if_neg (by simp [hp])] at h1
  simp at h1; exact h1.1.1
theorem isLet_size {s : ByteArray} (h : isLet s = true) : s.size = 1 := by unfold isLet at h; simp at h; exact h.1.1
theorem W1_len {xs : List GRule} {ls : List Int} (h : lens xs = some ls) : ∀ (r : Nat), r < xs.length → ((W1 xs r).length : Int) = ls.getD r 0 := by
  intro r
  induction r using Nat.strongRecOn with
  | _ r ih =>
    intro hx
    cases hp : (getR xs r).pair with
    | false =>
      rw [W1_let hp, lens_letter h hx hp]
      have := isLet_size (lens_isLet h hx hp)
      show (((getR xs r).letter.data.toList.length : Nat) : Int) = 1
      rw [Array.length_toList]
      exact congrArg _ this
    | true =>
      obtain ⟨q1, q2, q3, q4, q5⟩ := lens_pair h hx hp
      rw [W1_pair h hx hp, List.length_append, q5, ← ih _ q2 (by omega), ← ih _ q4 (by omega)]
      omega
theorem cutL_append {α : Type} (a b : List α) (i j : Int) : cutL (a ++ b) i j = cutL a i j ++ cutL b (i - a.length) (j - a.length) := by
  unfold cutL
  rw [List.take_append, List.drop_append]
  have e1 : (j - (a.length : Int)).toNat = j.toNat - a.length := by omega
  have e2 : (i - (a.length : Int)).toNat = i.toNat - a.length := by omega
  rw [e1, e2, List.length_take]
  congr 1
  by_cases hj : j.toNat ≤ a.length
  · have : List.take (j.toNat - a.length) b = [] := by rw [show j.toNat - a.length = 0 by omega]; rfl
    rw [this]; simp
  · rw [show min j.toNat a.length = a.length by omega]
theorem cutL_nil {α : Type} {l : List α} {i j : Int} (h : (l.length : Int) ≤ i ∨ j ≤ 0 ∨ j ≤ i) : cutL l i j = [] := by
  unfold cutL
  apply List.drop_eq_nil_of_le
  rw [List.length_take]; omega
theorem cutL_all {α : Type} {l : List α} {i j : Int} (hi : i ≤ 0) (hj : (l.length : Int) ≤ j) : cutL l i j = l := by
  unfold cutL
  rw [show i.toNat = 0 by omega, List.drop_zero, List.take_of_length_le (by omega)]
theorem cutL_len {α : Type} {l : List α} {i j : Int} (hi : 0 ≤ i) (hij : i ≤ j) (hj : j ≤ l.length) : ((cutL l i j).length : Int) = j - i := by
  unfold cutL
  rw [List.length_drop, List.length_take]; omega
/-- The words of a cover are what lies from i to j. -/
theorem cover_word {xs : List GRule} {ls : List Int} (h : lens xs = some ls) {i j : Int} : ∀ (f r : Nat) (p : Int), r < f → r < xs.length →
    (coverR xs ls i j f r p).flatMap (W1 xs) = cutL (W1 xs r) (i - p) (j - p) := by
  intro f
  induction f with
  | zero => intro r p hr; omega
  | succ f ih =>
    intro r p hr hx
    have hw := W1_len h r hx
    have h1 := lens_pos' h hx
    rw [coverR]
    split
    · rename_i c; rw [cutL_nil (by omega)]; rfl
    split
    · rename_i c; rw [cutL_all (by omega) (by omega)]; simp
    rename_i c1 c2
    cases hp : (getR xs r).pair with
    | false => have := lens_letter h hx hp; omega
    | true =>
      obtain ⟨q1, q2, q3, q4, q5⟩ := lens_pair h hx hp
      rw [List.flatMap_append, ih _ _ (by omega) (by omega), ih _ _ (by omega) (by omega), W1_pair h hx hp, cutL_append, W1_len h _ (by omega)]
      congr 2 <;> omega
theorem wordG_pos {xs : List GRule} (h : 0 < xs.length) : wordG xs = W1 xs (xs.length - 1) := by
  rw [wordG, if_neg (by intro e; subst e; simp at h)]
theorem lastI_at {xs : List GRule} {ls : List Int} (h : lens xs = some ls) (_h0 : 0 < xs.length) : lastI ls = ls.getD (xs.length - 1) 0 := by
  rw [lastI, lens_length h]
theorem wordG_len {xs : List GRule} {ls : List Int} (h : lens xs = some ls) : ((wordG xs).length : Int) = lastI ls := by
  by_cases h0 : 0 < xs.length
  · rw [wordG_pos h0, W1_len h _ (by omega), lastI_at h h0]
  · have hx : xs = [] := List.eq_nil_of_length_eq_zero (by omega)
    subst hx
    have : ls = [] := List.eq_nil_of_length_eq_zero (by rw [lens_length h]; rfl)
    subst this; rfl
theorem pieces_word {xs : List GRule} {ls : List Int} (h : lens xs = some ls) {i j : Int} : (piecesL xs ls i j).flatMap (W1 xs) = cutL (wordG xs) i j := by
  unfold piecesL
  split
  · rename_i c
    rw [cover_word h _ _ _ (by omega) (by omega), wordG_pos c.1, Int.sub_zero, Int.sub_zero]
  · rename_i c
    by_cases h0 : 0 < xs.length
    · rw [cutL_nil (by omega)]; rfl
    · have hx : xs = [] := List.eq_nil_of_length_eq_zero (by omega)
      subst hx
      simp [wordG, cutL]
end Go.Proofs.YtfapnipmgmpgaaaGreatDoor

namespace Go.Proofs.YtfapnipmgmpgaaaGreatDoor

theorem okA_at {xs : List GRule} (h : OkAll xs) {r : Nat} (hx : r < xs.length) (hp : (getR xs r).pair = true) :
    0 ≤ (getR xs r).left ∧ (getR xs r).left.toNat < r ∧ 0 ≤ (getR xs r).right ∧ (getR xs r).right.toNat < r := okRule_at (h r _ (getR_at hx)) hp
theorem wordR_fuelA {xs : List GRule} (h : OkAll xs) : ∀ (f r : Nat), r < f → r < xs.length → wordR xs f r = W1 xs r := by
  intro f
  induction f using Nat.strongRecOn with
  | _ f ih =>
    intro r hr hx
    obtain ⟨g, rfl⟩ : ∃ g, f = g + 1 := ⟨f - 1, by omega⟩
    unfold W1
    rw [wordR, wordR]
    cases hp : (getR xs r).pair with
    | false => rfl
    | true =>
      obtain ⟨q1, q2, q3, q4⟩ := okA_at h hx hp
      rw [if_pos rfl, if_pos rfl, ih g (by omega) _ (by omega) (by omega), ih g (by omega) _ (by omega) (by omega)]
      by_cases e : r = g
      · subst e
        rw [ih r (by omega) _ (by omega) (by omega), ih r (by omega) _ (by omega) (by omega)]
      · rw [ih r (by omega) _ q2 (by omega), ih r (by omega) _ q4 (by omega)]
theorem W1_pairA {xs : List GRule} (h : OkAll xs) {r : Nat} (hx : r < xs.length) (hp : (getR xs r).pair = true) : W1 xs r = W1 xs (getR xs r).left.toNat ++ W1 xs (getR xs r).right.toNat := by
  obtain ⟨q1, q2, q3, q4⟩ := okA_at h hx hp
  rw [W1, wordR, if_pos hp, wordR_fuelA h r _ q2 (by omega), wordR_fuelA h r _ q4 (by omega)]
theorem W1_same {xs : List GRule} (h : OkAll xs) {i j : Nat} (hi : i < xs.length) (hj : j < xs.length) (e : getR xs i = getR xs j) : W1 xs i = W1 xs j := by
  cases hp : (getR xs i).pair with
  | true => rw [W1_pairA h hi hp, W1_pairA h hj (by rw [← e]; exact hp), e]
  | false => rw [W1_let hp, W1_let (by rw [← e]; exact hp), e]
theorem W1_app {xs ys : List GRule} (h : OkAll xs) (h' : OkAll (xs ++ ys)) : ∀ (r : Nat), r < xs.length → W1 (xs ++ ys) r = W1 xs r := by
  intro r
  induction r using Nat.strongRecOn with
  | _ r ih =>
    intro hx
    have e : getR (xs ++ ys) r = getR xs r := getR_append hx
    cases hp : (getR xs r).pair with
    | true =>
      obtain ⟨q1, q2, q3, q4⟩ := okA_at h hx hp
      rw [W1_pairA h hx hp, W1_pairA h' (by simp; omega) (by rw [e]; exact hp), e, ih _ q2 (by omega), ih _ q4 (by omega)]
    | false => rw [W1_let hp, W1_let (by rw [e]; exact hp), e]
theorem W1_let1 {xs : List GRule} (h : OkAll xs) {r : Nat} (hx : r < xs.length) (hp : (getR xs r).pair = false) : (W1 xs r).length = 1 := by
  rw [W1_let hp]
  have := (okRule_let (h r _ (getR_at hx)) hp).1
  rw [Array.length_toList]; exact this
/-- A list of right rules of which no word is too long has lengths: those of its words. -/
theorem lens_ofA {xs : List GRule} (h : OkAll xs) (hm : ∀ r, r < xs.length → ((W1 xs r).length : Int) ≤ maxL) : ∃ ls, lens xs = some ls := by
  suffices H : ∀ k, k ≤ xs.length → ∃ out, lens (xs.take k) = some out ∧ out.length = k ∧ ∀ r, r < k → out.getD r 0 = ((W1 xs r).length : Int) by
    obtain ⟨out, h1, _⟩ := H xs.length (Nat.le_refl _)
    rw [List.take_length] at h1
    exact ⟨out, h1⟩
  intro k
  induction k with
  | zero => intro _; exact ⟨[], rfl, rfl, fun r hr => absurd hr (by omega)⟩
  | succ k ih =>
    intro hk
    obtain ⟨out, h1, h2, h3⟩ := ih (by omega)
    have hr := getR_at (xs := xs) (r := k) (by omega)
    have hok := h k _ hr
    have hlen : ruleLen out (getR xs k) = ((W1 xs k).length : Int) := by
      unfold ruleLen
      cases hp : (getR xs k).pair with
      | true =>
        obtain ⟨q1, q2, q3, q4⟩ := okA_at h (by omega) hp
        rw [if_pos rfl, h3 _ q2, h3 _ q4, W1_pairA h (by omega) hp, List.length_append]; omega
      | false => rw [if_neg (by simp), W1_let1 h (by omega) hp]; rfl
    have := hm k (by omega)
    refine ⟨_, lens_next h1 hr (by rw [h2]; exact hok) (by rw [hlen]; exact this), by simp [h2], fun r hr => ?_⟩
    rcases Nat.lt_or_ge r k with hlt | hge
    · rw [getI_append (by omega)]; exact h3 r hlt
    · have : r = out.length := by omega
      subst this
      rw [getI_last, hlen, h2]
theorem lens_W1 {xs : List GRule} {ls : List Int} (h : lens xs = some ls) {r : Nat} (hx : r < xs.length) : ((W1 xs r).length : Int) ≤ maxL := by
  rw [W1_len h r hx, List.getD_eq_getElem?_getD, List.getElem?_eq_getElem (by rw [lens_length h]; exact hx)]
  exact (lens_pos h _ (List.getElem_mem _)).2

theorem trimR_more {S : List Int} {x : Int} {r : GRule} (h : r.pair = true → r.left.toNat < S.length ∧ r.right.toNat < S.length) : trimR (S ++ [x]) r = trimR S r := by
  cases hp : r.pair with
  | true => rw [trimR_pair hp, trimR_pair hp, getI_append (h hp).1, getI_append (h hp).2]
  | false => rw [trimR_let hp, trimR_let hp]
theorem canon_get {xs : List GRule} (h : OkAll xs) : ∀ k, k ≤ xs.length → ∀ i, i < k → getR (canon (xs.take k)).1 i = trimR (canon (xs.take k)).2 (getR xs i) := by
  intro k
  induction k with
  | zero => intro _ i hi; omega
  | succ k ih =>
    intro hk i hi
    have H := ih (by omega)
    have C := canon_ok h k (by omega)
    have hr := getR_at (xs := xs) (r := k) (by omega)
    rw [canon_snoc hr]
    obtain ⟨K, S, hp⟩ : ∃ K S, canon (xs.take k) = (K, S) := ⟨_, _, rfl⟩
    rw [hp] at H C ⊢
    have l1 : K.length = k := C.l1
    have l2 : S.length = k := C.l2
    show getR (K ++ [trimR S (getR xs k)]) i = trimR (S ++ [((K.idxOf (trimR S (getR xs k)) : Nat) : Int)]) (getR xs i)
    rw [trimR_more (fun hpr => by
      obtain ⟨q1, q2, q3, q4⟩ := okA_at h (show i < xs.length by omega) hpr
      omega)]
    rcases Nat.lt_or_ge i k with hlt | hge
    · rw [getR_append (by omega)]; exact H i hlt
    · have : i = K.length := by omega
      subst this
      rw [getR_last, l1]
theorem canon_word {xs : List GRule} (h : OkAll xs) : ∀ i, i < xs.length → W1 (canon xs).1 i = W1 xs i := by
  have C := canon_all h
  have G := canon_get h xs.length (Nat.le_refl _)
  rw [List.take_length] at G
  obtain ⟨K, S, hp⟩ : ∃ K S, canon xs = (K, S) := ⟨_, _, rfl⟩
  rw [hp] at C G ⊢
  have l1 : K.length = xs.length := C.l1
  have cok : OkAll K := C.ok
  intro i
  induction i using Nat.strongRecOn with
  | _ i ih =>
    intro hi
    show W1 K i = W1 xs i
    have e : getR K i = trimR S (getR xs i) := G i hi
    cases hpr : (getR xs i).pair with
    | true =>
      obtain ⟨q1, q2, q3, q4⟩ := okA_at h hi hpr
      rw [trimR_pair hpr] at e
      have key : ∀ j, j < i → (S.getD j 0).toNat < K.length ∧ W1 K (S.getD j 0).toNat = W1 xs j := by
        intro j hj
        have h1 : S.getD j 0 = ((K.idxOf (getR K j) : Nat) : Int) := C.idx j (by omega)
        have hm : getR K j ∈ K := getR_mem (by omega)
        have hlt : K.idxOf (getR K j) < K.length := List.idxOf_lt_length_iff.2 hm
        rw [h1, Int.toNat_natCast]
        refine ⟨hlt, ?_⟩
        rw [← ih j hj (by omega)]
        refine W1_same cok hlt (by omega) ?_
        exact (getR_some (List.getElem?_eq_getElem hlt)).trans (List.getElem_idxOf hlt)
      have hpk : (getR K i).pair = true := by rw [e]; rfl
      rw [W1_pairA cok (by omega) hpk, W1_pairA h hi hpr, e]
      show W1 K (S.getD (getR xs i).left.toNat 0).toNat ++ W1 K (S.getD (getR xs i).right.toNat 0).toNat = _
      rw [(key _ q2).2, (key _ q4).2]
    | false =>
      rw [trimR_let hpr] at e
      rw [W1_let (by rw [e]; exact hpr), W1_let hpr, e]

theorem set_true {l : List Bool} {i x : Nat} (h : l.getD x false = true) : (l.set i true).getD x false = true := by
  rw [List.getD_eq_getElem?_getD, List.getElem?_set]
  split
  · split
    · rfl
    · rename_i h1 h2; subst h1
      rw [List.getD_eq_getElem?_getD, List.getElem?_eq_none (by omega)] at h; simp at h
  · rw [← List.getD_eq_getElem?_getD]; exact h
theorem set_at {l : List Bool} {i : Nat} (h : i < l.length) : (l.set i true).getD i false = true := by
  rw [List.getD_eq_getElem?_getD, List.getElem?_set, if_pos rfl, if_pos h]; rfl
theorem set_ne {α : Type} {l : List α} {i x : Nat} {v d : α} (h : i ≠ x) : (l.set i v).getD x d = l.getD x d := by
  rw [List.getD_eq_getElem?_getD, List.getElem?_set, if_neg h, ← List.getD_eq_getElem?_getD]
theorem needStep_true {ks : List GRule} {l : List Bool} {i x : Nat} (h : l.getD x false = true) : (needStep ks l i).getD x false = true := by
  unfold needStep; split
  · exact set_true (set_true h)
  · exact h
theorem needDown_true {ks : List GRule} : ∀ (i : Nat) {l : List Bool} {x : Nat}, l.getD x false = true → (needDown ks i l).getD x false = true
  | 0, _, _, h => h
  | i + 1, _, _, h => needDown_true i (needStep_true h)
theorem needStep_above {ks : List GRule} (hk : OkAll ks) {l : List Bool} {i x : Nat} (hi : i < ks.length) (h : i ≤ x) : (needStep ks l i).getD x false = l.getD x false := by
  unfold needStep; split
  · rename_i c
    simp only [Bool.and_eq_true] at c
    obtain ⟨q1, q2, q3, q4⟩ := okA_at hk hi c.2
    rw [set_ne (by omega), set_ne (by omega)]
  · rfl
theorem needDown_above {ks : List GRule} (hk : OkAll ks) : ∀ (i : Nat) {l : List Bool} {x : Nat}, i ≤ ks.length → i ≤ x → (needDown ks i l).getD x false = l.getD x false
  | 0, _, _, _, _ => rfl
  | i + 1, l, x, hi, h => by rw [needDown, needDown_above hk i (by omega) (by omega), needStep_above hk (by omega) (by omega)]
theorem needDown_closed {ks : List GRule} (hk : OkAll ks) : ∀ (i : Nat) {l : List Bool} {x : Nat}, i ≤ ks.length → l.length = ks.length → x < i → (needDown ks i l).getD x false = true → (getR ks x).pair = true →
    (needDown ks i l).getD (getR ks x).left.toNat false = true ∧ (needDown ks i l).getD (getR ks x).right.toNat false = true
  | 0, _, _, _, _, hx, _, _ => by omega
  | i + 1, l, x, hi, hl, hx, h, hp => by
    rw [needDown] at h ⊢
    rcases Nat.lt_or_ge x i with hlt | hge
    · exact needDown_closed hk i (by omega) (by rw [needStep_len]; exact hl) hlt h hp
    · have : x = i := by omega
      subst this
      rw [needDown_above hk x (by omega) (Nat.le_refl _), needStep_above hk (by omega) (Nat.le_refl _)] at h
      obtain ⟨q1, q2, q3, q4⟩ := okA_at hk (by omega) hp
      have e : needStep ks l x = (l.set (getR ks x).left.toNat true).set (getR ks x).right.toNat true := by
        unfold needStep; rw [if_pos (by rw [h, hp]; rfl)]
      rw [e]
      exact ⟨needDown_true _ (set_true (set_at (by omega))), needDown_true _ (set_at (by simp; omega))⟩
theorem needDown_most {ks : List GRule} (hk : OkAll ks) {m : Nat} : ∀ (i : Nat) {l : List Bool}, i ≤ ks.length → (∀ x, l.getD x false = true → x ≤ m) → ∀ x, (needDown ks i l).getD x false = true → x ≤ m
  | 0, _, _, h, x, hx => h x hx
  | i + 1, l, hi, h, x, hx => by
    rw [needDown] at hx
    refine needDown_most hk i (by omega) (fun y hy => ?_) x hx
    unfold needStep at hy
    split at hy
    · rename_i c
      simp only [Bool.and_eq_true] at c
      obtain ⟨q1, q2, q3, q4⟩ := okA_at hk (show i < ks.length by omega) c.2
      have hm := h i c.1
      by_cases e1 : (getR ks i).right.toNat = y
      · omega
      · rw [set_ne e1] at hy
        by_cases e2 : (getR ks i).left.toNat = y
        · omega
        · rw [set_ne e2] at hy; exact h y hy
    · exact h y hy

structure OutOk (xs ks : List GRule) (need : List Bool) (k : Nat) (p : List GRule × List Int) : Prop where
  l2 : p.2.length = xs.length
  pos : ∀ i, i < k → need.getD i false = true → 0 ≤ p.2.getD i 0 ∧ (p.2.getD i 0).toNat < p.1.length
  ok : OkAll p.1
  word : ∀ i, i < k → need.getD i false = true → W1 p.1 (p.2.getD i 0).toNat = W1 ks i
  from_ : ∀ a, a < p.1.length → ∃ i, i < k ∧ need.getD i false = true ∧ (p.2.getD i 0).toNat = a
theorem out_ok {xs : List GRule} (h : OkAll xs) (hcl : ∀ x, x < xs.length → (needL xs).getD x false = true → (getR (canon xs).1 x).pair = true → (needL xs).getD (getR (canon xs).1 x).left.toNat false = true ∧ (needL xs).getD (getR (canon xs).1 x).right.toNat false = true) :
    ∀ k, k ≤ xs.length → OutOk xs (canon xs).1 (needL xs) k (trimO xs k) := by
  have C := canon_all h
  obtain ⟨K, hK⟩ : ∃ K, (canon xs).1 = K := ⟨_, rfl⟩
  have cok : OkAll K := hK ▸ C.ok
  have cl1 : K.length = xs.length := hK ▸ C.l1
  rw [hK] at hcl ⊢
  intro k
  induction k with
  | zero => intro _; exact ⟨by simp [trimO], fun i hi => absurd hi (by omega), fun k r hk => by simp [trimO] at hk, fun i hi => absurd hi (by omega), fun a ha => by simp [trimO] at ha⟩
  | succ k ih =>
    intro hk
    have H := ih (by omega)
    rw [trimO_succ, hK]
    obtain ⟨O, M, hp⟩ : ∃ O M, trimO xs k = (O, M) := ⟨_, _, rfl⟩
    rw [hp] at H ⊢
    have l2 : M.length = xs.length := H.l2
    unfold outStep
    by_cases hn : (needL xs).getD k false = true
    · rw [if_pos hn]
      obtain ⟨X, hX⟩ : ∃ X, trimR M (getR K k) = X := ⟨_, rfl⟩
      show OutOk xs K (needL xs) (k + 1) (O ++ [trimR M (getR K k)], M.set k (O.length : Int))
      have hkk : k < K.length := by omega
      have hXok : okRule O.length X = true := by
        rw [← hX]
        cases hpr : (getR K k).pair with
        | true =>
          obtain ⟨q1, q2, q3, q4⟩ := okA_at cok hkk hpr
          obtain ⟨c1, c2⟩ := hcl k (by omega) hn hpr
          obtain ⟨a1, a2⟩ := H.pos _ q2 c1
          obtain ⟨a3, a4⟩ := H.pos _ q4 c2
          rw [trimR_pair hpr]
          have a1' : 0 ≤ M.getD (getR K k).left.toNat 0 := a1
          have a2' : (M.getD (getR K k).left.toNat 0).toNat < O.length := a2
          have a3' : 0 ≤ M.getD (getR K k).right.toNat 0 := a3
          have a4' : (M.getD (getR K k).right.toNat 0).toNat < O.length := a4
          exact okRule_pair ⟨a1', by omega⟩ ⟨a3', by omega⟩
        | false =>
          rw [trimR_let hpr]
          have h1 := cok k _ (getR_at hkk)
          unfold okRule at h1 ⊢
          rw [if_neg (by simp [hpr])] at h1 ⊢
          exact h1
      rw [hX]
      have hO : OkAll O := H.ok
      have hO2 : OkAll (O ++ [X]) := hO.snoc hXok
      have hold : ∀ i, i < k → (M.set k (O.length : Int)).getD i 0 = M.getD i 0 := fun i hi => set_ne (by omega)
      have hnew : (M.set k (O.length : Int)).getD k 0 = (O.length : Int) := by
        rw [List.getD_eq_getElem?_getD, List.getElem?_set, if_pos rfl, if_pos (by omega)]; rfl
      refine ⟨by simp [l2], ?_, hO2, ?_, ?_⟩
      · intro i hi hni
        show 0 ≤ (M.set k (O.length : Int)).getD i 0 ∧ ((M.set k (O.length : Int)).getD i 0).toNat < (O ++ [X]).length
        rcases Nat.lt_or_ge i k with hlt | hge
        · rw [hold i hlt, List.length_append]
          have := H.pos i hlt hni
          exact ⟨this.1, Nat.lt_of_lt_of_le this.2 (Nat.le_add_right _ _)⟩
        · have : i = k := by omega
          subst this
          rw [hnew]; simp
      · intro i hi hni
        show W1 (O ++ [X]) ((M.set k (O.length : Int)).getD i 0).toNat = W1 K i
        rcases Nat.lt_or_ge i k with hlt | hge
        · rw [hold i hlt, W1_app hO hO2 _ (H.pos i hlt hni).2]
          exact H.word i hlt hni
        · have : i = k := by omega
          subst this
          rw [hnew, Int.toNat_natCast]
          have eX : getR (O ++ [X]) O.length = X := getR_last _ _
          cases hpr : (getR K i).pair with
          | true =>
            obtain ⟨q1, q2, q3, q4⟩ := okA_at cok hkk hpr
            obtain ⟨c1, c2⟩ := hcl i (by omega) hn hpr
            have hXp : X = pairR (M.getD (getR K i).left.toNat 0) (M.getD (getR K i).right.toNat 0) := by rw [← hX, trimR_pair hpr]
            rw [W1_pairA hO2 (by simp) (by rw [eX, hXp]; rfl), eX, hXp]
            show W1 _ (M.getD (getR K i).left.toNat 0).toNat ++ W1 _ (M.getD (getR K i).right.toNat 0).toNat = _
            rw [← hXp, W1_app hO hO2 _ (H.pos _ q2 c1).2, W1_app hO hO2 _ (H.pos _ q4 c2).2, W1_pairA cok hkk hpr]
            have w1 := H.word _ q2 c1
            have w2 := H.word _ q4 c2
            show W1 O _ ++ W1 O _ = _
            rw [← w1, ← w2]
          | false =>
            have hXl : X = getR K i := by rw [← hX, trimR_let hpr]
            rw [W1_let (by rw [eX, hXl]; exact hpr), eX, hXl, W1_let hpr]
      · intro a ha
        rcases Nat.lt_or_ge a O.length with hlt | hge
        · obtain ⟨i, h1, h2, h3⟩ := H.from_ a hlt
          exact ⟨i, by omega, h2, by show ((M.set k (O.length : Int)).getD i 0).toNat = a; rw [hold i h1]; exact h3⟩
        · have ha' : a < (O ++ [X]).length := ha
          rw [List.length_append] at ha'
          have : a = O.length := by simp at ha'; omega
          subst this
          exact ⟨k, by omega, hn, by show ((M.set k (O.length : Int)).getD k 0).toNat = O.length; rw [hnew]; simp⟩
    · rw [if_neg hn]
      refine ⟨l2, ?_, H.ok, ?_, ?_⟩
      · intro i hi hni
        rcases Nat.lt_or_ge i k with hlt | hge
        · exact H.pos i hlt hni
        · have : i = k := by omega
          subst this; exact absurd hni hn
      · intro i hi hni
        rcases Nat.lt_or_ge i k with hlt | hge
        · exact H.word i hlt hni
        · have : i = k := by omega
          subst this; exact absurd hni hn
      · intro a ha
        obtain ⟨i, h1, h2, h3⟩ := H.from_ a ha
        exact ⟨i, by omega, h2, h3⟩
/-- A trimmed grammar is right, and has the same word. -/
theorem trimG_sem {xs : List GRule} {ls : List Int} (hl : lens xs = some ls) : ∃ ls', lens (trimG xs) = some ls' ∧ wordG (trimG xs) = wordG xs ∧ (0 < xs.length → 0 < (trimG xs).length) := by
  by_cases h0 : 0 < xs.length
  · have h := okAll_lens hl
    have C := canon_all h
    obtain ⟨K, S, hp⟩ : ∃ K S, canon xs = (K, S) := ⟨_, _, rfl⟩
    rw [hp] at C
    have l1 : K.length = xs.length := C.l1
    have cok : OkAll K := C.ok
    have hroot : 0 ≤ S.getD (xs.length - 1) 0 ∧ S.getD (xs.length - 1) 0 ≤ ((xs.length - 1 : Nat) : Int) := C.low (xs.length - 1) (by omega)
    obtain ⟨R, hR⟩ : ∃ R, (S.getD (xs.length - 1) 0).toNat = R := ⟨_, rfl⟩
    have hRl : R < xs.length := by omega
    have eN : needL xs = needDown K xs.length ((List.replicate xs.length false).set R true) := by
      unfold needL rootB; rw [hp]; show needDown K _ ((List.replicate xs.length false).set (S.getD (xs.length - 1) 0).toNat true) = _; rw [hR]
    have hbl : ((List.replicate xs.length false).set R true).length = K.length := by simp [l1]
    have hNR : (needL xs).getD R false = true := by rw [eN]; exact needDown_true _ (set_at (by simp; omega))
    have hmost : ∀ x, (needL xs).getD x false = true → x ≤ R := by
      rw [eN]
      refine needDown_most cok _ (by omega) (fun x hx => ?_)
      by_cases e : R = x
      · omega
      · rw [set_ne e] at hx
        rw [List.getD_eq_getElem?_getD, List.getElem?_replicate] at hx
        split at hx <;> simp at hx
    have hcl : ∀ x, x < xs.length → (needL xs).getD x false = true → (getR (canon xs).1 x).pair = true → (needL xs).getD (getR (canon xs).1 x).left.toNat false = true ∧ (needL xs).getD (getR (canon xs).1 x).right.toNat false = true := by
      rw [hp, eN]
      intro x hx h1 h2
      exact needDown_closed cok _ (by omega) hbl hx h1 h2
    have H := out_ok h hcl xs.length (Nat.le_refl _)
    rw [hp] at H
    have hw := canon_word h
    rw [hp] at hw
    -- the last rule is that of the root
    have hlast : ∀ k, R < k → k ≤ xs.length → (trimO xs k).1.length = (trimO xs (R + 1)).1.length ∧ (trimO xs k).2.getD R 0 = (trimO xs (R + 1)).2.getD R 0 := by
      intro k
      induction k with
      | zero => intro h; omega
      | succ k ih =>
        intro h1 h2
        rcases Nat.lt_or_ge R k with hlt | hge
        · have hnk : ¬ (needL xs).getD k false = true := fun e => by have := hmost k e; omega
          rw [trimO_succ]
          unfold outStep
          rw [if_neg hnk]
          exact ih hlt (by omega)
        · have : k = R := by omega
          subst this; exact ⟨rfl, rfl⟩
    obtain ⟨e1, e2⟩ := hlast xs.length hRl (Nat.le_refl _)
    have e3 : (trimO xs (R + 1)).1.length = (trimO xs R).1.length + 1 ∧ (trimO xs (R + 1)).2.getD R 0 = ((trimO xs R).1.length : Int) := by
      rw [trimO_succ]; unfold outStep; rw [if_pos hNR]
      refine ⟨by simp, ?_⟩
      show ((trimO xs R).2.set R _).getD R 0 = _
      rw [List.getD_eq_getElem?_getD, List.getElem?_set, if_pos rfl, if_pos (by rw [(trimO_len xs R).1]; exact hRl)]; rfl
    have hlen : (trimG xs).length = (trimO xs R).1.length + 1 := by rw [trimG, e1, e3.1]
    have hnum : ((trimO xs xs.length).2.getD R 0).toNat = (trimG xs).length - 1 := by rw [e2, e3.2, hlen]; simp
    have hword : W1 (trimG xs) ((trimG xs).length - 1) = W1 xs (xs.length - 1) := by
      rw [← hnum]
      have h1 : W1 (trimG xs) ((trimO xs xs.length).2.getD R 0).toNat = W1 K R := H.word R hRl hNR
      rw [h1]
      have h2 : W1 K R = W1 K (xs.length - 1) := by
        have hi : S.getD (xs.length - 1) 0 = ((K.idxOf (getR K (xs.length - 1)) : Nat) : Int) := C.idx _ (by omega)
        have hm : getR K (xs.length - 1) ∈ K := getR_mem (by omega)
        have hlt : K.idxOf (getR K (xs.length - 1)) < K.length := List.idxOf_lt_length_iff.2 hm
        have hRe : R = K.idxOf (getR K (xs.length - 1)) := by rw [← hR, hi]; simp
        refine W1_same cok (by omega) (by omega) ?_
        rw [hRe]
        exact (getR_some (List.getElem?_eq_getElem hlt)).trans (List.getElem_idxOf hlt)
      rw [h2]
      exact hw _ (by omega)
    have hmax : ∀ r, r < (trimG xs).length → ((W1 (trimG xs) r).length : Int) ≤ maxL := by
      intro r hr
      obtain ⟨i, h1, h2, h3⟩ := H.from_ r hr
      have h4 : W1 (trimG xs) ((trimO xs xs.length).2.getD i 0).toNat = W1 K i := H.word i h1 h2
      have h5 : W1 K i = W1 xs i := hw i h1
      rw [show r = ((trimO xs xs.length).2.getD i 0).toNat from h3.symm, h4, h5]
      exact lens_W1 hl h1
    obtain ⟨ls', hl'⟩ := lens_ofA H.ok hmax
    refine ⟨ls', hl', ?_, fun _ => by omega⟩
    rw [wordG_pos (by omega), wordG_pos h0]
    exact hword
  · have hx : xs = [] := List.eq_nil_of_length_eq_zero (by omega)
    subst hx
    exact ⟨[], rfl, rfl, fun h => absurd h (by simp)⟩
theorem gramOk_trim {xs : List GRule} (h : gramOk xs = true) : gramOk (trimG xs) = true := by
  obtain ⟨h4, ls, hl⟩ := gram_lens h
  obtain ⟨ls', hl', _⟩ := trimG_sem hl
  have := trimG_len xs
  simp only [gramOk, Bool.and_eq_true, decide_eq_true_eq]
  exact ⟨by omega, by rw [hl']; rfl⟩
end Go.Proofs.YtfapnipmgmpgaaaGreatDoor

namespace Go.Proofs.YtfapnipmgmpgaaaGreatDoor
open Go.RowKit

def addO (s g : Option (List GRule)) : Option (List GRule) := match s, g with
  | some o, some x => if gramOk (joinG o x) then some (joinG o x) else none
  | _, _ => none
def limO (xs : List GRule) : Option (List GRule) := if gramOk xs then some xs else none
/-- A list and a code: the list, or nothing. -/
def CodeIs (s : Option (List GRule)) (out : List GRule) (c : Int) : Prop := (s = some out ∧ c = 0 ∧ gramOk out = true) ∨ (s = none ∧ c = 3)
theorem codeIs_lim (xs : List GRule) : CodeIs (limO xs) (limOut xs) (limCode xs) := by
  unfold CodeIs limO limOut limCode
  cases h : gramOk xs with
  | true => exact .inl ⟨rfl, rfl, by simpa using h⟩
  | false => exact .inr ⟨rfl, rfl⟩
theorem limOut_ok (xs : List GRule) : gramOk (limOut xs) = true := by
  unfold limOut
  cases h : gramOk xs with
  | true => simpa using h
  | false => rfl
/-- An assembly at block b: s is what is joined so far, or nothing. -/
def Asm (w : World) (b : Nat) (xs : List GRule) (ls : List Int) (s : Option (List GRule)) : Prop :=
  ∃ vG vL vO out c, Blk w b #[vG, vL, vO, .int .i64 c] 129 ∧ Sl RuleE w b vG xs ∧ Sl IntE w b vL ls ∧ OwnRules w (b + 1) vO out ∧ CodeIs s out c ∧ gramOk out = true
theorem Asm.lt {w : World} {b : Nat} {xs : List GRule} {ls : List Int} {s : Option (List GRule)} (h : Asm w b xs ls s) : b < w.heap.size := by
  obtain ⟨_, _, _, _, _, h, _⟩ := h; exact h.lt
theorem Asm.up {w w' : World} {b : Nat} {xs : List GRule} {ls : List Int} {s : Option (List GRule)} (h : Asm w b xs ls s) (hb : Below w.heap.size w w') : Asm w' b xs ls s := by
  have hlt := h.lt
  obtain ⟨vG, vL, vO, out, c, h1, h2, h3, h4, h5, h6⟩ := h
  exact ⟨vG, vL, vO, out, c, h1.up hb, h2.below (hb.mono (by omega)), h3.below (hb.mono (by omega)), OwnRules.below h4 hb, h5, h6⟩
theorem sl_up {α : Type} {E : Enc α} {w w' : World} {N : Nat} {v : Value} {xs : List α} (h : Sl E w N v xs) (hN : N ≤ w.heap.size) (hb : Below w.heap.size w w') : Sl E w' w'.heap.size v xs := (h.le hN).up hb
theorem keepS {wr W : World} {p q a : Addr} {v u x : Value} (h : Below wr.heap.size wr W ∧ W.cell? p = some v ∧ W.cell? q = some u) (ha : wr.heap.size ≤ a.block) (hp : p.block < wr.heap.size) (hq : q.block < wr.heap.size) :
    Below wr.heap.size wr (W.setCell a x) ∧ (W.setCell a x).cell? p = some v ∧ (W.setCell a x).cell? q = some u :=
  ⟨h.1.setCell ha x, (World.cell?_of_block (Below.heap_setCell _ _ _ _ (by omega))).trans h.2.1, (World.cell?_of_block (Below.heap_setCell _ _ _ _ (by omega))).trans h.2.2⟩
theorem blk_res {w w' : World} {a : Array Value} {t : TypeId} (hb : Below (w.alloc (.cells a t)).heap.size (w.alloc (.cells a t)) w') : Below w.heap.size w w' ∧ Blk w' w.heap.size a t := Below.unalloc hb

set_option maxRecDepth 100000 in
set_option maxHeartbeats 1000000 in
theorem asmPart_any (b : Nat) (xs : List GRule) (ls : List Int) (s : Option (List GRule)) (i j : Int) (w : World) (h : Asm w b xs ls s) (hl : lens xs = some ls) (hn : xs.length ≤ 1048576) :
    Calls Tryz.prog 90 #[.pointer (some ⟨b, 0, none⟩), .int .i64 i, .int .i64 j] w (GRes (limOut (partG xs ls i j)) (limCode (partG xs ls i j)) w) := by
  obtain ⟨vG, vL, vO, out, c, hB, hG, hL, hO, hs, hok⟩ := h
  have hlt := hB.lt
  have HG := Lib.hid (hG.le (Nat.le_of_lt hlt))
  have HL := Lib.hid (hL.le (Nat.le_of_lt hlt))
  have Hl := Lib.hid hl
  have hpl := partG_len hl i j
  obtain ⟨AG, cG, rfl, _⟩ := hG
  obtain ⟨AL, cL, rfl, _⟩ := hL
  clear hO hs hl
  have cA0_1 := Blk.cell (i := 0) (v := .slice AG xs.length cG) hB rfl
  have cA1_2 := Blk.cell (i := 1) (v := .slice AL ls.length cL) hB rfl
  have lA_3 := Blk.lt hB
  clear hB hok
  go_enter Tryz.func90, Tryz.ntmps90
  go_wp2_with fail
  have hcA : (w.alloc (Obj.cells #[Value.slice none 0 0] 31)).drew.cell? ⟨b, 0, none⟩ = some (.slice AG xs.length cG) := by simp [go_sem, cA0_1, hlt]
  have hcL : (w.alloc (Obj.cells #[Value.slice none 0 0] 31)).drew.cell? ⟨b, 1, none⟩ = some (.slice AL ls.length cL) := by simp [go_sem, cA1_2, hlt]
  have KB := And.intro (show Below w.heap.size w (w.alloc (Obj.cells #[Value.slice none 0 0] 31)).drew from (by repeat (first | exact Below.refl _ _ | (refine Below.alloc ?_ (by first | omega | (simp; done) | (simp; omega)) _) | refine below_drewN ?_ _ | refine Below.drew ?_))) (And.intro hcA hcL)
  go_region_held3 (fun w' => Below w.heap.size w w' ∧ w'.cell? ⟨b, 0, none⟩ = some (.slice AG xs.length cG) ∧ w'.cell? ⟨b, 1, none⟩ = some (.slice AL ls.length cL))
    (first | (with_reducible exact KB) | (with_reducible exact keepC KB hb1 hlt hlt) | (with_reducible exact keepC (keepC KB hb1 hlt hlt) hb2 hlt hlt) | (with_reducible exact keepS (keepC (keepC KB hb1 hlt hlt) hb2 hlt hlt) (Nat.le_refl _) hlt hlt))
    (first
      | (go_at_call 105; (refine (part_any _ _ xs ls i j _ (HG.out.up (by repeat (first | exact Below.refl _ _ | (refine Below.alloc ?_ (by first | omega | (simp; done) | (simp; omega)) _) | refine below_drewN ?_ _ | refine Below.drew ?_))) (HL.out.up (by repeat (first | exact Below.refl _ _ | (refine Below.alloc ?_ (by first | omega | (simp; done) | (simp; omega)) _) | refine below_drewN ?_ _ | refine Below.drew ?_))) Hl.out hn).mono ?_); rintro e w1 ⟨hb1, v1, own1, rfl⟩)
      | (go_at_call 104; (refine (orLimit_any _ _ _ _ own1 (by omega)).mono ?_); rintro e w2 ⟨hb2, v2, own2, rfl⟩; obtain ⟨A2, k2, rfl, _⟩ := own_nil own2; obtain ⟨hbz, KR⟩ := blk_res (Below.tr (Below.undrew hb1) hb2); have cR := KR.cell (i := 0) (v := .slice none 0 0) rfl; have fR := KR.frozen 0; have lR := KR.lt))
  have HO2 := Lib.hid own2
  have HB := Lib.hid hbz
  have HK := Lib.hid KR
  clear KB hb1 hb2 own1 own2 hbz KR hcA hcL
  go_wp2
  refine bodyPost_ret (v := .tuple #[.agg #[.slice A2 (limOut (partG xs ls i j)).length k2], .int .i64 (limCode (partG xs ls i j))]) (by simp [results, Tryz.results90, go_sem, cR]) rfl ⟨HB.out.setCell (Nat.le_refl _) _, _, ?_, rfl⟩
  exact ownsRow_more (ownsRow_setCell_below HO2.out (a := ⟨w.heap.size, 0, none⟩) (by simp [World.drew]) _) (by simp [World.drew])

/-- The ending of a function without results. -/
abbrev NoRes (e : Ending) : Prop := e = .returned (.tuple #[])
theorem addO_none {s g : Option (List GRule)} (h : s = none ∨ g = none) : addO s g = none := by
  rcases h with rfl | rfl
  · rfl
  · cases s <;> rfl
theorem addO_lim (o x : List GRule) : addO (some o) (some x) = limO (joinG o x) := rfl
set_option maxRecDepth 100000 in
set_option maxHeartbeats 1000000 in
theorem asmAdd_any (b : Nat) (xs : List GRule) (ls : List Int) (s g : Option (List GRule)) (vN : Value) (ys : List GRule) (cN : Int) (w : World) (h : Asm w b xs ls s) (hN : SlS RuleE w (fun k => k ≠ b ∧ k < w.heap.size) vN ys) (hg : CodeIs g ys cN) :
    Calls Tryz.prog 91 #[.pointer (some ⟨b, 0, none⟩), .agg #[vN], .int .i64 cN] w fun e w' => NoRes e ∧ But b w w' ∧ Asm w' b xs ls (addO s g) := by
  obtain ⟨vG, vL, vO, out, c, hB, hG, hL, hO, hs, hok⟩ := h
  have hlt := hB.lt
  have HB0 := Lib.hid hB
  have HG := Lib.hid hG
  have HL := Lib.hid hL
  have HO := Lib.hid hO
  have HN := Lib.hid hN
  have HK := Lib.hid hok
  obtain ⟨AN, kN, rfl, _⟩ := hN
  obtain ⟨AO, kO, rfl, _⟩ := own_nil hO
  clear hG hL hO
  have hB1 : Blk (w.alloc (Obj.cells #[Value.slice AN ys.length kN] 31)) b _ _ := hB.alloc _
  rcases hs with ⟨rfl, rfl, _⟩ | ⟨rfl, rfl⟩
  · rcases hg with ⟨rfl, rfl, hgy⟩ | ⟨rfl, rfl⟩
    · have c2 := hB.cell (i := 2) (v := .slice AO out.length kO) rfl
      have c3 := hB.cell (i := 3) (v := .int .i64 0) rfl
      have f2 := hB.frozen 2
      have f3 := hB.frozen 3
      have HGY := Lib.hid hgy
      have hy : ys.length ≤ 1048576 := by have := (gram_lens hgy).1; omega
      clear hB hB1 hgy
      go_enter Tryz.func91, Tryz.ntmps91
      go_wp2_with fail
      have KA : Blk ((w.setCell ⟨b, 3, none⟩ (.int .i64 0)).alloc (Obj.cells #[Value.slice AN ys.length kN] 31)) b #[vG, vL, .slice AO out.length kO, .int .i64 0] 129 := (HB0.out.set 3 _).alloc _
      have KN : Blk ((w.setCell ⟨b, 3, none⟩ (.int .i64 0)).alloc (Obj.cells #[Value.slice AN ys.length kN] 31)) w.heap.size #[.slice AN ys.length kN] 31 := by
        have := Blk.new (w.setCell ⟨b, 3, none⟩ (.int .i64 0)) #[Value.slice AN ys.length kN] 31
        simpa using this
      have hbW : But b w ((w.setCell ⟨b, 3, none⟩ (.int .i64 0)).alloc (Obj.cells #[Value.slice AN ys.length kN] 31)) := ((But.refl b w).setCell _).alloc _
      have NW : SlS RuleE ((w.setCell ⟨b, 3, none⟩ (.int .i64 0)).alloc (Obj.cells #[Value.slice AN ys.length kN] 31)) (fun k => k ≠ b ∧ k < w.heap.size) (.slice AN ys.length kN) ys :=
        HN.out.keep fun k hk => (Below.heap_alloc _ _ _ (by simpa using hk.2)).trans (Below.heap_setCell _ _ _ _ hk.1)
      have OW : OwnRules ((w.setCell ⟨b, 3, none⟩ (.int .i64 0)).alloc (Obj.cells #[Value.slice AN ys.length kN] 31)) (b + 1) (.slice AO out.length kO) out := World.ownsRow.alloc (ownsRow_setCell_below HO.out (by show b < b + 1; omega) _) _
      have zW : ((w.setCell ⟨b, 3, none⟩ (.int .i64 0)).alloc (Obj.cells #[Value.slice AN ys.length kN] 31)).heap.size = w.heap.size + 1 := by simp
      clear c2 c3 f2 f3
      generalize (w.setCell ⟨b, 3, none⟩ (.int .i64 0)).alloc (Obj.cells #[Value.slice AN ys.length kN] 31) = W at *
      have HKA := Lib.hid KA
      have HNW := Lib.hid (NW.more (S' := (· < W.heap.size)) fun k hk => by have := hk.2; omega)
      have HOW := Lib.hid OW
      have HBW := Lib.hid hbW
      have c2 := KA.cell (i := 2) (v := .slice AO out.length kO) rfl
      have cN := KN.cell (i := 0) (v := .slice AN ys.length kN) rfl
      have lN := KN.lt
      have lA := KA.lt
      have l1 : out.length ≤ 1048576 := by have := (gram_lens HK.out).1; omega
      have l2 : (joinG out ys).length ≤ 1099511627776 := by have := joinG_len (gram_lens HK.out).1 (gram_lens HGY.out).1; omega
      clear KA NW OW hbW zW KN
      go_region_law (first
        | (go_simp; go_at_call 124; (refine (join_any _ _ out ys _ (HOW.out.sl.up (by repeat (first | exact Below.refl _ _ | (refine Below.alloc ?_ (by first | omega | (simp; done) | (simp; omega)) _) | refine below_drewN ?_ _ | refine Below.drew ?_))) (HNW.out.up (by repeat (first | exact Below.refl _ _ | (refine Below.alloc ?_ (by first | omega | (simp; done) | (simp; omega)) _) | refine below_drewN ?_ _ | refine Below.drew ?_))) l1 hy (gram_smallP HGY.out)).mono ?_); rintro e w1 ⟨hb1, v1, own1, rfl⟩)
        | (go_simp; go_at_call 104; (refine (orLimit_any _ _ _ _ own1 l2).mono ?_); rintro e w2 ⟨hb2, v2, own2, rfl⟩; obtain ⟨A2, k2, rfl, _⟩ := own_nil own2; have KR := HKA.out.up (Below.tr (Below.undrew hb1) hb2); have d2 := KR.frozen 2; have d3 := KR.frozen 3; have d4 := KR.lt; have e2 := KR.cell (i := 2) (v := .slice AO out.length kO) rfl; have e3 := KR.cell (i := 3) (v := .int .i64 0) rfl))
      all_goals
        have hb3 : But b w w2 := HBW.out.tr (Below.tr (Below.undrew hb1) hb2)
        have HB3 := Lib.hid hb3
        have HO2 := Lib.hid (ownsRow_more own2 (base' := b + 1) (by show b + 1 ≤ W.heap.size; omega))
        have HKR := Lib.hid KR
        clear hb1 hb2 own1 own2 KR hb3 cN
        go_wp2
        go_end0
        have hz : ∀ o o' v v', But b w ((w2.setCell ⟨b, o, none⟩ v).setCell ⟨b, o', none⟩ v') := fun o o' v v' => (HB3.out.setCell _).setCell _
        have hzb : ∀ o o' v v', Below b w ((w2.setCell ⟨b, o, none⟩ v).setCell ⟨b, o', none⟩ v') := fun o o' v v' => (hz o o' v v').below (Nat.le_refl _) (Nat.le_of_lt hlt)
        have hz2 : ∀ o o' v v', OwnRules ((w2.setCell ⟨b, o, none⟩ v).setCell ⟨b, o', none⟩ v') (b + 1) (.slice A2 (limOut (joinG out ys)).length k2) (limOut (joinG out ys)) :=
          fun o o' v v' => ownsRow_setCell_below (ownsRow_setCell_below HO2.out (by show b < b + 1; omega) _) (by show b < b + 1; omega) _
        refine ⟨rfl, hz _ _ _ _, vG, vL, .slice A2 (limOut (joinG out ys)).length k2, limOut (joinG out ys), limCode (joinG out ys), ?_, HG.out.below (hzb _ _ _ _), HL.out.below (hzb _ _ _ _), hz2 _ _ _ _, codeIs_lim _, limOut_ok _⟩
        first
          | exact (HKR.out.set 2 _).set 3 _
          | exact (HKR.out.set 3 _).set 2 _
    · have c3 := hB.cell (i := 3) (v := .int .i64 0) rfl
      have f3 := hB.frozen 3
      clear hB hB1
      rw [addO_none (.inr rfl)]
      go_enter Tryz.func91, Tryz.ntmps91
      go_wp2
      go_end0
      have hbb : But b w ((w.setCell ⟨b, 3, none⟩ (.int .i64 3)).alloc (Obj.cells #[Value.slice AN ys.length kN] 31)) := ((But.refl b w).setCell _).alloc _
      have hbz := hbb.below (Nat.le_refl _) (Nat.le_of_lt hlt)
      refine ⟨rfl, hbb, _, _, _, out, 3, ((HB0.out.set 3 _).alloc _), HG.out.below hbz, HL.out.below hbz, World.ownsRow.alloc (ownsRow_setCell_below HO.out (by show b < b + 1; omega) _) _, .inr ⟨rfl, rfl⟩, HK.out⟩
  · rw [addO_none (.inl rfl)]
    have c3 := hB.cell (i := 3) rfl
    clear hB hB1 hg
    go_enter Tryz.func91, Tryz.ntmps91
    go_wp2
    go_end0
    refine ⟨rfl, But.of (by repeat (first | exact Below.refl _ _ | (refine Below.alloc ?_ (by first | omega | (simp; done) | (simp; omega)) _) | refine below_drewN ?_ _ | refine Below.drew ?_)), ?_⟩
    exact Asm.up ⟨_, _, _, _, _, HB0.out, HG.out, HL.out, HO.out, .inr ⟨rfl, rfl⟩, HK.out⟩ (by repeat (first | exact Below.refl _ _ | (refine Below.alloc ?_ (by first | omega | (simp; done) | (simp; omega)) _) | refine below_drewN ?_ _ | refine Below.drew ?_))
theorem own_slS {w : World} {b N : Nat} {v : Value} {l : List GRule} (h : OwnRules w N v l) (hb : b < N) : SlS RuleE w (fun k => k ≠ b ∧ k < w.heap.size) v l :=
  h.slS fun g hg => by have := World.ownsRow.lt h g hg; omega
theorem sl_ne {α : Type} {E : Enc α} {w : World} {b N : Nat} {v : Value} {xs : List α} (h : Sl E w N v xs) (hN : N ≤ b) (hb : b < w.heap.size) : SlS E w (fun k => k ≠ b ∧ k < w.heap.size) v xs :=
  h.more fun k hk => by omega
theorem limOut_len (xs : List GRule) : (limOut xs).length ≤ 400 := (gram_lens (limOut_ok xs)).1
set_option maxRecDepth 100000 in
set_option maxHeartbeats 1000000 in
theorem asmKeep_any (b : Nat) (xs : List GRule) (ls : List Int) (s : Option (List GRule)) (i j : Int) (w : World) (h : Asm w b xs ls s) (hl : lens xs = some ls) (hn : xs.length ≤ 1048576) :
    Calls Tryz.prog 92 #[.pointer (some ⟨b, 0, none⟩), .int .i64 i, .int .i64 j] w fun e w' => NoRes e ∧ But b w w' ∧ Asm w' b xs ls (addO s (limO (partG xs ls i j))) := by
  have hlt := h.lt
  have HA := Lib.hid h
  have Hl := Lib.hid hl
  clear h hl
  go_enter Tryz.func92, Tryz.ntmps92
  go_wp2_with fail
  refine (asmPart_any b xs ls s i j _ HA.out Hl.out hn).mono ?_
  rintro e w1 ⟨hb1, v1, own1, rfl⟩
  have HO := Lib.hid own1
  obtain ⟨A1, k1, rfl, _⟩ := own_nil own1
  have hlim := limOut_len (partG xs ls i j)
  have HB := Lib.hid hb1
  clear own1 hb1
  go_wp2_with fail
  refine (asmAdd_any b xs ls s _ _ _ _ _ (HA.out.up HB.out) (own_slS HO.out hlt) (codeIs_lim (partG xs ls i j))).mono ?_
  rintro e w2 ⟨rfl, hb2, ha2⟩
  go_wp2
  go_end0
  exact ⟨rfl, (But.of HB.out).trans hb2, ha2⟩
end Go.Proofs.YtfapnipmgmpgaaaGreatDoor

namespace Go.Proofs.YtfapnipmgmpgaaaGreatDoor

def ltr (k : Nat) : UInt8 := UInt8.ofNat (97 + k)
def letR (c : UInt8) : GRule := ⟨⟨#[c]⟩, 0, 0⟩
def hasC (w : ByteArray) (c : UInt8) : Bool := w.data.toList.contains c
/-- The letters of a word, in their order. -/
def letsG (w : ByteArray) (k : Nat) : List GRule := ((List.range k).filter (fun j => hasC w (ltr j))).map fun j => letR (ltr j)
def idxG (w : ByteArray) (c : UInt8) : Nat := (letsG w 4).idxOf (letR c)
def pairAt (w : ByteArray) (i : Nat) : GRule :=
  pairR (if i = 0 then (idxG w (w.data.getD 0 0) : Nat) else (((letsG w 4).length + i - 1 : Nat) : Int)) (idxG w (w.data.getD (i + 1) 0) : Nat)
/-- The grammar of a plain word, up to some pairs. -/
def plainK (w : ByteArray) (m : Nat) : List GRule := letsG w 4 ++ (List.range m).map (pairAt w)
def plainG (w : ByteArray) : List GRule := plainK w (w.size - 1)

theorem letsG_succ (w : ByteArray) (k : Nat) : letsG w (k + 1) = if hasC w (ltr k) then letsG w k ++ [letR (ltr k)] else letsG w k := by
  unfold letsG
  rw [List.range_succ, List.filter_append, List.map_append]
  by_cases h : hasC w (ltr k) = true
  · rw [if_pos h]; simp [h]
  · rw [if_neg h]; simp [h]
theorem letsG_len (w : ByteArray) (k : Nat) : (letsG w k).length ≤ k := by
  unfold letsG
  rw [List.length_map]
  exact Nat.le_trans (List.length_filter_le _ _) (by simp)
theorem let_ltr {c : UInt8} (h : letOk c = true) : ∃ k, k < 4 ∧ c = ltr k := by
  simp [letOk] at h
  refine ⟨c.toNat - 97, by omega, ?_⟩
  unfold ltr
  rw [show 97 + (c.toNat - 97) = c.toNat by omega]; simp
theorem mem_letsG {w : ByteArray} {c : UInt8} (h : letOk c = true) (hw : hasC w c = true) : letR c ∈ letsG w 4 := by
  obtain ⟨k, hk, rfl⟩ := let_ltr h
  unfold letsG
  exact List.mem_map.2 ⟨k, List.mem_filter.2 ⟨List.mem_range.2 hk, hw⟩, rfl⟩
theorem hasC_at {w : ByteArray} {i : Nat} (h : i < w.size) : hasC w w[i] = true := by
  unfold hasC
  rw [List.contains_iff_mem]
  exact List.mem_of_getElem? (toList_getElem? w i h)
theorem letOk_at {w : ByteArray} (hw : wordOk w = true) {i : Nat} (h : i < w.size) : letOk w[i] = true := by
  unfold wordOk at hw
  simp only [Bool.and_eq_true] at hw
  exact List.all_eq_true.1 hw.2 _ (List.mem_of_getElem? (toList_getElem? w i h))
theorem idxG_lt {w : ByteArray} (hw : wordOk w = true) {i : Nat} (h : i < w.size) : idxG w w[i] < (letsG w 4).length :=
  List.idxOf_lt_length_iff.2 (mem_letsG (letOk_at hw h) (hasC_at h))
theorem getD_data {w : ByteArray} {i : Nat} (h : i < w.size) : w.data.getD i 0 = w[i] := by
  show w.data.getD i 0 = w.data[i]
  simp [Array.getD, h]
theorem plainK_len (w : ByteArray) (m : Nat) : (plainK w m).length = (letsG w 4).length + m := by simp [plainK]
theorem plainG_len (w : ByteArray) : (plainG w).length ≤ 4 + w.size := by
  rw [plainG, plainK_len]
  have := letsG_len w 4
  omega
theorem plainK_succ (w : ByteArray) (m : Nat) : plainK w (m + 1) = plainK w m ++ [pairAt w m] := by
  unfold plainK; rw [List.range_succ, List.map_append, List.append_assoc]; rfl
theorem plainK_zero (w : ByteArray) : plainK w 0 = letsG w 4 := by simp [plainK]
theorem letsG_ok (w : ByteArray) : ∀ r ∈ letsG w 4, ∃ k, k < 4 ∧ r = letR (ltr k) := by
  intro r hr
  unfold letsG at hr
  obtain ⟨k, h1, h2⟩ := List.mem_map.1 hr
  exact ⟨k, List.mem_range.1 (List.mem_filter.1 h1).1, h2.symm⟩
theorem okRule_letR {k i : Nat} (h : k < 4) : okRule i (letR (ltr k)) = true := by
  have : k = 0 ∨ k = 1 ∨ k = 2 ∨ k = 3 := by omega
  rcases this with rfl | rfl | rfl | rfl <;> rfl
theorem okAll_letsG (w : ByteArray) : OkAll (letsG w 4) := by
  intro i r hi
  obtain ⟨k, hk, rfl⟩ := letsG_ok w r (List.mem_of_getElem? hi)
  exact okRule_letR hk
theorem okAll_plainK {w : ByteArray} (hw : wordOk w = true) : ∀ m, m + 1 ≤ w.size ∨ m = 0 → OkAll (plainK w m) := by
  intro m
  induction m with
  | zero => intro _; rw [plainK_zero]; exact okAll_letsG w
  | succ m ih =>
    intro h
    have hm : m + 1 < w.size := by omega
    rw [plainK_succ]
    refine (ih (by omega)).snoc ?_
    rw [plainK_len]
    have h0 := idxG_lt hw (i := 0) (by omega)
    have h1 := idxG_lt hw (i := m + 1) hm
    unfold pairAt
    rw [getD_data hm, getD_data (show 0 < w.size by omega)]
    refine okRule_pair ?_ (by omega)
    split <;> omega
theorem okAll_plainG {w : ByteArray} (hw : wordOk w = true) : OkAll (plainG w) := okAll_plainK hw _ (by omega)

/-- A letter is replaced by what its word's grammar ends at. -/
def hasL (xs : List GRule) (k : Nat) : Bool := xs.contains (letR (ltr k))
def baseStep (xs : List GRule) (ws : List ByteArray) (p : List GRule × List Int) (k : Nat) : List GRule × List Int :=
  if (ws.getD k ⟨#[]⟩).size ≠ 0 ∧ hasL xs k = true then (p.1 ++ (plainG (ws.getD k ⟨#[]⟩)).map (raiseR p.1.length), p.2.set k (((p.1.length + (plainG (ws.getD k ⟨#[]⟩)).length : Nat) : Int) - 1)) else p
def baseG (xs : List GRule) (ws : List ByteArray) (k : Nat) : List GRule × List Int := (List.range k).foldl (baseStep xs ws) ([], [-1, -1, -1, -1])
def standStep (starts : List Int) (p : List GRule × List Int) (r : GRule) : List GRule × List Int :=
  if r.pair then
    if p.2.getD r.left.toNat 0 < 0 then (p.1, p.2 ++ [p.2.getD r.right.toNat 0])
    else if p.2.getD r.right.toNat 0 < 0 then (p.1, p.2 ++ [p.2.getD r.left.toNat 0])
    else (p.1 ++ [pairR (p.2.getD r.left.toNat 0) (p.2.getD r.right.toNat 0)], p.2 ++ [(p.1.length : Int)])
  else (p.1, p.2 ++ [starts.getD ((r.letter.data.getD 0 0).toNat - 97) 0])
def standG (xs : List GRule) (ws : List ByteArray) (k : Nat) : List GRule × List Int := (xs.take k).foldl (standStep (baseG xs ws 4).2) ((baseG xs ws 4).1, [])
def mapP (xs : List GRule) (ws : List ByteArray) : List GRule × List Int := standG xs ws xs.length
end Go.Proofs.YtfapnipmgmpgaaaGreatDoor

namespace Go.Proofs
open Go.Shelf Go.RowKit
def Tryz.lays137_ren : Go.Shelf.Ren := ⟨fun | 137 => 148 | 217 => 170 | 266 => 180 | n => n, fun | 9 => 9 | 5 => 5 | 3 => 3 | n => n, fun | n => n⟩
theorem Tryz.lays137 : Go.Proofs.Lays.n137 Tryz.prog Tryz.lays137_ren := {
  mixed := by kernel_rfl
  f137 := Tryz.func148.trans (congrArg some (by kernel_rfl))
  f217 := Tryz.func170.trans (congrArg some (by kernel_rfl))
  f266 := Tryz.func180.trans (congrArg some (by kernel_rfl))
  t3 := Tryz.underlying3
  a3 := Tryz.isAgg3
  z3 := Tryz.sizeOf3
  v3 := Tryz.zeroValue3
  t5 := Tryz.underlying5
  a5 := Tryz.isAgg5
  z5 := Tryz.sizeOf5
  v5 := Tryz.zeroValue5
  t9 := Tryz.underlying9
  a9 := Tryz.isAgg9
  z9 := Tryz.sizeOf9
  v9 := Tryz.zeroValue9 }
theorem Tryz.strings_IndexByte (s : ByteArray) (c : Int) (w : World) :
    Calls Tryz.prog 148 #[.string s, .int .u8 c] w fun e w' => e = .returned (.int .i64 (Lib.indexByte s.data.toList c.toNat.toUInt8)) ∧ w' = w := Any.strings_IndexByte Tryz.lays137 s c w
def Tryz.lays146_ren : Go.Shelf.Ren := ⟨fun | 146 => 71 | 221 => 111 | 268 => 140 | 138 => 141 | 143 => 142 | 195 => 161 | 197 => 162 | 218 => 163 | 219 => 164 | 260 => 175 | 217 => 170 | 225 => 176 | 224 => 177 | 267 => 178 | 266 => 180 | 314 => 188 | n => n, fun | 9 => 9 | 31 => 90 | 3 => 3 | 4 => 4 | 0 => 0 | 105 => 190 | 21 => 21 | 5 => 5 | 46 => 173 | 119 => 214 | 139 => 217 | 138 => 216 | 146 => 219 | 51 => 218 | n => n, fun | 1 => 2 | 3 => 3 | 4 => 4 | n => n⟩
theorem Tryz.lays146 : Go.Proofs.Lays.n146 Tryz.prog Tryz.lays146_ren := {
  mixed := by kernel_rfl
  f138 := Tryz.func141.trans (congrArg some (by kernel_rfl))
  f143 := Tryz.func142.trans (congrArg some (by kernel_rfl))
  f146 := Tryz.func71.trans (congrArg some (by kernel_rfl))
  f195 := Tryz.func161.trans (congrArg some (by kernel_rfl))
  f197 := Tryz.func162.trans (congrArg some (by kernel_rfl))
  f217 := Tryz.func170.trans (congrArg some (by kernel_rfl))
  f218 := Tryz.func163.trans (congrArg some (by kernel_rfl))
  f219 := Tryz.func164.trans (congrArg some (by kernel_rfl))
  f221 := Tryz.func111.trans (congrArg some (by kernel_rfl))
  f224 := Tryz.func177.trans (congrArg some (by kernel_rfl))
  f225 := Tryz.func176.trans (congrArg some (by kernel_rfl))
  f260 := Tryz.func175.trans (congrArg some (by kernel_rfl))
  f266 := Tryz.func180.trans (congrArg some (by kernel_rfl))
  f267 := Tryz.func178.trans (congrArg some (by kernel_rfl))
  f268 := Tryz.func140.trans (congrArg some (by kernel_rfl))
  f314 := Tryz.func188.trans (congrArg some (by kernel_rfl))
  t0 := Tryz.underlying0
  a0 := Tryz.isAgg0
  z0 := Tryz.sizeOf0
  v0 := Tryz.zeroValue0
  t3 := Tryz.underlying3
  a3 := Tryz.isAgg3
  z3 := Tryz.sizeOf3
  v3 := Tryz.zeroValue3
  t4 := Tryz.underlying4
  a4 := Tryz.isAgg4
  z4 := Tryz.sizeOf4
  v4 := Tryz.zeroValue4
  t5 := Tryz.underlying5
  a5 := Tryz.isAgg5
  z5 := Tryz.sizeOf5
  v5 := Tryz.zeroValue5
  t9 := Tryz.underlying9
  a9 := Tryz.isAgg9
  z9 := Tryz.sizeOf9
  v9 := Tryz.zeroValue9
  t21 := Tryz.underlying21
  a21 := Tryz.isAgg21
  z21 := Tryz.sizeOf21
  v21 := Tryz.zeroValue21
  t31 := Tryz.underlying90
  a31 := Tryz.isAgg90
  z31 := Tryz.sizeOf90
  v31 := Tryz.zeroValue90
  t46 := Tryz.underlying173
  a46 := Tryz.isAgg173
  z46 := Tryz.sizeOf173
  v46 := Tryz.zeroValue173
  t51 := Tryz.underlying218
  a51 := Tryz.isAgg218
  z51 := Tryz.sizeOf218
  v51 := Tryz.zeroValue218
  t105 := Tryz.underlying190
  a105 := Tryz.isAgg190
  z105 := Tryz.sizeOf190
  v105 := Tryz.zeroValue190
  t119 := Tryz.underlying214
  a119 := Tryz.isAgg214
  z119 := Tryz.sizeOf214
  t138 := Tryz.underlying216
  a138 := Tryz.isAgg216
  z138 := Tryz.sizeOf216
  v138 := Tryz.zeroValue216
  t139 := Tryz.underlying217
  a139 := Tryz.isAgg217
  z139 := Tryz.sizeOf217
  v139 := Tryz.zeroValue217
  t146 := Tryz.underlying219
  a146 := Tryz.isAgg219
  z146 := Tryz.sizeOf219
  v146 := Tryz.zeroValue219
  g1 := by kernel_rfl
  g3 := by kernel_rfl
  g4 := by kernel_rfl }
open Go.RowKit Go.Lib in
/-- strings.Split. (LAID: no walk: one application.) -/
theorem Tryz.strings_Split_chars (s sep : ByteArray) (w : World) (h0 : sep.size = 0) (hs : s.size < 4294967281) (hascii : ∀ (j : Nat) b, s.data.toList[j]? = some b → b.toNat < 128) :
    Calls Tryz.prog 71 #[.string s, .string sep] w fun e w' =>
      e = .returned (.slice (some ⟨(w.iter s s.size).heap.size, 0, none⟩) s.size s.size) ∧ w' = (w.iter s s.size).alloc (.cells ((Lib.charsB s).map Value.string).toArray 9) := Any.strings_Split_chars Tryz.lays146 (by kernel_rfl) s sep w h0 hs hascii
end Go.Proofs

namespace Go.Proofs.YtfapnipmgmpgaaaGreatDoor
open Go.RowKit

/-- An own row of bytes. -/
def OwnB (w : World) (base : Nat) (v : Value) (l : List UInt8) : Prop := w.ownsRow base 5 1 v l.length (Lib.byteCells l)
theorem OwnB.alloc {w : World} {base : Nat} {v : Value} {l : List UInt8} (h : OwnB w base v l) (o : Obj) : OwnB (w.alloc o) base v l := World.ownsRow.alloc h o
theorem OwnB.drew {w : World} {base : Nat} {v : Value} {l : List UInt8} (h : OwnB w base v l) : OwnB w.drew base v l := h
theorem OwnB.below {w w' : World} {base : Nat} {v : Value} {l : List UInt8} (h : OwnB w base v l) (hb : Below w.heap.size w w') : OwnB w' base v l := ownsRow_below h hb
theorem OwnB.empty {w : World} {base N : Nat} (hN : N = w.heap.size) (hb : base ≤ w.heap.size) : OwnB (w.alloc (Obj.cells #[] 5)) base (Value.slice (some ⟨N, 0, none⟩) 0 0) [] := by
  subst hN
  exact World.ownsRow_lit w #[] 0 hb (Nat.zero_le _) rfl
/-- The cells of an own row of bytes. -/
theorem OwnB.at_ {w : World} {base : Nat} {v : Value} {l : List UInt8} (h : OwnB w base v l) (h0 : 0 < l.length) : ∃ g cap, v = .slice (some ⟨g, 0, none⟩) l.length cap ∧ l.length ≤ cap ∧ g < w.heap.size ∧ ∀ t (ht : t < l.length), w.cell? ⟨g, t, none⟩ = some (.int .u8 (l[t].toNat : Int)) := by
  obtain ⟨g, cap, hv, hb, hlt, hc, hcell⟩ := own_form h h0
  exact ⟨g, cap, hv, hc.1, hlt, fun t ht => hcell t _ (by simp [Lib.byteCells, List.getElem?_eq_getElem ht])⟩
/-- A string of bytes at an address. -/
theorem convB (L : List UInt8) (b p n c : Nat) (W : World) (hn : n = L.length) (h : ∀ t (ht : t < L.length), W.cell? ⟨b, p + t, none⟩ = some (.int .u8 (L[t].toNat : Int))) :
    (convert 139 9 (.slice (some ⟨b, p, none⟩) n c)).run Tryz.prog W = .ok (.string ⟨L.toArray⟩) W := by
  subst hn
  exact run_convert_bytes_back (P := Tryz.prog) W 139 9 5 ⟨b, p, none⟩ c L Tryz.underlying139 Tryz.underlying5 Tryz.underlying9 (fun j hj => by
    have e : (⟨b, p, none⟩ : Addr).add j = ⟨b, p + j, none⟩ := by unfold Addr.add; split <;> simp_all
    rw [e]; exact h j hj)
theorem OwnB.string {w : World} {base n : Nat} {g : Nat} {c : Nat} {l : List UInt8} (h : OwnB w base (.slice (some ⟨g, 0, none⟩) n c) l) :
    (convert 139 9 (.slice (some ⟨g, 0, none⟩) n c)).run Tryz.prog w = .ok (.string ⟨l.toArray⟩) w := by
  have hn : n = l.length := by
    obtain ⟨A', c', hv, _⟩ := own_nil h
    injection hv
  refine convB l g 0 n c w hn fun t ht => ?_
  obtain ⟨g', cap, hv, _, _, hc⟩ := h.at_ (by omega)
  injection hv with e1 e2 e3
  injection e1 with e1
  injection e1 with e1
  subst e1
  rw [Nat.zero_add]; exact hc t ht
end Go.Proofs.YtfapnipmgmpgaaaGreatDoor

namespace Go.Proofs.YtfapnipmgmpgaaaGreatDoor
open Go.RowKit

theorem convC (W : World) (N : Nat) (hN : N = W.heap.size) (c : UInt8) : (convert 139 9 (.slice (some ⟨N, 0, none⟩) 1 1)).run Tryz.prog (W.alloc (.cells #[.int .u8 (c.toNat : Int)] 5)) = .ok (.string (letR c).letter) (W.alloc (.cells #[.int .u8 (c.toNat : Int)] 5)) := by
  subst hN
  rw [run_convert_bytes_arg (W.alloc (.cells #[.int .u8 (c.toNat : Int)] 5)) 139 5 Tryz.underlying139 Tryz.underlying5 W.heap.size 0 1 1 [(c.toNat : Int)] rfl
    (fun i hi => by
      have : i = 0 := by omega
      subst this
      simp [go_sem]) 9 Tryz.underlying9]
  have : strOfNums [(c.toNat : Int)] = (letR c).letter := by
    simp only [strOfNums, letR, List.map_cons, List.map_nil]
    simp
  rw [this]
set_option maxRecDepth 100000 in
theorem letter_any (c : UInt8) (w : World) : Calls Tryz.prog 149 #[.int .u8 (c.toNat : Int)] w fun e w' => e = .returned (.agg #[.string (letR c).letter, .int .i64 (letR c).left, .int .i64 (letR c).right]) ∧ Below w.heap.size w w' := by
  have hcv := convC (w.alloc (Obj.cells #[.string ⟨#[]⟩, .int .i64 0, .int .i64 0] 123)) (w.heap.size + 1) (by simp) c
  go_enter Tryz.func149, Tryz.ntmps149
  go_wp2
  refine bodyPost_ret (v := .agg #[.string (letR c).letter, .int .i64 0, .int .i64 0]) (by simp [results, Tryz.results149, go_sem]) rfl ⟨rfl, ?_⟩
  exact (by repeat (first | exact Below.refl _ _ | (refine Below.alloc ?_ (by first | omega | (simp; done) | (simp; omega)) _) | (refine Below.setCell ?_ (by first | exact Nat.le_refl _ | (show _ ≤ _; omega) | (simp; done) | (simp; omega)) _) | refine below_drewN ?_ _ | refine Below.drew ?_))

def idxR (xs : List GRule) (X : GRule) : Int := if xs.idxOf X < xs.length then (xs.idxOf X : Int) else -1
theorem idxR_pos (xs : List GRule) (X : GRule) : decide (0 ≤ idxR xs X) = xs.contains X := by
  unfold idxR
  by_cases h : X ∈ xs
  · rw [if_pos (List.idxOf_lt_length_iff.2 h)]; simp [h]
  · rw [if_neg (fun e => h (List.idxOf_lt_length_iff.1 e))]; simp [h]
theorem idxOf_ge {K : List GRule} {X : GRule} {k : Nat} (h : ∀ j y, j < k → K[j]? = some y → X ≠ y) (hk : k ≤ K.length) : k ≤ K.idxOf X := by
  rcases Nat.lt_or_ge (K.idxOf X) k with hlt | hge
  · have hm : X ∈ K := List.idxOf_lt_length_iff.1 (by omega)
    exact absurd rfl (h _ _ hlt (idxOf_at hm))
  · exact hge
set_option maxRecDepth 100000 in
set_option maxHeartbeats 1000000 in
theorem indexRules_any (v : Value) (xs : List GRule) (X : GRule) (w : World) (h : Sl RuleE w w.heap.size v xs) :
    Calls Tryz.prog 151 #[v, .agg #[.string X.letter, .int .i64 X.left, .int .i64 X.right]] w fun e w' => e = .returned (.int .i64 (idxR xs X)) ∧ Below w.heap.size w w' := by
  obtain ⟨A, c, rfl, hc, hm, hrow⟩ := h
  unfold maxLen at hm
  go_enter Tryz.func151, Tryz.ntmps151
  go_wp2_with fail
  have KX := Blk.new w #[.string X.letter, .int .i64 X.left, .int .i64 X.right] 123
  have hB := Lib.hid ((Below.refl w.heap.size w).alloc (Nat.le_refl _) (Obj.cells #[.string X.letter, .int .i64 X.left, .int .i64 X.right] 123))
  generalize w.alloc (Obj.cells #[.string X.letter, .int .i64 X.left, .int .i64 X.right] 123) = W at *
  have HKX := Lib.hid KX
  clear KX
  go_loopw [8] (fun i wr => ∃ k : Nat, k ≤ xs.length ∧ i = .int .i64 k ∧ (∃ m, wr = W.drewN m) ∧ Hid (∀ j y, j < k → xs[j]? = some y → X ≠ y)) (fun i _ => xs.length - (intOf i).toNat)
  case atStart => exact ⟨0, Nat.zero_le _, rfl, ⟨0, rfl⟩, fun j y hj => absurd hj (by omega)⟩
  case round =>
    obtain ⟨k, hk, rfl, ⟨m, rfl⟩, Hno⟩ := hrel
    by_cases hlt : k < xs.length
    · obtain ⟨b, o, rfl, hbl, hcell⟩ := hrow.rule hlt
      obtain ⟨y, hy⟩ : ∃ y, xs[k]? = some y := ⟨_, List.getElem?_eq_getElem hlt⟩
      obtain ⟨g0, g1, g2⟩ := hcell k y hy
      have d0 := (hB.out.cell (p := ⟨b, o + k * 3, none⟩) hbl).trans g0
      have d1 := (hB.out.cell (p := ⟨b, o + k * 3 + 1, none⟩) hbl).trans g1
      have d2 := (hB.out.cell (p := ⟨b, o + k * 3 + 2, none⟩) hbl).trans g2
      have x0 := HKX.out.cell (i := 0) (v := .string X.letter) rfl
      have x1 := HKX.out.cell (i := 1) (v := .int .i64 X.left) rfl
      have x2 := HKX.out.cell (i := 2) (v := .int .i64 X.right) rfl
      have Hy := Lib.hid hy
      have hki : (k : Int) < (xs.length : Int) := by omega
      clear hcell hy g0 g1 g2
      have hno' : X ≠ y → Hid (∀ j z, j < k + 1 → xs[j]? = some z → X ≠ z) := fun hne j z hj hz => by
        by_cases e : j = k
        · subst e
          rw [Hy.out] at hz; injection hz with hz; rw [← hz]; exact hne
        · exact Hno.out j z (by omega) hz
      have Hno' := Lib.hid hno'
      clear hno'
      by_cases e2 : X = y
      · subst e2
        have he := Lib.hid (show xs.idxOf X = k from Nat.le_antisymm (idxOf_le_of Hy.out) (idxOf_ge Hno.out hk))
        go_wp2_with fail
        go_quiet (fail)
        go_wp2_with fail
        go_ret
        exact ⟨ret_int (by rw [idxR, he.out, if_pos hlt]), below_drewN (below_drewN hB.out _) _⟩
      · have HNE := Lib.hid e2
        rcases rule_ne e2 with f1 | ⟨f1, f2⟩ | ⟨f1, f2, f3⟩
        · clear e2
          go_wp2_with fail
          go_quiet (fail)
          go_wp2_with fail
          go_roundw
          case rel => exact ⟨k + 1, by omega, by go_num, ⟨_, rfl⟩, Hno'.out HNE.out⟩
          case measure => simp [intOf]; omega
        · rw [f1] at x0
          clear e2 f1
          go_wp2_with fail
          go_quiet (fail)
          go_wp2_with fail
          go_roundw
          case rel => exact ⟨k + 1, by omega, by go_num, ⟨_, rfl⟩, Hno'.out HNE.out⟩
          case measure => simp [intOf]; omega
        · rw [f1] at x0
          rw [f2] at x1
          clear e2 f1 f2
          go_wp2_with fail
          go_quiet (fail)
          go_wp2_with fail
          go_roundw
          case rel => exact ⟨k + 1, by omega, by go_num, ⟨_, rfl⟩, Hno'.out HNE.out⟩
          case measure => simp [intOf]; omega
    · have hkn : k = xs.length := by omega
      have hge := idxOf_ge Hno.out hk
      go_wp2
      go_ret
      exact ⟨ret_int (by rw [idxR, if_neg (by omega)]), below_drewN hB.out _⟩
theorem containsRules_any (v : Value) (xs : List GRule) (X : GRule) (w : World) (h : Sl RuleE w w.heap.size v xs) :
    Calls Tryz.prog 158 #[v, .agg #[.string X.letter, .int .i64 X.left, .int .i64 X.right]] w fun e w' => e = .returned (.bool (xs.contains X)) ∧ Below w.heap.size w w' := by
  have HS := Lib.hid h
  obtain ⟨A, c, rfl, _⟩ := h
  go_enter Tryz.func158, Tryz.ntmps158
  go_wp2_with fail
  refine (indexRules_any _ xs X _ (HS.out.up (by repeat (first | exact Below.refl _ _ | (refine Below.alloc ?_ (by first | omega | (simp; done) | (simp; omega)) _) | refine below_drewN ?_ _ | refine Below.drew ?_)))).mono ?_
  rintro e w2 ⟨rfl, hb2⟩
  go_wp2
  go_ret
  exact ⟨ret_bool (idxR_pos xs X), (Below.unalloc hb2).1⟩
set_option maxRecDepth 100000 in
theorem hasLetter_any (v : Value) (xs : List GRule) (k : Nat) (w : World) (h : Sl RuleE w w.heap.size v xs) (hk : k < 4) :
    Calls Tryz.prog 128 #[.agg #[v], .int .u8 (97 + k : Int)] w fun e w' => e = .returned (.bool (hasL xs k)) ∧ Below w.heap.size w w' := by
  have HS := Lib.hid h
  have hc : (97 + k : Int) = ((ltr k).toNat : Int) := by
    have : k = 0 ∨ k = 1 ∨ k = 2 ∨ k = 3 := by omega
    rcases this with rfl | rfl | rfl | rfl <;> rfl
  obtain ⟨A, c, rfl, _⟩ := h
  rw [hc]
  clear hc
  go_enter Tryz.func128, Tryz.ntmps128
  go_wp2_with fail
  have hcA : (w.alloc (Obj.cells #[Value.slice A xs.length c] 31)).drew.cell? ⟨w.heap.size, 0, none⟩ = some (.slice A xs.length c) := by simp [go_sem]
  have KB := And.intro (show Below (w.alloc (Obj.cells #[Value.slice A xs.length c] 31)).heap.size (w.alloc (Obj.cells #[Value.slice A xs.length c] 31)) (w.alloc (Obj.cells #[Value.slice A xs.length c] 31)).drew from Below.drew (Below.refl _ _)) hcA
  have hlt : w.heap.size < (w.alloc (Obj.cells #[Value.slice A xs.length c] 31)).heap.size := by simp
  go_region_held3 (fun w' => Below (w.alloc (Obj.cells #[Value.slice A xs.length c] 31)).heap.size (w.alloc (Obj.cells #[Value.slice A xs.length c] 31)) w' ∧ w'.cell? ⟨w.heap.size, 0, none⟩ = some (.slice A xs.length c))
    (first | (with_reducible exact KB) | (with_reducible exact keepB KB hb1 hlt) | (with_reducible exact keepB (keepB KB hb1 hlt) hb2 hlt))
    (first
      | (go_at_call 149; (refine (letter_any _ _).mono ?_); rintro e w1 ⟨rfl, hb1⟩)
      | (go_at_call 158; (refine (containsRules_any _ xs (letR (ltr k)) _ ((HS.out.up (by repeat (first | exact Below.refl _ _ | (refine Below.alloc ?_ (by first | omega | (simp; done) | (simp; omega)) _) | refine below_drewN ?_ _ | refine Below.drew ?_))).up hb1)).mono ?_); rintro e w2 ⟨rfl, hb2⟩))
  have hz := (Below.unalloc (keepB (keepB KB hb1 hlt) hb2 hlt).1).1
  have HZ := Lib.hid hz
  clear KB hb1 hb2 hz hcA
  go_wp2
  go_ret
  exact ⟨ret_bool (by simp [hasL]), HZ.out⟩
end Go.Proofs.YtfapnipmgmpgaaaGreatDoor

