import Derived.Test.YtoemoifeiigkoaaPart5
import Derived.Test.YtoemoifeiigkoaaPart6
import Derived.Test.YtoemoifeiigkoaaJoin3
import Derived.Test.YtoemoifeiigkoaaLen
import Derived.Test.YtoemoifeiigkoaaAuto2
namespace Go.Proofs.Ytoemoifeiigkoaa
open Go.RowKit

/-- What PartGrammar answers. -/
def partX (xs : List GRule) (i j : Int) : List GRule := match lens xs with
  | some ls => partG xs ls i j
  | none => []
def partIn (xs : List GRule) (i j : Int) : Bool := match lens xs with
  | some ls => decide (0 ≤ i) && decide (i ≤ j) && decide (j ≤ lastI ls)
  | none => false
def partOut (xs : List GRule) (i j : Int) : List GRule := if gramOk xs && partIn xs i j then limOut (partX xs i j) else []
def partCode (xs : List GRule) (i j : Int) : Int := if gramOk xs then if partIn xs i j then limCode (partX xs i j) else 2 else 1
theorem partOut_yes {xs : List GRule} {ls : List Int} {i j : Int} (h : gramOk xs = true) (hl : lens xs = some ls) (hi : 0 ≤ i ∧ i ≤ j ∧ j ≤ lastI ls) : partOut xs i j = limOut (partG xs ls i j) ∧ partCode xs i j = limCode (partG xs ls i j) := by
  have e1 : partIn xs i j = true := by simp [partIn, hl, hi]
  have e2 : partX xs i j = partG xs ls i j := by simp [partX, hl]
  simp [partOut, partCode, h, e1, e2]
theorem partOut_no {xs : List GRule} {ls : List Int} {i j : Int} (h : gramOk xs = true) (hl : lens xs = some ls) (hi : ¬ (0 ≤ i ∧ i ≤ j ∧ j ≤ lastI ls)) : partOut xs i j = [] ∧ partCode xs i j = 2 := by
  have e1 : partIn xs i j = false := by
    simp only [partIn, hl]
    rw [Bool.eq_false_iff]
    intro e; simp at e; exact hi ⟨e.1.1, e.1.2, e.2⟩
  simp [partOut, partCode, h, e1]
theorem partOut_bad {xs : List GRule} {i j : Int} (h : gramOk xs = false) : partOut xs i j = [] ∧ partCode xs i j = 1 := by simp [partOut, partCode, h]
theorem inR_iff (n a b : Int) : inR n a b = (decide (a ≤ n) && decide (n ≤ b)) := rfl

set_option maxRecDepth 100000 in
set_option maxHeartbeats 1000000 in
theorem implPart_any (v : Value) (xs : List GRule) (i j : Int) (w : World) (h : Sl RuleE w w.heap.size v xs) (hn : xs.length ≤ 1048576) :
    Calls Try.prog 16 #[.agg #[v], .int .i64 i, .int .i64 j] w (GRes (partOut xs i j) (partCode xs i j) w) := by
  have h1 := fun o o' => (h.below (((Below.refl w.heap.size w).alloc (Nat.le_refl _) o).alloc (by simp) o')).le (B' := ((w.alloc o).alloc o').heap.size) (by simp; omega)
  have H1 := Lib.hid h1
  clear h1
  obtain ⟨A, c, rfl, hc, hm, hrow⟩ := h
  clear hm hrow
  go_enter Try.func16, Try.ntmps16
  go_wp2_with fail
  refine (lengths_any _ xs _ (H1.out _ _) (by omega)).mono ?_
  rintro e w1 ⟨hb1, hpost⟩
  obtain ⟨hc1, hf1⟩ := bcell hb1
  have hz1 : w.heap.size + 1 < w1.heap.size := by have := hb1.size; simp at this; omega
  have a1 : w1.cell? ⟨w.heap.size, 0, none⟩ = some (.slice A xs.length c) := by rw [hc1 _ _ (by first | omega | (simp; done) | (simp; omega))]; simp [go_sem]
  have c1 : w1.cell? ⟨w.heap.size + 1, 0, none⟩ = some (.slice none 0 0) := by rw [hc1 _ _ (by first | omega | (simp; done) | (simp; omega))]; simp [go_sem]
  have f1 : w1.frozen? ⟨w.heap.size + 1, 0, none⟩ = false := by rw [hf1 _ _ (by first | omega | (simp; done) | (simp; omega))]; simp [go_sem]
  have S1 := Lib.hid ((H1.out (Obj.cells #[Value.slice A xs.length c] 28) (Obj.cells #[Value.slice none 0 0] 28)).up hb1)
  have B1 := Lib.hid (((Below.refl w.heap.size w).alloc (Nat.le_refl _) (Obj.cells #[Value.slice A xs.length c] 28)).alloc (by simp) (Obj.cells #[Value.slice none 0 0] 28) |>.trans (hb1.mono (by simp; omega)))
  clear hc1 hf1 hb1
  have hcase : (gramOk xs = false ∧ ∃ vv, e = .returned (.tuple #[vv, .bool false])) ∨ (gramOk xs = true ∧ ∃ ls vv, lens xs = some ls ∧ e = .returned (.tuple #[vv, .bool true]) ∧ Sl IntE w1 w1.heap.size vv ls) := by
    rcases hpost with ⟨ls, vv, hl, he, ho⟩ | ⟨hl, he⟩
    · by_cases h4 : xs.length ≤ 400
      · exact .inr ⟨by simp [gramOk, h4, hl], ls, vv, hl, by rw [he]; simp [h4], ho.sl⟩
      · exact .inl ⟨by simp [gramOk, h4], vv, by rw [he]; simp [h4]⟩
    · exact .inl ⟨by simp [gramOk, hl], _, he⟩
  clear hpost
  rcases hcase with ⟨hok, vv, rfl⟩ | ⟨hok, ls, vv, hl, rfl, hL⟩
  · obtain ⟨e1, e2⟩ := partOut_bad (i := i) (j := j) hok
    have E1 := Lib.hid e1
    have E2 := Lib.hid e2
    clear e1 e2 hok
    go_wp2
    refine bodyPost_ret (v := .tuple #[.agg #[.slice none 0 0], .int .i64 1]) (by simp [results, Try.results16, go_sem, c1]) rfl ⟨?_, _, ?_, by rw [E2.out]⟩
    · exact B1.out.setCell (by show w.heap.size ≤ w.heap.size + 1; omega) _
    · rw [E1.out]; exact World.ownsRow_nil _ _ _ _
  · have Hok := Lib.hid hok
    have Hl := Lib.hid hl
    have HL := Lib.hid hL
    obtain ⟨AL, cL, rfl, _⟩ := hL
    clear hok hl
    by_cases hin : 0 ≤ i ∧ i ≤ j ∧ j ≤ lastI ls
    · obtain ⟨E1, E2⟩ := partOut_yes Hok.out Hl.out hin
      obtain ⟨i1, i2, i3⟩ := hin
      have E1 := Lib.hid E1
      have E2 := Lib.hid E2
      have hw1 : inR i 0 j = true := by simp [inR_iff, i1, i2]
      have hgt : ¬ (j > lastI ls) := by omega
      clear i1 i2 i3
      go_wp2_with fail
      refine (within_yes _ _ _ _ hw1).mono ?_
      rintro e w' ⟨rfl, rfl⟩
      go_wp2_with fail
      refine (last_any _ ls _ HL.out).mono ?_
      rintro e w' ⟨rfl, rfl⟩
      go_wp2_with fail
      refine (part_any _ _ xs ls i j _ S1.out HL.out Hl.out hn).mono ?_
      rintro e w3 ⟨hb3, v3, own3, rfl⟩
      have z3 : w1.heap.size ≤ w3.heap.size := hb3.size
      have hz3 : w.heap.size + 1 < w3.heap.size := by omega
      have c3 := cell_up c1 hb3 (by omega)
      have f3 : w3.frozen? ⟨w.heap.size + 1, 0, none⟩ = false := by rw [hb3.frozen hz1, f1]
      have B3 := Lib.hid (B1.out.trans (hb3.mono (by omega)))
      have O3 := Lib.hid own3
      have hpl := partG_len Hl.out i j
      clear a1 c1 f1 hb3 own3
      go_wp2_with fail
      refine (orLimit_any _ _ _ _ O3.out (by omega)).mono ?_
      rintro e w4 ⟨hb4, v4, own4, rfl⟩
      obtain ⟨A4, k4, rfl, _⟩ := own_nil own4
      have c4 := cell_up c3 hb4 (by omega)
      have f4 : w4.frozen? ⟨w.heap.size + 1, 0, none⟩ = false := by rw [hb4.frozen hz3, f3]
      have B4 := Lib.hid (B3.out.trans (hb4.mono (by omega)))
      have O4 := Lib.hid own4
      clear c3 f3 hb4 own4
      go_wp2
      refine bodyPost_ret (v := .tuple #[.agg #[.slice A4 (limOut (partG xs ls i j)).length k4], .int .i64 (limCode (partG xs ls i j))]) (by simp [results, Try.results16, go_sem, c4]) rfl ⟨?_, _, ?_, by rw [E2.out]⟩
      · exact B4.out.setCell (by show w.heap.size ≤ w.heap.size + 1; omega) _
      · rw [E1.out]
        exact ownsRow_more (ownsRow_setCell_below O4.out (a := ⟨w.heap.size + 1, 0, none⟩) (by show w.heap.size + 1 < w1.heap.size; omega) _) (by omega)
    · obtain ⟨e1, e2⟩ := partOut_no Hok.out Hl.out hin
      have E1 := Lib.hid e1
      have E2 := Lib.hid e2
      have hcs : inR i 0 j = false ∨ (inR i 0 j = true ∧ j > lastI ls) := by
        by_cases h : 0 ≤ i ∧ i ≤ j
        · refine .inr ⟨by simp [inR_iff, h], ?_⟩
          omega
        · refine .inl ?_
          rw [Bool.eq_false_iff]
          intro e; simp [inR_iff] at e; exact h e
      clear e1 e2 hin
      rcases hcs with hw1 | ⟨hw1, hgt⟩
      · go_wp2_with fail
        refine (within_no _ _ _ _ hw1).mono ?_
        rintro e w' ⟨rfl, rfl⟩
        go_wp2_with fail
        refine bodyPost_ret (v := .tuple #[.agg #[.slice none 0 0], .int .i64 2]) (by simp [results, Try.results16, go_sem, c1]) rfl ⟨?_, _, ?_, by rw [E2.out]⟩
        · exact B1.out.setCell (by show w.heap.size ≤ w.heap.size + 1; omega) _
        · rw [E1.out]; exact World.ownsRow_nil _ _ _ _
      · go_wp2_with fail
        refine (within_yes _ _ _ _ hw1).mono ?_
        rintro e w' ⟨rfl, rfl⟩
        go_wp2_with fail
        refine (last_any _ ls _ HL.out).mono ?_
        rintro e w' ⟨rfl, rfl⟩
        go_wp2_with fail
        refine bodyPost_ret (v := .tuple #[.agg #[.slice none 0 0], .int .i64 2]) (by simp [results, Try.results16, go_sem, c1]) rfl ⟨?_, _, ?_, by rw [E2.out]⟩
        · exact B1.out.setCell (by show w.heap.size ≤ w.heap.size + 1; omega) _
        · rw [E1.out]; exact World.ownsRow_nil _ _ _ _

def partAsk (xs : List GRule) (i j : Int) : Int := if gramOk xs then if partIn xs i j then 0 else 2 else 1
set_option maxRecDepth 100000 in
set_option maxHeartbeats 1000000 in
theorem l02Part_any (b o : Nat) (v : Value) (xs : List GRule) (i j : Int) (w : World) (hp : w.cell? ⟨b, o, none⟩ = some v) (hbl : b < w.heap.size) (h : Sl RuleE w w.heap.size v xs) (hsm : SmallL xs) (hn : xs.length ≤ 1048576) :
    Calls Try.prog 72 #[.pointer (some ⟨b, o, none⟩), .int .i64 i, .int .i64 j] w fun e w' => e = .returned (.int .i64 (partAsk xs i j)) ∧ Below w.heap.size w w' := by
  have HR := Lib.hid h
  clear h
  go_enter Try.func72, Try.ntmps72
  go_wp2_with fail
  refine (l02Ok_any _ _ _ xs _ hp hbl HR.out hsm).mono ?_
  rintro e w1 ⟨rfl, hb1⟩
  have p1 := (hb1.cell (p := ⟨b, o, none⟩) hbl).trans hp
  have z1 : b < w1.heap.size := Nat.lt_of_lt_of_le hbl hb1.size
  have B1 := Lib.hid hb1
  have R1 := Lib.hid (HR.out.up hb1)
  clear hb1 hp
  by_cases hok : gramOk xs = true
  · have Hok := Lib.hid hok
    obtain ⟨h4, ls, hl⟩ := gram_lens hok
    have Hl := Lib.hid hl
    have ho2 : (!gramOk xs) = false := by simp [hok]
    clear hok hl
    by_cases hin : 0 ≤ i ∧ i ≤ j ∧ j ≤ lastI ls
    · have e1 : partIn xs i j = true := by simp [partIn, Hl.out, hin]
      have e2 : partAsk xs i j = 0 := by simp [partAsk, Hok.out, e1]
      have E2 := Lib.hid e2
      obtain ⟨i1, i2, i3⟩ := hin
      have n1 : ¬ i < 0 := by omega
      have n2 : ¬ i > j := by omega
      have n3 : ¬ j > lastI ls := by omega
      clear e1 e2 i1 i2 i3
      go_wp2_with fail
      refine (l02Length_any _ _ _ xs ls _ Hl.out p1 z1 R1.out hsm (by omega)).mono ?_
      rintro e w2 ⟨rfl, hb2⟩
      go_wp2_with fail
      go_ret
      exact ⟨by rw [E2.out]; rfl, B1.out.trans (hb2.mono B1.out.size)⟩
    · have e1 : partIn xs i j = false := by
        simp only [partIn, Hl.out]
        rw [Bool.eq_false_iff]
        intro e; simp at e; exact hin ⟨e.1.1, e.1.2, e.2⟩
      have e2 : partAsk xs i j = 2 := by simp [partAsk, Hok.out, e1]
      have E2 := Lib.hid e2
      have hcs : i < 0 ∨ (¬ i < 0 ∧ i > j) ∨ (¬ i < 0 ∧ ¬ i > j ∧ j > lastI ls) := by omega
      clear e1 e2 hin
      rcases hcs with d | ⟨d1, d2⟩ | ⟨d1, d2, d3⟩
      · go_wp2_with fail
        go_ret
        exact ⟨by rw [E2.out]; rfl, B1.out⟩
      · go_wp2_with fail
        go_ret
        exact ⟨by rw [E2.out]; rfl, B1.out⟩
      · go_wp2_with fail
        refine (l02Length_any _ _ _ xs ls _ Hl.out p1 z1 R1.out hsm (by omega)).mono ?_
        rintro e w2 ⟨rfl, hb2⟩
        go_wp2_with fail
        go_ret
        exact ⟨by rw [E2.out]; rfl, B1.out.trans (hb2.mono B1.out.size)⟩
  · have ho2 : (!gramOk xs) = true := by simp [hok]
    have e2 : partAsk xs i j = 1 := by simp [partAsk, hok]
    have E2 := Lib.hid e2
    clear e2 hok
    go_wp2_with fail
    go_ret
    exact ⟨by rw [E2.out]; rfl, B1.out⟩

set_option maxRecDepth 100000 in
set_option maxHeartbeats 1000000 in
theorem specPart_any (v : Value) (xs : List GRule) (i j : Int) (w : World) (h : Sl RuleE w w.heap.size v xs) (hn : xs.length ≤ 1048576) (hsm : SmallL xs) :
    Calls Try.prog 14 #[.agg #[v], .int .i64 i, .int .i64 j] w (GRes (partOut xs i j) (partCode xs i j) w) := by
  have h1 := fun o o' => (h.below (((Below.refl w.heap.size w).alloc (Nat.le_refl _) o).alloc (by simp) o')).le (B' := ((w.alloc o).alloc o').heap.size) (by simp; omega)
  have H1 := Lib.hid h1
  clear h1
  obtain ⟨A, c, rfl, hc, hm, hrow⟩ := h
  clear hm hrow
  go_enter Try.func14, Try.ntmps14
  go_wp2_with fail
  refine (l02Part_any _ _ _ xs i j _ (by simp [go_sem]) (by simp; omega) (H1.out _ _) hsm hn).mono ?_
  rintro e w1 ⟨rfl, hb1⟩
  obtain ⟨hc1, hf1⟩ := bcell hb1
  have hz1 : w.heap.size + 1 < w1.heap.size := by have := hb1.size; simp at this; omega
  have a1 : w1.cell? ⟨w.heap.size, 0, none⟩ = some (.slice A xs.length c) := by rw [hc1 _ _ (by first | omega | (simp; done) | (simp; omega))]; simp [go_sem]
  have c1 : w1.cell? ⟨w.heap.size + 1, 0, none⟩ = some (.slice none 0 0) := by rw [hc1 _ _ (by first | omega | (simp; done) | (simp; omega))]; simp [go_sem]
  have f1 : w1.frozen? ⟨w.heap.size + 1, 0, none⟩ = false := by rw [hf1 _ _ (by first | omega | (simp; done) | (simp; omega))]; simp [go_sem]
  have S1 := Lib.hid ((H1.out (Obj.cells #[Value.slice A xs.length c] 28) (Obj.cells #[Value.slice none 0 0] 28)).up hb1)
  have B1 := Lib.hid (((Below.refl w.heap.size w).alloc (Nat.le_refl _) (Obj.cells #[Value.slice A xs.length c] 28)).alloc (by simp) (Obj.cells #[Value.slice none 0 0] 28) |>.trans (hb1.mono (by simp; omega)))
  clear hc1 hf1 hb1
  by_cases hgo : gramOk xs = true ∧ partIn xs i j = true
  · obtain ⟨hok, hin⟩ := hgo
    have ea : partAsk xs i j = 0 := by simp [partAsk, hok, hin]
    obtain ⟨h4, ls, hl⟩ := gram_lens hok
    have hi : 0 ≤ i ∧ i ≤ j ∧ j ≤ lastI ls := by
      simp only [partIn, hl] at hin
      simp at hin; exact ⟨hin.1.1, hin.1.2, hin.2⟩
    obtain ⟨E1, E2⟩ := partOut_yes hok hl hi
    have E1 := Lib.hid E1
    have E2 := Lib.hid E2
    have Hl := Lib.hid hl
    have Hi := Lib.hid hi
    rw [ea]
    have z0 : w.heap.size < w1.heap.size := by omega
    clear ea hok hin hl hi
    go_wp2_with fail
    refine (l02Cut_any _ _ _ xs ls i j _ a1 z0 S1.out hsm Hl.out h4 Hi.out.1 Hi.out.2.1 Hi.out.2.2).mono ?_
    rintro e w2 ⟨hb2, v2, own2, rfl⟩
    obtain ⟨A2, k2, rfl, _⟩ := own_nil own2
    have c2 := cell_up c1 hb2 (by omega)
    have f2 : w2.frozen? ⟨w.heap.size + 1, 0, none⟩ = false := by rw [hb2.frozen hz1, f1]
    have z2 : w.heap.size + 1 < w2.heap.size := by have := hb2.size; omega
    have z12 : w1.heap.size ≤ w2.heap.size := hb2.size
    have B2 := Lib.hid (B1.out.trans (hb2.mono (by omega)))
    have hcg := cutG_ok (okAll_lens Hl.out) (piecesL xs ls i j) (pieces_mem Hl.out i j)
    have hpl := pieces_len Hl.out i j
    have Hcg := Lib.hid hcg
    obtain ⟨C, hC⟩ : ∃ C, cutG xs (piecesL xs ls i j) = C := ⟨_, rfl⟩
    rw [hC] at own2 Hcg
    rw [hC]
    have HC : Hid (partG xs ls i j = trimG C) := by rw [Hid, partG, hC]
    have hcl : C.length ≤ 4194304 := by have := Hcg.out.2; omega
    have bx3 : Boxed (w2.alloc (Obj.cells #[Value.slice A2 C.length k2] 28)) w2.heap.size 28 (.slice A2 C.length k2) := Boxed.new _ _ _
    have S3 := Lib.hid ((own2.alloc (Obj.cells #[Value.slice A2 C.length k2] 28)).sl)
    have hb3 : Below w2.heap.size w2 (w2.alloc (Obj.cells #[Value.slice A2 C.length k2] 28)) := (Below.refl _ _).alloc (Nat.le_refl _) _
    have c3 := cell_up c2 hb3 (by omega)
    have f3 : (w2.alloc (Obj.cells #[Value.slice A2 C.length k2] 28)).frozen? ⟨w.heap.size + 1, 0, none⟩ = false := by rw [hb3.frozen z2, f2]
    have B3 := Lib.hid (B2.out.trans (hb3.mono (by omega)))
    have cb3 := bx3.cell
    have lb3 := bx3.lt
    clear a1 c1 f1 c2 f2 hb2 own2 hC hb3 bx3 hcg
    go_wp2_with fail
    refine (l02Trim_any _ _ _ C _ cb3 lb3 S3.out hcl Hcg.out.1).mono ?_
    rintro e w4 ⟨hb4, v4, own4, rfl⟩
    have c4 := cell_up c3 hb4 (by simp; omega)
    have f4 : w4.frozen? ⟨w.heap.size + 1, 0, none⟩ = false := by rw [hb4.frozen (by simp; omega), f3]
    have z4 : w.heap.size + 1 < w4.heap.size := by have := hb4.size; simp at this; omega
    have z24 : w2.heap.size + 1 ≤ w4.heap.size := by have := hb4.size; simpa using this
    have B4 := Lib.hid (B3.out.trans (hb4.mono (by simp; omega)))
    have O4 := Lib.hid own4
    clear c3 f3 hb4 own4 cb3 lb3
    go_wp2_with fail
    refine (l02Told_any _ _ _ _ O4.out (trimG_small Hcg.out.1)).mono ?_
    rintro e w5 ⟨hb5, v5, own5, rfl⟩
    obtain ⟨A5, k5, rfl, _⟩ := own_nil own5
    have c5 := cell_up c4 hb5 (by omega)
    have f5 : w5.frozen? ⟨w.heap.size + 1, 0, none⟩ = false := by rw [hb5.frozen z4, f4]
    have B5 := Lib.hid (B4.out.trans (hb5.mono (by omega)))
    have O5 := Lib.hid own5
    clear c4 f4 hb5 own5
    go_wp2
    refine bodyPost_ret (v := .tuple #[.agg #[.slice A5 (limOut (trimG C)).length k5], .int .i64 (limCode (trimG C))]) (by simp [results, Try.results14, go_sem, c5]) rfl ⟨?_, _, ?_, by rw [E2.out, HC.out]⟩
    · exact B5.out.setCell (by show w.heap.size ≤ w.heap.size + 1; omega) _
    · rw [E1.out, HC.out]
      exact ownsRow_more (ownsRow_setCell_below O5.out (a := ⟨w.heap.size + 1, 0, none⟩) (by simp; omega) _) (by simp; omega)
  · have hcs : (partOut xs i j = [] ∧ partCode xs i j = partAsk xs i j) ∧ (partAsk xs i j = 1 ∨ partAsk xs i j = 2) := by
      unfold partOut partCode partAsk
      cases hg : gramOk xs <;> cases hp : partIn xs i j <;> simp_all
    obtain ⟨⟨e1, e2⟩, e3⟩ := hcs
    have E1 := Lib.hid e1
    have E2 := Lib.hid e2
    clear e1 e2 hgo
    rcases e3 with e | e
    all_goals
      rw [e]
      have E3 := Lib.hid e
      clear e
      go_wp2
      first
        | refine bodyPost_ret (v := .tuple #[.agg #[.slice none 0 0], .int .i64 1]) (by simp [results, Try.results14, go_sem, c1]) rfl ⟨?_, _, ?_, by rw [E2.out, E3.out]⟩
        | refine bodyPost_ret (v := .tuple #[.agg #[.slice none 0 0], .int .i64 2]) (by simp [results, Try.results14, go_sem, c1]) rfl ⟨?_, _, ?_, by rw [E2.out, E3.out]⟩
      · exact B1.out.setCell (by show w.heap.size ≤ w.heap.size + 1; omega) _
      · rw [E1.out]; exact World.ownsRow_nil _ _ _ _
end Go.Proofs.Ytoemoifeiigkoaa
