import Derived.Test.YtoemoifeiigkoaaDoorM6
import Derived.Test.YtoemoifeiigkoaaDoorM3
import Derived.Test.YtoemoifeiigkoaaDoorM4
import Derived.Test.YtoemoifeiigkoaaDoorM1
import Derived.Lib.UnsafeStr
import Derived.Laws.IdiomStrings
import Derived.Test.YtoemoifeiigkoaaDoorM2
import Derived.Test.YtoemoifeiigkoaaDoorM5
import Derived.Deep.CutRange
import Derived.Deep.DeepCutAuto
namespace Go.Proofs.YtoemoifeiigkoaaDoor
open Go.RowKit

def limOut (xs : List GRule) : List GRule := if gramOk xs then xs else []
def limCode (xs : List GRule) : Int := if gramOk xs then 0 else 3
def joinOut (xs ys : List GRule) : List GRule := if gramOk xs && gramOk ys then limOut (joinG xs ys) else []
def joinCode (xs ys : List GRule) : Int := if gramOk xs && gramOk ys then limCode (joinG xs ys) else 1

theorem lens_okRule {xs : List GRule} {ls : List Int} (h : lens xs = some ls) : ∀ (k : Nat) r, xs[k]? = some r → okRule k r = true := by
  intro k r hr
  rcases hk : lens (xs.take k) with _ | out
  · have h2 : lens xs = (xs.drop k).foldl lensStep (lens (xs.take k)) := by unfold lens; rw [← List.foldl_append, List.take_append_drop]
    rw [h2, hk, lens_none] at h; cases h
  · by_cases hok : okRule k r = true
    · exact hok
    · have hlen := lens_length hk
      rw [List.length_take, Nat.min_eq_left (Nat.le_of_lt (List.getElem?_eq_some_iff.1 hr).1)] at hlen
      have hb := lens_bad hk hr (lensStep_none (by rw [hlen]; simpa using hok))
      rw [hb] at h; cases h
theorem gram_lens {xs : List GRule} (h : gramOk xs = true) : xs.length ≤ 400 ∧ ∃ ls, lens xs = some ls := by
  simp only [gramOk, Bool.and_eq_true, decide_eq_true_eq] at h
  exact ⟨h.1, Option.isSome_iff_exists.1 h.2⟩
theorem gram_smallP {xs : List GRule} (h : gramOk xs = true) : SmallP xs := by
  obtain ⟨hl, ls, hls⟩ := gram_lens h
  intro r hr hp
  obtain ⟨k, hk, he⟩ := List.getElem_of_mem hr
  have hok := lens_okRule hls k r (by rw [List.getElem?_eq_getElem hk, he])
  simp [okRule, hp] at hok
  omega
theorem joinG_len {xs ys : List GRule} (h : xs.length ≤ 400) (h' : ys.length ≤ 400) : (joinG xs ys).length ≤ 801 := by
  unfold joinG
  split
  · omega
  · split
    · omega
    · simp; omega

def LimPost (base : Nat) (xs : List GRule) (w : World) (e : Ending) (w' : World) : Prop :=
  Below w.heap.size w w' ∧ ∃ v', OwnRules w' base v' (limOut xs) ∧ e = .returned (.tuple #[.agg #[v'], .int .i64 (limCode xs)])

theorem orLimit_any (base : Nat) (v : Value) (xs : List GRule) (w : World) (h : OwnRules w base v xs) (hn : xs.length ≤ 1099511627776) :
    Calls Tryd.prog 24 #[.agg #[v]] w (LimPost base xs w) := by
  have h1 := fun o o' => (h.sl.below (((Below.refl w.heap.size w).alloc (Nat.le_refl _) o).alloc (by simp) o')).le (B' := ((w.alloc o).alloc o').heap.size) (by simp; omega)
  have hv : v.ownBlock ≠ some (w.heap.size + 1) := fun e => by have := (World.ownsRow.lt h _ e).2; omega
  have H1 := Lib.hid h1
  have H := Lib.hid h
  have Hv := Lib.hid hv
  clear h1 hv
  obtain ⟨A, c, rfl, _⟩ := own_nil h
  clear h
  go_enter Tryd.func24, Tryd.ntmps24
  go_wp2_with fail
  refine (ValidGrammar_any _ _ _ (H1.out _ _) hn).mono ?_
  rintro e w1 ⟨rfl, hb1⟩
  obtain ⟨hc1, hf1⟩ := bcell hb1
  have hz1 : w.heap.size + 1 < w1.heap.size := by have := hb1.size; simp at this; omega
  have hc2 : w1.cell? ⟨w.heap.size + 1, 0, none⟩ = some (.slice none 0 0) := by rw [hc1 _ _ (by simp)]; simp [go_sem]
  have hf2 : w1.frozen? ⟨w.heap.size + 1, 0, none⟩ = false := by rw [hf1 _ _ (by simp)]; simp [go_sem]
  have hc3 : w1.cell? ⟨w.heap.size, 0, none⟩ = some (.slice A xs.length c) := by rw [hc1 _ _ (by simp; omega)]; simp [go_sem]
  have Hb1 := Lib.hid (((Below.refl w.heap.size w).alloc (Nat.le_refl _) (Obj.cells #[Value.slice A xs.length c] 26)).alloc (by simp) (Obj.cells #[Value.slice none 0 0] 26) |>.trans (hb1.mono (by simp; omega)))
  clear hc1 hf1 hb1
  by_cases hok : gramOk xs = true
  · have hok2 : (!gramOk xs) = false := by simp [hok]
    have Hok := Lib.hid hok
    clear hok
    go_wp2
    refine bodyPost_ret (v := .tuple #[.agg #[.slice A xs.length c], .int .i64 0]) (by simp [results, Tryd.results24, go_sem, hc2]) rfl ⟨?_, _, ?_, by rw [limCode, if_pos Hok.out]⟩
    · exact Hb1.out.setCell (by show w.heap.size ≤ w.heap.size + 1; omega) _
    · rw [limOut, if_pos Hok.out]
      refine own_keep (OwnRules.below H.out Hb1.out) fun g hg => Below.heap_setCell _ _ _ _ (fun e => Hv.out ?_)
      rw [hg, e]
  · have hok2 : (!gramOk xs) = true := by simp [hok]
    have Hok := Lib.hid hok
    clear hok
    go_wp2
    refine bodyPost_ret (v := .tuple #[.agg #[.slice none 0 0], .int .i64 3]) (by simp [results, Tryd.results24, go_sem, hc2]) rfl ⟨?_, _, ?_, by rw [limCode, if_neg Hok.out]⟩
    · exact Hb1.out.setCell (by show w.heap.size ≤ w.heap.size + 1; omega) _
    · rw [limOut, if_neg Hok.out]; exact World.ownsRow_nil _ _ _ _

set_option maxHeartbeats 1000000 in
theorem implJoin_any (v u : Value) (xs ys : List GRule) (w : World) (h : Sl RuleE w w.heap.size v xs) (h' : Sl RuleE w w.heap.size u ys) (hn : xs.length ≤ 1048576) (hn' : ys.length ≤ 1048576) :
    Calls Tryd.prog 8 #[.agg #[v], .agg #[u]] w (GRes (joinOut xs ys) (joinCode xs ys) w) := by
  have h1 := fun o o' o'' => (h.below ((((Below.refl w.heap.size w).alloc (Nat.le_refl _) o).alloc (by simp) o').alloc (by first | omega | (simp; done) | (simp; omega)) o'')).le (B' := (((w.alloc o).alloc o').alloc o'').heap.size) (by simp; omega)
  have h2 := fun o o' o'' => (h'.below ((((Below.refl w.heap.size w).alloc (Nat.le_refl _) o).alloc (by simp) o').alloc (by first | omega | (simp; done) | (simp; omega)) o'')).le (B' := (((w.alloc o).alloc o').alloc o'').heap.size) (by simp; omega)
  have H1 := Lib.hid h1
  have H2 := Lib.hid h2
  clear h1 h2
  obtain ⟨A, c, rfl, hc, hm, hrow⟩ := h
  obtain ⟨A', c', rfl, hc', hm', hrow'⟩ := h'
  clear hm hm' hrow hrow'
  go_enter Tryd.func8, Tryd.ntmps8
  go_wp2_with fail
  refine (ValidGrammar_any _ _ _ (H1.out _ _ _) (by omega)).mono ?_
  rintro e w1 ⟨rfl, hb1⟩
  obtain ⟨hc1, hf1⟩ := bcell hb1
  have hz1 : w.heap.size + 2 < w1.heap.size := by have := hb1.size; simp at this; omega
  have a1 : w1.cell? ⟨w.heap.size, 0, none⟩ = some (.slice A xs.length c) := by rw [hc1 _ _ (by first | omega | (simp; done) | (simp; omega))]; simp [go_sem]
  have b1 : w1.cell? ⟨w.heap.size + 1, 0, none⟩ = some (.slice A' ys.length c') := by rw [hc1 _ _ (by first | omega | (simp; done) | (simp; omega))]; simp [go_sem]
  have c1 : w1.cell? ⟨w.heap.size + 2, 0, none⟩ = some (.slice none 0 0) := by rw [hc1 _ _ (by first | omega | (simp; done) | (simp; omega))]; simp [go_sem]
  have f1 : w1.frozen? ⟨w.heap.size + 2, 0, none⟩ = false := by rw [hf1 _ _ (by first | omega | (simp; done) | (simp; omega))]; simp [go_sem]
  have S1 := Lib.hid ((H1.out (Obj.cells #[Value.slice A xs.length c] 26) (Obj.cells #[Value.slice A' ys.length c'] 26) (Obj.cells #[Value.slice none 0 0] 26)).up hb1)
  have T1 := Lib.hid ((H2.out (Obj.cells #[Value.slice A xs.length c] 26) (Obj.cells #[Value.slice A' ys.length c'] 26) (Obj.cells #[Value.slice none 0 0] 26)).up hb1)
  have B1 := Lib.hid ((((Below.refl w.heap.size w).alloc (Nat.le_refl _) (Obj.cells #[Value.slice A xs.length c] 26)).alloc (by simp) (Obj.cells #[Value.slice A' ys.length c'] 26)).alloc (by simp; omega) (Obj.cells #[Value.slice none 0 0] 26) |>.trans (hb1.mono (by simp; omega)))
  clear hc1 hf1 hb1
  by_cases hok : gramOk xs = true
  · have hok2 : (!gramOk xs) = false := by simp [hok]
    have Hok := Lib.hid hok
    clear hok
    go_wp2_with fail
    refine (ValidGrammar_any _ _ _ T1.out (by omega)).mono ?_
    rintro e w2 ⟨rfl, hb2⟩
    have z2 : w1.heap.size ≤ w2.heap.size := hb2.size
    have hz2 : w.heap.size + 2 < w2.heap.size := by omega
    have a2 := cell_up a1 hb2 (by omega)
    have b2 := cell_up b1 hb2 (by omega)
    have c2 := cell_up c1 hb2 (by omega)
    have f2 : w2.frozen? ⟨w.heap.size + 2, 0, none⟩ = false := by rw [hb2.frozen hz1, f1]
    have S2 := Lib.hid (S1.out.up hb2)
    have T2 := Lib.hid (T1.out.up hb2)
    have B2 := Lib.hid (B1.out.trans (hb2.mono (by omega)))
    clear a1 b1 c1 f1 hb2
    by_cases hoky : gramOk ys = true
    · have hoky2 : (!gramOk ys) = false := by simp [hoky]
      have Hoky := Lib.hid hoky
      clear hoky
      go_wp2_with fail
      refine (join_any _ _ _ _ _ S2.out T2.out hn hn' (gram_smallP Hoky.out)).mono ?_
      rintro e w3 ⟨hb3, v3, own3, rfl⟩
      have z3 : w2.heap.size ≤ w3.heap.size := hb3.size
      have hz3 : w.heap.size + 2 < w3.heap.size := by omega
      have c3 := cell_up c2 hb3 (by omega)
      have f3 : w3.frozen? ⟨w.heap.size + 2, 0, none⟩ = false := by rw [hb3.frozen hz2, f2]
      have B3 := Lib.hid (B2.out.trans (hb3.mono (by omega)))
      have O3 := Lib.hid own3
      have hjl := joinG_len (gram_lens Hok.out).1 (gram_lens Hoky.out).1
      clear a2 b2 c2 f2 hb3 own3
      go_wp2_with fail
      refine (orLimit_any _ _ _ _ O3.out (by omega)).mono ?_
      rintro e w4 ⟨hb4, v4, own4, rfl⟩
      obtain ⟨A4, k4, rfl, _⟩ := own_nil own4
      have c4 := cell_up c3 hb4 (by omega)
      have f4 : w4.frozen? ⟨w.heap.size + 2, 0, none⟩ = false := by rw [hb4.frozen hz3, f3]
      have B4 := Lib.hid (B3.out.trans (hb4.mono (by omega)))
      have O4 := Lib.hid own4
      clear c3 f3 hb4 own4
      have e1 : joinOut xs ys = limOut (joinG xs ys) := by rw [joinOut, Hok.out, Hoky.out]; rfl
      have e2 : joinCode xs ys = limCode (joinG xs ys) := by rw [joinCode, Hok.out, Hoky.out]; rfl
      have E1 := Lib.hid e1
      have E2 := Lib.hid e2
      clear e1 e2
      go_wp2
      refine bodyPost_ret (v := .tuple #[.agg #[.slice A4 (limOut (joinG xs ys)).length k4], .int .i64 (limCode (joinG xs ys))]) (by simp [results, Tryd.results8, go_sem, c4]) rfl ⟨?_, _, ?_, by rw [E2.out]⟩
      · exact B4.out.setCell (by show w.heap.size ≤ w.heap.size + 2; omega) _
      · rw [E1.out]
        exact ownsRow_more (ownsRow_setCell_below O4.out (a := ⟨w.heap.size + 2, 0, none⟩) (by show w.heap.size + 2 < w2.heap.size; omega) _) (by omega)
    · have hoky2 : (!gramOk ys) = true := by simp [hoky]
      have Hoky := Lib.hid hoky
      clear hoky
      go_wp2
      refine bodyPost_ret (v := .tuple #[.agg #[.slice none 0 0], .int .i64 1]) (by simp [results, Tryd.results8, go_sem, c2]) rfl ⟨?_, _, ?_, by rw [joinCode, if_neg (by simp [Hoky.out])]⟩
      · exact B2.out.setCell (by show w.heap.size ≤ w.heap.size + 2; omega) _
      · rw [joinOut, if_neg (by simp [Hoky.out])]; exact World.ownsRow_nil _ _ _ _
  · have hok2 : (!gramOk xs) = true := by simp [hok]
    have Hok := Lib.hid hok
    clear hok
    go_wp2
    refine bodyPost_ret (v := .tuple #[.agg #[.slice none 0 0], .int .i64 1]) (by simp [results, Tryd.results8, go_sem, c1]) rfl ⟨?_, _, ?_, by rw [joinCode, if_neg (by simp [Hok.out])]⟩
    · exact B1.out.setCell (by show w.heap.size ≤ w.heap.size + 2; omega) _
    · rw [joinOut, if_neg (by simp [Hok.out])]; exact World.ownsRow_nil _ _ _ _
end Go.Proofs.YtoemoifeiigkoaaDoor

namespace Go.Proofs.YtoemoifeiigkoaaDoor
open Go.RowKit

set_option maxRecDepth 100000 in
set_option maxHeartbeats 1000000 in
/-- UnpackPart of a right part of a right grammar. -/
theorem unpackPart_any (v : Value) (xs : List GRule) (ls : List Int) (i j : Int) (w : World) (h : Sl RuleE w w.heap.size v xs) (hn : xs.length ≤ 400) (hl : lens xs = some ls) (hij : 0 ≤ i ∧ i ≤ j ∧ j ≤ lastI ls) :
    Calls Tryd.prog 72 #[.agg #[v], .int .i64 i, .int .i64 j] w fun e w' => e = .returned (.tuple #[.string (if j - i > 2000 then ⟨#[]⟩ else ⟨(cutL (wordG xs) i j).toArray⟩), .int .i64 (if j - i > 2000 then 3 else 0)]) ∧ Below w.heap.size w w' := by
  have h1 := fun o => (h.below ((Below.refl w.heap.size w).alloc (Nat.le_refl _) o)).le (B' := (w.alloc o).heap.size) (by simp)
  have H1 := Lib.hid h1
  clear h1
  obtain ⟨A, c, rfl, _⟩ := h
  have Hl := Lib.hid hl
  have hcl : (cutL (wordG xs) i j).length = (j - i).toNat := by
    have hw := wordG_len hl
    have := cutL_len (l := wordG xs) hij.1 hij.2.1 (by omega)
    omega
  have Hcl := Lib.hid hcl
  have hlast : lastI ls ≤ 1000000000000000 := by
    by_cases h0 : 0 < xs.length
    · rw [lastI_at hl h0]; exact (lens_pos' hl (by omega)).2
    · have : ls = [] := List.eq_nil_of_length_eq_zero (by rw [lens_length hl]; omega)
      subst this; decide
  clear hl hcl
  go_enter Tryd.func72, Tryd.ntmps72
  go_wp2_with fail
  refine (lengths_any _ xs _ (H1.out _) (by omega)).mono ?_
  rintro e w1 ⟨hb1, hpost⟩
  have hcase : ∃ vv, e = .returned (.tuple #[vv, .bool true]) ∧ Sl IntE w1 w1.heap.size vv ls := by
    rcases hpost with ⟨l2, vv, hl2, he, ho⟩ | ⟨hl2, he⟩
    · have e2 : l2 = ls := by have := Hl.out; rw [hl2] at this; exact Option.some.inj this
      subst e2
      exact ⟨vv, by rw [he]; simp [hn], ho.sl⟩
    · rw [Hl.out] at hl2; cases hl2
  obtain ⟨vv, rfl, hL⟩ := hcase
  have hz1 : w.heap.size < w1.heap.size := by have := hb1.size; simp at this; omega
  have a1 : w1.cell? ⟨w.heap.size, 0, none⟩ = some (.slice A xs.length c) := (hb1.cell (p := ⟨w.heap.size, 0, none⟩) (by simp)).trans (by simp [go_sem])
  have S1 := Lib.hid ((H1.out (Obj.cells #[Value.slice A xs.length c] 26)).up hb1)
  have B1 := Lib.hid (((Below.refl w.heap.size w).alloc (Nat.le_refl _) (Obj.cells #[Value.slice A xs.length c] 26)).trans (hb1.mono (by simp)))
  have HL := Lib.hid hL
  obtain ⟨AL, cL, rfl, _⟩ := hL
  obtain ⟨i1, i2, i3⟩ := hij
  have hw1 : inR i 0 j = true := by simp [inR, i1, i2]
  have hgt : ¬ (j > lastI ls) := by omega
  clear hb1 hpost
  go_wp2_with fail
  refine (within_yes _ _ _ _ hw1).mono ?_
  rintro e w' ⟨rfl, rfl⟩
  go_wp2_with fail
  refine (last_any _ ls _ HL.out).mono ?_
  rintro e w' ⟨rfl, rfl⟩
  by_cases hbig : j - i > 2000
  · go_wp2_with fail
    go_ret2
    exact ⟨by first | rfl | (simp only [if_pos hbig]; rfl), B1.out⟩
  · go_wp2_with fail
    refine (unpack_any _ _ xs ls i j _ S1.out HL.out Hl.out (by omega) (by rw [Hcl.out]; omega)).mono ?_
    rintro e w2 ⟨rfl, hb2⟩
    go_wp2_with fail
    go_ret2
    exact ⟨by first | rfl | (simp only [if_neg (show ¬ j - i > 2000 by omega)]; rfl), B1.out.trans (hb2.mono (by omega))⟩

/-- What UnpackWord answers. -/
def upV (xs : List GRule) : List UInt8 := if gramOk xs && decide ((wordG xs).length ≤ 2000) then wordG xs else []
def upC (xs : List GRule) : Int := if gramOk xs then (if (wordG xs).length ≤ 2000 then 0 else 3) else 1
set_option maxRecDepth 100000 in
set_option maxHeartbeats 1000000 in
theorem unpackWord_any (v : Value) (xs : List GRule) (w : World) (h : Sl RuleE w w.heap.size v xs) (hn : xs.length ≤ 1048576) :
    Calls Tryd.prog 46 #[.agg #[v]] w fun e w' => e = .returned (.tuple #[.string ⟨(upV xs).toArray⟩, .int .i64 (upC xs)]) ∧ Below w.heap.size w w' := by
  have h1 := fun o => (h.below ((Below.refl w.heap.size w).alloc (Nat.le_refl _) o)).le (B' := (w.alloc o).heap.size) (by simp)
  have H1 := Lib.hid h1
  clear h1
  obtain ⟨A, c, rfl, _⟩ := h
  go_enter Tryd.func46, Tryd.ntmps46
  go_wp2_with fail
  refine (LengthOf_any _ xs _ (H1.out _) (by omega)).mono ?_
  rintro e w1 ⟨rfl, hb1⟩
  have hz1 : w.heap.size < w1.heap.size := by have := hb1.size; simp at this; omega
  have a1 : w1.cell? ⟨w.heap.size, 0, none⟩ = some (.slice A xs.length c) := (hb1.cell (p := ⟨w.heap.size, 0, none⟩) (by simp)).trans (by simp [go_sem])
  have S1 := Lib.hid ((H1.out (Obj.cells #[Value.slice A xs.length c] 26)).up hb1)
  have B1 := Lib.hid (((Below.refl w.heap.size w).alloc (Nat.le_refl _) (Obj.cells #[Value.slice A xs.length c] 26)).trans (hb1.mono (by simp)))
  clear hb1
  by_cases hok : gramOk xs = true
  · obtain ⟨h4, ls, hl⟩ := gram_lens hok
    have hV : lenV xs = lastI ls := by simp [lenV, hok, gramLen_of hl]
    have hC : lenC xs = 0 := by simp [lenC, hok]
    have hw := wordG_len hl
    have Hl := Lib.hid hl
    have Hw := Lib.hid hw
    have Hok := Lib.hid hok
    rw [hV, hC]
    clear hV hC hl hw hok
    go_wp2_with fail
    have hp0 : 0 ≤ lastI ls := by have := Hw.out; omega
    have hw := Hw.out
    have hcut : cutL (wordG xs) 0 (lastI ls) = wordG xs := cutL_all (Int.le_refl _) (by omega)
    have U := unpackPart_any _ xs ls 0 (lastI ls) _ S1.out h4 Hl.out ⟨Int.le_refl _, hp0, Int.le_refl _⟩
    rw [hcut] at U
    by_cases hb : (wordG xs).length ≤ 2000
    · have e1 : upV xs = wordG xs := by simp [upV, Hok.out, hb]
      have e2 : upC xs = 0 := by simp [upC, Hok.out, hb]
      have e3 : ¬ (lastI ls - 0 > 2000) := by omega
      rw [if_neg e3, if_neg e3] at U
      have HU := Lib.hid U
      have E1 := Lib.hid e1
      have E2 := Lib.hid e2
      clear e1 e2 e3 U hcut hw hb hp0
      refine HU.out.mono ?_
      rintro e w2 ⟨rfl, hb2⟩
      go_wp2_with fail
      go_ret2
      exact ⟨by rw [E1.out, E2.out]; rfl, B1.out.trans (hb2.mono (by omega))⟩
    · have e1 : upV xs = [] := by simp [upV, hb]
      have e2 : upC xs = 3 := by simp [upC, Hok.out, hb]
      have e3 : lastI ls - 0 > 2000 := by omega
      rw [if_pos e3, if_pos e3] at U
      have HU := Lib.hid U
      have E1 := Lib.hid e1
      have E2 := Lib.hid e2
      clear e1 e2 e3 U hcut hw hb hp0
      refine HU.out.mono ?_
      rintro e w2 ⟨rfl, hb2⟩
      go_wp2_with fail
      go_ret2
      exact ⟨by rw [E1.out, E2.out]; rfl, B1.out.trans (hb2.mono (by omega))⟩
  · have hV : lenV xs = 0 := by simp [lenV, hok]
    have hC : lenC xs = 1 := by simp [lenC, hok]
    have e1 : upV xs = [] := by simp [upV, hok]
    have e2 : upC xs = 1 := by simp [upC, hok]
    have E1 := Lib.hid e1
    have E2 := Lib.hid e2
    rw [hV, hC]
    clear hV hC e1 e2 hok
    go_wp2_with fail
    go_ret2
    exact ⟨by rw [E1.out, E2.out]; rfl, B1.out⟩
end Go.Proofs.YtoemoifeiigkoaaDoor

namespace Go.Proofs.YtoemoifeiigkoaaDoor
open Go.RowKit

set_option maxRecDepth 100000 in
set_option maxHeartbeats 2000000 in
theorem l02Letter_any (b o : Nat) (vR vL : Value) (xs : List GRule) (ls : List Int) (i : Int) (c : UInt8) (w : World) (hp : w.cell? ⟨b, o, none⟩ = some vR) (hR : Sl RuleE w w.heap.size vR xs) (hL : Sl IntE w w.heap.size vL ls)
    (hl : lens xs = some ls) (hn : xs.length ≤ 1099511627776) (hi : 0 ≤ i) (hc : (wordG xs)[i.toNat]? = some c) :
    Calls Tryd.prog 68 #[.pointer (some ⟨b, o, none⟩), vL, .int .i64 i] w fun e w' => e = .returned (.int .u8 c.toNat) ∧ w = w' := by
  have h0 : 0 < xs.length := by
    refine Nat.pos_of_ne_zero fun e => ?_
    have hx : xs = [] := List.eq_nil_of_length_eq_zero e
    subst hx
    simp [wordG] at hc
  have hll := lens_length hl
  rw [wordG_pos h0] at hc
  have hlt := (List.getElem?_eq_some_iff.1 hc).1
  have hWl := W1_len hl (xs.length - 1) (by omega)
  obtain ⟨AR, cR, rfl, _, hmR, hrowR⟩ := hR
  obtain ⟨AL, cL, rfl, _, hmL, hrowL⟩ := hL
  unfold maxLen at hmR hmL
  obtain ⟨bR, oR, rfl, hbR, hcR⟩ := hrowR.rule h0
  obtain ⟨bL, oL, rfl, hbL, hcL⟩ := hrowL.int (k := 0) (by omega)
  have HcR := Lib.hid hcR
  have HcL := Lib.hid hcL
  have Hll := Lib.hid hll
  have Hl := Lib.hid hl
  have hm1 : (xs.length : Int) - 1 = ((xs.length - 1 : Nat) : Int) := by omega
  obtain ⟨m, hm⟩ : ∃ m, xs.length - 1 = m := ⟨_, rfl⟩
  rw [hm] at hm1 hc hlt hWl
  have hmx : m < xs.length := by omega
  have Hc := Lib.hid hc
  have hq0 : i < ls.getD m 0 := by omega
  have Hq0 := Lib.hid hq0
  have Hm1 := Lib.hid hm1
  clear hrowR hrowL hcR hcL hll hl hc hlt hWl hm hq0
  go_enter Tryd.func68, Tryd.ntmps68
  go_wp2_with fail
  go_loopw [2, 7] (fun q a wx => ∃ (r : Nat) (z : Int), r < xs.length ∧ a = .int .i64 (r : Int) ∧ q = .int .i64 z ∧ 0 ≤ z ∧ z < ls.getD r 0 ∧ (W1 xs r)[z.toNat]? = some c ∧ wx = w) (fun _ a _ => (intOf a).toNat)
  case atStart => exact ⟨m, i, hmx, rfl, rfl, hi, Hq0.out, Hc.out, rfl⟩
  case round =>
    obtain ⟨r, z, hr, rfl, rfl, hz, hzl, hw, rfl⟩ := hrel
    obtain ⟨k0, k1, k2⟩ := HcR.out r _ (getR_at hr)
    have hri : (r : Int) < (xs.length : Int) := by omega
    have Hw := Lib.hid hw
    have Hzl := Lib.hid hzl
    obtain ⟨R, hR⟩ : ∃ R, getR xs r = R := ⟨_, rfl⟩
    rw [hR] at k0 k1 k2
    have HR := Lib.hid hR
    clear hw hzl hR hm1
    by_cases hp2 : R.letter.toList.isEmpty = true
    · have hpr : (getR xs r).pair = true := by rw [HR.out]; rw [isEmpty_size] at hp2; exact hp2
      obtain ⟨q1, q2, q3, q4, q5⟩ := lens_pair Hl.out hr hpr
      have hW := W1_pair Hl.out hr hpr
      rw [HR.out] at q1 q2 q3 q4 q5 hW
      obtain ⟨la, hla⟩ := Int.eq_ofNat_of_zero_le q1
      obtain ⟨ra, hra⟩ := Int.eq_ofNat_of_zero_le q3
      rw [hla] at q2 k1
      rw [hra] at q4 k2
      rw [hla, hra] at hW q5
      simp only [Int.toNat_natCast] at q2 q4 q5 hW
      have hlw := W1_len Hl.out la (by omega)
      have cl := HcL.out la (by have := Hll.out; omega)
      have hli : (la : Int) < (ls.length : Int) := by have := Hll.out; omega
      have hpl := lens_pos' Hl.out (r := la) (by omega)
      have hpr2 := lens_pos' Hl.out (r := r) hr
      obtain ⟨LA, hLA⟩ : ∃ x, ls.getD la 0 = x := ⟨_, rfl⟩
      rw [hLA] at cl hlw hpl q5
      have HLA := Lib.hid hLA
      have Hq5 := Lib.hid q5
      have Hlw := Lib.hid hlw
      have HW := Lib.hid hW
      have hzb : z ≤ 1000000000000000 := by have := Hzl.out; omega
      clear hpr q1 q3 hla hra hLA q5 hlw hW hpr2
      by_cases hc1 : z < LA
      · go_wp2_with fail
        refine ⟨⟨la, z, by omega, rfl, rfl, hz, by rw [HLA.out]; exact hc1, ?_, trivial⟩, by simp [intOf]; omega⟩
        have := Hw.out
        rwa [HW.out, List.getElem?_append_left (by have := Hlw.out; omega)] at this
      · go_wp2_with fail
        refine ⟨⟨ra, z - LA, by omega, rfl, rfl, by omega, by have := Hq5.out; have := Hzl.out; omega, ?_, trivial⟩, by simp [intOf]; omega⟩
        have := Hw.out
        rw [HW.out, List.getElem?_append_right (by have := Hlw.out; omega)] at this
        rwa [show z.toNat - (W1 xs la).length = (z - LA).toNat by have := Hlw.out; omega] at this
    · have hp3 : R.letter.toList.isEmpty = false := by simpa using hp2
      have hpr : (getR xs r).pair = false := by rw [HR.out]; rw [isEmpty_size] at hp3; exact hp3
      have hsz := isLet_size (lens_isLet Hl.out hr hpr)
      have hone := lens_letter Hl.out hr hpr
      have hW := W1_let hpr
      rw [HR.out] at hsz hW
      have hz0 : z = 0 := by have := Hzl.out; omega
      have hcc : R.letter.data.toList[0]? = some c := by
        have := Hw.out
        rw [hW, hz0] at this; exact this
      have hs0 : 0 < R.letter.size := by omega
      have hget : R.letter[0]'hs0 = c := by
        rw [toList_getElem? _ _ hs0] at hcc
        exact Option.some.inj hcc
      have Hget := Lib.hid hget
      clear hp2 hpr hone hW hz0 hcc hget
      go_wp2_with fail
      go_ret
      exact ⟨by rw [← Hget.out]; rfl, rfl⟩
end Go.Proofs.YtoemoifeiigkoaaDoor

namespace Go.Proofs.YtoemoifeiigkoaaDoor
open Go.RowKit

theorem Tryd.infoBy : (Tryd.prog.info? 5).map (fun i => (i.zero, i.size, i.bytes)) = some (some (.int .u8 0), 1, 1) := by kernel_rfl
/-- An own row of bytes. -/
def OwnB (w : World) (base : Nat) (v : Value) (l : List UInt8) : Prop := w.ownsRow base 5 1 v l.length (Lib.byteCells l)
theorem byteCells_len (l : List UInt8) : (Lib.byteCells l).length = l.length := by simp [Lib.byteCells]
theorem byteCells_snoc (l : List UInt8) (x : UInt8) : Lib.byteCells (l ++ [x]) = Lib.byteCells l ++ [.int .u8 (x.toNat : Int)] := by simp [Lib.byteCells]
theorem OwnB.alloc {w : World} {base : Nat} {v : Value} {l : List UInt8} (h : OwnB w base v l) (o : Obj) : OwnB (w.alloc o) base v l := World.ownsRow.alloc h o
theorem OwnB.drew {w : World} {base : Nat} {v : Value} {l : List UInt8} (h : OwnB w base v l) : OwnB w.drew base v l := h
theorem OwnB.below {w w' : World} {base : Nat} {v : Value} {l : List UInt8} (h : OwnB w base v l) (hb : Below w.heap.size w w') : OwnB w' base v l := ownsRow_below h hb
theorem OwnB.empty {w : World} {base N : Nat} (hN : N = w.heap.size) (hb : base ≤ w.heap.size) : OwnB (w.alloc (Obj.cells #[] 5)) base (Value.slice (some ⟨N, 0, none⟩) 0 0) [] := by
  subst hN
  exact World.ownsRow_lit w #[] 0 hb (Nat.zero_le _) rfl
/-- The cells of an own row of bytes. -/
theorem OwnB.at_ {w : World} {base : Nat} {v : Value} {l : List UInt8} (h : OwnB w base v l) (h0 : 0 < l.length) : ∃ g cap, v = .slice (some ⟨g, 0, none⟩) l.length cap ∧ l.length ≤ cap ∧ g < w.heap.size ∧ ∀ t (ht : t < l.length), w.cell? ⟨g, t, none⟩ = some (.int .u8 (l[t].toNat : Int)) := by
  obtain ⟨g, cap, hv, hb, hlt, hc, hcell⟩ := own_form h h0
  exact ⟨g, cap, hv, hc.1, hlt, fun t ht => hcell t _ (by simp [Lib.byteCells, List.getElem?_eq_getElem ht])⟩
/-- A string of bytes at an address. -/
theorem convB (L : List UInt8) (b p n c : Nat) (W : World) (hn : n = L.length) (h : ∀ t (ht : t < L.length), W.cell? ⟨b, p + t, none⟩ = some (.int .u8 (L[t].toNat : Int))) :
    (convert 22 9 (.slice (some ⟨b, p, none⟩) n c)).run Tryd.prog W = .ok (.string ⟨L.toArray⟩) W := by
  subst hn
  exact run_convert_bytes_back (P := Tryd.prog) W 22 9 5 ⟨b, p, none⟩ c L Tryd.underlying22 Tryd.underlying5 Tryd.underlying9 (fun j hj => by
    have e : (⟨b, p, none⟩ : Addr).add j = ⟨b, p + j, none⟩ := by unfold Addr.add; split <;> simp_all
    rw [e]; exact h j hj)
theorem OwnB.string {w : World} {base n : Nat} {g : Nat} {c : Nat} {l : List UInt8} (h : OwnB w base (.slice (some ⟨g, 0, none⟩) n c) l) :
    (convert 22 9 (.slice (some ⟨g, 0, none⟩) n c)).run Tryd.prog w = .ok (.string ⟨l.toArray⟩) w := by
  have hn : n = l.length := by
    obtain ⟨A', c', hv, _⟩ := own_nil h
    injection hv
  refine convB l g 0 n c w hn fun t ht => ?_
  obtain ⟨g', cap, hv, _, _, hc⟩ := h.at_ (by omega)
  injection hv with e1 e2 e3
  injection e1 with e1
  injection e1 with e1
  subst e1
  rw [Nat.zero_add]; exact hc t ht
theorem OwnB.some_ {w : World} {base : Nat} {v : Value} {l : List UInt8} (h : OwnB w base v l) (h0 : 0 < l.length) : ∃ g c, v = .slice (some ⟨g, 0, none⟩) l.length c := by
  obtain ⟨g, c, hv, _⟩ := h.at_ h0
  exact ⟨g, c, hv⟩
theorem push_byte {W : World} {ops : Array Oper} {rest : List Oper} {o : Oper} {a : Act} {Q : Exit → Act → World → Prop} (hgd : o.guard = none) (s x : Operand)
    (ho : o.op = .call { callee := .builtin .append, args := #[s, x], argTypes := #[22, 22] }) {y : UInt8} {base : Nat} {v : Value} {l : List UInt8}
    (hs : a.eval s = v) {N : Nat} (hx : a.eval x = .slice (some ⟨N, 0, none⟩) 1 1) (hN : N = W.heap.size) (hown : OwnB W base v l) (hlen : l.length ≤ 1099511627776) (hbase : base ≤ W.heap.size)
    (h : ∀ v' w', OwnB w' base v' (l ++ [y]) → (W.alloc (.cells #[.int .u8 (y.toNat : Int)] 5)).grownBy w' v.ownBlock → Below base W w' → wpList Tryd.prog ops Q rest (a.put o.dst v') w') :
    wpList Tryd.prog ops Q (o :: rest) a (W.alloc (.cells #[.int .u8 (y.toNat : Int)] 5)) := by
  subst hN
  obtain ⟨i0, hi0, hz0, hz1, hz2⟩ := info_parts Tryd.infoBy
  refine wpList_push hgd s x 22 ho i0 (.int .u8 0) 1 1 Tryd.underlying22 hi0 hz0 hz1 hz2 rfl (by decide) hs hx rfl (by simp [Value.oneCell']) hown (by omega) (by omega) hbase ?_
  intro v' w' h1 h2 h3
  refine h v' w' ?_ h2 h3
  unfold OwnB
  rw [byteCells_snoc]
  simpa using h1
end Go.Proofs.YtoemoifeiigkoaaDoor

namespace Go.Proofs.YtoemoifeiigkoaaDoor
open Go.RowKit

theorem cutL_snoc {l : List UInt8} {i z : Int} {c : UInt8} (hi : 0 ≤ i) (hz : i ≤ z) (hc : l[z.toNat]? = some c) : cutL l i (z + 1) = cutL l i z ++ [c] := by
  have hlt := (List.getElem?_eq_some_iff.1 hc).1
  unfold cutL
  rw [show (z + 1).toNat = z.toNat + 1 by omega, List.take_add_one, hc, Option.toList_some, List.drop_append_of_le_length (by rw [List.length_take]; omega)]
theorem cutL_none (l : List UInt8) (i : Int) : cutL l i i = [] := cutL_nil (by omega)

set_option maxRecDepth 100000 in
set_option maxHeartbeats 2000000 in
theorem l02Unpack_any (b o : Nat) (v : Value) (xs : List GRule) (ls : List Int) (i j : Int) (w : World) (hp : w.cell? ⟨b, o, none⟩ = some v) (hbl : b < w.heap.size) (h : Sl RuleE w w.heap.size v xs) (hsm : SmallL xs) (hl : lens xs = some ls)
    (hn : xs.length ≤ 400) (hi : 0 ≤ i) (hij : i ≤ j) (hj : j ≤ lastI ls) (hbig : j - i ≤ 1000000) :
    Calls Tryd.prog 41 #[.pointer (some ⟨b, o, none⟩), .int .i64 i, .int .i64 j] w fun e w' => e = .returned (.string ⟨(cutL (wordG xs) i j).toArray⟩) ∧ Below w.heap.size w w' := by
  have HR := Lib.hid h
  obtain ⟨AR, cR, rfl, _⟩ := h
  have Hl := Lib.hid hl
  have hwl := wordG_len hl
  have hlb := (lastI_bounds hl).2
  have hd4 : decide (xs.length ≤ 400) = true := by simp [hn]
  clear hl
  go_enter Tryd.func41, Tryd.ntmps41
  go_wp2_with fail
  refine (l02Lengths_any _ _ _ xs _ hp hbl HR.out hsm).mono ?_
  rintro e w2 ⟨hb2, v2, ls', rfl, own2, hls⟩
  have e4 : ls' = ls := hls hn ls Hl.out
  subst e4
  obtain ⟨A2, c2, rfl, _⟩ := own_nil own2
  have p2 := (hb2.cell (p := ⟨b, o, none⟩) hbl).trans hp
  have z2 : b < w2.heap.size := Nat.lt_of_lt_of_le hbl hb2.size
  have HL2 := Lib.hid own2.sl
  have HR2 := Lib.hid (HR.out.up hb2)
  have HB2 := Lib.hid hb2
  clear hb2 own2 hls hp
  go_wp2_with fail
  go_loopw [9, 10] (fun q a wx => ∃ (k : Nat) (z : Int) (g c : Nat) (l : List UInt8), z = i + k ∧ z ≤ j ∧ a = .int .i64 z ∧ q = .slice (some ⟨g, 0, none⟩) l.length c ∧ l = cutL (wordG xs) i z ∧ OwnB wx w2.heap.size q l ∧ Below w2.heap.size w2 wx) (fun _ a _ => (j - intOf a).toNat)
  case atStart => exact ⟨0, i, _, 0, [], by omega, hij, rfl, rfl, (cutL_none _ _).symm, OwnB.empty rfl (Nat.le_refl _), (Below.refl _ _).alloc (Nat.le_refl _) _⟩
  case round =>
    obtain ⟨k, z, g, c, l, hz, hzj, rfl, rfl, hlc, hown, hb3⟩ := hrel
    have Hown := Lib.hid hown
    have HB3 := Lib.hid hb3
    have Hlc := Lib.hid hlc
    have hll : (l.length : Int) = z - i := by rw [hlc]; exact cutL_len hi (by omega) (by omega)
    have p3 := (hb3.cell (p := ⟨b, o, none⟩) z2).trans p2
    have HL3 := Lib.hid ((HL2.out.below hb3).le hb3.size)
    have HR3 := Lib.hid ((HR2.out.below hb3).le hb3.size)
    have hcv := OwnB.string hown
    have HLL : Hid (l.length ≤ 1099511627776) := by rw [Hid]; omega
    have hs3 : w2.heap.size ≤ wr.heap.size := hb3.size
    have Hz0 := Lib.hid hz
    have hiz : i ≤ z := by omega
    clear hown hb3 hlc hz
    by_cases hlt : z < j
    · obtain ⟨x, hx⟩ : ∃ x, (wordG xs)[z.toNat]? = some x := ⟨_, List.getElem?_eq_getElem (by omega)⟩
      have Hx := Lib.hid hx
      have Lt := Lib.hid (l02Letter_any b o _ (.slice A2 ls'.length c2) xs ls' z x wr p3 HR3.out HL3.out Hl.out (by omega) (by omega) hx)
      have hzm : z ≤ 1000000000000000 := by omega
      have Hll := Lib.hid hll
      clear hx hcv hll
      go_wp2_with fail
      (with_reducible refine Lt.out.mono ?_)
      rintro e w4 ⟨rfl, rfl⟩
      go_wp2_with (first
        | (at_builtin; refine push_byte (base := w2.heap.size) (v := .slice (some ⟨g, 0, none⟩) l.length c) (l := l) (y := x) rfl _ _ rfl rfl rfl rfl Hown.out HLL.out hs3 ?_; intro v5 w5 own5 hg5 hb5; obtain ⟨g5, c5, rfl⟩ := own5.some_ (by simp)))
      have e5 : (l ++ [x]).length = l.length + 1 := by simp
      refine ⟨⟨k + 1, z + 1, g5, c5, l ++ [x], by have := Hz0.out; omega, by omega, rfl, by rw [e5], ?_, by rw [← e5]; exact own5, HB3.out.trans hb5⟩, by simp [intOf]; omega⟩
      rw [cutL_snoc hi (by omega) Hx.out, Hlc.out]
    · have hzj2 : z = j := by omega
      have Hz := Lib.hid hzj2
      clear hll hzj2
      go_wp2_with fail
      go_ret
      exact ⟨by rw [← Hz.out, ← Hlc.out]; rfl, HB2.out.trans (HB3.out.mono HB2.out.size)⟩
end Go.Proofs.YtoemoifeiigkoaaDoor

namespace Go.Proofs.YtoemoifeiigkoaaDoor
open Go.RowKit

/-- The first word of an edit's text. -/
def wordE (k : Int) : List UInt8 := if k = 1 then [105, 110, 115, 101, 114, 116] else if k = 2 then [100, 101, 108, 101, 116, 101] else if k = 3 then [99, 111, 112, 121] else if k = 4 then [109, 111, 118, 101] else if k = 5 then [116, 117, 114, 110] else if k = 6 then [114, 101, 112, 101, 97, 116] else [109, 97, 112]
def etL (e : GEdit) : List UInt8 := wordE e.kind ++ (32 :: dec e.i) ++ (if usesJ e.kind then 32 :: dec e.j else []) ++ (if usesK e.kind then 32 :: dec e.k else []) ++ (if e.kind == 1 then 32 :: wordG e.part else []) ++ (if e.kind == 7 then 32 :: e.map.data.toList else [])
/-- The text of an edit. -/
def etV (e : GEdit) : List UInt8 := if editOk e then (if e.kind == 1 && decide (2000 < (wordG e.part).length) then [] else etL e) else []
theorem wordE_len {k : Int} (h : inR k 1 7 = true) : (wordE k).length ≤ 6 := by
  rcases kind7 h with rfl | rfl | rfl | rfl | rfl | rfl | rfl <;> decide
theorem dec_len15 {a : Int} (h : 0 ≤ a ∧ a ≤ 1000000000000000) : (dec a).length ≤ 16 := by
  unfold dec; rw [Lib.decDigits_length]; exact nDigits_le 15 _ (by omega)
theorem Decimal_big (a : Int) (h : 0 ≤ a ∧ a ≤ 1000000000000000) (w : World) : Calls Tryd.prog 37 #[.int .i64 a] w fun e w' => e = .returned (.string ⟨(dec a).toArray⟩) ∧ Below w.heap.size w w' := by
  obtain ⟨n, rfl⟩ := Int.eq_ofNat_of_zero_le h.1
  exact Decimal_any n (by omega) w
theorem str32' : (⟨#[32]⟩ : ByteArray) = ⟨[32].toArray⟩ := rfl
/-- The combinations of fields that a kind has. -/
theorem combos {k : Int} (h : inR k 1 7 = true) : (usesJ k = false ∧ usesK k = false ∧ (k == 1) = true ∧ (k == 7) = false) ∨ (usesJ k = true ∧ usesK k = false ∧ (k == 1) = false ∧ (k == 7) = false) ∨ (usesJ k = true ∧ usesK k = true ∧ (k == 1) = false ∧ (k == 7) = false) ∨ (usesJ k = true ∧ usesK k = false ∧ (k == 1) = false ∧ (k == 7) = true) := by
  rcases kind7 h with rfl | rfl | rfl | rfl | rfl | rfl | rfl <;> decide
set_option maxRecDepth 100000 in
set_option maxHeartbeats 4000000 in
theorem formOf_word (k : Int) (w : World) (h : inR k 1 7 = true) : Calls Tryd.prog 44 #[.int .i64 k] w fun e w' =>
    e = .returned (.tuple #[.agg #[.string ⟨(wordE k).toArray⟩, .bool (usesJ k), .bool (usesK k), .bool (k == 1), .bool (k == 7)], .bool true]) ∧ Below w.heap.size w w' := by
  rcases kind7 h with rfl | rfl | rfl | rfl | rfl | rfl | rfl
  · clear h
    go_enter Tryd.func44, Tryd.ntmps44
    go_wp2
    refine bodyPost_ret (v := .tuple #[.agg #[.string ⟨#[105, 110, 115, 101, 114, 116]⟩, .bool false, .bool false, .bool true, .bool false], .bool true]) (by simp [results, Tryd.results44, go_sem]) rfl ⟨rfl, ?_⟩
    exact (by repeat (first | exact Below.refl _ _ | (refine Below.alloc ?_ (by first | omega | (simp; done) | (simp; omega)) _) | refine below_drewN ?_ _ | refine Below.drew ?_))
  · clear h
    go_enter Tryd.func44, Tryd.ntmps44
    go_wp2
    refine bodyPost_ret (v := .tuple #[.agg #[.string ⟨#[100, 101, 108, 101, 116, 101]⟩, .bool true, .bool false, .bool false, .bool false], .bool true]) (by simp [results, Tryd.results44, go_sem]) rfl ⟨rfl, ?_⟩
    exact (by repeat (first | exact Below.refl _ _ | (refine Below.alloc ?_ (by first | omega | (simp; done) | (simp; omega)) _) | refine below_drewN ?_ _ | refine Below.drew ?_))
  · clear h
    go_enter Tryd.func44, Tryd.ntmps44
    go_wp2
    refine bodyPost_ret (v := .tuple #[.agg #[.string ⟨#[99, 111, 112, 121]⟩, .bool true, .bool true, .bool false, .bool false], .bool true]) (by simp [results, Tryd.results44, go_sem]) rfl ⟨rfl, ?_⟩
    exact (by repeat (first | exact Below.refl _ _ | (refine Below.alloc ?_ (by first | omega | (simp; done) | (simp; omega)) _) | refine below_drewN ?_ _ | refine Below.drew ?_))
  · clear h
    go_enter Tryd.func44, Tryd.ntmps44
    go_wp2
    refine bodyPost_ret (v := .tuple #[.agg #[.string ⟨#[109, 111, 118, 101]⟩, .bool true, .bool true, .bool false, .bool false], .bool true]) (by simp [results, Tryd.results44, go_sem]) rfl ⟨rfl, ?_⟩
    exact (by repeat (first | exact Below.refl _ _ | (refine Below.alloc ?_ (by first | omega | (simp; done) | (simp; omega)) _) | refine below_drewN ?_ _ | refine Below.drew ?_))
  · clear h
    go_enter Tryd.func44, Tryd.ntmps44
    go_wp2
    refine bodyPost_ret (v := .tuple #[.agg #[.string ⟨#[116, 117, 114, 110]⟩, .bool true, .bool false, .bool false, .bool false], .bool true]) (by simp [results, Tryd.results44, go_sem]) rfl ⟨rfl, ?_⟩
    exact (by repeat (first | exact Below.refl _ _ | (refine Below.alloc ?_ (by first | omega | (simp; done) | (simp; omega)) _) | refine below_drewN ?_ _ | refine Below.drew ?_))
  · clear h
    go_enter Tryd.func44, Tryd.ntmps44
    go_wp2
    refine bodyPost_ret (v := .tuple #[.agg #[.string ⟨#[114, 101, 112, 101, 97, 116]⟩, .bool true, .bool true, .bool false, .bool false], .bool true]) (by simp [results, Tryd.results44, go_sem]) rfl ⟨rfl, ?_⟩
    exact (by repeat (first | exact Below.refl _ _ | (refine Below.alloc ?_ (by first | omega | (simp; done) | (simp; omega)) _) | refine below_drewN ?_ _ | refine Below.drew ?_))
  · clear h
    go_enter Tryd.func44, Tryd.ntmps44
    go_wp2
    refine bodyPost_ret (v := .tuple #[.agg #[.string ⟨#[109, 97, 112]⟩, .bool true, .bool false, .bool false, .bool true], .bool true]) (by simp [results, Tryd.results44, go_sem]) rfl ⟨rfl, ?_⟩
    exact (by repeat (first | exact Below.refl _ _ | (refine Below.alloc ?_ (by first | omega | (simp; done) | (simp; omega)) _) | refine below_drewN ?_ _ | refine Below.drew ?_))
end Go.Proofs.YtoemoifeiigkoaaDoor

namespace Go.Proofs.YtoemoifeiigkoaaDoor
open Go.RowKit

theorem editOk_nums {e : GEdit} (h : editOk e = true) : inR e.kind 1 7 = true ∧ (0 ≤ e.i ∧ e.i ≤ 1000000000000000) ∧ (0 ≤ e.j ∧ e.j ≤ 1000000000000000) ∧ (0 ≤ e.k ∧ e.k ≤ 1000000000000000) ∧ gramOk e.part = true ∧ e.map.size ≤ 4 := by
  unfold editOk at h
  simp only [Bool.and_eq_true] at h
  obtain ⟨⟨⟨⟨⟨⟨⟨h1, h2⟩, h3⟩, h4⟩, h5⟩, h6⟩, h7⟩, h8⟩ := h
  have num : ∀ n b, numOk n b = true → 0 ≤ n ∧ n ≤ 1000000000000000 := by
    intro n b hn
    unfold numOk at hn
    split at hn
    · simpa [inR] using hn
    · simp at hn; omega
  refine ⟨h1, by simpa [inR] using h2, num _ _ h3, num _ _ h4, h7, ?_⟩
  split at h8
  · simp at h8; omega
  · have : e.map.size = 0 := by simpa using h8
    omega

set_option maxRecDepth 100000 in
set_option maxHeartbeats 4000000 in
theorem implEditText_any (v : Value) (e : GEdit) (w : World) (h : EditV w w.heap.size v e) (hn : e.part.length ≤ 1048576) (hm : e.map.size ≤ maxLen) (htab : Lib.TabIs Tryd.prog w "internal/strconv.uint64pow10" .u64 Lib.pow10Tab) :
    Calls Tryd.prog 18 #[v] w fun r w' => r = .returned (.string ⟨(etV e).toArray⟩) ∧ Below w.heap.size w w' := by
  have HT := Lib.hid htab
  have hV := fun o => (h.below ((Below.refl w.heap.size w).alloc (Nat.le_refl _) o)).le (B' := (w.alloc o).heap.size) (by simp)
  have HV := Lib.hid hV
  clear hV htab
  obtain ⟨vR, rfl, hR⟩ := h
  have HR := Lib.hid hR
  obtain ⟨AR, cR, rfl, _⟩ := hR
  go_enter Tryd.func18, Tryd.ntmps18
  go_wp2_with fail
  refine (implValidEdit_any _ e _ (HV.out _) (by omega) hm).mono ?_
  rintro r w1 ⟨rfl, hb1⟩
  have z1 : w.heap.size < w1.heap.size := Nat.lt_of_lt_of_le (by simp) hb1.size
  have X1 := Lib.hid (Box6.new hb1)
  have B1 := Lib.hid (((Below.refl w.heap.size w).alloc (Nat.le_refl _) _).trans (hb1.mono (by simp)))
  clear hb1
  obtain ⟨x0, x1, x2, x3, x4, x5⟩ := X1.out
  by_cases he : editOk e = true
  · have HE := Lib.hid he
    have g0 : (!editOk e) = false := by simp [he]
    obtain ⟨hk, hi, hj, hkk, hg, hmp⟩ := editOk_nums he
    have Hk := Lib.hid hk
    have hWl := wordE_len hk
    have hI := dec_len15 hi
    have hJ := dec_len15 hj
    have hK := dec_len15 hkk
    have Hi := Lib.hid hi
    have Hj := Lib.hid hj
    have Hkk := Lib.hid hkk
    have Hg := Lib.hid hg
    obtain ⟨WL, hWL⟩ : ∃ WL, wordE e.kind = WL := ⟨_, rfl⟩
    have HWL := Lib.hid hWL
    rw [hWL] at hWl
    clear he hk hi hj hkk hg hWL
    go_wp2_with fail
    refine (formOf_word e.kind _ Hk.out).mono ?_
    rintro r w2 ⟨rfl, hb2⟩
    rw [HWL.out]
    have z2 : w.heap.size < w2.heap.size := Nat.lt_of_lt_of_le z1 hb2.size
    have X2 := Lib.hid (X1.out.up hb2 z1)
    have B2 := Lib.hid (B1.out.trans (hb2.mono B1.out.size))
    clear hb2 x0 x1 x2 x3 x4 x5
    have hcm := combos Hk.out
    obtain ⟨fJ, hfJ⟩ : ∃ b, usesJ e.kind = b := ⟨_, rfl⟩
    obtain ⟨fK, hfK⟩ : ∃ b, usesK e.kind = b := ⟨_, rfl⟩
    obtain ⟨fP, hfP⟩ : ∃ b, (e.kind == 1) = b := ⟨_, rfl⟩
    obtain ⟨fM, hfM⟩ : ∃ b, (e.kind == 7) = b := ⟨_, rfl⟩
    have hV0 : etV e = if fP && decide (2000 < (wordG e.part).length) then [] else WL ++ (32 :: dec e.i) ++ (if fJ then 32 :: dec e.j else []) ++ (if fK then 32 :: dec e.k else []) ++ (if fP then 32 :: wordG e.part else []) ++ (if fM then 32 :: e.map.data.toList else []) := by
      rw [etV, if_pos HE.out, etL, HWL.out, hfJ, hfK, hfP, hfM]
    have HV0 := Lib.hid hV0
    rw [hfJ, hfK, hfP, hfM] at hcm
    rw [hfJ, hfK, hfP, hfM]
    clear hfJ hfK hfP hfM hV0
    have n1 : ¬ (9223372036854775807 < WL.length + 1) := by omega
    have n2 : ¬ (9223372036854775807 < WL.length + 1 + (dec e.i).length) := by omega
    have hBF : ∀ o, Below w2.heap.size w2 (w2.alloc o) := fun o => (Below.refl _ _).alloc (Nat.le_refl _) _
    have D1 := Lib.hid (fun W hb => decimal_big e.i W Hi.out (tab_below HT.out hb))
    obtain ⟨x0, x1, x2, x3, x4, x5⟩ := X2.out
    go_upto_region 4 with fail
    have f0 : (w2.alloc (Obj.cells #[.string ⟨WL.toArray⟩, .bool fJ, .bool fK, .bool fP, .bool fM] 77)).cell? ⟨w2.heap.size, 0, none⟩ = some (.string ⟨WL.toArray⟩) := by simp [go_sem]
    have f1 : (w2.alloc (Obj.cells #[.string ⟨WL.toArray⟩, .bool fJ, .bool fK, .bool fP, .bool fM] 77)).cell? ⟨w2.heap.size, 1, none⟩ = some (.bool fJ) := by simp [go_sem]
    have f2 : (w2.alloc (Obj.cells #[.string ⟨WL.toArray⟩, .bool fJ, .bool fK, .bool fP, .bool fM] 77)).cell? ⟨w2.heap.size, 2, none⟩ = some (.bool fK) := by simp [go_sem]
    have f3 : (w2.alloc (Obj.cells #[.string ⟨WL.toArray⟩, .bool fJ, .bool fK, .bool fP, .bool fM] 77)).cell? ⟨w2.heap.size, 3, none⟩ = some (.bool fP) := by simp [go_sem]
    have f4 : (w2.alloc (Obj.cells #[.string ⟨WL.toArray⟩, .bool fJ, .bool fK, .bool fP, .bool fM] 77)).cell? ⟨w2.heap.size, 4, none⟩ = some (.bool fM) := by simp [go_sem]
    have hb3 := hBF (Obj.cells #[.string ⟨WL.toArray⟩, .bool fJ, .bool fK, .bool fP, .bool fM] 77)
    have hl3 : w2.heap.size < (w2.alloc (Obj.cells #[.string ⟨WL.toArray⟩, .bool fJ, .bool fK, .bool fP, .bool fM] 77)).heap.size := by simp
    generalize w2.alloc (Obj.cells #[.string ⟨WL.toArray⟩, .bool fJ, .bool fK, .bool fP, .bool fM] 77) = w3 at *
    have z3 : w.heap.size < w3.heap.size := by omega
    have X3 := Lib.hid (X2.out.up hb3 z2)
    have B3 := Lib.hid (B2.out.trans (hb3.mono B2.out.size))
    have D1d := Lib.hid (D1.out w3.drew (Below.drew B3.out))
    have F1 := Lib.hid f1
    have F2 := Lib.hid f2
    have F3 := Lib.hid f3
    have F4 := Lib.hid f4
    clear hb3 hBF x0 x1 x2 x3 x4 x5
    obtain ⟨x0, x1, x2, x3, x4, x5⟩ := X3.out
    go_cut [5] from 17 to 23 (fun q wx => q = .string ⟨(WL ++ (32 :: dec e.i)).toArray⟩ ∧ Below w3.heap.size w3 wx)
    case first =>
      go_region_law (go_simp; go_at_call 45; (with_reducible refine D1d.out.mono ?_); rintro r w4 ⟨rfl, hb4⟩; have f40 := (hb4.cell (p := ⟨w2.heap.size, 0, none⟩) hl3).trans f0)
      all_goals
        go_wp2_with fail
        go_meet
        exact ⟨by simp [str_app, str32'], (Below.drew (Below.refl _ _)).trans hb4⟩
    case rest =>
      revert hcut
      generalize wc = w4
      intro hcut
      obtain ⟨rfl, hb4⟩ := hcut
      have z4 : w.heap.size < w4.heap.size := Nat.lt_of_lt_of_le z3 hb4.size
      have X4 := Lib.hid (X3.out.up hb4 z3)
      have B4 := Lib.hid (B3.out.trans (hb4.mono B3.out.size))
      have h1 := (hb4.cell (p := ⟨w2.heap.size, 1, none⟩) hl3).trans F1.out
      have h2 := (hb4.cell (p := ⟨w2.heap.size, 2, none⟩) hl3).trans F2.out
      have h3 := (hb4.cell (p := ⟨w2.heap.size, 3, none⟩) hl3).trans F3.out
      have h4 := (hb4.cell (p := ⟨w2.heap.size, 4, none⟩) hl3).trans F4.out
      have l4 : w2.heap.size < w4.heap.size := Nat.lt_of_lt_of_le hl3 hb4.size
      clear f0 f1 f2 f3 f4 x0 x1 x2 x3 x4 x5 hb4 n1 n2
      obtain ⟨x0, x1, x2, x3, x4, x5⟩ := X4.out
      obtain ⟨L, hL⟩ : ∃ L, WL ++ (32 :: dec e.i) = L := ⟨_, rfl⟩
      have hLl : L.length ≤ 23 := by rw [← hL]; simp; omega
      rw [hL]
      rw [hL] at HV0
      clear hL
      obtain ⟨DJ, hDJ⟩ : ∃ D, dec e.j = D := ⟨_, rfl⟩
      obtain ⟨DK, hDK⟩ : ∃ D, dec e.k = D := ⟨_, rfl⟩
      have DecJ := Lib.hid (fun W hb => decimal_big e.j W Hj.out (tab_below HT.out hb))
      have DecK := Lib.hid (fun W hb => decimal_big e.k W Hkk.out (tab_below HT.out hb))
      rw [hDJ] at hJ HV0 DecJ
      rw [hDK] at hK HV0 DecK
      have n1 : ¬ (9223372036854775807 < 1 + DJ.length) := by omega
      have n2 : ¬ (9223372036854775807 < 1 + DK.length) := by omega
      have n3 : ¬ (9223372036854775807 < L.length + (1 + DJ.length)) := by omega
      have n4 : ¬ (9223372036854775807 < L.length + (1 + DJ.length) + (1 + DK.length)) := by omega
      have n5 : ¬ (9223372036854775807 < 1 + e.map.size) := by omega
      have n6 : ¬ (9223372036854775807 < L.length + (1 + DJ.length) + (1 + e.map.size)) := by omega
      clear hDJ hDK
      rcases hcm with ⟨rfl, rfl, rfl, rfl⟩ | ⟨rfl, rfl, rfl, rfl⟩ | ⟨rfl, rfl, rfl, rfl⟩ | ⟨rfl, rfl, rfl, rfl⟩
      · have S4 := Lib.hid ((HR.out.below B4.out).le (Nat.le_of_lt z4))
        have U := unpackWord_any _ e.part w4 S4.out hn
        by_cases hb : (wordG e.part).length ≤ 2000
        · have e1 : upV e.part = wordG e.part := by simp [upV, Hg.out, hb]
          have e2 : upC e.part = 0 := by simp [upC, Hg.out, hb]
          rw [e1, e2] at U
          have hE : etV e = L ++ 32 :: wordG e.part := by rw [HV0.out]; simp [show ¬ 2000 < (wordG e.part).length by omega]
          have HE2 := Lib.hid hE
          have HU := Lib.hid U
          obtain ⟨P, hP⟩ : ∃ P, wordG e.part = P := ⟨_, rfl⟩
          rw [hP] at HU HE2 hb
          have m1 : ¬ (9223372036854775807 < 1 + P.length) := by omega
          have m2 : ¬ (9223372036854775807 < L.length + (1 + P.length)) := by omega
          clear e1 e2 U hE hP HV0
          go_wp2_with fail
          refine HU.out.mono ?_
          rintro r w5 ⟨rfl, hb5⟩
          have B5 := Lib.hid (B4.out.trans (hb5.mono B4.out.size))
          have k4 := (hb5.cell (p := ⟨w2.heap.size, 4, none⟩) l4).trans h4
          clear hb5
          go_wp2_with fail
          go_ret
          exact ⟨by rw [HE2.out]; simp [str_app, str32'], B5.out⟩
        · have e1 : upV e.part = [] := by simp [upV, hb]
          have e2 : upC e.part = 3 := by simp [upC, Hg.out, hb]
          rw [e1, e2] at U
          have hE : etV e = [] := by rw [HV0.out]; simp [show 2000 < (wordG e.part).length by omega]
          have HE2 := Lib.hid hE
          have HU := Lib.hid U
          clear e1 e2 U hE HV0
          go_wp2_with fail
          refine HU.out.mono ?_
          rintro r w5 ⟨rfl, hb5⟩
          have B5 := Lib.hid (B4.out.trans (hb5.mono B4.out.size))
          clear hb5
          go_wp2_with fail
          go_ret
          exact ⟨by rw [HE2.out]; rfl, B5.out⟩
      · have hE : etV e = L ++ 32 :: DJ := by rw [HV0.out]; simp
        have HE2 := Lib.hid hE
        clear hE HV0
        go_wp2_with fail
        refine (DecJ.out _ B4.out).mono ?_
        rintro r w5 ⟨rfl, hb5⟩
        have B5 := Lib.hid (B4.out.trans (hb5.mono B4.out.size))
        have k2 := (hb5.cell (p := ⟨w2.heap.size, 2, none⟩) l4).trans h2
        have k3 := (hb5.cell (p := ⟨w2.heap.size, 3, none⟩) l4).trans h3
        have k4 := (hb5.cell (p := ⟨w2.heap.size, 4, none⟩) l4).trans h4
        clear hb5
        go_wp2_with fail
        go_ret
        exact ⟨by rw [HE2.out]; simp [str_app, str32'], B5.out⟩
      · have hE : etV e = L ++ 32 :: DJ ++ 32 :: DK := by rw [HV0.out]; simp
        have HE2 := Lib.hid hE
        clear hE HV0
        go_wp2_with fail
        refine (DecJ.out _ B4.out).mono ?_
        rintro r w5 ⟨rfl, hb5⟩
        have X5 := Lib.hid (X4.out.up hb5 z4)
        have B5 := Lib.hid (B4.out.trans (hb5.mono B4.out.size))
        have k2 := (hb5.cell (p := ⟨w2.heap.size, 2, none⟩) l4).trans h2
        have k3 := (hb5.cell (p := ⟨w2.heap.size, 3, none⟩) l4).trans h3
        have k4 := (hb5.cell (p := ⟨w2.heap.size, 4, none⟩) l4).trans h4
        have l5 : w2.heap.size < w5.heap.size := Nat.lt_of_lt_of_le l4 hb5.size
        clear hb5 x0 x1 x2 x3 x4 x5
        obtain ⟨x0, x1, x2, x3, x4, x5⟩ := X5.out
        go_wp2_with fail
        refine (DecK.out _ B5.out).mono ?_
        rintro r w6 ⟨rfl, hb6⟩
        have B6 := Lib.hid (B5.out.trans (hb6.mono B5.out.size))
        have j3 := (hb6.cell (p := ⟨w2.heap.size, 3, none⟩) l5).trans k3
        have j4 := (hb6.cell (p := ⟨w2.heap.size, 4, none⟩) l5).trans k4
        clear hb6
        go_wp2_with fail
        go_ret
        exact ⟨by rw [HE2.out]; simp [str_app, str32'], B6.out⟩
      · have hE : etV e = L ++ 32 :: DJ ++ 32 :: e.map.data.toList := by rw [HV0.out]; simp
        have HE2 := Lib.hid hE
        clear hE HV0
        go_wp2_with fail
        refine (DecJ.out _ B4.out).mono ?_
        rintro r w5 ⟨rfl, hb5⟩
        have X5 := Lib.hid (X4.out.up hb5 z4)
        have B5 := Lib.hid (B4.out.trans (hb5.mono B4.out.size))
        have k2 := (hb5.cell (p := ⟨w2.heap.size, 2, none⟩) l4).trans h2
        have k3 := (hb5.cell (p := ⟨w2.heap.size, 3, none⟩) l4).trans h3
        have k4 := (hb5.cell (p := ⟨w2.heap.size, 4, none⟩) l4).trans h4
        clear hb5 x0 x1 x2 x3 x4 x5
        obtain ⟨x0, x1, x2, x3, x4, x5⟩ := X5.out
        go_wp2_with fail
        go_ret
        refine ⟨?_, B5.out⟩
        have key : (((⟨L.toArray⟩ : ByteArray) ++ (⟨#[32]⟩ ++ ⟨DJ.toArray⟩)) ++ (⟨#[32]⟩ ++ e.map)) = ⟨(L ++ 32 :: DJ ++ 32 :: e.map.data.toList).toArray⟩ := by
          apply ByteArray.ext
          simp [ByteArray.data_append]
        rw [HE2.out, ← key]
        rfl
  · have g0 : (!editOk e) = true := by simpa using he
    have hV0 : etV e = [] := by rw [etV, if_neg he]
    have HV0 := Lib.hid hV0
    clear he hV0
    go_wp2_with fail
    go_ret
    exact ⟨by rw [HV0.out]; rfl, B1.out⟩
end Go.Proofs.YtoemoifeiigkoaaDoor

