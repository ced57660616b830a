import Derived.Test.YtoemoifeiigkoaaDoorM5
import Derived.Test.YtoemoifeiigkoaaDoorM3
import Derived.Shelf.Strings.BuilderK
import Derived.Test.YtoemoifeiigkoaaDoorM4
import Derived.Laws.EntriesVeiled
namespace Go.Proofs.YtoemoifeiigkoaaDoor
open Go.RowKit

/-- What grows answers. -/
def GrowsPost (e : GEdit) (n : Int) (w : World) (r : Ending) (w' : World) : Prop :=
  ∃ out, r = .returned (.tuple #[.int .i64 out, .bool (decide (editLen e n ≤ 1000000000000000))]) ∧ (editLen e n ≤ 1000000000000000 → out = editLen e n - n) ∧ Below w.heap.size w w'
theorem div_le {m p k : Int} (hp : 0 < p) : (k ≤ m / p) ↔ k * p ≤ m := Int.le_ediv_iff_mul_le hp
end Go.Proofs.YtoemoifeiigkoaaDoor

namespace Go.Proofs.YtoemoifeiigkoaaDoor
open Go.RowKit

theorem paC_1 {n : Int} {e : GEdit} {p : Int} (h : editOk e = false) : paC n e p = 1 ∧ paV n e p = 0 := by
  have : paC n e p = 1 := by simp [paC, h]
  exact ⟨this, by simp [paV, this]⟩
theorem paC_2 {n : Int} {e : GEdit} {p : Int} (h : editOk e = true) (h2 : (inR n 0 1000000000000000 && inR p 0 n && editFits e n) = false) : paC n e p = 2 ∧ paV n e p = 0 := by
  have : paC n e p = 2 := by simp only [paC, h, h2]; simp
  exact ⟨this, by simp [paV, this]⟩
theorem paC_3 {n : Int} {e : GEdit} {p : Int} (h : editOk e = true) (h2 : (inR n 0 1000000000000000 && inR p 0 n && editFits e n) = true) (h3 : ¬ editLen e n ≤ 1000000000000000) : paC n e p = 3 ∧ paV n e p = 0 := by
  have : paC n e p = 3 := by simp only [paC, h, h2]; simp [h3]
  exact ⟨this, by simp [paV, this]⟩
theorem paC_0 {n : Int} {e : GEdit} {p : Int} (h : editOk e = true) (h2 : (inR n 0 1000000000000000 && inR p 0 n && editFits e n) = true) (h3 : editLen e n ≤ 1000000000000000) : paC n e p = 0 ∧ paV n e p = placeP e p := by
  have : paC n e p = 0 := by simp only [paC, h, h2]; simp [h3]
  exact ⟨this, by simp [paV, this]⟩

end Go.Proofs.YtoemoifeiigkoaaDoor

namespace Go.Proofs
open Go.Shelf
def YtoemoifeiigkoaaDoor.lays169_ren : Go.Shelf.Ren := ⟨fun | 169 => 89 | n => n, fun | 70 => 127 | 9 => 9 | 0 => 0 | 72 => 129 | 37 => 22 | 127 => 142 | 3 => 3 | 5 => 5 | n => n, fun | n => n⟩
theorem YtoemoifeiigkoaaDoor.lays169 : Go.Proofs.Lays.n169 Tryd.prog YtoemoifeiigkoaaDoor.lays169_ren := {
  mixed := by kernel_rfl
  f169 := Tryd.func89.trans (congrArg some (by kernel_rfl))
  t0 := Tryd.underlying0
  a0 := Tryd.isAgg0
  z0 := Tryd.sizeOf0
  v0 := Tryd.zeroValue0
  t3 := Tryd.underlying3
  a3 := Tryd.isAgg3
  z3 := Tryd.sizeOf3
  v3 := Tryd.zeroValue3
  t9 := Tryd.underlying9
  a9 := Tryd.isAgg9
  z9 := Tryd.sizeOf9
  v9 := Tryd.zeroValue9
  t37 := Tryd.underlying22
  a37 := Tryd.isAgg22
  z37 := Tryd.sizeOf22
  v37 := Tryd.zeroValue22
  t70 := Tryd.underlying127
  a70 := Tryd.isAgg127
  z70 := Tryd.sizeOf127
  v70 := Tryd.zeroValue127
  t72 := Tryd.underlying129
  a72 := Tryd.isAgg129
  z72 := Tryd.sizeOf129
  v72 := Tryd.zeroValue129
  t127 := Tryd.underlying142
  a127 := Tryd.isAgg142
  z127 := Tryd.sizeOf142
  v127 := Tryd.zeroValue142 }
theorem YtoemoifeiigkoaaDoor.Builder_Extra_169 : Builder.Extra Tryd.prog YtoemoifeiigkoaaDoor.lays169_ren := {
  sizeBuilder := by kernel_rfl
  liesBuilder := by kernel_rfl
  t5 := Tryd.underlying5
  a5 := Tryd.isAgg5
  z5 := Tryd.sizeOf5
  v5 := Tryd.zeroValue5
  infoByte := by kernel_rfl
  cellsByte := by kernel_rfl
  sizeByte := by kernel_rfl
  neB5 := by decide }
end Go.Proofs
namespace Go.Proofs.YtoemoifeiigkoaaDoor
open Go.RowKit

/-- A builder that holds these bytes. -/
def BuiltB (B b : Nat) (l : List UInt8) (w : World) : Prop := Lib.IsBuilder 129 5 B b (Lib.byteCells l) w
theorem BuiltB.string {B b : Nat} {l : List UInt8} {w : World} (h : BuiltB B b l w) (hBw : B ≤ w.heap.size) :
    Calls Tryd.prog 89 #[.pointer (some ⟨b, 0, none⟩)] w fun e w' => e = .returned (.string ⟨l.toArray⟩) ∧ Below B w w' := Any.Builder_String_any YtoemoifeiigkoaaDoor.lays169 YtoemoifeiigkoaaDoor.Builder_Extra_169 B b l w h hBw
theorem Tryd.infoBu : (Tryd.prog.info? 129).map (·.size) = some 2 := by kernel_rfl
theorem Tryd.liesBu : liesAt Tryd.prog Tryd.prog.depth 129 (2 / Tryd.prog.cellsOf 129) 0 129 1 = true := by kernel_rfl
theorem Tryd.infoU8 : (Tryd.prog.info? 5).map (fun i => (i.zero, i.size, i.bytes)) = some (some (.int .u8 0), 1, 1) := by kernel_rfl

set_option maxRecDepth 100000 in
set_option maxHeartbeats 1000000 in
theorem copyCheck_used (b : Nat) (w : World) (h0 : w.cell? ⟨b, 0, none⟩ = some (.pointer (some ⟨b, 0, none⟩))) :
    Calls Tryd.prog 95 #[.pointer (some ⟨b, 0, none⟩)] w fun e w' => e = .returned (.tuple #[]) ∧ w' = w := by
  obtain ⟨j, hj, _⟩ := Option.map_eq_some_iff.1 Tryd.infoBu
  go_enter Tryd.func95, Tryd.ntmps95
  go_wp2
  rw [Lib.run_neq_ptr_same w _ Tryd.underlying127 hj]
  go_wp2
  go_end0
  exact ⟨rfl, rfl⟩
set_option maxRecDepth 100000 in
set_option maxHeartbeats 1000000 in
theorem copyCheck_fresh (b : Nat) (w : World) (h0 : w.cell? ⟨b, 0, none⟩ = some (.pointer none)) (hsh : w.shape? b = some (129, 2)) (hfz : w.frozen? ⟨b, 0, none⟩ = false) :
    Calls Tryd.prog 95 #[.pointer (some ⟨b, 0, none⟩)] w fun e w' => e = .returned (.tuple #[]) ∧ w' = w.setCell ⟨b, 0, none⟩ (.pointer (some ⟨b, 0, none⟩)) := by
  obtain ⟨j, hj, hjs⟩ := Option.map_eq_some_iff.1 Tryd.infoBu
  go_enter Tryd.func95, Tryd.ntmps95
  go_wp2
  rw [Lib.run_to_unsafe w ⟨b, 0, none⟩ Tryd.underlying127 Tryd.underlying144 hj (by rw [hjs]; decide) hsh (Nat.zero_lt_succ 1)]
  simp only [Result.andThen]
  rw [Oper.upon_value]
  go_wp2
  rw [run_callFunc_extern Tryd.func98 (by kernel_rfl) (by kernel_rfl) (by kernel_rfl) (e := Extern.AbiNoEscape.same) (by kernel_rfl)]
  rw [Lib.run_noEscape]
  simp only [Result.andThen]
  rw [Oper.upon_value]
  go_wp2
  rw [Lib.run_from_unsafe w ⟨b, 0, none⟩ Tryd.underlying144 Tryd.underlying127 hj hsh Tryd.liesBu]
  simp only [Result.andThen]
  rw [Oper.upon_value]
  go_wp2
  go_end0
  exact ⟨rfl, rfl⟩
theorem copyCheck_k (B b : Nat) (l : List UInt8) (w : World) (h : BuiltB B b l w) :
    Calls Tryd.prog 95 #[.pointer (some ⟨b, 0, none⟩)] w fun e w' => e = .returned (.tuple #[]) ∧ Lib.BuilderAt 129 5 B b (.pointer (some ⟨b, 0, none⟩)) (Lib.byteCells l) w' ∧ Below B w w' ∧ Lib.OthersKept 5 (some b) w w' := by
  rcases h with h | h
  · refine (copyCheck_fresh b w h.cell0 h.shape h.frozen0).mono ?_
    rintro e w' ⟨rfl, rfl⟩
    exact ⟨rfl, h.used _, (Below.refl B w).setCell (p := ⟨b, 0, none⟩) h.1 _, (Lib.OthersKept.refl _ _ w).setCell ⟨b, 0, none⟩ rfl _⟩
  · refine (copyCheck_used b w h.cell0).mono ?_
    rintro e w' ⟨rfl, rfl⟩
    exact ⟨rfl, h, Below.refl B _, Lib.OthersKept.refl _ _ _⟩
set_option maxRecDepth 100000 in
set_option maxHeartbeats 2000000 in
theorem writeString_any (B b : Nat) (l : List UInt8) (s : ByteArray) (w : World) (h : BuiltB B b l w) (hlen : l.length + s.size ≤ 140737488355328) (hBw : B ≤ w.heap.size) :
    Calls Tryd.prog 88 #[.pointer (some ⟨b, 0, none⟩), .string s] w fun e w' => e = .returned (.tuple #[.int .i64 s.size, .nilIface]) ∧ BuiltB B b (l ++ s.data.toList) w' ∧ Below B w w' ∧ Lib.OthersKept 5 (some b) w w' := by
  obtain ⟨i0, hi, hz0, hz1, hz2⟩ := info_parts Tryd.infoU8
  have hbl : (Lib.byteCells l).length = l.length := by simp [Lib.byteCells]
  go_enter Tryd.func88, Tryd.ntmps88
  go_wp2_with fail
  refine (copyCheck_k B b l _ h).mono ?_
  rintro e w1 ⟨rfl, h1, hb1, hk1⟩
  obtain ⟨hB, v, hbk, hown, hne⟩ := h1
  rw [hbl] at hown
  have c0 : w1.cell? ⟨b, 0, none⟩ = some (.pointer (some ⟨b, 0, none⟩)) := by simp [World.cell?, hbk]
  have c1 : w1.cell? ⟨b, 1, none⟩ = some v := by simp [World.cell?, hbk]
  go_wp2_with (at_builtin; refine Lib.wpList_append_own_string _ rfl _ _ 22 9 rfl B 5 i0 Tryd.underlying22 Tryd.underlying9 hi hz0 hz1 hz2 v l.length (Lib.byteCells l) rfl hown s rfl ?c3 ?c4 ?c5 ?_)
  case c3 => unfold maxLen; omega
  case c4 => omega
  case c5 => have := hb1.size; omega
  intro v' w2 hown' hgrow _
  have hlt : b < w1.heap.size := (Array.getElem?_eq_some_iff.1 hbk).1
  have hb2 : w2.heap[b]? = some (.cells #[.pointer (some ⟨b, 0, none⟩), v] 129 (0, 0)) := by
    rw [hgrow.block b hlt (fun e => hne e.symm)]
    exact hbk
  have d0 : w2.cell? ⟨b, 0, none⟩ = some (.pointer (some ⟨b, 0, none⟩)) := by simp [World.cell?, hb2]
  have d1 : w2.cell? ⟨b, 1, none⟩ = some v := by simp [World.cell?, hb2]
  have f1 : w2.frozen? ⟨b, 1, none⟩ = false := by simp [World.frozen?, hb2]
  obtain ⟨ao, cap, rfl, _⟩ := own_nil hown'
  go_wp2
  go_ret2
  refine ⟨rfl, .inr ?_, ?_, (hk1.grown hgrow ?_).setCell ⟨b, 1, none⟩ rfl _⟩
  · have e : Lib.byteCells (l ++ s.data.toList) = Lib.byteCells l ++ Lib.strCells s := by simp [Lib.byteCells, Lib.strCells]
    rw [e]
    exact Lib.BuilderAt.put hB hb2 (bs' := Lib.byteCells l ++ Lib.strCells s) (by rw [show (Lib.byteCells l ++ Lib.strCells s).length = l.length + s.size by rw [List.length_append, hbl, Lib.strCells_length]]; exact hown') (by decide)
  · exact (hb1.grown hgrow (by have := hb1.size; omega) (fun k hk => (World.ownsRow.lt hown k hk).1)).setCell (p := ⟨b, 1, none⟩) hB _
  · intro g hg
    rcases hown.2 with ⟨rfl, _⟩ | ⟨g', cap', cur, rfl, _, hb', _⟩
    · cases hg
    · have : g' = g := by simpa [Value.ownBlock] using hg
      subst this; exact ⟨cur, _, hb'⟩
end Go.Proofs.YtoemoifeiigkoaaDoor

namespace Go.Proofs.YtoemoifeiigkoaaDoor

/-- The letters of a rule's word. -/
def wordR (xs : List GRule) : Nat → Nat → List UInt8
  | 0, _ => []
  | f + 1, r => if (getR xs r).pair then wordR xs f (getR xs r).left.toNat ++ wordR xs f (getR xs r).right.toNat else (getR xs r).letter.data.toList
def W1 (xs : List GRule) (r : Nat) : List UInt8 := wordR xs (r + 1) r
/-- The word of a grammar. -/
def wordG (xs : List GRule) : List UInt8 := if xs = [] then [] else W1 xs (xs.length - 1)
/-- What lies from i to j. -/
def cutL {α : Type} (l : List α) (i j : Int) : List α := (l.take j.toNat).drop i.toNat

theorem wordR_fuel {xs : List GRule} {ls : List Int} (h : lens xs = some ls) : ∀ (f r : Nat), r < f → r < xs.length → wordR xs f r = W1 xs r := by
  intro f
  induction f using Nat.strongRecOn with
  | _ f ih =>
    intro r hr hx
    obtain ⟨g, rfl⟩ : ∃ g, f = g + 1 := ⟨f - 1, by omega⟩
    unfold W1
    rw [wordR, wordR]
    cases hp : (getR xs r).pair with
    | false => rfl
    | true =>
      obtain ⟨q1, q2, q3, q4, q5⟩ := lens_pair h hx hp
      rw [if_pos rfl, if_pos rfl, ih g (by omega) _ (by omega) (by omega), ih g (by omega) _ (by omega) (by omega)]
      by_cases e : r = g
      · subst e
        rw [ih r (by omega) _ (by omega) (by omega), ih r (by omega) _ (by omega) (by omega)]
      · rw [ih r (by omega) _ q2 (by omega), ih r (by omega) _ q4 (by omega)]
theorem W1_pair {xs : List GRule} {ls : List Int} (h : lens xs = some ls) {r : Nat} (hx : r < xs.length) (hp : (getR xs r).pair = true) : W1 xs r = W1 xs (getR xs r).left.toNat ++ W1 xs (getR xs r).right.toNat := by
  obtain ⟨q1, q2, q3, q4, q5⟩ := lens_pair h hx hp
  rw [W1, wordR, if_pos hp, wordR_fuel h r _ q2 (by omega), wordR_fuel h r _ q4 (by omega)]
theorem W1_let {xs : List GRule} {r : Nat} (hp : (getR xs r).pair = false) : W1 xs r = (getR xs r).letter.data.toList := by
  rw [W1, wordR, if_neg (by simp [hp])]
theorem lens_isLet {xs : List GRule} {ls : List Int} (h : lens xs = some ls) {r : Nat} (hx : r < xs.length) (hp : (getR xs r).pair = false) : isLet (getR xs r).letter = true := by
  have h1 := (lens_steps h r _ (getR_at hx)).1
  unfold okRule at h1
  rw [if_neg (by simp [hp])] at h1
  simp at h1; exact h1.1.1
theorem isLet_size {s : ByteArray} (h : isLet s = true) : s.size = 1 := by unfold isLet at h; simp at h; exact h.1.1
theorem W1_len {xs : List GRule} {ls : List Int} (h : lens xs = some ls) : ∀ (r : Nat), r < xs.length → ((W1 xs r).length : Int) = ls.getD r 0 := by
  intro r
  induction r using Nat.strongRecOn with
  | _ r ih =>
    intro hx
    cases hp : (getR xs r).pair with
    | false =>
      rw [W1_let hp, lens_letter h hx hp]
      have := isLet_size (lens_isLet h hx hp)
      show (((getR xs r).letter.data.toList.length : Nat) : Int) = 1
      rw [Array.length_toList]
      exact congrArg _ this
    | true =>
      obtain ⟨q1, q2, q3, q4, q5⟩ := lens_pair h hx hp
      rw [W1_pair h hx hp, List.length_append, q5, ← ih _ q2 (by omega), ← ih _ q4 (by omega)]
      omega
theorem cutL_append {α : Type} (a b : List α) (i j : Int) : cutL (a ++ b) i j = cutL a i j ++ cutL b (i - a.length) (j - a.length) := by
  unfold cutL
  rw [List.take_append, List.drop_append]
  have e1 : (j - (a.length : Int)).toNat = j.toNat - a.length := by omega
  have e2 : (i - (a.length : Int)).toNat = i.toNat - a.length := by omega
  rw [e1, e2, List.length_take]
  congr 1
  by_cases hj : j.toNat ≤ a.length
  · have : List.take (j.toNat - a.length) b = [] := by rw [show j.toNat - a.length = 0 by omega]; rfl
    rw [this]; simp
  · rw [show min j.toNat a.length = a.length by omega]
theorem cutL_nil {α : Type} {l : List α} {i j : Int} (h : (l.length : Int) ≤ i ∨ j ≤ 0 ∨ j ≤ i) : cutL l i j = [] := by
  unfold cutL
  apply List.drop_eq_nil_of_le
  rw [List.length_take]; omega
theorem cutL_all {α : Type} {l : List α} {i j : Int} (hi : i ≤ 0) (hj : (l.length : Int) ≤ j) : cutL l i j = l := by
  unfold cutL
  rw [show i.toNat = 0 by omega, List.drop_zero, List.take_of_length_le (by omega)]
theorem cutL_len {α : Type} {l : List α} {i j : Int} (hi : 0 ≤ i) (hij : i ≤ j) (hj : j ≤ l.length) : ((cutL l i j).length : Int) = j - i := by
  unfold cutL
  rw [List.length_drop, List.length_take]; omega
/-- The words of a cover are what lies from i to j. -/
theorem cover_word {xs : List GRule} {ls : List Int} (h : lens xs = some ls) {i j : Int} : ∀ (f r : Nat) (p : Int), r < f → r < xs.length →
    (coverR xs ls i j f r p).flatMap (W1 xs) = cutL (W1 xs r) (i - p) (j - p) := by
  intro f
  induction f with
  | zero => intro r p hr; omega
  | succ f ih =>
    intro r p hr hx
    have hw := W1_len h r hx
    have h1 := lens_pos' h hx
    rw [coverR]
    split
    · rename_i c; rw [cutL_nil (by omega)]; rfl
    split
    · rename_i c; rw [cutL_all (by omega) (by omega)]; simp
    rename_i c1 c2
    cases hp : (getR xs r).pair with
    | false => have := lens_letter h hx hp; omega
    | true =>
      obtain ⟨q1, q2, q3, q4, q5⟩ := lens_pair h hx hp
      rw [List.flatMap_append, ih _ _ (by omega) (by omega), ih _ _ (by omega) (by omega), W1_pair h hx hp, cutL_append, W1_len h _ (by omega)]
      congr 2 <;> omega
theorem wordG_pos {xs : List GRule} (h : 0 < xs.length) : wordG xs = W1 xs (xs.length - 1) := by
  rw [wordG, if_neg (by intro e; subst e; simp at h)]
theorem lastI_at {xs : List GRule} {ls : List Int} (h : lens xs = some ls) (_h0 : 0 < xs.length) : lastI ls = ls.getD (xs.length - 1) 0 := by
  rw [lastI, lens_length h]
theorem wordG_len {xs : List GRule} {ls : List Int} (h : lens xs = some ls) : ((wordG xs).length : Int) = lastI ls := by
  by_cases h0 : 0 < xs.length
  · rw [wordG_pos h0, W1_len h _ (by omega), lastI_at h h0]
  · have hx : xs = [] := List.eq_nil_of_length_eq_zero (by omega)
    subst hx
    have : ls = [] := List.eq_nil_of_length_eq_zero (by rw [lens_length h]; rfl)
    subst this; rfl
theorem pieces_word {xs : List GRule} {ls : List Int} (h : lens xs = some ls) {i j : Int} : (piecesL xs ls i j).flatMap (W1 xs) = cutL (wordG xs) i j := by
  unfold piecesL
  split
  · rename_i c
    rw [cover_word h _ _ _ (by omega) (by omega), wordG_pos c.1, Int.sub_zero, Int.sub_zero]
  · rename_i c
    by_cases h0 : 0 < xs.length
    · rw [cutL_nil (by omega)]; rfl
    · have hx : xs = [] := List.eq_nil_of_length_eq_zero (by omega)
      subst hx
      simp [wordG, cutL]
/-- Down to the letter at a place. -/
def letAt (xs : List GRule) (ls : List Int) : Nat → Nat → Int → Nat
  | 0, r, _ => r
  | f + 1, r, i => if (getR xs r).pair then (if i < ls.getD (getR xs r).left.toNat 0 then letAt xs ls f (getR xs r).left.toNat i else letAt xs ls f (getR xs r).right.toNat (i - ls.getD (getR xs r).left.toNat 0)) else r
theorem letAt_word {xs : List GRule} {ls : List Int} (h : lens xs = some ls) : ∀ (f r : Nat) (i : Int), r < f → r < xs.length → 0 ≤ i → i < ls.getD r 0 →
    letAt xs ls f r i < xs.length ∧ (getR xs (letAt xs ls f r i)).pair = false ∧ (W1 xs r)[i.toNat]? = (getR xs (letAt xs ls f r i)).letter.data.toList[0]? := by
  intro f
  induction f with
  | zero => intro r i hr; omega
  | succ f ih =>
    intro r i hr hx hi hlt
    rw [letAt]
    cases hp : (getR xs r).pair with
    | false =>
      have := lens_letter h hx hp
      rw [if_neg (by simp)]
      refine ⟨hx, hp, ?_⟩
      rw [W1_let hp, show i.toNat = 0 by omega]
    | true =>
      obtain ⟨q1, q2, q3, q4, q5⟩ := lens_pair h hx hp
      have hl := W1_len h (getR xs r).left.toNat (by omega)
      rw [if_pos rfl, W1_pair h hx hp]
      by_cases c : i < ls.getD (getR xs r).left.toNat 0
      · rw [if_pos c, List.getElem?_append_left (by omega)]
        exact ih _ _ (by omega) (by omega) hi c
      · rw [if_neg c, List.getElem?_append_right (by omega)]
        have := ih (getR xs r).right.toNat (i - ls.getD (getR xs r).left.toNat 0) (by omega) (by omega) (by omega) (by omega)
        rw [show i.toNat - (W1 xs (getR xs r).left.toNat).length = (i - ls.getD (getR xs r).left.toNat 0).toNat by omega]
        exact this
theorem W1_ok {xs : List GRule} {ls : List Int} (h : lens xs = some ls) : ∀ (r : Nat), r < xs.length → (W1 xs r).all letOk = true := by
  intro r
  induction r using Nat.strongRecOn with
  | _ r ih =>
    intro hx
    cases hp : (getR xs r).pair with
    | false =>
      have hl := lens_isLet h hx hp
      rw [W1_let hp]
      have := wordOk_one (isLet_size hl)
      rw [hl] at this
      unfold wordOk at this
      simp only [Bool.and_eq_true] at this
      exact this.2
    | true =>
      obtain ⟨q1, q2, q3, q4, q5⟩ := lens_pair h hx hp
      rw [W1_pair h hx hp, List.all_append, ih _ q2 (by omega), ih _ q4 (by omega)]; rfl
end Go.Proofs.YtoemoifeiigkoaaDoor

namespace Go.Proofs.YtoemoifeiigkoaaDoor
open Go.RowKit

/-- What the closure 'spell' stands on: a builder with the letters so far, the grammar's box, its own box. -/
structure BJ (xs : List GRule) (vR : Value) (bg bs b B : Nat) (C : Nat → Prop) (s : List UInt8) (w : World) : Prop where
  bld : BuiltB B b s w
  hB : B ≤ w.heap.size
  nb : ¬ C b
  no : ∀ k, C k → B ≤ k → ∀ c fz, w.heap[k]? ≠ some (.cells c 5 fz)
  mg : C bg
  ms : C bs
  cg : w.cell? ⟨bg, 0, none⟩ = some vR
  cs : w.cell? ⟨bs, 0, none⟩ = some (.func (.func 87) #[] #[.pointer (some ⟨bg, 0, none⟩), .pointer (some ⟨bs, 0, none⟩), .pointer (some ⟨b, 0, none⟩)])
  sl : SlS RuleE w C vR xs
theorem BuiltB.lt {B b : Nat} {l : List UInt8} {w : World} (h : BuiltB B b l w) : b < w.heap.size := by
  rcases h with h | h
  · exact h.lt
  · exact h.lt
theorem built_keep {B b : Nat} {l : List UInt8} {w w' : World} (h : BuiltB B b l w) (hb : Below w.heap.size w w') : BuiltB B b l w' := by
  rcases h with ⟨h1, v, h2, h3, h4⟩ | ⟨h1, v, h2, h3, h4⟩
  · exact .inl ⟨h1, v, (hb.block b (Array.getElem?_eq_some_iff.1 h2).1).trans h2, ownsRow_below h3 hb, h4⟩
  · exact .inr ⟨h1, v, (hb.block b (Array.getElem?_eq_some_iff.1 h2).1).trans h2, ownsRow_below h3 hb, h4⟩
section
variable {xs : List GRule} {vR : Value} {bg bs b B : Nat}
theorem BJ.ext : ∀ (C : Nat → Prop) (s : List UInt8) (w w' : World), BJ xs vR bg bs b B C s w → Below w.heap.size w w' → NewNoB w.heap.size w' → (∀ k, C k → k < w.heap.size) → BJ xs vR bg bs b B (ext C w.heap.size w'.heap.size) s w' := by
  intro C s w w' h hb hn hC
  refine ⟨built_keep h.bld hb, Nat.le_trans h.hB hb.size, ?_, ?_, .inl h.mg, .inl h.ms, (hb.cell (p := ⟨bg, 0, none⟩) (hC _ h.mg)).trans h.cg, (hb.cell (p := ⟨bs, 0, none⟩) (hC _ h.ms)).trans h.cs, (h.sl.keep fun k hk => hb.block k (hC k hk)).more fun k hk => .inl hk⟩
  · rintro (h1 | h1)
    · exact h.nb h1
    · have := h.bld.lt; omega
  · rintro k (h1 | h1) hk c fz
    · rw [hb.block k (hC k h1)]; exact h.no k h1 hk c fz
    · exact hn k h1.1 c fz
theorem BJ.written {C : Nat → Prop} {s s' : List UInt8} {w w' : World} (h : BJ xs vR bg bs b B C s w) (hbl : BuiltB B b s' w') (hb : Below B w w') (hk : Lib.OthersKept 5 (some b) w w') (hC : ∀ k, C k → k < w.heap.size) : BJ xs vR bg bs b B C s' w' ∧ Wk C w w' := by
  have hblk : ∀ k, C k → w'.heap[k]? = w.heap[k]? := fun k hk' => by
    rcases Nat.lt_or_ge k B with hkB | hkB
    · exact hb.block k hkB
    obtain ⟨o, ho⟩ : ∃ o, w.heap[k]? = some o := ⟨_, Array.getElem?_eq_getElem (hC k hk')⟩
    rw [ho]
    exact hk k o ho (fun e => h.nb (by have : k = b := Option.some.inj e; rw [← this]; exact hk')) (fun c fz e => h.no k hk' hkB c fz (by rw [ho, e]))
  have hw : Wk C w w' := ⟨hb.os, hb.tape, hb.output, hb.size, hblk⟩
  exact ⟨⟨hbl, Nat.le_trans h.hB hb.size, h.nb, fun k hk' hkB c fz => by rw [hblk k hk']; exact h.no k hk' hkB c fz, h.mg, h.ms, hw.cell h.mg h.cg, hw.cell h.ms h.cs, h.sl.keep hw.keep⟩, hw⟩

set_option maxRecDepth 100000 in
set_option maxHeartbeats 4000000 in
theorem spell_any (ls : List Int) (hl : lens xs = some ls) : ∀ (r : Nat) (s : List UInt8) (C : Nat → Prop) (w : World), r < xs.length → BJ xs vR bg bs b B C s w → (∀ k, C k → k < w.heap.size) → s.length + (W1 xs r).length ≤ 1099511627776 →
    Calls Tryd.prog 87 #[.int .i64 r, .pointer (some ⟨bg, 0, none⟩), .pointer (some ⟨bs, 0, none⟩), .pointer (some ⟨b, 0, none⟩)] w (TakePost (BJ xs vR bg bs b B) C (s ++ W1 xs r) w) := by
  intro r
  induction r using Nat.strongRecOn with
  | _ r ih =>
    intro s C w hr hJ hC hlen
    have HJ := Lib.hid hJ
    have HC := Lib.hid hC
    have Ih := Lib.hid ih
    have hcg := hJ.cg
    have hcs := hJ.cs
    obtain ⟨AR, cR, rfl, _, _, hrowR⟩ := hJ.sl
    obtain ⟨b2, o2, rfl, hb2, hcellR⟩ := hrowR.rule hr
    obtain ⟨k0, k1, k2⟩ := hcellR r _ (getR_at hr)
    have hrx : (r : Int) < (xs.length : Int) := by omega
    have lbg : bg < w.heap.size := hC _ hJ.mg
    have lbs : bs < w.heap.size := hC _ hJ.ms
    have lb2 : b2 < w.heap.size := hC _ hb2
    have eg : ∀ args w, (callFunc 87 args).run Tryd.prog w = .ok (.enter 87 args) w := enters_of Tryd.func87 (by kernel_rfl) rfl
    obtain ⟨R, hR⟩ : ∃ R, getR xs r = R := ⟨_, rfl⟩
    rw [hR] at k0 k1 k2
    have HR := Lib.hid hR
    have Hlen := Lib.hid hlen
    clear ih hJ hC hrowR hcellR hb2 hR hlen
    have hBA : ∀ o o', Below w.heap.size w ((w.alloc o).alloc o') := fun o o' => ((Below.refl _ _).alloc (Nat.le_refl _) _).alloc (by simp) _
    have HBA := Lib.hid hBA
    clear hBA
    go_enter Tryd.func87, Tryd.ntmps87
    go_wp2_with fail
    refine (isPair_any _ _ _ _).mono ?_
    rintro e w1 ⟨rfl, rfl⟩
    have hN : NewNoB w.heap.size ((w.alloc (Obj.cells #[Value.string R.letter, Value.int IntKind.i64 R.left, Value.int IntKind.i64 R.right] 83)).alloc (Obj.cells #[Value.string R.letter, Value.int IntKind.i64 R.left, Value.int IntKind.i64 R.right] 83)) := ((NewNoB.same w).alloc (NoB.cells (by decide))).alloc (NoB.cells (by decide))
    have hB2 := HBA.out (Obj.cells #[Value.string R.letter, Value.int IntKind.i64 R.left, Value.int IntKind.i64 R.right] 83) (Obj.cells #[Value.string R.letter, Value.int IntKind.i64 R.left, Value.int IntKind.i64 R.right] 83)
    have e0 : ((w.alloc (Obj.cells #[Value.string R.letter, Value.int IntKind.i64 R.left, Value.int IntKind.i64 R.right] 83)).alloc (Obj.cells #[Value.string R.letter, Value.int IntKind.i64 R.left, Value.int IntKind.i64 R.right] 83)).heap[w.heap.size]? = some (Obj.cells #[Value.string R.letter, Value.int IntKind.i64 R.left, Value.int IntKind.i64 R.right] 83 (0, 0)) := ((Below.refl _ _).alloc (Nat.le_refl _) _).block w.heap.size (by simp) |>.trans (heap_alloc_new _ _)
    generalize (w.alloc (Obj.cells #[Value.string R.letter, Value.int IntKind.i64 R.left, Value.int IntKind.i64 R.right] 83)).alloc (Obj.cells #[Value.string R.letter, Value.int IntKind.i64 R.left, Value.int IntKind.i64 R.right] 83) = W2 at *
    have l0 : w.heap.size < W2.heap.size := (Array.getElem?_eq_some_iff.1 e0).1
    have d0 : W2.cell? ⟨w.heap.size, 0, none⟩ = some (.string R.letter) := by simp [World.cell?, e0]
    have d1 : W2.cell? ⟨w.heap.size, 1, none⟩ = some (.int .i64 R.left) := by simp [World.cell?, e0]
    have d2 : W2.cell? ⟨w.heap.size, 2, none⟩ = some (.int .i64 R.right) := by simp [World.cell?, e0]
    have J2 := BJ.ext C s w W2 HJ.out hB2 hN HC.out
    have hCx : ∀ k, ext C w.heap.size W2.heap.size k → k < W2.heap.size := fun k hk => by
      rcases hk with hk | hk
      · have := HC.out k hk; omega
      · exact hk.2
    have HJ2 := Lib.hid J2
    have HCx := Lib.hid hCx
    have HB2 := Lib.hid hB2
    have hcg2 := J2.cg
    have hcs2 := J2.cs
    clear hN hB2 e0 J2 hCx hcg hcs k0 k1 k2
    by_cases hp : R.letter.toList.isEmpty = true
    · rw [hp]
      have hpr : (getR xs r).pair = true := by rw [HR.out]; rw [isEmpty_size] at hp; exact hp
      obtain ⟨q1, q2, q3, q4, q5⟩ := lens_pair hl hr hpr
      have hW := W1_pair hl hr hpr
      rw [HR.out] at q1 q2 q3 q4 hW
      obtain ⟨la, hla⟩ := Int.eq_ofNat_of_zero_le q1
      obtain ⟨ra, hra⟩ := Int.eq_ofNat_of_zero_le q3
      rw [hla] at q2 d1
      rw [hra] at q4 d2
      rw [hla, hra] at hW
      simp only [Int.toNat_natCast] at q2 q4 hW
      have HW := Lib.hid hW
      have hlenA : s.length + (W1 xs la).length ≤ 1099511627776 := by have := Hlen.out; rw [hW, List.length_append] at this; omega
      have hlenB : (s ++ W1 xs la).length + (W1 xs ra).length ≤ 1099511627776 := by have := Hlen.out; rw [hW, List.length_append] at this; rw [List.length_append]; omega
      have HlA := Lib.hid hlenA
      have HlB := Lib.hid hlenB
      clear hpr hp q5 hW q1 q3 hla hra hlenA hlenB
      go_wp2_with fail
      refine (Ih.out la q2 s _ W2 (by omega) HJ2.out HCx.out HlA.out).mono ?_
      rintro e w3 ⟨rfl, C3, g1, g2, g3, g4⟩
      have d2' : w3.cell? ⟨w.heap.size, 2, none⟩ = some (.int .i64 ra) := g4.cell (Or.inr ⟨Nat.le_refl _, l0⟩) d2
      have hcs3 := g3.cs
      have HJ3 := Lib.hid g3
      have G1 := Lib.hid g1
      have G2 := Lib.hid g2
      have G4 := Lib.hid g4
      clear g1 g2 g3 g4 hcs2 hcg2 d1 d2 d0
      go_wp2_with fail
      refine (Ih.out ra q4 (s ++ W1 xs la) _ w3 (by omega) HJ3.out G2.out HlB.out).mono ?_
      rintro e w4 ⟨rfl, C4, k1, k2, k3, k4⟩
      go_wp2_with fail
      go_end0
      refine ⟨rfl, C4, fun k hk => k1 _ (G1.out _ (.inl hk)), k2, ?_, ?_⟩
      · rw [HW.out, ← List.append_assoc]; exact k3
      · exact ((Wk.of_below HB2.out HC.out).trans (G4.out.mono fun k hk => .inl hk)).trans (k4.mono fun k hk => G1.out _ (.inl hk))
    · have hp2 : R.letter.toList.isEmpty = false := by simpa using hp
      have hpr : (getR xs r).pair = false := by rw [HR.out]; rw [isEmpty_size] at hp2; exact hp2
      have hW := W1_let hpr
      have hsz := isLet_size (lens_isLet hl hr hpr)
      rw [HR.out] at hW hsz
      have HW := Lib.hid hW
      have hlenA : s.length + R.letter.size ≤ 140737488355328 := by
        have := Hlen.out
        omega
      rw [hp2]
      clear hp hpr hW hp2 hcs2 hcg2
      have W := Lib.hid (writeString_any B b s R.letter W2 HJ2.out.bld hlenA HJ2.out.hB)
      go_wp2_with fail
      refine W.out.mono ?_
      rintro e w3 ⟨rfl, hb3, hbl3, ho3⟩
      obtain ⟨J3, hw3⟩ := HJ2.out.written hb3 hbl3 ho3 HCx.out
      go_wp2_with fail
      go_end0
      refine ⟨rfl, _, fun k hk => .inl hk, fun k hk => Nat.lt_of_lt_of_le (HCx.out k hk) hw3.size, ?_, (Wk.of_below HB2.out HC.out).trans (hw3.mono fun k hk => .inl hk)⟩
      rw [HW.out]; exact J3
end
end Go.Proofs.YtoemoifeiigkoaaDoor

namespace Go.Proofs.YtoemoifeiigkoaaDoor
open Go.RowKit

theorem foldl_word (f : Nat → List UInt8) (l : List Nat) (s : List UInt8) : l.foldl (fun s r => s ++ f r) s = s ++ l.flatMap f := by
  induction l generalizing s with
  | nil => simp
  | cons a l ih => rw [List.foldl_cons, ih]; simp

set_option maxRecDepth 100000 in
set_option maxHeartbeats 2000000 in
theorem unpack_any (vR vL : Value) (xs : List GRule) (ls : List Int) (i j : Int) (w : World) (hR : Sl RuleE w w.heap.size vR xs) (hL : Sl IntE w w.heap.size vL ls) (hl : lens xs = some ls) (hn : xs.length ≤ 1099511627776)
    (hlen : (cutL (wordG xs) i j).length ≤ 1099511627776) :
    Calls Tryd.prog 81 #[.agg #[vR], vL, .int .i64 i, .int .i64 j] w fun e w' => e = .returned (.string ⟨(cutL (wordG xs) i j).toArray⟩) ∧ Below w.heap.size w w' := by
  have HR := Lib.hid hR
  have HL := Lib.hid hL
  obtain ⟨AR, cR, rfl, _⟩ := hR
  obtain ⟨AL, cL, rfl, _⟩ := hL
  have hword := pieces_word hl (i := i) (j := j)
  have Hword := Lib.hid hword
  have Hl := Lib.hid hl
  clear hword hl
  go_enter Tryd.func81, Tryd.ntmps81
  go_wp2_with fail
  have hz0 : (((w.alloc (Obj.cells #[Value.slice AR xs.length cR] 26)).alloc (Obj.cells #[Value.pointer none, Value.slice none 0 0] 129)).alloc (Obj.cells #[Value.func (Fn.func 87) #[] #[Value.pointer (some ⟨w.heap.size, 0, none⟩), Value.pointer (some ⟨w.heap.size + 1 + 1, 0, none⟩), Value.pointer (some ⟨w.heap.size + 1, 0, none⟩)]] 96)).heap.size = w.heap.size + 3 := by simp
  have hB0 : Below w.heap.size w (((w.alloc (Obj.cells #[Value.slice AR xs.length cR] 26)).alloc (Obj.cells #[Value.pointer none, Value.slice none 0 0] 129)).alloc (Obj.cells #[Value.func (Fn.func 87) #[] #[Value.pointer (some ⟨w.heap.size, 0, none⟩), Value.pointer (some ⟨w.heap.size + 1 + 1, 0, none⟩), Value.pointer (some ⟨w.heap.size + 1, 0, none⟩)]] 96)) := (by repeat (first | exact Below.refl _ _ | (refine Below.alloc ?_ (by first | omega | (simp; done) | (simp; omega)) _) | refine below_drewN ?_ _ | refine Below.drew ?_))
  have hx0 : (((w.alloc (Obj.cells #[Value.slice AR xs.length cR] 26)).alloc (Obj.cells #[Value.pointer none, Value.slice none 0 0] 129)).alloc (Obj.cells #[Value.func (Fn.func 87) #[] #[Value.pointer (some ⟨w.heap.size, 0, none⟩), Value.pointer (some ⟨w.heap.size + 1 + 1, 0, none⟩), Value.pointer (some ⟨w.heap.size + 1, 0, none⟩)]] 96)).cell? ⟨w.heap.size, 0, none⟩ = some (.slice AR xs.length cR) := by simp [go_sem]
  have hx2 : (((w.alloc (Obj.cells #[Value.slice AR xs.length cR] 26)).alloc (Obj.cells #[Value.pointer none, Value.slice none 0 0] 129)).alloc (Obj.cells #[Value.func (Fn.func 87) #[] #[Value.pointer (some ⟨w.heap.size, 0, none⟩), Value.pointer (some ⟨w.heap.size + 1 + 1, 0, none⟩), Value.pointer (some ⟨w.heap.size + 1, 0, none⟩)]] 96)).cell? ⟨w.heap.size + 2, 0, none⟩ = some (.func (.func 87) #[] #[.pointer (some ⟨w.heap.size, 0, none⟩), .pointer (some ⟨w.heap.size + 2, 0, none⟩), .pointer (some ⟨w.heap.size + 1, 0, none⟩)]) := by simp [go_sem]
  have hx1 : (((w.alloc (Obj.cells #[Value.slice AR xs.length cR] 26)).alloc (Obj.cells #[Value.pointer none, Value.slice none 0 0] 129)).alloc (Obj.cells #[Value.func (Fn.func 87) #[] #[Value.pointer (some ⟨w.heap.size, 0, none⟩), Value.pointer (some ⟨w.heap.size + 1 + 1, 0, none⟩), Value.pointer (some ⟨w.heap.size + 1, 0, none⟩)]] 96)).heap[w.heap.size + 1]? = some (.cells #[.pointer none, .slice none 0 0] 129 (0, 0)) := by
    have h1 : ((w.alloc (Obj.cells #[Value.slice AR xs.length cR] 26)).alloc (Obj.cells #[Value.pointer none, Value.slice none 0 0] 129)).heap[w.heap.size + 1]? = some (.cells #[.pointer none, .slice none 0 0] 129 (0, 0)) := by
      have := heap_alloc_new (w.alloc (Obj.cells #[Value.slice AR xs.length cR] 26)) (Obj.cells #[Value.pointer none, Value.slice none 0 0] 129)
      rwa [show (w.alloc (Obj.cells #[Value.slice AR xs.length cR] 26)).heap.size = w.heap.size + 1 by simp] at this
    exact (Below.heap_alloc _ _ _ (by simp)).trans h1
  have hnb : ∀ c fz, (((w.alloc (Obj.cells #[Value.slice AR xs.length cR] 26)).alloc (Obj.cells #[Value.pointer none, Value.slice none 0 0] 129)).alloc (Obj.cells #[Value.func (Fn.func 87) #[] #[Value.pointer (some ⟨w.heap.size, 0, none⟩), Value.pointer (some ⟨w.heap.size + 1 + 1, 0, none⟩), Value.pointer (some ⟨w.heap.size + 1, 0, none⟩)]] 96)).heap[w.heap.size + 2]? ≠ some (.cells c 5 fz) := fun c fz => (((((NewNoB.same w).alloc (NoB.cells (by decide))).alloc (NoB.cells (by decide))).alloc (NoB.cells (by decide)))) (w.heap.size + 2) (by omega) c fz
  generalize ((w.alloc (Obj.cells #[Value.slice AR xs.length cR] 26)).alloc (Obj.cells #[Value.pointer none, Value.slice none 0 0] 129)).alloc (Obj.cells #[Value.func (Fn.func 87) #[] #[Value.pointer (some ⟨w.heap.size, 0, none⟩), Value.pointer (some ⟨w.heap.size + 1 + 1, 0, none⟩), Value.pointer (some ⟨w.heap.size + 1, 0, none⟩)]] 96) = w0 at *
  have hJ : BJ xs (.slice AR xs.length cR) w.heap.size (w.heap.size + 2) (w.heap.size + 1) (w.heap.size + 1) (fun k => k < w.heap.size + 1 ∨ k = w.heap.size + 2) [] w0 := by
    refine ⟨.inl ⟨Nat.le_refl _, _, hx1, World.ownsRow_nil _ _ _ _, by simp [Value.ownBlock]⟩, by omega, by omega, ?_, .inl (by omega), .inr rfl, hx0, hx2, ?_⟩
    · rintro k (h | h) hk c fz
      · omega
      · subst h; exact hnb c fz
    · exact (HR.out.below hB0).more fun k hk => .inl (by omega)
  have HB0 := Lib.hid hB0
  have HJ := Lib.hid hJ
  have HZ0 := Lib.hid hz0
  clear hz0 hB0 hx0 hx1 hx2 hnb hJ
  have hcnt : ∀ l : List Nat, (l.foldl (fun s r => s ++ W1 xs r) []).length = (l.flatMap (W1 xs)).length := fun l => by rw [foldl_word]; simp
  refine (pieces_any (BJ xs (.slice AR xs.length cR) w.heap.size (w.heap.size + 2) (w.heap.size + 1) (w.heap.size + 1)) (fun s r => s ++ W1 xs r) (fun s r => s.length + (W1 xs r).length ≤ 1099511627776) 87 #[.pointer (some ⟨w.heap.size, 0, none⟩), .pointer (some ⟨w.heap.size + 2, 0, none⟩), .pointer (some ⟨w.heap.size + 1, 0, none⟩)] xs ls i j Hl.out hn (enters_of Tryd.func87 (by kernel_rfl) rfl) BJ.ext
    (fun C s r w' hJ hok hr hC => spell_any ls Hl.out r s C w' hr hJ hC hok) (.slice AL ls.length cL) (.slice AR xs.length cR) [] (fun k => k < w.heap.size + 1 ∨ k = w.heap.size + 2) w0 HJ.out ?_ ?_ ?_ HJ.out.sl).mono ?_
  · intro l1 r l2 e
    rw [hcnt]
    have := congrArg (fun l => (l.flatMap (W1 xs)).length) e
    simp only [Hword.out, List.flatMap_append, List.flatMap_cons, List.length_append] at this
    omega
  · intro k hk
    have := HZ0.out
    omega
  · exact (HL.out.below HB0.out).more fun k hk => .inl (by omega)
  rintro e w2 ⟨rfl, C2, g1, g2, g3, g4⟩
  rw [foldl_word, List.nil_append, Hword.out] at g3
  have hb2 : Below (w.heap.size + 1) w0 w2 := g4.below fun k hk => .inl hk
  have HB2 := Lib.hid (HB0.out.trans (hb2.mono (by omega)))
  have S := Lib.hid (g3.bld.string g3.hB)
  have hs2 : w.heap.size ≤ w2.heap.size := by have := g3.hB; omega
  clear g1 g2 g3 g4 hb2 hcnt
  go_wp2_with fail
  refine S.out.mono ?_
  rintro e w3 ⟨rfl, hb3⟩
  go_wp2_with fail
  go_ret
  exact ⟨rfl, HB2.out.trans (hb3.mono (by omega))⟩
end Go.Proofs.YtoemoifeiigkoaaDoor

namespace Go.Proofs.YtoemoifeiigkoaaDoor
open Go.RowKit

theorem push_rule {W : World} {ops : Array Oper} {rest : List Oper} {o : Oper} {a : Act} {Q : Exit → Act → World → Prop} (hgd : o.guard = none) (s x : Operand)
    (ho : o.op = .call { callee := .builtin .append, args := #[s, x], argTypes := #[24, 24] }) {t : ByteArray} {p q : Int} {base : Nat} {v : Value} {l : List GRule}
    (hs : a.eval s = v) {N : Nat} (hx : a.eval x = .slice (some ⟨N, 0, none⟩) 1 1) (hN : N = W.heap.size) (hown : OwnRules W base v l) (hlen : l.length ≤ 1099511627776) (hbase : base ≤ W.heap.size)
    (h : ∀ v' w', OwnRules w' base v' (l ++ [⟨t, p, q⟩]) → (W.alloc (.cells #[.string t, .int .i64 p, .int .i64 q] 83)).grownBy w' v.ownBlock → Below base W w' → wpList Tryd.prog ops Q rest (a.put o.dst v') w') :
    wpList Tryd.prog ops Q (o :: rest) a (W.alloc (.cells #[.string t, .int .i64 p, .int .i64 q] 83)) :=
  push_rules (y := ⟨t, p, q⟩) hgd s x ho hs hx hN hown hlen hbase h

/-- What comes back as a grammar and a code. -/
def GRes (out : List GRule) (code : Int) (w : World) (e : Ending) (w' : World) : Prop :=
  Below w.heap.size w w' ∧ ∃ v', OwnRules w' w.heap.size v' out ∧ e = .returned (.tuple #[.agg #[v'], .int .i64 code])

theorem SlS.dr {α : Type} {E : Enc α} {w : World} {v : Value} {xs : List α} (h : Sl E w w.heap.size v xs) : Sl E w.drew w.drew.heap.size v xs := h.keep fun _ _ => rfl
theorem keepD {wr W W2 : World} {N : Nat} {p q : Addr} {v u : Value} (h : Below N wr W ∧ W.cell? p = some v ∧ W.cell? q = some u) (h2 : Below W.heap.size W W2) (hN : N ≤ wr.heap.size) (hp : p.block < wr.heap.size) (hq : q.block < wr.heap.size) :
    Below N wr W2 ∧ W2.cell? p = some v ∧ W2.cell? q = some u :=
  ⟨h.1.trans (h2.mono (Nat.le_trans hN h.1.size)), (h2.cell (Nat.lt_of_lt_of_le hp h.1.size)).trans h.2.1, (h2.cell (Nat.lt_of_lt_of_le hq h.1.size)).trans h.2.2⟩
theorem keepE {wr W W2 : World} {N : Nat} {p q : Addr} {v u : Value} (h : Below N wr W ∧ W.cell? p = some v ∧ W.cell? q = some u) (h2 : Below N W W2) (hp : p.block < N) (hq : q.block < N) :
    Below N wr W2 ∧ W2.cell? p = some v ∧ W2.cell? q = some u :=
  ⟨h.1.trans h2, (h2.cell hp).trans h.2.1, (h2.cell hq).trans h.2.2⟩
theorem step_append_rules {W : World} {ops : Array Oper} {o : Oper} {a : Act} {K : Act → World → Prop} {Q : Exit → Act → World → Prop} {E : Prop} (hgd : o.guard = none) (s x : Operand)
    (ho : o.op = .call { callee := .builtin .append, args := #[s, x], argTypes := #[24, 24] }) {ys : List GRule} {base : Nat} {v sv : Value} {l : List GRule} {S : Nat → Prop}
    (hs : a.eval s = v) (hx : a.eval x = sv) (hown : OwnRules W base v l) (hsl : SlS RuleE W S sv ys) (hlen : l.length + ys.length ≤ 1099511627776) (hbase : base ≤ W.heap.size)
    (h : ∀ v' w', OwnRules w' base v' (l ++ ys) → W.grownBy w' v.ownBlock → Below base W w' → K (a.put o.dst v') w') :
    if Region.wanted o (yielded ops a.tmps) = true then Oper.wp Tryd.prog o a W K Q else E := by
  have hw : Region.wanted o (yielded ops a.tmps) = true := by simp [Region.wanted, hgd]
  rw [if_pos hw]
  obtain ⟨i0, hi0, hz0, hz1, hz2⟩ := info_parts Tryd.infoR
  obtain ⟨A, c, rfl, hc, hm, hrow⟩ := hsl
  have H : ∃ v' w', (Builtin.append_ #[24, 24] o.type #[v, .slice A ys.length c]).run Tryd.prog W = .ok v' w' ∧ OwnRules w' base v' (l ++ ys) ∧ W.grownBy w' v.ownBlock := by
    rcases A with _ | ad
    · have h0 : ys = [] := by
        rcases Nat.eq_zero_or_pos ys.length with h0 | h0
        · exact List.eq_nil_of_length_eq_zero h0
        · obtain ⟨b, o, h, _⟩ := hrow h0; cases h
      subst h0
      exact ⟨v, W, run_append_of_nil W base _ _ 83 i0 3 Tryd.underlying24 hi0 v _ _ hown c, by simpa using hown, World.grownBy.refl W _⟩
    · obtain ⟨v', w', hrun, h2, h3, _⟩ := run_append_own_at (P := Tryd.prog) W base 24 o.type 83 i0 _ 3 32 Tryd.underlying24 hi0 hz0 hz1 hz2 rfl (by decide) v _ _ hown ad ys.length c (ys.flatMap GRule.cells)
        (cells_len ys) (rules_cells hrow) (rules_one ys) (by simp only [maxLen]; omega) (by omega) hbase
      exact ⟨v', w', hrun, by unfold OwnRules; simpa using h2, h3⟩
  obtain ⟨v', w', hrun, h2, h3⟩ := H
  unfold Oper.wp execOp
  simp only [ho, resolve, invoke, builtin, Sem.run_bind, Sem.run_pure, Result.andThen_ok, List.map_toArray, List.map_cons, List.map_nil, hs, hx, hrun]
  exact h v' w' h2 h3 ((Below.refl base W).grown h3 hbase (fun k hk => (World.ownsRow.lt hown k hk).1))
def raiseR (n : Nat) (r : GRule) : GRule := if r.pair then { letter := r.letter, left := r.left + n, right := r.right + n } else r
/-- The numbers of all pairs are small. -/
def SmallP (rs : List GRule) : Prop := ∀ r ∈ rs, r.pair = true → -1099511627776 ≤ r.left ∧ r.left ≤ 1099511627776 ∧ -1099511627776 ≤ r.right ∧ r.right ≤ 1099511627776

theorem raised_any (v : Value) (xs : List GRule) (n : Nat) (w : World) (h : Sl RuleE w w.heap.size v xs) (hl : xs.length ≤ 1099511627776) (hn : n ≤ 1099511627776) (hp : SmallP xs) :
    Calls Tryd.prog 53 #[v, .int .i64 n] w fun e w' => ∃ v', e = .returned v' ∧ OwnRules w' w.heap.size v' (xs.map (raiseR n)) ∧ Below w.heap.size w w' := by
  obtain ⟨A, c, rfl, hc, hm, hrow⟩ := h
  have Hp := Lib.hid hp
  clear hm hp
  go_enter Tryd.func53, Tryd.ntmps53
  go_wp2_with fail
  go_loopw [5, 11] (fun out i wr => ∃ (k : Nat), k ≤ xs.length ∧ i = .int .i64 k ∧ Below w.heap.size w wr ∧ OwnRules wr w.heap.size out ((xs.take k).map (raiseR n))) (fun _ i _ => xs.length - (intOf i).toNat)
  case atStart => exact ⟨0, Nat.zero_le _, rfl, (Below.refl _ _).alloc (Nat.le_refl _) _, OwnRules.empty rfl (Nat.le_refl _)⟩
  case round =>
    obtain ⟨k, hk, rfl, hb, hown⟩ := hrel
    by_cases hlt : k < xs.length
    · obtain ⟨b, o, rfl, hbl, hcell⟩ := hrow.rule hlt
      obtain ⟨r, hr⟩ : ∃ x, xs[k]? = some x := ⟨_, List.getElem?_eq_getElem hlt⟩
      obtain ⟨g0, g1, g2⟩ := hcell k r hr
      have hc0 := (hb.cell (p := ⟨b, o + k * 3, none⟩) hbl).trans g0
      have hc1 := (hb.cell (p := ⟨b, o + k * 3 + 1, none⟩) hbl).trans g1
      have hc2 := (hb.cell (p := ⟨b, o + k * 3 + 2, none⟩) hbl).trans g2
      have hsz : w.heap.size ≤ wr.heap.size := hb.size
      have Hnext : Hid ((xs.take (k + 1)).map (raiseR n) = (xs.take k).map (raiseR n) ++ [raiseR n r]) := by rw [Hid, List.take_add_one, hr, List.map_append]; rfl
      have hlen : ((xs.take k).map (raiseR n)).length ≤ 1099511627776 := by simp; omega
      have Hr := Lib.hid hr
      have Hown := Lib.hid hown
      clear hcell g0 g1 g2 hr hown
      by_cases hpr : r.pair = true
      · have hbd := Hp.out r (List.mem_of_getElem? Hr.out) hpr
        have hemp : r.letter.toList.isEmpty = true := by rw [isEmpty_size]; exact hpr
        have Hrr : Hid (raiseR n r = { letter := r.letter, left := r.left + n, right := r.right + n }) := by rw [Hid, raiseR, if_pos hpr]
        clear hpr
        go_wp2_with (first
          | (go_at_call 56; refine (isPair_any _ _ _ _).mono ?_; rintro e w' ⟨rfl, rfl⟩)
          | (at_builtin; go_must (refine push_rule rfl _ _ rfl rfl rfl (by simp) (by repeat (first | exact Hown.out | apply OwnInts.alloc | apply OwnInts.drewN | apply OwnRules.alloc | apply OwnRules.drewN)) hlen (by first | omega | (simp; done) | (simp; omega)) ?_); intro v' w1 hown1 hgrow hbw))
        go_roundw
        case rel => exact ⟨k + 1, by omega, by go_num, Below.trans (by repeat (first | exact hb | (refine Below.alloc ?_ (by first | omega | (simp; done) | (simp; omega)) _) | refine below_drewN ?_ _ | refine Below.drew ?_)) hbw, by rw [Hnext.out, Hrr.out]; exact hown1⟩
        case measure => simp [intOf]; omega
      · have hemp : r.letter.toList.isEmpty = false := by rw [isEmpty_size]; simpa [GRule.pair] using hpr
        have Hrr : Hid (raiseR n r = r) := by rw [Hid, raiseR, if_neg hpr]
        clear hpr
        go_wp2_with (first
          | (go_at_call 56; refine (isPair_any _ _ _ _).mono ?_; rintro e w' ⟨rfl, rfl⟩)
          | (at_builtin; go_must (refine push_rule rfl _ _ rfl rfl rfl (by simp) (by repeat (first | exact Hown.out | apply OwnInts.alloc | apply OwnInts.drewN | apply OwnRules.alloc | apply OwnRules.drewN)) hlen (by first | omega | (simp; done) | (simp; omega)) ?_); intro v' w1 hown1 hgrow hbw))
        go_roundw
        case rel => exact ⟨k + 1, by omega, by go_num, Below.trans (by repeat (first | exact hb | (refine Below.alloc ?_ (by first | omega | (simp; done) | (simp; omega)) _) | refine below_drewN ?_ _ | refine Below.drew ?_)) hbw, by rw [Hnext.out, Hrr.out]; exact hown1⟩
        case measure => simp [intOf]; omega
    · have hkn : k = xs.length := by omega
      subst hkn
      have Hown2 := Lib.hid hown
      clear hown
      go_wp2
      go_ret
      exact ⟨_, rfl, by have := Hown2.out; rw [List.take_length] at this; exact this, hb⟩

theorem pairInt_any (a b : Int) (w : World) :
    Calls Tryd.prog 54 #[.int .i64 a, .int .i64 b] w fun e w' => e = .returned (.agg #[.string ⟨#[]⟩, .int .i64 a, .int .i64 b]) ∧ Below w.heap.size w w' := by
  go_enter Tryd.func54, Tryd.ntmps54
  go_wp2
  exact bodyPost_ret (v := .agg #[.string ⟨#[]⟩, .int .i64 a, .int .i64 b]) (by simp [results, Tryd.results54, go_sem]) rfl ⟨rfl, (by repeat (first | exact (Below.refl _ _) | (refine Below.alloc ?_ (by first | omega | (simp; done) | (simp; omega)) _) | refine below_drewN ?_ _ | refine Below.drew ?_))⟩

def pairR (a b : Int) : GRule := { letter := ⟨#[]⟩, left := a, right := b }
def joinG (xs ys : List GRule) : List GRule :=
  if xs.length = 0 then ys else if ys.length = 0 then xs else xs ++ ys.map (raiseR xs.length) ++ [pairR ((xs.length : Int) - 1) ((xs.length : Int) + ys.length - 1)]

def GOwn (out : List GRule) (w : World) (e : Ending) (w' : World) : Prop :=
  Below w.heap.size w w' ∧ ∃ v', OwnRules w' w.heap.size v' out ∧ e = .returned (.agg #[v'])

set_option maxRecDepth 100000 in
set_option maxHeartbeats 4000000 in
theorem join_any (v u : Value) (xs ys : List GRule) (w : World) (h : Sl RuleE w w.heap.size v xs) (h' : Sl RuleE w w.heap.size u ys) (hn : xs.length ≤ 1048576) (hn' : ys.length ≤ 1048576) (hp : SmallP ys) :
    Calls Tryd.prog 25 #[.agg #[v], .agg #[u]] w (GOwn (joinG xs ys) w) := by
  have h1 := fun o o' o'' => (h.below ((((Below.refl w.heap.size w).alloc (Nat.le_refl _) o).alloc (by simp) o').alloc (by first | omega | (simp; done) | (simp; omega)) o'')).le (B' := (((w.alloc o).alloc o').alloc o'').heap.size) (by simp; omega)
  have h2 := fun o o' o'' => (h'.below ((((Below.refl w.heap.size w).alloc (Nat.le_refl _) o).alloc (by simp) o').alloc (by first | omega | (simp; done) | (simp; omega)) o'')).le (B' := (((w.alloc o).alloc o').alloc o'').heap.size) (by simp; omega)
  have hB := fun o o' o'' => (((Below.refl w.heap.size w).alloc (Nat.le_refl _) o).alloc (by simp) o').alloc (by first | omega | (simp; done) | (simp; omega)) o''
  have H1 := Lib.hid h1
  have H2 := Lib.hid h2
  have HB := Lib.hid hB
  clear h1 h2 hB
  obtain ⟨A, c, rfl, hc, hm, hrow⟩ := h
  obtain ⟨A', c', rfl, hc', hm', hrow'⟩ := h'
  clear hm hm' hrow hrow'
  by_cases h0 : xs.length = 0
  · have hj : joinG xs ys = ys := by rw [joinG, if_pos h0]
    have Hj := Lib.hid hj
    have hb0 : ((xs.length : Int) == 0) = true := by simp [h0]
    have H0 := Lib.hid h0
    clear hj h0
    go_enter Tryd.func25, Tryd.ntmps25
    go_wp2_with fail
    refine (copied_any _ _ _ (H2.out _ _ _) (by omega)).mono ?_
    rintro e w1 ⟨v1, rfl, own1, hb1⟩
    obtain ⟨A1, c1, rfl, _⟩ := own_nil own1
    obtain ⟨hc1, hf1⟩ := bcell hb1
    have hz1 : w.heap.size + 3 ≤ w1.heap.size := by have := hb1.size; simp at this; omega
    have Hown := Lib.hid own1
    have Hb1 := Lib.hid hb1
    clear own1 hb1
    go_wp2
    refine bodyPost_ret (v := .agg #[.slice A1 ys.length c1]) (by simp [results, Tryd.results25, go_sem, hc1]) rfl ⟨?_, _, ?_, rfl⟩
    · exact (((((Below.refl _ _).alloc (Nat.le_refl _) _).alloc (by simp) _).alloc (by simp; omega) _).trans (Hb1.out.mono (by simp; omega))).setCell (by show w.heap.size ≤ w.heap.size + 1 + 1; omega) _
    · rw [Hj.out]
      have h4 : w1.ownsRow (w.heap.size + 3) 83 3 (.slice A1 ys.length c1) ys.length (ys.flatMap GRule.cells) := ownsRow_more Hown.out (by simp)
      exact ownsRow_more (ownsRow_setCell_below h4 (by show w.heap.size + 1 + 1 < w.heap.size + 3; omega) _) (by omega)
  · have hb0 : ((xs.length : Int) == 0) = false := by rw [beq_eq_false_iff_ne]; omega
    by_cases h0' : ys.length = 0
    · have hj : joinG xs ys = xs := by rw [joinG, if_neg h0, if_pos h0']
      have Hj := Lib.hid hj
      have hb0' : ((ys.length : Int) == 0) = true := by simp [h0']
      have H0 := Lib.hid h0
      have H0' := Lib.hid h0'
      clear hj h0 h0'
      go_enter Tryd.func25, Tryd.ntmps25
      go_wp2_with fail
      refine (copied_any _ _ _ (H1.out _ _ _) (by omega)).mono ?_
      rintro e w1 ⟨v1, rfl, own1, hb1⟩
      obtain ⟨A1, c1, rfl, _⟩ := own_nil own1
      obtain ⟨hc1, hf1⟩ := bcell hb1
      have hz1 : w.heap.size + 3 ≤ w1.heap.size := by have := hb1.size; simp at this; omega
      have Hown := Lib.hid own1
      have Hb1 := Lib.hid hb1
      clear own1 hb1
      go_wp2
      refine bodyPost_ret (v := .agg #[.slice A1 xs.length c1]) (by simp [results, Tryd.results25, go_sem, hc1]) rfl ⟨?_, _, ?_, rfl⟩
      · exact (((((Below.refl _ _).alloc (Nat.le_refl _) _).alloc (by simp) _).alloc (by simp; omega) _).trans (Hb1.out.mono (by simp; omega))).setCell (by show w.heap.size ≤ w.heap.size + 1 + 1; omega) _
      · rw [Hj.out]
        have h4 : w1.ownsRow (w.heap.size + 3) 83 3 (.slice A1 xs.length c1) xs.length (xs.flatMap GRule.cells) := ownsRow_more Hown.out (by simp)
        exact ownsRow_more (ownsRow_setCell_below h4 (by show w.heap.size + 1 + 1 < w.heap.size + 3; omega) _) (by omega)
    · have hb0' : ((ys.length : Int) == 0) = false := by rw [beq_eq_false_iff_ne]; omega
      have hj : joinG xs ys = xs ++ ys.map (raiseR xs.length) ++ [pairR ((xs.length : Int) - 1) ((xs.length : Int) + ys.length - 1)] := by rw [joinG, if_neg h0, if_neg h0']
      have Hj := Lib.hid hj
      have hx1 : 1 ≤ xs.length := by omega
      have hy1 : 1 ≤ ys.length := by omega
      have Hp := Lib.hid hp
      clear hj h0 h0' hp
      go_enter Tryd.func25, Tryd.ntmps25
      go_wp2_with fail
      go_region_held3 (fun w' => Below (w.heap.size + 3) (((w.alloc (Obj.cells #[Value.slice A xs.length c] 26)).alloc (Obj.cells #[Value.slice A' ys.length c'] 26)).alloc (Obj.cells #[Value.slice none 0 0] 26)) w' ∧ w'.cell? ⟨w.heap.size, 0, none⟩ = some (.slice A xs.length c) ∧ w'.cell? ⟨w.heap.size + 1, 0, none⟩ = some (.slice A' ys.length c'))
        (first | exact ⟨(Below.refl _ _).drew, by simp [go_sem], by simp [go_sem]⟩ | exact keepD (by assumption) hb1 (by simp) (by first | omega | (simp; done) | (simp; omega)) (by first | omega | (simp; done) | (simp; omega)) | exact keepD (by assumption) hb2 (by simp) (by first | omega | (simp; done) | (simp; omega)) (by first | omega | (simp; done) | (simp; omega)) | exact keepE (by assumption) hb3 (by first | omega | (simp; done) | (simp; omega)) (by first | omega | (simp; done) | (simp; omega)))
        (first
          | (go_at_call 52; refine (Clone_any _ _ _ (SlS.dr (H1.out _ _ _)) (by omega)).mono ?_; rintro e w1 ⟨v1, rfl, own1, hb1⟩)
          | (go_at_call 53; refine (raised_any _ _ xs.length _ (SlS.up (SlS.dr (H2.out _ _ _)) hb1) (by omega) (by omega) Hp.out).mono ?_; rintro e w2 ⟨v2, rfl, own2, hb2⟩)
          | (refine step_append_rules (base := w.heap.size + 3) (by rfl) _ _ (by rfl) (by rfl) (by rfl) (OwnRules.below (ownsRow_more own1 (by first | omega | (simp; done) | (simp; omega))) hb2) own2.sl (by simp; omega) (by have h1 := hb1.size; have h2 := hb2.size; simp at h1 h2; omega) ?_; intro v3 w3 own3 hg3 hb3))
      have z1 : w.heap.size + 3 ≤ w1.heap.size := by have h1 := hb1.size; simp at h1; omega
      have z2 : w1.heap.size ≤ w2.heap.size := hb2.size
      have z3 : w2.heap.size ≤ w3.heap.size := hb3.size
      have hb : Below (w.heap.size + 3) (((w.alloc (Obj.cells #[Value.slice A xs.length c] 26)).alloc (Obj.cells #[Value.slice A' ys.length c'] 26)).alloc (Obj.cells #[Value.slice none 0 0] 26)) w3 :=
        (Below.drew (Below.refl _ _)).trans ((hb1.mono (by show w.heap.size + 3 ≤ _; simp [World.drew])).trans ((hb2.mono (by omega)).trans hb3))
      obtain ⟨hc3, hf3⟩ := bcell hb
      have hcr : w3.cell? ⟨w.heap.size + 1 + 1, 0, none⟩ = some (.slice none 0 0) := by rw [hc3 _ _ (by omega)]; simp [go_sem]
      have hfr : w3.frozen? ⟨w.heap.size + 1 + 1, 0, none⟩ = false := by rw [hf3 _ _ (by omega)]; simp [go_sem]
      obtain ⟨L, hL⟩ : ∃ L, L = xs ++ ys.map (raiseR xs.length) := ⟨_, rfl⟩
      rw [← hL] at own3
      have hl3 : L.length ≤ 1099511627776 := by rw [hL]; simp; omega
      have HL := Lib.hid hL
      clear hL
      obtain ⟨A3, c3, rfl, _⟩ := own_nil own3
      have Hown3 := Lib.hid own3
      have Hb := Lib.hid hb
      have hz : w.heap.size + 1 + 1 < w3.heap.size := by omega
      clear own1 own2 own3 hb1 hb2 hb3 hg3 hc3 hf3 hb
      go_wp2_with fail
      refine (pairInt_any _ _ _).mono ?_
      rintro e w4 ⟨rfl, hb4⟩
      have hcr4 := cell_up hcr hb4 hz
      have hfr4 : w4.frozen? ⟨w.heap.size + 1 + 1, 0, none⟩ = false := by rw [hb4.frozen hz, hfr]
      have z4 : w3.heap.size ≤ w4.heap.size := hb4.size
      have Hown4 := Lib.hid (OwnRules.below Hown3.out hb4)
      have Hb4 := Lib.hid (Hb.out.trans (hb4.mono (by omega)))
      clear hcr hfr hb4
      go_wp2_with (at_builtin; go_must (refine push_rule (base := w.heap.size + 3) rfl _ _ rfl rfl rfl (by simp) Hown4.out hl3 (by omega) ?_); intro v5 w5 own5 hgrow hb5; obtain ⟨A5, c5, rfl, _⟩ := own_nil own5; obtain ⟨hc5, hf5⟩ := bcell hb5; have Hown5 := Lib.hid own5; have Hb5 := Lib.hid hb5; clear own5 hgrow hb5)
      have hll : L.length = xs.length + ys.length := by rw [HL.out]; simp
      refine bodyPost_ret (v := .agg #[.slice A5 (L.length + 1) c5]) (by simp [results, Tryd.results25, go_sem, hc5, hcr4]) rfl ⟨?_, _, ?_, rfl⟩
      · exact ((((((Below.refl _ _).alloc (Nat.le_refl _) _).alloc (by simp) _).alloc (by simp; omega) _).trans ((Hb4.out.trans Hb5.out).mono (by omega)))).setCell (by show w.heap.size ≤ w.heap.size + 1 + 1; omega) _
      · rw [Hj.out, ← HL.out]
        have e : pairR ((xs.length : Int) - 1) ((xs.length : Int) + ys.length - 1) = ⟨⟨#[]⟩, (xs.length : Int) - 1, (L.length : Int) - 1⟩ := by rw [pairR, hll]; simp
        rw [e]
        have h5 := Hown5.out
        rw [List.length_append] at h5
        have h6 := ownsRow_setCell_below (a := ⟨w.heap.size + 1 + 1, 0, none⟩) h5 (by show w.heap.size + 1 + 1 < w.heap.size + 3; omega) (.slice A5 (L.length + 1) c5)
        exact ownsRow_more h6 (by omega)
end Go.Proofs.YtoemoifeiigkoaaDoor

