import Derived.Test.YtagpjommhoedlaaM3
import Derived.Test.YtagpjommhoedlaaM1
import Derived.BigQuiet
import Derived.Lib.Builder
import Derived.Laws.Bits64b
import Derived.Test.YtagpjommhoedlaaM2
import Derived.Deep.DeepCutAuto
import Derived.Deep.CutBlock
namespace Go.Proofs.Ytagpjommhoedlaa

theorem bapp (a b : ByteArray) : (a ++ b).data.toList = a.data.toList ++ b.data.toList := by simp [ByteArray.data_append]
theorem bext (s : ByteArray) (i j : Nat) : (s.extract i j).data.toList = (s.data.toList.take j).drop i := by
  simp [ByteArray.data_extract, List.drop_take]
theorem bsize (s : ByteArray) : s.data.toList.length = s.size := by simp
theorem bext0 (s : ByteArray) (j : Nat) : (s.extract 0 j).data.toList = s.data.toList.take j := by rw [bext]; rfl
theorem bextE (s : ByteArray) (i : Nat) : (s.extract i s.size).data.toList = s.data.toList.drop i := by
  rw [bext, List.take_of_length_le (by simp)]
/-- The word behind an edit is a beginning, something, and an end of the word. -/
theorem plainB_parts {s : ByteArray} {e : GEdit} (he : editOk e = true) (hf : editFits e s.size = true) (hk : e.kind ≠ 4) (hk7 : e.kind ≠ 7) :
    ∃ (a b : Nat) (M : List UInt8), a ≤ b ∧ b ≤ s.size ∧ (plainB s e).data.toList = s.data.toList.take a ++ M ++ s.data.toList.drop b ∧
      (a : Int) = (if e.kind = 3 then e.k else e.i) ∧ (b : Int) = (if e.kind = 1 then e.i else if e.kind = 3 then e.k else e.j) ∧
      (M.length : Int) = (if e.kind = 1 then gramLen e.part else if e.kind = 2 then 0 else if e.kind = 3 then e.j - e.i else if e.kind = 5 then e.j - e.i else (e.j - e.i) * e.k) := by
  obtain ⟨g1, g2, g3, g4, g5, g6, g7⟩ := editOk_get he
  obtain ⟨f1, f2, f3, f4, f5⟩ := editFits_get g1 hf
  obtain ⟨ι, hi⟩ := Int.eq_ofNat_of_zero_le g2.1
  obtain ⟨φ, hj⟩ := Int.eq_ofNat_of_zero_le g3.1
  obtain ⟨κ, hkk⟩ := Int.eq_ofNat_of_zero_le g4.1
  rcases kind7 g1 with h | h | h | h | h | h | h
  · obtain ⟨_, ls, hl⟩ := gram_lens g7
    have h1 := f1 h
    refine ⟨ι, ι, wordG e.part, Nat.le_refl _, by omega, ?_, ?_, ?_, ?_⟩
    · rw [plainB_1 h hi, bapp, bapp, bext0, bextE]
    · rw [if_neg (by omega)]; omega
    · rw [if_pos h]; omega
    · rw [if_pos h, gramLen_of hl]; exact wordG_len hl
  · have h1 := f2 (by omega)
    have h2 := g5 (by omega)
    refine ⟨ι, φ, [], by omega, by omega, ?_, ?_, ?_, ?_⟩
    · rw [plainB_2 h hi hj, bapp, bext0, bextE, List.append_nil]
    · rw [if_neg (by omega)]; omega
    · rw [if_neg (by omega), if_neg (by omega)]; omega
    · rw [if_neg (by omega), if_pos h]; rfl
  · have h1 := f2 (by omega)
    have h2 := g5 (by omega)
    have h3 := f5 h
    refine ⟨κ, κ, (s.data.toList.take φ).drop ι, Nat.le_refl _, by omega, ?_, ?_, ?_, ?_⟩
    · rw [plainB_3 h hi hj hkk, bapp, bapp, bext0, bextE, bext]
    · rw [if_pos h]; omega
    · rw [if_neg (by omega), if_pos h]; omega
    · rw [if_neg (by omega), if_neg (by omega), if_pos h, List.length_drop, List.length_take, bsize]; omega
  · exact absurd h hk
  · have h1 := f2 (by omega)
    have h2 := g5 (by omega)
    refine ⟨ι, φ, ((s.data.toList.take φ).drop ι).reverse, by omega, by omega, ?_, ?_, ?_, ?_⟩
    · rw [plainB_5 h hi hj, bapp, bapp, bext0, bextE, bext]
    · rw [if_neg (by omega)]; omega
    · rw [if_neg (by omega), if_neg (by omega)]; omega
    · rw [if_neg (by omega), if_neg (by omega), if_neg (by omega), if_pos h, List.length_reverse, List.length_drop, List.length_take, bsize]; omega
  · have h1 := f2 (by omega)
    have h2 := g5 (by omega)
    by_cases hc : ι = φ
    · refine ⟨ι, φ, [], by omega, by omega, ?_, ?_, ?_, ?_⟩
      · rw [plainB_6a h hi hj hc, hc, List.append_nil, List.take_append_drop]
      · rw [if_neg (by omega)]; omega
      · rw [if_neg (by omega), if_neg (by omega)]; omega
      · rw [if_neg (by omega), if_neg (by omega), if_neg (by omega), if_neg (by omega), show e.j - e.i = 0 by omega]; simp
    · refine ⟨ι, φ, repL ((s.data.toList.take φ).drop ι) κ, by omega, by omega, ?_, ?_, ?_, ?_⟩
      · rw [plainB_6b h hi hj hkk hc, bapp, bapp, bext0, bextE, bext]
      · rw [if_neg (by omega)]; omega
      · rw [if_neg (by omega), if_neg (by omega)]; omega
      · rw [if_neg (by omega), if_neg (by omega), if_neg (by omega), if_neg (by omega), repL_len, List.length_drop, List.length_take, bsize, Nat.min_eq_left (by omega)]
        rw [Int.natCast_mul, Int.natCast_sub (by omega), hi, hj, hkk, Int.mul_comm]
  · exact absurd h hk7
theorem plainB_size47 {s : ByteArray} {e : GEdit} (he : editOk e = true) (hf : editFits e s.size = true) (hk : e.kind = 4 ∨ e.kind = 7) : (plainB s e).size = s.size := by
  obtain ⟨g1, g2, g3, g4, g5, g6, g7⟩ := editOk_get he
  obtain ⟨f1, f2, f3, f4, f5⟩ := editFits_get g1 hf
  obtain ⟨ι, hi⟩ := Int.eq_ofNat_of_zero_le g2.1
  obtain ⟨φ, hj⟩ := Int.eq_ofNat_of_zero_le g3.1
  obtain ⟨κ, hkk⟩ := Int.eq_ofNat_of_zero_le g4.1
  have h1 := f2 (by omega)
  have h2 := g5 (by omega)
  rcases hk with h | h
  · have h3 := f3 (by omega)
    have h4 := f4 h
    by_cases hc : κ ≤ ι
    · rw [plainB_4a h hi hj hkk hc]; simp; omega
    · rw [plainB_4b h hi hj hkk hc]; simp; omega
  · rw [plainB_7 h hi hj]
    have : (⟨((s.extract ι φ).data.toList.map (mapB e.map)).toArray⟩ : ByteArray).size = (s.extract ι φ).size := by
      show (((s.extract ι φ).data.toList.map (mapB e.map)).toArray).size = _
      simp
      omega
    rw [ByteArray.size_append, ByteArray.size_append, this]
    simp; omega
theorem plainB_len {s : ByteArray} {e : GEdit} (he : editOk e = true) (hf : editFits e s.size = true) : ((plainB s e).size : Int) = editLen e s.size := by
  by_cases h47 : e.kind = 4 ∨ e.kind = 7
  · rw [plainB_size47 he hf h47]
    unfold editLen
    rw [if_neg (by omega), if_neg (by omega), if_neg (by omega), if_neg (by omega)]
  · obtain ⟨a, b, M, h1, h2, h3, h4, h5, h6⟩ := plainB_parts he hf (by omega) (by omega)
    have hl : (plainB s e).size = a + M.length + (s.size - b) := by
      rw [← bsize, h3, List.length_append, List.length_append, List.length_take, List.length_drop, bsize]; omega
    have g1 := (editOk_get he).1
    unfold editLen
    rcases kind7 g1 with h | h | h | h | h | h | h
    all_goals simp only [h, Int.reduceEq, if_true, if_false] at h4 h5 h6 ⊢
    all_goals omega
/-- A place of the word is a place behind the edit. -/
theorem placeP_in {s : ByteArray} {e : GEdit} {p : Int} (he : editOk e = true) (hf : editFits e s.size = true) (hp : 0 ≤ p ∧ p ≤ s.size) : 0 ≤ placeP e p ∧ placeP e p ≤ (plainB s e).size := by
  rw [plainB_len he hf]
  obtain ⟨g1, g2, g3, g4, g5, g6, g7⟩ := editOk_get he
  obtain ⟨f1, f2, f3, f4, f5⟩ := editFits_get g1 hf
  have hgl := gramLen_bounds e.part
  have hm : 0 ≤ e.k → 0 ≤ e.j - e.i → 0 ≤ (e.j - e.i) * e.k := fun a b => Int.mul_nonneg b a
  have hm2 : 1 ≤ e.k → 0 ≤ e.j - e.i → e.j - e.i ≤ (e.j - e.i) * e.k := fun hk hji => by
    have := Int.mul_le_mul_of_nonneg_left hk hji
    simpa using this
  rcases kind7 g1 with h | h | h | h | h | h | h
  · have := f1 h
    simp only [placeP, editLen, h, Int.reduceEq, if_true, if_false]
    split <;> omega
  · have := f2 (by omega); have := g5 (by omega)
    simp only [placeP, editLen, lessP, h, Int.reduceEq, if_true, if_false]
    repeat' split
    all_goals omega
  · have := f2 (by omega); have := g5 (by omega); have := f5 h
    simp only [placeP, editLen, h, Int.reduceEq, if_true, if_false]
    split <;> omega
  · have := f2 (by omega); have := g5 (by omega); have h3 := f3 (.inr h); have h4 := f4 h
    simp only [placeP, editLen, lessP, h, Int.reduceEq, if_true, if_false]
    repeat' split
    all_goals omega
  · have := f2 (by omega); have := g5 (by omega)
    simp only [placeP, editLen, h, Int.reduceEq, if_true, if_false]
    split <;> omega
  · have := f2 (by omega); have h5 := g5 (by omega)
    simp only [placeP, editLen, h, Int.reduceEq, if_true, if_false]
    have k1 := hm g4.1 (by omega)
    have k2 := fun x => hm2 x (by omega)
    generalize (e.j - e.i) * e.k = X at k1 k2
    split
    · omega
    · split
      · omega
      · rename_i c1 c2
        by_cases hk0 : e.k = 0
        · have : ¬ (e.i < p ∧ p < e.j) := fun h => c2 ⟨h, hk0⟩
          omega
        · have := k2 (by omega); omega
  · simp only [placeP, editLen, h, Int.reduceEq, if_false]; omega
/-- Around a place ahead of what is touched, or behind it, there is what was there. -/
theorem placed_ahead {s : ByteArray} {e : GEdit} {p : Int} (he : editOk e = true) (hf : editFits e s.size = true) (hk : e.kind ≠ 4) (hk7 : e.kind ≠ 7) (hp : 0 ≤ p ∧ p ≤ s.size)
    (ho : p < (if e.kind = 3 then e.k else e.i) ∨ (if e.kind = 1 then e.i else if e.kind = 3 then e.k else e.j) < p) :
    ((p = 0 ∧ placeP e p = 0) ∨ (0 < p ∧ 0 < placeP e p ∧ s.data.toList[(p - 1).toNat]? = (plainB s e).data.toList[(placeP e p - 1).toNat]?)) ∧
    ((p = s.size ∧ placeP e p = (plainB s e).size) ∨ (p < s.size ∧ placeP e p < (plainB s e).size ∧ s.data.toList[p.toNat]? = (plainB s e).data.toList[(placeP e p).toNat]?)) := by
  obtain ⟨a, b, M, h1, h2, h3, h4, h5, h6⟩ := plainB_parts he hf hk hk7
  have hlen : (plainB s e).size = a + M.length + (s.size - b) := by
    rw [← bsize, h3, List.length_append, List.length_append, List.length_take, List.length_drop, bsize]; omega
  have hs := bsize s
  obtain ⟨g1, g2, g3, g4, g5, g6, g7⟩ := editOk_get he
  rw [← h4, ← h5] at ho
  have hA : p < a → placeP e p = p := by
    intro hpa
    rcases kind7 g1 with h | h | h | h | h | h | h
    · simp only [h, Int.reduceEq, if_true, if_false] at h4 h5; simp only [placeP, h, Int.reduceEq, if_true, if_false]; rw [if_neg (by omega)]
    · simp only [h, Int.reduceEq, if_true, if_false] at h4 h5; simp only [placeP, lessP, h, Int.reduceEq, if_true, if_false]; rw [if_pos (by omega)]
    · simp only [h, Int.reduceEq, if_true, if_false] at h4 h5; simp only [placeP, h, Int.reduceEq, if_true, if_false]; rw [if_neg (by omega)]
    · exact absurd h hk
    · simp only [h, Int.reduceEq, if_true, if_false] at h4 h5; simp only [placeP, h, Int.reduceEq, if_true, if_false]; rw [if_neg (by omega)]
    · have := g5 (by omega)
      simp only [h, Int.reduceEq, if_true, if_false] at h4 h5; simp only [placeP, h, Int.reduceEq, if_true, if_false]; rw [if_neg (by omega), if_neg (by omega)]
    · exact absurd h hk7
  have hB : b < p → placeP e p = p - b + a + M.length := by
    intro hpb
    rcases kind7 g1 with h | h | h | h | h | h | h
    · simp only [h, Int.reduceEq, if_true, if_false] at h4 h5 h6; simp only [placeP, h, Int.reduceEq, if_true, if_false]; rw [if_pos (by omega)]; omega
    · have := g5 (by omega)
      simp only [h, Int.reduceEq, if_true, if_false] at h4 h5 h6; simp only [placeP, lessP, h, Int.reduceEq, if_true, if_false]; rw [if_neg (by omega), if_neg (by omega)]; omega
    · simp only [h, Int.reduceEq, if_true, if_false] at h4 h5 h6; simp only [placeP, h, Int.reduceEq, if_true, if_false]; rw [if_pos (by omega)]; omega
    · exact absurd h hk
    · have := g5 (by omega)
      simp only [h, Int.reduceEq, if_true, if_false] at h4 h5 h6; simp only [placeP, h, Int.reduceEq, if_true, if_false]; rw [if_neg (by omega)]; omega
    · have := g5 (by omega)
      simp only [h, Int.reduceEq, if_true, if_false] at h4 h5 h6; simp only [placeP, h, Int.reduceEq, if_true, if_false]; rw [if_pos (by omega)]; omega
    · exact absurd h hk7
  have eA : ∀ i : Nat, i < a → (plainB s e).data.toList[i]? = s.data.toList[i]? := by
    intro i hi
    rw [h3, List.append_assoc, List.getElem?_append_left (by rw [List.length_take, hs]; omega), List.getElem?_take, if_pos hi]
  have eB : ∀ i : Nat, (plainB s e).data.toList[a + M.length + i]? = s.data.toList[b + i]? := by
    intro i
    have hl : (s.data.toList.take a ++ M).length = a + M.length := by rw [List.length_append, List.length_take, hs]; omega
    rw [h3, List.getElem?_append_right (by omega), hl, List.getElem?_drop]
    congr 1; omega
  rcases ho with ho | ho
  · have hq := hA ho
    rw [hq]
    refine ⟨?_, .inr ⟨by omega, by omega, (eA _ (by omega)).symm⟩⟩
    rcases Int.lt_or_eq_of_le hp.1 with h0 | h0
    · exact .inr ⟨h0, h0, (eA _ (by omega)).symm⟩
    · exact .inl ⟨h0.symm, h0.symm⟩
  · have hq := hB ho
    rw [hq]
    obtain ⟨d, hd⟩ := Int.eq_ofNat_of_zero_le (show 0 ≤ p - b - 1 by omega)
    have e1 : (p - b + a + M.length - 1).toNat = a + M.length + d := by omega
    have e2 : (p - 1).toNat = b + d := by omega
    have e3 : (p - b + a + M.length).toNat = a + M.length + (d + 1) := by omega
    have e4 : p.toNat = b + (d + 1) := by omega
    refine ⟨.inr ⟨by omega, by omega, by rw [e1, e2, eB]⟩, ?_⟩
    by_cases hn : p = s.size
    · exact .inl ⟨hn, by omega⟩
    · exact .inr ⟨by omega, by omega, by rw [e3, e4, eB]⟩
end Go.Proofs.Ytagpjommhoedlaa

namespace Go.Proofs.Ytagpjommhoedlaa
open Go.RowKit

/-- Nothing but block b has turned. -/
structure But (b : Nat) (w w' : World) : Prop where
  os : w'.os = w.os
  tape : w'.tape = w.tape
  output : w'.output = w.output
  size : w.heap.size ≤ w'.heap.size
  block : ∀ k, k < w.heap.size → k ≠ b → w'.heap[k]? = w.heap[k]?
theorem But.refl (b : Nat) (w : World) : But b w w := ⟨rfl, rfl, rfl, Nat.le_refl _, fun _ _ _ => rfl⟩
theorem But.trans {b : Nat} {x y z : World} (h : But b x y) (k : But b y z) : But b x z :=
  ⟨k.os.trans h.os, k.tape.trans h.tape, k.output.trans h.output, Nat.le_trans h.size k.size, fun i hi hne => (k.block i (Nat.lt_of_lt_of_le hi h.size) hne).trans (h.block i hi hne)⟩
theorem But.of {b : Nat} {w w' : World} (h : Below w.heap.size w w') : But b w w' := ⟨h.os, h.tape, h.output, h.size, fun k hk _ => h.block k hk⟩
theorem But.below {b B : Nat} {w w' : World} (h : But b w w') (hB : B ≤ b) (hw : B ≤ w.heap.size) : Below B w w' := ⟨h.os, h.tape, h.output, h.size, fun k hk => h.block k (Nat.lt_of_lt_of_le hk hw) (by omega)⟩
theorem But.cell {b : Nat} {w w' : World} (h : But b w w') {p : Addr} (hp : p.block < w.heap.size) (hne : p.block ≠ b) : w'.cell? p = w.cell? p := by
  simp only [World.cell?, h.block _ hp hne]
theorem But.drew {b : Nat} {w w' : World} (h : But b w w') : But b w w'.drew := ⟨h.os, h.tape, h.output, h.size, h.block⟩
theorem But.drewN {b : Nat} {w w' : World} (h : But b w w') (n : Nat) : But b w (w'.drewN n) := ⟨h.os, h.tape, h.output, h.size, h.block⟩
theorem But.setCell {b o : Nat} {w w' : World} (h : But b w w') (v : Value) : But b w (w'.setCell ⟨b, o, none⟩ v) :=
  ⟨h.os, h.tape, h.output, by simpa [World.setCell] using h.size, fun k hk hne => by
    rw [← h.block k hk hne]
    simp only [World.setCell, Array.getElem?_modify]
    rw [if_neg (fun e => hne e.symm)]⟩
theorem But.alloc {b : Nat} {w w' : World} (h : But b w w') (o : Obj) : But b w (w'.alloc o) :=
  ⟨h.os, h.tape, h.output, Nat.le_trans h.size (by simp), fun k hk hne => (Below.heap_alloc w' o k (Nat.lt_of_lt_of_le hk h.size)).trans (h.block k hk hne)⟩
theorem But.tr {b : Nat} {w w1 w2 : World} (h : But b w w1) (hb : Below w1.heap.size w1 w2) : But b w w2 := h.trans (But.of hb)
end Go.Proofs.Ytagpjommhoedlaa

namespace Go.Proofs.Ytagpjommhoedlaa
open Go.RowKit

/-- A byte. -/
def ByteE : Enc UInt8 where
  size := 1
  pos := by decide
  cells := fun _ _ x cs => cs = [.int .u8 (x.toNat : Int)]
  len := by rintro _ _ _ _ rfl; rfl
  keep := fun h _ => h
  more := fun h _ => h
  one := by rintro _ _ _ _ rfl; simp [Value.oneCell']
/-- A source of choices lies at block b; it has been asked at most N times. -/
def Src (w : World) (b N : Nat) : Prop :=
  ∃ (AC : Option Addr) (l : List UInt8) (cC a d : Nat), w.heap[b]? = some (.cells #[.slice AC l.length cC, .int .i64 (a : Int), .int .u64 (d : Int)] 129 (0, 0)) ∧ a ≤ N ∧ d < 18446744073709551616 ∧ Sl ByteE w b (.slice AC l.length cC) l
theorem Src.lt {w : World} {b N : Nat} (h : Src w b N) : b < w.heap.size := by
  obtain ⟨AC, l, cC, a, d, h, _⟩ := h
  exact (Array.getElem?_eq_some_iff.1 h).1
theorem Src.more {w : World} {b N M : Nat} (h : Src w b N) (hM : N ≤ M) : Src w b M := by
  obtain ⟨AC, l, cC, a, d, h, h1, h2⟩ := h
  exact ⟨AC, l, cC, a, d, h, Nat.le_trans h1 hM, h2⟩
theorem Src.keep {w w' : World} {b N : Nat} (h : Src w b N) (hb : Below w.heap.size w w') : Src w' b N := by
  have hlt := h.lt
  obtain ⟨AC, l, cC, a, d, h, h1, h2, h3⟩ := h
  exact ⟨AC, l, cC, a, d, (hb.block b hlt).trans h, h1, h2, h3.below (hb.mono (Nat.le_of_lt hlt))⟩
theorem u64_nat (n : Int) : ∃ d : Nat, IntKind.u64.wrap n = (d : Int) ∧ d < 18446744073709551616 := by
  rw [IntKind.wrap_u64]
  refine ⟨(n % 18446744073709551616).toNat, ?_, ?_⟩ <;> omega
theorem Src.stored {w w' : World} {b N a d : Nat} {AC : Option Addr} {l : List UInt8} {cC : Nat} {a' d' : Nat} (hbk : w.heap[b]? = some (.cells #[.slice AC l.length cC, .int .i64 (a : Int), .int .u64 (d : Int)] 129 (0, 0))) (hl : Sl ByteE w b (.slice AC l.length cC) l) (ha : a' ≤ N) (hd : d' < 18446744073709551616)
    (hw : ∃ n m, w' = (((w.drewN n).setCell ⟨b, 1, none⟩ (.int .i64 (a' : Int))).setCell ⟨b, 2, none⟩ (.int .u64 (d' : Int))).drewN m) : Src w' b N ∧ But b w w' := by
  obtain ⟨n, m, rfl⟩ := hw
  have hB : But b w ((((w.drewN n).setCell ⟨b, 1, none⟩ (.int .i64 (a' : Int))).setCell ⟨b, 2, none⟩ (.int .u64 (d' : Int))).drewN m) := ((((But.refl b w).drewN n).setCell _).setCell _).drewN m
  refine ⟨⟨AC, l, cC, a', d', ?_, ha, hd, hl.keep fun k hk => hB.block k (Nat.lt_trans hk (Array.getElem?_eq_some_iff.1 hbk).1) (Nat.ne_of_lt hk)⟩, hB⟩
  simp [World.setCell, World.drewN, Array.getElem?_modify, hbk]
theorem and255 (d : Nat) (hd : d < 18446744073709551616) : ∃ x : Nat, bits .and .u64 ((d : Int) / 1099511627776) 255 = (x : Int) ∧ x ≤ 255 := by
  refine ⟨(d / 1099511627776) &&& 255, ?_, Nat.and_le_right⟩
  have e : (d : Int) / 1099511627776 = ((d / 1099511627776 : Nat) : Int) := by rw [Int.natCast_ediv]; rfl
  rw [e]
  exact bits_and_u64_nat _ 255 (by omega) (by decide)
theorem from_any (v : Value) (l : List UInt8) (w : World) (h : Sl ByteE w w.heap.size v l) :
    Calls Try.prog 44 #[v] w fun r w' => ∃ b, r = .returned (.pointer (some ⟨b, 0, none⟩)) ∧ b = w.heap.size ∧ Src w' b 0 ∧ Below w.heap.size w w' := by
  have HS := Lib.hid h
  obtain ⟨A, c, rfl, hc1, hc2, _⟩ := h
  go_enter Try.func44, Try.ntmps44
  go_wp2
  go_ret
  have hb : Below w.heap.size w (w.alloc (.cells #[.slice A l.length c, .int .i64 0, .int .u64 0] 129)) := (Below.refl _ w).alloc (Nat.le_refl _) _
  exact ⟨_, rfl, rfl, ⟨A, l, c, 0, 0, heap_alloc_new w _, Nat.le_refl _, by decide, HS.out.below hb⟩, hb⟩
set_option maxRecDepth 100000 in
set_option maxHeartbeats 1000000 in
theorem next_any (b N : Nat) (w : World) (h : Src w b N) (hN : N ≤ 1000000) :
    Calls Try.prog 123 #[.pointer (some ⟨b, 0, none⟩)] w fun r w' => ∃ x : Nat, r = .returned (.int .i64 (x : Int)) ∧ x ≤ 255 ∧ Src w' b (N + 1) ∧ But b w w' := by
  obtain ⟨AC, l, cC, a, d, hbk, ha, hd, hl⟩ := h
  have c0 : w.cell? ⟨b, 0, none⟩ = some (.slice AC l.length cC) := by rw [Lib.cell_of_heap hbk]; rfl
  have c1 : w.cell? ⟨b, 1, none⟩ = some (.int .i64 (a : Int)) := by rw [Lib.cell_of_heap hbk]; rfl
  have c2 : w.cell? ⟨b, 2, none⟩ = some (.int .u64 (d : Int)) := by rw [Lib.cell_of_heap hbk]; rfl
  have f1 : w.frozen? ⟨b, 1, none⟩ = false := Lib.frozen_of_heap hbk 1
  have f2 : w.frozen? ⟨b, 2, none⟩ = false := Lib.frozen_of_heap hbk 2
  have HB := Lib.hid hbk
  have HL := Lib.hid hl
  obtain ⟨_, _, ev, hc1, hc2, hrow⟩ := hl
  clear hbk
  go_enter Try.func123, Try.ntmps123
  go_wp2_with fail
  go_quiet (fail)
  by_cases hlt : a < l.length
  · obtain ⟨bc, oc, rfl, hbc, hcs⟩ := hrow (by omega)
    obtain ⟨cs, hcs1, hcs2⟩ := hcs a l[a] (List.getElem?_eq_getElem hlt)
    have hcs1' : cs = [.int .u8 (l[a].toNat : Int)] := hcs1
    subst hcs1'
    have hcx := hcs2 0 _ rfl
    have e1 : oc + (a * ByteE.size + 0) = oc + a := by show oc + (a * 1 + 0) = oc + a; omega
    rw [e1] at hcx
    have hx := l[a].toNat_lt
    obtain ⟨x, hxe⟩ : ∃ x, l[a].toNat = x := ⟨_, rfl⟩
    rw [hxe] at hcx hx
    clear hcs hcs1 hcs2 hrow e1 hxe
    have hlI : (a : Int) < (l.length : Int) := by omega
    go_wp2_with fail
    go_quiet (fail)
    go_wp2_with fail
    obtain ⟨d2, hd2, hd2b⟩ := u64_nat (IntKind.u64.wrap (IntKind.u64.wrap ((d : Int) * 6364136223846793005) + (x : Int)) + 1442695040888963407)
    rw [hd2]
    have hle : ((a : Int) + 1) ≤ (l.length : Int) := by omega
    go_wp2_with fail
    go_quiet (fail)
    go_wp2_with fail
    go_ret
    refine ⟨x, rfl, by omega, ?_, ?_⟩
    · exact (Src.stored (N := N + 1) (a' := a + 1) HB.out HL.out (by omega) hd2b ⟨_, _, rfl⟩).1
    · exact (Src.stored (N := N + 1) (a' := a + 1) HB.out HL.out (by omega) hd2b ⟨_, _, rfl⟩).2
  · have hlI : ¬ (a : Int) < (l.length : Int) := by omega
    go_wp2_with fail
    obtain ⟨d2, hd2, hd2b⟩ := u64_nat (IntKind.u64.wrap (IntKind.u64.wrap ((d : Int) * 6364136223846793005)) + 1442695040888963407)
    rw [hd2]
    have hle : ¬ ((a : Int) + 1) ≤ (l.length : Int) := by omega
    obtain ⟨x, hx, hx2⟩ := and255 d2 hd2b
    go_wp2_with fail
    go_quiet (fail)
    go_wp2_with fail
    go_ret
    refine ⟨x, rfl, by omega, ?_, ?_⟩
    · exact (Src.stored (N := N + 1) (a' := a + 1) HB.out HL.out (by omega) hd2b ⟨_, _, rfl⟩).1
    · exact (Src.stored (N := N + 1) (a' := a + 1) HB.out HL.out (by omega) hd2b ⟨_, _, rfl⟩).2
end Go.Proofs.Ytagpjommhoedlaa

namespace Go.Proofs.Ytagpjommhoedlaa
open Go.RowKit

def PickPost (b N : Nat) (n : Int) (w : World) (r : Ending) (w' : World) : Prop := ∃ x : Nat, r = .returned (.int .i64 (x : Int)) ∧ (x = 0 ∨ (x : Int) < n) ∧ x ≤ 65535 ∧ Src w' b (N + 2) ∧ But b w w'
set_option maxRecDepth 100000 in
theorem pick_any (b N : Nat) (n : Int) (w : World) (h : Src w b N) (hN : N ≤ 900000) :
    Calls Try.prog 81 #[.pointer (some ⟨b, 0, none⟩), .int .i64 n] w (PickPost b N n w) := by
  have HS := Lib.hid h
  clear h
  go_enter Try.func81, Try.ntmps81
  by_cases h1 : n ≤ 1
  · go_wp2_with fail
    go_ret
    exact ⟨0, rfl, .inl rfl, by omega, HS.out.more (by omega), But.refl b w⟩
  · go_wp2_with fail
    refine (next_any b N w HS.out (by omega)).mono ?_
    rintro r w1 ⟨x, rfl, hx, hs1, hb1⟩
    have H1 := Lib.hid hs1
    have B1 := Lib.hid hb1
    clear hs1 hb1
    obtain ⟨m, rfl⟩ := Int.eq_ofNat_of_zero_le (show 0 ≤ n by omega)
    have hm : ¬ (m : Int) = 0 := by omega
    by_cases h2 : (200 : Int) < m
    · go_wp2_with fail
      refine (next_any b (N + 1) w1 H1.out (by omega)).mono ?_
      rintro r w2 ⟨y, rfl, hy, hs2, hb2⟩
      have H2 := Lib.hid hs2
      have B2 := Lib.hid hb2
      clear hs2 hb2
      go_wp2_with fail
      go_ret
      refine ⟨(x * 256 + y) % m, ?_, .inr ?_, ?_, H2.out.more (by omega), B1.out.trans B2.out⟩
      · rfl
      · have := Nat.mod_lt (x * 256 + y) (show 0 < m by omega)
        omega
      · have := Nat.mod_le (x * 256 + y) m
        omega
    · go_wp2_with fail
      go_ret
      refine ⟨x % m, ?_, .inr ?_, ?_, H1.out.more (by omega), B1.out⟩
      · rfl
      · have := Nat.mod_lt x (show 0 < m by omega)
        omega
      · have := Nat.mod_le x m
        omega
theorem one_any (b N : Nat) (n : Int) (w : World) (h : Src w b N) (hN : N ≤ 900000) :
    Calls Try.prog 99 #[.pointer (some ⟨b, 0, none⟩), .int .i64 n] w fun r w' => ∃ t : Bool, r = .returned (.bool t) ∧ Src w' b (N + 2) ∧ But b w w' := by
  have HS := Lib.hid h
  clear h
  go_enter Try.func99, Try.ntmps99
  go_wp2_with fail
  refine (pick_any b N n w HS.out hN).mono ?_
  rintro r w1 ⟨x, rfl, _, _, hs1, hb1⟩
  have H1 := Lib.hid hs1
  have B1 := Lib.hid hb1
  clear hs1 hb1
  go_wp2_with fail
  go_ret
  exact ⟨_, rfl, H1.out, B1.out⟩
theorem But.keep {b : Nat} {w w' : World} (h : But b w w') : Keep (fun k => k ≠ b ∧ k < w.heap.size) w w' := fun k hk => h.block k hk.2 hk.1
set_option maxRecDepth 100000 in
theorem among_any (b N : Nat) (v : Value) (l : List Int) (w : World) (h : Src w b N) (hN : N ≤ 900000) (hl : SlS IntE w (fun k => k ≠ b ∧ k < w.heap.size) v l) (h0 : 0 < l.length) (hl2 : l.length ≤ 1000) :
    Calls Try.prog 102 #[.pointer (some ⟨b, 0, none⟩), v] w fun r w' => ∃ x ∈ l, r = .returned (.int .i64 x) ∧ Src w' b (N + 2) ∧ But b w w' := by
  have HS := Lib.hid h
  have HL := Lib.hid hl
  obtain ⟨A, c, rfl, _, _, _⟩ := hl
  clear h
  go_enter Try.func102, Try.ntmps102
  go_wp2_with fail
  refine (pick_any b N l.length w HS.out hN).mono ?_
  rintro r w1 ⟨x, rfl, hx, _, hs1, hb1⟩
  have H1 := Lib.hid hs1
  have B1 := Lib.hid hb1
  have hlt : x < l.length := by omega
  obtain ⟨_, _, ev, _, _, hrow⟩ := HL.out.keep hb1.keep
  injection ev with ev1 ev2 ev3
  subst ev1
  obtain ⟨bc, oc, rfl, hbc, hcs⟩ := hrow (by omega)
  obtain ⟨cs, hcs1, hcs2⟩ := hcs x l[x] (List.getElem?_eq_getElem hlt)
  have hcs1' : cs = [.int .i64 l[x]] := hcs1
  subst hcs1'
  have hcx := hcs2 0 _ rfl
  have e1 : oc + (x * IntE.size + 0) = oc + x := by show oc + (x * 1 + 0) = oc + x; omega
  rw [e1] at hcx
  have hxI : (x : Int) < (l.length : Int) := by omega
  clear hs1 hb1 hcs hcs1 hcs2 hrow e1 hx
  go_wp2_with fail
  go_ret
  exact ⟨l[x], List.getElem_mem hlt, rfl, H1.out, B1.out⟩
set_option maxRecDepth 100000 in
theorem text_any (b N : Nat) (v : Value) (l : List ByteArray) (w : World) (h : Src w b N) (hN : N ≤ 900000) (hl : SlS StrE w (fun k => k ≠ b ∧ k < w.heap.size) v l) (h0 : 0 < l.length) (hl2 : l.length ≤ 1000) :
    Calls Try.prog 103 #[.pointer (some ⟨b, 0, none⟩), v] w fun r w' => ∃ x ∈ l, r = .returned (.string x) ∧ Src w' b (N + 2) ∧ But b w w' := by
  have HS := Lib.hid h
  have HL := Lib.hid hl
  obtain ⟨A, c, rfl, _, _, _⟩ := hl
  clear h
  go_enter Try.func103, Try.ntmps103
  go_wp2_with fail
  refine (pick_any b N l.length w HS.out hN).mono ?_
  rintro r w1 ⟨x, rfl, hx, _, hs1, hb1⟩
  have H1 := Lib.hid hs1
  have B1 := Lib.hid hb1
  have hlt : x < l.length := by omega
  obtain ⟨_, _, ev, _, _, hrow⟩ := HL.out.keep hb1.keep
  injection ev with ev1 ev2 ev3
  subst ev1
  obtain ⟨bc, oc, rfl, hbc, hcs⟩ := hrow (by omega)
  obtain ⟨cs, hcs1, hcs2⟩ := hcs x l[x] (List.getElem?_eq_getElem hlt)
  have hcs1' : cs = [.string l[x]] := hcs1
  subst hcs1'
  have hcx := hcs2 0 _ rfl
  have e1 : oc + (x * StrE.size + 0) = oc + x := by show oc + (x * 1 + 0) = oc + x; omega
  rw [e1] at hcx
  have hxI : (x : Int) < (l.length : Int) := by omega
  clear hs1 hb1 hcs hcs1 hcs2 hrow e1 hx
  go_wp2_with fail
  go_ret
  exact ⟨l[x], List.getElem_mem hlt, rfl, H1.out, B1.out⟩
end Go.Proofs.Ytagpjommhoedlaa

namespace Go.Proofs.Ytagpjommhoedlaa
open Go.RowKit

/-- One rule appended in a region that does not draw. -/
theorem list_push_rule {W : World} {ops : Array Oper} {rest : List Oper} {o : Oper} {a : Act} {Q : Exit → Act → World → Prop} (hgd : o.guard = none) (s x : Operand)
    (ho : o.op = .call { callee := .builtin .append, args := #[s, x], argTypes := #[24, 24] }) {t : ByteArray} {p q : Int} {base : Nat} {v : Value} {l : List GRule}
    (hs : a.eval s = v) {N : Nat} (hx : a.eval x = .slice (some ⟨N, 0, none⟩) 1 1) (hN : N = W.heap.size) (hown : OwnRules W base v l) (hlen : l.length ≤ 1099511627775) (hbase : base ≤ W.heap.size)
    (h : ∀ v' w', OwnRules w' base v' (l ++ [⟨t, p, q⟩]) → (W.alloc (.cells #[.string t, .int .i64 p, .int .i64 q] 126)).grownBy w' v.ownBlock → Below base (W.alloc (.cells #[.string t, .int .i64 p, .int .i64 q] 126)) w' → wpList Try.prog ops Q rest (a.put o.dst v') w') :
    wpList Try.prog ops Q (o :: rest) a (W.alloc (.cells #[.string t, .int .i64 p, .int .i64 q] 126)) :=
  wpList_plain hgd fun K hK => by
    have := step_push_rule (E := True) (K := K) (ops := ops) (Q := Q) hgd s x ho hs hx hN hown hlen hbase (fun v' w' h1 h2 h3 => hK _ _ (h v' w' h1 h2 h3))
    rwa [if_pos (by simp [Region.wanted, hgd])] at this

end Go.Proofs.Ytagpjommhoedlaa

namespace Go.Proofs.Ytagpjommhoedlaa
open Go.RowKit

theorem Src.keepB {w w' : World} {b N B : Nat} (h : Src w b N) (hb : Below B w w') (hB : b < B) : Src w' b N := by
  have hlt := h.lt
  obtain ⟨AC, l, cC, a, d, h, h1, h2, h3⟩ := h
  exact ⟨AC, l, cC, a, d, (hb.block b hB).trans h, h1, h2, h3.below (hb.mono (Nat.le_of_lt hB))⟩
theorem But.up {b B : Nat} {w w1 w2 : World} (h : But b w w1) (hb : Below B w1 w2) (hB : w.heap.size ≤ B) : But b w w2 :=
  ⟨hb.os.trans h.os, hb.tape.trans h.tape, hb.output.trans h.output, Nat.le_trans h.size hb.size, fun k hk hne => (hb.block k (Nat.lt_of_lt_of_le hk hB)).trans (h.block k hk hne)⟩
theorem Boxed.but {b B : Nat} {w w' : World} {t : TypeId} {v : Value} (h : Boxed w B t v) (hb : But b w w') (hne : B ≠ b) : Boxed w' B t v := (hb.block B (Array.getElem?_eq_some_iff.1 h).1 hne).trans h
theorem OwnRules.but {b base : Nat} {w w' : World} {v : Value} {l : List GRule} (h : OwnRules w base v l) (hb : But b w w') (hne : b < base) : OwnRules w' base v l := by
  unfold OwnRules at *
  obtain ⟨h1, h2⟩ := h
  refine ⟨h1, ?_⟩
  rcases h2 with h2 | ⟨g, cap, cur, h3, h4, h5, r⟩
  · exact .inl h2
  · exact .inr ⟨g, cap, cur, h3, h4, (hb.block g (Array.getElem?_eq_some_iff.1 h5).1 (by omega)).trans h5, r⟩
/-- The letters' rules. -/
def letG (k : Nat) : List GRule := (List.range k).map fun j => ⟨⟨#[UInt8.ofNat (97 + j)]⟩, 0, 0⟩
theorem letG_len (k : Nat) : (letG k).length = k := by simp [letG]
theorem letG_succ (k : Nat) : letG (k + 1) = letG k ++ [⟨⟨#[UInt8.ofNat (97 + k)]⟩, 0, 0⟩] := by simp [letG, List.range_succ]
/-- A drawn grammar. -/
def DrawnOk (most : Int) (xs : List GRule) : Prop := gramOk xs = true ∧ 0 < xs.length ∧ (1 ≤ most → gramLen xs ≤ most) ∧ SmallL xs
def DrawnPost (b N : Nat) (most : Int) (w : World) (r : Ending) (w' : World) : Prop :=
  ∃ v xs, r = .returned (.agg #[v]) ∧ SlS RuleE w' (fun k => w.heap.size ≤ k ∧ k < w'.heap.size) v xs ∧ DrawnOk most xs ∧ xs.length ≤ 14 ∧ Src w' b (N + 200) ∧ But b w w'
theorem letG_own {w : World} {base : Nat} {A : Option Addr} {n c k : Nat} {t : ByteArray} (own : OwnRules w base (.slice A (letG k ++ ([⟨t, 0, 0⟩] : List GRule)).length c) (letG k ++ [⟨t, 0, 0⟩])) (ht : t = ⟨#[UInt8.ofNat (97 + k)]⟩) (hn : n = (letG k).length + 1 := by rfl) : OwnRules w base (.slice A n c) (letG (k + 1)) := by
  subst ht; subst hn
  rw [letG_succ]
  have e : (letG k ++ [(⟨⟨#[UInt8.ofNat (97 + k)]⟩, 0, 0⟩ : GRule)]).length = (letG k).length + 1 := by simp
  rw [← e]; exact own
theorem letG_ok (most : Int) (x : Nat) (hx : x ≤ 2) : DrawnOk most (letG (x + 1)) := by
  have h3 : x = 0 ∨ x = 1 ∨ x = 2 := by omega
  rcases h3 with rfl | rfl | rfl
  · refine ⟨by decide, by decide, fun h => ?_, ?_⟩
    · rw [show gramLen (letG (0 + 1)) = 1 by decide]; exact h
    · intro r hr; simp [letG, List.range_succ] at hr; subst hr; decide
  · refine ⟨by decide, by decide, fun h => ?_, ?_⟩
    · rw [show gramLen (letG (1 + 1)) = 1 by decide]; exact h
    · intro r hr; simp [letG, List.range_succ] at hr; rcases hr with rfl | rfl <;> decide
  · refine ⟨by decide, by decide, fun h => ?_, ?_⟩
    · rw [show gramLen (letG (2 + 1)) = 1 by decide]; exact h
    · intro r hr; simp [letG, List.range_succ] at hr; rcases hr with rfl | rfl | rfl <;> decide
/-- The state of the drawing. -/
structure DrSt (w : World) (b M : Nat) (wx : World) (v : Value) (xs : List GRule) : Prop where
  src : Src wx b M
  but : But b w wx
  b0 : Boxed wx w.heap.size 26 (.slice none 0 0)
  b1 : Boxed wx (w.heap.size + 1) 26 v
  own : OwnRules wx (w.heap.size + 2) v xs
theorem DrSt.pick {w wx w' : World} {b M M' : Nat} {v : Value} {xs : List GRule} (h : DrSt w b M wx v xs) (hb : But b wx w') (hs : Src w' b M') (hlt : b < w.heap.size) : DrSt w b M' w' v xs :=
  ⟨hs, h.but.trans hb, Boxed.but h.b0 hb (by omega), Boxed.but h.b1 hb (by omega), h.own.but hb (by omega)⟩
theorem DrSt.up {w wx w' : World} {b M : Nat} {v : Value} {xs : List GRule} (h : DrSt w b M wx v xs) (hb : Below wx.heap.size wx w') : DrSt w b M w' v xs :=
  ⟨h.src.keep hb, h.but.trans (But.of hb), Boxed.up h.b0 hb (Array.getElem?_eq_some_iff.1 h.b0).1, Boxed.up h.b1 hb (Array.getElem?_eq_some_iff.1 h.b1).1, h.own.below hb⟩
theorem DrSt.lt {w wx : World} {b M : Nat} {v : Value} {xs : List GRule} (h : DrSt w b M wx v xs) : w.heap.size + 1 < wx.heap.size := (Array.getElem?_eq_some_iff.1 h.b1).1
/-- A new list is stored. -/
theorem DrSt.put {w wx w' : World} {b M : Nat} {v v' : Value} {xs ys : List GRule} (h : DrSt w b M wx v xs) (hlt : b < w.heap.size) (hb : Below (w.heap.size + 2) wx w') (own : OwnRules w' (w.heap.size + 2) v' ys) : DrSt w b M (w'.setCell ⟨w.heap.size + 1, 0, none⟩ v') v' ys := by
  have h0 : Boxed w' w.heap.size 26 (.slice none 0 0) := Boxed.up h.b0 hb (by omega)
  have h1 : Boxed w' (w.heap.size + 1) 26 v := Boxed.up h.b1 hb (by omega)
  have hb2 : Below (w.heap.size + 1) wx (w'.setCell ⟨w.heap.size + 1, 0, none⟩ v') := (hb.mono (Nat.le_succ _)).setCell (p := ⟨w.heap.size + 1, 0, none⟩) (Nat.le_refl _) _
  exact ⟨h.src.keepB hb2 (by omega), h.but.up hb2 (by omega), Boxed.up h.b0 hb2 (by omega), Boxed.set _ h1, ownsRow_setCell_other (a := ⟨w.heap.size + 1, 0, none⟩) own (Boxed.not_row h1 (by decide) own).symm _⟩
theorem heap_new' {w : World} {o : Obj} {k : Nat} (hk : k = w.heap.size) : (w.alloc o).heap[k]? = some o := by subst hk; exact heap_alloc_new w o
theorem heap_newD {w : World} {o : Obj} {k : Nat} (hk : k = w.heap.size) : (w.alloc o).drew.heap[k]? = some o := by subst hk; exact heap_alloc_new w o
theorem heap_drew {w : World} {o' : Obj} {k : Nat} (h : w.heap[k]? = some o') : w.drew.heap[k]? = some o' := h
theorem heap_up {w : World} {o o' : Obj} {k : Nat} (h : w.heap[k]? = some o') : (w.alloc o).heap[k]? = some o' := by
  have := (Array.getElem?_eq_some_iff.1 h).1
  rw [← h]; simp only [World.alloc]; rw [Array.getElem?_push_lt this, Array.getElem?_eq_getElem this]
theorem grown_at {w w' : World} {row : Option Nat} {k : Nat} {o : Obj} (hg : w.grownBy w' row) (h : w.heap[k]? = some o) (hne : some k ≠ row) : w'.heap[k]? = some o :=
  (Keep.of_grown hg k ⟨(Array.getElem?_eq_some_iff.1 h).1, hne⟩).trans h
theorem one_sl {w : World} {N : Nat} {t : ByteArray} {p q : Int} (h : w.heap[N]? = some (.cells #[.string t, .int .i64 p, .int .i64 q] 126 (0, 0))) : SlS RuleE w (fun _ => True) (.slice (some ⟨N, 0, none⟩) 1 1) [⟨t, p, q⟩] := by
  refine ⟨_, 1, rfl, Nat.le_refl _, by simp [maxLen], fun _ => ⟨N, 0, rfl, trivial, fun k r hk => ⟨r.cells, rfl, fun j u hu => ?_⟩⟩⟩
  have hk0 : k = 0 := by
    have := (List.getElem?_eq_some_iff.1 hk).1
    simp at this; exact this
  subst hk0
  simp at hk
  subst hk
  have hc := Lib.cell_of_heap h (0 + (0 * RuleE.size + j))
  rw [hc]
  simpa [GRule.cells] using hu
/-- A rule in a box. -/
structure Boxed3 (w : World) (R : Nat) (t : ByteArray) (p q : Nat) : Prop where
  box : w.heap[R]? = some (.cells #[.string t, .int .i64 (p : Int), .int .i64 (q : Int)] 126 (0, 0))
theorem Boxed3.new (w : World) (t : ByteArray) (p q : Nat) : Boxed3 (w.alloc (.cells #[.string t, .int .i64 (p : Int), .int .i64 (q : Int)] 126)) w.heap.size t p q := ⟨heap_alloc_new w _⟩
theorem Boxed3.but {w w' : World} {R b : Nat} {t : ByteArray} {p q : Nat} (h : Boxed3 w R t p q) (hb : But b w w') (hne : R ≠ b) : Boxed3 w' R t p q := ⟨(hb.block R (Array.getElem?_eq_some_iff.1 h.box).1 hne).trans h.box⟩
theorem Boxed3.up {w w' : World} {R B : Nat} {t : ByteArray} {p q : Nat} (h : Boxed3 w R t p q) (hb : Below B w w') (hlt : R < B) : Boxed3 w' R t p q := ⟨(hb.block R hlt).trans h.box⟩
theorem Boxed3.c0 {w : World} {R : Nat} {t : ByteArray} {p q : Nat} (h : Boxed3 w R t p q) : w.cell? ⟨R, 0, none⟩ = some (.string t) := by rw [Lib.cell_of_heap h.box]; rfl
theorem Boxed3.c1 {w : World} {R : Nat} {t : ByteArray} {p q : Nat} (h : Boxed3 w R t p q) : w.cell? ⟨R, 1, none⟩ = some (.int .i64 (p : Int)) := by rw [Lib.cell_of_heap h.box]; rfl
theorem Boxed3.c2 {w : World} {R : Nat} {t : ByteArray} {p q : Nat} (h : Boxed3 w R t p q) : w.cell? ⟨R, 2, none⟩ = some (.int .i64 (q : Int)) := by rw [Lib.cell_of_heap h.box]; rfl
theorem Boxed3.f1 {w : World} {R : Nat} {t : ByteArray} {p q : Nat} (h : Boxed3 w R t p q) : w.frozen? ⟨R, 1, none⟩ = false := Lib.frozen_of_heap h.box 1
theorem Boxed3.f2 {w : World} {R : Nat} {t : ByteArray} {p q : Nat} (h : Boxed3 w R t p q) : w.frozen? ⟨R, 2, none⟩ = false := Lib.frozen_of_heap h.box 2
theorem Boxed3.set1 {w : World} {R : Nat} {t : ByteArray} {p q : Nat} (h : Boxed3 w R t p q) (n : Nat) : Boxed3 (w.setCell ⟨R, 1, none⟩ (.int .i64 (n : Int))) R t n q := ⟨by simp [World.setCell, Array.getElem?_modify, h.box]⟩
theorem Boxed3.set2 {w : World} {R : Nat} {t : ByteArray} {p q : Nat} (h : Boxed3 w R t p q) (n : Nat) : Boxed3 (w.setCell ⟨R, 2, none⟩ (.int .i64 (n : Int))) R t p n := ⟨by simp [World.setCell, Array.getElem?_modify, h.box]⟩
theorem keepDr {wc W : World} {p R : Nat} {v u0 u1 u2 : Value} (c : wc.cell? ⟨p, 0, none⟩ = some v) (hp : p < wc.heap.size) (r0 : wc.cell? ⟨R, 0, none⟩ = some u0) (r1 : wc.cell? ⟨R, 1, none⟩ = some u1) (r2 : wc.cell? ⟨R, 2, none⟩ = some u2) (hR : R < wc.heap.size) (h : Below wc.heap.size wc W) :
    Below wc.heap.size wc W ∧ W.cell? ⟨p, 0, none⟩ = some v ∧ W.cell? ⟨R, 0, none⟩ = some u0 ∧ W.cell? ⟨R, 1, none⟩ = some u1 ∧ W.cell? ⟨R, 2, none⟩ = some u2 := ⟨h, (h.cell hp).trans c, (h.cell hR).trans r0, (h.cell hR).trans r1, (h.cell hR).trans r2⟩
/-- A cell elsewhere turns. -/
theorem DrSt.far {w wx : World} {b M R o : Nat} {v : Value} {xs : List GRule} (h : DrSt w b M wx v xs) (hlt : b < w.heap.size) (hR : w.heap.size + 2 ≤ R) (hne : ∀ g, v.ownBlock = some g → g ≠ R) (u : Value) : DrSt w b M (wx.setCell ⟨R, o, none⟩ u) v xs := by
  have hb : Below R wx (wx.setCell ⟨R, o, none⟩ u) := (Below.refl _ _).setCell (p := ⟨R, o, none⟩) (Nat.le_refl _) _
  refine ⟨h.src.keepB hb (by omega), h.but.up hb (by omega), Boxed.up h.b0 hb (by omega), Boxed.up h.b1 hb (by omega), ?_⟩
  exact ownsRow_setCell_other (a := ⟨R, o, none⟩) h.own (fun e => hne _ e rfl) _
theorem hkk {w w9 : World} {k g : Nat} {o : Obj} (hk : ∀ k o, w.heap[k]? = some o → k ≠ g → w9.heap[k]? = some o) (hne : k ≠ g) (h : w.heap[k]? = some o) : w9.heap[k]? = some o := hk k o h hne
theorem withL {P A B : Prop} (h : A → B) (ha : A) (k : B → P) : P := k (h ha)
/-- Nothing, and a row of rules: a new row. -/
theorem step_app0 {W : World} {ops : Array Oper} {o : Oper} {a : Act} {K : Act → World → Prop} {Q : Exit → Act → World → Prop} {E : Prop} (hgd : o.guard = none) (s x : Operand)
    (ho : o.op = .call { callee := .builtin .append, args := #[s, x], argTypes := #[24, 24] }) {ys : List GRule} {base g c2 : Nat} {A2 : Option Addr} {S : Nat → Prop}
    (hs : a.eval s = .slice (some ⟨g, 0, none⟩) 0 0) (hx : a.eval x = .slice A2 ys.length c2) (hg : W.heap[g]? = some (.cells #[] 126 (0, 0))) (hb : base ≤ g) (hsl : SlS RuleE W S (.slice A2 ys.length c2) ys) (hlen : ys.length ≤ 1099511627776)
    (h : ∀ A9 c9 w9, OwnRules w9 base (.slice A9 ys.length c9) ys → (∀ k o, W.heap[k]? = some o → k ≠ g → w9.heap[k]? = some o) → Below base W w9 → K (a.put o.dst (.slice A9 ys.length c9)) w9) :
    if Region.wanted o (yielded ops a.tmps) = true then Oper.wp Try.prog o a W K Q else E := by
  refine step_append_rules hgd s x ho (base := base) (l := []) hs hx ⟨rfl, .inr ⟨g, 0, #[], rfl, hb, hg, Nat.le_refl _, Nat.zero_le _, rfl, rfl⟩⟩ hsl (by simpa using hlen) (by have := (Array.getElem?_eq_some_iff.1 hg).1; omega) ?_
  intro v' w' own hgr hbl
  obtain ⟨A9, c9, rfl, _⟩ := own_nil own
  exact h A9 c9 w' own (fun k o hk hne => grown_at hgr hk (by simpa [Value.ownBlock] using hne)) hbl
/-- One rule more. -/
theorem step_app1 {W : World} {ops : Array Oper} {o : Oper} {a : Act} {K : Act → World → Prop} {Q : Exit → Act → World → Prop} {E : Prop} (hgd : o.guard = none) (s x : Operand)
    (ho : o.op = .call { callee := .builtin .append, args := #[s, x], argTypes := #[24, 24] }) {l : List GRule} {t : ByteArray} {p q : Int} {base B c9 : Nat} {A9 : Option Addr}
    (hs : a.eval s = .slice A9 l.length c9) (hx : a.eval x = .slice (some ⟨B, 0, none⟩) 1 1) (hown : OwnRules W base (.slice A9 l.length c9) l) (hB : W.heap[B]? = some (.cells #[.string t, .int .i64 p, .int .i64 q] 126 (0, 0))) (hlen : l.length ≤ 1099511627775) (hbase : base ≤ W.heap.size)
    (h : ∀ A10 c10 w10, OwnRules w10 base (.slice A10 (l.length + 1) c10) (l ++ [⟨t, p, q⟩]) → (∀ k v, W.heap[k]? = some (.cells #[v] 26 (0, 0)) → Boxed w10 k 26 v) → Below base W w10 → K (a.put o.dst (.slice A10 (l.length + 1) c10)) w10) :
    if Region.wanted o (yielded ops a.tmps) = true then Oper.wp Try.prog o a W K Q else E := by
  refine step_append_rules hgd s x ho (base := base) (l := l) (ys := [⟨t, p, q⟩]) (S := fun _ => True) hs hx hown (one_sl hB) (by simp; omega) hbase ?_
  intro v' w' own hgr hbl
  obtain ⟨A9, c9, rfl, _⟩ := own_nil own
  have e : (l ++ [(⟨t, p, q⟩ : GRule)]).length = l.length + 1 := by simp
  rw [e] at own ⊢
  exact h A9 c9 w' own (fun k v hk => Boxed.kept hk hgr (Boxed.not_row hk (by decide) hown)) hbl
theorem drawn_post {w wx : World} {b N M : Nat} {most : Int} {v : Value} {xs : List GRule} (h : DrSt w b M wx v xs) (hlt : b < w.heap.size) (hM : M ≤ N + 200) (hok : DrawnOk most xs) (hl : xs.length ≤ 14) (u : Value) :
    DrawnPost b N most w (.returned (.agg #[v])) (wx.setCell ⟨w.heap.size, 0, none⟩ u) := by
  have hb2 : Below w.heap.size wx (wx.setCell ⟨w.heap.size, 0, none⟩ u) := (Below.refl _ _).setCell (p := ⟨w.heap.size, 0, none⟩) (Nat.le_refl _) _
  have own : OwnRules (wx.setCell ⟨w.heap.size, 0, none⟩ u) (w.heap.size + 2) v xs := ownsRow_setCell_other (a := ⟨w.heap.size, 0, none⟩) h.own (Boxed.not_row h.b0 (by decide) h.own).symm _
  refine ⟨v, xs, rfl, own.slS (fun g hg => ?_), hok, hl, (h.src.keepB hb2 hlt).more hM, h.but.up hb2 (Nat.le_refl _)⟩
  have := World.ownsRow.lt own g hg
  exact ⟨by omega, this.2⟩
set_option maxRecDepth 100000 in
set_option maxHeartbeats 40000000 in
theorem l02Drawn_any (b N : Nat) (most : Int) (w : World) (h : Src w b N) (hN : N ≤ 800000) :
    Calls Try.prog 43 #[.pointer (some ⟨b, 0, none⟩), .int .i64 most] w (DrawnPost b N most w) := by
  have hlt := h.lt
  have HS := Lib.hid h
  clear h
  go_enter Try.func43, Try.ntmps43
  go_wp2_with fail
  have hW0 : DrSt w b N ((w.alloc (.cells #[.slice none 0 0] 26)).alloc (.cells #[.slice none 0 0] 26)) (.slice none 0 0) [] := by
    have hb : Below w.heap.size w ((w.alloc (.cells #[.slice none 0 0] 26)).alloc (.cells #[.slice none 0 0] 26)) := ((Below.refl _ w).alloc (Nat.le_refl _) _).alloc (by simp) _
    refine ⟨HS.out.keep hb, But.of hb, ?_, ?_, World.ownsRow_nil _ _ _ _⟩
    · have h0 : Boxed (w.alloc (.cells #[.slice none 0 0] 26)) w.heap.size 26 (.slice none 0 0) := heap_alloc_new w _
      exact Boxed.up h0 ((Below.refl (w.heap.size + 1) _).alloc (by rw [World.size_alloc]; exact Nat.le_refl _) _) (Nat.lt_succ_self _)
    · have := heap_alloc_new (w.alloc (.cells #[.slice none 0 0] 26)) (.cells #[.slice none 0 0] 26)
      rw [World.size_alloc] at this
      exact this
  refine (pick_any b N 3 _ hW0.src (by omega)).mono ?_
  rintro r w1 ⟨x, rfl, hx, _, hs1, hb1⟩
  have H1 := Lib.hid (hW0.pick hb1 hs1 hlt)
  have hx3 : x ≤ 2 := by omega
  clear hW0 hs1 hb1 hx
  go_wp2_with fail
  go_loopw [7] (fun i wx => ∃ (k : Nat) (v : Value), k ≤ x + 1 ∧ i = .int .i64 (k : Int) ∧ DrSt w b (N + 2) wx v (letG k)) (fun i _ => x + 1 - (intOf i).toNat)
  case atStart => exact ⟨0, _, Nat.zero_le _, rfl, H1.out⟩
  case round =>
    obtain ⟨k, v, hk, rfl, hst⟩ := hrel
    have Hst := Lib.hid hst
    obtain ⟨A, c, rfl, _⟩ := own_nil hst.own
    have hcb := Boxed.cell hst.b1
    have hfb := Boxed.frozen hst.b1
    have hzr := hst.lt
    by_cases hlt1 : k < x + 1
    · have hlI : (k : Int) < 1 + (x : Int) := by omega
      have Hlen : Hid ((letG k).length ≤ 1099511627775) := by rw [Hid, letG_len]; omega
      clear hst
      have HA := Lib.hid (fun (o1 o2 : Obj) => ((Below.refl (w.heap.size + 2) wr).alloc (show w.heap.size + 2 ≤ wr.heap.size by omega) o1).alloc (by rw [World.size_alloc]; omega) o2)
      have hk3 : k = 0 ∨ k = 1 ∨ k = 2 := by omega
      rcases hk3 with rfl | rfl | rfl
      · have hcv := convB [97] wr.heap.size 0 1 1 (wr.alloc (.cells #[.int .u8 97] 5)) rfl (by
          intro t ht
          have : t = 0 := by simpa using ht
          subst this
          simp [go_sem])
        go_wp2_with (first
          | (at_builtin; refine list_push_rule (base := w.heap.size + 2) (t := ⟨#[97]⟩) (p := 0) (q := 0) rfl _ _ rfl rfl rfl (by simp) (Hst.out.own.alloc _) Hlen.out (by first | omega | (simp; done) | (simp; omega)) ?_; intro v3 w3 own3 hg3 hb3; obtain ⟨A3, c3, rfl, _⟩ := own_nil own3; have hb9 := (HA.out _ _).trans hb3; have bx3 := Boxed.up Hst.out.b1 hb9 (Nat.lt_succ_self _); have hcb3 := Boxed.cell bx3; have hfb3 := Boxed.frozen bx3))
        refine ⟨⟨1, _, by omega, rfl, Hst.out.put hlt hb9 (letG_own own3 rfl)⟩, by first | (simp [intOf]; done) | (simp [intOf]; omega)⟩
      · have hcv := convB [98] wr.heap.size 0 1 1 (wr.alloc (.cells #[.int .u8 98] 5)) rfl (by
          intro t ht
          have : t = 0 := by simpa using ht
          subst this
          simp [go_sem])
        go_wp2_with (first
          | (at_builtin; refine list_push_rule (base := w.heap.size + 2) (t := ⟨#[98]⟩) (p := 0) (q := 0) rfl _ _ rfl rfl rfl (by simp) (Hst.out.own.alloc _) Hlen.out (by first | omega | (simp; done) | (simp; omega)) ?_; intro v3 w3 own3 hg3 hb3; obtain ⟨A3, c3, rfl, _⟩ := own_nil own3; have hb9 := (HA.out _ _).trans hb3; have bx3 := Boxed.up Hst.out.b1 hb9 (Nat.lt_succ_self _); have hcb3 := Boxed.cell bx3; have hfb3 := Boxed.frozen bx3))
        refine ⟨⟨2, _, by omega, rfl, Hst.out.put hlt hb9 (letG_own own3 rfl)⟩, by first | (simp [intOf]; done) | (simp [intOf]; omega)⟩
      · have hcv := convB [99] wr.heap.size 0 1 1 (wr.alloc (.cells #[.int .u8 99] 5)) rfl (by
          intro t ht
          have : t = 0 := by simpa using ht
          subst this
          simp [go_sem])
        go_wp2_with (first
          | (at_builtin; refine list_push_rule (base := w.heap.size + 2) (t := ⟨#[99]⟩) (p := 0) (q := 0) rfl _ _ rfl rfl rfl (by simp) (Hst.out.own.alloc _) Hlen.out (by first | omega | (simp; done) | (simp; omega)) ?_; intro v3 w3 own3 hg3 hb3; obtain ⟨A3, c3, rfl, _⟩ := own_nil own3; have hb9 := (HA.out _ _).trans hb3; have bx3 := Boxed.up Hst.out.b1 hb9 (Nat.lt_succ_self _); have hcb3 := Boxed.cell bx3; have hfb3 := Boxed.frozen bx3))
        refine ⟨⟨3, _, by omega, rfl, Hst.out.put hlt hb9 (letG_own own3 rfl)⟩, by first | (simp [intOf]; done) | (simp [intOf]; omega)⟩
    · have hkx : k = x + 1 := by omega
      subst hkx
      have hlI : ¬ ((x + 1 : Nat) : Int) < 1 + (x : Int) := by omega
      have Hok := Lib.hid (letG_ok most x hx3)
      have Hl14 : Hid ((letG (x + 1)).length ≤ 3) := by rw [Hid, letG_len]; omega
      obtain ⟨X, hX⟩ : ∃ X, letG (x + 1) = X := ⟨_, rfl⟩
      rw [hX] at Hok Hl14 Hst
      have hXl : (letG (x + 1)).length = X.length := by rw [hX]
      clear hst hX hcb hfb hlI hzr H1
      go_wp2_with fail
      refine (pick_any b (N + 2) 12 _ Hst.out.src (by omega)).mono ?_
      rintro r w2 ⟨y, rfl, hy, _, hs2, hb2⟩
      have H2 := Lib.hid (Hst.out.pick hb2 hs2 hlt)
      have hy11 : y ≤ 11 := by omega
      clear Hst hs2 hb2 hy
      go_wp2_with fail
      go_loopw [8] (fun i wx => ∃ (k : Nat) (v : Value) (xs : List GRule), k ≤ y ∧ i = .int .i64 (k : Int) ∧ DrawnOk most xs ∧ xs.length + k ≤ 14 ∧ DrSt w b (N + 100 - 8 * k) wx v xs) (fun i _ => (intOf i).toNat)
      case atStart => exact ⟨y, _, X, Nat.le_refl _, rfl, Hok.out, by have := Hl14.out; omega, ⟨H2.out.src.more (by omega), H2.out.but, H2.out.b0, H2.out.b1, H2.out.own⟩⟩
      case round =>
        obtain ⟨k, v, xs, hk, rfl, hok, hlk, hst⟩ := hrel
        have Hst := Lib.hid hst
        have Hok := Lib.hid hok
        obtain ⟨A2, c2, rfl, _⟩ := own_nil hst.own
        have hcb := Boxed.cell hst.b1
        have hfb := Boxed.frozen hst.b1
        have hcb0 := Boxed.cell hst.b0
        have hfb0 := Boxed.frozen hst.b0
        have hzr := hst.lt
        by_cases hk0 : k = 0
        · subst hk0
          clear hst hok
          go_wp2_with fail
          refine bodyPost_ret (v := .agg #[.slice A2 xs.length c2]) (by simp [results, Try.results43, go_sem, hcb0]) rfl (drawn_post Hst.out hlt (by omega) Hok.out (by omega) _)
        · have hkI : (0 : Int) < (k : Int) := by omega
          have hn0 := hok.2.1
          clear hst hok
          go_upto_if 49 with (first
            | (go_at_call 81; refine (pick_any b _ xs.length _ Hst.out.src (by omega)).mono ?_; rintro r w3 ⟨p, rfl, hp, _, hs3, hb3⟩)
            | (go_at_call 81; refine (pick_any b _ xs.length _ hs3 (by omega)).mono ?_; rintro r w4 ⟨q, rfl, hq, _, hs4, hb4⟩)
            | (go_at_call 99; refine (one_any b _ 2 _ (hs4.keep ((Below.refl _ _).alloc (Nat.le_refl _) _)) (by omega)).mono ?_; rintro r w5 ⟨t5, rfl, hs5, hb5⟩))
          have hb4' := Boxed3.new w4 ⟨#[]⟩ p q
          have R5 : Boxed3 w5 w4.heap.size ⟨#[]⟩ p q := hb4'.but hb5 (by have := hb3.size; have := hb4.size; omega)
          have hst4 := (Hst.out.pick hb3 hs3 hlt).pick hb4 hs4 hlt
          have hst5 := (hst4.up ((Below.refl w4.heap.size w4).alloc (Nat.le_refl _) (.cells #[.string ⟨#[]⟩, .int .i64 (p : Int), .int .i64 (q : Int)] 126))).pick hb5 hs5 hlt
          have H5 := Lib.hid hst5
          have HR5 := Lib.hid R5
          have z4 : w.heap.size + 2 ≤ w4.heap.size := by have := hst4.lt; omega
          have hp2 : p < xs.length := by omega
          have hq2 : q < xs.length := by omega
          have hAR : ∀ g, (Value.slice A2 xs.length c2).ownBlock = some g → g ≠ w4.heap.size := fun g hg => by
            have h1 := (World.ownsRow.lt Hst.out.own g hg).2
            have h2 := hb3.size
            have h3 := hb4.size
            omega
          obtain ⟨R, hR⟩ : ∃ R, w4.heap.size = R := ⟨_, rfl⟩
          rw [hR] at HR5 z4 hAR
          rw [hR]
          have hrc := HR5.out.c1
          have hrf := HR5.out.f1
          have hnI : IntKind.i64.wrap ((xs.length : Int) - 1) = (xs.length : Int) - 1 := IntWalk.i64_in _ (by omega)
          clear hst4 hst5 R5 hb4' hs3 hs4 hs5 hb3 hb4 hb5 hR hcb hfb hcb0 hfb0 hp hq
          go_cut [] (fun wx => ∃ p2 : Nat, p2 < xs.length ∧ DrSt w b (N + 100 - 8 * k + 6) wx (.slice A2 xs.length c2) xs ∧ Boxed3 wx R ⟨#[]⟩ p2 q)
          case first =>
            cases t5 with
            | true =>
              go_wp2
              go_meet
              refine ⟨xs.length - 1, by omega, H5.out.far hlt z4 hAR _, ?_⟩
              have := HR5.out.set1 (xs.length - 1)
              rw [show ((xs.length - 1 : Nat) : Int) = (xs.length : Int) - 1 by omega] at this
              exact this
            | false =>
              go_wp2
              go_meet
              exact ⟨p, hp2, H5.out, HR5.out⟩
          case rest =>
            obtain ⟨p2, hpp, hst6, hbx6⟩ := hcut
            have H6 := Lib.hid hst6
            have HR6 := Lib.hid hbx6
            clear hst6 hbx6 hrc hrf H5 HR5 hp2
            go_upto_if 54 with (first
              | (go_at_call 99; refine (one_any b _ 3 _ H6.out.src (by omega)).mono ?_; rintro r w7 ⟨t7, rfl, hs7, hb7⟩))
            have hst7 := H6.out.pick hb7 hs7 hlt
            have hR7 := HR6.out.but hb7 (by omega)
            have H7 := Lib.hid hst7
            have HR7 := Lib.hid hR7
            have hrc := HR7.out.c2
            have hrf := HR7.out.f2
            clear hst7 hR7 hs7 hb7 H6 HR6
            go_cut [] (fun wx => ∃ q2 : Nat, q2 < xs.length ∧ DrSt w b (N + 100 - 8 * k + 8) wx (.slice A2 xs.length c2) xs ∧ Boxed3 wx R ⟨#[]⟩ p2 q2)
            case first =>
              cases t7 with
              | true =>
                go_wp2
                go_meet
                refine ⟨xs.length - 1, by omega, H7.out.far hlt z4 hAR _, ?_⟩
                have := HR7.out.set2 (xs.length - 1)
                rw [show ((xs.length - 1 : Nat) : Int) = (xs.length : Int) - 1 by omega] at this
                exact this
              | false =>
                go_wp2
                go_meet
                exact ⟨q, hq2, H7.out, HR7.out⟩
            case rest =>
              obtain ⟨q2, hqq, hst8, hbx8⟩ := hcut
              have H8 := Lib.hid hst8
              have HR8 := Lib.hid hbx8
              have hrc0 := hbx8.c0
              have hrc1 := hbx8.c1
              have hrc2 := hbx8.c2
              have hcb := Boxed.cell hst8.b1
              have hfb := Boxed.frozen hst8.b1
              clear hst8 hbx8 hrc hrf H7 HR7 hq2
              go_upto_region 16 with fail
              have HSl := Lib.hid H8.out.own.sl
              have hlt8 := H8.out.lt
              go_cut [11] (fun u11 wx => ∃ (L : Nat) (A3 : Option Addr) (c3 : Nat), u11 = .pointer (some ⟨L, 0, none⟩) ∧ w.heap.size + 2 ≤ L ∧ DrSt w b (N + 100 - 8 * k + 8) wx (.slice A2 xs.length c2) xs ∧ Boxed wx L 26 (.slice A3 (xs.length + 1) c3) ∧ OwnRules wx (w.heap.size + 2) (.slice A3 (xs.length + 1) c3) (xs ++ [⟨⟨#[]⟩, p2, q2⟩]))
              case first =>
                have hRlt : R < wc.heap.size := (Array.getElem?_eq_some_iff.1 HR8.out.box).1
                have HRlt := Lib.hid hRlt
                have hb1lt : w.heap.size + 1 < wc.heap.size := by omega
                have HX := Lib.hid (show xs.length ≤ 1099511627775 by omega)
                have HCB := Lib.hid hcb
                have HRC0 := Lib.hid hrc0
                have HRC1 := Lib.hid hrc1
                have HRC2 := Lib.hid hrc2
                go_region_held3 (fun w' => Below wc.heap.size wc w' ∧ w'.cell? ⟨w.heap.size + 1, 0, none⟩ = some (.slice A2 xs.length c2) ∧ w'.cell? ⟨R, 0, none⟩ = some (.string ⟨#[]⟩) ∧ w'.cell? ⟨R, 1, none⟩ = some (.int .i64 (p2 : Int)) ∧ w'.cell? ⟨R, 2, none⟩ = some (.int .i64 (q2 : Int)))
                  (first | (with_reducible refine keepDr HCB.out hb1lt HRC0.out HRC1.out HRC2.out HRlt.out ?_; (repeat (first | exact B10 | exact B9 | exact Below.refl _ _ | refine Below.drew ?_ | (refine Below.setCell ?_ (by first | exact Nat.le_refl _ | (show _ ≤ _; omega) | (simp; done) | (simp; omega)) _) | (refine Below.alloc ?_ (by first | omega | (simp; done) | (simp; omega)) _)))))
                  (first
                    | ((fail_if_success (have hx9 := B9)); refine step_app0 (base := wc.heap.size) (ys := xs) (S := fun k => k < wc.heap.size) (by rfl) _ _ (by rfl) (by rfl) (by rfl) (by ((repeat (first | (with_reducible assumption) | ((with_reducible refine heap_newD ?_); (focus (first | (exact (World.size_alloc _ _).symm) | (simp; done) | (simp; omega)))) | ((with_reducible refine heap_new' ?_); (focus (first | (exact (World.size_alloc _ _).symm) | (simp; done) | (simp; omega)))) | (with_reducible apply heap_drew) | (with_reducible apply heap_up) | ((with_reducible refine hkk hk9 ?_ ?_); (focus (first | (simp; done) | (simp; omega) | omega))))); all_goals fail "left")) (by first | omega | (simp; done)) (HSl.out.keep (Keep.of_below (by (repeat (first | (with_reducible exact B9) | (with_reducible exact Below.refl _ _) | with_reducible refine Below.drew ?_ | (with_reducible refine Below.alloc ?_ (by first | omega | (simp; done) | (simp; omega)) _)))))) (Nat.le_succ_of_le HX.out) ?_; intro A9 c9 w9 own9 hk9 hb9; have B9 : Below wc.heap.size wc w9 := Below.trans (by (repeat (first | (with_reducible exact B9) | (with_reducible exact Below.refl _ _) | with_reducible refine Below.drew ?_ | (with_reducible refine Below.alloc ?_ (by first | omega | (simp; done) | (simp; omega)) _)))) hb9; have hs9 := B9.size)
                    | ((fail_if_success (have hx10 := B10)); refine step_app1 (base := wc.heap.size) (l := xs) (by rfl) _ _ (by rfl) (by rfl) (by rfl) (by (repeat (first | (with_reducible exact own9) | with_reducible apply OwnRules.drew | with_reducible apply OwnRules.alloc))) (by ((repeat (first | (with_reducible assumption) | ((with_reducible refine heap_newD ?_); (focus (first | (exact (World.size_alloc _ _).symm) | (simp; done) | (simp; omega)))) | ((with_reducible refine heap_new' ?_); (focus (first | (exact (World.size_alloc _ _).symm) | (simp; done) | (simp; omega)))) | (with_reducible apply heap_drew) | (with_reducible apply heap_up) | ((with_reducible refine hkk hk9 ?_ ?_); (focus (first | (simp; done) | (simp; omega) | omega))))); all_goals fail "left")) HX.out (by first | exact hs9 | (simp; omega)) ?_; intro A10 c10 w10 own10 hk10 hb10; have B10 : Below wc.heap.size wc w10 := Below.trans (by (repeat (first | (with_reducible exact B9) | (with_reducible exact Below.refl _ _) | with_reducible refine Below.drew ?_ | (with_reducible refine Below.alloc ?_ (by first | omega | (simp; done) | (simp; omega)) _)))) hb10; have hs10 := B10.size; (try (refine withL (hk10 (wc.heap.size) (.slice none 0 0)) ?_ ?_; (focus ((repeat (first | (with_reducible assumption) | ((with_reducible refine heap_newD ?_); (focus (first | (exact (World.size_alloc _ _).symm) | (simp; done) | (simp; omega)))) | ((with_reducible refine heap_new' ?_); (focus (first | (exact (World.size_alloc _ _).symm) | (simp; done) | (simp; omega)))) | (with_reducible apply heap_drew) | (with_reducible apply heap_up) | ((with_reducible refine hkk hk9 ?_ ?_); (focus (first | (simp; done) | (simp; omega) | omega))))); all_goals fail "left")); intro bL10; have hcL := Boxed.cell bL10; have hfL := Boxed.frozen bL10; have hlL := (Array.getElem?_eq_some_iff.1 bL10).1)); (try (refine withL (hk10 (wc.heap.size + 1) (.slice none 0 0)) ?_ ?_; (focus ((repeat (first | (with_reducible assumption) | ((with_reducible refine heap_newD ?_); (focus (first | (exact (World.size_alloc _ _).symm) | (simp; done) | (simp; omega)))) | ((with_reducible refine heap_new' ?_); (focus (first | (exact (World.size_alloc _ _).symm) | (simp; done) | (simp; omega)))) | (with_reducible apply heap_drew) | (with_reducible apply heap_up) | ((with_reducible refine hkk hk9 ?_ ?_); (focus (first | (simp; done) | (simp; omega) | omega))))); all_goals fail "left")); intro bL10; have hcL := Boxed.cell bL10; have hfL := Boxed.frozen bL10; have hlL := (Array.getElem?_eq_some_iff.1 bL10).1)); (try (refine withL (hk10 (wc.heap.size + 1 + 1) (.slice none 0 0)) ?_ ?_; (focus ((repeat (first | (with_reducible assumption) | ((with_reducible refine heap_newD ?_); (focus (first | (exact (World.size_alloc _ _).symm) | (simp; done) | (simp; omega)))) | ((with_reducible refine heap_new' ?_); (focus (first | (exact (World.size_alloc _ _).symm) | (simp; done) | (simp; omega)))) | (with_reducible apply heap_drew) | (with_reducible apply heap_up) | ((with_reducible refine hkk hk9 ?_ ?_); (focus (first | (simp; done) | (simp; omega) | omega))))); all_goals fail "left")); intro bL10; have hcL := Boxed.cell bL10; have hfL := Boxed.frozen bL10; have hlL := (Array.getElem?_eq_some_iff.1 bL10).1)); (try (refine withL (hk10 (w9.heap.size) (.slice none 0 0)) ?_ ?_; (focus ((repeat (first | (with_reducible assumption) | ((with_reducible refine heap_newD ?_); (focus (first | (exact (World.size_alloc _ _).symm) | (simp; done) | (simp; omega)))) | ((with_reducible refine heap_new' ?_); (focus (first | (exact (World.size_alloc _ _).symm) | (simp; done) | (simp; omega)))) | (with_reducible apply heap_drew) | (with_reducible apply heap_up) | ((with_reducible refine hkk hk9 ?_ ?_); (focus (first | (simp; done) | (simp; omega) | omega))))); all_goals fail "left")); intro bL10; have hcL := Boxed.cell bL10; have hfL := Boxed.frozen bL10; have hlL := (Array.getElem?_eq_some_iff.1 bL10).1)); (try (refine withL (hk10 (w9.heap.size + 1) (.slice none 0 0)) ?_ ?_; (focus ((repeat (first | (with_reducible assumption) | ((with_reducible refine heap_newD ?_); (focus (first | (exact (World.size_alloc _ _).symm) | (simp; done) | (simp; omega)))) | ((with_reducible refine heap_new' ?_); (focus (first | (exact (World.size_alloc _ _).symm) | (simp; done) | (simp; omega)))) | (with_reducible apply heap_drew) | (with_reducible apply heap_up) | ((with_reducible refine hkk hk9 ?_ ?_); (focus (first | (simp; done) | (simp; omega) | omega))))); all_goals fail "left")); intro bL10; have hcL := Boxed.cell bL10; have hfL := Boxed.frozen bL10; have hlL := (Array.getElem?_eq_some_iff.1 bL10).1))))
                all_goals
                  go_wp2_with fail
                  go_meet
                  have o10 := ownsRow_more own10 (base' := w.heap.size + 2) (by omega)
                  first
                    | exact ⟨w10.heap.size, A10, c10, rfl, by omega, H8.out.up (B10.alloc hs10 _), heap_alloc_new _ _, World.ownsRow.alloc o10 _⟩
                    | exact ⟨_, A10, c10, rfl, by omega, H8.out.up (B10.setCell (by (try dsimp only); omega) _), Boxed.set _ bL10, ownsRow_setCell_other o10 (Boxed.not_row bL10 (by decide) own10).symm _⟩
              case rest =>
                obtain ⟨L, A3, c3, rfl, hL, hst9, hbx9, own9⟩ := hcut
                have hsmY : SmallL (xs ++ [(⟨⟨#[]⟩, (p2 : Int), (q2 : Int)⟩ : GRule)]) := by
                  intro r hr
                  rcases List.mem_append.1 hr with hr | hr
                  · exact Hok.out.2.2.2 r hr
                  · rw [List.mem_singleton] at hr; subst hr; show (0 : Nat) ≤ _; decide
                obtain ⟨Y, hY⟩ : ∃ Y, xs ++ [(⟨⟨#[]⟩, (p2 : Int), (q2 : Int)⟩ : GRule)] = Y := ⟨_, rfl⟩
                have hYl : Y.length = xs.length + 1 := by rw [← hY]; simp
                rw [hY] at own9 hsmY
                rw [← hYl] at own9 hbx9
                have H9 := Lib.hid hst9
                have HB9 := Lib.hid hbx9
                have HO9 := Lib.hid own9
                have HSY := Lib.hid (OwnRules.sl own9)
                have HsmY := Lib.hid hsmY
                have hcY := Boxed.cell hbx9
                have hLlt := (Array.getElem?_eq_some_iff.1 hbx9).1
                clear hst9 hbx9 own9 H8 HR8 HSl hrc0 hrc1 hrc2 hcb hfb hlt8 hsmY hY
                cases hg : gramOk Y with
                | false =>
                  go_wp2_with (first
                    | (go_at_call 63; (refine (l02Ok_any L 0 _ Y _ hcY hLlt HSY.out HsmY.out).mono ?_); rintro r w11 ⟨hr, hb11⟩; rw [hg] at hr; subst hr; have H11 := Lib.hid (H9.out.up hb11); have hcb1 := Boxed.cell H11.out.b1; have hfb1 := Boxed.frozen H11.out.b1; have hcb0 := Boxed.cell H11.out.b0; have hfb0 := Boxed.frozen H11.out.b0))
                  refine bodyPost_ret (v := .agg #[.slice A2 xs.length c2]) (by simp [results, Try.results43, go_sem, hcb0]) rfl (drawn_post H11.out hlt (by omega) Hok.out (by omega) _)
                | true =>
                  obtain ⟨_, ls, hls⟩ := gram_lens hg
                  have hgl := gramLen_of hls
                  by_cases hmo : lastI ls ≤ most
                  · have hmI : ¬ most < lastI ls := by omega
                    go_wp2_with (first
                      | (go_at_call 63; (refine (l02Ok_any L 0 _ Y _ hcY hLlt HSY.out HsmY.out).mono ?_); rintro r w11 ⟨hr, hb11⟩; rw [hg] at hr; subst hr; have H11 := Lib.hid (H9.out.up hb11); have hcY1 := (hb11.cell (p := ⟨L, 0, none⟩) hLlt).trans hcY; have hLlt1 := Nat.lt_of_lt_of_le hLlt hb11.size; have HSY1 := Lib.hid (HSY.out.up hb11))
                      | (go_at_call 51; (refine (l02Length_any L 0 _ Y ls _ hls hcY1 hLlt1 HSY1.out HsmY.out (by omega)).mono ?_); rintro r w12 ⟨rfl, hb12⟩; have H12 := Lib.hid (H11.out.up hb12); have hcY2 := (hb12.cell (p := ⟨L, 0, none⟩) hLlt1).trans hcY1; have hcb1 := Boxed.cell H12.out.b1; have hfb1 := Boxed.frozen H12.out.b1))
                    have o12 := (HO9.out.below hb11).below hb12
                    rw [hYl] at o12
                    have s12 := H12.out.put hlt (Below.refl _ _) o12
                    rw [show N + 100 - 8 * k + 8 = N + 100 - 8 * (k - 1) by omega] at s12
                    exact ⟨⟨k - 1, _, Y, by omega, by rw [show ((k - 1 : Nat) : Int) = (k : Int) - 1 by omega], ⟨hg, by omega, fun _ => by rw [hgl]; exact hmo, HsmY.out⟩, by omega, s12⟩, by first | (simp [intOf]; done) | (simp [intOf]; omega)⟩
                  · have hmI : most < lastI ls := by omega
                    go_wp2_with (first
                      | (go_at_call 63; (refine (l02Ok_any L 0 _ Y _ hcY hLlt HSY.out HsmY.out).mono ?_); rintro r w11 ⟨hr, hb11⟩; rw [hg] at hr; subst hr; have H11 := Lib.hid (H9.out.up hb11); have hcY1 := (hb11.cell (p := ⟨L, 0, none⟩) hLlt).trans hcY; have hLlt1 := Nat.lt_of_lt_of_le hLlt hb11.size; have HSY1 := Lib.hid (HSY.out.up hb11))
                      | (go_at_call 51; (refine (l02Length_any L 0 _ Y ls _ hls hcY1 hLlt1 HSY1.out HsmY.out (by omega)).mono ?_); rintro r w12 ⟨rfl, hb12⟩; have H12 := Lib.hid (H11.out.up hb12); have hcb1 := Boxed.cell H12.out.b1; have hfb1 := Boxed.frozen H12.out.b1; have hcb0 := Boxed.cell H12.out.b0; have hfb0 := Boxed.frozen H12.out.b0))
                    refine bodyPost_ret (v := .agg #[.slice A2 xs.length c2]) (by simp [results, Try.results43, go_sem, hcb0]) rfl (drawn_post H12.out hlt (by omega) Hok.out (by omega) _)
end Go.Proofs.Ytagpjommhoedlaa

namespace Go.Proofs.Ytagpjommhoedlaa

def OkAll (xs : List GRule) : Prop := ∀ k r, xs[k]? = some r → okRule k r = true
structure CanonOk (k : Nat) (p : List GRule × List Int) : Prop where
  l1 : p.1.length = k
  l2 : p.2.length = k
  low : ∀ i, i < k → 0 ≤ p.2.getD i 0 ∧ p.2.getD i 0 ≤ i
  idx : ∀ i, i < k → p.2.getD i 0 = ((p.1.idxOf (getR p.1 i) : Nat) : Int)
  ok : OkAll p.1
end Go.Proofs.Ytagpjommhoedlaa

namespace Go.Proofs.Ytagpjommhoedlaa
open Go.RowKit

/-- Block b holds the cells a. -/
def Blk (w : World) (b : Nat) (a : Array Value) (t : TypeId) : Prop := w.heap[b]? = some (.cells a t (0, 0))
section
variable {w w' : World} {b N : Nat} {a : Array Value} {t : TypeId}
theorem Blk.lt (h : Blk w b a t) : b < w.heap.size := (Array.getElem?_eq_some_iff.1 h).1
theorem Blk.up (h : Blk w b a t) (hb : Below w.heap.size w w') : Blk w' b a t := (hb.block b h.lt).trans h
theorem Blk.cell (h : Blk w b a t) {i : Nat} {v : Value} (hi : a[i]? = some v) : w.cell? ⟨b, i, none⟩ = some v := by
  rw [cell_of_row w b i a t (0, 0) h, hi]
theorem Blk.frozen (h : Blk w b a t) (i : Nat) : w.frozen? ⟨b, i, none⟩ = false := by
  simp [World.frozen?, show w.heap[b]? = _ from h]
theorem Blk.set (h : Blk w b a t) (i : Nat) (v : Value) : Blk (w.setCell ⟨b, i, none⟩ v) b (a.setIfInBounds i v) t := by
  obtain ⟨hlt, hk⟩ := Array.getElem?_eq_some_iff.1 h
  show (w.heap.modify b _)[b]? = _
  rw [Array.getElem?_eq_getElem (by rw [Array.size_modify]; exact hlt), Array.getElem_modify_self, hk]
  rfl
theorem Blk.other (h : Blk w b a t) {p : Addr} (hne : b ≠ p.block) (v : Value) : Blk (w.setCell p v) b a t := (Below.heap_setCell w p v b hne).trans h
theorem Blk.alloc (h : Blk w b a t) (o : Obj) : Blk (w.alloc o) b a t := (Below.heap_alloc w o b h.lt).trans h
theorem Blk.drew (h : Blk w b a t) : Blk w.drew b a t := h
theorem Blk.new (w : World) (a : Array Value) (t : TypeId) : Blk (w.alloc (.cells a t)) w.heap.size a t := heap_alloc_new w _
end
theorem Blk.but {w w' : World} {b c : Nat} {a : Array Value} {t : TypeId} (h : Blk w c a t) (hb : But b w w') (hne : c ≠ b) : Blk w' c a t := (hb.block c h.lt hne).trans h
/-- What holds below a world with a new block holds below the world. -/
theorem Below.unalloc {w w' : World} {o : Obj} (hb : Below (w.alloc o).heap.size (w.alloc o) w') : Below w.heap.size w w' ∧ w'.heap[w.heap.size]? = some o :=
  ⟨((Below.refl w.heap.size w).alloc (Nat.le_refl _) o).trans (hb.mono (by simp)), (hb.block _ (by simp)).trans (heap_alloc_new w o)⟩
theorem Below.up {w0 w w' : World} {N : Nat} (h : Below N w0 w) (hb : Below w.heap.size w w') (hN : N ≤ w0.heap.size) : Below N w0 w' := h.trans (hb.mono (Nat.le_trans hN h.size))
theorem Below.tr {w0 w w' : World} (h : Below w0.heap.size w0 w) (hb : Below w.heap.size w w') : Below w0.heap.size w0 w' := h.trans (hb.mono h.size)
end Go.Proofs.Ytagpjommhoedlaa

