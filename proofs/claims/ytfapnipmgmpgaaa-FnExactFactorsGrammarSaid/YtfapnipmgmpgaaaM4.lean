import Derived.Test.YtfapnipmgmpgaaaM2
import Derived.Test.YtfapnipmgmpgaaaM3
import Derived.Test.YtfapnipmgmpgaaaM1
import Derived.Maps.Keyed
import Derived.DeepKeys4
import Derived.Deep.CutRange
import Derived.Deep.DeepCutAuto
import Derived.WalkArith
import Derived.Deep.OwnRows
import Derived.IntWalk
namespace Go.Proofs.Ytfapnipmgmpgaaa

def ltr (k : Nat) : UInt8 := UInt8.ofNat (97 + k)
def letR (c : UInt8) : GRule := ⟨⟨#[c]⟩, 0, 0⟩
def hasC (w : ByteArray) (c : UInt8) : Bool := w.data.toList.contains c
/-- The letters of a word, in their order. -/
def letsG (w : ByteArray) (k : Nat) : List GRule := ((List.range k).filter (fun j => hasC w (ltr j))).map fun j => letR (ltr j)
def idxG (w : ByteArray) (c : UInt8) : Nat := (letsG w 4).idxOf (letR c)
def pairAt (w : ByteArray) (i : Nat) : GRule :=
  pairR (if i = 0 then (idxG w (w.data.getD 0 0) : Nat) else (((letsG w 4).length + i - 1 : Nat) : Int)) (idxG w (w.data.getD (i + 1) 0) : Nat)
/-- The grammar of a plain word, up to some pairs. -/
def plainK (w : ByteArray) (m : Nat) : List GRule := letsG w 4 ++ (List.range m).map (pairAt w)
def plainG (w : ByteArray) : List GRule := plainK w (w.size - 1)

theorem letsG_succ (w : ByteArray) (k : Nat) : letsG w (k + 1) = if hasC w (ltr k) then letsG w k ++ [letR (ltr k)] else letsG w k := by
  unfold letsG
  rw [List.range_succ, List.filter_append, List.map_append]
  by_cases h : hasC w (ltr k) = true
  · rw [if_pos h]; simp [h]
  · rw [if_neg h]; simp [h]
theorem letsG_len (w : ByteArray) (k : Nat) : (letsG w k).length ≤ k := by
  unfold letsG
  rw [List.length_map]
  exact Nat.le_trans (List.length_filter_le _ _) (by simp)
theorem let_ltr {c : UInt8} (h : letOk c = true) : ∃ k, k < 4 ∧ c = ltr k := by
  simp [letOk] at h
  refine ⟨c.toNat - 97, by omega, ?_⟩
  unfold ltr
  rw [show 97 + (c.toNat - 97) = c.toNat by omega]; simp
theorem mem_letsG {w : ByteArray} {c : UInt8} (h : letOk c = true) (hw : hasC w c = true) : letR c ∈ letsG w 4 := by
  obtain ⟨k, hk, rfl⟩ := let_ltr h
  unfold letsG
  exact List.mem_map.2 ⟨k, List.mem_filter.2 ⟨List.mem_range.2 hk, hw⟩, rfl⟩
theorem hasC_at {w : ByteArray} {i : Nat} (h : i < w.size) : hasC w w[i] = true := by
  unfold hasC
  rw [List.contains_iff_mem]
  exact List.mem_of_getElem? (toList_getElem? w i h)
theorem letOk_at {w : ByteArray} (hw : wordOk w = true) {i : Nat} (h : i < w.size) : letOk w[i] = true := by
  unfold wordOk at hw
  simp only [Bool.and_eq_true] at hw
  exact List.all_eq_true.1 hw.2 _ (List.mem_of_getElem? (toList_getElem? w i h))
theorem idxG_lt {w : ByteArray} (hw : wordOk w = true) {i : Nat} (h : i < w.size) : idxG w w[i] < (letsG w 4).length :=
  List.idxOf_lt_length_iff.2 (mem_letsG (letOk_at hw h) (hasC_at h))
theorem getD_data {w : ByteArray} {i : Nat} (h : i < w.size) : w.data.getD i 0 = w[i] := by
  show w.data.getD i 0 = w.data[i]
  simp [Array.getD, h]
theorem plainK_len (w : ByteArray) (m : Nat) : (plainK w m).length = (letsG w 4).length + m := by simp [plainK]
theorem plainG_len (w : ByteArray) : (plainG w).length ≤ 4 + w.size := by
  rw [plainG, plainK_len]
  have := letsG_len w 4
  omega
theorem plainK_succ (w : ByteArray) (m : Nat) : plainK w (m + 1) = plainK w m ++ [pairAt w m] := by
  unfold plainK; rw [List.range_succ, List.map_append, List.append_assoc]; rfl
theorem plainK_zero (w : ByteArray) : plainK w 0 = letsG w 4 := by simp [plainK]
theorem letsG_ok (w : ByteArray) : ∀ r ∈ letsG w 4, ∃ k, k < 4 ∧ r = letR (ltr k) := by
  intro r hr
  unfold letsG at hr
  obtain ⟨k, h1, h2⟩ := List.mem_map.1 hr
  exact ⟨k, List.mem_range.1 (List.mem_filter.1 h1).1, h2.symm⟩
theorem okRule_letR {k i : Nat} (h : k < 4) : okRule i (letR (ltr k)) = true := by
  have : k = 0 ∨ k = 1 ∨ k = 2 ∨ k = 3 := by omega
  rcases this with rfl | rfl | rfl | rfl <;> rfl
theorem okAll_letsG (w : ByteArray) : OkAll (letsG w 4) := by
  intro i r hi
  obtain ⟨k, hk, rfl⟩ := letsG_ok w r (List.mem_of_getElem? hi)
  exact okRule_letR hk
theorem okAll_plainK {w : ByteArray} (hw : wordOk w = true) : ∀ m, m + 1 ≤ w.size ∨ m = 0 → OkAll (plainK w m) := by
  intro m
  induction m with
  | zero => intro _; rw [plainK_zero]; exact okAll_letsG w
  | succ m ih =>
    intro h
    have hm : m + 1 < w.size := by omega
    rw [plainK_succ]
    refine (ih (by omega)).snoc ?_
    rw [plainK_len]
    have h0 := idxG_lt hw (i := 0) (by omega)
    have h1 := idxG_lt hw (i := m + 1) hm
    unfold pairAt
    rw [getD_data hm, getD_data (show 0 < w.size by omega)]
    refine okRule_pair ?_ (by omega)
    split <;> omega
theorem okAll_plainG {w : ByteArray} (hw : wordOk w = true) : OkAll (plainG w) := okAll_plainK hw _ (by omega)

end Go.Proofs.Ytfapnipmgmpgaaa

namespace Go.Proofs.Ytfapnipmgmpgaaa

theorem raiseR_ok {n k : Nat} {r : GRule} (h : okRule k r = true) : okRule (n + k) (raiseR n r) = true := by
  unfold raiseR
  cases hp : r.pair with
  | true =>
    obtain ⟨q1, q2, q3, q4⟩ := okRule_at h hp
    rw [if_pos rfl]
    have hl : r.letter.size = 0 := by simpa [GRule.pair] using hp
    unfold okRule
    rw [if_pos (show (GRule.pair ⟨r.letter, r.left + n, r.right + n⟩) = true by simpa [GRule.pair] using hl)]
    show (decide (0 ≤ r.left + n) && decide (r.left + n ≤ ((n + k : Nat) : Int) - 1) && decide (0 ≤ r.right + n) && decide (r.right + n ≤ ((n + k : Nat) : Int) - 1)) = true
    rw [decide_eq_true (by omega), decide_eq_true (by omega), decide_eq_true (by omega), decide_eq_true (by omega)]; rfl
  | false =>
    rw [if_neg (by simp)]
    unfold okRule at h ⊢
    rw [if_neg (by simp [hp])] at h ⊢
    exact h
theorem okAll_smallP {xs : List GRule} (h : OkAll xs) (hl : xs.length ≤ 1099511627776) : SmallP xs := by
  intro r hr hp
  obtain ⟨k, hk⟩ := List.mem_iff_getElem?.1 hr
  have h1 := okRule_at (h k r hk) hp
  have h2 := (List.getElem?_eq_some_iff.1 hk).1
  omega
theorem ints_cell {S : List Int} {i : Nat} (h : i < S.length) : ((S.map (Value.int .i64)).toArray)[i]? = some (.int .i64 (S.getD i 0)) := by
  rw [List.getElem?_toArray, List.getElem?_map, List.getD_eq_getElem?_getD, List.getElem?_eq_getElem h]; rfl
theorem ints_set (S : List Int) (i : Nat) (v : Int) : ((S.map (Value.int .i64)).toArray).setIfInBounds i (.int .i64 v) = ((S.set i v).map (Value.int .i64)).toArray := by
  rw [List.map_set]; simp
structure BaseOk (k : Nat) (p : List GRule × List Int) : Prop where
  ok : OkAll p.1
  len : p.1.length ≤ 2004 * k
  l4 : p.2.length = 4
  low : ∀ i, i < 4 → -1 ≤ p.2.getD i 0 ∧ p.2.getD i 0 < p.1.length
theorem getD_set {l : List Int} {i j : Nat} {v : Int} (hi : i < l.length) : (l.set i v).getD j 0 = if i = j then v else l.getD j 0 := by
  by_cases h : i = j
  · subst h; rw [if_pos rfl, List.getD_eq_getElem?_getD, List.getElem?_set, if_pos rfl, if_pos hi]; rfl
  · rw [if_neg h]; exact set_ne h
structure StandOk (B k : Nat) (p : List GRule × List Int) : Prop where
  ok : OkAll p.1
  len : p.1.length ≤ B + k
  ls : p.2.length = k
  low : ∀ i, i < k → -1 ≤ p.2.getD i 0 ∧ p.2.getD i 0 < p.1.length
end Go.Proofs.Ytfapnipmgmpgaaa

namespace Go.Proofs.Ytfapnipmgmpgaaa
open Go.RowKit

def keyV (r : GRule) : Value := .agg #[.string r.letter, .int .i64 r.left, .int .i64 r.right]
def KeyOk (r : GRule) : Prop := r.letter.size ≤ 1 ∧ (-9223372036854775808 ≤ r.left ∧ r.left ≤ 9223372036854775807) ∧ (-9223372036854775808 ≤ r.right ∧ r.right ≤ 9223372036854775807)
theorem keyV_inj {r s : GRule} (h : keyV r = keyV s) : r = s := by
  cases r; cases s
  simp [keyV] at h
  obtain ⟨h1, h2, h3⟩ := h
  subst h1 h2 h3; rfl
theorem laidOutP : laidOutB Try.prog = true := by kernel_rfl
theorem rowRule : (160 : TypeId) < Try.prog.types.size := of_decide_eq_true (by kernel_rfl)
theorem keyTypeRule : Try.prog.keyTypeAt 2 160 = true := by kernel_rfl
theorem ruleKey : WideMaps.KeyLaw Try.prog 160 := deep_law_laid laidOutP (m := 2) (by omega) rowRule keyTypeRule (by rw [Try.underlying160])
theorem cellsRule : Try.prog.cellsOf 160 = 3 := by kernel_rfl
theorem formedRule (l : ByteArray) (a b : Int) : (Value.agg #[.string l, .int .i64 a, .int .i64 b]).formed Try.prog 160 = true := by simp [Value.formed, Try.underlying160, cellsRule]
theorem litsRule (D : Nat) (l : ByteArray) (a b : Int) (hl : l.size ≤ 1) (ha : (Lit.int .i64 a).wf = true) (hb : (Lit.int .i64 b).wf = true) :
    Try.prog.keyLits (D + 2) 160 [.string l, .int .i64 a, .int .i64 b] = some [.string l.data.toList, .int .i64 a, .int .i64 b] := by
  have hm : l.size ≤ maxLen := Nat.le_trans hl (by decide)
  have c9 : Try.prog.cellsOf 9 = 1 := by kernel_rfl
  have c2 : Try.prog.cellsOf 2 = 1 := by kernel_rfl
  simp [cellsRule, Try.underlying160, c9, c2, Program.keyLits, Try.underlying9, Try.underlying2, hm, ha, hb, List.mapM_cons]
theorem keyOf_rule {r : GRule} (h : KeyOk r) : ∃ l, keyOf Try.prog 160 (keyV r) = some l := by
  obtain ⟨h1, h2, h3⟩ := h
  have hw1 : (Lit.int .i64 r.left).wf = true := WalkArith.wf_i64 h2
  have hw2 : (Lit.int .i64 r.right).wf = true := WalkArith.wf_i64 h3
  obtain ⟨D, hD⟩ : ∃ D, Try.prog.types.size + 1 = D + 2 := ⟨Try.prog.types.size - 1, by have h9 : 1 < Try.prog.types.size := Nat.lt_of_le_of_lt (by decide) rowRule; omega⟩
  have hk : Try.prog.keyType 160 = true := by kernel_rfl
  have hlits := litsRule D r.letter r.left r.right h1 hw1 hw2
  rw [← hD] at hlits
  refine ⟨.string (keyBytes [.string r.letter.data.toList, .int .i64 r.left, .int .i64 r.right]), ?_⟩
  unfold keyOf keyV
  rw [Try.underlying160]
  have hc : (Value.agg #[.string r.letter, .int .i64 r.left, .int .i64 r.right]).cells.toList = [.string r.letter, .int .i64 r.left, .int .i64 r.right] := rfl
  show (if (Try.prog.keyType 160 && (Value.agg #[.string r.letter, .int .i64 r.left, .int .i64 r.right]).formed Try.prog 160) = true then
    (Try.prog.keyLits (Try.prog.types.size + 1) 160 (Value.agg #[.string r.letter, .int .i64 r.left, .int .i64 r.right]).cells.toList).map fun ls => Lit.string (keyBytes ls) else none) = _
  rw [hk, formedRule, hc, if_pos (show (true && true) = true from rfl), hlits]
  rfl

/-- A map of rules in block b: the first place of each rule of the list. -/
def RMap (w : World) (b : Nat) (ks : List GRule) : Prop :=
  ∃ es clock, w.heap[b]? = some (.map es clock) ∧ (∀ e ∈ es.toList, ∃ r, KeyOk r ∧ e.key = keyV r ∧ r ∈ ks ∧ e.val = .int .i64 (ks.idxOf r : Nat)) ∧ ∀ r ∈ ks, ∃ e ∈ es.toList, e.key = keyV r
section
variable {w w' : World} {b : Nat} {ks : List GRule} {r : GRule}
theorem RMap.made (w : World) : RMap (w.alloc (.map #[] 0)) w.heap.size [] := ⟨#[], 0, (MapKept.heap_alloc w _).1, by simp, by simp⟩
theorem RMap.lt (h : RMap w b ks) : b < w.heap.size := by
  obtain ⟨es, clock, hb, _⟩ := h
  exact (Array.getElem?_eq_some_iff.1 hb).1
theorem RMap.of_block (h : RMap w b ks) (hb : w'.heap[b]? = w.heap[b]?) : RMap w' b ks := by
  obtain ⟨es, clock, h0, h1, h2⟩ := h
  exact ⟨es, clock, hb.trans h0, h1, h2⟩
theorem RMap.kept {row : Option Nat} (h : RMap w b ks) (hg : w.grownBy w' row) (hne : some b ≠ row) : RMap w' b ks := h.of_block (hg.block b h.lt hne)
theorem RMap.alloc (h : RMap w b ks) (o : Obj) : RMap (w.alloc o) b ks := h.kept (World.grownBy_alloc w o none) (by simp)
theorem RMap.drew (h : RMap w b ks) : RMap w.drew b ks := h
theorem RMap.below {N : Nat} (h : RMap w b ks) (hb : Below N w w') (hlt : b < N) : RMap w' b ks := h.of_block (hb.block b hlt)
theorem RMap.same (h : RMap w b ks) (hr : r ∈ ks) : RMap w b (ks ++ [r]) := by
  obtain ⟨es, clock, h0, h1, h2⟩ := h
  refine ⟨es, clock, h0, fun e he => ?_, fun s hs => ?_⟩
  · obtain ⟨s, a1, a2, a3, a4⟩ := h1 e he
    exact ⟨s, a1, a2, by simp [a3], by rw [List.idxOf_append, if_pos a3]; exact a4⟩
  · rcases List.mem_append.1 hs with hs | hs
    · exact h2 s hs
    · rw [List.mem_singleton] at hs; subst hs; exact h2 s hr
theorem RMap.find (h : RMap w b ks) (hk : KeyOk r) : ∃ es clock, w.heap[b]? = some (.map es clock) ∧ (∀ e ∈ es.toList, ∃ r, KeyOk r ∧ e.key = keyV r ∧ r ∈ ks ∧ e.val = .int .i64 (ks.idxOf r : Nat)) ∧
    ((r ∉ ks ∧ (Instr.findKey 160 (keyV r) es.toList).run Try.prog w = .ok none w) ∨ (r ∈ ks ∧ ∃ j, (Instr.findKey 160 (keyV r) es.toList).run Try.prog w = .ok (some (j, .int .i64 (ks.idxOf r : Nat))) w)) := by
  obtain ⟨es, clock, h0, h1, h2⟩ := h
  obtain ⟨l, hl⟩ := keyOf_rule hk
  refine ⟨es, clock, h0, h1, ?_⟩
  rcases ruleKey.find w hl es.toList (fun e he => by
    obtain ⟨s, a1, a2, _⟩ := h1 e he
    rw [a2]; exact keyOf_rule a1) with ⟨f1, f2⟩ | ⟨j, e, f1, f2, f3⟩
  · refine .inl ⟨fun hr => ?_, f1⟩
    obtain ⟨e, he, hek⟩ := h2 r hr
    exact f2 e he hek
  · obtain ⟨s, a1, a2, a3, a4⟩ := h1 e (List.mem_of_getElem? f2)
    have : s = r := keyV_inj (a2.symm.trans f3)
    subst this
    exact .inr ⟨a3, j, by rw [← a4]; exact f1⟩
theorem RMap.yes (h : RMap w b ks) (hk : KeyOk r) (hr : r ∈ ks) (c : Bool) :
    (Instr.lookup 205 (.map (some b)) (keyV r) c).run Try.prog w = .ok (if c then .tuple #[.int .i64 (ks.idxOf r : Nat), .bool true] else .int .i64 (ks.idxOf r : Nat)) w := by
  obtain ⟨es, clock, h0, h1, h2⟩ := h.find hk
  obtain ⟨l, hl⟩ := keyOf_rule hk
  rcases h2 with ⟨hn, _⟩ | ⟨_, j, hj⟩
  · exact absurd hr hn
  · simp [Instr.lookup, run_underlying Try.underlying205, MapKept.run_getObj_map h0, ruleKey.check w _ hl, hj, Result.andThen]
theorem RMap.no (h : RMap w b ks) (hk : KeyOk r) (hr : r ∉ ks) (c : Bool) :
    (Instr.lookup 205 (.map (some b)) (keyV r) c).run Try.prog w = .ok (if c then .tuple #[.int .i64 0, .bool false] else .int .i64 0) w := by
  obtain ⟨es, clock, h0, h1, h2⟩ := h.find hk
  obtain ⟨l, hl⟩ := keyOf_rule hk
  have hz : (zeroValue 2).run Try.prog w = .ok (.int .i64 0) w := by kernel_rfl
  rcases h2 with ⟨_, hj⟩ | ⟨hy, _⟩
  · simp [Instr.lookup, run_underlying Try.underlying205, MapKept.run_getObj_map h0, ruleKey.check w _ hl, hj, hz, Result.andThen]
  · exact absurd hy hr
open Go.ChangeMaps in
theorem RMap.put (h : RMap w b ks) (hk : KeyOk r) (hr : r ∉ ks) :
    ∃ w', (Instr.mapUpdate 205 (.map (some b)) (keyV r) (.int .i64 (ks.length : Nat))).run Try.prog w = .ok () w' ∧ RMap w' b (ks ++ [r]) ∧ w.grownBy w' (some b) := by
  have h' := h
  obtain ⟨es0, clock0, g0, g1, g2⟩ := h'
  obtain ⟨es, clock, h0, h1, h2⟩ := h.find hk
  obtain ⟨l, hl⟩ := keyOf_rule hk
  have he : es0 = es ∧ clock0 = clock := by
    rw [g0] at h0
    have := Option.some.inj h0
    exact ⟨by injection this, by injection this⟩
  obtain ⟨rfl, rfl⟩ := he
  rcases h2 with ⟨_, hj⟩ | ⟨hy, _⟩
  · refine ⟨setBlock w b (.map (es0.push ⟨keyV r, .int .i64 (ks.length : Nat), clock0⟩) (clock0 + 1)), ?_, ⟨_, _, heap_setBlock_same g0 _, ?_, ?_⟩, ⟨rfl, rfl, rfl, by simp [setBlock], fun i _ hi => heap_setBlock_other g0 _ (fun e => hi (by rw [e]))⟩⟩
    · simp [Instr.mapUpdate, run_underlying Try.underlying205, MapKept.run_getObj_map g0, ruleKey.check w false hl, hj, MapKept.run_setObj_map _ g0, Result.andThen, setBlock]
    · intro e he
      simp only [Array.toList_push, List.mem_append, List.mem_singleton] at he
      rcases he with he | rfl
      · obtain ⟨s, a1, a2, a3, a4⟩ := g1 e he
        exact ⟨s, a1, a2, by simp [a3], by rw [List.idxOf_append, if_pos a3]; exact a4⟩
      · exact ⟨r, hk, rfl, by simp, by rw [List.idxOf_append, if_neg hr]; simp⟩
    · intro s hs
      simp only [Array.toList_push, List.mem_append, List.mem_singleton]
      rcases List.mem_append.1 hs with hs | hs
      · obtain ⟨e, he, hek⟩ := g2 s hs
        exact ⟨e, .inl he, hek⟩
      · rw [List.mem_singleton] at hs; subst hs; exact ⟨_, .inr rfl, rfl⟩
  · exact absurd hy hr
end
end Go.Proofs.Ytfapnipmgmpgaaa

namespace Go.Proofs.Ytfapnipmgmpgaaa
open Go.RowKit

/-- One rule appended in a region that does not draw. -/
theorem list_push_rule {W : World} {ops : Array Oper} {rest : List Oper} {o : Oper} {a : Act} {Q : Exit → Act → World → Prop} (hgd : o.guard = none) (s x : Operand)
    (ho : o.op = .call { callee := .builtin .append, args := #[s, x], argTypes := #[30, 30] }) {t : ByteArray} {p q : Int} {base : Nat} {v : Value} {l : List GRule}
    (hs : a.eval s = v) {N : Nat} (hx : a.eval x = .slice (some ⟨N, 0, none⟩) 1 1) (hN : N = W.heap.size) (hown : OwnRules W base v l) (hlen : l.length ≤ 1099511627775) (hbase : base ≤ W.heap.size)
    (h : ∀ v' w', OwnRules w' base v' (l ++ [⟨t, p, q⟩]) → (W.alloc (.cells #[.string t, .int .i64 p, .int .i64 q] 160)).grownBy w' v.ownBlock → Below base (W.alloc (.cells #[.string t, .int .i64 p, .int .i64 q] 160)) w' → wpList Try.prog ops Q rest (a.put o.dst v') w') :
    wpList Try.prog ops Q (o :: rest) a (W.alloc (.cells #[.string t, .int .i64 p, .int .i64 q] 160)) :=
  wpList_plain hgd fun K hK => by
    have := step_push_rule (E := True) (K := K) (ops := ops) (Q := Q) hgd s x ho hs hx hN hown hlen hbase (fun v' w' h1 h2 h3 => hK _ _ (h v' w' h1 h2 h3))
    rwa [if_pos (by simp [Region.wanted, hgd])] at this

theorem own_put {w5 : World} {K base n c5 : Nat} {A5 : Option Addr} {L M : List GRule} {vo : Value} (bx : Boxed w5 K 32 vo) (own : OwnRules w5 base (.slice A5 L.length c5) L) (hM : L = M) (hn : M.length = n) :
    OwnRules (w5.setCell ⟨K, 0, none⟩ (.slice A5 n c5)) base (.slice A5 n c5) M := by
  subst hM; subst hn; exact ownsRow_setCell_other (a := ⟨K, 0, none⟩) own (bx.not_row (by decide) own).symm _

end Go.Proofs.Ytfapnipmgmpgaaa

namespace Go.Proofs.Ytfapnipmgmpgaaa
open Go.RowKit

theorem pairI64_any (a b : Int) (w : World) :
    Calls Try.prog 141 #[.int .i64 a, .int .i64 b] w fun e w' => e = .returned (.agg #[.string ⟨#[]⟩, .int .i64 a, .int .i64 b]) ∧ Below w.heap.size w w' := by
  go_enter Try.func141, Try.ntmps141
  go_wp2
  exact bodyPost_ret (v := .agg #[.string ⟨#[]⟩, .int .i64 a, .int .i64 b]) (by simp [results, Try.results141, go_sem]) rfl ⟨rfl, (by repeat (first | exact (Below.refl _ _) | (refine Below.alloc ?_ (by first | omega | (simp; done) | (simp; omega)) _) | refine below_drewN ?_ _ | refine Below.drew ?_))⟩

/-- Three cells of a rule in a block. -/
def Cells3 (w : World) (B : Nat) (r : GRule) : Prop := w.cell? ⟨B, 0, none⟩ = some (.string r.letter) ∧ w.cell? ⟨B, 1, none⟩ = some (.int .i64 r.left) ∧ w.cell? ⟨B, 2, none⟩ = some (.int .i64 r.right) ∧ B < w.heap.size
theorem Cells3.below {w w' : World} {B N : Nat} {r : GRule} (h : Cells3 w B r) (hb : Below N w w') (hlt : B < N) : Cells3 w' B r :=
  ⟨(hb.cell (p := ⟨B, 0, none⟩) hlt).trans h.1, (hb.cell (p := ⟨B, 1, none⟩) hlt).trans h.2.1, (hb.cell (p := ⟨B, 2, none⟩) hlt).trans h.2.2.1, Nat.lt_of_lt_of_le h.2.2.2 hb.size⟩
theorem Cells3.kept {w w' : World} {B : Nat} {r : GRule} {row : Option Nat} (h : Cells3 w B r) (hg : w.grownBy w' row) (hne : some B ≠ row) : Cells3 w' B r :=
  ⟨(World.cell?_of_block (a := ⟨B, 0, none⟩) (hg.block B h.2.2.2 hne)).trans h.1, (World.cell?_of_block (a := ⟨B, 1, none⟩) (hg.block B h.2.2.2 hne)).trans h.2.1, (World.cell?_of_block (a := ⟨B, 2, none⟩) (hg.block B h.2.2.2 hne)).trans h.2.2.1, Nat.lt_of_lt_of_le h.2.2.2 hg.size⟩
theorem okRule_key {k : Nat} {r : GRule} (h : okRule k r = true) (hk : k ≤ 1099511627776) : KeyOk r := by
  cases hp : r.pair with
  | true =>
    have := okRule_at h hp
    exact ⟨okRule_small h, by omega, by omega⟩
  | false =>
    obtain ⟨h1, h2, h3⟩ := okRule_let h hp
    exact ⟨okRule_small h, by omega, by omega⟩

/-- 'append(s, x)' of one rule in a region that draws its order. -/
theorem step_push_ruleC {W : World} {ops : Array Oper} {o : Oper} {a : Act} {K : Act → World → Prop} {Q : Exit → Act → World → Prop} {E : Prop} (hgd : o.guard = none) (s x : Operand)
    (ho : o.op = .call { callee := .builtin .append, args := #[s, x], argTypes := #[30, 30] }) {r : GRule} {base : Nat} {v : Value} {l : List GRule}
    (hs : a.eval s = v) {N : Nat} (hx : a.eval x = .slice (some ⟨N, 0, none⟩) 1 1) (hc : Cells3 W N r) (hown : OwnRules W base v l) (hlen : l.length ≤ 1099511627775) (hbase : base ≤ W.heap.size)
    (h : ∀ v' w', OwnRules w' base v' (l ++ [r]) → W.grownBy w' v.ownBlock → (v'.ownBlock = v.ownBlock ∨ v'.ownBlock = some W.heap.size) → K (a.put o.dst v') w') :
    if Region.wanted o (yielded ops a.tmps) = true then Oper.wp Try.prog o a W K Q else E := by
  have hw : Region.wanted o (yielded ops a.tmps) = true := by simp [Region.wanted, hgd]
  rw [if_pos hw]
  obtain ⟨i0, hi0, hz0, hz1, hz2⟩ := info_parts Try.infoR
  obtain ⟨v', w', hrun, h2, h3, _, h5⟩ := run_append_own_at (P := Try.prog) W base 30 o.type 160 i0 _ 3 32 Try.underlying30 hi0 hz0 hz1 hz2 rfl (by decide) v _ _ hown ⟨N, 0, none⟩ 1 1 r.cells rfl
    (fun j u hu => by
      obtain ⟨c0, c1, c2, _⟩ := hc
      match j, hu with
      | 0, hu => simp [GRule.cells] at hu; subst hu; simpa [Addr.add] using c0
      | 1, hu => simp [GRule.cells] at hu; subst hu; simpa [Addr.add] using c1
      | 2, hu => simp [GRule.cells] at hu; subst hu; simpa [Addr.add] using c2
      | j + 3, hu => simp [GRule.cells] at hu) (by simp [GRule.cells, Value.oneCell']) (by simp only [maxLen]; omega) (by omega) hbase
  unfold Oper.wp execOp
  simp only [ho, resolve, invoke, builtin, Sem.run_bind, Sem.run_pure, Result.andThen_ok, List.map_toArray, List.map_cons, List.map_nil, hs, hx, hrun]
  exact h v' w' (by unfold OwnRules; simpa using h2) h3 h5

theorem keptc {W w' : World} {row : Option Nat} {N o : Nat} {u : Value} (hg : W.grownBy w' row) (hc : W.cell? ⟨N, o, none⟩ = some u) (hlt : N < W.heap.size) (hne : some N ≠ row) : w'.cell? ⟨N, o, none⟩ = some u :=
  (World.cell?_of_block (a := ⟨N, o, none⟩) (hg.block N hlt hne)).trans hc
theorem own_block {w : World} {base e s n : Nat} {v : Value} {xs : List Value} (h : w.ownsRow base e s v n xs) {g : Nat} (hg : v.ownBlock = some g) : ∃ cur, w.heap[g]? = some (.cells cur e (0, 0)) := by
  rcases h.2 with ⟨rfl, _⟩ | ⟨g', cap, cur, rfl, _, hb, _⟩
  · cases hg
  · have : g' = g := by simpa [Value.ownBlock] using hg
    subst this; exact ⟨cur, hb⟩
theorem own_apart {w : World} {base base' e e' s s' n n' : Nat} {v v' : Value} {xs xs' : List Value} (h : w.ownsRow base e s v n xs) (h' : w.ownsRow base' e' s' v' n' xs') (hne : e ≠ e') : ∀ g, v.ownBlock = some g → some g ≠ v'.ownBlock := fun g hg hg' => by
  obtain ⟨c1, h1⟩ := own_block h hg
  obtain ⟨c2, h2⟩ := own_block h' hg'.symm
  rw [h1] at h2
  have := Option.some.inj h2
  injection this with _ h3; exact hne h3
theorem rmap_apart {w : World} {b base e s n : Nat} {v : Value} {xs : List Value} {ks : List GRule} (h : RMap w b ks) (h' : w.ownsRow base e s v n xs) : some b ≠ v.ownBlock := fun hb => by
  obtain ⟨c, h1⟩ := own_block h' hb.symm
  obtain ⟨es, clock, h2, _⟩ := h
  rw [h1] at h2; cases h2

/-- What the first loop of a trimming holds: two rows, a map, a rule in a box. -/
structure T3 (w0 : World) (base bm bx : Nat) (X : GRule) (ks : List GRule) (W : World) (v4 : Value) (K : List GRule) (v6 : Value) (S : List Int) : Prop where
  below : Below base w0 W
  rows : OwnRules W base v4 K
  ints : OwnInts W base v6 S
  mp : RMap W bm ks
  box : Cells3 W bx X
  bxR : some bx ≠ v4.ownBlock
  bxI : some bx ≠ v6.ownBlock
  lb : base ≤ W.heap.size
section
variable {w0 W : World} {base bm bx : Nat} {X : GRule} {ks K : List GRule} {v4 v6 : Value} {S : List Int}
theorem T3.alloc (h : T3 w0 base bm bx X ks W v4 K v6 S) (o : Obj) : T3 w0 base bm bx X ks (W.alloc o) v4 K v6 S :=
  ⟨h.below.alloc h.lb _, h.rows.alloc _, h.ints.alloc _, h.mp.alloc _, h.box.below ((Below.refl W.heap.size W).alloc (Nat.le_refl _) o) h.box.2.2.2, h.bxR, h.bxI, by have := h.lb; simp; omega⟩
theorem T3.drew (h : T3 w0 base bm bx X ks W v4 K v6 S) : T3 w0 base bm bx X ks W.drew v4 K v6 S :=
  ⟨Below.drew h.below, h.rows, h.ints, h.mp, h.box, h.bxR, h.bxI, h.lb⟩
theorem T3.pushR (h : T3 w0 base bm bx X ks W v4 K v6 S) {w' : World} {v' : Value} {L : List GRule} (h1 : OwnRules w' base v' L) (hg : W.grownBy w' v4.ownBlock) (hv : v'.ownBlock = v4.ownBlock ∨ v'.ownBlock = some W.heap.size) : T3 w0 base bm bx X ks w' v' L v6 S :=
  ⟨h.below.grown hg h.lb (fun g hgg => (World.ownsRow.lt h.rows g hgg).1), h1, own_keep h.ints fun g hgg => hg.block g (World.ownsRow.lt h.ints g hgg).2 (own_apart h.ints h.rows (by decide) g hgg), h.mp.kept hg (rmap_apart h.mp h.rows), h.box.kept hg h.bxR,
    by rcases hv with e | e
       · rw [e]; exact h.bxR
       · rw [e]; intro e'; have := h.box.2.2.2; have : bx = W.heap.size := Option.some.inj e'; omega, h.bxI, Nat.le_trans h.lb hg.size⟩
theorem T3.pushI (h : T3 w0 base bm bx X ks W v4 K v6 S) {w' : World} {v' : Value} {L : List Int} (h1 : OwnInts w' base v' L) (hg : W.grownBy w' v6.ownBlock) (hv : v'.ownBlock = v6.ownBlock ∨ v'.ownBlock = some W.heap.size) : T3 w0 base bm bx X ks w' v4 K v' L :=
  ⟨h.below.grown hg h.lb (fun g hgg => (World.ownsRow.lt h.ints g hgg).1), own_keep h.rows fun g hgg => hg.block g (World.ownsRow.lt h.rows g hgg).2 (own_apart h.rows h.ints (by decide) g hgg), h1, h.mp.kept hg (rmap_apart h.mp h.ints), h.box.kept hg h.bxI, h.bxR,
    by rcases hv with e | e
       · rw [e]; exact h.bxI
       · rw [e]; intro e'; have := h.box.2.2.2; have : bx = W.heap.size := Option.some.inj e'; omega, Nat.le_trans h.lb hg.size⟩
theorem step_T3R {ops : Array Oper} {o : Oper} {a : Act} {KK : Act → World → Prop} {Q : Exit → Act → World → Prop} {E : Prop} (hgd : o.guard = none) (s x : Operand)
    (ho : o.op = .call { callee := .builtin .append, args := #[s, x], argTypes := #[30, 30] }) {r : GRule} {N : Nat}
    (hs : a.eval s = v4) (hx : a.eval x = .slice (some ⟨N, 0, none⟩) 1 1) (T : T3 w0 base bm bx X ks W v4 K v6 S) (hc : Cells3 W N r) (hlen : K.length ≤ 1099511627775)
    (h : ∀ v' w', T3 w0 base bm bx X ks w' v' (K ++ [r]) v6 S → W.grownBy w' v4.ownBlock → KK (a.put o.dst v') w') :
    if Region.wanted o (yielded ops a.tmps) = true then Oper.wp Try.prog o a W KK Q else E :=
  step_push_ruleC hgd s x ho hs hx hc T.rows hlen T.lb fun v' w' h1 h2 h3 => h v' w' (T.pushR h1 h2 h3) h2
theorem step_T3I {ops : Array Oper} {o : Oper} {a : Act} {KK : Act → World → Prop} {Q : Exit → Act → World → Prop} {E : Prop} (hgd : o.guard = none) (s x : Operand)
    (ho : o.op = .call { callee := .builtin .append, args := #[s, x], argTypes := #[65, 65] }) {y : Int} {N : Nat}
    (hs : a.eval s = v6) (hx : a.eval x = .slice (some ⟨N, 0, none⟩) 1 1) (T : T3 w0 base bm bx X ks W v4 K v6 S) (hc : W.cell? ⟨N, 0, none⟩ = some (.int .i64 y)) (hlen : S.length ≤ 1099511627775)
    (h : ∀ v' w', T3 w0 base bm bx X ks w' v4 K v' (S ++ [y]) → W.grownBy w' v6.ownBlock → KK (a.put o.dst v') w') :
    if Region.wanted o (yielded ops a.tmps) = true then Oper.wp Try.prog o a W KK Q else E :=
  step_push_int hgd s x ho hs hx hc T.ints (by omega) T.lb fun v' w' h1 h2 h3 => h v' w' (T.pushI h1 h2 h3) h2
end

theorem Cells3.new {W : World} {N : Nat} {r : GRule} (hN : N = W.heap.size) : Cells3 (W.alloc (.cells #[.string r.letter, .int .i64 r.left, .int .i64 r.right] 160)) N r := by
  subst hN
  refine ⟨?_, ?_, ?_, by simp⟩ <;> simp [go_sem]
theorem Cells3.alloc {W : World} {N : Nat} {r : GRule} (h : Cells3 W N r) (o : Obj) : Cells3 (W.alloc o) N r := h.below ((Below.refl W.heap.size W).alloc (Nat.le_refl _) o) h.2.2.2
theorem Cells3.drew {W : World} {N : Nat} {r : GRule} (h : Cells3 W N r) : Cells3 W.drew N r := h
/-- A number in a block. -/
def Cell1 (w : World) (B : Nat) (q : Int) : Prop := w.cell? ⟨B, 0, none⟩ = some (.int .i64 q) ∧ B < w.heap.size
theorem Cell1.new {W : World} {N : Nat} {q : Int} (hN : N = W.heap.size) : Cell1 (W.alloc (.cells #[.int .i64 q] 2)) N q := by
  subst hN
  exact ⟨by simp [go_sem], by simp⟩
theorem Cell1.alloc {W : World} {N : Nat} {q : Int} (h : Cell1 W N q) (o : Obj) : Cell1 (W.alloc o) N q :=
  ⟨(((Below.refl W.heap.size W).alloc (Nat.le_refl _) o).cell (p := ⟨N, 0, none⟩) h.2).trans h.1, by have := h.2; simp; omega⟩
theorem Cell1.drew {W : World} {N : Nat} {q : Int} (h : Cell1 W N q) : Cell1 W.drew N q := h
theorem Cell1.kept {w w' : World} {B : Nat} {q : Int} {row : Option Nat} (h : Cell1 w B q) (hg : w.grownBy w' row) (hne : some B ≠ row) : Cell1 w' B q := ⟨keptc hg h.1 h.2 hne, Nat.lt_of_lt_of_le h.2 hg.size⟩
theorem own_far {w : World} {base e s n : Nat} {v : Value} {xs : List Value} (h : w.ownsRow base e s v n xs) {N : Nat} (hN : w.heap.size ≤ N) : some N ≠ v.ownBlock := fun e => by
  have := (World.ownsRow.lt h N e.symm).2; omega
theorem T3.look {w0 W : World} {base bm bx : Nat} {X : GRule} {ks K : List GRule} {v4 v6 : Value} {S : List Int} (h : T3 w0 base bm bx X ks W v4 K v6 S) {r : GRule} (hk : KeyOk r) (hr : r ∈ ks) :
    (Instr.lookup 205 (.map (some bm)) (.agg #[.string r.letter, .int .i64 r.left, .int .i64 r.right]) false).run Try.prog W = .ok (.int .i64 (ks.idxOf r : Nat)) W := h.mp.yes hk hr false

/-- A row of booleans in a block. -/
def RowB (w : World) (b : Nat) (N : List Bool) : Prop := w.rowIs b 4 N.length fun i => .bool (N.getD i false)
/-- A row of numbers in a block. -/
def RowI (w : World) (b : Nat) (l : List Int) : Prop := w.rowIs b 2 l.length fun i => .int .i64 (l.getD i 0)
theorem RowB.made (w : World) (n : Nat) : RowB (w.alloc (.cells (madeCells #[.bool false] n) 4)) w.heap.size (List.replicate n false) := by
  have h := World.rowIs_made w (.bool false) n 4
  unfold RowB; rw [List.length_replicate]
  exact h.congr fun i hi => by simp [List.getD_eq_getElem?_getD, hi]
theorem RowI.made (w : World) (n : Nat) : RowI (w.alloc (.cells (madeCells #[.int .i64 0] n) 2)) w.heap.size (List.replicate n 0) := by
  have h := World.rowIs_made w (.int .i64 0) n 2
  unfold RowI; rw [List.length_replicate]
  exact h.congr fun i hi => by simp [List.getD_eq_getElem?_getD, hi]
section
variable {w w' : World} {b : Nat} {N : List Bool} {l : List Int}
theorem RowB.set (h : RowB w b N) (i : Nat) (x : Bool) : RowB (w.setCell ⟨b, i, none⟩ (.bool x)) b (N.set i x) := by
  have h2 := World.rowIs.set h i (.bool x)
  unfold RowB; rw [List.length_set]
  exact h2.congr fun j hj => by
    by_cases e : j = i
    · subst e; simp [List.getD_eq_getElem?_getD, hj]
    · simp [e, List.getD_eq_getElem?_getD, Ne.symm e]
theorem RowI.set (h : RowI w b l) (i : Nat) (x : Int) : RowI (w.setCell ⟨b, i, none⟩ (.int .i64 x)) b (l.set i x) := by
  have h2 := World.rowIs.set h i (.int .i64 x)
  unfold RowI; rw [List.length_set]
  exact h2.congr fun j hj => by
    by_cases e : j = i
    · subst e; simp [List.getD_eq_getElem?_getD, hj]
    · simp [e, List.getD_eq_getElem?_getD, Ne.symm e]
theorem RowB.lt (h : RowB w b N) : b < w.heap.size := World.rowIs.lt h
theorem RowI.lt (h : RowI w b l) : b < w.heap.size := World.rowIs.lt h
theorem RowB.cell (h : RowB w b N) {i : Nat} (hi : i < N.length) : w.cell? ⟨b, i, none⟩ = some (.bool (N.getD i false)) := World.rowIs.cell h hi
theorem RowI.cell (h : RowI w b l) {i : Nat} (hi : i < l.length) : w.cell? ⟨b, i, none⟩ = some (.int .i64 (l.getD i 0)) := World.rowIs.cell h hi
theorem RowB.frozen (h : RowB w b N) (i : Nat) : w.frozen? ⟨b, i, none⟩ = false := World.rowIs.frozen h i
theorem RowI.frozen (h : RowI w b l) (i : Nat) : w.frozen? ⟨b, i, none⟩ = false := World.rowIs.frozen h i
theorem RowB.alloc (h : RowB w b N) (o : Obj) : RowB (w.alloc o) b N := World.rowIs.alloc h o
theorem RowI.alloc (h : RowI w b l) (o : Obj) : RowI (w.alloc o) b l := World.rowIs.alloc h o
theorem RowB.drew (h : RowB w b N) : RowB w.drew b N := h
theorem RowI.drew (h : RowI w b l) : RowI w.drew b l := h
theorem RowB.below {M : Nat} (h : RowB w b N) (hb : Below M w w') (hlt : b < M) : RowB w' b N := World.rowIs.of_block h (hb.block b hlt)
theorem RowI.below {M : Nat} (h : RowI w b l) (hb : Below M w w') (hlt : b < M) : RowI w' b l := World.rowIs.of_block h (hb.block b hlt)
theorem RowI.kept {row : Option Nat} (h : RowI w b l) (hg : w.grownBy w' row) (hne : some b ≠ row) : RowI w' b l := World.rowIs.of_block h (hg.block b h.lt hne)
theorem RowI.other (h : RowI w b l) {c o : Nat} (hne : b ≠ c) (u : Value) : RowI (w.setCell ⟨c, o, none⟩ u) b l := World.rowIs.setOther h hne u
theorem RowI.not_row {base e s n : Nat} {v : Value} {xs : List Value} (h : RowI w b l) (h' : w.ownsRow base e s v n xs) (hne : 2 ≠ e) : some b ≠ v.ownBlock := fun hb => by
  obtain ⟨c, h1⟩ := own_block h' hb.symm
  obtain ⟨c2, h2, _⟩ := h
  rw [h1] at h2
  have := Option.some.inj h2
  injection this with _ h3; exact hne h3.symm
end
theorem boxed_other {W : World} {B B' o : Nat} {t : TypeId} {v : Value} (h : Boxed W B t v) (hne : B ≠ B') (u : Value) : Boxed (W.setCell ⟨B', o, none⟩ u) B t v := (Below.heap_setCell _ _ _ _ hne).trans h
theorem Boxed.of1 (w : World) (o : Obj) (t : TypeId) (v : Value) : Boxed ((w.alloc o).alloc (.cells #[v] t)).drew (w.heap.size + 1) t v := by
  have := Boxed.new (w.alloc o) t v
  rw [show (w.alloc o).heap.size = w.heap.size + 1 by simp] at this
  exact this
theorem RowI.of1 (w : World) (o : Obj) (n : Nat) : RowI ((w.alloc o).alloc (.cells (madeCells #[.int .i64 0] n) 2)).drew (w.heap.size + 1) (List.replicate n 0) := by
  have := RowI.made (w.alloc o) n
  rw [show (w.alloc o).heap.size = w.heap.size + 1 by simp] at this
  exact this
end Go.Proofs.Ytfapnipmgmpgaaa

namespace Go.Proofs.Ytfapnipmgmpgaaa
open Go.RowKit

theorem l00Min_any (a b : Int) (w : World) : Calls Try.prog 177 #[.int .i64 a, .int .i64 b] w fun e w' => e = .returned (.int .i64 (min a b)) ∧ w = w' := by
  by_cases h : a < b
  · have e : min a b = a := by omega
    rw [e]
    go_enter Try.func177, Try.ntmps177
    go_wp2
    go_ret
    exact ⟨rfl, rfl⟩
  · have e : min a b = b := by omega
    rw [e]
    go_enter Try.func177, Try.ntmps177
    go_wp2
    go_ret
    exact ⟨rfl, rfl⟩
theorem l00Max_any (a b : Int) (w : World) : Calls Try.prog 178 #[.int .i64 a, .int .i64 b] w fun e w' => e = .returned (.int .i64 (max a b)) ∧ w = w' := by
  by_cases h : a > b
  · have e : max a b = a := by omega
    rw [e]
    go_enter Try.func178, Try.ntmps178
    go_wp2
    go_ret
    exact ⟨rfl, rfl⟩
  · have e : max a b = b := by omega
    rw [e]
    go_enter Try.func178, Try.ntmps178
    go_wp2
    go_ret
    exact ⟨rfl, rfl⟩

def nI (l : List Nat) : List Int := l.map Int.ofNat
theorem nI_append (a b : List Nat) : nI (a ++ b) = nI a ++ nI b := by simp [nI]
theorem nI_len (a : List Nat) : (nI a).length = a.length := by simp [nI]

set_option maxRecDepth 100000 in
set_option maxHeartbeats 2000000 in
theorem l02Cover_any (base bg og : Nat) (vL vR : Value) (xs : List GRule) (ls : List Int) (hl : lens xs = some ls) (_hn : xs.length ≤ 4194304) (hbg : bg < base) : ∀ (f r : Nat) (i j : Int) (vO : Value) (out : List Int) (w : World),
    r < f → r < xs.length → 0 ≤ i ∧ i ≤ 1000000000000000 → -1000000000000000 ≤ j ∧ j ≤ ls.getD r 0 → w.cell? ⟨bg, og, none⟩ = some vR → Sl IntE w base vL ls → Sl RuleE w base vR xs → base ≤ w.heap.size → OwnInts w base vO out →
    out.length + (coverS xs ls f r i j).length ≤ 1099511627776 →
    Calls Try.prog 164 #[.pointer (some ⟨bg, og, none⟩), vL, .int .i64 r, .int .i64 i, .int .i64 j, vO] w fun e w' => ∃ v', e = .returned v' ∧ OwnInts w' base v' (out ++ nI (coverS xs ls f r i j)) ∧ Below base w w' := by
  intro f
  induction f with
  | zero => intro r i j vO out w hr; omega
  | succ f ih =>
    intro r i j vO out w hr hx hi hj hp hL hR hbs hown hlen
    have hll := lens_length hl
    have hL' := hL
    have hR' := hR
    obtain ⟨AL, cL, rfl, _, hmL, hrowL⟩ := hL
    obtain ⟨AR, cR, rfl, _, hmR, hrowR⟩ := hR
    unfold maxLen at hmL hmR
    have hr1 := lens_pos' hl hx
    by_cases c1 : j ≤ i
    · have e : coverS xs ls (f + 1) r i j = [] := by rw [coverS, if_pos c1]
      have He := Lib.hid e
      have Hown := Lib.hid hown
      clear e hrowL hrowR ih hL' hR' hown hlen
      go_enter Try.func164, Try.ntmps164
      go_wp2_with fail
      go_ret
      exact ⟨_, rfl, by rw [He.out]; simpa [nI] using Hown.out, Below.refl _ _⟩
    obtain ⟨b1, o1, rfl, hb1, hcellL⟩ := hrowL.int (k := r) (by omega)
    obtain ⟨b2, o2, rfl, hb2', hcellR⟩ := hrowR.rule (k := r) hx
    have hcl := hcellL r (by omega)
    have hri : (r : Int) < (xs.length : Int) := by omega
    have hri2 : (r : Int) < (ls.length : Int) := by omega
    obtain ⟨LR, hLR⟩ : ∃ x, ls.getD r 0 = x := ⟨_, rfl⟩
    rw [hLR] at hcl hr1 hj
    by_cases c2 : i = 0 ∧ j = ls.getD r 0
    · obtain ⟨rfl, c2⟩ := c2
      rw [hLR] at c2
      subst c2
      have e : coverS xs ls (f + 1) r 0 j = [r] := by rw [coverS, if_neg c1, if_pos ⟨rfl, hLR.symm⟩]
      rw [e] at hlen
      have He := Lib.hid e
      have Hown := Lib.hid hown
      have hl2 : out.length ≤ 1099511627776 := by simp at hlen; omega
      have Hl2 := Lib.hid hl2
      obtain ⟨AO, cO, rfl, _⟩ := own_nil hown
      clear e hrowL hrowR ih hL' hR' hown hlen hcellL hcellR hl2 hll
      go_enter Try.func164, Try.ntmps164
      go_wp2_with (first | (at_builtin; go_must (refine push_ints (base := base) (v := .slice AO out.length cO) (l := out) rfl _ _ rfl rfl rfl rfl Hown.out Hl2.out hbs ?_); intro v' w' h1 h2 h3))
      go_ret
      exact ⟨_, rfl, by rw [He.out]; exact h1, h3⟩
    cases hpair : (getR xs r).pair with
    | false => have := lens_letter hl hx hpair; omega
    | true =>
      obtain ⟨q1, q2, q3, q4, q5⟩ := lens_pair hl hx hpair
      obtain ⟨k0, k1, k2⟩ := hcellR r _ (getR_at hx)
      obtain ⟨la, hla⟩ := Int.eq_ofNat_of_zero_le q1
      obtain ⟨ra, hra⟩ := Int.eq_ofNat_of_zero_le q3
      have e : coverS xs ls (f + 1) r i j = coverS xs ls f la i (min j (ls.getD la 0)) ++ coverS xs ls f ra (max (i - ls.getD la 0) 0) (j - ls.getD la 0) := by
        rw [coverS, if_neg c1, if_neg c2, hla, hra]; rfl
      rw [hla] at k1 q2 q5
      rw [hra] at k2 q4 q5
      simp only [Int.toNat_natCast] at q2 q4 q5
      have hA := lens_pos' hl (r := la) (by omega)
      have hB := lens_pos' hl (r := ra) (by omega)
      rw [e, List.length_append] at hlen
      have IH1 := Lib.hid (fun w' hp' hL'' hR'' hb' ho' => ih la i (min j (ls.getD la 0)) vO out w' (by omega) (by omega) hi (by omega) hp' hL'' hR'' hb' ho' (by omega))
      have IH2 := Lib.hid (fun v' w' hp' hL'' hR'' hb' ho' => ih ra (max (i - ls.getD la 0) 0) (j - ls.getD la 0) v' (out ++ nI (coverS xs ls f la i (min j (ls.getD la 0)))) w' (by omega) (by omega) (by omega) (by omega) hp' hL'' hR'' hb' ho' (by rw [List.length_append, nI_len]; omega))
      have hca := hcellL la (by omega)
      obtain ⟨LA, hLA⟩ : ∃ x, ls.getD la 0 = x := ⟨_, rfl⟩
      rw [hLA] at IH1 IH2 hca hA e
      have He := Lib.hid e
      have Hown := Lib.hid hown
      have HL := Lib.hid hL'
      have HR := Lib.hid hR'
      have d1 : (j == LR) = false ∨ ¬ i = 0 := by
        by_cases h : i = 0
        · exact .inl (by rw [beq_eq_false_iff_ne]; exact fun h2 => c2 ⟨h, by rw [hLR]; exact h2⟩)
        · exact .inr h
      have d2 : ¬ (i = 0) ∨ ¬ (j = LR) := by rcases d1 with d | d
                                             · exact .inr (by simpa using d)
                                             · exact .inl d
      have hlai : (la : Int) < (ls.length : Int) := by omega
      have hij : i < j := by omega
      clear e hrowL hrowR ih hL' hR' hown hlen hcellL hcellR hLR hLA q5 hB c1 c2 d1 hll
      go_enter Try.func164, Try.ntmps164
      have HLd : Hid (Sl IntE w.drew base (.slice (some ⟨b1, o1, none⟩) ls.length cL) ls) := HL.out.keep fun _ _ => rfl
      have HRd : Hid (Sl RuleE w.drew base (.slice (some ⟨b2, o2, none⟩) xs.length cR) xs) := HR.out.keep fun _ _ => rfl
      have Hod : Hid (OwnInts w.drew base vO out) := Hown.out.drew
      have hpd : w.drew.cell? ⟨bg, og, none⟩ = some (.slice (some ⟨b2, o2, none⟩) xs.length cR) := hp
      have hbd : base ≤ w.drew.heap.size := hbs
      have I1 := Lib.hid (IH1.out w.drew hpd HLd.out HRd.out hbd Hod.out)
      by_cases hi0 : i = 0
      · subst hi0
        have hjL : ¬ (j = LR) := by rcases d2 with d | d
                                    · exact absurd rfl d
                                    · exact d
        have hm0 : max (0 - LA) 0 = 0 := by omega
        rw [hm0] at IH2 He
        clear hm0
        go_upto_region 7 with fail
        go_cut [5] from 15 to 57 (fun q wx => OwnInts wx base q (out ++ nI (coverS xs ls f la 0 (min j LA))) ∧ Below base w wx)
        case first =>
          go_region_law (first
            | (go_simp; go_at_call 177; refine (l00Min_any _ _ _).mono ?_; rintro e w1 ⟨rfl, rfl⟩)
            | (go_simp; go_at_call 164; (with_reducible refine I1.out.mono ?_); rintro e w2 ⟨v2, rfl, own2, hb2⟩))
          all_goals
            go_wp2_with fail
            go_meet
            exact ⟨own2, (Below.drew (Below.refl _ _)).trans hb2⟩
        case rest =>
          revert hcut
          generalize wc = w2
          intro hcut
          obtain ⟨own2, hb2⟩ := hcut
          have p2 : w2.cell? ⟨bg, og, none⟩ = some (.slice (some ⟨b2, o2, none⟩) xs.length cR) := (hb2.cell (p := ⟨bg, og, none⟩) hbg).trans hp
          have I2 := Lib.hid (IH2.out _ w2.drew p2 (SlS.below HL.out (Below.drew hb2)) (SlS.below HR.out (Below.drew hb2)) (Nat.le_trans hbs hb2.size) own2.drew)
          have m1 : w2.cell? ⟨b2, o2 + r * 3 + 2, none⟩ = some (.int .i64 (ra : Int)) := (hb2.cell (p := ⟨b2, o2 + r * 3 + 2, none⟩) hb2').trans k2
          have HB2 := Lib.hid hb2
          clear own2 hb2
          have hwj : IntKind.i64.wrap (j - LA) = j - LA := IntWalk.i64_in _ (by omega)
          have hwn : IntKind.i64.wrap (-LA) = -LA := IntWalk.i64_in _ (by omega)
          have hmx : max (-LA) 0 = 0 := by omega
          go_wp2_with fail
          go_region_law (first
            | (go_simp; go_at_call 178; refine (l00Max_any _ _ _).mono ?_; rintro e w1 ⟨rfl, rfl⟩)
            | (go_simp; go_at_call 164; (with_reducible refine I2.out.mono ?_); rintro e w3 ⟨v3, rfl, own3, hb3⟩))
          all_goals
            go_wp2_with fail
            go_ret
            exact ⟨_, rfl, by rw [He.out, nI_append, ← List.append_assoc]; exact own3, (HB2.out.trans (Below.drew (Below.refl _ _))).trans hb3⟩
      · go_upto_region 7 with fail
        go_cut [5] from 15 to 57 (fun q wx => OwnInts wx base q (out ++ nI (coverS xs ls f la i (min j LA))) ∧ Below base w wx)
        case first =>
          go_region_law (first
            | (go_simp; go_at_call 177; refine (l00Min_any _ _ _).mono ?_; rintro e w1 ⟨rfl, rfl⟩)
            | (go_simp; go_at_call 164; (with_reducible refine I1.out.mono ?_); rintro e w2 ⟨v2, rfl, own2, hb2⟩))
          all_goals
            go_wp2_with fail
            go_meet
            exact ⟨own2, (Below.drew (Below.refl _ _)).trans hb2⟩
        case rest =>
          revert hcut
          generalize wc = w2
          intro hcut
          obtain ⟨own2, hb2⟩ := hcut
          have p2 : w2.cell? ⟨bg, og, none⟩ = some (.slice (some ⟨b2, o2, none⟩) xs.length cR) := (hb2.cell (p := ⟨bg, og, none⟩) hbg).trans hp
          have I2 := Lib.hid (IH2.out _ w2.drew p2 (SlS.below HL.out (Below.drew hb2)) (SlS.below HR.out (Below.drew hb2)) (Nat.le_trans hbs hb2.size) own2.drew)
          have m1 : w2.cell? ⟨b2, o2 + r * 3 + 2, none⟩ = some (.int .i64 (ra : Int)) := (hb2.cell (p := ⟨b2, o2 + r * 3 + 2, none⟩) hb2').trans k2
          have HB2 := Lib.hid hb2
          clear own2 hb2
          have hwj : IntKind.i64.wrap (j - LA) = j - LA := IntWalk.i64_in _ (by omega)
          have hwi : IntKind.i64.wrap (i - LA) = i - LA := IntWalk.i64_in _ (by omega)
          go_wp2_with fail
          go_region_law (first
            | (go_simp; go_at_call 178; refine (l00Max_any _ _ _).mono ?_; rintro e w1 ⟨rfl, rfl⟩)
            | (go_simp; go_at_call 164; (with_reducible refine I2.out.mono ?_); rintro e w3 ⟨v3, rfl, own3, hb3⟩))
          all_goals
            go_wp2_with fail
            go_ret
            exact ⟨_, rfl, by rw [He.out, nI_append, ← List.append_assoc]; exact own3, (HB2.out.trans (Below.drew (Below.refl _ _))).trans hb3⟩
end Go.Proofs.Ytfapnipmgmpgaaa

namespace Go.Proofs.Ytfapnipmgmpgaaa
open Go.RowKit

/-- The closure's cover: a box that holds the pieces met so far. -/
def CJ (bc base : Nat) (C : Nat → Prop) (s : List Nat) (w : World) : Prop :=
  ∃ v, Boxed w bc 65 v ∧ OwnInts w base v (nI s) ∧ base ≤ w.heap.size ∧ ¬ C bc ∧ ∀ g, v.ownBlock = some g → ¬ C g
theorem CJ.ext {bc base : Nat} : ∀ (C : Nat → Prop) (s : List Nat) (w w' : World), CJ bc base C s w → Below w.heap.size w w' → (∀ b, C b → b < w.heap.size) → CJ bc base (ext C w.heap.size w'.heap.size) s w' := by
  rintro C s w w' ⟨v, hb, ho, hn, h1, h2⟩ hbl hC
  refine ⟨v, Boxed.up hb hbl hb.lt, ownsRow_below ho hbl, Nat.le_trans hn hbl.size, ?_, fun g hg => ?_⟩
  · rintro (h | h)
    · exact h1 h
    · have := hb.lt; omega
  · have := (World.ownsRow.lt ho g hg).2
    rintro (h | h)
    · exact h2 g hg h
    · omega
/-- 'append(s, x)' of one number, with the place of the new row. -/
theorem list_push_int {W : World} {ops : Array Oper} {rest : List Oper} {o : Oper} {a : Act} {Q : Exit → Act → World → Prop} (hgd : o.guard = none) (s x : Operand)
    (ho : o.op = .call { callee := .builtin .append, args := #[s, x], argTypes := #[65, 65] }) {y : Int} {base : Nat} {v : Value} {l : List Int}
    (hs : a.eval s = v) {N : Nat} (hx : a.eval x = .slice (some ⟨N, 0, none⟩) 1 1) (hN : N = W.heap.size) (hown : OwnInts W base v l) (hlen : l.length ≤ 1099511627775) (hbase : base ≤ W.heap.size)
    (h : ∀ v' w', OwnInts w' base v' (l ++ [y]) → (W.alloc (.cells #[.int .i64 y] 2)).grownBy w' v.ownBlock → (v'.ownBlock = v.ownBlock ∨ v'.ownBlock = some (W.heap.size + 1)) → wpList Try.prog ops Q rest (a.put o.dst v') w') :
    wpList Try.prog ops Q (o :: rest) a (W.alloc (.cells #[.int .i64 y] 2)) :=
  wpList_plain hgd fun K hK => by
    subst hN
    have := step_push_int (E := True) (K := K) (ops := ops) (Q := Q) hgd s x ho hs hx (Cell1.new rfl).1 (hown.alloc _) (by omega) (by simp; omega) (fun v' w' h1 h2 h3 => hK _ _ (h v' w' h1 h2 (by simpa using h3)))
    rwa [if_pos (by simp [Region.wanted, hgd])] at this

theorem coverCl_any (bc base : Nat) (C : Nat → Prop) (s : List Nat) (r : Nat) (w : World) (hJ : CJ bc base C s w) (hs : s.length ≤ 1099511627775) (hC : ∀ b, C b → b < w.heap.size) :
    Calls Try.prog 139 #[.int .i64 r, .pointer (some ⟨bc, 0, none⟩)] w (TakePost (CJ bc base) C (s ++ [r]) w) := by
  obtain ⟨v, hb, ho, hn, h1, h2⟩ := hJ
  obtain ⟨A, c, rfl, _⟩ := own_nil ho
  have hcb := hb.cell
  have hlb := hb.lt
  have Hb := Lib.hid hb
  have Ho := Lib.hid ho
  have HL : Hid ((nI s).length ≤ 1099511627775) := by rw [Hid, nI_len]; exact hs
  have H1 := Lib.hid h1
  have H2 := Lib.hid h2
  have HC := Lib.hid hC
  clear hb ho h1 h2 hC hs
  go_enter Try.func139, Try.ntmps139
  go_wp2_with (first
    | (at_builtin; go_must (refine list_push_int (base := base) (v := .slice A (nI s).length c) (l := nI s) rfl _ _ rfl rfl rfl rfl Ho.out HL.out hn ?_); intro v2 w2 own2 hg2 hv2; obtain ⟨A2, c2, rfl, _⟩ := own_nil own2; have bx2 : Boxed w2 bc 65 _ := Boxed.grown Hb.out (by decide) Ho.out hg2; have hcb2 := bx2.cell; have hfb2 := bx2.frozen))
  go_end0
  have hsz : w.heap.size + 1 ≤ w2.heap.size := by have := hg2.size; simpa using this
  have hne : ∀ b, C b → some b ≠ (Value.slice A (nI s).length c).ownBlock := fun b hb e => H2.out b e.symm hb
  have el : (nI s).length + 1 = (nI s ++ [(r : Int)]).length := by simp
  rw [el]
  refine ⟨rfl, C, fun _ h => h, fun b hb => ?_, ⟨_, Boxed.set _ bx2, ?_, ?_, H1.out, fun g hg hCg => ?_⟩, ?_⟩
  · have := HC.out b hb; simp; omega
  · rw [nI_append]
    exact ownsRow_setCell_other (a := ⟨bc, 0, none⟩) own2 (bx2.not_row (by decide) own2).symm _
  · simp; omega
  · rcases hv2 with e | e
    · rw [e] at hg; exact H2.out g hg hCg
    · rw [e] at hg
      have := Option.some.inj hg
      have := HC.out g hCg
      omega
  · refine ⟨hg2.os, hg2.tape, hg2.output, by simp; omega, fun b hb => ?_⟩
    have hbl := HC.out b hb
    have hbc : b ≠ bc := fun e => H1.out (e ▸ hb)
    rw [Below.heap_setCell _ _ _ _ hbc]
    have := hg2.block b (by simp; omega) (hne b hb)
    rw [this]
    exact Below.heap_alloc _ _ _ hbl
end Go.Proofs.Ytfapnipmgmpgaaa

