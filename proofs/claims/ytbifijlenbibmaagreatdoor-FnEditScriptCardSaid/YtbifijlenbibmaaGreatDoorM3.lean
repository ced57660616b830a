import Derived.Test.YtbifijlenbibmaaGreatDoorM1
import Derived.Maps.Keyed
import Derived.DeepKeys4
import Derived.Test.YtbifijlenbibmaaGreatDoorM2
import Derived.Deep.RegionLaw
import Derived.RangeFuncBox
import Derived.Deep.CutRange
import Derived.Deep.DeepCutAuto
import Derived.WalkArith
import Derived.Deep.OwnRows
import Derived.IntWalk
namespace Go.Proofs.YtbifijlenbibmaaGreatDoor
open Go.RowKit
def keyV (r : GRule) : Value := .agg #[.string r.letter, .int .i64 r.left, .int .i64 r.right]
def KeyOk (r : GRule) : Prop := r.letter.size ≤ 1 ∧ (-9223372036854775808 ≤ r.left ∧ r.left ≤ 9223372036854775807) ∧ (-9223372036854775808 ≤ r.right ∧ r.right ≤ 9223372036854775807)
theorem keyV_inj {r s : GRule} (h : keyV r = keyV s) : r = s := by
  cases r; cases s
  simp [keyV] at h
  obtain ⟨h1, h2, h3⟩ := h
  subst h1 h2 h3; rfl
theorem laidOutP : laidOutB Tryz.prog = true := by kernel_rfl
theorem rowRule : (165 : TypeId) < Tryz.prog.types.size := of_decide_eq_true (by kernel_rfl)
theorem keyTypeRule : Tryz.prog.keyTypeAt 2 165 = true := by kernel_rfl
theorem ruleKey : WideMaps.KeyLaw Tryz.prog 165 := deep_law_laid laidOutP (m := 2) (by omega) rowRule keyTypeRule (by rw [Tryz.underlying165])
theorem cellsRule : Tryz.prog.cellsOf 165 = 3 := by kernel_rfl
theorem formedRule (l : ByteArray) (a b : Int) : (Value.agg #[.string l, .int .i64 a, .int .i64 b]).formed Tryz.prog 165 = true := by simp [Value.formed, Tryz.underlying165, cellsRule]
theorem litsRule (D : Nat) (l : ByteArray) (a b : Int) (hl : l.size ≤ 1) (ha : (Lit.int .i64 a).wf = true) (hb : (Lit.int .i64 b).wf = true) :
    Tryz.prog.keyLits (D + 2) 165 [.string l, .int .i64 a, .int .i64 b] = some [.string l.data.toList, .int .i64 a, .int .i64 b] := by
  have hm : l.size ≤ maxLen := Nat.le_trans hl (by decide)
  have c9 : Tryz.prog.cellsOf 9 = 1 := by kernel_rfl
  have c2 : Tryz.prog.cellsOf 2 = 1 := by kernel_rfl
  simp [cellsRule, Tryz.underlying165, c9, c2, Program.keyLits, Tryz.underlying9, Tryz.underlying2, hm, ha, hb, List.mapM_cons]
theorem keyOf_rule {r : GRule} (h : KeyOk r) : ∃ l, keyOf Tryz.prog 165 (keyV r) = some l := by
  obtain ⟨h1, h2, h3⟩ := h
  have hw1 : (Lit.int .i64 r.left).wf = true := WalkArith.wf_i64 h2
  have hw2 : (Lit.int .i64 r.right).wf = true := WalkArith.wf_i64 h3
  obtain ⟨D, hD⟩ : ∃ D, Tryz.prog.types.size + 1 = D + 2 := ⟨Tryz.prog.types.size - 1, by have h9 : 1 < Tryz.prog.types.size := Nat.lt_of_le_of_lt (by decide) rowRule; omega⟩
  have hk : Tryz.prog.keyType 165 = true := by kernel_rfl
  have hlits := litsRule D r.letter r.left r.right h1 hw1 hw2
  rw [← hD] at hlits
  refine ⟨.string (keyBytes [.string r.letter.data.toList, .int .i64 r.left, .int .i64 r.right]), ?_⟩
  unfold keyOf keyV
  rw [Tryz.underlying165]
  have hc : (Value.agg #[.string r.letter, .int .i64 r.left, .int .i64 r.right]).cells.toList = [.string r.letter, .int .i64 r.left, .int .i64 r.right] := rfl
  show (if (Tryz.prog.keyType 165 && (Value.agg #[.string r.letter, .int .i64 r.left, .int .i64 r.right]).formed Tryz.prog 165) = true then
    (Tryz.prog.keyLits (Tryz.prog.types.size + 1) 165 (Value.agg #[.string r.letter, .int .i64 r.left, .int .i64 r.right]).cells.toList).map fun ls => Lit.string (keyBytes ls) else none) = _
  rw [hk, formedRule, hc, if_pos (show (true && true) = true from rfl), hlits]
  rfl
def RMap (w : World) (b : Nat) (ks : List GRule) : Prop :=
  ∃ es clock, w.heap[b]? = some (.map es clock) ∧ (∀ e ∈ es.toList, ∃ r, KeyOk r ∧ e.key = keyV r ∧ r ∈ ks ∧ e.val = .int .i64 (ks.idxOf r : Nat)) ∧ ∀ r ∈ ks, ∃ e ∈ es.toList, e.key = keyV r
section
variable {w w' : World} {b : Nat} {ks : List GRule} {r : GRule}
theorem RMap.made (w : World) : RMap (w.alloc (.map #[] 0)) w.heap.size [] := ⟨#[], 0, (MapKept.heap_alloc w _).1, by simp, by simp⟩
theorem RMap.lt (h : RMap w b ks) : b < w.heap.size := by
  obtain ⟨es, clock, hb, _⟩ := h
  exact (Array.getElem?_eq_some_iff.1 hb).1
theorem RMap.of_block (h : RMap w b ks) (hb : w'.heap[b]? = w.heap[b]?) : RMap w' b ks := by
  obtain ⟨es, clock, h0, h1, h2⟩ := h
  exact ⟨es, clock, hb.trans h0, h1, h2⟩
theorem RMap.kept {row : Option Nat} (h : RMap w b ks) (hg : w.grownBy w' row) (hne : some b ≠ row) : RMap w' b ks := h.of_block (hg.block b h.lt hne)
theorem RMap.alloc (h : RMap w b ks) (o : Obj) : RMap (w.alloc o) b ks := h.kept (World.grownBy_alloc w o none) (by simp)
theorem RMap.drew (h : RMap w b ks) : RMap w.drew b ks := h
theorem RMap.below {N : Nat} (h : RMap w b ks) (hb : Below N w w') (hlt : b < N) : RMap w' b ks := h.of_block (hb.block b hlt)
theorem RMap.same (h : RMap w b ks) (hr : r ∈ ks) : RMap w b (ks ++ [r]) := by
  obtain ⟨es, clock, h0, h1, h2⟩ := h
  refine ⟨es, clock, h0, fun e he => ?_, fun s hs => ?_⟩
  · obtain ⟨s, a1, a2, a3, a4⟩ := h1 e he
    exact ⟨s, a1, a2, by simp [a3], by rw [List.idxOf_append, if_pos a3]; exact a4⟩
  · rcases List.mem_append.1 hs with hs | hs
    · exact h2 s hs
    · rw [List.mem_singleton] at hs; subst hs; exact h2 s hr
theorem RMap.find (h : RMap w b ks) (hk : KeyOk r) : ∃ es clock, w.heap[b]? = some (.map es clock) ∧ (∀ e ∈ es.toList, ∃ r, KeyOk r ∧ e.key = keyV r ∧ r ∈ ks ∧ e.val = .int .i64 (ks.idxOf r : Nat)) ∧
    ((r ∉ ks ∧ (Instr.findKey 165 (keyV r) es.toList).run Tryz.prog w = .ok none w) ∨ (r ∈ ks ∧ ∃ j, (Instr.findKey 165 (keyV r) es.toList).run Tryz.prog w = .ok (some (j, .int .i64 (ks.idxOf r : Nat))) w)) := by
  obtain ⟨es, clock, h0, h1, h2⟩ := h
  obtain ⟨l, hl⟩ := keyOf_rule hk
  refine ⟨es, clock, h0, h1, ?_⟩
  rcases ruleKey.find w hl es.toList (fun e he => by
    obtain ⟨s, a1, a2, _⟩ := h1 e he
    rw [a2]; exact keyOf_rule a1) with ⟨f1, f2⟩ | ⟨j, e, f1, f2, f3⟩
  · refine .inl ⟨fun hr => ?_, f1⟩
    obtain ⟨e, he, hek⟩ := h2 r hr
    exact f2 e he hek
  · obtain ⟨s, a1, a2, a3, a4⟩ := h1 e (List.mem_of_getElem? f2)
    have : s = r := keyV_inj (a2.symm.trans f3)
    subst this
    exact .inr ⟨a3, j, by rw [← a4]; exact f1⟩
theorem RMap.yes (h : RMap w b ks) (hk : KeyOk r) (hr : r ∈ ks) (c : Bool) :
    (Instr.lookup 284 (.map (some b)) (keyV r) c).run Tryz.prog w = .ok (if c then .tuple #[.int .i64 (ks.idxOf r : Nat), .bool true] else .int .i64 (ks.idxOf r : Nat)) w := by
  obtain ⟨es, clock, h0, h1, h2⟩ := h.find hk
  obtain ⟨l, hl⟩ := keyOf_rule hk
  rcases h2 with ⟨hn, _⟩ | ⟨_, j, hj⟩
  · exact absurd hr hn
  · simp [Instr.lookup, run_underlying Tryz.underlying284, MapKept.run_getObj_map h0, ruleKey.check w _ hl, hj, Result.andThen]
theorem RMap.no (h : RMap w b ks) (hk : KeyOk r) (hr : r ∉ ks) (c : Bool) :
    (Instr.lookup 284 (.map (some b)) (keyV r) c).run Tryz.prog w = .ok (if c then .tuple #[.int .i64 0, .bool false] else .int .i64 0) w := by
  obtain ⟨es, clock, h0, h1, h2⟩ := h.find hk
  obtain ⟨l, hl⟩ := keyOf_rule hk
  have hz : (zeroValue 2).run Tryz.prog w = .ok (.int .i64 0) w := by kernel_rfl
  rcases h2 with ⟨_, hj⟩ | ⟨hy, _⟩
  · simp [Instr.lookup, run_underlying Tryz.underlying284, MapKept.run_getObj_map h0, ruleKey.check w _ hl, hj, hz, Result.andThen]
  · exact absurd hy hr
open Go.ChangeMaps in
theorem RMap.put (h : RMap w b ks) (hk : KeyOk r) (hr : r ∉ ks) :
    ∃ w', (Instr.mapUpdate 284 (.map (some b)) (keyV r) (.int .i64 (ks.length : Nat))).run Tryz.prog w = .ok () w' ∧ RMap w' b (ks ++ [r]) ∧ w.grownBy w' (some b) := by
  have h' := h
  obtain ⟨es0, clock0, g0, g1, g2⟩ := h'
  obtain ⟨es, clock, h0, h1, h2⟩ := h.find hk
  obtain ⟨l, hl⟩ := keyOf_rule hk
  have he : es0 = es ∧ clock0 = clock := by
    rw [g0] at h0
    have := Option.some.inj h0
    exact ⟨by injection this, by injection this⟩
  obtain ⟨rfl, rfl⟩ := he
  rcases h2 with ⟨_, hj⟩ | ⟨hy, _⟩
  · refine ⟨setBlock w b (.map (es0.push ⟨keyV r, .int .i64 (ks.length : Nat), clock0⟩) (clock0 + 1)), ?_, ⟨_, _, heap_setBlock_same g0 _, ?_, ?_⟩, ⟨rfl, rfl, rfl, by simp [setBlock], fun i _ hi => heap_setBlock_other g0 _ (fun e => hi (by rw [e]))⟩⟩
    · simp [Instr.mapUpdate, run_underlying Tryz.underlying284, MapKept.run_getObj_map g0, ruleKey.check w false hl, hj, MapKept.run_setObj_map _ g0, Result.andThen, setBlock]
    · intro e he
      simp only [Array.toList_push, List.mem_append, List.mem_singleton] at he
      rcases he with he | rfl
      · obtain ⟨s, a1, a2, a3, a4⟩ := g1 e he
        exact ⟨s, a1, a2, by simp [a3], by rw [List.idxOf_append, if_pos a3]; exact a4⟩
      · exact ⟨r, hk, rfl, by simp, by rw [List.idxOf_append, if_neg hr]; simp⟩
    · intro s hs
      simp only [Array.toList_push, List.mem_append, List.mem_singleton]
      rcases List.mem_append.1 hs with hs | hs
      · obtain ⟨e, he, hek⟩ := g2 s hs
        exact ⟨e, .inl he, hek⟩
      · rw [List.mem_singleton] at hs; subst hs; exact ⟨_, .inr rfl, rfl⟩
  · exact absurd hy hr
end
def limOut (xs : List GRule) : List GRule := if gramOk xs then xs else []
def limCode (xs : List GRule) : Int := if gramOk xs then 0 else 3
def joinOut (xs ys : List GRule) : List GRule := if gramOk xs && gramOk ys then limOut (joinG xs ys) else []
def joinCode (xs ys : List GRule) : Int := if gramOk xs && gramOk ys then limCode (joinG xs ys) else 1
theorem lens_okRule {xs : List GRule} {ls : List Int} (h : lens xs = some ls) : ∀ (k : Nat) r, xs[k]? = some r → okRule k r = true := by
  intro k r hr
  rcases hk : lens (xs.take k) with _ | out
  · have h2 : lens xs = (xs.drop k).foldl lensStep (lens (xs.take k)) := by unfold lens; rw [← List.foldl_append, List.take_append_drop]
    rw [h2, hk, lens_none] at h; cases h
  · by_cases hok : okRule k r = true
    · exact hok
    · have hlen := lens_length hk
      rw [List.length_take, Nat.min_eq_left (Nat.le_of_lt (List.getElem?_eq_some_iff.1 hr).1)] at hlen
      have hb := lens_bad hk hr (lensStep_none (by rw [hlen]; simpa using hok))
      rw [hb] at h; cases h
theorem gram_lens {xs : List GRule} (h : gramOk xs = true) : xs.length ≤ 400 ∧ ∃ ls, lens xs = some ls := by
  simp only [gramOk, Bool.and_eq_true, decide_eq_true_eq] at h
  exact ⟨h.1, Option.isSome_iff_exists.1 h.2⟩
theorem gram_smallP {xs : List GRule} (h : gramOk xs = true) : SmallP xs := by
  obtain ⟨hl, ls, hls⟩ := gram_lens h
  intro r hr hp
  obtain ⟨k, hk, he⟩ := List.getElem_of_mem hr
  have hok := lens_okRule hls k r (by rw [List.getElem?_eq_getElem hk, he])
  simp [okRule, hp] at hok
  omega
theorem joinG_len {xs ys : List GRule} (h : xs.length ≤ 400) (h' : ys.length ≤ 400) : (joinG xs ys).length ≤ 801 := by
  unfold joinG
  split
  · omega
  · split
    · omega
    · simp; omega
def LimPost (base : Nat) (xs : List GRule) (w : World) (e : Ending) (w' : World) : Prop :=
  Below w.heap.size w w' ∧ ∃ v', OwnRules w' base v' (limOut xs) ∧ e = .returned (.tuple #[.agg #[v'], .int .i64 (limCode xs)])
theorem orLimit_any (base : Nat) (v : Value) (xs : List GRule) (w : World) (h : OwnRules w base v xs) (hn : xs.length ≤ 1099511627776) :
    Calls Tryz.prog 139 #[.agg #[v]] w (LimPost base xs w) := by
  have h1 := fun o o' => (h.sl.below (((Below.refl w.heap.size w).alloc (Nat.le_refl _) o).alloc (by simp) o')).le (B' := ((w.alloc o).alloc o').heap.size) (by simp; omega)
  have hv : v.ownBlock ≠ some (w.heap.size + 1) := fun e => by have := (World.ownsRow.lt h _ e).2; omega
  have H1 := Lib.hid h1
  have H := Lib.hid h
  have Hv := Lib.hid hv
  clear h1 hv
  obtain ⟨A, c, rfl, _⟩ := own_nil h
  clear h
  go_enter Tryz.func139, Tryz.ntmps139
  go_wp2_with fail
  refine (ValidGrammar_any _ _ _ (H1.out _ _) hn).mono ?_
  rintro e w1 ⟨rfl, hb1⟩
  obtain ⟨hc1, hf1⟩ := bcell hb1
  have hz1 : w.heap.size + 1 < w1.heap.size := by have := hb1.size; simp at this; omega
  have hc2 : w1.cell? ⟨w.heap.size + 1, 0, none⟩ = some (.slice none 0 0) := by rw [hc1 _ _ (by simp)]; simp [go_sem]
  have hf2 : w1.frozen? ⟨w.heap.size + 1, 0, none⟩ = false := by rw [hf1 _ _ (by simp)]; simp [go_sem]
  have hc3 : w1.cell? ⟨w.heap.size, 0, none⟩ = some (.slice A xs.length c) := by rw [hc1 _ _ (by simp; omega)]; simp [go_sem]
  have Hb1 := Lib.hid (((Below.refl w.heap.size w).alloc (Nat.le_refl _) (Obj.cells #[Value.slice A xs.length c] 30)).alloc (by simp) (Obj.cells #[Value.slice none 0 0] 30) |>.trans (hb1.mono (by simp; omega)))
  clear hc1 hf1 hb1
  by_cases hok : gramOk xs = true
  · have hok2 : (!gramOk xs) = false := by simp [hok]
    have Hok := Lib.hid hok
    clear hok
    go_wp2
    refine bodyPost_ret (v := .tuple #[.agg #[.slice A xs.length c], .int .i64 0]) (by simp [results, Tryz.results139, go_sem, hc2]) rfl ⟨?_, _, ?_, by rw [limCode, if_pos Hok.out]⟩
    · exact Hb1.out.setCell (by show w.heap.size ≤ w.heap.size + 1; omega) _
    · rw [limOut, if_pos Hok.out]
      refine own_keep (OwnRules.below H.out Hb1.out) fun g hg => Below.heap_setCell _ _ _ _ (fun e => Hv.out ?_)
      rw [hg, e]
  · have hok2 : (!gramOk xs) = true := by simp [hok]
    have Hok := Lib.hid hok
    clear hok
    go_wp2
    refine bodyPost_ret (v := .tuple #[.agg #[.slice none 0 0], .int .i64 3]) (by simp [results, Tryz.results139, go_sem, hc2]) rfl ⟨?_, _, ?_, by rw [limCode, if_neg Hok.out]⟩
    · exact Hb1.out.setCell (by show w.heap.size ≤ w.heap.size + 1; omega) _
    · rw [limOut, if_neg Hok.out]; exact World.ownsRow_nil _ _ _ _
theorem l02Raised_any (r : GRule) (n : Nat) (w : World) (hn : n ≤ 1099511627776) (hp : r.pair = true → -1099511627776 ≤ r.left ∧ r.left ≤ 1099511627776 ∧ -1099511627776 ≤ r.right ∧ r.right ≤ 1099511627776) :
    Calls Tryz.prog 262 #[.agg #[.string r.letter, .int .i64 r.left, .int .i64 r.right], .int .i64 n] w fun e w' => e = .returned (.agg #[.string (raiseR n r).letter, .int .i64 (raiseR n r).left, .int .i64 (raiseR n r).right]) ∧ Below w.heap.size w w' := by
  by_cases hpr : r.pair = true
  · obtain ⟨p1, p2, p3, p4⟩ := hp hpr
    have hemp : r.letter.toList.isEmpty = true := by rw [isEmpty_size]; exact hpr
    have e : raiseR n r = { letter := r.letter, left := r.left + n, right := r.right + n } := by rw [raiseR, if_pos hpr]
    rw [e]
    clear hpr e hp
    go_enter Tryz.func262, Tryz.ntmps262
    go_wp2
    exact bodyPost_ret (v := .agg #[.string r.letter, .int .i64 (r.left + n), .int .i64 (r.right + n)]) (by simp [results, Tryz.results262, go_sem]) rfl ⟨rfl, (by repeat (first | exact (Below.refl _ _) | (refine Below.alloc ?_ (by first | omega | (simp; done) | (simp; omega)) _) | refine below_drewN ?_ _ | refine Below.drew ?_))⟩
  · have hemp : r.letter.toList.isEmpty = false := by rw [isEmpty_size]; simpa [GRule.pair] using hpr
    have e : raiseR n r = r := by rw [raiseR, if_neg hpr]
    rw [e]
    clear hpr e hp
    go_enter Tryz.func262, Tryz.ntmps262
    go_wp2
    exact bodyPost_ret (v := .agg #[.string r.letter, .int .i64 r.left, .int .i64 r.right]) (by simp [results, Tryz.results262, go_sem]) rfl ⟨rfl, (by repeat (first | exact (Below.refl _ _) | (refine Below.alloc ?_ (by first | omega | (simp; done) | (simp; omega)) _) | refine below_drewN ?_ _ | refine Below.drew ?_))⟩
theorem l02Told_any (base : Nat) (v : Value) (xs : List GRule) (w : World) (h : OwnRules w base v xs) (hsm : SmallL xs) :
    Calls Tryz.prog 197 #[.agg #[v]] w (LimPost base xs w) := by
  have h1 := fun o o' => (h.sl.below (((Below.refl w.heap.size w).alloc (Nat.le_refl _) o).alloc (by simp) o')).le (B' := ((w.alloc o).alloc o').heap.size) (by simp; omega)
  have hv : v.ownBlock ≠ some (w.heap.size + 1) := fun e => by have := (World.ownsRow.lt h _ e).2; omega
  have H1 := Lib.hid h1
  have H := Lib.hid h
  have Hv := Lib.hid hv
  clear h1 hv
  obtain ⟨A, c, rfl, _⟩ := own_nil h
  clear h
  go_enter Tryz.func197, Tryz.ntmps197
  go_wp2_with fail
  refine (l02Ok_any _ _ _ _ _ (by simp [go_sem]) (by first | omega | (simp; done) | (simp; omega)) (H1.out _ _) hsm).mono ?_
  rintro e w1 ⟨rfl, hb1⟩
  obtain ⟨hc1, hf1⟩ := bcell hb1
  have hz1 : w.heap.size + 1 < w1.heap.size := by have := hb1.size; simp at this; omega
  have hc2 : w1.cell? ⟨w.heap.size + 1, 0, none⟩ = some (.slice none 0 0) := by rw [hc1 _ _ (by simp)]; simp [go_sem]
  have hf2 : w1.frozen? ⟨w.heap.size + 1, 0, none⟩ = false := by rw [hf1 _ _ (by simp)]; simp [go_sem]
  have hc3 : w1.cell? ⟨w.heap.size, 0, none⟩ = some (.slice A xs.length c) := by rw [hc1 _ _ (by simp; omega)]; simp [go_sem]
  have Hb1 := Lib.hid (((Below.refl w.heap.size w).alloc (Nat.le_refl _) (Obj.cells #[Value.slice A xs.length c] 30)).alloc (by simp) (Obj.cells #[Value.slice none 0 0] 30) |>.trans (hb1.mono (by simp; omega)))
  clear hc1 hf1 hb1
  by_cases hok : gramOk xs = true
  · have hok2 : (!gramOk xs) = false := by simp [hok]
    have Hok := Lib.hid hok
    clear hok
    go_wp2
    refine bodyPost_ret (v := .tuple #[.agg #[.slice A xs.length c], .int .i64 0]) (by simp [results, Tryz.results197, go_sem, hc2]) rfl ⟨?_, _, ?_, by rw [limCode, if_pos Hok.out]⟩
    · exact Hb1.out.setCell (by show w.heap.size ≤ w.heap.size + 1; omega) _
    · rw [limOut, if_pos Hok.out]
      refine own_keep (OwnRules.below H.out Hb1.out) fun g hg => Below.heap_setCell _ _ _ _ (fun e => Hv.out ?_)
      rw [hg, e]
  · have hok2 : (!gramOk xs) = true := by simp [hok]
    have Hok := Lib.hid hok
    clear hok
    go_wp2
    refine bodyPost_ret (v := .tuple #[.agg #[.slice none 0 0], .int .i64 3]) (by simp [results, Tryz.results197, go_sem, hc2]) rfl ⟨?_, _, ?_, by rw [limCode, if_neg Hok.out]⟩
    · exact Hb1.out.setCell (by show w.heap.size ≤ w.heap.size + 1; omega) _
    · rw [limOut, if_neg Hok.out]; exact World.ownsRow_nil _ _ _ _
theorem step_push_rule {W : World} {ops : Array Oper} {o : Oper} {a : Act} {K : Act → World → Prop} {Q : Exit → Act → World → Prop} {E : Prop} (hgd : o.guard = none) (s x : Operand)
    (ho : o.op = .call { callee := .builtin .append, args := #[s, x], argTypes := #[28, 28] }) {t : ByteArray} {p q : Int} {base : Nat} {v : Value} {l : List GRule}
    (hs : a.eval s = v) {N : Nat} (hx : a.eval x = .slice (some ⟨N, 0, none⟩) 1 1) (hN : N = W.heap.size) (hown : OwnRules W base v l) (hlen : l.length ≤ 1099511627775) (hbase : base ≤ W.heap.size)
    (h : ∀ v' w', OwnRules w' base v' (l ++ [⟨t, p, q⟩]) → (W.alloc (.cells #[.string t, .int .i64 p, .int .i64 q] 165)).grownBy w' v.ownBlock → Below base (W.alloc (.cells #[.string t, .int .i64 p, .int .i64 q] 165)) w' → K (a.put o.dst v') w') :
    if Region.wanted o (yielded ops a.tmps) = true then Oper.wp Tryz.prog o a (W.alloc (.cells #[.string t, .int .i64 p, .int .i64 q] 165)) K Q else E := by
  subst hN
  refine step_append_rules (ys := [⟨t, p, q⟩]) (S := fun b => b = W.heap.size) hgd s x ho hs hx (hown.alloc _) ⟨_, 1, rfl, Nat.le_refl _, by simp [maxLen], fun _ => ⟨W.heap.size, 0, rfl, rfl, fun k r hk => ⟨r.cells, rfl, fun j u hu => ?_⟩⟩⟩ (by simp; omega) (by simp; omega) h
  have hk0 : k = 0 := by
    have := (List.getElem?_eq_some_iff.1 hk).1
    simp at this; exact this
  subst hk0
  simp at hk
  subst hk
  have hc : (W.alloc (.cells #[.string t, .int .i64 p, .int .i64 q] 165)).cell? ⟨W.heap.size, j, none⟩ = (#[Value.string t, .int .i64 p, .int .i64 q] : Array Value)[j]? := cell_of_row _ _ _ _ 165 (0, 0) (heap_alloc_new W _)
  simp only [Nat.zero_mul, Nat.zero_add]
  rw [hc]
  simpa [GRule.cells] using hu
theorem Boxed.mk' {w : World} {B : Nat} {t : TypeId} {v : Value} (h : w.heap[B]? = some (.cells #[v] t (0, 0))) : Boxed w.drew B t v := h
theorem Boxed.up {w w' : World} {B N : Nat} {t : TypeId} {v : Value} (h : Boxed w B t v) (hb : Below N w w') (hlt : B < N) : Boxed w' B t v := (hb.block B hlt).trans h
theorem Boxed.grown {w w' : World} {B base e s n : Nat} {t : TypeId} {v : Value} {xs : List Value} {o : Obj} (h : Boxed w B t v) (hte : t ≠ e) (own : w.ownsRow base e s v n xs) (hg : (w.alloc o).grownBy w' v.ownBlock) : Boxed w' B t v := (h.alloc o).kept hg (h.not_row hte own)
set_option maxRecDepth 100000 in
set_option maxHeartbeats 4000000 in
theorem l02Join_any (b o b' o' : Nat) (v u : Value) (xs ys : List GRule) (w : World) (hpt : w.cell? ⟨b, o, none⟩ = some v) (hpt' : w.cell? ⟨b', o', none⟩ = some u) (hbl : b < w.heap.size) (hbl' : b' < w.heap.size)
    (h : Sl RuleE w w.heap.size v xs) (h' : Sl RuleE w w.heap.size u ys) (hn : xs.length ≤ 1048576) (hn' : ys.length ≤ 1048576) (hp : SmallP ys) :
    Calls Tryz.prog 261 #[.pointer (some ⟨b, o, none⟩), .pointer (some ⟨b', o', none⟩)] w (GOwn (joinG xs ys) w) := by
  have h1 := fun o => (h.below ((Below.refl w.heap.size w).alloc (Nat.le_refl _) o)).le (B' := (w.alloc o).heap.size) (by simp)
  have h2 := fun o => (h'.below ((Below.refl w.heap.size w).alloc (Nat.le_refl _) o)).le (B' := (w.alloc o).heap.size) (by simp)
  have H1 := Lib.hid h1
  have H2 := Lib.hid h2
  clear h1 h2
  obtain ⟨A, c, rfl, hc, hm, hrow⟩ := h
  obtain ⟨A', c', rfl, hc', hm', hrow'⟩ := h'
  clear hm hm' hrow
  by_cases h0 : xs.length = 0
  · have hj : joinG xs ys = ys := by rw [joinG, if_pos h0]
    have Hj := Lib.hid hj
    have hb0 : ((xs.length : Int) == 0) = true := by simp [h0]
    have H0 := Lib.hid h0
    clear hj h0
    go_enter Tryz.func261, Tryz.ntmps261
    go_wp2_with fail
    refine (l02Own_any _ _ _ _ _ (by simpa [go_sem, hbl'] using hpt') (by first | omega | (simp; done) | (simp; omega)) (H2.out _) (by omega)).mono ?_
    rintro e w1 ⟨v1, rfl, own1, hb1⟩
    obtain ⟨A1, c1, rfl, _⟩ := own_nil own1
    obtain ⟨hc1, hf1⟩ := bcell hb1
    have hz1 : w.heap.size + 1 ≤ w1.heap.size := by have := hb1.size; simp at this; omega
    have Hown := Lib.hid own1
    have Hb1 := Lib.hid hb1
    clear own1 hb1
    go_wp2
    refine bodyPost_ret (v := .agg #[.slice A1 ys.length c1]) (by simp [results, Tryz.results261, go_sem, hc1]) rfl ⟨?_, _, ?_, rfl⟩
    · exact (((Below.refl _ _).alloc (Nat.le_refl _) _).trans (Hb1.out.mono (by simp))).setCell (by show w.heap.size ≤ w.heap.size; omega) _
    · rw [Hj.out]
      have h4 : w1.ownsRow (w.heap.size + 1) 165 3 (.slice A1 ys.length c1) ys.length (ys.flatMap GRule.cells) := ownsRow_more Hown.out (by simp)
      exact ownsRow_more (ownsRow_setCell_below h4 (by show w.heap.size < w.heap.size + 1; omega) _) (by omega)
  · have hb0 : ((xs.length : Int) == 0) = false := by rw [beq_eq_false_iff_ne]; omega
    by_cases h0' : ys.length = 0
    · have hj : joinG xs ys = xs := by rw [joinG, if_neg h0, if_pos h0']
      have Hj := Lib.hid hj
      have hb0' : ((ys.length : Int) == 0) = true := by simp [h0']
      have H0 := Lib.hid h0
      have H0' := Lib.hid h0'
      clear hj h0 h0'
      go_enter Tryz.func261, Tryz.ntmps261
      go_wp2_with fail
      refine (l02Own_any _ _ _ _ _ (by simpa [go_sem, hbl] using hpt) (by first | omega | (simp; done) | (simp; omega)) (H1.out _) (by omega)).mono ?_
      rintro e w1 ⟨v1, rfl, own1, hb1⟩
      obtain ⟨A1, c1, rfl, _⟩ := own_nil own1
      obtain ⟨hc1, hf1⟩ := bcell hb1
      have hz1 : w.heap.size + 1 ≤ w1.heap.size := by have := hb1.size; simp at this; omega
      have hpt1 : w1.cell? ⟨b, o, none⟩ = some (.slice A xs.length c) := by rw [hb1.cell (by first | omega | (simp; done) | (simp; omega))]; simpa [go_sem, hbl] using hpt
      have hpt1' : w1.cell? ⟨b', o', none⟩ = some (.slice A' ys.length c') := by rw [hb1.cell (by first | omega | (simp; done) | (simp; omega))]; simpa [go_sem, hbl'] using hpt'
      have hcr1 : w1.cell? ⟨w.heap.size, 0, none⟩ = some (.slice none 0 0) := by rw [hc1 _ _ (by simp)]; simp [go_sem]
      have hfr1 : w1.frozen? ⟨w.heap.size, 0, none⟩ = false := by rw [hf1 _ _ (by simp)]; simp [go_sem]
      have hlb : b < w1.heap.size := by omega
      have hlb' : b' < w1.heap.size := by omega
      have hlr : w.heap.size < w1.heap.size := by omega
      have Hown := Lib.hid own1
      have Hb1 := Lib.hid hb1
      clear own1 hb1 hc1 hf1
      go_wp2
      refine bodyPost_ret (v := .agg #[.slice A1 xs.length c1]) (by simp [results, Tryz.results261, go_sem, hcr1, hlr]) rfl ⟨?_, _, ?_, rfl⟩
      · refine Below.alloc (Below.setCell (((Below.refl _ _).alloc (Nat.le_refl _) _).trans (Hb1.out.mono (by simp))) ?_ _) ?_ _
        · exact Nat.le_refl _
        · simp; omega
      · rw [Hj.out]
        have h4 : w1.ownsRow (w.heap.size + 1) 165 3 (.slice A1 xs.length c1) xs.length (xs.flatMap GRule.cells) := ownsRow_more Hown.out (by simp)
        exact ownsRow_more (World.ownsRow.alloc (ownsRow_setCell_below (a := ⟨w.heap.size, 0, none⟩) h4 (by show w.heap.size < w.heap.size + 1; omega) _) _) (by omega)
    · have hb0' : ((ys.length : Int) == 0) = false := by rw [beq_eq_false_iff_ne]; omega
      have hj : joinG xs ys = xs ++ ys.map (raiseR xs.length) ++ [pairR ((xs.length : Int) - 1) ((xs.length : Int) + ys.length - 1)] := by rw [joinG, if_neg h0, if_neg h0']
      have Hj := Lib.hid hj
      have hx1 : 1 ≤ xs.length := by omega
      have hy1 : 1 ≤ ys.length := by omega
      have Hp := Lib.hid hp
      clear hj h0 h0' hp
      go_enter Tryz.func261, Tryz.ntmps261
      go_wp2_with fail
      refine (l02Own_any _ _ _ _ _ (by simpa [go_sem, hbl] using hpt) (by first | omega | (simp; done) | (simp; omega)) (H1.out _) (by omega)).mono ?_
      rintro e w1 ⟨v1, rfl, own1, hb1⟩
      have z1 : w.heap.size + 1 ≤ w1.heap.size := by have := hb1.size; simp at this; omega
      have Hb1 : Hid (Below (w.heap.size + 1) (w.alloc (Obj.cells #[Value.slice none 0 0] 30)) w1) := hb1.mono (by simp)
      have hpt1 : w1.cell? ⟨b, o, none⟩ = some (.slice A xs.length c) := by rw [hb1.cell (by first | omega | (simp; done) | (simp; omega))]; simpa [go_sem, hbl] using hpt
      have hpt1' : w1.cell? ⟨b', o', none⟩ = some (.slice A' ys.length c') := by rw [hb1.cell (by first | omega | (simp; done) | (simp; omega))]; simpa [go_sem, hbl'] using hpt'
      have own1' : OwnRules w1 (w.heap.size + 1) v1 xs := ownsRow_more own1 (by simp)
      obtain ⟨A1, c1, rfl, _⟩ := own_nil own1'
      have Hown1 := Lib.hid own1'
      have hlb : b < w1.heap.size := by omega
      have hlb' : b' < w1.heap.size := by omega
      have Hrow := Lib.hid hrow'
      clear own1 own1' hb1 hrow'
      go_wp2_with fail
      go_loopw [7] (fun i wr => ∃ (k : Nat) (vo : Value), k ≤ ys.length ∧ i = .int .i64 k ∧ Below (w.heap.size + 1) (w.alloc (Obj.cells #[Value.slice none 0 0] 30)) wr ∧ wr.heap[w1.heap.size]? = some (Obj.cells #[vo] 30 (0, 0)) ∧ OwnRules wr (w.heap.size + 1) vo (xs ++ (ys.take k).map (raiseR xs.length))) (fun i _ => ys.length - (intOf i).toNat)
      case atStart => exact ⟨0, _, Nat.zero_le _, rfl, Hb1.out.alloc (by omega) _, alloc_heap_last _ _, by have := Hown1.out.alloc (Obj.cells #[Value.slice A1 xs.length c1] 30); simpa using this⟩
      case round =>
        obtain ⟨k, vo, hk, rfl, hb, hbox, hown⟩ := hrel
        have hcb : wr.cell? ⟨w1.heap.size, 0, none⟩ = some vo := by simp [World.cell?, hbox]
        have hfb : wr.frozen? ⟨w1.heap.size, 0, none⟩ = false := by simp [World.frozen?, hbox]
        have hszr : w1.heap.size < wr.heap.size := (Array.getElem?_eq_some_iff.1 hbox).1
        have hptr : wr.cell? ⟨b, o, none⟩ = some (.slice A xs.length c) := by rw [hb.cell (p := ⟨b, o, none⟩) (by show b < w.heap.size + 1; omega)]; simpa [go_sem, hbl] using hpt
        have hptr' : wr.cell? ⟨b', o', none⟩ = some (.slice A' ys.length c') := by rw [hb.cell (p := ⟨b', o', none⟩) (by show b' < w.heap.size + 1; omega)]; simpa [go_sem, hbl'] using hpt'
        have Hbox := Lib.hid hbox
        have Hown := Lib.hid hown
        have Hb := Lib.hid hb
        by_cases hlt : k < ys.length
        · obtain ⟨b2, o2, rfl, hbl2, hcell⟩ := Hrow.out.rule hlt
          obtain ⟨r, hr⟩ : ∃ x, ys[k]? = some x := ⟨_, List.getElem?_eq_getElem hlt⟩
          obtain ⟨g0, g1, g2⟩ := hcell k r hr
          have hbw : Below w.heap.size w wr := ((Below.refl _ _).alloc (Nat.le_refl _) _).trans (hb.mono (by omega))
          have hc0 := (hbw.cell (p := ⟨b2, o2 + k * 3, none⟩) hbl2).trans g0
          have hc1 := (hbw.cell (p := ⟨b2, o2 + k * 3 + 1, none⟩) hbl2).trans g1
          have hc2 := (hbw.cell (p := ⟨b2, o2 + k * 3 + 2, none⟩) hbl2).trans g2
          have hi : (k : Int) < (ys.length : Int) := by omega
          have hpr := Hp.out r (List.mem_of_getElem? hr)
          have Hpr := Lib.hid hpr
          have Hr := Lib.hid hr
          have hb2l : b2 < wr.heap.size := by omega
          have hbl3 : b' < wr.heap.size := by omega
          have hbl4 : b < wr.heap.size := by omega
          obtain ⟨L, hL⟩ : ∃ L, L = xs ++ (ys.take k).map (raiseR xs.length) := ⟨_, rfl⟩
          rw [← hL] at hown
          have hlk : L.length = xs.length + k := by rw [hL]; simp; omega
          have Hll : Hid (L.length ≤ 1099511627775) := by rw [Hid]; omega
          have Hnx : Hid (xs ++ (ys.take (k + 1)).map (raiseR xs.length) = L ++ [raiseR xs.length r]) := by rw [Hid, List.take_add_one, hr, List.map_append, ← List.append_assoc, ← hL]; rfl
          have Hown := Lib.hid hown
          clear hbox hown hb hcell g0 g1 g2 hbw hr hpr hpt hpt' hpt1 hpt1' hL hlk
          go_wp2_with fail
          go_region_law (first
            | (refine step_push_rule (base := w.heap.size + 1) (by rfl) _ _ (by rfl) (by rfl) (by first | rfl | simp) rfl (OwnRules.below Hown.out.drew hb2) Hll.out (by omega) ?_; intro v3 w3 own3 hg3 hb3; have bx3 : Boxed w3 w1.heap.size 30 vo := Boxed.grown (Boxed.up (Boxed.mk' Hbox.out) hb2 hszr) (by decide) (OwnRules.below Hown.out.drew hb2) hg3; obtain ⟨A3, c3, rfl, _⟩ := own_nil own3; have hcb3 := bx3.cell; have hfb3 := bx3.frozen)
            | (go_simp; go_at_call 262; refine (l02Raised_any r xs.length _ (by omega) Hpr.out).mono ?_; rintro e w2 ⟨rfl, hb2⟩; obtain ⟨hcc2, hff2⟩ := bcell hb2; have bx2 := Boxed.up (Boxed.mk' Hbox.out) hb2 hszr; have hcb2 := bx2.cell; have hfb2 := bx2.frozen; have hlb2 := bx2.lt; have hlb3 : b < w2.heap.size := (by omega); have hlb3' : b' < w2.heap.size := (by omega); have hlb4 : b2 < w2.heap.size := (by omega)))
          all_goals
            clear hcc2 hff2 hcb2 hfb2
            go_wp2
            go_roundw
            case rel =>
              refine ⟨k + 1, _, by omega, by go_num, ?_, Boxed.set _ bx3, ?_⟩
              · exact (((Below.drew Hb.out).trans (hb2.mono (by show w.heap.size + 1 ≤ wr.heap.size; omega))).alloc (by omega) _ |>.trans hb3).setCell (by show w.heap.size + 1 ≤ w1.heap.size; omega) _
              · have e9 : (L ++ [raiseR xs.length r]).length = L.length + 1 := by simp
                have own9 : OwnRules w3 (w.heap.size + 1) (.slice A3 (L.length + 1) c3) (L ++ [raiseR xs.length r]) := by rw [← e9]; exact own3
                rw [Hnx.out]; exact ownsRow_setCell_other (a := ⟨w1.heap.size, 0, none⟩) own9 (bx3.not_row (by decide) own9).symm _
            case measure => simp [intOf]; omega
        · have hkn : k = ys.length := by omega
          subst hkn
          rw [List.take_length] at hown
          obtain ⟨L, hL⟩ : ∃ L, L = xs ++ ys.map (raiseR xs.length) := ⟨_, rfl⟩
          rw [← hL] at hown
          have hlk : L.length = xs.length + ys.length := by rw [hL]; simp
          have Hll : Hid (L.length ≤ 1099511627775) := by rw [Hid]; omega
          have HL := Lib.hid hL
          have Hown := Lib.hid hown
          have hw1 : IntKind.i64.wrap ((xs.length : Int) - 1) = (xs.length : Int) - 1 := IntWalk.i64_in _ (by omega)
          have hw2 : IntKind.i64.wrap ((xs.length : Int) + ys.length) = (xs.length : Int) + ys.length := IntWalk.i64_in _ (by omega)
          have hw3 : IntKind.i64.wrap ((xs.length : Int) + ys.length - 1) = (xs.length : Int) + ys.length - 1 := IntWalk.i64_in _ (by omega)
          clear hbox hown hb hpt hpt' hpt1 hpt1' hL
          go_wp2_with fail
          go_region_law (first
            | (refine step_push_rule (base := w.heap.size + 1) (by rfl) _ _ (by rfl) (by rfl) (by first | rfl | simp) rfl Hown.out.drew Hll.out (by show w.heap.size + 1 ≤ wr.heap.size; omega) ?_; intro v3 w3 own3 hg3 hb3; have bx3 : Boxed w3 w1.heap.size 30 vo := Boxed.grown (Boxed.mk' Hbox.out) (by decide) Hown.out.drew hg3; obtain ⟨A3, c3, rfl, _⟩ := own_nil own3; have hcb3 := bx3.cell; have hfb3 := bx3.frozen; have hl3 := bx3.lt))
          all_goals
            try rw [hw2] at own3
            try rw [hw1, hw3] at own3
            have hb9 := (((Below.drew Hb.out)).alloc (by show w.heap.size + 1 ≤ wr.heap.size; omega) _).trans hb3
            obtain ⟨hc9, hf9⟩ := bcell hb9
            have hcr : w3.cell? ⟨w.heap.size, 0, none⟩ = some (.slice none 0 0) := by rw [hc9 _ _ (by omega)]; simp [go_sem]
            have hfr : w3.frozen? ⟨w.heap.size, 0, none⟩ = false := by rw [hf9 _ _ (by omega)]; simp [go_sem]
            have e9 : (L ++ [pairR ((xs.length : Int) - 1) ((xs.length : Int) + ys.length - 1)]).length = xs.length + ys.length + 1 := by simp [hlk]
            have Own9 : Hid (OwnRules w3 (w.heap.size + 1) (.slice A3 (xs.length + ys.length + 1) c3) (L ++ [pairR ((xs.length : Int) - 1) ((xs.length : Int) + ys.length - 1)])) := by rw [Hid, ← e9]; exact own3
            have Hb9 := Lib.hid hb9
            have Hbx3 := Lib.hid bx3
            have hne : w.heap.size ≠ w1.heap.size := by omega
            have hl9 : w.heap.size < w3.heap.size := by omega
            clear hc9 hf9 hb9 own3 hg3 hb3 bx3 hlk
            go_wp2
            refine bodyPost_ret (v := .agg #[.slice A3 (xs.length + ys.length + 1) c3]) (by simp [results, Tryz.results261, go_sem, hcr]) rfl ⟨?_, _, ?_, rfl⟩
            · exact ((((Below.refl _ _).alloc (Nat.le_refl _) _).trans (Hb9.out.mono (by omega))).setCell (by show w.heap.size ≤ w1.heap.size; omega) _).setCell (by show w.heap.size ≤ w.heap.size; omega) _
            · rw [Hj.out, ← HL.out]
              unfold OwnRules
              rw [e9]
              have h5 := Own9.out
              unfold OwnRules at h5
              rw [e9] at h5
              have h6 := ownsRow_setCell_other (a := ⟨w1.heap.size, 0, none⟩) h5 (Hbx3.out.not_row (by decide) h5).symm (.slice A3 (xs.length + ys.length + 1) c3)
              have h7 := ownsRow_setCell_below (a := ⟨w.heap.size, 0, none⟩) h6 (by show w.heap.size < w.heap.size + 1; omega) (.slice A3 (xs.length + ys.length + 1) c3)
              exact ownsRow_more h7 (by omega)
theorem list_push_rule {W : World} {ops : Array Oper} {rest : List Oper} {o : Oper} {a : Act} {Q : Exit → Act → World → Prop} (hgd : o.guard = none) (s x : Operand)
    (ho : o.op = .call { callee := .builtin .append, args := #[s, x], argTypes := #[28, 28] }) {t : ByteArray} {p q : Int} {base : Nat} {v : Value} {l : List GRule}
    (hs : a.eval s = v) {N : Nat} (hx : a.eval x = .slice (some ⟨N, 0, none⟩) 1 1) (hN : N = W.heap.size) (hown : OwnRules W base v l) (hlen : l.length ≤ 1099511627775) (hbase : base ≤ W.heap.size)
    (h : ∀ v' w', OwnRules w' base v' (l ++ [⟨t, p, q⟩]) → (W.alloc (.cells #[.string t, .int .i64 p, .int .i64 q] 165)).grownBy w' v.ownBlock → Below base (W.alloc (.cells #[.string t, .int .i64 p, .int .i64 q] 165)) w' → wpList Tryz.prog ops Q rest (a.put o.dst v') w') :
    wpList Tryz.prog ops Q (o :: rest) a (W.alloc (.cells #[.string t, .int .i64 p, .int .i64 q] 165)) :=
  wpList_plain hgd fun K hK => by
    have := step_push_rule (E := True) (K := K) (ops := ops) (Q := Q) hgd s x ho hs hx hN hown hlen hbase (fun v' w' h1 h2 h3 => hK _ _ (h v' w' h1 h2 h3))
    rwa [if_pos (by simp [Region.wanted, hgd])] at this
theorem own_put {w5 : World} {K base n c5 : Nat} {A5 : Option Addr} {L M : List GRule} {vo : Value} (bx : Boxed w5 K 30 vo) (own : OwnRules w5 base (.slice A5 L.length c5) L) (hM : L = M) (hn : M.length = n) :
    OwnRules (w5.setCell ⟨K, 0, none⟩ (.slice A5 n c5)) base (.slice A5 n c5) M := by
  subst hM; subst hn; exact ownsRow_setCell_other (a := ⟨K, 0, none⟩) own (bx.not_row (by decide) own).symm _
theorem pairI64_any (a b : Int) (w : World) :
    Calls Tryz.prog 224 #[.int .i64 a, .int .i64 b] w fun e w' => e = .returned (.agg #[.string ⟨#[]⟩, .int .i64 a, .int .i64 b]) ∧ Below w.heap.size w w' := by
  go_enter Tryz.func224, Tryz.ntmps224
  go_wp2
  exact bodyPost_ret (v := .agg #[.string ⟨#[]⟩, .int .i64 a, .int .i64 b]) (by simp [results, Tryz.results224, go_sem]) rfl ⟨rfl, (by repeat (first | exact (Below.refl _ _) | (refine Below.alloc ?_ (by first | omega | (simp; done) | (simp; omega)) _) | refine below_drewN ?_ _ | refine Below.drew ?_))⟩
def Cells3 (w : World) (B : Nat) (r : GRule) : Prop := w.cell? ⟨B, 0, none⟩ = some (.string r.letter) ∧ w.cell? ⟨B, 1, none⟩ = some (.int .i64 r.left) ∧ w.cell? ⟨B, 2, none⟩ = some (.int .i64 r.right) ∧ B < w.heap.size
theorem Cells3.below {w w' : World} {B N : Nat} {r : GRule} (h : Cells3 w B r) (hb : Below N w w') (hlt : B < N) : Cells3 w' B r :=
  ⟨(hb.cell (p := ⟨B, 0, none⟩) hlt).trans h.1, (hb.cell (p := ⟨B, 1, none⟩) hlt).trans h.2.1, (hb.cell (p := ⟨B, 2, none⟩) hlt).trans h.2.2.1, Nat.lt_of_lt_of_le h.2.2.2 hb.size⟩
theorem Cells3.kept {w w' : World} {B : Nat} {r : GRule} {row : Option Nat} (h : Cells3 w B r) (hg : w.grownBy w' row) (hne : some B ≠ row) : Cells3 w' B r :=
  ⟨(World.cell?_of_block (a := ⟨B, 0, none⟩) (hg.block B h.2.2.2 hne)).trans h.1, (World.cell?_of_block (a := ⟨B, 1, none⟩) (hg.block B h.2.2.2 hne)).trans h.2.1, (World.cell?_of_block (a := ⟨B, 2, none⟩) (hg.block B h.2.2.2 hne)).trans h.2.2.1, Nat.lt_of_lt_of_le h.2.2.2 hg.size⟩
theorem okRule_key {k : Nat} {r : GRule} (h : okRule k r = true) (hk : k ≤ 1099511627776) : KeyOk r := by
  cases hp : r.pair with
  | true =>
    have := okRule_at h hp
    exact ⟨okRule_small h, by omega, by omega⟩
  | false =>
    obtain ⟨h1, h2, h3⟩ := okRule_let h hp
    exact ⟨okRule_small h, by omega, by omega⟩
theorem step_push_ruleC {W : World} {ops : Array Oper} {o : Oper} {a : Act} {K : Act → World → Prop} {Q : Exit → Act → World → Prop} {E : Prop} (hgd : o.guard = none) (s x : Operand)
    (ho : o.op = .call { callee := .builtin .append, args := #[s, x], argTypes := #[28, 28] }) {r : GRule} {base : Nat} {v : Value} {l : List GRule}
    (hs : a.eval s = v) {N : Nat} (hx : a.eval x = .slice (some ⟨N, 0, none⟩) 1 1) (hc : Cells3 W N r) (hown : OwnRules W base v l) (hlen : l.length ≤ 1099511627775) (hbase : base ≤ W.heap.size)
    (h : ∀ v' w', OwnRules w' base v' (l ++ [r]) → W.grownBy w' v.ownBlock → (v'.ownBlock = v.ownBlock ∨ v'.ownBlock = some W.heap.size) → K (a.put o.dst v') w') :
    if Region.wanted o (yielded ops a.tmps) = true then Oper.wp Tryz.prog o a W K Q else E := by
  have hw : Region.wanted o (yielded ops a.tmps) = true := by simp [Region.wanted, hgd]
  rw [if_pos hw]
  obtain ⟨i0, hi0, hz0, hz1, hz2⟩ := info_parts Tryz.infoR
  obtain ⟨v', w', hrun, h2, h3, _, h5⟩ := run_append_own_at (P := Tryz.prog) W base 28 o.type 165 i0 _ 3 32 Tryz.underlying28 hi0 hz0 hz1 hz2 rfl (by decide) v _ _ hown ⟨N, 0, none⟩ 1 1 r.cells rfl
    (fun j u hu => by
      obtain ⟨c0, c1, c2, _⟩ := hc
      match j, hu with
      | 0, hu => simp [GRule.cells] at hu; subst hu; simpa [Addr.add] using c0
      | 1, hu => simp [GRule.cells] at hu; subst hu; simpa [Addr.add] using c1
      | 2, hu => simp [GRule.cells] at hu; subst hu; simpa [Addr.add] using c2
      | j + 3, hu => simp [GRule.cells] at hu) (by simp [GRule.cells, Value.oneCell']) (by simp only [maxLen]; omega) (by omega) hbase
  unfold Oper.wp execOp
  simp only [ho, resolve, invoke, builtin, Sem.run_bind, Sem.run_pure, Result.andThen_ok, List.map_toArray, List.map_cons, List.map_nil, hs, hx, hrun]
  exact h v' w' (by unfold OwnRules; simpa using h2) h3 h5
theorem keptc {W w' : World} {row : Option Nat} {N o : Nat} {u : Value} (hg : W.grownBy w' row) (hc : W.cell? ⟨N, o, none⟩ = some u) (hlt : N < W.heap.size) (hne : some N ≠ row) : w'.cell? ⟨N, o, none⟩ = some u :=
  (World.cell?_of_block (a := ⟨N, o, none⟩) (hg.block N hlt hne)).trans hc
theorem own_block {w : World} {base e s n : Nat} {v : Value} {xs : List Value} (h : w.ownsRow base e s v n xs) {g : Nat} (hg : v.ownBlock = some g) : ∃ cur, w.heap[g]? = some (.cells cur e (0, 0)) := by
  rcases h.2 with ⟨rfl, _⟩ | ⟨g', cap, cur, rfl, _, hb, _⟩
  · cases hg
  · have : g' = g := by simpa [Value.ownBlock] using hg
    subst this; exact ⟨cur, hb⟩
theorem own_apart {w : World} {base base' e e' s s' n n' : Nat} {v v' : Value} {xs xs' : List Value} (h : w.ownsRow base e s v n xs) (h' : w.ownsRow base' e' s' v' n' xs') (hne : e ≠ e') : ∀ g, v.ownBlock = some g → some g ≠ v'.ownBlock := fun g hg hg' => by
  obtain ⟨c1, h1⟩ := own_block h hg
  obtain ⟨c2, h2⟩ := own_block h' hg'.symm
  rw [h1] at h2
  have := Option.some.inj h2
  injection this with _ h3; exact hne h3
theorem rmap_apart {w : World} {b base e s n : Nat} {v : Value} {xs : List Value} {ks : List GRule} (h : RMap w b ks) (h' : w.ownsRow base e s v n xs) : some b ≠ v.ownBlock := fun hb => by
  obtain ⟨c, h1⟩ := own_block h' hb.symm
  obtain ⟨es, clock, h2, _⟩ := h
  rw [h1] at h2; cases h2
structure T3 (w0 : World) (base bm bx : Nat) (X : GRule) (ks : List GRule) (W : World) (v4 : Value) (K : List GRule) (v6 : Value) (S : List Int) : Prop where
  below : Below base w0 W
  rows : OwnRules W base v4 K
  ints : OwnInts W base v6 S
  mp : RMap W bm ks
  box : Cells3 W bx X
  bxR : some bx ≠ v4.ownBlock
  bxI : some bx ≠ v6.ownBlock
  lb : base ≤ W.heap.size
section
variable {w0 W : World} {base bm bx : Nat} {X : GRule} {ks K : List GRule} {v4 v6 : Value} {S : List Int}
theorem T3.alloc (h : T3 w0 base bm bx X ks W v4 K v6 S) (o : Obj) : T3 w0 base bm bx X ks (W.alloc o) v4 K v6 S :=
  ⟨h.below.alloc h.lb _, h.rows.alloc _, h.ints.alloc _, h.mp.alloc _, h.box.below ((Below.refl W.heap.size W).alloc (Nat.le_refl _) o) h.box.2.2.2, h.bxR, h.bxI, by have := h.lb; simp; omega⟩
theorem T3.drew (h : T3 w0 base bm bx X ks W v4 K v6 S) : T3 w0 base bm bx X ks W.drew v4 K v6 S :=
  ⟨Below.drew h.below, h.rows, h.ints, h.mp, h.box, h.bxR, h.bxI, h.lb⟩
theorem T3.pushR (h : T3 w0 base bm bx X ks W v4 K v6 S) {w' : World} {v' : Value} {L : List GRule} (h1 : OwnRules w' base v' L) (hg : W.grownBy w' v4.ownBlock) (hv : v'.ownBlock = v4.ownBlock ∨ v'.ownBlock = some W.heap.size) : T3 w0 base bm bx X ks w' v' L v6 S :=
  ⟨h.below.grown hg h.lb (fun g hgg => (World.ownsRow.lt h.rows g hgg).1), h1, own_keep h.ints fun g hgg => hg.block g (World.ownsRow.lt h.ints g hgg).2 (own_apart h.ints h.rows (by decide) g hgg), h.mp.kept hg (rmap_apart h.mp h.rows), h.box.kept hg h.bxR,
    by rcases hv with e | e
       · rw [e]; exact h.bxR
       · rw [e]; intro e'; have := h.box.2.2.2; have : bx = W.heap.size := Option.some.inj e'; omega, h.bxI, Nat.le_trans h.lb hg.size⟩
theorem T3.pushI (h : T3 w0 base bm bx X ks W v4 K v6 S) {w' : World} {v' : Value} {L : List Int} (h1 : OwnInts w' base v' L) (hg : W.grownBy w' v6.ownBlock) (hv : v'.ownBlock = v6.ownBlock ∨ v'.ownBlock = some W.heap.size) : T3 w0 base bm bx X ks w' v4 K v' L :=
  ⟨h.below.grown hg h.lb (fun g hgg => (World.ownsRow.lt h.ints g hgg).1), own_keep h.rows fun g hgg => hg.block g (World.ownsRow.lt h.rows g hgg).2 (own_apart h.rows h.ints (by decide) g hgg), h1, h.mp.kept hg (rmap_apart h.mp h.ints), h.box.kept hg h.bxI, h.bxR,
    by rcases hv with e | e
       · rw [e]; exact h.bxI
       · rw [e]; intro e'; have := h.box.2.2.2; have : bx = W.heap.size := Option.some.inj e'; omega, Nat.le_trans h.lb hg.size⟩
theorem step_T3R {ops : Array Oper} {o : Oper} {a : Act} {KK : Act → World → Prop} {Q : Exit → Act → World → Prop} {E : Prop} (hgd : o.guard = none) (s x : Operand)
    (ho : o.op = .call { callee := .builtin .append, args := #[s, x], argTypes := #[28, 28] }) {r : GRule} {N : Nat}
    (hs : a.eval s = v4) (hx : a.eval x = .slice (some ⟨N, 0, none⟩) 1 1) (T : T3 w0 base bm bx X ks W v4 K v6 S) (hc : Cells3 W N r) (hlen : K.length ≤ 1099511627775)
    (h : ∀ v' w', T3 w0 base bm bx X ks w' v' (K ++ [r]) v6 S → W.grownBy w' v4.ownBlock → KK (a.put o.dst v') w') :
    if Region.wanted o (yielded ops a.tmps) = true then Oper.wp Tryz.prog o a W KK Q else E :=
  step_push_ruleC hgd s x ho hs hx hc T.rows hlen T.lb fun v' w' h1 h2 h3 => h v' w' (T.pushR h1 h2 h3) h2
theorem step_T3I {ops : Array Oper} {o : Oper} {a : Act} {KK : Act → World → Prop} {Q : Exit → Act → World → Prop} {E : Prop} (hgd : o.guard = none) (s x : Operand)
    (ho : o.op = .call { callee := .builtin .append, args := #[s, x], argTypes := #[134, 134] }) {y : Int} {N : Nat}
    (hs : a.eval s = v6) (hx : a.eval x = .slice (some ⟨N, 0, none⟩) 1 1) (T : T3 w0 base bm bx X ks W v4 K v6 S) (hc : W.cell? ⟨N, 0, none⟩ = some (.int .i64 y)) (hlen : S.length ≤ 1099511627775)
    (h : ∀ v' w', T3 w0 base bm bx X ks w' v4 K v' (S ++ [y]) → W.grownBy w' v6.ownBlock → KK (a.put o.dst v') w') :
    if Region.wanted o (yielded ops a.tmps) = true then Oper.wp Tryz.prog o a W KK Q else E :=
  step_push_int hgd s x ho hs hx hc T.ints (by omega) T.lb fun v' w' h1 h2 h3 => h v' w' (T.pushI h1 h2 h3) h2
end
theorem Cells3.new {W : World} {N : Nat} {r : GRule} (hN : N = W.heap.size) : Cells3 (W.alloc (.cells #[.string r.letter, .int .i64 r.left, .int .i64 r.right] 165)) N r := by
  subst hN
  refine ⟨?_, ?_, ?_, by simp⟩ <;> simp [go_sem]
theorem Cells3.alloc {W : World} {N : Nat} {r : GRule} (h : Cells3 W N r) (o : Obj) : Cells3 (W.alloc o) N r := h.below ((Below.refl W.heap.size W).alloc (Nat.le_refl _) o) h.2.2.2
theorem Cells3.drew {W : World} {N : Nat} {r : GRule} (h : Cells3 W N r) : Cells3 W.drew N r := h
def Cell1 (w : World) (B : Nat) (q : Int) : Prop := w.cell? ⟨B, 0, none⟩ = some (.int .i64 q) ∧ B < w.heap.size
theorem Cell1.new {W : World} {N : Nat} {q : Int} (hN : N = W.heap.size) : Cell1 (W.alloc (.cells #[.int .i64 q] 2)) N q := by
  subst hN
  exact ⟨by simp [go_sem], by simp⟩
theorem Cell1.alloc {W : World} {N : Nat} {q : Int} (h : Cell1 W N q) (o : Obj) : Cell1 (W.alloc o) N q :=
  ⟨(((Below.refl W.heap.size W).alloc (Nat.le_refl _) o).cell (p := ⟨N, 0, none⟩) h.2).trans h.1, by have := h.2; simp; omega⟩
theorem Cell1.drew {W : World} {N : Nat} {q : Int} (h : Cell1 W N q) : Cell1 W.drew N q := h
theorem Cell1.kept {w w' : World} {B : Nat} {q : Int} {row : Option Nat} (h : Cell1 w B q) (hg : w.grownBy w' row) (hne : some B ≠ row) : Cell1 w' B q := ⟨keptc hg h.1 h.2 hne, Nat.lt_of_lt_of_le h.2 hg.size⟩
theorem own_far {w : World} {base e s n : Nat} {v : Value} {xs : List Value} (h : w.ownsRow base e s v n xs) {N : Nat} (hN : w.heap.size ≤ N) : some N ≠ v.ownBlock := fun e => by
  have := (World.ownsRow.lt h N e.symm).2; omega
theorem T3.look {w0 W : World} {base bm bx : Nat} {X : GRule} {ks K : List GRule} {v4 v6 : Value} {S : List Int} (h : T3 w0 base bm bx X ks W v4 K v6 S) {r : GRule} (hk : KeyOk r) (hr : r ∈ ks) :
    (Instr.lookup 284 (.map (some bm)) (.agg #[.string r.letter, .int .i64 r.left, .int .i64 r.right]) false).run Tryz.prog W = .ok (.int .i64 (ks.idxOf r : Nat)) W := h.mp.yes hk hr false
def RowB (w : World) (b : Nat) (N : List Bool) : Prop := w.rowIs b 4 N.length fun i => .bool (N.getD i false)
def RowI (w : World) (b : Nat) (l : List Int) : Prop := w.rowIs b 2 l.length fun i => .int .i64 (l.getD i 0)
theorem RowB.made (w : World) (n : Nat) : RowB (w.alloc (.cells (madeCells #[.bool false] n) 4)) w.heap.size (List.replicate n false) := by
  have h := World.rowIs_made w (.bool false) n 4
  unfold RowB; rw [List.length_replicate]
  exact h.congr fun i hi => by simp [List.getD_eq_getElem?_getD, hi]
theorem RowI.made (w : World) (n : Nat) : RowI (w.alloc (.cells (madeCells #[.int .i64 0] n) 2)) w.heap.size (List.replicate n 0) := by
  have h := World.rowIs_made w (.int .i64 0) n 2
  unfold RowI; rw [List.length_replicate]
  exact h.congr fun i hi => by simp [List.getD_eq_getElem?_getD, hi]
section
variable {w w' : World} {b : Nat} {N : List Bool} {l : List Int}
theorem RowB.set (h : RowB w b N) (i : Nat) (x : Bool) : RowB (w.setCell ⟨b, i, none⟩ (.bool x)) b (N.set i x) := by
  have h2 := World.rowIs.set h i (.bool x)
  unfold RowB; rw [List.length_set]
  exact h2.congr fun j hj => by
    by_cases e : j = i
    · subst e; simp [List.getD_eq_getElem?_getD, hj]
    · simp [e, List.getD_eq_getElem?_getD, Ne.symm e]
theorem RowI.set (h : RowI w b l) (i : Nat) (x : Int) : RowI (w.setCell ⟨b, i, none⟩ (.int .i64 x)) b (l.set i x) := by
  have h2 := World.rowIs.set h i (.int .i64 x)
  unfold RowI; rw [List.length_set]
  exact h2.congr fun j hj => by
    by_cases e : j = i
    · subst e; simp [List.getD_eq_getElem?_getD, hj]
    · simp [e, List.getD_eq_getElem?_getD, Ne.symm e]
theorem RowB.lt (h : RowB w b N) : b < w.heap.size := World.rowIs.lt h
theorem RowI.lt (h : RowI w b l) : b < w.heap.size := World.rowIs.lt h
theorem RowB.cell (h : RowB w b N) {i : Nat} (hi : i < N.length) : w.cell? ⟨b, i, none⟩ = some (.bool (N.getD i false)) := World.rowIs.cell h hi
theorem RowI.cell (h : RowI w b l) {i : Nat} (hi : i < l.length) : w.cell? ⟨b, i, none⟩ = some (.int .i64 (l.getD i 0)) := World.rowIs.cell h hi
theorem RowB.frozen (h : RowB w b N) (i : Nat) : w.frozen? ⟨b, i, none⟩ = false := World.rowIs.frozen h i
theorem RowI.frozen (h : RowI w b l) (i : Nat) : w.frozen? ⟨b, i, none⟩ = false := World.rowIs.frozen h i
theorem RowB.alloc (h : RowB w b N) (o : Obj) : RowB (w.alloc o) b N := World.rowIs.alloc h o
theorem RowI.alloc (h : RowI w b l) (o : Obj) : RowI (w.alloc o) b l := World.rowIs.alloc h o
theorem RowB.drew (h : RowB w b N) : RowB w.drew b N := h
theorem RowI.drew (h : RowI w b l) : RowI w.drew b l := h
theorem RowB.below {M : Nat} (h : RowB w b N) (hb : Below M w w') (hlt : b < M) : RowB w' b N := World.rowIs.of_block h (hb.block b hlt)
theorem RowI.below {M : Nat} (h : RowI w b l) (hb : Below M w w') (hlt : b < M) : RowI w' b l := World.rowIs.of_block h (hb.block b hlt)
theorem RowI.kept {row : Option Nat} (h : RowI w b l) (hg : w.grownBy w' row) (hne : some b ≠ row) : RowI w' b l := World.rowIs.of_block h (hg.block b h.lt hne)
theorem RowI.other (h : RowI w b l) {c o : Nat} (hne : b ≠ c) (u : Value) : RowI (w.setCell ⟨c, o, none⟩ u) b l := World.rowIs.setOther h hne u
theorem RowI.not_row {base e s n : Nat} {v : Value} {xs : List Value} (h : RowI w b l) (h' : w.ownsRow base e s v n xs) (hne : 2 ≠ e) : some b ≠ v.ownBlock := fun hb => by
  obtain ⟨c, h1⟩ := own_block h' hb.symm
  obtain ⟨c2, h2, _⟩ := h
  rw [h1] at h2
  have := Option.some.inj h2
  injection this with _ h3; exact hne h3.symm
end
theorem boxed_other {W : World} {B B' o : Nat} {t : TypeId} {v : Value} (h : Boxed W B t v) (hne : B ≠ B') (u : Value) : Boxed (W.setCell ⟨B', o, none⟩ u) B t v := (Below.heap_setCell _ _ _ _ hne).trans h
theorem Boxed.of1 (w : World) (o : Obj) (t : TypeId) (v : Value) : Boxed ((w.alloc o).alloc (.cells #[v] t)).drew (w.heap.size + 1) t v := by
  have := Boxed.new (w.alloc o) t v
  rw [show (w.alloc o).heap.size = w.heap.size + 1 by simp] at this
  exact this
theorem RowI.of1 (w : World) (o : Obj) (n : Nat) : RowI ((w.alloc o).alloc (.cells (madeCells #[.int .i64 0] n) 2)).drew (w.heap.size + 1) (List.replicate n 0) := by
  have := RowI.made (w.alloc o) n
  rw [show (w.alloc o).heap.size = w.heap.size + 1 by simp] at this
  exact this
theorem l00Min_any (a b : Int) (w : World) : Calls Tryz.prog 302 #[.int .i64 a, .int .i64 b] w fun e w' => e = .returned (.int .i64 (min a b)) ∧ w = w' := by
  by_cases h : a < b
  · have e : min a b = a := by omega
    rw [e]
    go_enter Tryz.func302, Tryz.ntmps302
    go_wp2
    go_ret
    exact ⟨rfl, rfl⟩
  · have e : min a b = b := by omega
    rw [e]
    go_enter Tryz.func302, Tryz.ntmps302
    go_wp2
    go_ret
    exact ⟨rfl, rfl⟩
theorem l00Max_any (a b : Int) (w : World) : Calls Tryz.prog 303 #[.int .i64 a, .int .i64 b] w fun e w' => e = .returned (.int .i64 (max a b)) ∧ w = w' := by
  by_cases h : a > b
  · have e : max a b = a := by omega
    rw [e]
    go_enter Tryz.func303, Tryz.ntmps303
    go_wp2
    go_ret
    exact ⟨rfl, rfl⟩
  · have e : max a b = b := by omega
    rw [e]
    go_enter Tryz.func303, Tryz.ntmps303
    go_wp2
    go_ret
    exact ⟨rfl, rfl⟩
def nI (l : List Nat) : List Int := l.map Int.ofNat
theorem nI_append (a b : List Nat) : nI (a ++ b) = nI a ++ nI b := by simp [nI]
theorem nI_len (a : List Nat) : (nI a).length = a.length := by simp [nI]
set_option maxRecDepth 100000 in
set_option maxHeartbeats 2000000 in
theorem l02Cover_any (base bg og : Nat) (vL vR : Value) (xs : List GRule) (ls : List Int) (hl : lens xs = some ls) (_hn : xs.length ≤ 4194304) (hbg : bg < base) : ∀ (f r : Nat) (i j : Int) (vO : Value) (out : List Int) (w : World),
    r < f → r < xs.length → 0 ≤ i ∧ i ≤ 1000000000000000 → -1000000000000000 ≤ j ∧ j ≤ ls.getD r 0 → w.cell? ⟨bg, og, none⟩ = some vR → Sl IntE w base vL ls → Sl RuleE w base vR xs → base ≤ w.heap.size → OwnInts w base vO out →
    out.length + (coverS xs ls f r i j).length ≤ 1099511627776 →
    Calls Tryz.prog 263 #[.pointer (some ⟨bg, og, none⟩), vL, .int .i64 r, .int .i64 i, .int .i64 j, vO] w fun e w' => ∃ v', e = .returned v' ∧ OwnInts w' base v' (out ++ nI (coverS xs ls f r i j)) ∧ Below base w w' := by
  intro f
  induction f with
  | zero => intro r i j vO out w hr; omega
  | succ f ih =>
    intro r i j vO out w hr hx hi hj hp hL hR hbs hown hlen
    have hll := lens_length hl
    have hL' := hL
    have hR' := hR
    obtain ⟨AL, cL, rfl, _, hmL, hrowL⟩ := hL
    obtain ⟨AR, cR, rfl, _, hmR, hrowR⟩ := hR
    unfold maxLen at hmL hmR
    have hr1 := lens_pos' hl hx
    by_cases c1 : j ≤ i
    · have e : coverS xs ls (f + 1) r i j = [] := by rw [coverS, if_pos c1]
      have He := Lib.hid e
      have Hown := Lib.hid hown
      clear e hrowL hrowR ih hL' hR' hown hlen
      go_enter Tryz.func263, Tryz.ntmps263
      go_wp2_with fail
      go_ret
      exact ⟨_, rfl, by rw [He.out]; simpa [nI] using Hown.out, Below.refl _ _⟩
    obtain ⟨b1, o1, rfl, hb1, hcellL⟩ := hrowL.int (k := r) (by omega)
    obtain ⟨b2, o2, rfl, hb2', hcellR⟩ := hrowR.rule (k := r) hx
    have hcl := hcellL r (by omega)
    have hri : (r : Int) < (xs.length : Int) := by omega
    have hri2 : (r : Int) < (ls.length : Int) := by omega
    obtain ⟨LR, hLR⟩ : ∃ x, ls.getD r 0 = x := ⟨_, rfl⟩
    rw [hLR] at hcl hr1 hj
    by_cases c2 : i = 0 ∧ j = ls.getD r 0
    · obtain ⟨rfl, c2⟩ := c2
      rw [hLR] at c2
      subst c2
      have e : coverS xs ls (f + 1) r 0 j = [r] := by rw [coverS, if_neg c1, if_pos ⟨rfl, hLR.symm⟩]
      rw [e] at hlen
      have He := Lib.hid e
      have Hown := Lib.hid hown
      have hl2 : out.length ≤ 1099511627776 := by simp at hlen; omega
      have Hl2 := Lib.hid hl2
      obtain ⟨AO, cO, rfl, _⟩ := own_nil hown
      clear e hrowL hrowR ih hL' hR' hown hlen hcellL hcellR hl2 hll
      go_enter Tryz.func263, Tryz.ntmps263
      go_wp2_with (first | (at_builtin; go_must (refine push_ints (base := base) (v := .slice AO out.length cO) (l := out) rfl _ _ rfl rfl rfl rfl Hown.out Hl2.out hbs ?_); intro v' w' h1 h2 h3))
      go_ret
      exact ⟨_, rfl, by rw [He.out]; exact h1, h3⟩
    cases hpair : (getR xs r).pair with
    | false => have := lens_letter hl hx hpair; omega
    | true =>
      obtain ⟨q1, q2, q3, q4, q5⟩ := lens_pair hl hx hpair
      obtain ⟨k0, k1, k2⟩ := hcellR r _ (getR_at hx)
      obtain ⟨la, hla⟩ := Int.eq_ofNat_of_zero_le q1
      obtain ⟨ra, hra⟩ := Int.eq_ofNat_of_zero_le q3
      have e : coverS xs ls (f + 1) r i j = coverS xs ls f la i (min j (ls.getD la 0)) ++ coverS xs ls f ra (max (i - ls.getD la 0) 0) (j - ls.getD la 0) := by
        rw [coverS, if_neg c1, if_neg c2, hla, hra]; rfl
      rw [hla] at k1 q2 q5
      rw [hra] at k2 q4 q5
      simp only [Int.toNat_natCast] at q2 q4 q5
      have hA := lens_pos' hl (r := la) (by omega)
      have hB := lens_pos' hl (r := ra) (by omega)
      rw [e, List.length_append] at hlen
      have IH1 := Lib.hid (fun w' hp' hL'' hR'' hb' ho' => ih la i (min j (ls.getD la 0)) vO out w' (by omega) (by omega) hi (by omega) hp' hL'' hR'' hb' ho' (by omega))
      have IH2 := Lib.hid (fun v' w' hp' hL'' hR'' hb' ho' => ih ra (max (i - ls.getD la 0) 0) (j - ls.getD la 0) v' (out ++ nI (coverS xs ls f la i (min j (ls.getD la 0)))) w' (by omega) (by omega) (by omega) (by omega) hp' hL'' hR'' hb' ho' (by rw [List.length_append, nI_len]; omega))
      have hca := hcellL la (by omega)
      obtain ⟨LA, hLA⟩ : ∃ x, ls.getD la 0 = x := ⟨_, rfl⟩
      rw [hLA] at IH1 IH2 hca hA e
      have He := Lib.hid e
      have Hown := Lib.hid hown
      have HL := Lib.hid hL'
      have HR := Lib.hid hR'
      have d1 : (j == LR) = false ∨ ¬ i = 0 := by
        by_cases h : i = 0
        · exact .inl (by rw [beq_eq_false_iff_ne]; exact fun h2 => c2 ⟨h, by rw [hLR]; exact h2⟩)
        · exact .inr h
      have d2 : ¬ (i = 0) ∨ ¬ (j = LR) := by rcases d1 with d | d
                                             · exact .inr (by simpa using d)
                                             · exact .inl d
      have hlai : (la : Int) < (ls.length : Int) := by omega
      have hij : i < j := by omega
      clear e hrowL hrowR ih hL' hR' hown hlen hcellL hcellR hLR hLA q5 hB c1 c2 d1 hll
      go_enter Tryz.func263, Tryz.ntmps263
      have HLd : Hid (Sl IntE w.drew base (.slice (some ⟨b1, o1, none⟩) ls.length cL) ls) := HL.out.keep fun _ _ => rfl
      have HRd : Hid (Sl RuleE w.drew base (.slice (some ⟨b2, o2, none⟩) xs.length cR) xs) := HR.out.keep fun _ _ => rfl
      have Hod : Hid (OwnInts w.drew base vO out) := Hown.out.drew
      have hpd : w.drew.cell? ⟨bg, og, none⟩ = some (.slice (some ⟨b2, o2, none⟩) xs.length cR) := hp
      have hbd : base ≤ w.drew.heap.size := hbs
      have I1 := Lib.hid (IH1.out w.drew hpd HLd.out HRd.out hbd Hod.out)
      by_cases hi0 : i = 0
      · subst hi0
        have hjL : ¬ (j = LR) := by rcases d2 with d | d
                                    · exact absurd rfl d
                                    · exact d
        have hm0 : max (0 - LA) 0 = 0 := by omega
        rw [hm0] at IH2 He
        clear hm0
        go_upto_region 7 with fail
        go_cut [5] from 15 to 57 (fun q wx => OwnInts wx base q (out ++ nI (coverS xs ls f la 0 (min j LA))) ∧ Below base w wx)
        case first =>
          go_region_law (first
            | (go_simp; go_at_call 302; refine (l00Min_any _ _ _).mono ?_; rintro e w1 ⟨rfl, rfl⟩)
            | (go_simp; go_at_call 263; (with_reducible refine I1.out.mono ?_); rintro e w2 ⟨v2, rfl, own2, hb2⟩))
          all_goals
            go_wp2_with fail
            go_meet
            exact ⟨own2, (Below.drew (Below.refl _ _)).trans hb2⟩
        case rest =>
          revert hcut
          generalize wc = w2
          intro hcut
          obtain ⟨own2, hb2⟩ := hcut
          have p2 : w2.cell? ⟨bg, og, none⟩ = some (.slice (some ⟨b2, o2, none⟩) xs.length cR) := (hb2.cell (p := ⟨bg, og, none⟩) hbg).trans hp
          have I2 := Lib.hid (IH2.out _ w2.drew p2 (SlS.below HL.out (Below.drew hb2)) (SlS.below HR.out (Below.drew hb2)) (Nat.le_trans hbs hb2.size) own2.drew)
          have m1 : w2.cell? ⟨b2, o2 + r * 3 + 2, none⟩ = some (.int .i64 (ra : Int)) := (hb2.cell (p := ⟨b2, o2 + r * 3 + 2, none⟩) hb2').trans k2
          have HB2 := Lib.hid hb2
          clear own2 hb2
          have hwj : IntKind.i64.wrap (j - LA) = j - LA := IntWalk.i64_in _ (by omega)
          have hwn : IntKind.i64.wrap (-LA) = -LA := IntWalk.i64_in _ (by omega)
          have hmx : max (-LA) 0 = 0 := by omega
          go_wp2_with fail
          go_region_law (first
            | (go_simp; go_at_call 303; refine (l00Max_any _ _ _).mono ?_; rintro e w1 ⟨rfl, rfl⟩)
            | (go_simp; go_at_call 263; (with_reducible refine I2.out.mono ?_); rintro e w3 ⟨v3, rfl, own3, hb3⟩))
          all_goals
            go_wp2_with fail
            go_ret
            exact ⟨_, rfl, by rw [He.out, nI_append, ← List.append_assoc]; exact own3, (HB2.out.trans (Below.drew (Below.refl _ _))).trans hb3⟩
      · go_upto_region 7 with fail
        go_cut [5] from 15 to 57 (fun q wx => OwnInts wx base q (out ++ nI (coverS xs ls f la i (min j LA))) ∧ Below base w wx)
        case first =>
          go_region_law (first
            | (go_simp; go_at_call 302; refine (l00Min_any _ _ _).mono ?_; rintro e w1 ⟨rfl, rfl⟩)
            | (go_simp; go_at_call 263; (with_reducible refine I1.out.mono ?_); rintro e w2 ⟨v2, rfl, own2, hb2⟩))
          all_goals
            go_wp2_with fail
            go_meet
            exact ⟨own2, (Below.drew (Below.refl _ _)).trans hb2⟩
        case rest =>
          revert hcut
          generalize wc = w2
          intro hcut
          obtain ⟨own2, hb2⟩ := hcut
          have p2 : w2.cell? ⟨bg, og, none⟩ = some (.slice (some ⟨b2, o2, none⟩) xs.length cR) := (hb2.cell (p := ⟨bg, og, none⟩) hbg).trans hp
          have I2 := Lib.hid (IH2.out _ w2.drew p2 (SlS.below HL.out (Below.drew hb2)) (SlS.below HR.out (Below.drew hb2)) (Nat.le_trans hbs hb2.size) own2.drew)
          have m1 : w2.cell? ⟨b2, o2 + r * 3 + 2, none⟩ = some (.int .i64 (ra : Int)) := (hb2.cell (p := ⟨b2, o2 + r * 3 + 2, none⟩) hb2').trans k2
          have HB2 := Lib.hid hb2
          clear own2 hb2
          have hwj : IntKind.i64.wrap (j - LA) = j - LA := IntWalk.i64_in _ (by omega)
          have hwi : IntKind.i64.wrap (i - LA) = i - LA := IntWalk.i64_in _ (by omega)
          go_wp2_with fail
          go_region_law (first
            | (go_simp; go_at_call 303; refine (l00Max_any _ _ _).mono ?_; rintro e w1 ⟨rfl, rfl⟩)
            | (go_simp; go_at_call 263; (with_reducible refine I2.out.mono ?_); rintro e w3 ⟨v3, rfl, own3, hb3⟩))
          all_goals
            go_wp2_with fail
            go_ret
            exact ⟨_, rfl, by rw [He.out, nI_append, ← List.append_assoc]; exact own3, (HB2.out.trans (Below.drew (Below.refl _ _))).trans hb3⟩
def CJ (bc base : Nat) (C : Nat → Prop) (s : List Nat) (w : World) : Prop :=
  ∃ v, Boxed w bc 134 v ∧ OwnInts w base v (nI s) ∧ base ≤ w.heap.size ∧ ¬ C bc ∧ ∀ g, v.ownBlock = some g → ¬ C g
theorem CJ.ext {bc base : Nat} : ∀ (C : Nat → Prop) (s : List Nat) (w w' : World), CJ bc base C s w → Below w.heap.size w w' → (∀ b, C b → b < w.heap.size) → CJ bc base (ext C w.heap.size w'.heap.size) s w' := by
  rintro C s w w' ⟨v, hb, ho, hn, h1, h2⟩ hbl hC
  refine ⟨v, Boxed.up hb hbl hb.lt, ownsRow_below ho hbl, Nat.le_trans hn hbl.size, ?_, fun g hg => ?_⟩
  · rintro (h | h)
    · exact h1 h
    · have := hb.lt; omega
  · have := (World.ownsRow.lt ho g hg).2
    rintro (h | h)
    · exact h2 g hg h
    · omega
theorem list_push_int {W : World} {ops : Array Oper} {rest : List Oper} {o : Oper} {a : Act} {Q : Exit → Act → World → Prop} (hgd : o.guard = none) (s x : Operand)
    (ho : o.op = .call { callee := .builtin .append, args := #[s, x], argTypes := #[134, 134] }) {y : Int} {base : Nat} {v : Value} {l : List Int}
    (hs : a.eval s = v) {N : Nat} (hx : a.eval x = .slice (some ⟨N, 0, none⟩) 1 1) (hN : N = W.heap.size) (hown : OwnInts W base v l) (hlen : l.length ≤ 1099511627775) (hbase : base ≤ W.heap.size)
    (h : ∀ v' w', OwnInts w' base v' (l ++ [y]) → (W.alloc (.cells #[.int .i64 y] 2)).grownBy w' v.ownBlock → (v'.ownBlock = v.ownBlock ∨ v'.ownBlock = some (W.heap.size + 1)) → wpList Tryz.prog ops Q rest (a.put o.dst v') w') :
    wpList Tryz.prog ops Q (o :: rest) a (W.alloc (.cells #[.int .i64 y] 2)) :=
  wpList_plain hgd fun K hK => by
    subst hN
    have := step_push_int (E := True) (K := K) (ops := ops) (Q := Q) hgd s x ho hs hx (Cell1.new rfl).1 (hown.alloc _) (by omega) (by simp; omega) (fun v' w' h1 h2 h3 => hK _ _ (h v' w' h1 h2 (by simpa using h3)))
    rwa [if_pos (by simp [Region.wanted, hgd])] at this
theorem coverCl_any (bc base : Nat) (C : Nat → Prop) (s : List Nat) (r : Nat) (w : World) (hJ : CJ bc base C s w) (hs : s.length ≤ 1099511627775) (hC : ∀ b, C b → b < w.heap.size) :
    Calls Tryz.prog 230 #[.int .i64 r, .pointer (some ⟨bc, 0, none⟩)] w (TakePost (CJ bc base) C (s ++ [r]) w) := by
  obtain ⟨v, hb, ho, hn, h1, h2⟩ := hJ
  obtain ⟨A, c, rfl, _⟩ := own_nil ho
  have hcb := hb.cell
  have hlb := hb.lt
  have Hb := Lib.hid hb
  have Ho := Lib.hid ho
  have HL : Hid ((nI s).length ≤ 1099511627775) := by rw [Hid, nI_len]; exact hs
  have H1 := Lib.hid h1
  have H2 := Lib.hid h2
  have HC := Lib.hid hC
  clear hb ho h1 h2 hC hs
  go_enter Tryz.func230, Tryz.ntmps230
  go_wp2_with (first
    | (at_builtin; go_must (refine list_push_int (base := base) (v := .slice A (nI s).length c) (l := nI s) rfl _ _ rfl rfl rfl rfl Ho.out HL.out hn ?_); intro v2 w2 own2 hg2 hv2; obtain ⟨A2, c2, rfl, _⟩ := own_nil own2; have bx2 : Boxed w2 bc 134 _ := Boxed.grown Hb.out (by decide) Ho.out hg2; have hcb2 := bx2.cell; have hfb2 := bx2.frozen))
  go_end0
  have hsz : w.heap.size + 1 ≤ w2.heap.size := by have := hg2.size; simpa using this
  have hne : ∀ b, C b → some b ≠ (Value.slice A (nI s).length c).ownBlock := fun b hb e => H2.out b e.symm hb
  have el : (nI s).length + 1 = (nI s ++ [(r : Int)]).length := by simp
  rw [el]
  refine ⟨rfl, C, fun _ h => h, fun b hb => ?_, ⟨_, Boxed.set _ bx2, ?_, ?_, H1.out, fun g hg hCg => ?_⟩, ?_⟩
  · have := HC.out b hb; simp; omega
  · rw [nI_append]
    exact ownsRow_setCell_other (a := ⟨bc, 0, none⟩) own2 (bx2.not_row (by decide) own2).symm _
  · simp; omega
  · rcases hv2 with e | e
    · rw [e] at hg; exact H2.out g hg hCg
    · rw [e] at hg
      have := Option.some.inj hg
      have := HC.out g hCg
      omega
  · refine ⟨hg2.os, hg2.tape, hg2.output, by simp; omega, fun b hb => ?_⟩
    have hbl := HC.out b hb
    have hbc : b ≠ bc := fun e => H1.out (e ▸ hb)
    rw [Below.heap_setCell _ _ _ _ hbc]
    have := hg2.block b (by simp; omega) (hne b hb)
    rw [this]
    exact Below.heap_alloc _ _ _ hbl
end Go.Proofs.YtbifijlenbibmaaGreatDoor
