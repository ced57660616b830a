import Derived.Laws.Strings
import Derived.Test.YtfkijaamfmpboaaRows
import Derived.WalkKit
import Derived.ProofKit
import Derived.Deep.QuietTactic
import Derived.BigQuiet
import Derived.Deep.LoopGhost
import Derived.Deep.Light
import Derived.Deep.AppendLies
import Derived.Deep.Draws
import Derived.Maps.AppendAt
import Derived.Lib.Hide
import Derived.WalkSpells
import Derived.Deep.DeepMust
import Derived.LoopTactic
import Derived.Deep.RegionHeld3
import Derived.Shelf.Abstract
import Derived.StillTailTactics
import Derived.Laws.EntriesVeiled
namespace Go.Proofs.Ytfkijaamfmpboaa
structure GRule where
  letter : ByteArray
  left : Int
  right : Int
  deriving DecidableEq
def maxL : Int := 1000000000000000
def GRule.pair (r : GRule) : Bool := r.letter.size == 0
def isLet (s : ByteArray) : Bool := s.size == 1 && decide (97 ≤ ((s.data.getD 0 0).toNat : Int)) && decide (((s.data.getD 0 0).toNat : Int) ≤ 100)
def okRule (i : Nat) (r : GRule) : Bool :=
  if r.pair then decide (0 ≤ r.left) && decide (r.left ≤ (i : Int) - 1) && decide (0 ≤ r.right) && decide (r.right ≤ (i : Int) - 1) else isLet r.letter && r.left == 0 && r.right == 0
def ruleLen (out : List Int) (r : GRule) : Int := if r.pair then out.getD r.left.toNat 0 + out.getD r.right.toNat 0 else 1
def lensStep (o : Option (List Int)) (r : GRule) : Option (List Int) :=
  o.bind fun out => if okRule out.length r = true ∧ ruleLen out r ≤ maxL then some (out ++ [ruleLen out r]) else none
def lens (rs : List GRule) : Option (List Int) := rs.foldl lensStep (some [])
theorem foldl_take_succ {α β : Type} (f : β → α → β) (s : β) (xs : List α) (k : Nat) (x : α) (h : xs[k]? = some x) :
    (xs.take (k + 1)).foldl f s = f ((xs.take k).foldl f s) x := by
  rw [List.take_add_one, h]; simp
theorem lens_none (xs : List GRule) : xs.foldl lensStep none = none := by
  induction xs with
  | nil => rfl
  | cons x xs ih => simpa [lensStep] using ih
theorem lens_bad {rs : List GRule} {k : Nat} {out : List Int} {r : GRule} (h : lens (rs.take k) = some out) (hr : rs[k]? = some r) (hb : lensStep (some out) r = none) : lens rs = none := by
  have h1 : lens (rs.take (k+1)) = none := by unfold lens at *; rw [foldl_take_succ _ _ _ _ _ hr, h, hb]
  have h2 : lens rs = (rs.drop (k+1)).foldl lensStep (lens (rs.take (k+1))) := by
    unfold lens; rw [← List.foldl_append, List.take_append_drop]
  rw [h2, h1, lens_none]
theorem lens_next {rs : List GRule} {k : Nat} {out : List Int} {r : GRule} (h : lens (rs.take k) = some out) (hr : rs[k]? = some r) (h1 : okRule out.length r = true) (h2 : ruleLen out r ≤ maxL) :
    lens (rs.take (k+1)) = some (out ++ [ruleLen out r]) := by
  unfold lens at *; rw [foldl_take_succ _ _ _ _ _ hr, h]; simp [lensStep, h1, h2]
theorem lens_length {rs : List GRule} {out : List Int} (h : lens rs = some out) : out.length = rs.length := by
  suffices H : ∀ (xs : List GRule) (a o : List Int), xs.foldl lensStep (some a) = some o → o.length = a.length + xs.length by
    simpa using H rs [] out h
  intro xs
  induction xs with
  | nil => intro a o h; simp at h; subst h; simp
  | cons x xs ih =>
    intro a o h
    simp only [List.foldl_cons, lensStep, Option.bind_some] at h
    split at h
    · have := ih _ _ h; simp at this ⊢; omega
    · rw [lens_none] at h; cases h
theorem lens_pos {rs : List GRule} {out : List Int} (h : lens rs = some out) : ∀ v ∈ out, 1 ≤ v ∧ v ≤ maxL := by
  suffices H : ∀ (xs : List GRule) (a o : List Int), (∀ v ∈ a, 1 ≤ v ∧ v ≤ maxL) → xs.foldl lensStep (some a) = some o → ∀ v ∈ o, 1 ≤ v ∧ v ≤ maxL by
    exact H rs [] out (by simp) h
  intro xs
  induction xs with
  | nil => intro a o ha h; simp at h; subst h; exact ha
  | cons x xs ih =>
    intro a o ha h
    simp only [List.foldl_cons, lensStep, Option.bind_some] at h
    split at h
    · rename_i hc
      refine ih _ _ ?_ h
      intro v hv
      rw [List.mem_append] at hv
      rcases hv with hv | hv
      · exact ha v hv
      · simp at hv; subst hv
        refine ⟨?_, hc.2⟩
        unfold ruleLen
        split
        · rename_i hp
          have hok := hc.1
          simp only [okRule, hp, if_true, Bool.and_eq_true, decide_eq_true_eq] at hok
          have g : ∀ j : Nat, j < a.length → 1 ≤ a.getD j 0 := by
            intro j hj
            rw [List.getD_eq_getElem?_getD, List.getElem?_eq_getElem hj]
            exact (ha _ (List.getElem_mem hj)).1
          have g1 := g x.left.toNat (by omega)
          have g2 := g x.right.toNat (by omega)
          omega
        · omega
    · rw [lens_none] at h; cases h
theorem isEmpty_size (s : ByteArray) : s.toList.isEmpty = (s.size == 0) := by
  have h : s.toList = s.data.toList := by
    exact ByteArray.toList_eq s
  rw [h]; show s.data.toList.isEmpty = (s.data.size == 0)
  cases s.data with | mk l => cases l <;> simp
theorem lensStep_none {out : List Int} {r : GRule} (h : okRule out.length r = false) : lensStep (some out) r = none := by simp [lensStep, h]
theorem lensStep_big {out : List Int} {r : GRule} (h : maxL < ruleLen out r) : lensStep (some out) r = none := by
  have : ¬ ruleLen out r ≤ maxL := by omega
  simp [lensStep, this]
section
variable {k : Nat} {r : GRule}
theorem okp_yes (h1 : r.letter.toList.isEmpty = true) (h2 : 0 ≤ r.left ∧ r.left ≤ (k:Int) - 1) (h3 : (!decide (0 ≤ r.right)) = false ∧ (!decide (r.right ≤ (k:Int) - 1)) = false) : okRule k r = true ∧ r.pair = true := by
  rw [isEmpty_size] at h1
  simp at h3
  have hp : r.pair = true := h1
  simp [okRule, hp]; omega
theorem okp_no1 (h1 : r.letter.toList.isEmpty = true) (h2 : ¬ (0 ≤ r.left ∧ r.left ≤ (k:Int) - 1)) : okRule k r = false := by
  rw [isEmpty_size] at h1
  have hp : r.pair = true := h1
  simp [okRule, hp]; omega
theorem okp_no2 (h1 : r.letter.toList.isEmpty = true) (h3 : (!decide (0 ≤ r.right)) = true ∨ (!decide (r.right ≤ (k:Int) - 1)) = true) : okRule k r = false := by
  rw [isEmpty_size] at h1
  have hp : r.pair = true := h1
  simp at h3
  simp [okRule, hp]; omega
theorem getD0 (s : ByteArray) (h : 0 < s.size) : s.data.getD 0 0 = s[0] := by
  have h' : 0 < s.data.size := h
  show s.data.getD 0 0 = s.data[0]
  simp [Array.getD, h]
theorem okl_yes (h1 : r.letter.toList.isEmpty = false) (h2 : (r.letter.size : Int) = 1) (hs : 0 < r.letter.size) (h3 : (97 : Int) ≤ ((r.letter[0]'hs).toNat : Int) ∧ ((r.letter[0]'hs).toNat : Int) ≤ 100) (h4 : r.left = 0) (h5 : (r.right != 0) = false) :
    okRule k r = true ∧ r.pair = false := by
  rw [isEmpty_size] at h1
  have hp : r.pair = false := h1
  simp at h5
  have h2' : r.letter.size = 1 := by omega
  simp only [okRule, hp, isLet, getD0 _ hs, h4, h5, h2']
  simp [h3.1, h3.2]
theorem okl_no1 (h1 : r.letter.toList.isEmpty = false) (h2 : ¬ (r.letter.size : Int) = 1) : okRule k r = false := by
  rw [isEmpty_size] at h1
  have hp : r.pair = false := h1
  have h2' : ¬ r.letter.size = 1 := by omega
  simp [okRule, hp, isLet, h2']
theorem okl_no2 (h1 : r.letter.toList.isEmpty = false) (hs : 0 < r.letter.size) (h3 : ¬ ((97 : Int) ≤ ((r.letter[0]'hs).toNat : Int) ∧ ((r.letter[0]'hs).toNat : Int) ≤ 100)) : okRule k r = false := by
  rw [isEmpty_size] at h1
  have hp : r.pair = false := h1
  simp only [okRule, hp, isLet, getD0 _ hs]
  by_cases ha : (97 : Int) ≤ ((r.letter[0]'hs).toNat : Int)
  · have hb : ¬ ((r.letter[0]'hs).toNat : Int) ≤ 100 := fun hb => h3 ⟨ha, hb⟩
    simp [hb]
  · simp [ha]
theorem okl_no3 (h1 : r.letter.toList.isEmpty = false) (h4 : ¬ r.left = 0) : okRule k r = false := by
  rw [isEmpty_size] at h1
  have hp : r.pair = false := h1
  simp [okRule, hp, h4]
theorem okl_no4 (h1 : r.letter.toList.isEmpty = false) (h5 : (r.right != 0) = true) : okRule k r = false := by
  rw [isEmpty_size] at h1
  have hp : r.pair = false := h1
  simp at h5
  simp [okRule, hp, h5]
end
def letOk (c : UInt8) : Bool := decide (97 ≤ (c.toNat : Int)) && decide ((c.toNat : Int) ≤ 100)
def wordOk (s : ByteArray) : Bool := decide ((s.size : Int) ≤ 2000) && s.data.toList.all letOk
theorem toList_getElem? (s : ByteArray) (k : Nat) (h : k < s.size) : s.data.toList[k]? = some s[k] := by
  have h' : k < s.data.toList.length := by simpa using h
  rw [List.getElem?_eq_getElem h']; rfl
theorem all_step {s : ByteArray} {k : Nat} (h : k < s.size) (ha : (s.data.toList.take k).all letOk = true) (hk : letOk s[k] = true) : (s.data.toList.take (k+1)).all letOk = true := by
  rw [List.take_add_one, toList_getElem? s k h, List.all_append, ha]; simpa using hk
theorem all_bad {s : ByteArray} {k : Nat} (h : k < s.size) (hk : letOk s[k] = false) : s.data.toList.all letOk = false := by
  rw [List.all_eq_false]
  exact ⟨s[k], List.mem_of_getElem? (toList_getElem? s k h), by simp [hk]⟩
theorem all_end {s : ByteArray} {k : Nat} (h : s.size ≤ k) (ha : (s.data.toList.take k).all letOk = true) : s.data.toList.all letOk = true := by
  rw [List.take_of_length_le (by simpa using h)] at ha; exact ha
theorem wordOk_one {s : ByteArray} (h : s.size = 1) : wordOk s = isLet s := by
  obtain ⟨⟨l⟩⟩ := s
  match l, h with
  | [c], _ => simp [wordOk, isLet, letOk, ByteArray.size]
theorem letOk_bad {c : UInt8} (h : (!decide ((97 : Int) ≤ (c.toNat : Int))) = true ∨ (!decide ((c.toNat : Int) ≤ 100)) = true) : letOk c = false := by
  simp at h; simp [letOk]; omega
theorem letOk_good {c : UInt8} (h : (!decide ((97 : Int) ≤ (c.toNat : Int))) = false ∧ (!decide ((c.toNat : Int) ≤ 100)) = false) : letOk c = true := by
  simp at h; simp [letOk]; omega
theorem okl_eq {i : Nat} {r : GRule} (h : (!r.letter.toList.isEmpty) = true) : okRule i r = (isLet r.letter && r.left == 0 && r.right == 0) := by
  rw [isEmpty_size] at h
  have hp : r.pair = false := by simpa [GRule.pair] using h
  simp [okRule, hp]
theorem okp_eq {i : Nat} {r : GRule} (h : (!r.letter.toList.isEmpty) = false) : okRule i r = (decide (0 ≤ r.left) && decide (r.left ≤ (i : Int) - 1) && decide (0 ≤ r.right) && decide (r.right ≤ (i : Int) - 1)) := by
  rw [isEmpty_size] at h
  have hp : r.pair = true := by simpa [GRule.pair] using h
  simp [okRule, hp]
theorem isLet_not {s : ByteArray} (h : ¬ (s.size : Int) = 1) : isLet s = false := by
  have : ¬ s.size = 1 := by omega
  simp [isLet, this]
open Go.RowKit
section
variable {w w' : World} {B B' size n : Nat} {A : Option Addr} {xs : List Value}
end
def GRule.cells (r : GRule) : List Value := [.string r.letter, .int .i64 r.left, .int .i64 r.right]
theorem cells3 (rs : List GRule) (k : Nat) (r : GRule) (h : rs[k]? = some r) :
   (rs.flatMap GRule.cells)[k*3]? = some (.string r.letter) ∧ (rs.flatMap GRule.cells)[k*3+1]? = some (.int .i64 r.left) ∧ (rs.flatMap GRule.cells)[k*3+2]? = some (.int .i64 r.right) := by
  induction rs generalizing k with
  | nil => simp at h
  | cons x xs ih =>
    cases k with
    | zero => simp at h; subst h; simp [GRule.cells]
    | succ k =>
      have := ih k (by simpa using h)
      simp only [List.flatMap_cons]
      have e : (GRule.cells x).length = 3 := rfl
      rw [List.getElem?_append_right (by omega), List.getElem?_append_right (by omega), List.getElem?_append_right (by omega), e]
      rw [show (k+1)*3-3 = k*3 by omega, show (k+1)*3+1-3 = k*3+1 by omega, show (k+1)*3+2-3 = k*3+2 by omega]
      exact this
def OwnInts (w : World) (base : Nat) (v : Value) (l : List Int) : Prop := w.ownsRow base 2 1 v l.length (l.map (Value.int .i64))
theorem own_nil {w : World} {base e s : Nat} {v : Value} {n : Nat} {xs : List Value} (h : w.ownsRow base e s v n xs) : ∃ A cap, v = .slice A n cap ∧ n ≤ cap ∧ cap ≤ maxLen := by
  rcases h.2 with ⟨rfl, rfl⟩ | ⟨g, cap, cur, rfl, _, _, h1, h2, _⟩
  · exact ⟨none, 0, rfl, Nat.le_refl _, Nat.zero_le _⟩
  · exact ⟨_, cap, rfl, h1, h2⟩
theorem own_form {w : World} {base e s : Nat} {v : Value} {n : Nat} {xs : List Value} (h : w.ownsRow base e s v n xs) (hn : 0 < n) :
    ∃ g cap, v = .slice (some ⟨g, 0, none⟩) n cap ∧ base ≤ g ∧ g < w.heap.size ∧ (n ≤ cap ∧ cap ≤ maxLen) ∧ ∀ j u, xs[j]? = some u → w.cell? ⟨g, j, none⟩ = some u := by
  obtain ⟨g, cap, hv, hb, hlt⟩ := h.form hn
  subst hv
  have hf := h.2
  refine ⟨g, cap, rfl, hb, hlt, ?_, fun j u hu => ?_⟩
  · rcases hf with ⟨h1, _⟩ | ⟨g', cap', cur, h1, _, _, h2, h4, _⟩
    · cases h1
    · injection h1 with _ _ h3; subst h3; exact ⟨h2, h4⟩
  · have hj : j < xs.length := (List.getElem?_eq_some_iff.1 hu).1
    rw [h.1] at hj
    rw [h.cellAt j hj, hu]
theorem wpList_push {P : Program} {W : World} {ops : Array Oper} {rest : List Oper} {o : Oper} {a : Act} {Q : Exit → Act → World → Prop} (hgd : o.guard = none) (s x : Operand) (t : TypeId)
    (ho : o.op = .call { callee := .builtin .append, args := #[s, x], argTypes := #[t, t] }) {cs : Array Value} {e : TypeId}
    (i : TypeInfo) (z : Value) (size bytes : Nat) (ht : P.underlying t = some (.slice e)) (hi : P.info? e = some i) (hz : i.zero = some z)
    (hsize : i.size = size) (hby : i.bytes = bytes) (hzs : z.cells.size = size) (hsz : 0 < size)
    {base : Nat} {v : Value} {n : Nat} {xs : List Value} (hs : a.eval s = v) (hx : a.eval x = .slice (some ⟨W.heap.size, 0, none⟩) 1 1)
    (hcs : cs.size = size) (h1 : ∀ u ∈ cs.toList, u.oneCell' = true) (hown : W.ownsRow base e size v n xs)
    (hlen : (n + 1) * bytes ≤ 140737488355328) (hn : n + 1 ≤ 140737488355328) (hbase : base ≤ W.heap.size)
    (h : ∀ v' w', w'.ownsRow base e size v' (n + 1) (xs ++ cs.toList) → (W.alloc (.cells cs e)).grownBy w' v.ownBlock → Below base W w' → wpList P ops Q rest (a.put o.dst v') w') :
    wpList P ops Q (o :: rest) a (W.alloc (.cells cs e)) := by
  refine wpList_plain hgd fun _ hK => ?_
  obtain ⟨v', w', hrun, h2, h3, h5⟩ := run_append_own_at (P := P) (W.alloc (.cells cs e)) base t o.type e i z size bytes ht hi hz hsize hby hzs hsz v n xs (hown.alloc _) ⟨W.heap.size, 0, none⟩ 1 1 cs.toList (by simpa using hcs)
    (fun j u hu => by
      have : (W.alloc (.cells cs e)).cell? ⟨W.heap.size, j, none⟩ = cs[j]? := cell_of_row _ _ _ _ e (0, 0) (heap_alloc_new W _)
      have ha : (⟨W.heap.size, 0, none⟩ : Addr).add j = ⟨W.heap.size, j, none⟩ := by unfold Addr.add; split <;> simp_all
      rw [ha, this]; simpa using hu) h1 (by simp only [maxLen]; omega) hlen (by simp; omega)
  unfold Oper.wp execOp
  simp only [ho, resolve, invoke, builtin, Sem.run_bind, Sem.run_pure, Result.andThen_ok, List.map_toArray, List.map_cons, List.map_nil, hs, hx, hrun]
  refine hK _ _ (h v' w' h2 h3 ?_)
  exact ((Below.refl base W).alloc hbase _).grown h3 (by simp; omega) (fun k hk => (hown.lt k hk).1)
theorem Try.infoI : (Try.prog.info? 2).map (fun i => (i.zero, i.size, i.bytes)) = some (some (.int .i64 0), 1, 8) := by kernel_rfl
theorem Try.infoR : (Try.prog.info? 111).map (fun i => (i.zero, i.size, i.bytes)) = some (some (.agg #[.string ⟨#[]⟩, .int .i64 0, .int .i64 0]), 3, 32) := by kernel_rfl
def OwnRules (w : World) (base : Nat) (v : Value) (l : List GRule) : Prop := w.ownsRow base 111 3 v l.length (l.flatMap GRule.cells)
theorem OwnInts.alloc {w : World} {base : Nat} {v : Value} {l : List Int} (h : OwnInts w base v l) (o : Obj) : OwnInts (w.alloc o) base v l := World.ownsRow.alloc h o
theorem OwnRules.alloc {w : World} {base : Nat} {v : Value} {l : List GRule} (h : OwnRules w base v l) (o : Obj) : OwnRules (w.alloc o) base v l := World.ownsRow.alloc h o
theorem OwnInts.drew {w : World} {base : Nat} {v : Value} {l : List Int} (h : OwnInts w base v l) : OwnInts w.drew base v l := h
theorem OwnRules.drew {w : World} {base : Nat} {v : Value} {l : List GRule} (h : OwnRules w base v l) : OwnRules w.drew base v l := h
theorem OwnInts.drewN {w : World} {base : Nat} {v : Value} {l : List Int} (h : OwnInts w base v l) (n : Nat) : OwnInts (w.drewN n) base v l := h
theorem OwnRules.drewN {w : World} {base : Nat} {v : Value} {l : List GRule} (h : OwnRules w base v l) (n : Nat) : OwnRules (w.drewN n) base v l := h
theorem OwnInts.at_ {w : World} {base : Nat} {v : Value} {l : List Int} (h : OwnInts w base v l) {j : Nat} (hj : j < l.length) :
    ∃ g cap, v = .slice (some ⟨g, 0, none⟩) l.length cap ∧ base ≤ g ∧ g < w.heap.size ∧ l.length ≤ cap ∧ ∀ i, i < l.length → w.cell? ⟨g, i, none⟩ = some (.int .i64 (l.getD i 0)) := by
  obtain ⟨g, cap, hv, hb, hlt, hc, hcell⟩ := own_form h (by omega)
  refine ⟨g, cap, hv, hb, hlt, hc.1, fun i hi => hcell i _ ?_⟩
  rw [List.getElem?_map, List.getD_eq_getElem?_getD, List.getElem?_eq_getElem hi]; rfl
theorem push_ints {W : World} {ops : Array Oper} {rest : List Oper} {o : Oper} {a : Act} {Q : Exit → Act → World → Prop} (hgd : o.guard = none) (s x : Operand)
    (ho : o.op = .call { callee := .builtin .append, args := #[s, x], argTypes := #[34, 34] }) {y : Int} {base : Nat} {v : Value} {l : List Int}
    (hs : a.eval s = v) {N : Nat} (hx : a.eval x = .slice (some ⟨N, 0, none⟩) 1 1) (hN : N = W.heap.size) (hown : OwnInts W base v l) (hlen : l.length ≤ 1099511627776) (hbase : base ≤ W.heap.size)
    (h : ∀ v' w', OwnInts w' base v' (l ++ [y]) → (W.alloc (.cells #[.int .i64 y] 2)).grownBy w' v.ownBlock → Below base W w' → wpList Try.prog ops Q rest (a.put o.dst v') w') :
    wpList Try.prog ops Q (o :: rest) a (W.alloc (.cells #[.int .i64 y] 2)) := by
  subst hN
  obtain ⟨i0, hi0, hz0, hz1, hz2⟩ := info_parts Try.infoI
  refine wpList_push hgd s x 34 ho i0 (.int .i64 0) 1 8 Try.underlying34 hi0 hz0 hz1 hz2 rfl (by decide) hs hx rfl (by simp [Value.oneCell']) hown (by omega) (by omega) hbase ?_
  intro v' w' h1 h2 h3
  refine h v' w' ?_ h2 h3
  unfold OwnInts
  simpa using h1
theorem below_drewN {B : Nat} {a w : World} (h : Below B a w) (n : Nat) : Below B a (w.drewN n) := ⟨h.os, h.tape, h.output, h.size, h.block⟩
theorem ownsRow_more {w : World} {base base' e s : Nat} {v : Value} {n : Nat} {xs : List Value} (h : w.ownsRow base e s v n xs) (hb : base' ≤ base) : w.ownsRow base' e s v n xs := by
  obtain ⟨h1, h2⟩ := h
  refine ⟨h1, ?_⟩
  rcases h2 with h2 | ⟨g, cap, cur, h3, h4, r⟩
  · exact .inl h2
  · exact .inr ⟨g, cap, cur, h3, by omega, r⟩
theorem OwnInts.empty {w : World} {base N : Nat} (hN : N = w.heap.size) (hb : base ≤ w.heap.size) : OwnInts (w.alloc (Obj.cells #[] 2)) base (Value.slice (some ⟨N, 0, none⟩) 0 0) [] := by
  subst hN
  exact World.ownsRow_lit w #[] 0 hb (Nat.zero_le _) rfl
theorem OwnRules.empty {w : World} {base N : Nat} (hN : N = w.heap.size) (hb : base ≤ w.heap.size) : OwnRules (w.alloc (Obj.cells #[] 111)) base (Value.slice (some ⟨N, 0, none⟩) 0 0) [] := by
  subst hN
  exact World.ownsRow_lit w #[] 0 hb (Nat.zero_le _) rfl
theorem ret_bool {a b : Bool} (h : a = b) : Ending.returned (.bool a) = .returned (.bool b) := by rw [h]
theorem ret_int {k : IntKind} {a b : Int} (h : a = b) : Ending.returned (.int k a) = .returned (.int k b) := by rw [h]
theorem bcell {W w1 : World} {N : Nat} (hb : Below N W w1) : (∀ b o, b < N → w1.cell? ⟨b, o, none⟩ = W.cell? ⟨b, o, none⟩) ∧ (∀ b o, b < N → w1.frozen? ⟨b, o, none⟩ = W.frozen? ⟨b, o, none⟩) :=
  ⟨fun b o h => hb.cell (p := ⟨b, o, none⟩) h, fun b o h => hb.frozen (p := ⟨b, o, none⟩) h⟩
theorem ownsRow_below {w w' : World} {base e s : Nat} {v : Value} {n : Nat} {xs : List Value} (h : w.ownsRow base e s v n xs) (hb : Below w.heap.size w w') : w'.ownsRow base e s v n xs :=
  h.kept (row := none) ⟨hb.os, hb.tape, hb.output, hb.size, fun k hk _ => hb.block k hk⟩ (by cases h : v.ownBlock <;> simp)
def Keep (S : Nat → Prop) (w w' : World) : Prop := ∀ b, S b → w'.heap[b]? = w.heap[b]?
theorem Keep.cell {S : Nat → Prop} {w w' : World} (h : Keep S w w') {b o : Nat} (hb : S b) : w'.cell? ⟨b, o, none⟩ = w.cell? ⟨b, o, none⟩ := World.cell?_of_block (a := ⟨b, o, none⟩) (h b hb)
theorem Keep.of_below {B : Nat} {w w' : World} (h : Below B w w') : Keep (· < B) w w' := fun b hb => h.block b hb
theorem Keep.mono {S S' : Nat → Prop} {w w' : World} (h : Keep S w w') (hs : ∀ b, S' b → S b) : Keep S' w w' := fun b hb => h b (hs b hb)
theorem Keep.trans {S : Nat → Prop} {w w' w'' : World} (h : Keep S w w') (h' : Keep S w' w'') : Keep S w w'' := fun b hb => (h' b hb).trans (h b hb)
theorem Keep.refl (S : Nat → Prop) (w : World) : Keep S w w := fun _ _ => rfl
theorem Keep.of_grown {w w' : World} {row : Option Nat} (h : w.grownBy w' row) : Keep (fun b => b < w.heap.size ∧ some b ≠ row) w w' := fun b hb => h.block b hb.1 hb.2
structure Enc (α : Type) where
  size : Nat
  pos : 0 < size
  cells : World → (Nat → Prop) → α → List Value → Prop
  len : ∀ {w S x cs}, cells w S x cs → cs.length = size
  keep : ∀ {w w' S x cs}, cells w S x cs → Keep S w w' → cells w' S x cs
  more : ∀ {w S S' x cs}, cells w S x cs → (∀ b, S b → S' b) → cells w S' x cs
  one : ∀ {w S x cs}, cells w S x cs → ∀ u ∈ cs, u.oneCell' = true
def IntE : Enc Int where
  size := 1
  pos := by decide
  cells := fun _ _ x cs => cs = [.int .i64 x]
  len := by rintro _ _ _ _ rfl; rfl
  keep := fun h _ => h
  more := fun h _ => h
  one := by rintro _ _ _ _ rfl; simp [Value.oneCell']
def StrE : Enc ByteArray where
  size := 1
  pos := by decide
  cells := fun _ _ x cs => cs = [.string x]
  len := by rintro _ _ _ _ rfl; rfl
  keep := fun h _ => h
  more := fun h _ => h
  one := by rintro _ _ _ _ rfl; simp [Value.oneCell']
def RuleE : Enc GRule where
  size := 3
  pos := by decide
  cells := fun _ _ x cs => cs = x.cells
  len := by rintro _ _ _ _ rfl; rfl
  keep := fun h _ => h
  more := fun h _ => h
  one := by rintro _ _ _ _ rfl; simp [GRule.cells, Value.oneCell']
section
variable {α : Type} (E : Enc α)
def Row (w : World) (S : Nat → Prop) (A : Option Addr) (xs : List α) : Prop :=
  0 < xs.length → ∃ b o, A = some ⟨b, o, none⟩ ∧ S b ∧ ∀ k x, xs[k]? = some x → ∃ cs, E.cells w S x cs ∧ ∀ j u, cs[j]? = some u → w.cell? ⟨b, o + (k * E.size + j), none⟩ = some u
def SlS (w : World) (S : Nat → Prop) (v : Value) (xs : List α) : Prop := ∃ A c, v = .slice A xs.length c ∧ xs.length ≤ c ∧ c ≤ maxLen ∧ Row E w S A xs
abbrev Sl (w : World) (B : Nat) (v : Value) (xs : List α) : Prop := SlS E w (· < B) v xs
variable {E} {w w' : World} {S S' : Nat → Prop} {B B' : Nat} {A : Option Addr} {v : Value} {xs : List α}
theorem Row.keep (h : Row E w S A xs) (hb : Keep S w w') : Row E w' S A xs := fun hn => by
  obtain ⟨b, o, rfl, hlt, hc⟩ := h hn
  refine ⟨b, o, rfl, hlt, fun k x hx => ?_⟩
  obtain ⟨cs, h1, h2⟩ := hc k x hx
  exact ⟨cs, E.keep h1 hb, fun j u hu => (hb.cell hlt).trans (h2 j u hu)⟩
theorem Row.more (h : Row E w S A xs) (hB : ∀ b, S b → S' b) : Row E w S' A xs := fun hn => by
  obtain ⟨b, o, rfl, hlt, hc⟩ := h hn
  refine ⟨b, o, rfl, hB _ hlt, fun k x hx => ?_⟩
  obtain ⟨cs, h1, h2⟩ := hc k x hx
  exact ⟨cs, E.more h1 hB, h2⟩
theorem SlS.keep (h : SlS E w S v xs) (hb : Keep S w w') : SlS E w' S v xs := by
  obtain ⟨A, c, rfl, h1, h0, h2⟩ := h
  exact ⟨A, c, rfl, h1, h0, h2.keep hb⟩
theorem SlS.more (h : SlS E w S v xs) (hB : ∀ b, S b → S' b) : SlS E w S' v xs := by
  obtain ⟨A, c, rfl, h1, h0, h2⟩ := h
  exact ⟨A, c, rfl, h1, h0, h2.more hB⟩
theorem SlS.below (h : Sl E w B v xs) (hb : Below B w w') : Sl E w' B v xs := h.keep (Keep.of_below hb)
theorem SlS.le (h : Sl E w B v xs) (hB : B ≤ B') : Sl E w B' v xs := h.more fun _ hb => Nat.lt_of_lt_of_le hb hB
theorem SlS.up {w0 : World} (h : Sl E w0 w0.heap.size v xs) (hb : Below w0.heap.size w0 w) : Sl E w w.heap.size v xs := (h.below hb).le hb.size
theorem SlS.drewN (h : SlS E w S v xs) (n : Nat) : SlS E (w.drewN n) S v xs := h.keep fun _ _ => rfl
theorem SlS.nil (w : World) (S : Nat → Prop) : SlS E w S (.slice none 0 0) [] := ⟨none, 0, rfl, Nat.le_refl _, Nat.zero_le _, fun h => absurd h (by simp)⟩
end
def SliceE {α : Type} (E : Enc α) : Enc (List α) where
  size := 1
  pos := by decide
  cells := fun w S x cs => ∃ v, cs = [v] ∧ SlS E w S v x
  len := by rintro _ _ _ _ ⟨v, rfl, _⟩; rfl
  keep := by rintro _ _ _ _ _ ⟨v, rfl, h⟩ hb; exact ⟨v, rfl, h.keep hb⟩
  more := by rintro _ _ _ _ _ ⟨v, rfl, h⟩ hb; exact ⟨v, rfl, h.more hb⟩
  one := by rintro _ _ _ _ ⟨v, rfl, A, c, rfl, _⟩; simp [Value.oneCell']
section
variable {w w' : World} {S : Nat → Prop} {A : Option Addr} {v : Value}
theorem Row.int {l : List Int} (h : Row IntE w S A l) {k : Nat} (hk : k < l.length) :
    ∃ b o, A = some ⟨b, o, none⟩ ∧ S b ∧ ∀ i, i < l.length → w.cell? ⟨b, o + i, none⟩ = some (.int .i64 (l.getD i 0)) := by
  obtain ⟨b, o, rfl, hlt, hc⟩ := h (by omega)
  refine ⟨b, o, rfl, hlt, fun i hi => ?_⟩
  obtain ⟨cs, h1, h2⟩ := hc i l[i] (List.getElem?_eq_getElem hi)
  have := h2 0 (.int .i64 l[i]) (by rw [show cs = [.int .i64 l[i]] from h1]; rfl)
  rw [List.getD_eq_getElem?_getD, List.getElem?_eq_getElem hi]
  simpa [IntE] using this
theorem Row.rule {l : List GRule} (h : Row RuleE w S A l) {k : Nat} (hk : k < l.length) :
    ∃ b o, A = some ⟨b, o, none⟩ ∧ S b ∧ ∀ i r, l[i]? = some r → w.cell? ⟨b, o + i * 3, none⟩ = some (.string r.letter) ∧ w.cell? ⟨b, o + i * 3 + 1, none⟩ = some (.int .i64 r.left) ∧ w.cell? ⟨b, o + i * 3 + 2, none⟩ = some (.int .i64 r.right) := by
  obtain ⟨b, o, rfl, hlt, hc⟩ := h (by omega)
  refine ⟨b, o, rfl, hlt, fun i r hi => ?_⟩
  obtain ⟨cs, h1, h2⟩ := hc i r hi
  have e : cs = r.cells := h1
  subst e
  exact ⟨by simpa [RuleE] using h2 0 _ rfl, by simpa [RuleE, Nat.add_assoc] using h2 1 _ rfl, by simpa [RuleE, Nat.add_assoc] using h2 2 _ rfl⟩
theorem Row.sl {α : Type} {E : Enc α} {l : List (List α)} (h : Row (SliceE E) w S A l) {k : Nat} (hk : k < l.length) :
    ∃ b o, A = some ⟨b, o, none⟩ ∧ S b ∧ ∀ i x, l[i]? = some x → ∃ v, w.cell? ⟨b, o + i, none⟩ = some v ∧ SlS E w S v x := by
  obtain ⟨b, o, rfl, hlt, hc⟩ := h (by omega)
  refine ⟨b, o, rfl, hlt, fun i x hi => ?_⟩
  obtain ⟨cs, ⟨v, rfl, h1⟩, h2⟩ := hc i x hi
  exact ⟨v, by simpa [SliceE] using h2 0 v rfl, h1⟩
theorem Row.of_own {α : Type} {E : Enc α} {base e c : Nat} {xs : List α} {n : Nat} {A : Option Addr} {us : List Value} (h : w.ownsRow base e E.size (.slice A n c) n us) (hl : xs.length = n)
    (hS : ∀ g, (Value.slice A n c).ownBlock = some g → S g)
    (hx : ∀ k x, xs[k]? = some x → ∃ cs, E.cells w S x cs ∧ ∀ j u, cs[j]? = some u → us[k * E.size + j]? = some u) : Row E w S A xs := fun hn => by
  obtain ⟨g, cap, hv, hb, hlt, _, hcell⟩ := own_form h (by omega)
  injection hv with hA
  subst hA
  refine ⟨g, 0, rfl, hS g rfl, fun k x hk => ?_⟩
  obtain ⟨cs, h1, h2⟩ := hx k x hk
  exact ⟨cs, h1, fun j u hu => by rw [Nat.zero_add]; exact hcell _ _ (h2 j u hu)⟩
theorem OwnInts.slS {base : Nat} {l : List Int} (h : OwnInts w base v l) (hS : ∀ g, v.ownBlock = some g → S g) : SlS IntE w S v l := by
  obtain ⟨A, cap, rfl, h1, h2⟩ := own_nil h
  refine ⟨A, cap, rfl, h1, h2, Row.of_own (E := IntE) h rfl hS fun k x hx => ⟨[.int .i64 x], rfl, fun j u hu => ?_⟩⟩
  cases j with
  | zero => simp at hu; subst hu; simp [IntE, hx]
  | succ j => simp at hu
theorem OwnRules.slS {base : Nat} {l : List GRule} (h : OwnRules w base v l) (hS : ∀ g, v.ownBlock = some g → S g) : SlS RuleE w S v l := by
  obtain ⟨A, cap, rfl, h1, h2⟩ := own_nil h
  refine ⟨A, cap, rfl, h1, h2, Row.of_own (E := RuleE) h rfl hS fun k r hx => ⟨r.cells, rfl, fun j u hu => ?_⟩⟩
  obtain ⟨c0, c1, c2⟩ := cells3 l k r hx
  match j, hu with
  | 0, hu => simp [GRule.cells] at hu; subst hu; simpa [RuleE] using c0
  | 1, hu => simp [GRule.cells] at hu; subst hu; simpa [RuleE] using c1
  | 2, hu => simp [GRule.cells] at hu; subst hu; simpa [RuleE] using c2
  | j + 3, hu => simp [GRule.cells] at hu
theorem OwnInts.sl {base : Nat} {l : List Int} (h : OwnInts w base v l) : Sl IntE w w.heap.size v l := h.slS fun g hg => (h.lt g hg).2
theorem OwnRules.sl {base : Nat} {l : List GRule} (h : OwnRules w base v l) : Sl RuleE w w.heap.size v l := h.slS fun g hg => (h.lt g hg).2
end
theorem Try.infoII : (Try.prog.info? 34).map (fun i => (i.zero, i.size, i.bytes)) = some (some (.slice none 0 0), 1, 24) := by kernel_rfl
def Each {α : Type} (E : Enc α) (w : World) (S : Nat → Prop) (vs : List Value) (xs : List (List α)) : Prop := vs.length = xs.length ∧ ∀ (k : Nat) x, xs[k]? = some x → ∃ v, vs[k]? = some v ∧ SlS E w S v x
theorem Each.keep {α : Type} {E : Enc α} {w w' : World} {S : Nat → Prop} {vs : List Value} {xs : List (List α)} (h : Each E w S vs xs) (hk : Keep S w w') : Each E w' S vs xs :=
  ⟨h.1, fun k x hx => by obtain ⟨v, h1, h2⟩ := h.2 k x hx; exact ⟨v, h1, h2.keep hk⟩⟩
theorem Each.more {α : Type} {E : Enc α} {w : World} {S S' : Nat → Prop} {vs : List Value} {xs : List (List α)} (h : Each E w S vs xs) (hk : ∀ b, S b → S' b) : Each E w S' vs xs :=
  ⟨h.1, fun k x hx => by obtain ⟨v, h1, h2⟩ := h.2 k x hx; exact ⟨v, h1, h2.more hk⟩⟩
theorem Each.snoc {α : Type} {E : Enc α} {w : World} {S : Nat → Prop} {vs : List Value} {xs : List (List α)} {v : Value} {x : List α} (h : Each E w S vs xs) (hv : SlS E w S v x) : Each E w S (vs ++ [v]) (xs ++ [x]) :=
  ⟨by simp [h.1], fun k y hy => by
    rcases Nat.lt_trichotomy k xs.length with hk | hk | hk
    · rw [List.getElem?_append_left hk] at hy
      obtain ⟨u, h1, h2⟩ := h.2 k y hy
      exact ⟨u, by rw [List.getElem?_append_left (by rw [h.1]; exact hk)]; exact h1, h2⟩
    · rw [hk] at hy ⊢
      rw [List.getElem?_append_right (Nat.le_refl _)] at hy
      simp at hy
      subst hy
      exact ⟨v, by rw [List.getElem?_append_right (by rw [h.1]; exact Nat.le_refl _), h.1]; simp, hv⟩
    · rw [List.getElem?_append_right (by omega)] at hy
      have : ([x] : List (List α))[k - xs.length]? = none := List.getElem?_eq_none (by simp; omega)
      rw [this] at hy; cases hy⟩
theorem Each.nil {α : Type} {E : Enc α} {w : World} {S : Nat → Prop} : Each E w S [] [] := ⟨rfl, fun k x hx => by simp at hx⟩
theorem Each.sl {α : Type} {E : Enc α} {w : World} {S : Nat → Prop} {vs : List Value} {xs : List (List α)} {base e : Nat} {v : Value} (h : Each E w S vs xs) (ho : w.ownsRow base e 1 v xs.length vs) (hS : ∀ g, v.ownBlock = some g → S g) : SlS (SliceE E) w S v xs := by
  obtain ⟨A, cap, rfl, h1, h2⟩ := own_nil ho
  refine ⟨A, cap, rfl, h1, h2, Row.of_own (E := SliceE E) ho rfl hS fun k x hx => ?_⟩
  obtain ⟨u, hu, hs⟩ := h.2 k x hx
  refine ⟨[u], ⟨u, rfl, hs⟩, fun j y hy => ?_⟩
  cases j with
  | zero => simp at hy; subst hy; simpa [SliceE] using hu
  | succ j => simp at hy
def SmallL (rs : List GRule) : Prop := ∀ r ∈ rs, r.letter.size ≤ 9223372036854775807
theorem set3 (rs : List GRule) (k : Nat) (r : GRule) (h : k < rs.length) :
    (((rs.flatMap GRule.cells).set (k * 3) (.string r.letter)).set (k * 3 + 1) (.int .i64 r.left)).set (k * 3 + 2) (.int .i64 r.right) = (rs.set k r).flatMap GRule.cells := by
  induction rs generalizing k with
  | nil => simp at h
  | cons x xs ih =>
    cases k with
    | zero => simp [GRule.cells]
    | succ k =>
      have := ih k (by simpa using h)
      simp only [List.flatMap_cons, List.set_cons_succ]
      have e : (GRule.cells x).length = 3 := rfl
      rw [List.set_append, if_neg (by omega), e, List.set_append, if_neg (by omega), e, List.set_append, if_neg (by omega), e]
      rw [show (k+1)*3-3 = k*3 by omega, show (k+1)*3+1-3 = k*3+1 by omega, show (k+1)*3+2-3 = k*3+2 by omega, this]
theorem grown_trans {a b c : World} {g : Nat} (h : a.grownBy b (some g)) (k : b.grownBy c (some g)) : a.grownBy c (some g) :=
  ⟨k.os.trans h.os, k.tape.trans h.tape, k.output.trans h.output, Nat.le_trans h.size k.size, fun i hi hne => (k.block i (Nat.lt_of_lt_of_le hi h.size) hne).trans (h.block i hi hne)⟩
theorem within_any (n a b : Int) (w : World) :
    Calls Try.prog 37 #[.int .i64 n, .int .i64 a, .int .i64 b] w fun e w' => e = .returned (.bool (decide (a ≤ n) && decide (n ≤ b))) ∧ w = w' := by
  by_cases h1 : a ≤ n
  · by_cases h2 : n ≤ b <;> go_enter Try.func37, Try.ntmps37 <;> go_wp2 <;> go_ret <;> exact ⟨by simp [h1,h2], rfl⟩
  · go_enter Try.func37, Try.ntmps37
    go_wp2
    go_ret
    exact ⟨by simp; omega, rfl⟩
theorem l00In_any (n a b : Int) (w : World) :
    Calls Try.prog 28 #[.int .i64 n, .int .i64 a, .int .i64 b] w fun e w' => e = .returned (.bool (decide (a ≤ n) && decide (n ≤ b))) ∧ w = w' := by
  by_cases h1 : a ≤ n
  · by_cases h2 : n ≤ b <;> go_enter Try.func28, Try.ntmps28 <;> go_wp2 <;> go_ret <;> exact ⟨by simp [h1,h2], rfl⟩
  · go_enter Try.func28, Try.ntmps28
    go_wp2
    go_ret
    exact ⟨by simp; omega, rfl⟩
theorem isPair_any (l : ByteArray) (a b : Int) (w : World) :
    Calls Try.prog 92 #[.agg #[.string l, .int .i64 a, .int .i64 b]] w fun e w' => e = .returned (.bool (l.toList.isEmpty)) ∧ w.alloc (.cells #[.string l, .int .i64 a, .int .i64 b] 111) = w' := by
  go_enter Try.func92, Try.ntmps92
  go_wp2
  go_ret
  exact ⟨by simp, rfl⟩
theorem isLetter_any (c : UInt8) (w : World) :
    Calls Try.prog 79 #[.int .u8 c.toNat] w fun e w' => e = .returned (.bool (decide (97 ≤ (c.toNat:Int)) && decide ((c.toNat:Int) ≤ 100))) ∧ w = w' := by
  by_cases h1 : 97 ≤ (c.toNat : Int)
  · by_cases h2 : (c.toNat : Int) ≤ 100 <;> go_enter Try.func79, Try.ntmps79 <;> go_wp2 <;> go_ret <;> exact ⟨by simp [h1,h2], rfl⟩
  · go_enter Try.func79, Try.ntmps79
    go_wp2
    go_ret
    exact ⟨by simp; omega, rfl⟩
def LensPost (rs : List GRule) (w : World) (e : Ending) (w' : World) : Prop :=
  Below w.heap.size w w' ∧ ((∃ ls v, lens rs = some ls ∧ e = .returned (.tuple #[v, .bool (decide (rs.length ≤ 400))]) ∧ OwnInts w' w.heap.size v ls) ∨
    (lens rs = none ∧ e = .returned (.tuple #[.slice none 0 0, .bool false])))
set_option maxRecDepth 100000 in
theorem lengths_any (v : Value) (rs : List GRule) (w : World) (h : Sl RuleE w w.heap.size v rs) (hn : rs.length ≤ 1099511627776) :
    Calls Try.prog 67 #[.agg #[v]] w (LensPost rs w) := by
  obtain ⟨A, c, rfl, hc, hm, hrow⟩ := h
  clear hm
  go_enter Try.func67, Try.ntmps67
  go_wp2_with fail
  go_loopw [4, 12] (fun out i wr => ∃ (k : Nat) (vals : List Int), k ≤ rs.length ∧ i = .int .i64 k ∧ lens (rs.take k) = some vals ∧ Below (w.heap.size+1) (w.alloc (Obj.cells #[Value.slice A rs.length c] 30)) wr ∧ OwnInts wr (w.heap.size+1) out vals) (fun _ i _ => rs.length - (intOf i).toNat)
  case atStart => exact ⟨0, [], Nat.zero_le _, rfl, by simp [lens], (Below.refl _ _).alloc (by simp) _, OwnInts.empty (by simp) (by simp)⟩
  case round =>
    obtain ⟨k, vals, hk, rfl, hlen, hb, hown⟩ := hrel
    have hB : Below w.heap.size w wr := ((Below.refl _ _).alloc (Nat.le_refl _) _).trans (hb.mono (by omega))
    by_cases hlt : k < rs.length
    · have hvk : vals.length = k := by have := lens_length hlen; rw [List.length_take] at this; omega
      obtain ⟨b, o, rfl, hbl, hcell⟩ := (hrow.keep (Keep.of_below hB)).rule hlt
      obtain ⟨r, hrk⟩ : ∃ x, rs[k]? = some x := ⟨_, List.getElem?_eq_getElem hlt⟩
      obtain ⟨hc0, hc1, hc2⟩ := hcell k r hrk
      have hsz : w.heap.size + 1 ≤ wr.heap.size := by have := hb.size; simpa using this
      have hv1 : vals.length ≤ 1099511627776 := by omega
      have hat : 0 < k → _ := fun h => hown.at_ (j := 0) (by omega)
      have Hat := Lib.hid hat
      have Hr := Lib.hid hrk
      have Hlen := Lib.hid hlen
      have Hvk := Lib.hid hvk
      clear hrk hcell hrow hlen hvk hat
      go_wp2_with (first
        | (go_at_call 92; refine (isPair_any _ _ _ _).mono ?_; rintro e w' ⟨rfl, rfl⟩)
        | (go_at_call 37; refine (within_any _ _ _ _).mono ?_; rintro e w' ⟨rfl, rfl⟩)
        | (go_at_call 79; refine (isLetter_any _ _).mono ?_; rintro e w' ⟨rfl, rfl⟩)
        | (at_builtin; go_must (refine push_ints rfl _ _ rfl rfl rfl (by simp) (by repeat (first | exact hown | apply OwnInts.alloc)) (by omega) (by simp; omega) ?_)
           intro v' w1 hown1 hgrow hbw))
      · go_ret2
        exact ⟨by repeat (first | exact hB | (refine Below.alloc ?_ (by first | omega | (simp; omega)) _)), .inr ⟨lens_bad Hlen.out Hr.out (lensStep_none (by rw [Hvk.out]; exact okp_no2 ‹_› ‹_›)), rfl⟩⟩
      · have h1 : 0 ≤ r.left ∧ r.left ≤ (k:Int) - 1 := by assumption
        have h2 : (!decide (0 ≤ r.right)) = false ∧ (!decide (r.right ≤ (k:Int) - 1)) = false := by assumption
        have Hok := Lib.hid (okp_yes (r := r) (k := k) ‹_› h1 h2)
        simp at h2
        obtain ⟨g, cap, rfl, hgb, hgl, hcap, hgc⟩ := Hat.out (by omega)
        have Hgc := Lib.hid hgc
        have hvk := Hvk.out
        have hx1 := hgc r.left.toNat (by omega)
        have hx2 := hgc r.right.toNat (by omega)
        have hi1 : r.left < (vals.length : Int) := by omega
        have hi2 : r.right < (vals.length : Int) := by omega
        have hi3 : 0 ≤ r.right := h2.1
        have hpos := lens_pos Hlen.out
        have hb1 : 1 ≤ vals.getD r.left.toNat 0 ∧ vals.getD r.left.toNat 0 ≤ 1000000000000000 := by
          rw [List.getD_eq_getElem?_getD, List.getElem?_eq_getElem (by omega)]; exact hpos _ (List.getElem_mem _)
        have hb2 : 1 ≤ vals.getD r.right.toNat 0 ∧ vals.getD r.right.toNat 0 ≤ 1000000000000000 := by
          rw [List.getD_eq_getElem?_getD, List.getElem?_eq_getElem (by omega)]; exact hpos _ (List.getElem_mem _)
        have hrl : ruleLen vals r = vals.getD r.left.toNat 0 + vals.getD r.right.toNat 0 := by simp [ruleLen, Hok.out.2]
        generalize vals.getD r.left.toNat 0 = x at *
        generalize vals.getD r.right.toNat 0 = y at *
        have hwr : IntKind.i64.wrap (x + y) = x + y := IntWalk.i64_in _ (by omega)
        have Hrl := Lib.hid hrl
        clear hgc hvk hpos hrl
        go_quiet (fail)
        clear hwr
        go_wp2_with (first
        | (at_builtin; go_must (refine push_ints rfl _ _ rfl rfl rfl (by simp) (by repeat (first | exact hown | apply OwnInts.alloc | apply OwnInts.drewN)) (by omega) (by simp; omega) ?_)
           intro v' w1 hown1 hgrow hbw))
        · go_ret2
          exact ⟨by repeat (first | exact hB | (refine Below.alloc ?_ (by first | omega | (simp; omega)) _) | refine below_drewN ?_ _), .inr ⟨lens_bad Hlen.out Hr.out (lensStep_big (by rw [Hrl.out]; unfold maxL; omega)), rfl⟩⟩
        · go_roundw
          case rel => exact ⟨k + 1, vals ++ [x + y], by omega, by go_num, by have := lens_next Hlen.out Hr.out (by rw [Hvk.out]; exact Hok.out.1) (by rw [Hrl.out]; unfold maxL; omega); rw [Hrl.out] at this; exact this, hb.trans ((below_drewN (((Below.refl _ _).alloc (by omega) _).alloc (by simp; omega) _) _).trans hbw), hown1⟩
          case measure => simp [intOf]; omega
      · go_ret2
        exact ⟨by repeat (first | exact hB | (refine Below.alloc ?_ (by first | omega | (simp; omega)) _)), .inr ⟨lens_bad Hlen.out Hr.out (lensStep_none (by rw [Hvk.out]; exact okp_no1 ‹_› ‹_›)), rfl⟩⟩
      · go_ret2
        exact ⟨by repeat (first | exact hB | (refine Below.alloc ?_ (by first | omega | (simp; omega)) _)), .inr ⟨lens_bad Hlen.out Hr.out (lensStep_none (by rw [Hvk.out]; exact okl_no4 ‹_› ‹_›)), rfl⟩⟩
      · have Hok := okl_yes (r := r) (k := k) ‹_› ‹_› _ ‹_› ‹_› ‹_›
        go_roundw
        case rel => exact ⟨k + 1, vals ++ [1], by omega, by go_num, by have := lens_next Hlen.out Hr.out (by rw [Hvk.out]; exact Hok.1) (by simp [ruleLen, Hok.2, maxL]); simpa [ruleLen, Hok.2] using this, hb.trans (((Below.refl _ _).alloc (by omega) _).alloc (by simp; omega) _ |>.trans hbw), hown1⟩
        case measure => simp [intOf]; omega
      · go_ret2
        exact ⟨by repeat (first | exact hB | (refine Below.alloc ?_ (by first | omega | (simp; omega)) _)), .inr ⟨lens_bad Hlen.out Hr.out (lensStep_none (by rw [Hvk.out]; exact okl_no3 ‹_› ‹_›)), rfl⟩⟩
      · go_ret2
        exact ⟨by repeat (first | exact hB | (refine Below.alloc ?_ (by first | omega | (simp; omega)) _)), .inr ⟨lens_bad Hlen.out Hr.out (lensStep_none (by rw [Hvk.out]; exact okl_no2 ‹_› _ ‹_›)), rfl⟩⟩
      · go_ret2
        exact ⟨by repeat (first | exact hB | (refine Below.alloc ?_ (by first | omega | (simp; omega)) _)), .inr ⟨lens_bad Hlen.out Hr.out (lensStep_none (by rw [Hvk.out]; exact okl_no1 ‹_› ‹_›)), rfl⟩⟩
    · have hkn : k = rs.length := by omega
      have hfin : lens rs = some vals := by rw [← hlen, List.take_of_length_le (by omega)]
      have hg : wr.cell? ⟨w.heap.size, 0, none⟩ = some (Value.slice A rs.length c) := by rw [hb.cell (by simp)]; simp [go_sem]
      have Hfin := Lib.hid hfin
      subst hkn
      clear hlen hrow hfin
      go_wp2_with fail
      go_quiet (fail)
      go_wp2
      go_ret2
      exact ⟨below_drewN hB _, .inl ⟨vals, _, Hfin.out, by simp; omega, ownsRow_more (hown.drewN _) (by omega)⟩⟩
theorem l01Ok_any (s : ByteArray) (w : World) (hs : s.size ≤ maxLen) :
    Calls Try.prog 44 #[.string s] w fun e w' => e = .returned (.bool (wordOk s)) ∧ w = w' := by
  unfold maxLen at hs
  go_enter Try.func44, Try.ntmps44
  go_wp2_with fail
  · go_ret
    exact ⟨ret_bool (by symm; unfold wordOk; rw [Bool.and_eq_false_iff]; left; simp; omega), rfl⟩
  · go_loop [3] (fun i => ∃ k : Nat, k ≤ s.size ∧ i = .int .i64 k ∧ Hid ((s.data.toList.take k).all letOk = true)) (fun i => s.size - (intOf i).toNat)
    case atStart => exact ⟨0, Nat.zero_le _, rfl, by simp [Hid]⟩
    case round =>
      obtain ⟨k, hk, rfl, H⟩ := hrel
      by_cases hlt : k < s.size
      · by_cases h1 : (s[k].toNat : Int) < 97
        · go_wp2
          go_ret
          exact ⟨ret_bool (by have := all_bad hlt (by simp [letOk]; omega); simp [wordOk, this]), rfl⟩
        · by_cases h2 : 100 < (s[k].toNat : Int)
          · go_wp2
            go_ret
            exact ⟨ret_bool (by have := all_bad hlt (by simp [letOk]; omega); simp [wordOk, this]), rfl⟩
          · go_wp2
            go_round
            case rel => exact ⟨k + 1, by omega, by go_num, all_step hlt H.out (by simp [letOk]; omega)⟩
            case measure => simp [intOf]; omega
      · go_wp2
        go_ret
        exact ⟨ret_bool (by have := all_end (by omega) H.out; simp [wordOk, this]; omega), rfl⟩
theorem ValidWord_any (s : ByteArray) (w : World) (hs : s.size ≤ maxLen) :
    Calls Try.prog 50 #[.string s] w fun e w' => e = .returned (.bool (wordOk s)) ∧ w = w' := by
  unfold maxLen at hs
  go_enter Try.func50, Try.ntmps50
  go_wp2_with fail
  go_loop [6] (fun i => ∃ k : Nat, k ≤ s.size ∧ i = .int .i64 k ∧ Hid ((s.data.toList.take k).all letOk = true)) (fun i => s.size - (intOf i).toNat)
  case atStart => exact ⟨0, Nat.zero_le _, rfl, by simp [Hid]⟩
  case round =>
    obtain ⟨k, hk, rfl, H⟩ := hrel
    by_cases hlt : k < s.size
    · go_wp2_with (first | (go_at_call 79; go_must (refine (isLetter_any _ _).mono ?_); rintro e w' ⟨rfl, rfl⟩))
      · go_ret
        exact ⟨ret_bool (by have := all_bad hlt (letOk_bad ‹_›); simp [wordOk, this]), rfl⟩
      · have h1 := letOk_good (c := s[k]) ‹_›
        go_round
        case rel => exact ⟨k + 1, by omega, by go_num, all_step hlt H.out h1⟩
        case measure => simp [intOf]; omega
    · go_wp2
      go_ret
      exact ⟨ret_bool (by have := all_end (by omega) H.out; simp [wordOk, this]), rfl⟩
set_option maxHeartbeats 1000000 in
theorem l02Rule_any (b o : Nat) (r : GRule) (i : Nat) (w : World) (h0 : w.cell? ⟨b, o, none⟩ = some (.string r.letter)) (h1 : w.cell? ⟨b, o + 1, none⟩ = some (.int .i64 r.left)) (h2 : w.cell? ⟨b, o + 2, none⟩ = some (.int .i64 r.right)) (hi : i ≤ 1099511627776) (hs : r.letter.size ≤ maxLen) :
    Calls Try.prog 97 #[.pointer (some ⟨b, o, none⟩), .int .i64 i] w fun e w' => e = .returned (.bool (okRule i r)) ∧ w = w' := by
  have Hs := Lib.hid hs
  clear hs
  go_enter Try.func97, Try.ntmps97
  go_wp2_with (first
    | (go_at_call 44; go_must (refine (l01Ok_any _ _ Hs.out).mono ?_); rintro e w' ⟨rfl, rfl⟩)
    | (go_at_call 28; go_must (refine (l00In_any _ _ _ _).mono ?_); rintro e w' ⟨rfl, rfl⟩))
  · have e : okRule i r = (r.right == 0) := by
      rw [okl_eq ‹_›, ← wordOk_one (by omega), ‹wordOk r.letter = true›, ‹r.left = 0›]; simp
    go_ret
    exact ⟨ret_bool e.symm, rfl⟩
  · have e : okRule i r = false := by
      rw [okl_eq ‹_›]; simp [‹¬ r.left = 0›]
    go_ret
    exact ⟨ret_bool e.symm, rfl⟩
  · have e : okRule i r = false := by
      rw [okl_eq ‹_›, ← wordOk_one (by omega)]; simp [‹¬ wordOk r.letter = true›]
    go_ret
    exact ⟨ret_bool e.symm, rfl⟩
  · have e : okRule i r = false := by
      rw [okl_eq ‹_›, isLet_not ‹_›]; simp
    go_ret
    exact ⟨ret_bool e.symm, rfl⟩
  · have h : 0 ≤ r.left ∧ r.left ≤ (i : Int) - 1 := by assumption
    have e : okRule i r = (decide (0 ≤ r.right) && decide (r.right ≤ (i : Int) - 1)) := by
      rw [okp_eq ‹_›]; simp [h.1, h.2]
    go_ret
    exact ⟨ret_bool e.symm, rfl⟩
  · have h : ¬ (0 ≤ r.left ∧ r.left ≤ (i : Int) - 1) := by assumption
    have e : okRule i r = false := by
      rw [okp_eq ‹_›, Bool.and_eq_false_iff, Bool.and_eq_false_iff, Bool.and_eq_false_iff]; simp; omega
    go_ret
    exact ⟨ret_bool e.symm, rfl⟩
def SizesPost (rs : List GRule) (w : World) (e : Ending) (w' : World) : Prop :=
  Below w.heap.size w w' ∧ ((∃ ls v, lens rs = some ls ∧ e = .returned (.tuple #[v, .bool true]) ∧ OwnInts w' w.heap.size v ls) ∨
    (lens rs = none ∧ ∃ v ls, e = .returned (.tuple #[v, .bool false]) ∧ OwnInts w' w.heap.size v ls))
set_option maxRecDepth 100000 in
theorem l02Sizes_any (b o : Nat) (v : Value) (rs : List GRule) (w : World) (hp : w.cell? ⟨b, o, none⟩ = some v) (hbl : b < w.heap.size) (h : Sl RuleE w w.heap.size v rs) (hsm : SmallL rs) (hn : rs.length ≤ 1099511627776) :
    Calls Try.prog 71 #[.pointer (some ⟨b, o, none⟩)] w (SizesPost rs w) := by
  obtain ⟨A, c, rfl, hc, hm, hrow⟩ := h
  clear hm
  go_enter Try.func71, Try.ntmps71
  go_wp2_with fail
  go_loopw [4, 5] (fun out i wr => ∃ (k : Nat) (vals : List Int), k ≤ rs.length ∧ i = .int .i64 k ∧ lens (rs.take k) = some vals ∧ Below w.heap.size w wr ∧ OwnInts wr w.heap.size out vals) (fun _ i _ => rs.length - (intOf i).toNat)
  case atStart => exact ⟨0, [], Nat.zero_le _, rfl, by simp [lens], (Below.refl _ _).alloc (Nat.le_refl _) _, OwnInts.empty rfl (Nat.le_refl _)⟩
  case round =>
    obtain ⟨k, vals, hk, rfl, hlen, hB, hown⟩ := hrel
    have hpp : wr.cell? ⟨b, o, none⟩ = some (Value.slice A rs.length c) := (hB.cell hbl).trans hp
    by_cases hlt : k < rs.length
    · have hvk : vals.length = k := by have := lens_length hlen; rw [List.length_take] at this; omega
      obtain ⟨b1, o1, rfl, hbl1, hcell⟩ := hrow.rule hlt
      obtain ⟨r, hrk⟩ : ∃ x, rs[k]? = some x := ⟨_, List.getElem?_eq_getElem hlt⟩
      obtain ⟨g0, g1, g2⟩ := hcell k r hrk
      have hc0 := (hB.cell (p := ⟨b1, o1 + k * 3, none⟩) hbl1).trans g0
      have hc1 := (hB.cell (p := ⟨b1, o1 + k * 3 + 1, none⟩) hbl1).trans g1
      have hc2 := (hB.cell (p := ⟨b1, o1 + k * 3 + 2, none⟩) hbl1).trans g2
      have hsr := hsm r (List.mem_of_getElem? hrk)
      have hsz : w.heap.size ≤ wr.heap.size := hB.size
      have hv1 : vals.length ≤ 1099511627776 := by omega
      have Hr := Lib.hid hrk
      have Hlen := Lib.hid hlen
      have Hvk := Lib.hid hvk
      have Hown := Lib.hid hown
      clear hrk hlen hvk hcell g0 g1 g2 hown
      go_wp2_with (first
        | (go_at_call 97; go_must (refine (l02Rule_any _ _ r k _ hc0 hc1 hc2 (by omega) (by unfold maxLen; omega)).mono ?_); rintro e w2 ⟨rfl, rfl⟩)
        | (at_builtin; go_must (refine push_ints rfl _ _ rfl rfl rfl (by simp) (by repeat (first | exact Hown.out | apply OwnInts.alloc | apply OwnInts.drewN | apply OwnRules.alloc | apply OwnRules.drewN)) (by omega) (by first | omega | (simp; omega)) ?_); intro v' w1 hown1 hgrow hbw))
      · have hok : okRule k r = false := by simpa using ‹(!okRule k r) = true›
        go_ret2
        exact ⟨hB, .inr ⟨lens_bad Hlen.out Hr.out (lensStep_none (by rw [Hvk.out]; exact hok)), _, vals, rfl, Hown.out⟩⟩
      · have hok : okRule k r = true := by simpa using ‹(!okRule k r) = false›
        have hpr : r.pair = true := by have h := ‹r.letter.toList.isEmpty = true›; rw [isEmpty_size] at h; exact h
        have hbd : 0 ≤ r.left ∧ r.left ≤ (k : Int) - 1 ∧ 0 ≤ r.right ∧ r.right ≤ (k : Int) - 1 := by
          simp [okRule, hpr] at hok; omega
        have hvk := Hvk.out
        obtain ⟨g, cap, rfl, hgb, hgl, hcap, hgc⟩ := OwnInts.at_ Hown.out (j := 0) (by omega)
        have hx1 := hgc r.left.toNat (by omega)
        have hx2 := hgc r.right.toNat (by omega)
        have hi1 : r.left < (vals.length : Int) := by omega
        have hi2 : r.right < (vals.length : Int) := by omega
        obtain ⟨hj1, _, hj2, _⟩ := hbd
        have hpos := lens_pos Hlen.out
        have hb1 : 1 ≤ vals.getD r.left.toNat 0 ∧ vals.getD r.left.toNat 0 ≤ 1000000000000000 := by
          rw [List.getD_eq_getElem?_getD, List.getElem?_eq_getElem (by omega)]; exact hpos _ (List.getElem_mem _)
        have hb2 : 1 ≤ vals.getD r.right.toNat 0 ∧ vals.getD r.right.toNat 0 ≤ 1000000000000000 := by
          rw [List.getD_eq_getElem?_getD, List.getElem?_eq_getElem (by omega)]; exact hpos _ (List.getElem_mem _)
        have hrl : ruleLen vals r = vals.getD r.left.toNat 0 + vals.getD r.right.toNat 0 := by simp [ruleLen, hpr]
        generalize vals.getD r.left.toNat 0 = x at *
        generalize vals.getD r.right.toNat 0 = y at *
        have hwr : IntKind.i64.wrap (x + y) = x + y := IntWalk.i64_in _ (by omega)
        have Hrl := Lib.hid hrl
        have Hok := Lib.hid hok
        clear hgc hvk hpos hrl hok hpr
        go_quiet (fail)
        clear hwr
        go_wp2_with (at_builtin; go_must (refine push_ints rfl _ _ rfl rfl rfl (by simp) (by repeat (first | exact Hown.out | apply OwnInts.alloc | apply OwnInts.drewN | apply OwnRules.alloc | apply OwnRules.drewN)) (by omega) (by first | omega | (simp; omega)) ?_); intro v' w1 hown1 hgrow hbw)
        · go_ret2
          exact ⟨(by repeat (first | exact hB | (refine Below.alloc ?_ (by first | omega | (simp; done) | (simp; omega)) _) | refine below_drewN ?_ _ | refine Below.drew ?_)), .inr ⟨lens_bad Hlen.out Hr.out (lensStep_big (by rw [Hrl.out]; unfold maxL; omega)), _, vals, rfl, (by repeat (first | exact Hown.out | apply OwnInts.alloc | apply OwnInts.drewN | apply OwnRules.alloc | apply OwnRules.drewN))⟩⟩
        · go_roundw
          case rel => exact ⟨k + 1, vals ++ [x + y], by omega, by go_num, by have := lens_next Hlen.out Hr.out (by rw [Hvk.out]; exact Hok.out) (by rw [Hrl.out]; unfold maxL; omega); rw [Hrl.out] at this; exact this, (below_drewN hB _).trans hbw, hown1⟩
          case measure => simp [intOf]; omega
      · have hok : okRule k r = true := by simpa using ‹(!okRule k r) = false›
        have hpr : r.pair = false := by have h := ‹r.letter.toList.isEmpty = false›; rw [isEmpty_size] at h; exact h
        have hrl : ruleLen vals r = 1 := by simp [ruleLen, hpr]
        go_roundw
        case rel => exact ⟨k + 1, vals ++ [1], by omega, by go_num, by have := lens_next Hlen.out Hr.out (by rw [Hvk.out]; exact hok) (by rw [hrl]; unfold maxL; omega); rw [hrl] at this; exact this, hB.trans hbw, hown1⟩
        case measure => simp [intOf]; omega
    · have hkn : k = rs.length := by omega
      have hfin : lens rs = some vals := by rw [← hlen, List.take_of_length_le (by omega)]
      have Hfin := Lib.hid hfin
      have Hown := Lib.hid hown
      subst hkn
      clear hlen hfin hown
      go_wp2_with fail
      go_ret2
      exact ⟨hB, .inl ⟨vals, _, Hfin.out, rfl, Hown.out⟩⟩
def LengthsPost (rs : List GRule) (w : World) (e : Ending) (w' : World) : Prop :=
  Below w.heap.size w w' ∧ ∃ v ls, e = .returned (.tuple #[v, .bool (decide (rs.length ≤ 400) && (lens rs).isSome)]) ∧ OwnInts w' w.heap.size v ls ∧ (rs.length ≤ 400 → ∀ l, lens rs = some l → ls = l)
theorem l02Lengths_any (b o : Nat) (v : Value) (rs : List GRule) (w : World) (hp : w.cell? ⟨b, o, none⟩ = some v) (hbl : b < w.heap.size) (h : Sl RuleE w w.heap.size v rs) (hsm : SmallL rs) :
    Calls Try.prog 31 #[.pointer (some ⟨b, o, none⟩)] w (LengthsPost rs w) := by
  have h' := h
  obtain ⟨A, c, rfl, hc, hm, hrow⟩ := h'
  have Hsl := Lib.hid h
  clear h hm hrow
  by_cases hn : rs.length ≤ 400
  · go_enter Try.func31, Try.ntmps31
    go_wp2_with fail
    refine (l02Sizes_any _ _ _ _ _ hp hbl Hsl.out hsm (by omega)).mono ?_
    rintro e w1 ⟨hb, (⟨ls, v1, h1, rfl, h2⟩ | ⟨h1, v1, ls, rfl, h2⟩)⟩
    · have H1 := Lib.hid h1
      have H2 := Lib.hid h2
      clear h1 h2
      go_wp2
      go_ret2
      exact ⟨hb, _, ls, by simp [H1.out, hn], H2.out, fun _ l hl => by rw [H1.out] at hl; injection hl⟩
    · have H1 := Lib.hid h1
      have H2 := Lib.hid h2
      clear h1 h2
      go_wp2
      go_ret2
      exact ⟨hb, _, ls, by simp [H1.out], H2.out, fun _ l hl => by rw [H1.out] at hl; cases hl⟩
  · go_enter Try.func31, Try.ntmps31
    go_wp2
    go_ret2
    exact ⟨(Below.refl _ _).alloc (Nat.le_refl _) _, _, [], by simp [hn], OwnInts.empty rfl (Nat.le_refl _), fun h => absurd h hn⟩
def gramOk (rs : List GRule) : Bool := decide (rs.length ≤ 400) && (lens rs).isSome
theorem l02Ok_any (b o : Nat) (v : Value) (rs : List GRule) (w : World) (hp : w.cell? ⟨b, o, none⟩ = some v) (hbl : b < w.heap.size) (h : Sl RuleE w w.heap.size v rs) (hsm : SmallL rs) :
    Calls Try.prog 43 #[.pointer (some ⟨b, o, none⟩)] w fun e w' => e = .returned (.bool (gramOk rs)) ∧ Below w.heap.size w w' := by
  have Hsl := Lib.hid h
  clear h
  go_enter Try.func43, Try.ntmps43
  go_wp2_with fail
  refine (l02Lengths_any _ _ _ _ _ hp hbl Hsl.out hsm).mono ?_
  rintro e w1 ⟨hb, v1, ls, rfl, h2, h3⟩
  clear h2 h3
  go_wp2
  go_ret
  exact ⟨rfl, hb⟩
theorem ValidGrammar_any (v : Value) (rs : List GRule) (w : World) (h : Sl RuleE w w.heap.size v rs) (hn : rs.length ≤ 1099511627776) :
    Calls Try.prog 49 #[.agg #[v]] w fun e w' => e = .returned (.bool (gramOk rs)) ∧ Below w.heap.size w w' := by
  have h1 := fun o => (h.below ((Below.refl w.heap.size w).alloc (Nat.le_refl _) o)).le (B' := (w.alloc o).heap.size) (by simp)
  have H1 := Lib.hid h1
  clear h1 h
  go_enter Try.func49, Try.ntmps49
  go_wp2_with fail
  refine (lengths_any _ _ _ (H1.out _) hn).mono ?_
  rintro e w1 ⟨hb, (⟨ls, v1, h1, rfl, h2⟩ | ⟨h1, rfl⟩)⟩
  · have e1 : gramOk rs = decide (rs.length ≤ 400) := by simp [gramOk, h1]
    have E1 := Lib.hid e1
    clear h1 h2 e1
    go_wp2
    go_ret
    exact ⟨ret_bool (by rw [E1.out]), ((Below.refl _ _).alloc (Nat.le_refl _) _).trans (hb.mono (by simp))⟩
  · have e1 : gramOk rs = false := by simp [gramOk, h1]
    have E1 := Lib.hid e1
    clear h1 e1
    go_wp2
    go_ret
    exact ⟨ret_bool (by rw [E1.out]), ((Below.refl _ _).alloc (Nat.le_refl _) _).trans (hb.mono (by simp))⟩
def inR (n a b : Int) : Bool := decide (a ≤ n) && decide (n ≤ b)
structure Wk (C : Nat → Prop) (w w' : World) : Prop where
  os : w'.os = w.os
  tape : w'.tape = w.tape
  output : w'.output = w.output
  size : w.heap.size ≤ w'.heap.size
  block : ∀ k, C k → w'.heap[k]? = w.heap[k]?
section
variable {C C' : Nat → Prop} {a b c : World}
theorem Wk.refl (C : Nat → Prop) (w : World) : Wk C w w := ⟨rfl, rfl, rfl, Nat.le_refl _, fun _ _ => rfl⟩
theorem Wk.trans (h : Wk C a b) (k : Wk C b c) : Wk C a c := ⟨k.os.trans h.os, k.tape.trans h.tape, k.output.trans h.output, Nat.le_trans h.size k.size, fun i hi => (k.block i hi).trans (h.block i hi)⟩
theorem Wk.mono (h : Wk C a b) (hs : ∀ k, C' k → C k) : Wk C' a b := ⟨h.os, h.tape, h.output, h.size, fun i hi => h.block i (hs i hi)⟩
theorem Wk.of_below {B : Nat} (h : Below B a b) (hs : ∀ k, C k → k < B) : Wk C a b := ⟨h.os, h.tape, h.output, h.size, fun i hi => h.block i (hs i hi)⟩
theorem Wk.below {B : Nat} (h : Wk C a b) (hs : ∀ k, k < B → C k) : Below B a b := ⟨h.os, h.tape, h.output, h.size, fun i hi => h.block i (hs i hi)⟩
theorem Wk.keep (h : Wk C a b) : Keep C a b := fun i hi => h.block i hi
theorem Wk.cell {k o : Nat} {v : Value} (h : Wk C a b) (hk : C k) (hc : a.cell? ⟨k, o, none⟩ = some v) : b.cell? ⟨k, o, none⟩ = some v := (h.keep.cell hk).trans hc
end
def getR (xs : List GRule) (r : Nat) : GRule := xs.getD r ⟨⟨#[]⟩, 0, 0⟩
def coverR (xs : List GRule) (ls : List Int) (i j : Int) : Nat → Nat → Int → List Nat
  | 0, _, _ => []
  | f + 1, r, p =>
    if p + ls.getD r 0 ≤ i ∨ j ≤ p then [] else if i ≤ p ∧ p + ls.getD r 0 ≤ j then [r] else
      coverR xs ls i j f (getR xs r).left.toNat p ++ coverR xs ls i j f (getR xs r).right.toNat (p + ls.getD (getR xs r).left.toNat 0)
def piecesL (xs : List GRule) (ls : List Int) (i j : Int) : List Nat := if 0 < xs.length ∧ i < j then coverR xs ls i j xs.length (xs.length - 1) 0 else []
theorem lens_steps {xs : List GRule} {ls : List Int} (h : lens xs = some ls) : ∀ (k : Nat) r, xs[k]? = some r → okRule k r = true ∧ ls.getD k 0 = ruleLen ls r := by
  suffices H : ∀ (ys : List GRule) (a o : List Int), ys.foldl lensStep (some a) = some o → (∃ t, o = a ++ t) ∧ ∀ (k : Nat) r, ys[k]? = some r → okRule (a.length + k) r = true ∧ o.getD (a.length + k) 0 = ruleLen o r by
    intro k r hr
    have := (H xs [] ls h).2 k r hr
    simpa using this
  intro ys
  induction ys with
  | nil => intro a o h; simp at h; subst h; exact ⟨⟨[], by simp⟩, fun k r hr => by simp at hr⟩
  | cons x ys ih =>
    intro a o h
    simp only [List.foldl_cons, lensStep, Option.bind_some] at h
    split at h
    · rename_i hc
      obtain ⟨⟨t, ht⟩, h2⟩ := ih _ _ h
      subst ht
      refine ⟨⟨ruleLen a x :: t, by simp⟩, fun k r hr => ?_⟩
      cases k with
      | zero =>
        simp at hr
        subst hr
        refine ⟨by simpa using hc.1, ?_⟩
        have e : (a ++ [ruleLen a x] ++ t).getD (a.length + 0) 0 = ruleLen a x := by
          rw [List.getD_eq_getElem?_getD, List.getElem?_append_left (by simp), List.getElem?_append_right (by omega)]
          simp
        rw [e]
        unfold ruleLen
        split
        · rename_i hp
          have hok := hc.1
          simp only [okRule, hp, if_true, Bool.and_eq_true, decide_eq_true_eq] at hok
          rw [List.append_assoc]
          simp only [List.getD_eq_getElem?_getD]
          rw [List.getElem?_append_left (by omega), List.getElem?_append_left (by omega)]
        · rfl
      | succ k =>
        have := h2 k r (by simpa using hr)
        simp only [List.length_append, List.length_cons, List.length_nil] at this
        rw [show a.length + (k + 1) = a.length + (0 + 1) + k by omega]
        exact this
    · rw [lens_none] at h; cases h
theorem getR_at {xs : List GRule} {r : Nat} (h : r < xs.length) : xs[r]? = some (getR xs r) := by
  unfold getR; rw [List.getD_eq_getElem?_getD, List.getElem?_eq_getElem h]; rfl
theorem lens_pos' {xs : List GRule} {ls : List Int} (h : lens xs = some ls) {r : Nat} (hr : r < xs.length) : 1 ≤ ls.getD r 0 ∧ ls.getD r 0 ≤ 1000000000000000 := by
  have hl := lens_length h
  have := lens_pos h ls[r] (List.getElem_mem (by omega))
  rw [List.getD_eq_getElem?_getD, List.getElem?_eq_getElem (by omega)]; exact this
theorem lens_pair {xs : List GRule} {ls : List Int} (h : lens xs = some ls) {r : Nat} (hr : r < xs.length) (hp : (getR xs r).pair = true) :
    0 ≤ (getR xs r).left ∧ (getR xs r).left.toNat < r ∧ 0 ≤ (getR xs r).right ∧ (getR xs r).right.toNat < r ∧ ls.getD r 0 = ls.getD (getR xs r).left.toNat 0 + ls.getD (getR xs r).right.toNat 0 := by
  obtain ⟨h1, h2⟩ := lens_steps h r _ (getR_at hr)
  simp only [okRule, hp, if_true, Bool.and_eq_true, decide_eq_true_eq] at h1
  simp only [ruleLen, hp, if_true] at h2
  exact ⟨h1.1.1.1, by omega, h1.1.2, by omega, h2⟩
theorem lens_letter {xs : List GRule} {ls : List Int} (h : lens xs = some ls) {r : Nat} (hr : r < xs.length) (hp : (getR xs r).pair = false) : ls.getD r 0 = 1 := by
  obtain ⟨h1, h2⟩ := lens_steps h r _ (getR_at hr)
  simpa [ruleLen, hp] using h2
section
variable {σ : Type}
def NoB (o : Obj) : Prop := ∀ c fz, o ≠ .cells c 5 fz
theorem NoB.cells {c : Array Value} {t : TypeId} {fz : Nat × Nat} (h : t ≠ 5) : NoB (.cells c t fz) := fun _ _ e => by
  injection e with _ h2 _; exact h h2
def NewNoB (a : Nat) (w : World) : Prop := ∀ k, a ≤ k → ∀ c fz, w.heap[k]? ≠ some (.cells c 5 fz)
theorem NewNoB.same (w : World) : NewNoB w.heap.size w := fun k hk c fz e => by
  have := (Array.getElem?_eq_some_iff.1 e).1
  omega
theorem NewNoB.alloc {a : Nat} {w : World} (h : NewNoB a w) {o : Obj} (ho : NoB o) : NewNoB a (w.alloc o) := fun k hk c fz e => by
  have hl := (Array.getElem?_eq_some_iff.1 e).1
  rcases Nat.lt_or_ge k w.heap.size with h1 | h1
  · rw [Below.heap_alloc _ _ _ h1] at e
    exact h k hk c fz e
  · have : k = w.heap.size := by simp at hl; omega
    subst this
    rw [heap_alloc_new] at e
    exact ho c fz (Option.some.inj e)
def Runs (step : σ → Nat → σ) (Ok : σ → Nat → Prop) (s : σ) (l : List Nat) : Prop := ∀ l1 r l2, l = l1 ++ r :: l2 → Ok (l1.foldl step s) r
theorem Runs.one {step : σ → Nat → σ} {Ok : σ → Nat → Prop} {s : σ} {r : Nat} (h : Runs step Ok s [r]) : Ok s r := h [] r [] rfl
theorem Runs.left {step : σ → Nat → σ} {Ok : σ → Nat → Prop} {s : σ} {a b : List Nat} (h : Runs step Ok s (a ++ b)) : Runs step Ok s a := fun l1 r l2 e => h l1 r (l2 ++ b) (by rw [e]; simp)
theorem Runs.right {step : σ → Nat → σ} {Ok : σ → Nat → Prop} {s : σ} {a b : List Nat} (h : Runs step Ok s (a ++ b)) : Runs step Ok (a.foldl step s) b := fun l1 r l2 e => by
  have := h (a ++ l1) r l2 (by rw [e]; simp)
  rwa [List.foldl_append] at this
theorem Runs.all {step : σ → Nat → σ} {Ok : σ → Nat → Prop} {s : σ} {l : List Nat} (h : ∀ s r, Ok s r) : Runs step Ok s l := fun _ _ _ _ => h _ _
def TakePost (J : (Nat → Prop) → σ → World → Prop) (C : Nat → Prop) (s' : σ) (w : World) (e : Ending) (w' : World) : Prop :=
  e = .returned (.tuple #[]) ∧ ∃ C', (∀ b, C b → C' b) ∧ (∀ b, C' b → b < w'.heap.size) ∧ J C' s' w' ∧ Wk C w w'
structure PSet (w : World) (C : Nat → Prop) (bl bi bj bw bg bt : Nat) (vL vW vR : Value) (i j : Int) (ls : List Int) (xs : List GRule) : Prop where
  cl : w.cell? ⟨bl, 0, none⟩ = some vL
  ci : w.cell? ⟨bi, 0, none⟩ = some (.int .i64 i)
  cj : w.cell? ⟨bj, 0, none⟩ = some (.int .i64 j)
  cw : w.cell? ⟨bw, 0, none⟩ = some vW
  cg : w.cell? ⟨bg, 0, none⟩ = some vR
  ct : w.cell? ⟨bt, 0, none⟩ = some (.func (.func 109) #[] #[.pointer (some ⟨bl, 0, none⟩), .pointer (some ⟨bi, 0, none⟩), .pointer (some ⟨bj, 0, none⟩), .pointer (some ⟨bw, 0, none⟩), .pointer (some ⟨bg, 0, none⟩), .pointer (some ⟨bt, 0, none⟩)])
  ml : C bl
  mi : C bi
  mj : C bj
  mw : C bw
  mg : C bg
  mt : C bt
  sl : SlS IntE w C vL ls
  sr : SlS RuleE w C vR xs
  lt : ∀ b, C b → b < w.heap.size
theorem PSet.up {w w' : World} {C C' : Nat → Prop} {bl bi bj bw bg bt : Nat} {vL vW vR : Value} {i j : Int} {ls : List Int} {xs : List GRule} (h : PSet w C bl bi bj bw bg bt vL vW vR i j ls xs)
    (hw : Wk C w w') (hs : ∀ b, C b → C' b) (hl : ∀ b, C' b → b < w'.heap.size) : PSet w' C' bl bi bj bw bg bt vL vW vR i j ls xs :=
  ⟨hw.cell h.ml h.cl, hw.cell h.mi h.ci, hw.cell h.mj h.cj, hw.cell h.mw h.cw, hw.cell h.mg h.cg, hw.cell h.mt h.ct, hs _ h.ml, hs _ h.mi, hs _ h.mj, hs _ h.mw, hs _ h.mg, hs _ h.mt,
    (h.sl.keep hw.keep).more hs, (h.sr.keep hw.keep).more hs, hl⟩
def ext (C : Nat → Prop) (a b : Nat) : Nat → Prop := fun k => C k ∨ (a ≤ k ∧ k < b)
set_option maxRecDepth 100000 in
set_option maxHeartbeats 2000000 in
theorem take_any (J : (Nat → Prop) → σ → World → Prop) (step : σ → Nat → σ) (Ok : σ → Nat → Prop) (F : FuncId) (cap : Array Value) (xs : List GRule) (ls : List Int) (i j : Int) (hlens : lens xs = some ls) 
    (eg : ∀ args w, (callFunc F args).run Try.prog w = .ok (.enter F args) w)
    (hext : ∀ C s w w', J C s w → Below w.heap.size w w' → NewNoB w.heap.size w' → (∀ b, C b → b < w.heap.size) → J (ext C w.heap.size w'.heap.size) s w')
    (hwith : ∀ C s (r : Nat) (w : World), J C s w → Ok s r → r < xs.length → (∀ b, C b → b < w.heap.size) → Calls Try.prog F (#[.int .i64 r] ++ cap) w (TakePost J C (step s r) w))
    (bl bi bj bw bg bt : Nat) (vL vR : Value) (f : Nat) :
    ∀ (r : Nat) (p : Int) (s : σ) (C : Nat → Prop) (w : World), r < f → r < xs.length → 0 ≤ p → p + ls.getD r 0 ≤ 1000000000000000 → J C s w → Runs step Ok s (coverR xs ls i j f r p) →
      PSet w C bl bi bj bw bg bt vL (.func (.func F) #[] cap) vR i j ls xs →
      Calls Try.prog 109 #[.int .i64 r, .int .i64 p, .pointer (some ⟨bl, 0, none⟩), .pointer (some ⟨bi, 0, none⟩), .pointer (some ⟨bj, 0, none⟩), .pointer (some ⟨bw, 0, none⟩), .pointer (some ⟨bg, 0, none⟩), .pointer (some ⟨bt, 0, none⟩)] w
        (TakePost J C ((coverR xs ls i j f r p).foldl step s) w) := by
  induction f with
  | zero => intro r p s C w h; omega
  | succ f ih =>
    intro r p s C w hf hr hp0 hp1 hJ hRu hS
    have Ih := Lib.hid ih
    have HRu := Lib.hid hRu
    clear hRu
    have Hw := Lib.hid hwith
    have He := Lib.hid hext
    have HJ := Lib.hid hJ
    have HS := Lib.hid hS
    clear ih hwith hext hJ
    have hcl := hS.cl
    have hci := hS.ci
    have hcj := hS.cj
    have hcw := hS.cw
    have hll := lens_length hlens
    obtain ⟨AL, cL, rfl, _, _, hrowL⟩ := hS.sl
    obtain ⟨b1, o1, rfl, hb1, hcellL⟩ := hrowL.int (k := r) (by omega)
    have hcr := hcellL r (by omega)
    have hri : (r : Int) < (ls.length : Int) := by omega
    have hpos := lens_pos' hlens hr
    have Hxy : Hid (∀ y, ls.getD r 0 = y → coverR xs ls i j (f + 1) r p = if p + y ≤ i ∨ j ≤ p then [] else if i ≤ p ∧ p + y ≤ j then [r] else
      coverR xs ls i j f (getR xs r).left.toNat p ++ coverR xs ls i j f (getR xs r).right.toNat (p + ls.getD (getR xs r).left.toNat 0)) := by rintro y rfl; rfl
    have Hll := Lib.hid hll
    have HcL := Lib.hid hcellL
    have Hb1 := Lib.hid hb1
    clear hcellL hll
    obtain ⟨n, hn⟩ : ∃ n, ls.getD r 0 = n := ⟨_, rfl⟩
    rw [hn] at hcr hpos hp1
    have Hn := Lib.hid hn
    have hcov := Hxy.out n hn
    have Hcov := Lib.hid hcov
    rw [hcov] at HRu
    clear hn hcov
    have e144 : ∀ args w, (callFunc 109 args).run Try.prog w = .ok (.enter 109 args) w := enters_of Try.func109 (by kernel_rfl) rfl
    by_cases c1 : p + n ≤ i
    · rw [if_pos (Or.inl c1)] at Hcov HRu
      go_enter Try.func109, Try.ntmps109
      go_wp2_with fail
      go_end0
      exact ⟨rfl, C, fun _ h => h, HS.out.lt, by rw [Hcov.out]; exact HJ.out, Wk.refl _ _⟩
    · by_cases c2 : j ≤ p
      · rw [if_pos (Or.inr c2)] at Hcov HRu
        go_enter Try.func109, Try.ntmps109
        go_wp2_with fail
        go_end0
        exact ⟨rfl, C, fun _ h => h, HS.out.lt, by rw [Hcov.out]; exact HJ.out, Wk.refl _ _⟩
      · rw [if_neg (by omega)] at Hcov HRu
        by_cases c34 : i ≤ p ∧ p + n ≤ j
        · rw [if_pos c34] at Hcov HRu
          obtain ⟨c3, c4⟩ := c34
          go_enter Try.func109, Try.ntmps109
          go_wp2_with fail
          refine (Hw.out C s r w HJ.out HRu.out.one hr HS.out.lt).mono ?_
          rintro e w2 ⟨rfl, C', h1, h2, h3, h4⟩
          go_wp2_with fail
          go_end0
          exact ⟨rfl, C', h1, h2, by rw [Hcov.out]; exact h3, h4⟩
        · rw [if_neg c34] at Hcov HRu
          have hpair : (getR xs r).pair = true := by
            by_cases hp : (getR xs r).pair = true
            · exact hp
            · have := lens_letter hlens hr (by simpa using hp)
              have := Hn.out
              omega
          obtain ⟨hl0, hlr, hr0, hrr, hsum⟩ := lens_pair hlens hr hpair
          obtain ⟨AR, cR, rfl, _, _, hrowR⟩ := HS.out.sr
          obtain ⟨b2, o2, rfl, hb2, hcellR⟩ := hrowR.rule (k := r) hr
          obtain ⟨k0, k1, k2⟩ := hcellR r _ (getR_at hr)
          generalize hR : getR xs r = R at *
          obtain ⟨rs, rl, rr⟩ := R
          obtain ⟨l, rfl⟩ := Int.eq_ofNat_of_zero_le hl0
          obtain ⟨q, rfl⟩ := Int.eq_ofNat_of_zero_le hr0
          simp only [Int.toNat_natCast] at hlr hrr hsum Hcov HRu
          have hcg := HS.out.cg
          have hct := HS.out.ct
          have lbt : bt < w.heap.size := HS.out.lt _ HS.out.mt
          have hpl := lens_pos' hlens (r := l) (by omega)
          have hpq := lens_pos' hlens (r := q) (by omega)
          have hrx : (r : Int) < (xs.length : Int) := by omega
          have hll := Hll.out
          have hsn : n = ls.getD l 0 + ls.getD q 0 := by rw [← Hn.out]; exact hsum
          obtain ⟨m, hm⟩ : ∃ m, ls.getD l 0 = m := ⟨_, rfl⟩
          obtain ⟨m', hm'⟩ : ∃ m', ls.getD q 0 = m' := ⟨_, rfl⟩
          rw [hm] at hsn hpl
          rw [hm'] at hsn hpq
          rw [hm] at Hcov HRu
          have Hm := Lib.hid hm
          have Hm' := Lib.hid hm'
          have Hsn := Lib.hid hsn
          have hl3 : p + m ≤ 1000000000000000 := by omega
          have hq3 : p + m + m' ≤ 1000000000000000 := by omega
          have hq0 : 0 ≤ p + m := by omega
          have Hq0 := Lib.hid hq0
          have Hl3 := Lib.hid hl3
          have Hq3 := Lib.hid hq3
          have hBA : ∀ o, Below w.heap.size w (w.alloc o) := fun o => (Below.refl _ _).alloc (Nat.le_refl _) _
          have HBA := Lib.hid hBA
          have HS1 : ∀ o, PSet (w.alloc o) (ext C w.heap.size (w.alloc o).heap.size) bl bi bj bw bg bt (.slice (some ⟨b1, o1, none⟩) ls.length cL) (.func (.func F) #[] cap) (.slice (some ⟨b2, o2, none⟩) xs.length cR) i j ls xs := fun o =>
            HS.out.up (Wk.of_below (HBA.out o) HS.out.lt) (fun b h => Or.inl h) (fun b h => by rcases h with h | h; exact Nat.lt_of_lt_of_le (HS.out.lt b h) (HBA.out o).size; exact h.2)
          have HJ1 : ∀ o, NoB o → J (ext C w.heap.size (w.alloc o).heap.size) s (w.alloc o) := fun o ho => He.out C s w _ HJ.out (HBA.out o) ((NewNoB.same w).alloc ho) HS.out.lt
          have HSS1 := Lib.hid HS1
          have HJJ1 := Lib.hid HJ1
          have hlx : l < xs.length := by omega
          have hqx : q < xs.length := by omega
          have hlf : l < f := by omega
          have hqf : q < f := by omega
          have Hpair := Lib.hid hpair
          have HR := Lib.hid hR
          have hc34 : (i ≤ p ∧ ¬ p + n ≤ j) ∨ ¬ i ≤ p := by omega
          clear hm hm' hpair hcellR hsum hR hrowL hrowR hb1 hb2 hBA HS1 HJ1 hsn c34
          rcases hc34 with ⟨c3, c4⟩ | c3
          all_goals
            go_enter Try.func109, Try.ntmps109
            go_wp2_with fail
            refine (Ih.out l p s _ _ hlf hlx hp0 (by rw [Hm.out]; exact Hl3.out) (HJJ1.out _ (NoB.cells (by decide))) HRu.out.left (HSS1.out _)).mono ?_
            rintro e w2 ⟨rfl, C2, g1, g2, g3, g4⟩
            have hbx0 : w2.cell? ⟨w.heap.size, 0, none⟩ = some (.string rs) := g4.cell (Or.inr (by simp)) (by simp [go_sem])
            have hbx1 : w2.cell? ⟨w.heap.size, 1, none⟩ = some (.int .i64 l) := g4.cell (Or.inr (by simp)) (by simp [go_sem])
            have hbx2 : w2.cell? ⟨w.heap.size, 2, none⟩ = some (.int .i64 q) := g4.cell (Or.inr (by simp)) (by simp [go_sem])
            have S2 := Lib.hid ((HSS1.out _).up g4 g1 g2)
            have hcl2 := S2.out.cl
            have hct2 := S2.out.ct
            have hcq : w2.cell? ⟨b1, o1 + l, none⟩ = some (.int .i64 m) := g4.cell (Or.inl Hb1.out) (((HBA.out _).cell (p := ⟨b1, o1 + l, none⟩) (HS.out.lt _ Hb1.out)).trans (by rw [HcL.out l (by have := Hll.out; omega), Hm.out]))
            have hli : (l : Int) < (ls.length : Int) := by have := Hll.out; omega
            go_wp2_with fail
            go_still_tail 10, (by kernel_rfl)
            change wpList _ _ _ _ _ w2.drew
            have HB3 := Lib.hid (Below.drew (Below.refl w2.heap.size w2))
            have HJ3 := Lib.hid (He.out C2 _ w2 _ g3 HB3.out (NewNoB.same w2) g2)
            have S3 := Lib.hid (S2.out.up (Wk.of_below HB3.out g2) (C' := ext C2 w2.heap.size w2.drew.heap.size) (fun b h => Or.inl h) (fun b h => by rcases h with h | h; exact g2 b h; exact h.2))
            have W2 := Lib.hid (((Wk.of_below (HBA.out _) HS.out.lt).trans (g4.mono (C' := C) fun b h => Or.inl h)).trans (Wk.of_below HB3.out (fun b h => g2 _ (g1 _ (Or.inl h)))))
            generalize w2.drew = w3 at *
            go_wp2_with fail
            refine (Ih.out q (p + m) _ _ _ hqf hqx Hq0.out (by rw [Hm'.out]; exact Hq3.out) HJ3.out HRu.out.right S3.out).mono ?_
            rintro e w4 ⟨rfl, C4, k1, k2, k3, k4⟩
            go_wp2_with fail
            go_end0
            refine ⟨rfl, C4, fun b h => k1 _ (Or.inl (g1 _ (Or.inl h))), k2, ?_, ?_⟩
            · rw [Hcov.out, List.foldl_append]; exact k3
            · exact W2.out.trans (k4.mono fun b h => Or.inl (g1 _ (Or.inl h)))
end
section
variable {σ : Type}
set_option maxRecDepth 100000 in
set_option maxHeartbeats 1000000 in
theorem pieces_any (J : (Nat → Prop) → σ → World → Prop) (step : σ → Nat → σ) (Ok : σ → Nat → Prop) (F : FuncId) (cap : Array Value) (xs : List GRule) (ls : List Int) (i j : Int) (hlens : lens xs = some ls) (hxs : xs.length ≤ 1099511627776)
    (eg : ∀ args w, (callFunc F args).run Try.prog w = .ok (.enter F args) w)
    (hext : ∀ C s w w', J C s w → Below w.heap.size w w' → NewNoB w.heap.size w' → (∀ b, C b → b < w.heap.size) → J (ext C w.heap.size w'.heap.size) s w')
    (hwith : ∀ C s (r : Nat) (w : World), J C s w → Ok s r → r < xs.length → (∀ b, C b → b < w.heap.size) → Calls Try.prog F (#[.int .i64 r] ++ cap) w (TakePost J C (step s r) w))
    (vL vR : Value) (s : σ) (C : Nat → Prop) (w : World) (hJ : J C s w) (hRu : Runs step Ok s (piecesL xs ls i j)) (hlt : ∀ b, C b → b < w.heap.size) (hL : SlS IntE w C vL ls) (hR : SlS RuleE w C vR xs) :
    Calls Try.prog 95 #[.agg #[vR], vL, .int .i64 i, .int .i64 j, .func (.func F) #[] cap] w (TakePost J C ((piecesL xs ls i j).foldl step s) w) := by
  have HT := Lib.hid (take_any J step Ok F cap xs ls i j hlens eg hext hwith (w.heap.size + 1) (w.heap.size + 1 + 1) (w.heap.size + 1 + 1 + 1) (w.heap.size + 1 + 1 + 1 + 1) w.heap.size (w.heap.size + 1 + 1 + 1 + 1 + 1) vL vR xs.length)
  have He := Lib.hid hext
  have HJ := Lib.hid hJ
  have HRu := Lib.hid hRu
  clear hRu
  have HL := Lib.hid hL
  have HR := Lib.hid hR
  have Hlt := Lib.hid hlt
  clear hwith hext hJ eg hL
  obtain ⟨AR, cR, rfl, _, _, hrowR⟩ := hR
  clear hrowR
  obtain ⟨AL, cL, rfl, _⟩ := HL.out
  have hB : ∀ o1 o2 o3 o4 o5 o6, Below w.heap.size w ((((((w.alloc o1).alloc o2).alloc o3).alloc o4).alloc o5).alloc o6) := fun o1 o2 o3 o4 o5 o6 => (by repeat (first | exact Below.refl _ _ | (refine Below.alloc ?_ (by first | omega | (simp; done) | (simp; omega)) _) | refine below_drewN ?_ _ | refine Below.drew ?_))
  have hJ6 : ∀ o1 o2 o3 o4 o5 o6, NoB o1 → NoB o2 → NoB o3 → NoB o4 → NoB o5 → NoB o6 → J (ext C w.heap.size (w.heap.size + 6)) s ((((((w.alloc o1).alloc o2).alloc o3).alloc o4).alloc o5).alloc o6) := fun o1 o2 o3 o4 o5 o6 n1 n2 n3 n4 n5 n6 => by
    have := He.out C s w ((((((w.alloc o1).alloc o2).alloc o3).alloc o4).alloc o5).alloc o6) HJ.out (hB _ _ _ _ _ _) ((((((((NewNoB.same w).alloc n1).alloc n2).alloc n3).alloc n4).alloc n5).alloc n6)) Hlt.out
    simpa using this
  have hK6 : ∀ o1 o2 o3 o4 o5 o6, Keep C w ((((((w.alloc o1).alloc o2).alloc o3).alloc o4).alloc o5).alloc o6) := fun o1 o2 o3 o4 o5 o6 => (Wk.of_below (hB _ _ _ _ _ _) Hlt.out).keep
  by_cases h0 : 0 < xs.length ∧ i < j
  · obtain ⟨h1, h2⟩ := h0
    go_enter Try.func95, Try.ntmps95
    go_wp2_with fail
    rw [show ((xs.length : Int) - 1) = ((xs.length - 1 : Nat) : Int) by omega]
    refine (HT.out (xs.length - 1) 0 s (ext C w.heap.size (w.heap.size + 6)) _ (by omega) (by omega) (by omega) ?_ ?_ ?_ ?_).mono ?_
    · have := lens_pos' hlens (r := xs.length - 1) (by omega); omega
    · exact hJ6 _ _ _ _ _ _ (NoB.cells (by decide)) (NoB.cells (by decide)) (NoB.cells (by decide)) (NoB.cells (by decide)) (NoB.cells (by decide)) (NoB.cells (by decide))
    · have := HRu.out
      rwa [piecesL, if_pos ⟨h1, h2⟩] at this
    · have hk := hK6
      exact ⟨by simp [go_sem], by simp [go_sem], by simp [go_sem], by simp [go_sem], by simp [go_sem], by simp [go_sem], Or.inr (by omega), Or.inr (by omega), Or.inr (by omega), Or.inr (by omega), Or.inr (by omega), Or.inr (by omega), (HL.out.keep (hk _ _ _ _ _ _)).more fun b h => Or.inl h, (HR.out.keep (hk _ _ _ _ _ _)).more fun b h => Or.inl h, fun b h => by
        simp
        rcases h with h | h
        · have := Hlt.out b h; omega
        · exact h.2⟩
    · rintro e w2 ⟨rfl, C2, g1, g2, g3, g4⟩
      go_wp2_with fail
      go_end0
      refine ⟨rfl, C2, fun b h => g1 _ (Or.inl h), g2, ?_, ?_⟩
      · rw [piecesL, if_pos ⟨h1, h2⟩]; exact g3
      · exact (Wk.of_below (hB _ _ _ _ _ _) Hlt.out).trans (g4.mono fun b h => Or.inl h)
  · have hp : piecesL xs ls i j = [] := by rw [piecesL, if_neg h0]
    have Hp := Lib.hid hp
    have hh : ¬ 0 < xs.length ∨ (0 < xs.length ∧ ¬ i < j) := by omega
    clear hp h0
    rcases hh with h1 | ⟨h1, h2⟩
    all_goals
      go_enter Try.func95, Try.ntmps95
      go_wp2_with fail
      go_end0
      refine ⟨rfl, ext C w.heap.size (w.heap.size + 6), fun b h => Or.inl h, ?_, ?_, Wk.of_below (hB _ _ _ _ _ _) Hlt.out⟩
      · intro b h
        simp
        rcases h with h | h
        · have := Hlt.out b h; omega
        · exact h.2
      · rw [Hp.out]
        exact hJ6 _ _ _ _ _ _ (NoB.cells (by decide)) (NoB.cells (by decide)) (NoB.cells (by decide)) (NoB.cells (by decide)) (NoB.cells (by decide)) (NoB.cells (by decide))
end
theorem row_cells {α : Type} {E : Enc α} {w : World} {S : Nat → Prop} {a : Addr} {xs : List α} (h : Row E w S (some a) xs) (cs : List Value) (hcs : cs.length = xs.length * E.size)
    (hc : ∀ k x us, xs[k]? = some x → E.cells w S x us → ∀ j u, us[j]? = some u → cs[k * E.size + j]? = some u) : ∀ j u, cs[j]? = some u → w.cell? (a.add j) = some u := by
  intro j u hu
  have hj : j < xs.length * E.size := by rw [← hcs]; exact (List.getElem?_eq_some_iff.1 hu).1
  have hpos : 0 < xs.length := by
    rcases Nat.eq_zero_or_pos xs.length with h0 | h0
    · rw [h0, Nat.zero_mul] at hj; omega
    · exact h0
  obtain ⟨b, o, he, hs, hr⟩ := h hpos
  injection he with he
  subst he
  have hk : j / E.size < xs.length := (Nat.div_lt_iff_lt_mul E.pos).2 hj
  obtain ⟨us, h1, h2⟩ := hr (j / E.size) xs[j / E.size] (List.getElem?_eq_getElem hk)
  have hm : j % E.size < us.length := by rw [E.len h1]; exact Nat.mod_lt _ E.pos
  have h3 := h2 (j % E.size) us[j % E.size] (List.getElem?_eq_getElem hm)
  have h4 := hc _ _ _ (List.getElem?_eq_getElem hk) h1 (j % E.size) us[j % E.size] (List.getElem?_eq_getElem hm)
  rw [Nat.mul_comm, Nat.div_add_mod] at h3 h4
  rw [h4] at hu
  injection hu with hu
  subst hu
  have : (⟨b, o, none⟩ : Addr).add j = ⟨b, o + j, none⟩ := by unfold Addr.add; split <;> simp_all
  rw [this]; exact h3
theorem cells_len (xs : List GRule) : (xs.flatMap GRule.cells).length = xs.length * 3 := by
  induction xs with
  | nil => rfl
  | cons x xs ih =>
    rw [List.flatMap_cons, List.length_append, ih, List.length_cons]
    show 3 + _ = _
    omega
theorem rules_cells {w : World} {S : Nat → Prop} {a : Addr} {xs : List GRule} (h : Row RuleE w S (some a) xs) : ∀ j u, (xs.flatMap GRule.cells)[j]? = some u → w.cell? (a.add j) = some u := by
  refine row_cells h _ (cells_len xs) ?_
  · intro k x us hk hus j u hu
    obtain ⟨c0, c1, c2⟩ := cells3 xs k x hk
    have e : us = x.cells := hus
    subst e
    match j, hu with
    | 0, hu => simp [GRule.cells] at hu; subst hu; simpa [RuleE] using c0
    | 1, hu => simp [GRule.cells] at hu; subst hu; simpa [RuleE] using c1
    | 2, hu => simp [GRule.cells] at hu; subst hu; simpa [RuleE] using c2
    | j + 3, hu => simp [GRule.cells] at hu
theorem rules_one (xs : List GRule) : ∀ u ∈ xs.flatMap GRule.cells, u.oneCell' = true := by
  intro u hu
  rw [List.mem_flatMap] at hu
  obtain ⟨x, _, hx⟩ := hu
  simp [GRule.cells] at hx
  rcases hx with rfl | rfl | rfl <;> rfl
theorem run_append_of_nil {P : Program} (w : World) (base : Nat) (t ty e : TypeId) (i : TypeInfo) (size : Nat) (ht : P.underlying t = some (.slice e)) (hi : P.info? e = some i)
    (v : Value) (n : Nat) (xs : List Value) (hown : w.ownsRow base e size v n xs) (c : Nat) : (Builtin.append_ #[t, t] ty #[v, .slice none 0 c]).run P w = .ok v w := by
  rcases hown.2 with ⟨rfl, rfl⟩ | ⟨g, cap, cur, rfl, _, _, hnc, _⟩
  · simp [Builtin.append_, run_underlying ht, sizeOf, typeInfo, hi, Builtin.lenOf, Builtin.firstCells]
  · simp [Builtin.append_, run_underlying ht, sizeOf, typeInfo, hi, Builtin.lenOf, Builtin.firstCells, hnc, storeCells]
theorem append_rules {W : World} {ops : Array Oper} {rest : List Oper} {o : Oper} {a : Act} {Q : Exit → Act → World → Prop} (hgd : o.guard = none) (s x : Operand)
    (ho : o.op = .call { callee := .builtin .append, args := #[s, x], argTypes := #[28, 28] }) {ys : List GRule} {base : Nat} {v sv : Value} {l : List GRule} {S : Nat → Prop}
    (hs : a.eval s = v) (hx : a.eval x = sv) (hown : OwnRules W base v l) (hsl : SlS RuleE W S sv ys) (hlen : l.length + ys.length ≤ 1099511627776) (hbase : base ≤ W.heap.size)
    (h : ∀ v' w', OwnRules w' base v' (l ++ ys) → W.grownBy w' v.ownBlock → Below base W w' → wpList Try.prog ops Q rest (a.put o.dst v') w') :
    wpList Try.prog ops Q (o :: rest) a W := by
  obtain ⟨i0, hi0, hz0, hz1, hz2⟩ := info_parts Try.infoR
  obtain ⟨A, c, rfl, hc, hm, hrow⟩ := hsl
  refine wpList_plain hgd fun _ hK => ?_
  have H : ∃ v' w', (Builtin.append_ #[28, 28] o.type #[v, .slice A ys.length c]).run Try.prog W = .ok v' w' ∧ OwnRules w' base v' (l ++ ys) ∧ W.grownBy w' v.ownBlock := by
    rcases A with _ | ad
    · have h0 : ys = [] := by
        rcases Nat.eq_zero_or_pos ys.length with h0 | h0
        · exact List.eq_nil_of_length_eq_zero h0
        · obtain ⟨b, o, h, _⟩ := hrow h0; cases h
      subst h0
      exact ⟨v, W, run_append_of_nil W base _ _ 111 i0 3 Try.underlying28 hi0 v _ _ hown c, by simpa using hown, World.grownBy.refl W _⟩
    · obtain ⟨v', w', hrun, h2, h3, _⟩ := run_append_own_at (P := Try.prog) W base 28 o.type 111 i0 _ 3 32 Try.underlying28 hi0 hz0 hz1 hz2 rfl (by decide) v _ _ hown ad ys.length c (ys.flatMap GRule.cells)
        (cells_len ys) (rules_cells hrow) (rules_one ys) (by simp only [maxLen]; omega) (by omega) hbase
      exact ⟨v', w', hrun, by unfold OwnRules; simpa using h2, h3⟩
  obtain ⟨v', w', hrun, h2, h3⟩ := H
  unfold Oper.wp execOp
  simp only [ho, resolve, invoke, builtin, Sem.run_bind, Sem.run_pure, Result.andThen_ok, List.map_toArray, List.map_cons, List.map_nil, hs, hx, hrun]
  exact hK _ _ (h v' w' h2 h3 ((Below.refl base W).grown h3 hbase (fun k hk => (World.ownsRow.lt hown k hk).1)))
theorem Clone_any (v : Value) (xs : List GRule) (w : World) (h : Sl RuleE w w.heap.size v xs) (hn : xs.length ≤ 1099511627776) :
    Calls Try.prog 102 #[v] w fun e w' => ∃ v', e = .returned v' ∧ OwnRules w' w.heap.size v' xs ∧ Below w.heap.size w w' := by
  have h1 := fun o => (h.below ((Below.refl w.heap.size w).alloc (Nat.le_refl _) o))
  have H1 := Lib.hid h1
  clear h1
  obtain ⟨A, c, rfl, hc, hm, hrow⟩ := h
  rcases A with _ | ad
  · have h0 : xs = [] := by
      rcases Nat.eq_zero_or_pos xs.length with h0 | h0
      · exact List.eq_nil_of_length_eq_zero h0
      · obtain ⟨b, o, h, _⟩ := hrow h0; cases h
    subst h0
    clear hm hrow
    have heq := fun W => Lib.run_eql_slice_nil (P := Try.prog) W 28 111 none 0 c 0 0 Try.underlying28
    go_enter Try.func102, Try.ntmps102
    go_wp2
    go_ret
    exact ⟨_, rfl, World.ownsRow_nil _ _ _ _, Below.refl _ _⟩
  · clear hm hrow
    have heq := fun W => Lib.run_eql_slice_nil (P := Try.prog) W 28 111 (some ad) xs.length c 0 0 Try.underlying28
    go_enter Try.func102, Try.ntmps102
    go_wp2_with (at_builtin; go_must (refine append_rules rfl _ _ rfl rfl rfl (OwnRules.empty rfl (Nat.le_refl _)) (H1.out _) (by simp; omega) (by simp) ?_); intro v' w1 hown1 hg1 hb1)
    go_ret
    exact ⟨v', rfl, hown1, ((Below.refl _ _).alloc (Nat.le_refl _) _).trans hb1⟩
theorem copied_any (v : Value) (xs : List GRule) (w : World) (h : Sl RuleE w w.heap.size v xs) (hn : xs.length ≤ 1099511627776) :
    Calls Try.prog 80 #[.agg #[v]] w fun e w' => ∃ v', e = .returned (.agg #[v']) ∧ OwnRules w' w.heap.size v' xs ∧ Below w.heap.size w w' := by
  have h1 := fun o o' => (h.below (((Below.refl w.heap.size w).alloc (Nat.le_refl _) o).alloc (by simp) o')).le (B' := ((w.alloc o).alloc o').heap.size) (by simp; omega)
  have H1 := Lib.hid h1
  clear h1
  obtain ⟨A, c, rfl, _⟩ := h
  go_enter Try.func80, Try.ntmps80
  go_wp2_with fail
  refine (Clone_any _ _ _ (H1.out _ _) hn).mono ?_
  rintro e w1 ⟨v1, rfl, hown, hb1⟩
  obtain ⟨A1, c1, rfl, _⟩ := own_nil hown
  obtain ⟨hc1, hf1⟩ := bcell hb1
  have hz1 : w.heap.size + 2 ≤ w1.heap.size := by have := hb1.size; simp at this; omega
  have Hown := Lib.hid hown
  have Hb1 := Lib.hid hb1
  clear hown hb1
  go_wp2
  refine bodyPost_ret (v := .agg #[.slice A1 xs.length c1]) (by simp [results, Try.results80, go_sem, hc1]) rfl ⟨_, rfl, ?_, ?_⟩
  · have h4 : w1.ownsRow (w.heap.size + 2) 111 3 (.slice A1 xs.length c1) xs.length (xs.flatMap GRule.cells) := ownsRow_more Hown.out (by simp)
    exact ownsRow_more (ownsRow_setCell_below h4 (by show w.heap.size + 1 < w.heap.size + 2; omega) _) (by omega)
  · exact ((((Below.refl _ _).alloc (Nat.le_refl _) _).alloc (by simp) _).trans (Hb1.out.mono (by simp; omega))).setCell (by show w.heap.size ≤ w.heap.size + 1; omega) _
theorem l02Own_any (b o : Nat) (v : Value) (xs : List GRule) (w : World) (hp : w.cell? ⟨b, o, none⟩ = some v) (hbl : b < w.heap.size) (h : Sl RuleE w w.heap.size v xs) (hn : xs.length ≤ 1099511627776) :
    Calls Try.prog 103 #[.pointer (some ⟨b, o, none⟩)] w fun e w' => ∃ v', e = .returned (.agg #[v']) ∧ OwnRules w' w.heap.size v' xs ∧ Below w.heap.size w w' := by
  have h1 := fun o o' => (h.below (((Below.refl w.heap.size w).alloc (Nat.le_refl _) o).alloc (by simp) o'))
  have H1 := Lib.hid h1
  clear h1
  obtain ⟨A, c, rfl, _⟩ := h
  go_enter Try.func103, Try.ntmps103
  go_wp2_with (at_builtin; go_must (refine append_rules (base := w.heap.size + 1) rfl _ _ rfl rfl rfl (OwnRules.empty (by simp) (by simp)) (H1.out _ _) (by first | omega | (simp; done) | (simp; omega)) (by first | omega | (simp; done) | (simp; omega)) ?_); intro v' w1 hown1 hg1 hb1; simp only [List.nil_append] at hown1; obtain ⟨A1, c1, rfl, _⟩ := own_nil hown1; obtain ⟨hc1, hf1⟩ := bcell hb1; have Hown := Lib.hid hown1; have hz1 : w.heap.size + 1 ≤ w1.heap.size := (by have := hb1.size; simp at this; omega); clear hg1 hown1)
  refine bodyPost_ret (v := .agg #[.slice A1 xs.length c1]) (by simp [results, Try.results103, go_sem, hc1]) rfl ⟨_, rfl, ?_, ?_⟩
  · have h4 := Hown.out
    exact ownsRow_more (ownsRow_setCell_below h4 (by show w.heap.size < w.heap.size + 1; omega) _) (by omega)
  · exact ((((Below.refl _ _).alloc (Nat.le_refl _) _).alloc (by simp) _).trans (hb1.mono (by omega))).setCell (Nat.le_refl _) _
end Go.Proofs.Ytfkijaamfmpboaa
