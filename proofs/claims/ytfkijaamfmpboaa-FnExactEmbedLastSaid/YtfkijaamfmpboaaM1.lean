import Derived.Laws.Strings
import Derived.Test.YtfkijaamfmpboaaRows
import Derived.WalkKit
import Derived.ProofKit
import Derived.Deep.QuietTactic
import Derived.BigQuiet
import Derived.Deep.LoopGhost
import Derived.Deep.Light
import Derived.Deep.AppendLies
import Derived.Deep.Draws
import Derived.Maps.AppendAt
import Derived.Lib.Hide
import Derived.WalkSpells
import Derived.Deep.DeepMust
import Derived.LoopTactic
import Derived.Deep.RegionHeld3
import Derived.Shelf.Abstract
namespace Go.Proofs.Ytfkijaamfmpboaa
structure GRule where
  letter : ByteArray
  left : Int
  right : Int
  deriving DecidableEq
def maxL : Int := 1000000000000000
def GRule.pair (r : GRule) : Bool := r.letter.size == 0
def isLet (s : ByteArray) : Bool := s.size == 1 && decide (97 ≤ ((s.data.getD 0 0).toNat : Int)) && decide (((s.data.getD 0 0).toNat : Int) ≤ 100)
def okRule (i : Nat) (r : GRule) : Bool :=
  if r.pair then decide (0 ≤ r.left) && decide (r.left ≤ (i : Int) - 1) && decide (0 ≤ r.right) && decide (r.right ≤ (i : Int) - 1) else isLet r.letter && r.left == 0 && r.right == 0
def ruleLen (out : List Int) (r : GRule) : Int := if r.pair then out.getD r.left.toNat 0 + out.getD r.right.toNat 0 else 1
def lensStep (o : Option (List Int)) (r : GRule) : Option (List Int) :=
  o.bind fun out => if okRule out.length r = true ∧ ruleLen out r ≤ maxL then some (out ++ [ruleLen out r]) else none
def lens (rs : List GRule) : Option (List Int) := rs.foldl lensStep (some [])
theorem foldl_take_succ {α β : Type} (f : β → α → β) (s : β) (xs : List α) (k : Nat) (x : α) (h : xs[k]? = some x) :
    (xs.take (k + 1)).foldl f s = f ((xs.take k).foldl f s) x := by
  rw [List.take_add_one, h]; simp
theorem lens_none (xs : List GRule) : xs.foldl lensStep none = none := by
  induction xs with
  | nil => rfl
  | cons x xs ih => simpa [lensStep] using ih
theorem lens_bad {rs : List GRule} {k : Nat} {out : List Int} {r : GRule} (h : lens (rs.take k) = some out) (hr : rs[k]? = some r) (hb : lensStep (some out) r = none) : lens rs = none := by
  have h1 : lens (rs.take (k+1)) = none := by unfold lens at *; rw [foldl_take_succ _ _ _ _ _ hr, h, hb]
  have h2 : lens rs = (rs.drop (k+1)).foldl lensStep (lens (rs.take (k+1))) := by
    unfold lens; rw [← List.foldl_append, List.take_append_drop]
  rw [h2, h1, lens_none]
theorem lens_next {rs : List GRule} {k : Nat} {out : List Int} {r : GRule} (h : lens (rs.take k) = some out) (hr : rs[k]? = some r) (h1 : okRule out.length r = true) (h2 : ruleLen out r ≤ maxL) :
    lens (rs.take (k+1)) = some (out ++ [ruleLen out r]) := by
  unfold lens at *; rw [foldl_take_succ _ _ _ _ _ hr, h]; simp [lensStep, h1, h2]
theorem lens_length {rs : List GRule} {out : List Int} (h : lens rs = some out) : out.length = rs.length := by
  suffices H : ∀ (xs : List GRule) (a o : List Int), xs.foldl lensStep (some a) = some o → o.length = a.length + xs.length by
    simpa using H rs [] out h
  intro xs
  induction xs with
  | nil => intro a o h; simp at h; subst h; simp
  | cons x xs ih =>
    intro a o h
    simp only [List.foldl_cons, lensStep, Option.bind_some] at h
    split at h
    · have := ih _ _ h; simp at this ⊢; omega
    · rw [lens_none] at h; cases h
theorem lens_pos {rs : List GRule} {out : List Int} (h : lens rs = some out) : ∀ v ∈ out, 1 ≤ v ∧ v ≤ maxL := by
  suffices H : ∀ (xs : List GRule) (a o : List Int), (∀ v ∈ a, 1 ≤ v ∧ v ≤ maxL) → xs.foldl lensStep (some a) = some o → ∀ v ∈ o, 1 ≤ v ∧ v ≤ maxL by
    exact H rs [] out (by simp) h
  intro xs
  induction xs with
  | nil => intro a o ha h; simp at h; subst h; exact ha
  | cons x xs ih =>
    intro a o ha h
    simp only [List.foldl_cons, lensStep, Option.bind_some] at h
    split at h
    · rename_i hc
      refine ih _ _ ?_ h
      intro v hv
      rw [List.mem_append] at hv
      rcases hv with hv | hv
      · exact ha v hv
      · simp at hv; subst hv
        refine ⟨?_, hc.2⟩
        unfold ruleLen
        split
        · rename_i hp
          have hok := hc.1
          simp only [okRule, hp, if_true, Bool.and_eq_true, decide_eq_true_eq] at hok
          have g : ∀ j : Nat, j < a.length → 1 ≤ a.getD j 0 := by
            intro j hj
            rw [List.getD_eq_getElem?_getD, List.getElem?_eq_getElem hj]
            exact (ha _ (List.getElem_mem hj)).1
          have g1 := g x.left.toNat (by omega)
          have g2 := g x.right.toNat (by omega)
          omega
        · omega
    · rw [lens_none] at h; cases h
theorem isEmpty_size (s : ByteArray) : s.toList.isEmpty = (s.size == 0) := by
  have h : s.toList = s.data.toList := by
    exact ByteArray.toList_eq s
  rw [h]; show s.data.toList.isEmpty = (s.data.size == 0)
  cases s.data with | mk l => cases l <;> simp
theorem lensStep_none {out : List Int} {r : GRule} (h : okRule out.length r = false) : lensStep (some out) r = none := by simp [lensStep, h]
theorem lensStep_big {out : List Int} {r : GRule} (h : maxL < ruleLen out r) : lensStep (some out) r = none := by
  have : ¬ ruleLen out r ≤ maxL := by omega
  simp [lensStep, this]
section
variable {k : Nat} {r : GRule}
theorem okp_yes (h1 : r.letter.toList.isEmpty = true) (h2 : 0 ≤ r.left ∧ r.left ≤ (k:Int) - 1) (h3 : (!decide (0 ≤ r.right)) = false ∧ (!decide (r.right ≤ (k:Int) - 1)) = false) : okRule k r = true ∧ r.pair = true := by
  rw [isEmpty_size] at h1
  simp at h3
  have hp : r.pair = true := h1
  simp [okRule, hp]; omega
theorem okp_no1 (h1 : r.letter.toList.isEmpty = true) (h2 : ¬ (0 ≤ r.left ∧ r.left ≤ (k:Int) - 1)) : okRule k r = false := by
  rw [isEmpty_size] at h1
  have hp : r.pair = true := h1
  simp [okRule, hp]; omega
theorem okp_no2 (h1 : r.letter.toList.isEmpty = true) (h3 : (!decide (0 ≤ r.right)) = true ∨ (!decide (r.right ≤ (k:Int) - 1)) = true) : okRule k r = false := by
  rw [isEmpty_size] at h1
  have hp : r.pair = true := h1
  simp at h3
  simp [okRule, hp]; omega
theorem getD0 (s : ByteArray) (h : 0 < s.size) : s.data.getD 0 0 = s[0] := by
  have h' : 0 < s.data.size := h
  show s.data.getD 0 0 = s.data[0]
  simp [Array.getD, h]
theorem okl_yes (h1 : r.letter.toList.isEmpty = false) (h2 : (r.letter.size : Int) = 1) (hs : 0 < r.letter.size) (h3 : (97 : Int) ≤ ((r.letter[0]'hs).toNat : Int) ∧ ((r.letter[0]'hs).toNat : Int) ≤ 100) (h4 : r.left = 0) (h5 : (r.right != 0) = false) :
    okRule k r = true ∧ r.pair = false := by
  rw [isEmpty_size] at h1
  have hp : r.pair = false := h1
  simp at h5
  have h2' : r.letter.size = 1 := by omega
  simp only [okRule, hp, isLet, getD0 _ hs, h4, h5, h2']
  simp [h3.1, h3.2]
theorem okl_no1 (h1 : r.letter.toList.isEmpty = false) (h2 : ¬ (r.letter.size : Int) = 1) : okRule k r = false := by
  rw [isEmpty_size] at h1
  have hp : r.pair = false := h1
  have h2' : ¬ r.letter.size = 1 := by omega
  simp [okRule, hp, isLet, h2']
theorem okl_no2 (h1 : r.letter.toList.isEmpty = false) (hs : 0 < r.letter.size) (h3 : ¬ ((97 : Int) ≤ ((r.letter[0]'hs).toNat : Int) ∧ ((r.letter[0]'hs).toNat : Int) ≤ 100)) : okRule k r = false := by
  rw [isEmpty_size] at h1
  have hp : r.pair = false := h1
  simp only [okRule, hp, isLet, getD0 _ hs]
  by_cases ha : (97 : Int) ≤ ((r.letter[0]'hs).toNat : Int)
  · have hb : ¬ ((r.letter[0]'hs).toNat : Int) ≤ 100 := fun hb => h3 ⟨ha, hb⟩
    simp [hb]
  · simp [ha]
theorem okl_no3 (h1 : r.letter.toList.isEmpty = false) (h4 : ¬ r.left = 0) : okRule k r = false := by
  rw [isEmpty_size] at h1
  have hp : r.pair = false := h1
  simp [okRule, hp, h4]
theorem okl_no4 (h1 : r.letter.toList.isEmpty = false) (h5 : (r.right != 0) = true) : okRule k r = false := by
  rw [isEmpty_size] at h1
  have hp : r.pair = false := h1
  simp at h5
  simp [okRule, hp, h5]
end
theorem fill_step {α : Type} (xs : List α) (z : α) (k : Nat) (x : α) (h : xs[k]? = some x) : (xs.take k ++ List.replicate (xs.length - k) z).set k x = xs.take (k + 1) ++ List.replicate (xs.length - (k + 1)) z := by
  obtain ⟨hk, rfl⟩ := List.getElem?_eq_some_iff.1 h
  rw [List.set_append, if_neg (by simp; omega), List.length_take, Nat.min_eq_left (by omega), Nat.sub_self]
  have e : xs.length - k = (xs.length - (k+1)) + 1 := by omega
  rw [e, List.replicate_succ, List.set_cons_zero, List.take_add_one, h, List.append_assoc]
  rfl
def letOk (c : UInt8) : Bool := decide (97 ≤ (c.toNat : Int)) && decide ((c.toNat : Int) ≤ 100)
def wordOk (s : ByteArray) : Bool := decide ((s.size : Int) ≤ 2000) && s.data.toList.all letOk
theorem toList_getElem? (s : ByteArray) (k : Nat) (h : k < s.size) : s.data.toList[k]? = some s[k] := by
  have h' : k < s.data.toList.length := by simpa using h
  rw [List.getElem?_eq_getElem h']; rfl
theorem all_step {s : ByteArray} {k : Nat} (h : k < s.size) (ha : (s.data.toList.take k).all letOk = true) (hk : letOk s[k] = true) : (s.data.toList.take (k+1)).all letOk = true := by
  rw [List.take_add_one, toList_getElem? s k h, List.all_append, ha]; simpa using hk
theorem all_bad {s : ByteArray} {k : Nat} (h : k < s.size) (hk : letOk s[k] = false) : s.data.toList.all letOk = false := by
  rw [List.all_eq_false]
  exact ⟨s[k], List.mem_of_getElem? (toList_getElem? s k h), by simp [hk]⟩
theorem all_end {s : ByteArray} {k : Nat} (h : s.size ≤ k) (ha : (s.data.toList.take k).all letOk = true) : s.data.toList.all letOk = true := by
  rw [List.take_of_length_le (by simpa using h)] at ha; exact ha
theorem wordOk_one {s : ByteArray} (h : s.size = 1) : wordOk s = isLet s := by
  obtain ⟨⟨l⟩⟩ := s
  match l, h with
  | [c], _ => simp [wordOk, isLet, letOk, ByteArray.size]
theorem letOk_bad {c : UInt8} (h : (!decide ((97 : Int) ≤ (c.toNat : Int))) = true ∨ (!decide ((c.toNat : Int) ≤ 100)) = true) : letOk c = false := by
  simp at h; simp [letOk]; omega
theorem letOk_good {c : UInt8} (h : (!decide ((97 : Int) ≤ (c.toNat : Int))) = false ∧ (!decide ((c.toNat : Int) ≤ 100)) = false) : letOk c = true := by
  simp at h; simp [letOk]; omega
theorem okl_eq {i : Nat} {r : GRule} (h : (!r.letter.toList.isEmpty) = true) : okRule i r = (isLet r.letter && r.left == 0 && r.right == 0) := by
  rw [isEmpty_size] at h
  have hp : r.pair = false := by simpa [GRule.pair] using h
  simp [okRule, hp]
theorem okp_eq {i : Nat} {r : GRule} (h : (!r.letter.toList.isEmpty) = false) : okRule i r = (decide (0 ≤ r.left) && decide (r.left ≤ (i : Int) - 1) && decide (0 ≤ r.right) && decide (r.right ≤ (i : Int) - 1)) := by
  rw [isEmpty_size] at h
  have hp : r.pair = true := by simpa [GRule.pair] using h
  simp [okRule, hp]
theorem isLet_not {s : ByteArray} (h : ¬ (s.size : Int) = 1) : isLet s = false := by
  have : ¬ s.size = 1 := by omega
  simp [isLet, this]
open Go.RowKit
section
variable {w w' : World} {B B' size n : Nat} {A : Option Addr} {xs : List Value}
end
def GRule.cells (r : GRule) : List Value := [.string r.letter, .int .i64 r.left, .int .i64 r.right]
theorem cells3 (rs : List GRule) (k : Nat) (r : GRule) (h : rs[k]? = some r) :
   (rs.flatMap GRule.cells)[k*3]? = some (.string r.letter) ∧ (rs.flatMap GRule.cells)[k*3+1]? = some (.int .i64 r.left) ∧ (rs.flatMap GRule.cells)[k*3+2]? = some (.int .i64 r.right) := by
  induction rs generalizing k with
  | nil => simp at h
  | cons x xs ih =>
    cases k with
    | zero => simp at h; subst h; simp [GRule.cells]
    | succ k =>
      have := ih k (by simpa using h)
      simp only [List.flatMap_cons]
      have e : (GRule.cells x).length = 3 := rfl
      rw [List.getElem?_append_right (by omega), List.getElem?_append_right (by omega), List.getElem?_append_right (by omega), e]
      rw [show (k+1)*3-3 = k*3 by omega, show (k+1)*3+1-3 = k*3+1 by omega, show (k+1)*3+2-3 = k*3+2 by omega]
      exact this
def OwnInts (w : World) (base : Nat) (v : Value) (l : List Int) : Prop := w.ownsRow base 2 1 v l.length (l.map (Value.int .i64))
theorem own_nil {w : World} {base e s : Nat} {v : Value} {n : Nat} {xs : List Value} (h : w.ownsRow base e s v n xs) : ∃ A cap, v = .slice A n cap ∧ n ≤ cap ∧ cap ≤ maxLen := by
  rcases h.2 with ⟨rfl, rfl⟩ | ⟨g, cap, cur, rfl, _, _, h1, h2, _⟩
  · exact ⟨none, 0, rfl, Nat.le_refl _, Nat.zero_le _⟩
  · exact ⟨_, cap, rfl, h1, h2⟩
theorem own_form {w : World} {base e s : Nat} {v : Value} {n : Nat} {xs : List Value} (h : w.ownsRow base e s v n xs) (hn : 0 < n) :
    ∃ g cap, v = .slice (some ⟨g, 0, none⟩) n cap ∧ base ≤ g ∧ g < w.heap.size ∧ (n ≤ cap ∧ cap ≤ maxLen) ∧ ∀ j u, xs[j]? = some u → w.cell? ⟨g, j, none⟩ = some u := by
  obtain ⟨g, cap, hv, hb, hlt⟩ := h.form hn
  subst hv
  have hf := h.2
  refine ⟨g, cap, rfl, hb, hlt, ?_, fun j u hu => ?_⟩
  · rcases hf with ⟨h1, _⟩ | ⟨g', cap', cur, h1, _, _, h2, h4, _⟩
    · cases h1
    · injection h1 with _ _ h3; subst h3; exact ⟨h2, h4⟩
  · have hj : j < xs.length := (List.getElem?_eq_some_iff.1 hu).1
    rw [h.1] at hj
    rw [h.cellAt j hj, hu]
theorem wpList_push {P : Program} {W : World} {ops : Array Oper} {rest : List Oper} {o : Oper} {a : Act} {Q : Exit → Act → World → Prop} (hgd : o.guard = none) (s x : Operand) (t : TypeId)
    (ho : o.op = .call { callee := .builtin .append, args := #[s, x], argTypes := #[t, t] }) {cs : Array Value} {e : TypeId}
    (i : TypeInfo) (z : Value) (size bytes : Nat) (ht : P.underlying t = some (.slice e)) (hi : P.info? e = some i) (hz : i.zero = some z)
    (hsize : i.size = size) (hby : i.bytes = bytes) (hzs : z.cells.size = size) (hsz : 0 < size)
    {base : Nat} {v : Value} {n : Nat} {xs : List Value} (hs : a.eval s = v) (hx : a.eval x = .slice (some ⟨W.heap.size, 0, none⟩) 1 1)
    (hcs : cs.size = size) (h1 : ∀ u ∈ cs.toList, u.oneCell' = true) (hown : W.ownsRow base e size v n xs)
    (hlen : (n + 1) * bytes ≤ 140737488355328) (hn : n + 1 ≤ 140737488355328) (hbase : base ≤ W.heap.size)
    (h : ∀ v' w', w'.ownsRow base e size v' (n + 1) (xs ++ cs.toList) → (W.alloc (.cells cs e)).grownBy w' v.ownBlock → Below base W w' → wpList P ops Q rest (a.put o.dst v') w') :
    wpList P ops Q (o :: rest) a (W.alloc (.cells cs e)) := by
  refine wpList_plain hgd fun _ hK => ?_
  obtain ⟨v', w', hrun, h2, h3, h5⟩ := run_append_own_at (P := P) (W.alloc (.cells cs e)) base t o.type e i z size bytes ht hi hz hsize hby hzs hsz v n xs (hown.alloc _) ⟨W.heap.size, 0, none⟩ 1 1 cs.toList (by simpa using hcs)
    (fun j u hu => by
      have : (W.alloc (.cells cs e)).cell? ⟨W.heap.size, j, none⟩ = cs[j]? := cell_of_row _ _ _ _ e (0, 0) (heap_alloc_new W _)
      have ha : (⟨W.heap.size, 0, none⟩ : Addr).add j = ⟨W.heap.size, j, none⟩ := by unfold Addr.add; split <;> simp_all
      rw [ha, this]; simpa using hu) h1 (by simp only [maxLen]; omega) hlen (by simp; omega)
  unfold Oper.wp execOp
  simp only [ho, resolve, invoke, builtin, Sem.run_bind, Sem.run_pure, Result.andThen_ok, List.map_toArray, List.map_cons, List.map_nil, hs, hx, hrun]
  refine hK _ _ (h v' w' h2 h3 ?_)
  exact ((Below.refl base W).alloc hbase _).grown h3 (by simp; omega) (fun k hk => (hown.lt k hk).1)
theorem Try.infoI : (Try.prog.info? 2).map (fun i => (i.zero, i.size, i.bytes)) = some (some (.int .i64 0), 1, 8) := by kernel_rfl
theorem Try.infoR : (Try.prog.info? 111).map (fun i => (i.zero, i.size, i.bytes)) = some (some (.agg #[.string ⟨#[]⟩, .int .i64 0, .int .i64 0]), 3, 32) := by kernel_rfl
def OwnRules (w : World) (base : Nat) (v : Value) (l : List GRule) : Prop := w.ownsRow base 111 3 v l.length (l.flatMap GRule.cells)
theorem OwnInts.alloc {w : World} {base : Nat} {v : Value} {l : List Int} (h : OwnInts w base v l) (o : Obj) : OwnInts (w.alloc o) base v l := World.ownsRow.alloc h o
theorem OwnRules.alloc {w : World} {base : Nat} {v : Value} {l : List GRule} (h : OwnRules w base v l) (o : Obj) : OwnRules (w.alloc o) base v l := World.ownsRow.alloc h o
theorem OwnInts.drew {w : World} {base : Nat} {v : Value} {l : List Int} (h : OwnInts w base v l) : OwnInts w.drew base v l := h
theorem OwnRules.drew {w : World} {base : Nat} {v : Value} {l : List GRule} (h : OwnRules w base v l) : OwnRules w.drew base v l := h
theorem OwnInts.drewN {w : World} {base : Nat} {v : Value} {l : List Int} (h : OwnInts w base v l) (n : Nat) : OwnInts (w.drewN n) base v l := h
theorem OwnRules.drewN {w : World} {base : Nat} {v : Value} {l : List GRule} (h : OwnRules w base v l) (n : Nat) : OwnRules (w.drewN n) base v l := h
theorem OwnInts.at_ {w : World} {base : Nat} {v : Value} {l : List Int} (h : OwnInts w base v l) {j : Nat} (hj : j < l.length) :
    ∃ g cap, v = .slice (some ⟨g, 0, none⟩) l.length cap ∧ base ≤ g ∧ g < w.heap.size ∧ l.length ≤ cap ∧ ∀ i, i < l.length → w.cell? ⟨g, i, none⟩ = some (.int .i64 (l.getD i 0)) := by
  obtain ⟨g, cap, hv, hb, hlt, hc, hcell⟩ := own_form h (by omega)
  refine ⟨g, cap, hv, hb, hlt, hc.1, fun i hi => hcell i _ ?_⟩
  rw [List.getElem?_map, List.getD_eq_getElem?_getD, List.getElem?_eq_getElem hi]; rfl
theorem push_ints {W : World} {ops : Array Oper} {rest : List Oper} {o : Oper} {a : Act} {Q : Exit → Act → World → Prop} (hgd : o.guard = none) (s x : Operand)
    (ho : o.op = .call { callee := .builtin .append, args := #[s, x], argTypes := #[34, 34] }) {y : Int} {base : Nat} {v : Value} {l : List Int}
    (hs : a.eval s = v) {N : Nat} (hx : a.eval x = .slice (some ⟨N, 0, none⟩) 1 1) (hN : N = W.heap.size) (hown : OwnInts W base v l) (hlen : l.length ≤ 1099511627776) (hbase : base ≤ W.heap.size)
    (h : ∀ v' w', OwnInts w' base v' (l ++ [y]) → (W.alloc (.cells #[.int .i64 y] 2)).grownBy w' v.ownBlock → Below base W w' → wpList Try.prog ops Q rest (a.put o.dst v') w') :
    wpList Try.prog ops Q (o :: rest) a (W.alloc (.cells #[.int .i64 y] 2)) := by
  subst hN
  obtain ⟨i0, hi0, hz0, hz1, hz2⟩ := info_parts Try.infoI
  refine wpList_push hgd s x 34 ho i0 (.int .i64 0) 1 8 Try.underlying34 hi0 hz0 hz1 hz2 rfl (by decide) hs hx rfl (by simp [Value.oneCell']) hown (by omega) (by omega) hbase ?_
  intro v' w' h1 h2 h3
  refine h v' w' ?_ h2 h3
  unfold OwnInts
  simpa using h1
theorem below_drewN {B : Nat} {a w : World} (h : Below B a w) (n : Nat) : Below B a (w.drewN n) := ⟨h.os, h.tape, h.output, h.size, h.block⟩
theorem ownsRow_more {w : World} {base base' e s : Nat} {v : Value} {n : Nat} {xs : List Value} (h : w.ownsRow base e s v n xs) (hb : base' ≤ base) : w.ownsRow base' e s v n xs := by
  obtain ⟨h1, h2⟩ := h
  refine ⟨h1, ?_⟩
  rcases h2 with h2 | ⟨g, cap, cur, h3, h4, r⟩
  · exact .inl h2
  · exact .inr ⟨g, cap, cur, h3, by omega, r⟩
theorem OwnInts.empty {w : World} {base N : Nat} (hN : N = w.heap.size) (hb : base ≤ w.heap.size) : OwnInts (w.alloc (Obj.cells #[] 2)) base (Value.slice (some ⟨N, 0, none⟩) 0 0) [] := by
  subst hN
  exact World.ownsRow_lit w #[] 0 hb (Nat.zero_le _) rfl
theorem OwnRules.empty {w : World} {base N : Nat} (hN : N = w.heap.size) (hb : base ≤ w.heap.size) : OwnRules (w.alloc (Obj.cells #[] 111)) base (Value.slice (some ⟨N, 0, none⟩) 0 0) [] := by
  subst hN
  exact World.ownsRow_lit w #[] 0 hb (Nat.zero_le _) rfl
theorem ret_bool {a b : Bool} (h : a = b) : Ending.returned (.bool a) = .returned (.bool b) := by rw [h]
theorem ret_int {k : IntKind} {a b : Int} (h : a = b) : Ending.returned (.int k a) = .returned (.int k b) := by rw [h]
theorem bcell {W w1 : World} {N : Nat} (hb : Below N W w1) : (∀ b o, b < N → w1.cell? ⟨b, o, none⟩ = W.cell? ⟨b, o, none⟩) ∧ (∀ b o, b < N → w1.frozen? ⟨b, o, none⟩ = W.frozen? ⟨b, o, none⟩) :=
  ⟨fun b o h => hb.cell (p := ⟨b, o, none⟩) h, fun b o h => hb.frozen (p := ⟨b, o, none⟩) h⟩
theorem ownsRow_below {w w' : World} {base e s : Nat} {v : Value} {n : Nat} {xs : List Value} (h : w.ownsRow base e s v n xs) (hb : Below w.heap.size w w') : w'.ownsRow base e s v n xs :=
  h.kept (row := none) ⟨hb.os, hb.tape, hb.output, hb.size, fun k hk _ => hb.block k hk⟩ (by cases h : v.ownBlock <;> simp)
def Keep (S : Nat → Prop) (w w' : World) : Prop := ∀ b, S b → w'.heap[b]? = w.heap[b]?
theorem Keep.cell {S : Nat → Prop} {w w' : World} (h : Keep S w w') {b o : Nat} (hb : S b) : w'.cell? ⟨b, o, none⟩ = w.cell? ⟨b, o, none⟩ := World.cell?_of_block (a := ⟨b, o, none⟩) (h b hb)
theorem Keep.of_below {B : Nat} {w w' : World} (h : Below B w w') : Keep (· < B) w w' := fun b hb => h.block b hb
theorem Keep.mono {S S' : Nat → Prop} {w w' : World} (h : Keep S w w') (hs : ∀ b, S' b → S b) : Keep S' w w' := fun b hb => h b (hs b hb)
theorem Keep.trans {S : Nat → Prop} {w w' w'' : World} (h : Keep S w w') (h' : Keep S w' w'') : Keep S w w'' := fun b hb => (h' b hb).trans (h b hb)
theorem Keep.refl (S : Nat → Prop) (w : World) : Keep S w w := fun _ _ => rfl
theorem Keep.of_grown {w w' : World} {row : Option Nat} (h : w.grownBy w' row) : Keep (fun b => b < w.heap.size ∧ some b ≠ row) w w' := fun b hb => h.block b hb.1 hb.2
structure Enc (α : Type) where
  size : Nat
  pos : 0 < size
  cells : World → (Nat → Prop) → α → List Value → Prop
  len : ∀ {w S x cs}, cells w S x cs → cs.length = size
  keep : ∀ {w w' S x cs}, cells w S x cs → Keep S w w' → cells w' S x cs
  more : ∀ {w S S' x cs}, cells w S x cs → (∀ b, S b → S' b) → cells w S' x cs
  one : ∀ {w S x cs}, cells w S x cs → ∀ u ∈ cs, u.oneCell' = true
def IntE : Enc Int where
  size := 1
  pos := by decide
  cells := fun _ _ x cs => cs = [.int .i64 x]
  len := by rintro _ _ _ _ rfl; rfl
  keep := fun h _ => h
  more := fun h _ => h
  one := by rintro _ _ _ _ rfl; simp [Value.oneCell']
def RuleE : Enc GRule where
  size := 3
  pos := by decide
  cells := fun _ _ x cs => cs = x.cells
  len := by rintro _ _ _ _ rfl; rfl
  keep := fun h _ => h
  more := fun h _ => h
  one := by rintro _ _ _ _ rfl; simp [GRule.cells, Value.oneCell']
section
variable {α : Type} (E : Enc α)
def Row (w : World) (S : Nat → Prop) (A : Option Addr) (xs : List α) : Prop :=
  0 < xs.length → ∃ b o, A = some ⟨b, o, none⟩ ∧ S b ∧ ∀ k x, xs[k]? = some x → ∃ cs, E.cells w S x cs ∧ ∀ j u, cs[j]? = some u → w.cell? ⟨b, o + (k * E.size + j), none⟩ = some u
def SlS (w : World) (S : Nat → Prop) (v : Value) (xs : List α) : Prop := ∃ A c, v = .slice A xs.length c ∧ xs.length ≤ c ∧ c ≤ maxLen ∧ Row E w S A xs
abbrev Sl (w : World) (B : Nat) (v : Value) (xs : List α) : Prop := SlS E w (· < B) v xs
variable {E} {w w' : World} {S S' : Nat → Prop} {B B' : Nat} {A : Option Addr} {v : Value} {xs : List α}
theorem Row.keep (h : Row E w S A xs) (hb : Keep S w w') : Row E w' S A xs := fun hn => by
  obtain ⟨b, o, rfl, hlt, hc⟩ := h hn
  refine ⟨b, o, rfl, hlt, fun k x hx => ?_⟩
  obtain ⟨cs, h1, h2⟩ := hc k x hx
  exact ⟨cs, E.keep h1 hb, fun j u hu => (hb.cell hlt).trans (h2 j u hu)⟩
theorem Row.more (h : Row E w S A xs) (hB : ∀ b, S b → S' b) : Row E w S' A xs := fun hn => by
  obtain ⟨b, o, rfl, hlt, hc⟩ := h hn
  refine ⟨b, o, rfl, hB _ hlt, fun k x hx => ?_⟩
  obtain ⟨cs, h1, h2⟩ := hc k x hx
  exact ⟨cs, E.more h1 hB, h2⟩
theorem SlS.keep (h : SlS E w S v xs) (hb : Keep S w w') : SlS E w' S v xs := by
  obtain ⟨A, c, rfl, h1, h0, h2⟩ := h
  exact ⟨A, c, rfl, h1, h0, h2.keep hb⟩
theorem SlS.more (h : SlS E w S v xs) (hB : ∀ b, S b → S' b) : SlS E w S' v xs := by
  obtain ⟨A, c, rfl, h1, h0, h2⟩ := h
  exact ⟨A, c, rfl, h1, h0, h2.more hB⟩
theorem SlS.below (h : Sl E w B v xs) (hb : Below B w w') : Sl E w' B v xs := h.keep (Keep.of_below hb)
theorem SlS.le (h : Sl E w B v xs) (hB : B ≤ B') : Sl E w B' v xs := h.more fun _ hb => Nat.lt_of_lt_of_le hb hB
theorem SlS.up {w0 : World} (h : Sl E w0 w0.heap.size v xs) (hb : Below w0.heap.size w0 w) : Sl E w w.heap.size v xs := (h.below hb).le hb.size
theorem SlS.drewN (h : SlS E w S v xs) (n : Nat) : SlS E (w.drewN n) S v xs := h.keep fun _ _ => rfl
theorem SlS.nil (w : World) (S : Nat → Prop) : SlS E w S (.slice none 0 0) [] := ⟨none, 0, rfl, Nat.le_refl _, Nat.zero_le _, fun h => absurd h (by simp)⟩
end
def SliceE {α : Type} (E : Enc α) : Enc (List α) where
  size := 1
  pos := by decide
  cells := fun w S x cs => ∃ v, cs = [v] ∧ SlS E w S v x
  len := by rintro _ _ _ _ ⟨v, rfl, _⟩; rfl
  keep := by rintro _ _ _ _ _ ⟨v, rfl, h⟩ hb; exact ⟨v, rfl, h.keep hb⟩
  more := by rintro _ _ _ _ _ ⟨v, rfl, h⟩ hb; exact ⟨v, rfl, h.more hb⟩
  one := by rintro _ _ _ _ ⟨v, rfl, A, c, rfl, _⟩; simp [Value.oneCell']
section
variable {w w' : World} {S : Nat → Prop} {A : Option Addr} {v : Value}
theorem Row.int {l : List Int} (h : Row IntE w S A l) {k : Nat} (hk : k < l.length) :
    ∃ b o, A = some ⟨b, o, none⟩ ∧ S b ∧ ∀ i, i < l.length → w.cell? ⟨b, o + i, none⟩ = some (.int .i64 (l.getD i 0)) := by
  obtain ⟨b, o, rfl, hlt, hc⟩ := h (by omega)
  refine ⟨b, o, rfl, hlt, fun i hi => ?_⟩
  obtain ⟨cs, h1, h2⟩ := hc i l[i] (List.getElem?_eq_getElem hi)
  have := h2 0 (.int .i64 l[i]) (by rw [show cs = [.int .i64 l[i]] from h1]; rfl)
  rw [List.getD_eq_getElem?_getD, List.getElem?_eq_getElem hi]
  simpa [IntE] using this
theorem Row.rule {l : List GRule} (h : Row RuleE w S A l) {k : Nat} (hk : k < l.length) :
    ∃ b o, A = some ⟨b, o, none⟩ ∧ S b ∧ ∀ i r, l[i]? = some r → w.cell? ⟨b, o + i * 3, none⟩ = some (.string r.letter) ∧ w.cell? ⟨b, o + i * 3 + 1, none⟩ = some (.int .i64 r.left) ∧ w.cell? ⟨b, o + i * 3 + 2, none⟩ = some (.int .i64 r.right) := by
  obtain ⟨b, o, rfl, hlt, hc⟩ := h (by omega)
  refine ⟨b, o, rfl, hlt, fun i r hi => ?_⟩
  obtain ⟨cs, h1, h2⟩ := hc i r hi
  have e : cs = r.cells := h1
  subst e
  exact ⟨by simpa [RuleE] using h2 0 _ rfl, by simpa [RuleE, Nat.add_assoc] using h2 1 _ rfl, by simpa [RuleE, Nat.add_assoc] using h2 2 _ rfl⟩
theorem Row.sl {α : Type} {E : Enc α} {l : List (List α)} (h : Row (SliceE E) w S A l) {k : Nat} (hk : k < l.length) :
    ∃ b o, A = some ⟨b, o, none⟩ ∧ S b ∧ ∀ i x, l[i]? = some x → ∃ v, w.cell? ⟨b, o + i, none⟩ = some v ∧ SlS E w S v x := by
  obtain ⟨b, o, rfl, hlt, hc⟩ := h (by omega)
  refine ⟨b, o, rfl, hlt, fun i x hi => ?_⟩
  obtain ⟨cs, ⟨v, rfl, h1⟩, h2⟩ := hc i x hi
  exact ⟨v, by simpa [SliceE] using h2 0 v rfl, h1⟩
theorem Row.of_own {α : Type} {E : Enc α} {base e c : Nat} {xs : List α} {n : Nat} {A : Option Addr} {us : List Value} (h : w.ownsRow base e E.size (.slice A n c) n us) (hl : xs.length = n)
    (hS : ∀ g, (Value.slice A n c).ownBlock = some g → S g)
    (hx : ∀ k x, xs[k]? = some x → ∃ cs, E.cells w S x cs ∧ ∀ j u, cs[j]? = some u → us[k * E.size + j]? = some u) : Row E w S A xs := fun hn => by
  obtain ⟨g, cap, hv, hb, hlt, _, hcell⟩ := own_form h (by omega)
  injection hv with hA
  subst hA
  refine ⟨g, 0, rfl, hS g rfl, fun k x hk => ?_⟩
  obtain ⟨cs, h1, h2⟩ := hx k x hk
  exact ⟨cs, h1, fun j u hu => by rw [Nat.zero_add]; exact hcell _ _ (h2 j u hu)⟩
theorem OwnInts.slS {base : Nat} {l : List Int} (h : OwnInts w base v l) (hS : ∀ g, v.ownBlock = some g → S g) : SlS IntE w S v l := by
  obtain ⟨A, cap, rfl, h1, h2⟩ := own_nil h
  refine ⟨A, cap, rfl, h1, h2, Row.of_own (E := IntE) h rfl hS fun k x hx => ⟨[.int .i64 x], rfl, fun j u hu => ?_⟩⟩
  cases j with
  | zero => simp at hu; subst hu; simp [IntE, hx]
  | succ j => simp at hu
theorem OwnRules.slS {base : Nat} {l : List GRule} (h : OwnRules w base v l) (hS : ∀ g, v.ownBlock = some g → S g) : SlS RuleE w S v l := by
  obtain ⟨A, cap, rfl, h1, h2⟩ := own_nil h
  refine ⟨A, cap, rfl, h1, h2, Row.of_own (E := RuleE) h rfl hS fun k r hx => ⟨r.cells, rfl, fun j u hu => ?_⟩⟩
  obtain ⟨c0, c1, c2⟩ := cells3 l k r hx
  match j, hu with
  | 0, hu => simp [GRule.cells] at hu; subst hu; simpa [RuleE] using c0
  | 1, hu => simp [GRule.cells] at hu; subst hu; simpa [RuleE] using c1
  | 2, hu => simp [GRule.cells] at hu; subst hu; simpa [RuleE] using c2
  | j + 3, hu => simp [GRule.cells] at hu
theorem OwnInts.sl {base : Nat} {l : List Int} (h : OwnInts w base v l) : Sl IntE w w.heap.size v l := h.slS fun g hg => (h.lt g hg).2
theorem OwnRules.sl {base : Nat} {l : List GRule} (h : OwnRules w base v l) : Sl RuleE w w.heap.size v l := h.slS fun g hg => (h.lt g hg).2
end
def szN (n : Nat) (left : Int) : Int := if left - n < 0 then -1 else left - n
theorem eqInt64S_any (v v' : Value) (xs : List Int) (w : World) (h : Sl IntE w w.heap.size v xs) (h' : Sl IntE w w.heap.size v' xs) :
    Calls Try.prog 13 #[v, v'] w fun e w' => e = .returned (.bool true) ∧ ∃ n, w' = w.drewN n := by
  obtain ⟨A, c, rfl, hc, hm, hrow⟩ := h
  obtain ⟨A', c', rfl, hc', hm', hrow'⟩ := h'
  unfold maxLen at hm
  have hn : xs.length ≤ 9223372036854775807 := by omega
  clear hm hm'
  go_enter Try.func13, Try.ntmps13
  go_wp2_with fail
  go_loopw [5] (fun i wr => ∃ (k : Nat), k ≤ xs.length ∧ i = .int .i64 k ∧ ∃ m, wr = w.drewN m) (fun i _ => xs.length - (intOf i).toNat)
  case atStart => exact ⟨0, Nat.zero_le _, rfl, 0, rfl⟩
  case round =>
    obtain ⟨k, hk, rfl, m, rfl⟩ := hrel
    by_cases hlt : k < xs.length
    · obtain ⟨b, o, rfl, hbl, hcell⟩ := hrow.int hlt
      obtain ⟨b', o', rfl, hbl', hcell'⟩ := hrow'.int hlt
      have hc0 := hcell k hlt
      have hc0' := hcell' k hlt
      have hi : (k : Int) < (xs.length : Int) := by omega
      clear hcell hcell'
      go_wp2_with fail
      go_quiet (fail)
      go_wp2
      go_roundw
      case rel => exact ⟨k + 1, by omega, by go_num, _, rfl⟩
      case measure => simp [intOf]; omega
    · go_wp2
      go_ret
      exact ⟨rfl, m, rfl⟩
theorem Try.infoII : (Try.prog.info? 34).map (fun i => (i.zero, i.size, i.bytes)) = some (some (.slice none 0 0), 1, 24) := by kernel_rfl
def Each {α : Type} (E : Enc α) (w : World) (S : Nat → Prop) (vs : List Value) (xs : List (List α)) : Prop := vs.length = xs.length ∧ ∀ (k : Nat) x, xs[k]? = some x → ∃ v, vs[k]? = some v ∧ SlS E w S v x
theorem Each.keep {α : Type} {E : Enc α} {w w' : World} {S : Nat → Prop} {vs : List Value} {xs : List (List α)} (h : Each E w S vs xs) (hk : Keep S w w') : Each E w' S vs xs :=
  ⟨h.1, fun k x hx => by obtain ⟨v, h1, h2⟩ := h.2 k x hx; exact ⟨v, h1, h2.keep hk⟩⟩
theorem Each.more {α : Type} {E : Enc α} {w : World} {S S' : Nat → Prop} {vs : List Value} {xs : List (List α)} (h : Each E w S vs xs) (hk : ∀ b, S b → S' b) : Each E w S' vs xs :=
  ⟨h.1, fun k x hx => by obtain ⟨v, h1, h2⟩ := h.2 k x hx; exact ⟨v, h1, h2.more hk⟩⟩
theorem Each.snoc {α : Type} {E : Enc α} {w : World} {S : Nat → Prop} {vs : List Value} {xs : List (List α)} {v : Value} {x : List α} (h : Each E w S vs xs) (hv : SlS E w S v x) : Each E w S (vs ++ [v]) (xs ++ [x]) :=
  ⟨by simp [h.1], fun k y hy => by
    rcases Nat.lt_trichotomy k xs.length with hk | hk | hk
    · rw [List.getElem?_append_left hk] at hy
      obtain ⟨u, h1, h2⟩ := h.2 k y hy
      exact ⟨u, by rw [List.getElem?_append_left (by rw [h.1]; exact hk)]; exact h1, h2⟩
    · rw [hk] at hy ⊢
      rw [List.getElem?_append_right (Nat.le_refl _)] at hy
      simp at hy
      subst hy
      exact ⟨v, by rw [List.getElem?_append_right (by rw [h.1]; exact Nat.le_refl _), h.1]; simp, hv⟩
    · rw [List.getElem?_append_right (by omega)] at hy
      have : ([x] : List (List α))[k - xs.length]? = none := List.getElem?_eq_none (by simp; omega)
      rw [this] at hy; cases hy⟩
theorem Each.nil {α : Type} {E : Enc α} {w : World} {S : Nat → Prop} : Each E w S [] [] := ⟨rfl, fun k x hx => by simp at hx⟩
theorem Each.sl {α : Type} {E : Enc α} {w : World} {S : Nat → Prop} {vs : List Value} {xs : List (List α)} {base e : Nat} {v : Value} (h : Each E w S vs xs) (ho : w.ownsRow base e 1 v xs.length vs) (hS : ∀ g, v.ownBlock = some g → S g) : SlS (SliceE E) w S v xs := by
  obtain ⟨A, cap, rfl, h1, h2⟩ := own_nil ho
  refine ⟨A, cap, rfl, h1, h2, Row.of_own (E := SliceE E) ho rfl hS fun k x hx => ?_⟩
  obtain ⟨u, hu, hs⟩ := h.2 k x hx
  refine ⟨[u], ⟨u, rfl, hs⟩, fun j y hy => ?_⟩
  cases j with
  | zero => simp at hy; subst hy; simpa [SliceE] using hu
  | succ j => simp at hy
theorem szRule_any (l : ByteArray) (a b left : Int) (w : World) (hs : l.size ≤ 9223372036854775807) (hl : 0 ≤ left ∧ left ≤ 1048576) :
    Calls Try.prog 70 #[.agg #[.string l, .int .i64 a, .int .i64 b], .int .i64 left] w fun e w' => e = .returned (.int .i64 (szN l.size left)) ∧ Below w.heap.size w w' := by
  go_enter Try.func70, Try.ntmps70
  go_wp2
  all_goals
    go_ret
    exact ⟨ret_int (by unfold szN; split <;> omega), (by repeat (first | exact (Below.refl _ _) | (refine Below.alloc ?_ (by first | omega | (simp; done) | (simp; omega)) _) | refine below_drewN ?_ _ | refine Below.drew ?_))⟩
def szRR : List GRule → Int → Int
  | [], left => left
  | x :: xs, left => if szN x.letter.size left < 0 then -1 else szRR xs (szN x.letter.size left)
def szRs (xs : List GRule) (left : Int) : Int := if szN xs.length left < 0 then -1 else szRR xs (szN xs.length left)
theorem szRR_at (xs : List GRule) (left : Int) (k : Nat) (x : GRule) (hx : xs[k]? = some x) : szRR (xs.drop k) left = if szN x.letter.size left < 0 then -1 else szRR (xs.drop (k+1)) (szN x.letter.size left) := by
  obtain ⟨hk, rfl⟩ := List.getElem?_eq_some_iff.1 hx
  rw [List.drop_eq_getElem_cons hk]; rfl
def SmallL (rs : List GRule) : Prop := ∀ r ∈ rs, r.letter.size ≤ 9223372036854775807
theorem szRuleS_any (v : Value) (xs : List GRule) (left : Int) (w : World) (h : Sl RuleE w w.heap.size v xs) (hsm : SmallL xs) (hl : 0 ≤ left ∧ left ≤ 1048576) :
    Calls Try.prog 26 #[v, .int .i64 left] w fun e w' => e = .returned (.int .i64 (szRs xs left)) ∧ Below w.heap.size w w' := by
  obtain ⟨A, c, rfl, hc, hm, hrow⟩ := h
  unfold maxLen at hm
  go_enter Try.func26, Try.ntmps26
  go_wp2_with fail
  · go_ret
    exact ⟨ret_int (by unfold szRs szN; rw [if_pos (by omega)]), Below.refl _ _⟩
  · have hs : szN xs.length left = left - xs.length := by unfold szN; rw [if_neg (by omega)]
    have hfin : szRs xs left = szRR xs (left - xs.length) := by unfold szRs; rw [hs, if_neg (by omega)]
    have Hfin := Lib.hid hfin
    clear hs hfin
    go_loopw [1, 5] (fun l i wr => ∃ (k : Nat) (q : Int), k ≤ xs.length ∧ 0 ≤ q ∧ q ≤ 1048576 ∧ i = .int .i64 k ∧ l = .int .i64 q ∧ Hid (szRR (xs.drop k) q = szRs xs left) ∧ Below w.heap.size w wr) (fun _ i _ => xs.length - (intOf i).toNat)
    case atStart => exact ⟨0, _, Nat.zero_le _, by omega, by omega, rfl, rfl, by rw [Hfin.out]; rfl, Below.refl _ _⟩
    case round =>
      obtain ⟨k, q, hk, hq0, hq1, rfl, rfl, HN, hb⟩ := hrel
      by_cases hlt : k < xs.length
      · obtain ⟨b, o, rfl, hbl, hcell⟩ := hrow.rule hlt
        obtain ⟨x, hx⟩ : ∃ x, xs[k]? = some x := ⟨_, List.getElem?_eq_getElem hlt⟩
        obtain ⟨g0, g1, g2⟩ := hcell k x hx
        have hc0 := (hb.cell (p := ⟨b, o + k * 3, none⟩) hbl).trans g0
        have hc1 := (hb.cell (p := ⟨b, o + k * 3 + 1, none⟩) hbl).trans g1
        have hc2 := (hb.cell (p := ⟨b, o + k * 3 + 2, none⟩) hbl).trans g2
        have hsx := hsm x (List.mem_of_getElem? hx)
        have Hx := Lib.hid hx
        clear hcell hx g0 g1 g2
        go_wp2_with (first | (go_at_call 70; go_must (refine (szRule_any _ _ _ _ _ hsx ⟨hq0, hq1⟩).mono ?_); rintro e w2 ⟨rfl, hb2⟩))
        · go_ret
          exact ⟨ret_int (by have := HN.out; rw [szRR_at _ _ _ _ Hx.out, if_pos (by assumption)] at this; exact this), hb.trans (hb2.mono hb.size)⟩
        · have h2 : 0 ≤ szN x.letter.size q := by assumption
          have h3 : szN x.letter.size q ≤ q := by unfold szN at h2 ⊢; split at h2 <;> split <;> omega
          go_roundw
          case rel => exact ⟨k + 1, _, by omega, h2, by omega, by go_num, rfl, by have := HN.out; rw [szRR_at _ _ _ _ Hx.out, if_neg (by omega)] at this; exact this, hb.trans (hb2.mono hb.size)⟩
          case measure => simp [intOf]; omega
      · go_wp2
        go_ret
        exact ⟨ret_int (by have := HN.out; rw [List.drop_eq_nil_of_le (by omega)] at this; exact this), hb⟩
theorem szRR_le (xs : List GRule) : ∀ left : Int, 0 ≤ left → szRR xs left ≤ left := by
  induction xs with
  | nil => intro l h; simp [szRR]
  | cons x xs ih =>
    intro l h
    unfold szRR
    split
    · omega
    · have := ih (szN x.letter.size l) (by omega)
      have h3 : szN x.letter.size l ≤ l := by unfold szN; split <;> omega
      omega
theorem szRs_le (xs : List GRule) (left : Int) (h2 : 0 ≤ szRs xs left) : szRs xs left ≤ left ∧ (xs.length : Int) ≤ left := by
  unfold szRs at *
  split
  · rename_i h3; rw [if_pos h3] at h2; omega
  · rename_i h3
    have := szRR_le xs (szN xs.length left) (by omega)
    unfold szN at *
    split at h3 <;> (try omega)
theorem szGrammar_any (v : Value) (xs : List GRule) (left : Int) (w : World) (h : Sl RuleE w w.heap.size v xs) (hsm : SmallL xs) (hl : 0 ≤ left ∧ left ≤ 1048576) :
    Calls Try.prog 6 #[.agg #[v], .int .i64 left] w fun e w' => e = .returned (.int .i64 (if szRs xs left < 0 then -1 else szRs xs left)) ∧ Below w.heap.size w w' := by
  have h1 := fun o => (h.below ((Below.refl w.heap.size w).alloc (Nat.le_refl _) o)).le (B' := (w.alloc o).heap.size) (by simp)
  obtain ⟨A, c, rfl, hc, hm, hrow⟩ := h
  have H1 := Lib.hid h1
  clear h1 hm hrow
  go_enter Try.func6, Try.ntmps6
  go_wp2_with (first | (go_at_call 26; go_must (refine (szRuleS_any _ _ _ _ (H1.out _) hsm hl).mono ?_); rintro e w2 ⟨rfl, hb2⟩))
  all_goals
    go_ret
    exact ⟨ret_int (by first | rfl | (split <;> omega)), ((Below.refl _ _).alloc (Nat.le_refl _) _).trans (hb2.mono (by simp))⟩
theorem toRule_any (l : ByteArray) (a b : Int) (w : World) :
    Calls Try.prog 73 #[.agg #[.string l, .int .i64 a, .int .i64 b]] w fun e w' => e = .returned (.agg #[.string l, .int .i64 a, .int .i64 b]) ∧ Below w.heap.size w w' := by
  go_enter Try.func73, Try.ntmps73
  go_wp2
  exact bodyPost_ret (v := .agg #[.string l, .int .i64 a, .int .i64 b]) (by simp [results, Try.results73, go_sem]) rfl ⟨rfl, (by repeat (first | exact (Below.refl _ _) | (refine Below.alloc ?_ (by first | omega | (simp; done) | (simp; omega)) _) | refine below_drewN ?_ _ | refine Below.drew ?_))⟩
theorem eqRule_any (l : ByteArray) (a b : Int) (w : World) :
    Calls Try.prog 78 #[.agg #[.string l, .int .i64 a, .int .i64 b], .agg #[.string l, .int .i64 a, .int .i64 b]] w fun e w' => e = .returned (.bool true) ∧ (w.alloc (.cells #[.string l, .int .i64 a, .int .i64 b] 111)).alloc (.cells #[.string l, .int .i64 a, .int .i64 b] 111) = w' := by
  go_enter Try.func78, Try.ntmps78
  go_wp2
  go_ret
  exact ⟨rfl, rfl⟩
theorem eqRuleS_any (v v' : Value) (xs : List GRule) (w : World) (h : Sl RuleE w w.heap.size v xs) (h' : Sl RuleE w w.heap.size v' xs) :
    Calls Try.prog 42 #[v, v'] w fun e w' => e = .returned (.bool true) ∧ Below w.heap.size w w' := by
  obtain ⟨A, c, rfl, hc, hm, hrow⟩ := h
  obtain ⟨A', c', rfl, hc', hm', hrow'⟩ := h'
  unfold maxLen at hm
  have hn : xs.length ≤ 9223372036854775807 := by omega
  clear hm hm'
  go_enter Try.func42, Try.ntmps42
  go_wp2_with fail
  go_loopw [5] (fun i wr => ∃ (k : Nat), k ≤ xs.length ∧ i = .int .i64 k ∧ Below w.heap.size w wr) (fun i _ => xs.length - (intOf i).toNat)
  case atStart => exact ⟨0, Nat.zero_le _, rfl, Below.refl _ _⟩
  case round =>
    obtain ⟨k, hk, rfl, hb⟩ := hrel
    by_cases hlt : k < xs.length
    · obtain ⟨b, o, rfl, hbl, hcell⟩ := hrow.rule hlt
      obtain ⟨b', o', rfl, hbl', hcell'⟩ := hrow'.rule hlt
      obtain ⟨x, hx⟩ : ∃ x, xs[k]? = some x := ⟨_, List.getElem?_eq_getElem hlt⟩
      obtain ⟨g0, g1, g2⟩ := hcell k x hx
      obtain ⟨g0', g1', g2'⟩ := hcell' k x hx
      have hc0 := (hb.cell (p := ⟨b, o + k * 3, none⟩) hbl).trans g0
      have hc1 := (hb.cell (p := ⟨b, o + k * 3 + 1, none⟩) hbl).trans g1
      have hc2 := (hb.cell (p := ⟨b, o + k * 3 + 2, none⟩) hbl).trans g2
      have hc0' := (hb.cell (p := ⟨b', o' + k * 3, none⟩) hbl').trans g0'
      have hc1' := (hb.cell (p := ⟨b', o' + k * 3 + 1, none⟩) hbl').trans g1'
      have hc2' := (hb.cell (p := ⟨b', o' + k * 3 + 2, none⟩) hbl').trans g2'
      have hi : (k : Int) < (xs.length : Int) := by omega
      have hsz : w.heap.size ≤ wr.heap.size := hb.size
      have hb1 : b < wr.heap.size := by omega
      have hb1' : b' < wr.heap.size := by omega
      clear hcell hcell' hx g0 g1 g2 g0' g1' g2'
      go_wp2_with fail
      go_region_held3 (fun w' => w'.cell? ⟨b, o + k * 3, none⟩ = some (.string x.letter) ∧ w'.cell? ⟨b, o + k * 3 + 1, none⟩ = some (.int .i64 x.left) ∧ w'.cell? ⟨b, o + k * 3 + 2, none⟩ = some (.int .i64 x.right) ∧ w'.cell? ⟨b', o' + k * 3, none⟩ = some (.string x.letter) ∧ w'.cell? ⟨b', o' + k * 3 + 1, none⟩ = some (.int .i64 x.left) ∧ w'.cell? ⟨b', o' + k * 3 + 2, none⟩ = some (.int .i64 x.right)) (go_keep)
        (first | (go_at_call 78; refine (eqRule_any _ _ _ _).mono ?_; rintro e w2 ⟨rfl, rfl⟩))
      go_wp2
      go_roundw
      case rel => exact ⟨k + 1, by omega, by go_num, (by repeat (first | exact hb | (refine Below.alloc ?_ (by first | omega | (simp; done) | (simp; omega)) _) | refine below_drewN ?_ _ | refine Below.drew ?_))⟩
      case measure => simp [intOf]; omega
    · go_wp2
      go_ret
      exact ⟨rfl, hb⟩
theorem madeRules (n : Nat) : (madeCells (Value.agg #[.string ⟨#[]⟩, .int .i64 0, .int .i64 0]).cells (n * 3)).toList = (List.replicate n ({ letter := ⟨#[]⟩, left := 0, right := 0 } : GRule)).flatMap GRule.cells := by
  apply List.ext_getElem?
  intro j
  by_cases hj : j < n * 3
  · have hq : (List.replicate n ({ letter := ⟨#[]⟩, left := 0, right := 0 } : GRule))[j / 3]? = some { letter := ⟨#[]⟩, left := 0, right := 0 } := by
      rw [List.getElem?_replicate, if_pos (by omega)]
    obtain ⟨c0, c1, c2⟩ := cells3 _ _ _ hq
    have hm : j % 3 = 0 ∨ j % 3 = 1 ∨ j % 3 = 2 := by omega
    have e : (madeCells (Value.agg #[.string ⟨#[]⟩, .int .i64 0, .int .i64 0]).cells (n * 3)).toList[j]? = some ((#[Value.string ⟨#[]⟩, .int .i64 0, .int .i64 0] : Array Value).getD (j % 3) undef) := by
      simp [madeCells, hj, Value.cells]
      rcases hm with h | h | h <;> simp [h]
    rw [e]
    rcases hm with h | h | h
    · rw [h, show j = j / 3 * 3 by omega, c0]; rfl
    · rw [h, show j = j / 3 * 3 + 1 by omega, c1]; rfl
    · rw [h, show j = j / 3 * 3 + 2 by omega, c2]; rfl
  · rw [List.getElem?_eq_none (by simp [madeCells]; omega), List.getElem?_eq_none (by simp [GRule.cells]; omega)]
theorem set3 (rs : List GRule) (k : Nat) (r : GRule) (h : k < rs.length) :
    (((rs.flatMap GRule.cells).set (k * 3) (.string r.letter)).set (k * 3 + 1) (.int .i64 r.left)).set (k * 3 + 2) (.int .i64 r.right) = (rs.set k r).flatMap GRule.cells := by
  induction rs generalizing k with
  | nil => simp at h
  | cons x xs ih =>
    cases k with
    | zero => simp [GRule.cells]
    | succ k =>
      have := ih k (by simpa using h)
      simp only [List.flatMap_cons, List.set_cons_succ]
      have e : (GRule.cells x).length = 3 := rfl
      rw [List.set_append, if_neg (by omega), e, List.set_append, if_neg (by omega), e, List.set_append, if_neg (by omega), e]
      rw [show (k+1)*3-3 = k*3 by omega, show (k+1)*3+1-3 = k*3+1 by omega, show (k+1)*3+2-3 = k*3+2 by omega, this]
theorem grown_trans {a b c : World} {g : Nat} (h : a.grownBy b (some g)) (k : b.grownBy c (some g)) : a.grownBy c (some g) :=
  ⟨k.os.trans h.os, k.tape.trans h.tape, k.output.trans h.output, Nat.le_trans h.size k.size, fun i hi hne => (k.block i (Nat.lt_of_lt_of_le hi h.size) hne).trans (h.block i hi hne)⟩
theorem OwnRules.stored3 {w : World} {base g n cap : Nat} {rs : List GRule} (h : w.ownsRow base 111 3 (.slice (some ⟨g, 0, none⟩) n cap) n (rs.flatMap GRule.cells)) (k : Nat) (r : GRule) (hk : k < rs.length) :
    (((w.setCell ⟨g, k * 3, none⟩ (.string r.letter)).setCell ⟨g, k * 3 + 1, none⟩ (.int .i64 r.left)).setCell ⟨g, k * 3 + 2, none⟩ (.int .i64 r.right)).ownsRow base 111 3 (.slice (some ⟨g, 0, none⟩) n cap) n ((rs.set k r).flatMap GRule.cells) ∧
    w.grownBy (((w.setCell ⟨g, k * 3, none⟩ (.string r.letter)).setCell ⟨g, k * 3 + 1, none⟩ (.int .i64 r.left)).setCell ⟨g, k * 3 + 2, none⟩ (.int .i64 r.right)) (some g) := by
  obtain ⟨h1, g1⟩ := World.ownsRow.stored h (k * 3) (.string r.letter)
  obtain ⟨h2, g2⟩ := World.ownsRow.stored h1 (k * 3 + 1) (.int .i64 r.left)
  obtain ⟨h3, g3⟩ := World.ownsRow.stored h2 (k * 3 + 2) (.int .i64 r.right)
  rw [set3 rs k r hk] at h3
  exact ⟨h3, grown_trans (grown_trans g1 g2) g3⟩
set_option maxRecDepth 100000 in
theorem toRuleS_any (v : Value) (xs : List GRule) (w : World) (h : Sl RuleE w w.heap.size v xs) (hl : xs.length ≤ 1048576) :
    Calls Try.prog 35 #[v] w fun e w' => ∃ v', e = .returned v' ∧ OwnRules w' w.heap.size v' xs ∧ Below w.heap.size w w' := by
  obtain ⟨A, c, rfl, hc, hm, hrow⟩ := h
  clear hm
  obtain ⟨i0, hi0, hz0, hz1, hz2⟩ := info_parts Try.infoR
  go_enter Try.func35, Try.ntmps35
  go_wp2_with (at_make; go_must (refine wpList_make_full _ rfl _ _ 28 rfl w.heap.size 111 i0 _ 3 Try.underlying28 hi0 hz0 hz1 _ _ _ _ xs.length rfl rfl rfl rfl (by rw [hz2]; omega) (by unfold maxLen; omega) (Nat.le_refl _) ?_); intro w1 hown1 hg1; rw [madeRules] at hown1)
  have hb1 : Below w.heap.size w w1 := (Below.refl _ _).grown hg1 (Nat.le_refl _) (by simp)
  have Hown := Lib.hid hown1
  clear hown1 hg1 hi0 hz0 hz1 hz2
  go_loopw [4] (fun i wr => ∃ (k : Nat), k ≤ xs.length ∧ i = .int .i64 k ∧ Below w.heap.size w wr ∧ wr.ownsRow w.heap.size 111 3 (.slice (some ⟨w.heap.size, 0, none⟩) xs.length xs.length) xs.length ((xs.take k ++ List.replicate (xs.length - k) ({ letter := ⟨#[]⟩, left := 0, right := 0 } : GRule)).flatMap GRule.cells)) (fun i _ => xs.length - (intOf i).toNat)
  case atStart => exact ⟨0, Nat.zero_le _, rfl, hb1, by simpa using Hown.out⟩
  case round =>
    obtain ⟨k, hk, rfl, hb, hown⟩ := hrel
    by_cases hlt : k < xs.length
    · obtain ⟨b, o, rfl, hbl, hcell⟩ := hrow.rule hlt
      obtain ⟨x, hx⟩ : ∃ x, xs[k]? = some x := ⟨_, List.getElem?_eq_getElem hlt⟩
      obtain ⟨g0, g1, g2⟩ := hcell k x hx
      have hc0 := (hb.cell (p := ⟨b, o + k * 3, none⟩) hbl).trans g0
      have hc1 := (hb.cell (p := ⟨b, o + k * 3 + 1, none⟩) hbl).trans g1
      have hc2 := (hb.cell (p := ⟨b, o + k * 3 + 2, none⟩) hbl).trans g2
      have Hown := Lib.hid hown
      have Hx := Lib.hid hx
      clear hcell hown hx g0 g1 g2
      go_wp2_with fail
      refine (toRule_any _ _ _ _).mono ?_
      rintro e w2 ⟨rfl, hb2⟩
      have hown2 := ownsRow_below Hown.out hb2
      have hlen : (xs.take k ++ List.replicate (xs.length - k) ({ letter := ⟨#[]⟩, left := 0, right := 0 } : GRule)).length = xs.length := by simp; omega
      obtain ⟨u0, hu0⟩ : ∃ u, w2.cell? ⟨w.heap.size, k * 3, none⟩ = some u :=
        ⟨_, (hown2.cellAt (k * 3) (by omega)).trans (List.getElem?_eq_getElem (by rw [hown2.1]; omega))⟩
      obtain ⟨u1, hu1⟩ : ∃ u, w2.cell? ⟨w.heap.size, k * 3 + 1, none⟩ = some u :=
        ⟨_, (hown2.cellAt (k * 3 + 1) (by omega)).trans (List.getElem?_eq_getElem (by rw [hown2.1]; omega))⟩
      obtain ⟨u2, hu2⟩ : ∃ u, w2.cell? ⟨w.heap.size, k * 3 + 2, none⟩ = some u :=
        ⟨_, (hown2.cellAt (k * 3 + 2) (by omega)).trans (List.getElem?_eq_getElem (by rw [hown2.1]; omega))⟩
      have hf0 := hown2.frozenAt (k * 3)
      have hf1 := hown2.frozenAt (k * 3 + 1)
      have hf2 := hown2.frozenAt (k * 3 + 2)
      have hst := OwnRules.stored3 hown2 k x (by omega)
      rw [fill_step xs _ k _ Hx.out] at hst
      have Hst := Lib.hid hst
      have hb3 := hb.trans (hb2.mono hb.size)
      clear hown2 hst hlen hb2
      go_wp2
      go_roundw
      case rel => exact ⟨k + 1, by omega, by go_num, ((hb3.setCell (Nat.le_refl _) _).setCell (Nat.le_refl _) _).setCell (Nat.le_refl _) _, Hst.out.1⟩
      case measure => simp [intOf]; omega
    · have hkn : k = xs.length := by omega
      subst hkn
      have Hown2 := Lib.hid hown
      clear hown
      go_wp2
      go_ret
      exact ⟨_, rfl, by have := Hown2.out; simpa [OwnRules] using this, hb⟩
theorem toGrammar_any (v : Value) (xs : List GRule) (w : World) (h : Sl RuleE w w.heap.size v xs) (hl : xs.length ≤ 1048576) :
    Calls Try.prog 8 #[.agg #[v]] w fun e w' => ∃ v', e = .returned (.agg #[v']) ∧ OwnRules w' w.heap.size v' xs ∧ Below w.heap.size w w' := by
  have h1 := fun o o' o'' => (h.below ((((Below.refl w.heap.size w).alloc (Nat.le_refl _) o).alloc (by simp) o').alloc (by simp; omega) o'')).le (B' := (((w.alloc o).alloc o').alloc o'').heap.size) (by simp; omega)
  have H1 := Lib.hid h1
  clear h1
  obtain ⟨A, c, rfl, _⟩ := h
  go_enter Try.func8, Try.ntmps8
  go_wp2_with fail
  refine (toRuleS_any _ _ _ (H1.out _ _ _) hl).mono ?_
  rintro e w1 ⟨v1, rfl, hown, hb1⟩
  obtain ⟨A1, c1, rfl, _⟩ := own_nil hown
  obtain ⟨hc1, hf1⟩ := bcell hb1
  have hz1 : w.heap.size + 3 ≤ w1.heap.size := by have := hb1.size; simp at this; omega
  have Hown := Lib.hid hown
  have Hb1 := Lib.hid hb1
  clear hown hb1
  go_wp2
  refine bodyPost_ret (v := .agg #[.slice A1 xs.length c1]) (by simp [results, Try.results8, go_sem, hc1]) rfl ⟨_, rfl, ?_, ?_⟩
  · have h3 := Hown.out
    have h4 : w1.ownsRow (w.heap.size + 3) 111 3 (.slice A1 xs.length c1) xs.length (xs.flatMap GRule.cells) := ownsRow_more h3 (by simp)
    exact ownsRow_more (ownsRow_setCell_below (ownsRow_setCell_below h4 (by show w.heap.size + 1 + 1 < w.heap.size + 3; omega) _) (by show w.heap.size + 1 < w.heap.size + 3; omega) _) (by omega)
  · exact (((((Below.refl _ _).alloc (Nat.le_refl _) _).alloc (by simp) _).alloc (by simp; omega) _).trans (Hb1.out.mono (by simp; omega))).setCell (by show w.heap.size ≤ w.heap.size + 1 + 1; omega) _ |>.setCell (by show w.heap.size ≤ w.heap.size + 1; omega) _
theorem eqGrammar_any (v v' : Value) (xs : List GRule) (w : World) (h : Sl RuleE w w.heap.size v xs) (h' : Sl RuleE w w.heap.size v' xs) :
    Calls Try.prog 10 #[.agg #[v], .agg #[v']] w fun e w' => e = .returned (.bool true) ∧ Below w.heap.size w w' := by
  have h1 := fun o o' => (h.below (((Below.refl w.heap.size w).alloc (Nat.le_refl _) o).alloc (by simp) o')).le (B' := ((w.alloc o).alloc o').heap.size) (by simp; omega)
  have h2 := fun o o' => (h'.below (((Below.refl w.heap.size w).alloc (Nat.le_refl _) o).alloc (by simp) o')).le (B' := ((w.alloc o).alloc o').heap.size) (by simp; omega)
  obtain ⟨A, c, rfl, hc, hm, hrow⟩ := h
  obtain ⟨A', c', rfl, hc', hm', hrow'⟩ := h'
  have H1 := Lib.hid h1
  have H2 := Lib.hid h2
  clear h1 h2 hm hm' hrow hrow'
  go_enter Try.func10, Try.ntmps10
  go_wp2_with (first | (go_at_call 42; go_must (refine (eqRuleS_any _ _ _ _ (H1.out _ _) (H2.out _ _)).mono ?_); rintro e w2 ⟨rfl, hb2⟩))
  go_ret
  exact ⟨rfl, (((Below.refl _ _).alloc (Nat.le_refl _) _).alloc (by simp) _).trans (hb2.mono (by simp; omega))⟩
theorem within_any (n a b : Int) (w : World) :
    Calls Try.prog 37 #[.int .i64 n, .int .i64 a, .int .i64 b] w fun e w' => e = .returned (.bool (decide (a ≤ n) && decide (n ≤ b))) ∧ w = w' := by
  by_cases h1 : a ≤ n
  · by_cases h2 : n ≤ b <;> go_enter Try.func37, Try.ntmps37 <;> go_wp2 <;> go_ret <;> exact ⟨by simp [h1,h2], rfl⟩
  · go_enter Try.func37, Try.ntmps37
    go_wp2
    go_ret
    exact ⟨by simp; omega, rfl⟩
theorem l00In_any (n a b : Int) (w : World) :
    Calls Try.prog 28 #[.int .i64 n, .int .i64 a, .int .i64 b] w fun e w' => e = .returned (.bool (decide (a ≤ n) && decide (n ≤ b))) ∧ w = w' := by
  by_cases h1 : a ≤ n
  · by_cases h2 : n ≤ b <;> go_enter Try.func28, Try.ntmps28 <;> go_wp2 <;> go_ret <;> exact ⟨by simp [h1,h2], rfl⟩
  · go_enter Try.func28, Try.ntmps28
    go_wp2
    go_ret
    exact ⟨by simp; omega, rfl⟩
theorem isPair_any (l : ByteArray) (a b : Int) (w : World) :
    Calls Try.prog 92 #[.agg #[.string l, .int .i64 a, .int .i64 b]] w fun e w' => e = .returned (.bool (l.toList.isEmpty)) ∧ w.alloc (.cells #[.string l, .int .i64 a, .int .i64 b] 111) = w' := by
  go_enter Try.func92, Try.ntmps92
  go_wp2
  go_ret
  exact ⟨by simp, rfl⟩
theorem isLetter_any (c : UInt8) (w : World) :
    Calls Try.prog 79 #[.int .u8 c.toNat] w fun e w' => e = .returned (.bool (decide (97 ≤ (c.toNat:Int)) && decide ((c.toNat:Int) ≤ 100))) ∧ w = w' := by
  by_cases h1 : 97 ≤ (c.toNat : Int)
  · by_cases h2 : (c.toNat : Int) ≤ 100 <;> go_enter Try.func79, Try.ntmps79 <;> go_wp2 <;> go_ret <;> exact ⟨by simp [h1,h2], rfl⟩
  · go_enter Try.func79, Try.ntmps79
    go_wp2
    go_ret
    exact ⟨by simp; omega, rfl⟩
def LensPost (rs : List GRule) (w : World) (e : Ending) (w' : World) : Prop :=
  Below w.heap.size w w' ∧ ((∃ ls v, lens rs = some ls ∧ e = .returned (.tuple #[v, .bool (decide (rs.length ≤ 400))]) ∧ OwnInts w' w.heap.size v ls) ∨
    (lens rs = none ∧ e = .returned (.tuple #[.slice none 0 0, .bool false])))
set_option maxRecDepth 100000 in
theorem lengths_any (v : Value) (rs : List GRule) (w : World) (h : Sl RuleE w w.heap.size v rs) (hn : rs.length ≤ 1099511627776) :
    Calls Try.prog 67 #[.agg #[v]] w (LensPost rs w) := by
  obtain ⟨A, c, rfl, hc, hm, hrow⟩ := h
  clear hm
  go_enter Try.func67, Try.ntmps67
  go_wp2_with fail
  go_loopw [4, 12] (fun out i wr => ∃ (k : Nat) (vals : List Int), k ≤ rs.length ∧ i = .int .i64 k ∧ lens (rs.take k) = some vals ∧ Below (w.heap.size+1) (w.alloc (Obj.cells #[Value.slice A rs.length c] 30)) wr ∧ OwnInts wr (w.heap.size+1) out vals) (fun _ i _ => rs.length - (intOf i).toNat)
  case atStart => exact ⟨0, [], Nat.zero_le _, rfl, by simp [lens], (Below.refl _ _).alloc (by simp) _, OwnInts.empty (by simp) (by simp)⟩
  case round =>
    obtain ⟨k, vals, hk, rfl, hlen, hb, hown⟩ := hrel
    have hB : Below w.heap.size w wr := ((Below.refl _ _).alloc (Nat.le_refl _) _).trans (hb.mono (by omega))
    by_cases hlt : k < rs.length
    · have hvk : vals.length = k := by have := lens_length hlen; rw [List.length_take] at this; omega
      obtain ⟨b, o, rfl, hbl, hcell⟩ := (hrow.keep (Keep.of_below hB)).rule hlt
      obtain ⟨r, hrk⟩ : ∃ x, rs[k]? = some x := ⟨_, List.getElem?_eq_getElem hlt⟩
      obtain ⟨hc0, hc1, hc2⟩ := hcell k r hrk
      have hsz : w.heap.size + 1 ≤ wr.heap.size := by have := hb.size; simpa using this
      have hv1 : vals.length ≤ 1099511627776 := by omega
      have hat : 0 < k → _ := fun h => hown.at_ (j := 0) (by omega)
      have Hat := Lib.hid hat
      have Hr := Lib.hid hrk
      have Hlen := Lib.hid hlen
      have Hvk := Lib.hid hvk
      clear hrk hcell hrow hlen hvk hat
      go_wp2_with (first
        | (go_at_call 92; refine (isPair_any _ _ _ _).mono ?_; rintro e w' ⟨rfl, rfl⟩)
        | (go_at_call 37; refine (within_any _ _ _ _).mono ?_; rintro e w' ⟨rfl, rfl⟩)
        | (go_at_call 79; refine (isLetter_any _ _).mono ?_; rintro e w' ⟨rfl, rfl⟩)
        | (at_builtin; go_must (refine push_ints rfl _ _ rfl rfl rfl (by simp) (by repeat (first | exact hown | apply OwnInts.alloc)) (by omega) (by simp; omega) ?_)
           intro v' w1 hown1 hgrow hbw))
      · go_ret2
        exact ⟨by repeat (first | exact hB | (refine Below.alloc ?_ (by first | omega | (simp; omega)) _)), .inr ⟨lens_bad Hlen.out Hr.out (lensStep_none (by rw [Hvk.out]; exact okp_no2 ‹_› ‹_›)), rfl⟩⟩
      · have h1 : 0 ≤ r.left ∧ r.left ≤ (k:Int) - 1 := by assumption
        have h2 : (!decide (0 ≤ r.right)) = false ∧ (!decide (r.right ≤ (k:Int) - 1)) = false := by assumption
        have Hok := Lib.hid (okp_yes (r := r) (k := k) ‹_› h1 h2)
        simp at h2
        obtain ⟨g, cap, rfl, hgb, hgl, hcap, hgc⟩ := Hat.out (by omega)
        have Hgc := Lib.hid hgc
        have hvk := Hvk.out
        have hx1 := hgc r.left.toNat (by omega)
        have hx2 := hgc r.right.toNat (by omega)
        have hi1 : r.left < (vals.length : Int) := by omega
        have hi2 : r.right < (vals.length : Int) := by omega
        have hi3 : 0 ≤ r.right := h2.1
        have hpos := lens_pos Hlen.out
        have hb1 : 1 ≤ vals.getD r.left.toNat 0 ∧ vals.getD r.left.toNat 0 ≤ 1000000000000000 := by
          rw [List.getD_eq_getElem?_getD, List.getElem?_eq_getElem (by omega)]; exact hpos _ (List.getElem_mem _)
        have hb2 : 1 ≤ vals.getD r.right.toNat 0 ∧ vals.getD r.right.toNat 0 ≤ 1000000000000000 := by
          rw [List.getD_eq_getElem?_getD, List.getElem?_eq_getElem (by omega)]; exact hpos _ (List.getElem_mem _)
        have hrl : ruleLen vals r = vals.getD r.left.toNat 0 + vals.getD r.right.toNat 0 := by simp [ruleLen, Hok.out.2]
        generalize vals.getD r.left.toNat 0 = x at *
        generalize vals.getD r.right.toNat 0 = y at *
        have hwr : IntKind.i64.wrap (x + y) = x + y := IntWalk.i64_in _ (by omega)
        have Hrl := Lib.hid hrl
        clear hgc hvk hpos hrl
        go_quiet (fail)
        clear hwr
        go_wp2_with (first
        | (at_builtin; go_must (refine push_ints rfl _ _ rfl rfl rfl (by simp) (by repeat (first | exact hown | apply OwnInts.alloc | apply OwnInts.drewN)) (by omega) (by simp; omega) ?_)
           intro v' w1 hown1 hgrow hbw))
        · go_ret2
          exact ⟨by repeat (first | exact hB | (refine Below.alloc ?_ (by first | omega | (simp; omega)) _) | refine below_drewN ?_ _), .inr ⟨lens_bad Hlen.out Hr.out (lensStep_big (by rw [Hrl.out]; unfold maxL; omega)), rfl⟩⟩
        · go_roundw
          case rel => exact ⟨k + 1, vals ++ [x + y], by omega, by go_num, by have := lens_next Hlen.out Hr.out (by rw [Hvk.out]; exact Hok.out.1) (by rw [Hrl.out]; unfold maxL; omega); rw [Hrl.out] at this; exact this, hb.trans ((below_drewN (((Below.refl _ _).alloc (by omega) _).alloc (by simp; omega) _) _).trans hbw), hown1⟩
          case measure => simp [intOf]; omega
      · go_ret2
        exact ⟨by repeat (first | exact hB | (refine Below.alloc ?_ (by first | omega | (simp; omega)) _)), .inr ⟨lens_bad Hlen.out Hr.out (lensStep_none (by rw [Hvk.out]; exact okp_no1 ‹_› ‹_›)), rfl⟩⟩
      · go_ret2
        exact ⟨by repeat (first | exact hB | (refine Below.alloc ?_ (by first | omega | (simp; omega)) _)), .inr ⟨lens_bad Hlen.out Hr.out (lensStep_none (by rw [Hvk.out]; exact okl_no4 ‹_› ‹_›)), rfl⟩⟩
      · have Hok := okl_yes (r := r) (k := k) ‹_› ‹_› _ ‹_› ‹_› ‹_›
        go_roundw
        case rel => exact ⟨k + 1, vals ++ [1], by omega, by go_num, by have := lens_next Hlen.out Hr.out (by rw [Hvk.out]; exact Hok.1) (by simp [ruleLen, Hok.2, maxL]); simpa [ruleLen, Hok.2] using this, hb.trans (((Below.refl _ _).alloc (by omega) _).alloc (by simp; omega) _ |>.trans hbw), hown1⟩
        case measure => simp [intOf]; omega
      · go_ret2
        exact ⟨by repeat (first | exact hB | (refine Below.alloc ?_ (by first | omega | (simp; omega)) _)), .inr ⟨lens_bad Hlen.out Hr.out (lensStep_none (by rw [Hvk.out]; exact okl_no3 ‹_› ‹_›)), rfl⟩⟩
      · go_ret2
        exact ⟨by repeat (first | exact hB | (refine Below.alloc ?_ (by first | omega | (simp; omega)) _)), .inr ⟨lens_bad Hlen.out Hr.out (lensStep_none (by rw [Hvk.out]; exact okl_no2 ‹_› _ ‹_›)), rfl⟩⟩
      · go_ret2
        exact ⟨by repeat (first | exact hB | (refine Below.alloc ?_ (by first | omega | (simp; omega)) _)), .inr ⟨lens_bad Hlen.out Hr.out (lensStep_none (by rw [Hvk.out]; exact okl_no1 ‹_› ‹_›)), rfl⟩⟩
    · have hkn : k = rs.length := by omega
      have hfin : lens rs = some vals := by rw [← hlen, List.take_of_length_le (by omega)]
      have hg : wr.cell? ⟨w.heap.size, 0, none⟩ = some (Value.slice A rs.length c) := by rw [hb.cell (by simp)]; simp [go_sem]
      have Hfin := Lib.hid hfin
      subst hkn
      clear hlen hrow hfin
      go_wp2_with fail
      go_quiet (fail)
      go_wp2
      go_ret2
      exact ⟨below_drewN hB _, .inl ⟨vals, _, Hfin.out, by simp; omega, ownsRow_more (hown.drewN _) (by omega)⟩⟩
theorem l01Ok_any (s : ByteArray) (w : World) (hs : s.size ≤ maxLen) :
    Calls Try.prog 44 #[.string s] w fun e w' => e = .returned (.bool (wordOk s)) ∧ w = w' := by
  unfold maxLen at hs
  go_enter Try.func44, Try.ntmps44
  go_wp2_with fail
  · go_ret
    exact ⟨ret_bool (by symm; unfold wordOk; rw [Bool.and_eq_false_iff]; left; simp; omega), rfl⟩
  · go_loop [3] (fun i => ∃ k : Nat, k ≤ s.size ∧ i = .int .i64 k ∧ Hid ((s.data.toList.take k).all letOk = true)) (fun i => s.size - (intOf i).toNat)
    case atStart => exact ⟨0, Nat.zero_le _, rfl, by simp [Hid]⟩
    case round =>
      obtain ⟨k, hk, rfl, H⟩ := hrel
      by_cases hlt : k < s.size
      · by_cases h1 : (s[k].toNat : Int) < 97
        · go_wp2
          go_ret
          exact ⟨ret_bool (by have := all_bad hlt (by simp [letOk]; omega); simp [wordOk, this]), rfl⟩
        · by_cases h2 : 100 < (s[k].toNat : Int)
          · go_wp2
            go_ret
            exact ⟨ret_bool (by have := all_bad hlt (by simp [letOk]; omega); simp [wordOk, this]), rfl⟩
          · go_wp2
            go_round
            case rel => exact ⟨k + 1, by omega, by go_num, all_step hlt H.out (by simp [letOk]; omega)⟩
            case measure => simp [intOf]; omega
      · go_wp2
        go_ret
        exact ⟨ret_bool (by have := all_end (by omega) H.out; simp [wordOk, this]; omega), rfl⟩
theorem ValidWord_any (s : ByteArray) (w : World) (hs : s.size ≤ maxLen) :
    Calls Try.prog 50 #[.string s] w fun e w' => e = .returned (.bool (wordOk s)) ∧ w = w' := by
  unfold maxLen at hs
  go_enter Try.func50, Try.ntmps50
  go_wp2_with fail
  go_loop [6] (fun i => ∃ k : Nat, k ≤ s.size ∧ i = .int .i64 k ∧ Hid ((s.data.toList.take k).all letOk = true)) (fun i => s.size - (intOf i).toNat)
  case atStart => exact ⟨0, Nat.zero_le _, rfl, by simp [Hid]⟩
  case round =>
    obtain ⟨k, hk, rfl, H⟩ := hrel
    by_cases hlt : k < s.size
    · go_wp2_with (first | (go_at_call 79; go_must (refine (isLetter_any _ _).mono ?_); rintro e w' ⟨rfl, rfl⟩))
      · go_ret
        exact ⟨ret_bool (by have := all_bad hlt (letOk_bad ‹_›); simp [wordOk, this]), rfl⟩
      · have h1 := letOk_good (c := s[k]) ‹_›
        go_round
        case rel => exact ⟨k + 1, by omega, by go_num, all_step hlt H.out h1⟩
        case measure => simp [intOf]; omega
    · go_wp2
      go_ret
      exact ⟨ret_bool (by have := all_end (by omega) H.out; simp [wordOk, this]), rfl⟩
set_option maxHeartbeats 1000000 in
theorem l02Rule_any (b o : Nat) (r : GRule) (i : Nat) (w : World) (h0 : w.cell? ⟨b, o, none⟩ = some (.string r.letter)) (h1 : w.cell? ⟨b, o + 1, none⟩ = some (.int .i64 r.left)) (h2 : w.cell? ⟨b, o + 2, none⟩ = some (.int .i64 r.right)) (hi : i ≤ 1099511627776) (hs : r.letter.size ≤ maxLen) :
    Calls Try.prog 97 #[.pointer (some ⟨b, o, none⟩), .int .i64 i] w fun e w' => e = .returned (.bool (okRule i r)) ∧ w = w' := by
  have Hs := Lib.hid hs
  clear hs
  go_enter Try.func97, Try.ntmps97
  go_wp2_with (first
    | (go_at_call 44; go_must (refine (l01Ok_any _ _ Hs.out).mono ?_); rintro e w' ⟨rfl, rfl⟩)
    | (go_at_call 28; go_must (refine (l00In_any _ _ _ _).mono ?_); rintro e w' ⟨rfl, rfl⟩))
  · have e : okRule i r = (r.right == 0) := by
      rw [okl_eq ‹_›, ← wordOk_one (by omega), ‹wordOk r.letter = true›, ‹r.left = 0›]; simp
    go_ret
    exact ⟨ret_bool e.symm, rfl⟩
  · have e : okRule i r = false := by
      rw [okl_eq ‹_›]; simp [‹¬ r.left = 0›]
    go_ret
    exact ⟨ret_bool e.symm, rfl⟩
  · have e : okRule i r = false := by
      rw [okl_eq ‹_›, ← wordOk_one (by omega)]; simp [‹¬ wordOk r.letter = true›]
    go_ret
    exact ⟨ret_bool e.symm, rfl⟩
  · have e : okRule i r = false := by
      rw [okl_eq ‹_›, isLet_not ‹_›]; simp
    go_ret
    exact ⟨ret_bool e.symm, rfl⟩
  · have h : 0 ≤ r.left ∧ r.left ≤ (i : Int) - 1 := by assumption
    have e : okRule i r = (decide (0 ≤ r.right) && decide (r.right ≤ (i : Int) - 1)) := by
      rw [okp_eq ‹_›]; simp [h.1, h.2]
    go_ret
    exact ⟨ret_bool e.symm, rfl⟩
  · have h : ¬ (0 ≤ r.left ∧ r.left ≤ (i : Int) - 1) := by assumption
    have e : okRule i r = false := by
      rw [okp_eq ‹_›, Bool.and_eq_false_iff, Bool.and_eq_false_iff, Bool.and_eq_false_iff]; simp; omega
    go_ret
    exact ⟨ret_bool e.symm, rfl⟩
def SizesPost (rs : List GRule) (w : World) (e : Ending) (w' : World) : Prop :=
  Below w.heap.size w w' ∧ ((∃ ls v, lens rs = some ls ∧ e = .returned (.tuple #[v, .bool true]) ∧ OwnInts w' w.heap.size v ls) ∨
    (lens rs = none ∧ ∃ v ls, e = .returned (.tuple #[v, .bool false]) ∧ OwnInts w' w.heap.size v ls))
set_option maxRecDepth 100000 in
theorem l02Sizes_any (b o : Nat) (v : Value) (rs : List GRule) (w : World) (hp : w.cell? ⟨b, o, none⟩ = some v) (hbl : b < w.heap.size) (h : Sl RuleE w w.heap.size v rs) (hsm : SmallL rs) (hn : rs.length ≤ 1099511627776) :
    Calls Try.prog 71 #[.pointer (some ⟨b, o, none⟩)] w (SizesPost rs w) := by
  obtain ⟨A, c, rfl, hc, hm, hrow⟩ := h
  clear hm
  go_enter Try.func71, Try.ntmps71
  go_wp2_with fail
  go_loopw [4, 5] (fun out i wr => ∃ (k : Nat) (vals : List Int), k ≤ rs.length ∧ i = .int .i64 k ∧ lens (rs.take k) = some vals ∧ Below w.heap.size w wr ∧ OwnInts wr w.heap.size out vals) (fun _ i _ => rs.length - (intOf i).toNat)
  case atStart => exact ⟨0, [], Nat.zero_le _, rfl, by simp [lens], (Below.refl _ _).alloc (Nat.le_refl _) _, OwnInts.empty rfl (Nat.le_refl _)⟩
  case round =>
    obtain ⟨k, vals, hk, rfl, hlen, hB, hown⟩ := hrel
    have hpp : wr.cell? ⟨b, o, none⟩ = some (Value.slice A rs.length c) := (hB.cell hbl).trans hp
    by_cases hlt : k < rs.length
    · have hvk : vals.length = k := by have := lens_length hlen; rw [List.length_take] at this; omega
      obtain ⟨b1, o1, rfl, hbl1, hcell⟩ := hrow.rule hlt
      obtain ⟨r, hrk⟩ : ∃ x, rs[k]? = some x := ⟨_, List.getElem?_eq_getElem hlt⟩
      obtain ⟨g0, g1, g2⟩ := hcell k r hrk
      have hc0 := (hB.cell (p := ⟨b1, o1 + k * 3, none⟩) hbl1).trans g0
      have hc1 := (hB.cell (p := ⟨b1, o1 + k * 3 + 1, none⟩) hbl1).trans g1
      have hc2 := (hB.cell (p := ⟨b1, o1 + k * 3 + 2, none⟩) hbl1).trans g2
      have hsr := hsm r (List.mem_of_getElem? hrk)
      have hsz : w.heap.size ≤ wr.heap.size := hB.size
      have hv1 : vals.length ≤ 1099511627776 := by omega
      have Hr := Lib.hid hrk
      have Hlen := Lib.hid hlen
      have Hvk := Lib.hid hvk
      have Hown := Lib.hid hown
      clear hrk hlen hvk hcell g0 g1 g2 hown
      go_wp2_with (first
        | (go_at_call 97; go_must (refine (l02Rule_any _ _ r k _ hc0 hc1 hc2 (by omega) (by unfold maxLen; omega)).mono ?_); rintro e w2 ⟨rfl, rfl⟩)
        | (at_builtin; go_must (refine push_ints rfl _ _ rfl rfl rfl (by simp) (by repeat (first | exact Hown.out | apply OwnInts.alloc | apply OwnInts.drewN | apply OwnRules.alloc | apply OwnRules.drewN)) (by omega) (by first | omega | (simp; omega)) ?_); intro v' w1 hown1 hgrow hbw))
      · have hok : okRule k r = false := by simpa using ‹(!okRule k r) = true›
        go_ret2
        exact ⟨hB, .inr ⟨lens_bad Hlen.out Hr.out (lensStep_none (by rw [Hvk.out]; exact hok)), _, vals, rfl, Hown.out⟩⟩
      · have hok : okRule k r = true := by simpa using ‹(!okRule k r) = false›
        have hpr : r.pair = true := by have h := ‹r.letter.toList.isEmpty = true›; rw [isEmpty_size] at h; exact h
        have hbd : 0 ≤ r.left ∧ r.left ≤ (k : Int) - 1 ∧ 0 ≤ r.right ∧ r.right ≤ (k : Int) - 1 := by
          simp [okRule, hpr] at hok; omega
        have hvk := Hvk.out
        obtain ⟨g, cap, rfl, hgb, hgl, hcap, hgc⟩ := OwnInts.at_ Hown.out (j := 0) (by omega)
        have hx1 := hgc r.left.toNat (by omega)
        have hx2 := hgc r.right.toNat (by omega)
        have hi1 : r.left < (vals.length : Int) := by omega
        have hi2 : r.right < (vals.length : Int) := by omega
        obtain ⟨hj1, _, hj2, _⟩ := hbd
        have hpos := lens_pos Hlen.out
        have hb1 : 1 ≤ vals.getD r.left.toNat 0 ∧ vals.getD r.left.toNat 0 ≤ 1000000000000000 := by
          rw [List.getD_eq_getElem?_getD, List.getElem?_eq_getElem (by omega)]; exact hpos _ (List.getElem_mem _)
        have hb2 : 1 ≤ vals.getD r.right.toNat 0 ∧ vals.getD r.right.toNat 0 ≤ 1000000000000000 := by
          rw [List.getD_eq_getElem?_getD, List.getElem?_eq_getElem (by omega)]; exact hpos _ (List.getElem_mem _)
        have hrl : ruleLen vals r = vals.getD r.left.toNat 0 + vals.getD r.right.toNat 0 := by simp [ruleLen, hpr]
        generalize vals.getD r.left.toNat 0 = x at *
        generalize vals.getD r.right.toNat 0 = y at *
        have hwr : IntKind.i64.wrap (x + y) = x + y := IntWalk.i64_in _ (by omega)
        have Hrl := Lib.hid hrl
        have Hok := Lib.hid hok
        clear hgc hvk hpos hrl hok hpr
        go_quiet (fail)
        clear hwr
        go_wp2_with (at_builtin; go_must (refine push_ints rfl _ _ rfl rfl rfl (by simp) (by repeat (first | exact Hown.out | apply OwnInts.alloc | apply OwnInts.drewN | apply OwnRules.alloc | apply OwnRules.drewN)) (by omega) (by first | omega | (simp; omega)) ?_); intro v' w1 hown1 hgrow hbw)
        · go_ret2
          exact ⟨(by repeat (first | exact hB | (refine Below.alloc ?_ (by first | omega | (simp; done) | (simp; omega)) _) | refine below_drewN ?_ _ | refine Below.drew ?_)), .inr ⟨lens_bad Hlen.out Hr.out (lensStep_big (by rw [Hrl.out]; unfold maxL; omega)), _, vals, rfl, (by repeat (first | exact Hown.out | apply OwnInts.alloc | apply OwnInts.drewN | apply OwnRules.alloc | apply OwnRules.drewN))⟩⟩
        · go_roundw
          case rel => exact ⟨k + 1, vals ++ [x + y], by omega, by go_num, by have := lens_next Hlen.out Hr.out (by rw [Hvk.out]; exact Hok.out) (by rw [Hrl.out]; unfold maxL; omega); rw [Hrl.out] at this; exact this, (below_drewN hB _).trans hbw, hown1⟩
          case measure => simp [intOf]; omega
      · have hok : okRule k r = true := by simpa using ‹(!okRule k r) = false›
        have hpr : r.pair = false := by have h := ‹r.letter.toList.isEmpty = false›; rw [isEmpty_size] at h; exact h
        have hrl : ruleLen vals r = 1 := by simp [ruleLen, hpr]
        go_roundw
        case rel => exact ⟨k + 1, vals ++ [1], by omega, by go_num, by have := lens_next Hlen.out Hr.out (by rw [Hvk.out]; exact hok) (by rw [hrl]; unfold maxL; omega); rw [hrl] at this; exact this, hB.trans hbw, hown1⟩
        case measure => simp [intOf]; omega
    · have hkn : k = rs.length := by omega
      have hfin : lens rs = some vals := by rw [← hlen, List.take_of_length_le (by omega)]
      have Hfin := Lib.hid hfin
      have Hown := Lib.hid hown
      subst hkn
      clear hlen hfin hown
      go_wp2_with fail
      go_ret2
      exact ⟨hB, .inl ⟨vals, _, Hfin.out, rfl, Hown.out⟩⟩
def LengthsPost (rs : List GRule) (w : World) (e : Ending) (w' : World) : Prop :=
  Below w.heap.size w w' ∧ ∃ v ls, e = .returned (.tuple #[v, .bool (decide (rs.length ≤ 400) && (lens rs).isSome)]) ∧ OwnInts w' w.heap.size v ls ∧ (rs.length ≤ 400 → ∀ l, lens rs = some l → ls = l)
theorem l02Lengths_any (b o : Nat) (v : Value) (rs : List GRule) (w : World) (hp : w.cell? ⟨b, o, none⟩ = some v) (hbl : b < w.heap.size) (h : Sl RuleE w w.heap.size v rs) (hsm : SmallL rs) :
    Calls Try.prog 31 #[.pointer (some ⟨b, o, none⟩)] w (LengthsPost rs w) := by
  have h' := h
  obtain ⟨A, c, rfl, hc, hm, hrow⟩ := h'
  have Hsl := Lib.hid h
  clear h hm hrow
  by_cases hn : rs.length ≤ 400
  · go_enter Try.func31, Try.ntmps31
    go_wp2_with fail
    refine (l02Sizes_any _ _ _ _ _ hp hbl Hsl.out hsm (by omega)).mono ?_
    rintro e w1 ⟨hb, (⟨ls, v1, h1, rfl, h2⟩ | ⟨h1, v1, ls, rfl, h2⟩)⟩
    · have H1 := Lib.hid h1
      have H2 := Lib.hid h2
      clear h1 h2
      go_wp2
      go_ret2
      exact ⟨hb, _, ls, by simp [H1.out, hn], H2.out, fun _ l hl => by rw [H1.out] at hl; injection hl⟩
    · have H1 := Lib.hid h1
      have H2 := Lib.hid h2
      clear h1 h2
      go_wp2
      go_ret2
      exact ⟨hb, _, ls, by simp [H1.out], H2.out, fun _ l hl => by rw [H1.out] at hl; cases hl⟩
  · go_enter Try.func31, Try.ntmps31
    go_wp2
    go_ret2
    exact ⟨(Below.refl _ _).alloc (Nat.le_refl _) _, _, [], by simp [hn], OwnInts.empty rfl (Nat.le_refl _), fun h => absurd h hn⟩
def gramOk (rs : List GRule) : Bool := decide (rs.length ≤ 400) && (lens rs).isSome
theorem l02Ok_any (b o : Nat) (v : Value) (rs : List GRule) (w : World) (hp : w.cell? ⟨b, o, none⟩ = some v) (hbl : b < w.heap.size) (h : Sl RuleE w w.heap.size v rs) (hsm : SmallL rs) :
    Calls Try.prog 43 #[.pointer (some ⟨b, o, none⟩)] w fun e w' => e = .returned (.bool (gramOk rs)) ∧ Below w.heap.size w w' := by
  have Hsl := Lib.hid h
  clear h
  go_enter Try.func43, Try.ntmps43
  go_wp2_with fail
  refine (l02Lengths_any _ _ _ _ _ hp hbl Hsl.out hsm).mono ?_
  rintro e w1 ⟨hb, v1, ls, rfl, h2, h3⟩
  clear h2 h3
  go_wp2
  go_ret
  exact ⟨rfl, hb⟩
theorem ValidGrammar_any (v : Value) (rs : List GRule) (w : World) (h : Sl RuleE w w.heap.size v rs) (hn : rs.length ≤ 1099511627776) :
    Calls Try.prog 49 #[.agg #[v]] w fun e w' => e = .returned (.bool (gramOk rs)) ∧ Below w.heap.size w w' := by
  have h1 := fun o => (h.below ((Below.refl w.heap.size w).alloc (Nat.le_refl _) o)).le (B' := (w.alloc o).heap.size) (by simp)
  have H1 := Lib.hid h1
  clear h1 h
  go_enter Try.func49, Try.ntmps49
  go_wp2_with fail
  refine (lengths_any _ _ _ (H1.out _) hn).mono ?_
  rintro e w1 ⟨hb, (⟨ls, v1, h1, rfl, h2⟩ | ⟨h1, rfl⟩)⟩
  · have e1 : gramOk rs = decide (rs.length ≤ 400) := by simp [gramOk, h1]
    have E1 := Lib.hid e1
    clear h1 h2 e1
    go_wp2
    go_ret
    exact ⟨ret_bool (by rw [E1.out]), ((Below.refl _ _).alloc (Nat.le_refl _) _).trans (hb.mono (by simp))⟩
  · have e1 : gramOk rs = false := by simp [gramOk, h1]
    have E1 := Lib.hid e1
    clear h1 e1
    go_wp2
    go_ret
    exact ⟨ret_bool (by rw [E1.out]), ((Below.refl _ _).alloc (Nat.le_refl _) _).trans (hb.mono (by simp))⟩
end Go.Proofs.Ytfkijaamfmpboaa
