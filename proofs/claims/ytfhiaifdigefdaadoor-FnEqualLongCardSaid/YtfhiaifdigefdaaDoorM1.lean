import Derived.Shelf.Bits.Mul64
import Derived.Test.YtfhiaifdigefdaaDoorProg
import Derived.Laws.Strings
import Derived.Test.YtfhiaifdigefdaaDoorRows
import Derived.WalkKit
import Derived.ProofKit
import Derived.Deep.QuietTactic
import Derived.BigQuiet
import Derived.Deep.LoopGhost
import Derived.Deep.Light
import Derived.Deep.AppendLies
import Derived.Deep.Draws
import Derived.Maps.AppendAt
import Derived.Lib.Hide
import Derived.WalkSpells
import Derived.Laws.Bits64b
import Derived.Deep.DeepMust
import Derived.LoopTactic
import Derived.Deep.RegionHeld3
import Derived.Shelf.Abstract
namespace Go.Proofs
open Go.Shelf Go.RowKit
def Tryd.lays264_ren : Go.Shelf.Ren := ⟨fun | 264 => 82 | n => n, fun | 53 => 76 | 46 => 107 | n => n, fun | n => n⟩
theorem Tryd.lays264 : Go.Proofs.Lays.n264 Tryd.prog Tryd.lays264_ren := {
  mixed := by kernel_rfl
  f264 := Tryd.func82.trans (congrArg some (by kernel_rfl))
  t46 := Tryd.underlying107
  a46 := Tryd.isAgg107
  z46 := Tryd.sizeOf107
  v46 := Tryd.zeroValue107
  t53 := Tryd.underlying76
  a53 := Tryd.isAgg76
  z53 := Tryd.sizeOf76
  v53 := Tryd.zeroValue76 }
open Go.RowKit Go.Lib in
theorem Tryd.bits_Mul64 (x y : Nat) (hx : x < 18446744073709551616) (hy : y < 18446744073709551616) (w : World) :
    Calls Tryd.prog 82 #[.int .u64 x, .int .u64 y] w fun e w' => e = .returned (.tuple #[.int .u64 ((x * y / 18446744073709551616 : Nat) : Int), .int .u64 ((x * y % 18446744073709551616 : Nat) : Int)]) ∧ w' = w := Any.bits_Mul64 Tryd.lays264 x y hx hy w
end Go.Proofs
namespace Go.Proofs.YtfhiaifdigefdaaDoor
structure GRule where
  letter : ByteArray
  left : Int
  right : Int
  deriving DecidableEq
def maxL : Int := 1000000000000000
def GRule.pair (r : GRule) : Bool := r.letter.size == 0
def isLet (s : ByteArray) : Bool := s.size == 1 && decide (97 ≤ ((s.data.getD 0 0).toNat : Int)) && decide (((s.data.getD 0 0).toNat : Int) ≤ 100)
def okRule (i : Nat) (r : GRule) : Bool :=
  if r.pair then decide (0 ≤ r.left) && decide (r.left ≤ (i : Int) - 1) && decide (0 ≤ r.right) && decide (r.right ≤ (i : Int) - 1) else isLet r.letter && r.left == 0 && r.right == 0
def ruleLen (out : List Int) (r : GRule) : Int := if r.pair then out.getD r.left.toNat 0 + out.getD r.right.toNat 0 else 1
def lensStep (o : Option (List Int)) (r : GRule) : Option (List Int) :=
  o.bind fun out => if okRule out.length r = true ∧ ruleLen out r ≤ maxL then some (out ++ [ruleLen out r]) else none
def lens (rs : List GRule) : Option (List Int) := rs.foldl lensStep (some [])
theorem foldl_take_succ {α β : Type} (f : β → α → β) (s : β) (xs : List α) (k : Nat) (x : α) (h : xs[k]? = some x) :
    (xs.take (k + 1)).foldl f s = f ((xs.take k).foldl f s) x := by
  rw [List.take_add_one, h]; simp
theorem lens_none (xs : List GRule) : xs.foldl lensStep none = none := by
  induction xs with
  | nil => rfl
  | cons x xs ih => simpa [lensStep] using ih
theorem lens_bad {rs : List GRule} {k : Nat} {out : List Int} {r : GRule} (h : lens (rs.take k) = some out) (hr : rs[k]? = some r) (hb : lensStep (some out) r = none) : lens rs = none := by
  have h1 : lens (rs.take (k+1)) = none := by unfold lens at *; rw [foldl_take_succ _ _ _ _ _ hr, h, hb]
  have h2 : lens rs = (rs.drop (k+1)).foldl lensStep (lens (rs.take (k+1))) := by
    unfold lens; rw [← List.foldl_append, List.take_append_drop]
  rw [h2, h1, lens_none]
theorem lens_next {rs : List GRule} {k : Nat} {out : List Int} {r : GRule} (h : lens (rs.take k) = some out) (hr : rs[k]? = some r) (h1 : okRule out.length r = true) (h2 : ruleLen out r ≤ maxL) :
    lens (rs.take (k+1)) = some (out ++ [ruleLen out r]) := by
  unfold lens at *; rw [foldl_take_succ _ _ _ _ _ hr, h]; simp [lensStep, h1, h2]
theorem lens_length {rs : List GRule} {out : List Int} (h : lens rs = some out) : out.length = rs.length := by
  suffices H : ∀ (xs : List GRule) (a o : List Int), xs.foldl lensStep (some a) = some o → o.length = a.length + xs.length by
    simpa using H rs [] out h
  intro xs
  induction xs with
  | nil => intro a o h; simp at h; subst h; simp
  | cons x xs ih =>
    intro a o h
    simp only [List.foldl_cons, lensStep, Option.bind_some] at h
    split at h
    · have := ih _ _ h; simp at this ⊢; omega
    · rw [lens_none] at h; cases h
theorem lens_pos {rs : List GRule} {out : List Int} (h : lens rs = some out) : ∀ v ∈ out, 1 ≤ v ∧ v ≤ maxL := by
  suffices H : ∀ (xs : List GRule) (a o : List Int), (∀ v ∈ a, 1 ≤ v ∧ v ≤ maxL) → xs.foldl lensStep (some a) = some o → ∀ v ∈ o, 1 ≤ v ∧ v ≤ maxL by
    exact H rs [] out (by simp) h
  intro xs
  induction xs with
  | nil => intro a o ha h; simp at h; subst h; exact ha
  | cons x xs ih =>
    intro a o ha h
    simp only [List.foldl_cons, lensStep, Option.bind_some] at h
    split at h
    · rename_i hc
      refine ih _ _ ?_ h
      intro v hv
      rw [List.mem_append] at hv
      rcases hv with hv | hv
      · exact ha v hv
      · simp at hv; subst hv
        refine ⟨?_, hc.2⟩
        unfold ruleLen
        split
        · rename_i hp
          have hok := hc.1
          simp only [okRule, hp, if_true, Bool.and_eq_true, decide_eq_true_eq] at hok
          have g : ∀ j : Nat, j < a.length → 1 ≤ a.getD j 0 := by
            intro j hj
            rw [List.getD_eq_getElem?_getD, List.getElem?_eq_getElem hj]
            exact (ha _ (List.getElem_mem hj)).1
          have g1 := g x.left.toNat (by omega)
          have g2 := g x.right.toNat (by omega)
          omega
        · omega
    · rw [lens_none] at h; cases h
theorem isEmpty_size (s : ByteArray) : s.toList.isEmpty = (s.size == 0) := by
  have h : s.toList = s.data.toList := by
    exact ByteArray.toList_eq s
  rw [h]; show s.data.toList.isEmpty = (s.data.size == 0)
  cases s.data with | mk l => cases l <;> simp
theorem lensStep_none {out : List Int} {r : GRule} (h : okRule out.length r = false) : lensStep (some out) r = none := by simp [lensStep, h]
theorem lensStep_big {out : List Int} {r : GRule} (h : maxL < ruleLen out r) : lensStep (some out) r = none := by
  have : ¬ ruleLen out r ≤ maxL := by omega
  simp [lensStep, this]
section
variable {k : Nat} {r : GRule}
theorem okp_yes (h1 : r.letter.toList.isEmpty = true) (h2 : 0 ≤ r.left ∧ r.left ≤ (k:Int) - 1) (h3 : (!decide (0 ≤ r.right)) = false ∧ (!decide (r.right ≤ (k:Int) - 1)) = false) : okRule k r = true ∧ r.pair = true := by
  rw [isEmpty_size] at h1
  simp at h3
  have hp : r.pair = true := h1
  simp [okRule, hp]; omega
theorem okp_no1 (h1 : r.letter.toList.isEmpty = true) (h2 : ¬ (0 ≤ r.left ∧ r.left ≤ (k:Int) - 1)) : okRule k r = false := by
  rw [isEmpty_size] at h1
  have hp : r.pair = true := h1
  simp [okRule, hp]; omega
theorem okp_no2 (h1 : r.letter.toList.isEmpty = true) (h3 : (!decide (0 ≤ r.right)) = true ∨ (!decide (r.right ≤ (k:Int) - 1)) = true) : okRule k r = false := by
  rw [isEmpty_size] at h1
  have hp : r.pair = true := h1
  simp at h3
  simp [okRule, hp]; omega
theorem getD0 (s : ByteArray) (h : 0 < s.size) : s.data.getD 0 0 = s[0] := by
  have h' : 0 < s.data.size := h
  show s.data.getD 0 0 = s.data[0]
  simp [Array.getD, h]
theorem okl_yes (h1 : r.letter.toList.isEmpty = false) (h2 : (r.letter.size : Int) = 1) (hs : 0 < r.letter.size) (h3 : (97 : Int) ≤ ((r.letter[0]'hs).toNat : Int) ∧ ((r.letter[0]'hs).toNat : Int) ≤ 100) (h4 : r.left = 0) (h5 : (r.right != 0) = false) :
    okRule k r = true ∧ r.pair = false := by
  rw [isEmpty_size] at h1
  have hp : r.pair = false := h1
  simp at h5
  have h2' : r.letter.size = 1 := by omega
  simp only [okRule, hp, isLet, getD0 _ hs, h4, h5, h2']
  simp [h3.1, h3.2]
theorem okl_no1 (h1 : r.letter.toList.isEmpty = false) (h2 : ¬ (r.letter.size : Int) = 1) : okRule k r = false := by
  rw [isEmpty_size] at h1
  have hp : r.pair = false := h1
  have h2' : ¬ r.letter.size = 1 := by omega
  simp [okRule, hp, isLet, h2']
theorem okl_no2 (h1 : r.letter.toList.isEmpty = false) (hs : 0 < r.letter.size) (h3 : ¬ ((97 : Int) ≤ ((r.letter[0]'hs).toNat : Int) ∧ ((r.letter[0]'hs).toNat : Int) ≤ 100)) : okRule k r = false := by
  rw [isEmpty_size] at h1
  have hp : r.pair = false := h1
  simp only [okRule, hp, isLet, getD0 _ hs]
  by_cases ha : (97 : Int) ≤ ((r.letter[0]'hs).toNat : Int)
  · have hb : ¬ ((r.letter[0]'hs).toNat : Int) ≤ 100 := fun hb => h3 ⟨ha, hb⟩
    simp [hb]
  · simp [ha]
theorem okl_no3 (h1 : r.letter.toList.isEmpty = false) (h4 : ¬ r.left = 0) : okRule k r = false := by
  rw [isEmpty_size] at h1
  have hp : r.pair = false := h1
  simp [okRule, hp, h4]
theorem okl_no4 (h1 : r.letter.toList.isEmpty = false) (h5 : (r.right != 0) = true) : okRule k r = false := by
  rw [isEmpty_size] at h1
  have hp : r.pair = false := h1
  simp at h5
  simp [okRule, hp, h5]
end
def letOk (c : UInt8) : Bool := decide (97 ≤ (c.toNat : Int)) && decide ((c.toNat : Int) ≤ 100)
def wordOk (s : ByteArray) : Bool := decide ((s.size : Int) ≤ 2000) && s.data.toList.all letOk
theorem toList_getElem? (s : ByteArray) (k : Nat) (h : k < s.size) : s.data.toList[k]? = some s[k] := by
  have h' : k < s.data.toList.length := by simpa using h
  rw [List.getElem?_eq_getElem h']; rfl
theorem all_step {s : ByteArray} {k : Nat} (h : k < s.size) (ha : (s.data.toList.take k).all letOk = true) (hk : letOk s[k] = true) : (s.data.toList.take (k+1)).all letOk = true := by
  rw [List.take_add_one, toList_getElem? s k h, List.all_append, ha]; simpa using hk
theorem all_bad {s : ByteArray} {k : Nat} (h : k < s.size) (hk : letOk s[k] = false) : s.data.toList.all letOk = false := by
  rw [List.all_eq_false]
  exact ⟨s[k], List.mem_of_getElem? (toList_getElem? s k h), by simp [hk]⟩
theorem all_end {s : ByteArray} {k : Nat} (h : s.size ≤ k) (ha : (s.data.toList.take k).all letOk = true) : s.data.toList.all letOk = true := by
  rw [List.take_of_length_le (by simpa using h)] at ha; exact ha
theorem wordOk_one {s : ByteArray} (h : s.size = 1) : wordOk s = isLet s := by
  obtain ⟨⟨l⟩⟩ := s
  match l, h with
  | [c], _ => simp [wordOk, isLet, letOk, ByteArray.size]
theorem okl_eq {i : Nat} {r : GRule} (h : (!r.letter.toList.isEmpty) = true) : okRule i r = (isLet r.letter && r.left == 0 && r.right == 0) := by
  rw [isEmpty_size] at h
  have hp : r.pair = false := by simpa [GRule.pair] using h
  simp [okRule, hp]
theorem okp_eq {i : Nat} {r : GRule} (h : (!r.letter.toList.isEmpty) = false) : okRule i r = (decide (0 ≤ r.left) && decide (r.left ≤ (i : Int) - 1) && decide (0 ≤ r.right) && decide (r.right ≤ (i : Int) - 1)) := by
  rw [isEmpty_size] at h
  have hp : r.pair = true := by simpa [GRule.pair] using h
  simp [okRule, hp]
theorem isLet_not {s : ByteArray} (h : ¬ (s.size : Int) = 1) : isLet s = false := by
  have : ¬ s.size = 1 := by omega
  simp [isLet, this]
open Go.RowKit
section
variable {w w' : World} {B B' size n : Nat} {A : Option Addr} {xs : List Value}
end
def GRule.cells (r : GRule) : List Value := [.string r.letter, .int .i64 r.left, .int .i64 r.right]
theorem cells3 (rs : List GRule) (k : Nat) (r : GRule) (h : rs[k]? = some r) :
   (rs.flatMap GRule.cells)[k*3]? = some (.string r.letter) ∧ (rs.flatMap GRule.cells)[k*3+1]? = some (.int .i64 r.left) ∧ (rs.flatMap GRule.cells)[k*3+2]? = some (.int .i64 r.right) := by
  induction rs generalizing k with
  | nil => simp at h
  | cons x xs ih =>
    cases k with
    | zero => simp at h; subst h; simp [GRule.cells]
    | succ k =>
      have := ih k (by simpa using h)
      simp only [List.flatMap_cons]
      have e : (GRule.cells x).length = 3 := rfl
      rw [List.getElem?_append_right (by omega), List.getElem?_append_right (by omega), List.getElem?_append_right (by omega), e]
      rw [show (k+1)*3-3 = k*3 by omega, show (k+1)*3+1-3 = k*3+1 by omega, show (k+1)*3+2-3 = k*3+2 by omega]
      exact this
def OwnInts (w : World) (base : Nat) (v : Value) (l : List Int) : Prop := w.ownsRow base 2 1 v l.length (l.map (Value.int .i64))
theorem own_nil {w : World} {base e s : Nat} {v : Value} {n : Nat} {xs : List Value} (h : w.ownsRow base e s v n xs) : ∃ A cap, v = .slice A n cap ∧ n ≤ cap ∧ cap ≤ maxLen := by
  rcases h.2 with ⟨rfl, rfl⟩ | ⟨g, cap, cur, rfl, _, _, h1, h2, _⟩
  · exact ⟨none, 0, rfl, Nat.le_refl _, Nat.zero_le _⟩
  · exact ⟨_, cap, rfl, h1, h2⟩
theorem own_form {w : World} {base e s : Nat} {v : Value} {n : Nat} {xs : List Value} (h : w.ownsRow base e s v n xs) (hn : 0 < n) :
    ∃ g cap, v = .slice (some ⟨g, 0, none⟩) n cap ∧ base ≤ g ∧ g < w.heap.size ∧ (n ≤ cap ∧ cap ≤ maxLen) ∧ ∀ j u, xs[j]? = some u → w.cell? ⟨g, j, none⟩ = some u := by
  obtain ⟨g, cap, hv, hb, hlt⟩ := h.form hn
  subst hv
  have hf := h.2
  refine ⟨g, cap, rfl, hb, hlt, ?_, fun j u hu => ?_⟩
  · rcases hf with ⟨h1, _⟩ | ⟨g', cap', cur, h1, _, _, h2, h4, _⟩
    · cases h1
    · injection h1 with _ _ h3; subst h3; exact ⟨h2, h4⟩
  · have hj : j < xs.length := (List.getElem?_eq_some_iff.1 hu).1
    rw [h.1] at hj
    rw [h.cellAt j hj, hu]
theorem wpList_push {P : Program} {W : World} {ops : Array Oper} {rest : List Oper} {o : Oper} {a : Act} {Q : Exit → Act → World → Prop} (hgd : o.guard = none) (s x : Operand) (t : TypeId)
    (ho : o.op = .call { callee := .builtin .append, args := #[s, x], argTypes := #[t, t] }) {cs : Array Value} {e : TypeId}
    (i : TypeInfo) (z : Value) (size bytes : Nat) (ht : P.underlying t = some (.slice e)) (hi : P.info? e = some i) (hz : i.zero = some z)
    (hsize : i.size = size) (hby : i.bytes = bytes) (hzs : z.cells.size = size) (hsz : 0 < size)
    {base : Nat} {v : Value} {n : Nat} {xs : List Value} (hs : a.eval s = v) (hx : a.eval x = .slice (some ⟨W.heap.size, 0, none⟩) 1 1)
    (hcs : cs.size = size) (h1 : ∀ u ∈ cs.toList, u.oneCell' = true) (hown : W.ownsRow base e size v n xs)
    (hlen : (n + 1) * bytes ≤ 140737488355328) (hn : n + 1 ≤ 140737488355328) (hbase : base ≤ W.heap.size)
    (h : ∀ v' w', w'.ownsRow base e size v' (n + 1) (xs ++ cs.toList) → (W.alloc (.cells cs e)).grownBy w' v.ownBlock → Below base W w' → wpList P ops Q rest (a.put o.dst v') w') :
    wpList P ops Q (o :: rest) a (W.alloc (.cells cs e)) := by
  refine wpList_plain hgd fun _ hK => ?_
  obtain ⟨v', w', hrun, h2, h3, h5⟩ := run_append_own_at (P := P) (W.alloc (.cells cs e)) base t o.type e i z size bytes ht hi hz hsize hby hzs hsz v n xs (hown.alloc _) ⟨W.heap.size, 0, none⟩ 1 1 cs.toList (by simpa using hcs)
    (fun j u hu => by
      have : (W.alloc (.cells cs e)).cell? ⟨W.heap.size, j, none⟩ = cs[j]? := cell_of_row _ _ _ _ e (0, 0) (heap_alloc_new W _)
      have ha : (⟨W.heap.size, 0, none⟩ : Addr).add j = ⟨W.heap.size, j, none⟩ := by unfold Addr.add; split <;> simp_all
      rw [ha, this]; simpa using hu) h1 (by simp only [maxLen]; omega) hlen (by simp; omega)
  unfold Oper.wp execOp
  simp only [ho, resolve, invoke, builtin, Sem.run_bind, Sem.run_pure, Result.andThen_ok, List.map_toArray, List.map_cons, List.map_nil, hs, hx, hrun]
  refine hK _ _ (h v' w' h2 h3 ?_)
  exact ((Below.refl base W).alloc hbase _).grown h3 (by simp; omega) (fun k hk => (hown.lt k hk).1)
theorem Tryd.infoI : (Tryd.prog.info? 2).map (fun i => (i.zero, i.size, i.bytes)) = some (some (.int .i64 0), 1, 8) := by kernel_rfl
theorem Tryd.infoR : (Tryd.prog.info? 42).map (fun i => (i.zero, i.size, i.bytes)) = some (some (.agg #[.string ⟨#[]⟩, .int .i64 0, .int .i64 0]), 3, 32) := by kernel_rfl
def OwnRules (w : World) (base : Nat) (v : Value) (l : List GRule) : Prop := w.ownsRow base 42 3 v l.length (l.flatMap GRule.cells)
theorem OwnInts.alloc {w : World} {base : Nat} {v : Value} {l : List Int} (h : OwnInts w base v l) (o : Obj) : OwnInts (w.alloc o) base v l := World.ownsRow.alloc h o
theorem OwnRules.alloc {w : World} {base : Nat} {v : Value} {l : List GRule} (h : OwnRules w base v l) (o : Obj) : OwnRules (w.alloc o) base v l := World.ownsRow.alloc h o
theorem OwnInts.drew {w : World} {base : Nat} {v : Value} {l : List Int} (h : OwnInts w base v l) : OwnInts w.drew base v l := h
theorem OwnRules.drew {w : World} {base : Nat} {v : Value} {l : List GRule} (h : OwnRules w base v l) : OwnRules w.drew base v l := h
theorem OwnInts.drewN {w : World} {base : Nat} {v : Value} {l : List Int} (h : OwnInts w base v l) (n : Nat) : OwnInts (w.drewN n) base v l := h
theorem OwnRules.drewN {w : World} {base : Nat} {v : Value} {l : List GRule} (h : OwnRules w base v l) (n : Nat) : OwnRules (w.drewN n) base v l := h
theorem OwnInts.at_ {w : World} {base : Nat} {v : Value} {l : List Int} (h : OwnInts w base v l) {j : Nat} (hj : j < l.length) :
    ∃ g cap, v = .slice (some ⟨g, 0, none⟩) l.length cap ∧ base ≤ g ∧ g < w.heap.size ∧ l.length ≤ cap ∧ ∀ i, i < l.length → w.cell? ⟨g, i, none⟩ = some (.int .i64 (l.getD i 0)) := by
  obtain ⟨g, cap, hv, hb, hlt, hc, hcell⟩ := own_form h (by omega)
  refine ⟨g, cap, hv, hb, hlt, hc.1, fun i hi => hcell i _ ?_⟩
  rw [List.getElem?_map, List.getD_eq_getElem?_getD, List.getElem?_eq_getElem hi]; rfl
theorem push_ints {W : World} {ops : Array Oper} {rest : List Oper} {o : Oper} {a : Act} {Q : Exit → Act → World → Prop} (hgd : o.guard = none) (s x : Operand)
    (ho : o.op = .call { callee := .builtin .append, args := #[s, x], argTypes := #[58, 58] }) {y : Int} {base : Nat} {v : Value} {l : List Int}
    (hs : a.eval s = v) {N : Nat} (hx : a.eval x = .slice (some ⟨N, 0, none⟩) 1 1) (hN : N = W.heap.size) (hown : OwnInts W base v l) (hlen : l.length ≤ 1099511627776) (hbase : base ≤ W.heap.size)
    (h : ∀ v' w', OwnInts w' base v' (l ++ [y]) → (W.alloc (.cells #[.int .i64 y] 2)).grownBy w' v.ownBlock → Below base W w' → wpList Tryd.prog ops Q rest (a.put o.dst v') w') :
    wpList Tryd.prog ops Q (o :: rest) a (W.alloc (.cells #[.int .i64 y] 2)) := by
  subst hN
  obtain ⟨i0, hi0, hz0, hz1, hz2⟩ := info_parts Tryd.infoI
  refine wpList_push hgd s x 58 ho i0 (.int .i64 0) 1 8 Tryd.underlying58 hi0 hz0 hz1 hz2 rfl (by decide) hs hx rfl (by simp [Value.oneCell']) hown (by omega) (by omega) hbase ?_
  intro v' w' h1 h2 h3
  refine h v' w' ?_ h2 h3
  unfold OwnInts
  simpa using h1
theorem push_rules {W : World} {ops : Array Oper} {rest : List Oper} {o : Oper} {a : Act} {Q : Exit → Act → World → Prop} (hgd : o.guard = none) (s x : Operand)
    (ho : o.op = .call { callee := .builtin .append, args := #[s, x], argTypes := #[24, 24] }) {y : GRule} {base : Nat} {v : Value} {l : List GRule}
    (hs : a.eval s = v) {N : Nat} (hx : a.eval x = .slice (some ⟨N, 0, none⟩) 1 1) (hN : N = W.heap.size) (hown : OwnRules W base v l) (hlen : l.length ≤ 1099511627776) (hbase : base ≤ W.heap.size)
    (h : ∀ v' w', OwnRules w' base v' (l ++ [y]) → (W.alloc (.cells #[.string y.letter, .int .i64 y.left, .int .i64 y.right] 42)).grownBy w' v.ownBlock → Below base W w' → wpList Tryd.prog ops Q rest (a.put o.dst v') w') :
    wpList Tryd.prog ops Q (o :: rest) a (W.alloc (.cells #[.string y.letter, .int .i64 y.left, .int .i64 y.right] 42)) := by
  subst hN
  obtain ⟨i0, hi0, hz0, hz1, hz2⟩ := info_parts Tryd.infoR
  refine wpList_push hgd s x 24 ho i0 _ 3 32 Tryd.underlying24 hi0 hz0 hz1 hz2 rfl (by decide) hs hx rfl (by simp [Value.oneCell']) hown (by omega) (by omega) hbase ?_
  intro v' w' h1 h2 h3
  refine h v' w' ?_ h2 h3
  unfold OwnRules
  simpa [GRule.cells] using h1
theorem below_drewN {B : Nat} {a w : World} (h : Below B a w) (n : Nat) : Below B a (w.drewN n) := ⟨h.os, h.tape, h.output, h.size, h.block⟩
theorem ownsRow_more {w : World} {base base' e s : Nat} {v : Value} {n : Nat} {xs : List Value} (h : w.ownsRow base e s v n xs) (hb : base' ≤ base) : w.ownsRow base' e s v n xs := by
  obtain ⟨h1, h2⟩ := h
  refine ⟨h1, ?_⟩
  rcases h2 with h2 | ⟨g, cap, cur, h3, h4, r⟩
  · exact .inl h2
  · exact .inr ⟨g, cap, cur, h3, by omega, r⟩
theorem OwnInts.empty {w : World} {base N : Nat} (hN : N = w.heap.size) (hb : base ≤ w.heap.size) : OwnInts (w.alloc (Obj.cells #[] 2)) base (Value.slice (some ⟨N, 0, none⟩) 0 0) [] := by
  subst hN
  exact World.ownsRow_lit w #[] 0 hb (Nat.zero_le _) rfl
theorem OwnRules.empty {w : World} {base N : Nat} (hN : N = w.heap.size) (hb : base ≤ w.heap.size) : OwnRules (w.alloc (Obj.cells #[] 42)) base (Value.slice (some ⟨N, 0, none⟩) 0 0) [] := by
  subst hN
  exact World.ownsRow_lit w #[] 0 hb (Nat.zero_le _) rfl
theorem ret_bool {a b : Bool} (h : a = b) : Ending.returned (.bool a) = .returned (.bool b) := by rw [h]
theorem ret_int {k : IntKind} {a b : Int} (h : a = b) : Ending.returned (.int k a) = .returned (.int k b) := by rw [h]
theorem bcell {W w1 : World} {N : Nat} (hb : Below N W w1) : (∀ b o, b < N → w1.cell? ⟨b, o, none⟩ = W.cell? ⟨b, o, none⟩) ∧ (∀ b o, b < N → w1.frozen? ⟨b, o, none⟩ = W.frozen? ⟨b, o, none⟩) :=
  ⟨fun b o h => hb.cell (p := ⟨b, o, none⟩) h, fun b o h => hb.frozen (p := ⟨b, o, none⟩) h⟩
theorem ownsRow_below {w w' : World} {base e s : Nat} {v : Value} {n : Nat} {xs : List Value} (h : w.ownsRow base e s v n xs) (hb : Below w.heap.size w w') : w'.ownsRow base e s v n xs :=
  h.kept (row := none) ⟨hb.os, hb.tape, hb.output, hb.size, fun k hk _ => hb.block k hk⟩ (by cases h : v.ownBlock <;> simp)
def pF : Nat := 2305843009213693951
theorem u64_and (n : Nat) (h : n < 18446744073709551616) : bits BinOp.and IntKind.u64 (n : Int) 2305843009213693951 = ((n % 2305843009213693952 : Nat) : Int) := by
  have h1 := bits_and_u64_nat n 2305843009213693951 h (by decide)
  have e : n &&& 2305843009213693951 = n % 2305843009213693952 := Nat.and_two_pow_sub_one_eq_mod n 61
  rw [e] at h1
  exact h1
theorem u64_or (x h : Nat) (hx : x < 8) (hh : h < 1152921504606846976) : bits BinOp.or IntKind.u64 (x : Int) ((h * 8 : Nat) : Int) = ((x + h * 8 : Nat) : Int) := by
  rw [bits_or_u64_nat x (h * 8) (by omega) (by omega)]
  have e := Nat.shiftLeft_add_eq_or_of_lt (i := 3) (b := x) (by omega) h
  rw [Nat.shiftLeft_eq] at e
  rw [Nat.or_comm, ← e]
  congr 1
  omega
theorem fold1 (X : Nat) (hX : X ≤ 2305843009213693950 * 2305843009213693950) :
    X / 18446744073709551616 < 1152921504606846976 ∧ X % 18446744073709551616 / 2305843009213693952 < 8 ∧
    X % 18446744073709551616 % 2305843009213693952 + (X % 18446744073709551616 / 2305843009213693952 + X / 18446744073709551616 * 8) < 4611686018427387904 ∧
    (∀ o, o = X % 18446744073709551616 % 2305843009213693952 + (X % 18446744073709551616 / 2305843009213693952 + X / 18446744073709551616 * 8) →
      (o % 2305843009213693952 + o / 2305843009213693952 < 2305843009213693953) ∧
      (2305843009213693951 ≤ o % 2305843009213693952 + o / 2305843009213693952 → o % 2305843009213693952 + o / 2305843009213693952 - 2305843009213693951 = X % 2305843009213693951) ∧
      (o % 2305843009213693952 + o / 2305843009213693952 < 2305843009213693951 → o % 2305843009213693952 + o / 2305843009213693952 = X % 2305843009213693951)) := by
  have e : 2305843009213693950 * 2305843009213693950 = 5316911983139663482391856204266602500 := by decide
  rw [e] at hX
  refine ⟨by omega, by omega, by omega, ?_⟩
  intro o ho
  refine ⟨by omega, ?_, ?_⟩
  · intro h; omega
  · intro h; omega
set_option maxRecDepth 100000 in
theorem mulField_any (a b : Nat) (w : World) (ha : a < pF) (hb : b < pF) :
    Calls Tryd.prog 73 #[.int .u64 a, .int .u64 b] w fun e w' => e = .returned (.int .u64 ((a * b % pF : Nat) : Int)) ∧ w = w' := by
  unfold pF at ha hb ⊢
  obtain ⟨f1, f2, f3, f4⟩ := fold1 (a * b) (Nat.mul_le_mul (by omega) (by omega))
  go_enter Tryd.func73, Tryd.ntmps73
  go_wp2_with fail
  refine (Tryd.bits_Mul64 a b (by omega) (by omega) _).mono ?_
  rintro e w1 ⟨rfl, rfl⟩
  obtain ⟨X, hX⟩ : ∃ X, a * b = X := ⟨_, rfl⟩
  have HX := Lib.hid hX
  rw [hX] at f1 f2 f3 f4 ⊢
  obtain ⟨hi, hhi⟩ : ∃ h, X / 18446744073709551616 = h := ⟨_, rfl⟩
  obtain ⟨lo, hlo⟩ : ∃ h, X % 18446744073709551616 = h := ⟨_, rfl⟩
  rw [hhi, hlo] at f3 f4
  rw [hhi] at f1
  rw [hlo] at f2
  rw [hhi, hlo]
  have hlo2 : lo < 18446744073709551616 := by rw [← hlo]; exact Nat.mod_lt _ (by decide)
  have e1 := u64_and lo hlo2
  have e2 : IntKind.u64.wrap ((hi : Int) * 8) = (hi : Int) * 8 := IntWalk.u64_in _ (by omega)
  have e3 : bits BinOp.or IntKind.u64 ((lo : Int) / 2305843009213693952) ((hi : Int) * 8) = (lo : Int) / 2305843009213693952 + (hi : Int) * 8 := by
    have := u64_or (lo / 2305843009213693952) hi f2 f1
    rw [Int.natCast_add, Int.natCast_mul, Int.natCast_ediv] at this
    exact this
  obtain ⟨o, ho⟩ : ∃ o, lo % 2305843009213693952 + (lo / 2305843009213693952 + hi * 8) = o := ⟨_, rfl⟩
  rw [ho] at f3
  obtain ⟨g1, g2, g3⟩ := f4 o ho.symm
  have e4 : IntKind.u64.wrap ((lo : Int) % 2305843009213693952 + ((lo : Int) / 2305843009213693952 + (hi : Int) * 8)) = (o : Int) := by
    rw [← ho]
    rw [IntWalk.u64_in _ (by omega)]
    omega
  have e5 := u64_and o (by omega)
  have e6 : IntKind.u64.wrap ((o : Int) % 2305843009213693952 + (o : Int) / 2305843009213693952) = (o : Int) % 2305843009213693952 + (o : Int) / 2305843009213693952 := IntWalk.u64_in _ (by omega)
  clear hhi hlo f4 ho hX
  obtain ⟨R, hR⟩ : ∃ R, X % 2305843009213693951 = R := ⟨_, rfl⟩
  rw [hR] at g2 g3
  have HR := Lib.hid (show a * b % 2305843009213693951 = R by rw [HX.out]; exact hR)
  clear hR
  obtain ⟨T, hT⟩ : ∃ T, o % 2305843009213693952 + o / 2305843009213693952 = T := ⟨_, rfl⟩
  rw [hT] at g1 g2 g3
  have hTI : (o : Int) % 2305843009213693952 + (o : Int) / 2305843009213693952 = (T : Int) := by rw [← hT]; omega
  rw [hTI] at e6
  clear hT
  by_cases hge : 2305843009213693951 ≤ T
  · have hgI : (2305843009213693951 : Int) ≤ (T : Int) := by omega
    have e7 : IntKind.u64.wrap ((T : Int) - 2305843009213693951) = (T : Int) - 2305843009213693951 := IntWalk.u64_in _ (by omega)
    have hfin : (T : Int) - 2305843009213693951 = (R : Int) := by have := g2 hge; omega
    have HF := Lib.hid hfin
    clear hfin g2 g3 hge
    go_wp2_with fail
    go_ret
    refine ⟨?_, rfl⟩
    rw [HR.out, ← HF.out]
    rfl
  · have hgI : (T : Int) < 2305843009213693951 := by omega
    have hfin : T = R := g3 (by omega)
    subst hfin
    clear g2 g3 hge
    go_upto_if 28 with fail
    rw [show (decide ((2305843009213693951 : Int) ≤ (T : Int))) = false from decide_eq_false (by omega)]
    clear hgI g1 hTI e1 e2 e3 e4 e5 e6 f3 hlo2 f1 f2 ha hb
    go_wp2_with fail
    go_ret
    exact ⟨by rw [HR.out]; rfl, rfl⟩
set_option maxRecDepth 100000 in
theorem addField_any (a b : Nat) (w : World) (ha : a < pF) (hb : b < pF) :
    Calls Tryd.prog 74 #[.int .u64 a, .int .u64 b] w fun e w' => e = .returned (.int .u64 (((a + b) % pF : Nat) : Int)) ∧ w = w' := by
  unfold pF at ha hb ⊢
  have e1 : IntKind.u64.wrap ((a : Int) + (b : Int)) = (a : Int) + (b : Int) := IntWalk.u64_in _ (by omega)
  by_cases hge : 2305843009213693951 ≤ a + b
  · have HF := Lib.hid (show ((a : Int) + (b : Int)) - 2305843009213693951 = (((a + b) % 2305843009213693951 : Nat) : Int) by omega)
    have e2 : IntKind.u64.wrap (((a : Int) + (b : Int)) - 2305843009213693951) = ((a : Int) + (b : Int)) - 2305843009213693951 := IntWalk.u64_in _ (by omega)
    go_enter Tryd.func74, Tryd.ntmps74
    go_upto_if 9 with fail
    rw [show (decide ((2305843009213693951 : Int) ≤ (a : Int) + (b : Int))) = true from decide_eq_true (by omega)]
    clear hge ha hb
    go_wp2_with fail
    go_ret
    refine ⟨?_, rfl⟩
    rw [← HF.out]
    rfl
  · have HF := Lib.hid (show ((a : Int) + (b : Int)) = (((a + b) % 2305843009213693951 : Nat) : Int) by omega)
    go_enter Tryd.func74, Tryd.ntmps74
    go_upto_if 9 with fail
    rw [show (decide ((2305843009213693951 : Int) ≤ (a : Int) + (b : Int))) = false from decide_eq_false (by omega)]
    clear hge ha hb e1
    go_wp2_with fail
    go_ret
    refine ⟨?_, rfl⟩
    rw [← HF.out]
    rfl
def Keep (S : Nat → Prop) (w w' : World) : Prop := ∀ b, S b → w'.heap[b]? = w.heap[b]?
theorem Keep.cell {S : Nat → Prop} {w w' : World} (h : Keep S w w') {b o : Nat} (hb : S b) : w'.cell? ⟨b, o, none⟩ = w.cell? ⟨b, o, none⟩ := World.cell?_of_block (a := ⟨b, o, none⟩) (h b hb)
theorem Keep.of_below {B : Nat} {w w' : World} (h : Below B w w') : Keep (· < B) w w' := fun b hb => h.block b hb
theorem Keep.mono {S S' : Nat → Prop} {w w' : World} (h : Keep S w w') (hs : ∀ b, S' b → S b) : Keep S' w w' := fun b hb => h b (hs b hb)
theorem Keep.trans {S : Nat → Prop} {w w' w'' : World} (h : Keep S w w') (h' : Keep S w' w'') : Keep S w w'' := fun b hb => (h' b hb).trans (h b hb)
theorem Keep.refl (S : Nat → Prop) (w : World) : Keep S w w := fun _ _ => rfl
theorem Keep.of_grown {w w' : World} {row : Option Nat} (h : w.grownBy w' row) : Keep (fun b => b < w.heap.size ∧ some b ≠ row) w w' := fun b hb => h.block b hb.1 hb.2
structure Enc (α : Type) where
  size : Nat
  pos : 0 < size
  cells : World → (Nat → Prop) → α → List Value → Prop
  len : ∀ {w S x cs}, cells w S x cs → cs.length = size
  keep : ∀ {w w' S x cs}, cells w S x cs → Keep S w w' → cells w' S x cs
  more : ∀ {w S S' x cs}, cells w S x cs → (∀ b, S b → S' b) → cells w S' x cs
  one : ∀ {w S x cs}, cells w S x cs → ∀ u ∈ cs, u.oneCell' = true
def IntE : Enc Int where
  size := 1
  pos := by decide
  cells := fun _ _ x cs => cs = [.int .i64 x]
  len := by rintro _ _ _ _ rfl; rfl
  keep := fun h _ => h
  more := fun h _ => h
  one := by rintro _ _ _ _ rfl; simp [Value.oneCell']
def RuleE : Enc GRule where
  size := 3
  pos := by decide
  cells := fun _ _ x cs => cs = x.cells
  len := by rintro _ _ _ _ rfl; rfl
  keep := fun h _ => h
  more := fun h _ => h
  one := by rintro _ _ _ _ rfl; simp [GRule.cells, Value.oneCell']
section
variable {α : Type} (E : Enc α)
def Row (w : World) (S : Nat → Prop) (A : Option Addr) (xs : List α) : Prop :=
  0 < xs.length → ∃ b o, A = some ⟨b, o, none⟩ ∧ S b ∧ ∀ k x, xs[k]? = some x → ∃ cs, E.cells w S x cs ∧ ∀ j u, cs[j]? = some u → w.cell? ⟨b, o + (k * E.size + j), none⟩ = some u
def SlS (w : World) (S : Nat → Prop) (v : Value) (xs : List α) : Prop := ∃ A c, v = .slice A xs.length c ∧ xs.length ≤ c ∧ c ≤ maxLen ∧ Row E w S A xs
abbrev Sl (w : World) (B : Nat) (v : Value) (xs : List α) : Prop := SlS E w (· < B) v xs
variable {E} {w w' : World} {S S' : Nat → Prop} {B B' : Nat} {A : Option Addr} {v : Value} {xs : List α}
theorem Row.keep (h : Row E w S A xs) (hb : Keep S w w') : Row E w' S A xs := fun hn => by
  obtain ⟨b, o, rfl, hlt, hc⟩ := h hn
  refine ⟨b, o, rfl, hlt, fun k x hx => ?_⟩
  obtain ⟨cs, h1, h2⟩ := hc k x hx
  exact ⟨cs, E.keep h1 hb, fun j u hu => (hb.cell hlt).trans (h2 j u hu)⟩
theorem Row.more (h : Row E w S A xs) (hB : ∀ b, S b → S' b) : Row E w S' A xs := fun hn => by
  obtain ⟨b, o, rfl, hlt, hc⟩ := h hn
  refine ⟨b, o, rfl, hB _ hlt, fun k x hx => ?_⟩
  obtain ⟨cs, h1, h2⟩ := hc k x hx
  exact ⟨cs, E.more h1 hB, h2⟩
theorem SlS.keep (h : SlS E w S v xs) (hb : Keep S w w') : SlS E w' S v xs := by
  obtain ⟨A, c, rfl, h1, h0, h2⟩ := h
  exact ⟨A, c, rfl, h1, h0, h2.keep hb⟩
theorem SlS.more (h : SlS E w S v xs) (hB : ∀ b, S b → S' b) : SlS E w S' v xs := by
  obtain ⟨A, c, rfl, h1, h0, h2⟩ := h
  exact ⟨A, c, rfl, h1, h0, h2.more hB⟩
theorem SlS.below (h : Sl E w B v xs) (hb : Below B w w') : Sl E w' B v xs := h.keep (Keep.of_below hb)
theorem SlS.le (h : Sl E w B v xs) (hB : B ≤ B') : Sl E w B' v xs := h.more fun _ hb => Nat.lt_of_lt_of_le hb hB
theorem SlS.up {w0 : World} (h : Sl E w0 w0.heap.size v xs) (hb : Below w0.heap.size w0 w) : Sl E w w.heap.size v xs := (h.below hb).le hb.size
theorem SlS.drewN (h : SlS E w S v xs) (n : Nat) : SlS E (w.drewN n) S v xs := h.keep fun _ _ => rfl
theorem SlS.nil (w : World) (S : Nat → Prop) : SlS E w S (.slice none 0 0) [] := ⟨none, 0, rfl, Nat.le_refl _, Nat.zero_le _, fun h => absurd h (by simp)⟩
end
def SliceE {α : Type} (E : Enc α) : Enc (List α) where
  size := 1
  pos := by decide
  cells := fun w S x cs => ∃ v, cs = [v] ∧ SlS E w S v x
  len := by rintro _ _ _ _ ⟨v, rfl, _⟩; rfl
  keep := by rintro _ _ _ _ _ ⟨v, rfl, h⟩ hb; exact ⟨v, rfl, h.keep hb⟩
  more := by rintro _ _ _ _ _ ⟨v, rfl, h⟩ hb; exact ⟨v, rfl, h.more hb⟩
  one := by rintro _ _ _ _ ⟨v, rfl, A, c, rfl, _⟩; simp [Value.oneCell']
section
variable {w w' : World} {S : Nat → Prop} {A : Option Addr} {v : Value}
theorem Row.int {l : List Int} (h : Row IntE w S A l) {k : Nat} (hk : k < l.length) :
    ∃ b o, A = some ⟨b, o, none⟩ ∧ S b ∧ ∀ i, i < l.length → w.cell? ⟨b, o + i, none⟩ = some (.int .i64 (l.getD i 0)) := by
  obtain ⟨b, o, rfl, hlt, hc⟩ := h (by omega)
  refine ⟨b, o, rfl, hlt, fun i hi => ?_⟩
  obtain ⟨cs, h1, h2⟩ := hc i l[i] (List.getElem?_eq_getElem hi)
  have := h2 0 (.int .i64 l[i]) (by rw [show cs = [.int .i64 l[i]] from h1]; rfl)
  rw [List.getD_eq_getElem?_getD, List.getElem?_eq_getElem hi]
  simpa [IntE] using this
theorem Row.rule {l : List GRule} (h : Row RuleE w S A l) {k : Nat} (hk : k < l.length) :
    ∃ b o, A = some ⟨b, o, none⟩ ∧ S b ∧ ∀ i r, l[i]? = some r → w.cell? ⟨b, o + i * 3, none⟩ = some (.string r.letter) ∧ w.cell? ⟨b, o + i * 3 + 1, none⟩ = some (.int .i64 r.left) ∧ w.cell? ⟨b, o + i * 3 + 2, none⟩ = some (.int .i64 r.right) := by
  obtain ⟨b, o, rfl, hlt, hc⟩ := h (by omega)
  refine ⟨b, o, rfl, hlt, fun i r hi => ?_⟩
  obtain ⟨cs, h1, h2⟩ := hc i r hi
  have e : cs = r.cells := h1
  subst e
  exact ⟨by simpa [RuleE] using h2 0 _ rfl, by simpa [RuleE, Nat.add_assoc] using h2 1 _ rfl, by simpa [RuleE, Nat.add_assoc] using h2 2 _ rfl⟩
theorem Row.sl {α : Type} {E : Enc α} {l : List (List α)} (h : Row (SliceE E) w S A l) {k : Nat} (hk : k < l.length) :
    ∃ b o, A = some ⟨b, o, none⟩ ∧ S b ∧ ∀ i x, l[i]? = some x → ∃ v, w.cell? ⟨b, o + i, none⟩ = some v ∧ SlS E w S v x := by
  obtain ⟨b, o, rfl, hlt, hc⟩ := h (by omega)
  refine ⟨b, o, rfl, hlt, fun i x hi => ?_⟩
  obtain ⟨cs, ⟨v, rfl, h1⟩, h2⟩ := hc i x hi
  exact ⟨v, by simpa [SliceE] using h2 0 v rfl, h1⟩
theorem Row.of_own {α : Type} {E : Enc α} {base e c : Nat} {xs : List α} {n : Nat} {A : Option Addr} {us : List Value} (h : w.ownsRow base e E.size (.slice A n c) n us) (hl : xs.length = n)
    (hS : ∀ g, (Value.slice A n c).ownBlock = some g → S g)
    (hx : ∀ k x, xs[k]? = some x → ∃ cs, E.cells w S x cs ∧ ∀ j u, cs[j]? = some u → us[k * E.size + j]? = some u) : Row E w S A xs := fun hn => by
  obtain ⟨g, cap, hv, hb, hlt, _, hcell⟩ := own_form h (by omega)
  injection hv with hA
  subst hA
  refine ⟨g, 0, rfl, hS g rfl, fun k x hk => ?_⟩
  obtain ⟨cs, h1, h2⟩ := hx k x hk
  exact ⟨cs, h1, fun j u hu => by rw [Nat.zero_add]; exact hcell _ _ (h2 j u hu)⟩
theorem OwnInts.slS {base : Nat} {l : List Int} (h : OwnInts w base v l) (hS : ∀ g, v.ownBlock = some g → S g) : SlS IntE w S v l := by
  obtain ⟨A, cap, rfl, h1, h2⟩ := own_nil h
  refine ⟨A, cap, rfl, h1, h2, Row.of_own (E := IntE) h rfl hS fun k x hx => ⟨[.int .i64 x], rfl, fun j u hu => ?_⟩⟩
  cases j with
  | zero => simp at hu; subst hu; simp [IntE, hx]
  | succ j => simp at hu
theorem OwnRules.slS {base : Nat} {l : List GRule} (h : OwnRules w base v l) (hS : ∀ g, v.ownBlock = some g → S g) : SlS RuleE w S v l := by
  obtain ⟨A, cap, rfl, h1, h2⟩ := own_nil h
  refine ⟨A, cap, rfl, h1, h2, Row.of_own (E := RuleE) h rfl hS fun k r hx => ⟨r.cells, rfl, fun j u hu => ?_⟩⟩
  obtain ⟨c0, c1, c2⟩ := cells3 l k r hx
  match j, hu with
  | 0, hu => simp [GRule.cells] at hu; subst hu; simpa [RuleE] using c0
  | 1, hu => simp [GRule.cells] at hu; subst hu; simpa [RuleE] using c1
  | 2, hu => simp [GRule.cells] at hu; subst hu; simpa [RuleE] using c2
  | j + 3, hu => simp [GRule.cells] at hu
theorem OwnInts.sl {base : Nat} {l : List Int} (h : OwnInts w base v l) : Sl IntE w w.heap.size v l := h.slS fun g hg => (h.lt g hg).2
theorem OwnRules.sl {base : Nat} {l : List GRule} (h : OwnRules w base v l) : Sl RuleE w w.heap.size v l := h.slS fun g hg => (h.lt g hg).2
end
def Each {α : Type} (E : Enc α) (w : World) (S : Nat → Prop) (vs : List Value) (xs : List (List α)) : Prop := vs.length = xs.length ∧ ∀ (k : Nat) x, xs[k]? = some x → ∃ v, vs[k]? = some v ∧ SlS E w S v x
theorem Each.keep {α : Type} {E : Enc α} {w w' : World} {S : Nat → Prop} {vs : List Value} {xs : List (List α)} (h : Each E w S vs xs) (hk : Keep S w w') : Each E w' S vs xs :=
  ⟨h.1, fun k x hx => by obtain ⟨v, h1, h2⟩ := h.2 k x hx; exact ⟨v, h1, h2.keep hk⟩⟩
theorem Each.more {α : Type} {E : Enc α} {w : World} {S S' : Nat → Prop} {vs : List Value} {xs : List (List α)} (h : Each E w S vs xs) (hk : ∀ b, S b → S' b) : Each E w S' vs xs :=
  ⟨h.1, fun k x hx => by obtain ⟨v, h1, h2⟩ := h.2 k x hx; exact ⟨v, h1, h2.more hk⟩⟩
theorem Each.snoc {α : Type} {E : Enc α} {w : World} {S : Nat → Prop} {vs : List Value} {xs : List (List α)} {v : Value} {x : List α} (h : Each E w S vs xs) (hv : SlS E w S v x) : Each E w S (vs ++ [v]) (xs ++ [x]) :=
  ⟨by simp [h.1], fun k y hy => by
    rcases Nat.lt_trichotomy k xs.length with hk | hk | hk
    · rw [List.getElem?_append_left hk] at hy
      obtain ⟨u, h1, h2⟩ := h.2 k y hy
      exact ⟨u, by rw [List.getElem?_append_left (by rw [h.1]; exact hk)]; exact h1, h2⟩
    · rw [hk] at hy ⊢
      rw [List.getElem?_append_right (Nat.le_refl _)] at hy
      simp at hy
      subst hy
      exact ⟨v, by rw [List.getElem?_append_right (by rw [h.1]; exact Nat.le_refl _), h.1]; simp, hv⟩
    · rw [List.getElem?_append_right (by omega)] at hy
      have : ([x] : List (List α))[k - xs.length]? = none := List.getElem?_eq_none (by simp; omega)
      rw [this] at hy; cases hy⟩
theorem Each.nil {α : Type} {E : Enc α} {w : World} {S : Nat → Prop} : Each E w S [] [] := ⟨rfl, fun k x hx => by simp at hx⟩
theorem Each.sl {α : Type} {E : Enc α} {w : World} {S : Nat → Prop} {vs : List Value} {xs : List (List α)} {base e : Nat} {v : Value} (h : Each E w S vs xs) (ho : w.ownsRow base e 1 v xs.length vs) (hS : ∀ g, v.ownBlock = some g → S g) : SlS (SliceE E) w S v xs := by
  obtain ⟨A, cap, rfl, h1, h2⟩ := own_nil ho
  refine ⟨A, cap, rfl, h1, h2, Row.of_own (E := SliceE E) ho rfl hS fun k x hx => ?_⟩
  obtain ⟨u, hu, hs⟩ := h.2 k x hx
  refine ⟨[u], ⟨u, rfl, hs⟩, fun j y hy => ?_⟩
  cases j with
  | zero => simp at hy; subst hy; simpa [SliceE] using hu
  | succ j => simp at hy
def SmallL (rs : List GRule) : Prop := ∀ r ∈ rs, r.letter.size ≤ 9223372036854775807
theorem within_any (n a b : Int) (w : World) :
    Calls Tryd.prog 25 #[.int .i64 n, .int .i64 a, .int .i64 b] w fun e w' => e = .returned (.bool (decide (a ≤ n) && decide (n ≤ b))) ∧ w = w' := by
  by_cases h1 : a ≤ n
  · by_cases h2 : n ≤ b <;> go_enter Tryd.func25, Tryd.ntmps25 <;> go_wp2 <;> go_ret <;> exact ⟨by simp [h1,h2], rfl⟩
  · go_enter Tryd.func25, Tryd.ntmps25
    go_wp2
    go_ret
    exact ⟨by simp; omega, rfl⟩
theorem l00In_any (n a b : Int) (w : World) :
    Calls Tryd.prog 84 #[.int .i64 n, .int .i64 a, .int .i64 b] w fun e w' => e = .returned (.bool (decide (a ≤ n) && decide (n ≤ b))) ∧ w = w' := by
  by_cases h1 : a ≤ n
  · by_cases h2 : n ≤ b <;> go_enter Tryd.func84, Tryd.ntmps84 <;> go_wp2 <;> go_ret <;> exact ⟨by simp [h1,h2], rfl⟩
  · go_enter Tryd.func84, Tryd.ntmps84
    go_wp2
    go_ret
    exact ⟨by simp; omega, rfl⟩
theorem isPair_any (l : ByteArray) (a b : Int) (w : World) :
    Calls Tryd.prog 50 #[.agg #[.string l, .int .i64 a, .int .i64 b]] w fun e w' => e = .returned (.bool (l.toList.isEmpty)) ∧ w.alloc (.cells #[.string l, .int .i64 a, .int .i64 b] 42) = w' := by
  go_enter Tryd.func50, Tryd.ntmps50
  go_wp2
  go_ret
  exact ⟨by simp, rfl⟩
theorem isLetter_any (c : UInt8) (w : World) :
    Calls Tryd.prog 51 #[.int .u8 c.toNat] w fun e w' => e = .returned (.bool (decide (97 ≤ (c.toNat:Int)) && decide ((c.toNat:Int) ≤ 100))) ∧ w = w' := by
  by_cases h1 : 97 ≤ (c.toNat : Int)
  · by_cases h2 : (c.toNat : Int) ≤ 100 <;> go_enter Tryd.func51, Tryd.ntmps51 <;> go_wp2 <;> go_ret <;> exact ⟨by simp [h1,h2], rfl⟩
  · go_enter Tryd.func51, Tryd.ntmps51
    go_wp2
    go_ret
    exact ⟨by simp; omega, rfl⟩
def LensPost (rs : List GRule) (w : World) (e : Ending) (w' : World) : Prop :=
  Below w.heap.size w w' ∧ ((∃ ls v, lens rs = some ls ∧ e = .returned (.tuple #[v, .bool (decide (rs.length ≤ 400))]) ∧ OwnInts w' w.heap.size v ls) ∨
    (lens rs = none ∧ e = .returned (.tuple #[.slice none 0 0, .bool false])))
set_option maxRecDepth 100000 in
theorem lengths_any (v : Value) (rs : List GRule) (w : World) (h : Sl RuleE w w.heap.size v rs) (hn : rs.length ≤ 1099511627776) :
    Calls Tryd.prog 30 #[.agg #[v]] w (LensPost rs w) := by
  obtain ⟨A, c, rfl, hc, hm, hrow⟩ := h
  clear hm
  go_enter Tryd.func30, Tryd.ntmps30
  go_wp2_with fail
  go_loopw [4, 12] (fun out i wr => ∃ (k : Nat) (vals : List Int), k ≤ rs.length ∧ i = .int .i64 k ∧ lens (rs.take k) = some vals ∧ Below (w.heap.size+1) (w.alloc (Obj.cells #[Value.slice A rs.length c] 26)) wr ∧ OwnInts wr (w.heap.size+1) out vals) (fun _ i _ => rs.length - (intOf i).toNat)
  case atStart => exact ⟨0, [], Nat.zero_le _, rfl, by simp [lens], (Below.refl _ _).alloc (by simp) _, OwnInts.empty (by simp) (by simp)⟩
  case round =>
    obtain ⟨k, vals, hk, rfl, hlen, hb, hown⟩ := hrel
    have hB : Below w.heap.size w wr := ((Below.refl _ _).alloc (Nat.le_refl _) _).trans (hb.mono (by omega))
    by_cases hlt : k < rs.length
    · have hvk : vals.length = k := by have := lens_length hlen; rw [List.length_take] at this; omega
      obtain ⟨b, o, rfl, hbl, hcell⟩ := (hrow.keep (Keep.of_below hB)).rule hlt
      obtain ⟨r, hrk⟩ : ∃ x, rs[k]? = some x := ⟨_, List.getElem?_eq_getElem hlt⟩
      obtain ⟨hc0, hc1, hc2⟩ := hcell k r hrk
      have hsz : w.heap.size + 1 ≤ wr.heap.size := by have := hb.size; simpa using this
      have hv1 : vals.length ≤ 1099511627776 := by omega
      have hat : 0 < k → _ := fun h => hown.at_ (j := 0) (by omega)
      have Hat := Lib.hid hat
      have Hr := Lib.hid hrk
      have Hlen := Lib.hid hlen
      have Hvk := Lib.hid hvk
      clear hrk hcell hrow hlen hvk hat
      go_wp2_with (first
        | (go_at_call 50; refine (isPair_any _ _ _ _).mono ?_; rintro e w' ⟨rfl, rfl⟩)
        | (go_at_call 25; refine (within_any _ _ _ _).mono ?_; rintro e w' ⟨rfl, rfl⟩)
        | (go_at_call 51; refine (isLetter_any _ _).mono ?_; rintro e w' ⟨rfl, rfl⟩)
        | (at_builtin; go_must (refine push_ints rfl _ _ rfl rfl rfl (by simp) (by repeat (first | exact hown | apply OwnInts.alloc)) (by omega) (by simp; omega) ?_)
           intro v' w1 hown1 hgrow hbw))
      · go_ret2
        exact ⟨by repeat (first | exact hB | (refine Below.alloc ?_ (by first | omega | (simp; omega)) _)), .inr ⟨lens_bad Hlen.out Hr.out (lensStep_none (by rw [Hvk.out]; exact okp_no2 ‹_› ‹_›)), rfl⟩⟩
      · have h1 : 0 ≤ r.left ∧ r.left ≤ (k:Int) - 1 := by assumption
        have h2 : (!decide (0 ≤ r.right)) = false ∧ (!decide (r.right ≤ (k:Int) - 1)) = false := by assumption
        have Hok := Lib.hid (okp_yes (r := r) (k := k) ‹_› h1 h2)
        simp at h2
        obtain ⟨g, cap, rfl, hgb, hgl, hcap, hgc⟩ := Hat.out (by omega)
        have Hgc := Lib.hid hgc
        have hvk := Hvk.out
        have hx1 := hgc r.left.toNat (by omega)
        have hx2 := hgc r.right.toNat (by omega)
        have hi1 : r.left < (vals.length : Int) := by omega
        have hi2 : r.right < (vals.length : Int) := by omega
        have hi3 : 0 ≤ r.right := h2.1
        have hpos := lens_pos Hlen.out
        have hb1 : 1 ≤ vals.getD r.left.toNat 0 ∧ vals.getD r.left.toNat 0 ≤ 1000000000000000 := by
          rw [List.getD_eq_getElem?_getD, List.getElem?_eq_getElem (by omega)]; exact hpos _ (List.getElem_mem _)
        have hb2 : 1 ≤ vals.getD r.right.toNat 0 ∧ vals.getD r.right.toNat 0 ≤ 1000000000000000 := by
          rw [List.getD_eq_getElem?_getD, List.getElem?_eq_getElem (by omega)]; exact hpos _ (List.getElem_mem _)
        have hrl : ruleLen vals r = vals.getD r.left.toNat 0 + vals.getD r.right.toNat 0 := by simp [ruleLen, Hok.out.2]
        generalize vals.getD r.left.toNat 0 = x at *
        generalize vals.getD r.right.toNat 0 = y at *
        have hwr : IntKind.i64.wrap (x + y) = x + y := IntWalk.i64_in _ (by omega)
        have Hrl := Lib.hid hrl
        clear hgc hvk hpos hrl
        go_quiet (fail)
        clear hwr
        go_wp2_with (first
        | (at_builtin; go_must (refine push_ints rfl _ _ rfl rfl rfl (by simp) (by repeat (first | exact hown | apply OwnInts.alloc | apply OwnInts.drewN)) (by omega) (by simp; omega) ?_)
           intro v' w1 hown1 hgrow hbw))
        · go_ret2
          exact ⟨by repeat (first | exact hB | (refine Below.alloc ?_ (by first | omega | (simp; omega)) _) | refine below_drewN ?_ _), .inr ⟨lens_bad Hlen.out Hr.out (lensStep_big (by rw [Hrl.out]; unfold maxL; omega)), rfl⟩⟩
        · go_roundw
          case rel => exact ⟨k + 1, vals ++ [x + y], by omega, by go_num, by have := lens_next Hlen.out Hr.out (by rw [Hvk.out]; exact Hok.out.1) (by rw [Hrl.out]; unfold maxL; omega); rw [Hrl.out] at this; exact this, hb.trans ((below_drewN (((Below.refl _ _).alloc (by omega) _).alloc (by simp; omega) _) _).trans hbw), hown1⟩
          case measure => simp [intOf]; omega
      · go_ret2
        exact ⟨by repeat (first | exact hB | (refine Below.alloc ?_ (by first | omega | (simp; omega)) _)), .inr ⟨lens_bad Hlen.out Hr.out (lensStep_none (by rw [Hvk.out]; exact okp_no1 ‹_› ‹_›)), rfl⟩⟩
      · go_ret2
        exact ⟨by repeat (first | exact hB | (refine Below.alloc ?_ (by first | omega | (simp; omega)) _)), .inr ⟨lens_bad Hlen.out Hr.out (lensStep_none (by rw [Hvk.out]; exact okl_no4 ‹_› ‹_›)), rfl⟩⟩
      · have Hok := okl_yes (r := r) (k := k) ‹_› ‹_› _ ‹_› ‹_› ‹_›
        go_roundw
        case rel => exact ⟨k + 1, vals ++ [1], by omega, by go_num, by have := lens_next Hlen.out Hr.out (by rw [Hvk.out]; exact Hok.1) (by simp [ruleLen, Hok.2, maxL]); simpa [ruleLen, Hok.2] using this, hb.trans (((Below.refl _ _).alloc (by omega) _).alloc (by simp; omega) _ |>.trans hbw), hown1⟩
        case measure => simp [intOf]; omega
      · go_ret2
        exact ⟨by repeat (first | exact hB | (refine Below.alloc ?_ (by first | omega | (simp; omega)) _)), .inr ⟨lens_bad Hlen.out Hr.out (lensStep_none (by rw [Hvk.out]; exact okl_no3 ‹_› ‹_›)), rfl⟩⟩
      · go_ret2
        exact ⟨by repeat (first | exact hB | (refine Below.alloc ?_ (by first | omega | (simp; omega)) _)), .inr ⟨lens_bad Hlen.out Hr.out (lensStep_none (by rw [Hvk.out]; exact okl_no2 ‹_› _ ‹_›)), rfl⟩⟩
      · go_ret2
        exact ⟨by repeat (first | exact hB | (refine Below.alloc ?_ (by first | omega | (simp; omega)) _)), .inr ⟨lens_bad Hlen.out Hr.out (lensStep_none (by rw [Hvk.out]; exact okl_no1 ‹_› ‹_›)), rfl⟩⟩
    · have hkn : k = rs.length := by omega
      have hfin : lens rs = some vals := by rw [← hlen, List.take_of_length_le (by omega)]
      have hg : wr.cell? ⟨w.heap.size, 0, none⟩ = some (Value.slice A rs.length c) := by rw [hb.cell (by simp)]; simp [go_sem]
      have Hfin := Lib.hid hfin
      subst hkn
      clear hlen hrow hfin
      go_wp2_with fail
      go_quiet (fail)
      go_wp2
      go_ret2
      exact ⟨below_drewN hB _, .inl ⟨vals, _, Hfin.out, by simp; omega, ownsRow_more (hown.drewN _) (by omega)⟩⟩
theorem l01Ok_any (s : ByteArray) (w : World) (hs : s.size ≤ maxLen) :
    Calls Tryd.prog 83 #[.string s] w fun e w' => e = .returned (.bool (wordOk s)) ∧ w = w' := by
  unfold maxLen at hs
  go_enter Tryd.func83, Tryd.ntmps83
  go_wp2_with fail
  · go_ret
    exact ⟨ret_bool (by symm; unfold wordOk; rw [Bool.and_eq_false_iff]; left; simp; omega), rfl⟩
  · go_loop [3] (fun i => ∃ k : Nat, k ≤ s.size ∧ i = .int .i64 k ∧ Hid ((s.data.toList.take k).all letOk = true)) (fun i => s.size - (intOf i).toNat)
    case atStart => exact ⟨0, Nat.zero_le _, rfl, by simp [Hid]⟩
    case round =>
      obtain ⟨k, hk, rfl, H⟩ := hrel
      by_cases hlt : k < s.size
      · by_cases h1 : (s[k].toNat : Int) < 97
        · go_wp2
          go_ret
          exact ⟨ret_bool (by have := all_bad hlt (by simp [letOk]; omega); simp [wordOk, this]), rfl⟩
        · by_cases h2 : 100 < (s[k].toNat : Int)
          · go_wp2
            go_ret
            exact ⟨ret_bool (by have := all_bad hlt (by simp [letOk]; omega); simp [wordOk, this]), rfl⟩
          · go_wp2
            go_round
            case rel => exact ⟨k + 1, by omega, by go_num, all_step hlt H.out (by simp [letOk]; omega)⟩
            case measure => simp [intOf]; omega
      · go_wp2
        go_ret
        exact ⟨ret_bool (by have := all_end (by omega) H.out; simp [wordOk, this]; omega), rfl⟩
set_option maxHeartbeats 1000000 in
theorem l02Rule_any (b o : Nat) (r : GRule) (i : Nat) (w : World) (h0 : w.cell? ⟨b, o, none⟩ = some (.string r.letter)) (h1 : w.cell? ⟨b, o + 1, none⟩ = some (.int .i64 r.left)) (h2 : w.cell? ⟨b, o + 2, none⟩ = some (.int .i64 r.right)) (hi : i ≤ 1099511627776) (hs : r.letter.size ≤ maxLen) :
    Calls Tryd.prog 75 #[.pointer (some ⟨b, o, none⟩), .int .i64 i] w fun e w' => e = .returned (.bool (okRule i r)) ∧ w = w' := by
  have Hs := Lib.hid hs
  clear hs
  go_enter Tryd.func75, Tryd.ntmps75
  go_wp2_with (first
    | (go_at_call 83; go_must (refine (l01Ok_any _ _ Hs.out).mono ?_); rintro e w' ⟨rfl, rfl⟩)
    | (go_at_call 84; go_must (refine (l00In_any _ _ _ _).mono ?_); rintro e w' ⟨rfl, rfl⟩))
  · have e : okRule i r = (r.right == 0) := by
      rw [okl_eq ‹_›, ← wordOk_one (by omega), ‹wordOk r.letter = true›, ‹r.left = 0›]; simp
    go_ret
    exact ⟨ret_bool e.symm, rfl⟩
  · have e : okRule i r = false := by
      rw [okl_eq ‹_›]; simp [‹¬ r.left = 0›]
    go_ret
    exact ⟨ret_bool e.symm, rfl⟩
  · have e : okRule i r = false := by
      rw [okl_eq ‹_›, ← wordOk_one (by omega)]; simp [‹¬ wordOk r.letter = true›]
    go_ret
    exact ⟨ret_bool e.symm, rfl⟩
  · have e : okRule i r = false := by
      rw [okl_eq ‹_›, isLet_not ‹_›]; simp
    go_ret
    exact ⟨ret_bool e.symm, rfl⟩
  · have h : 0 ≤ r.left ∧ r.left ≤ (i : Int) - 1 := by assumption
    have e : okRule i r = (decide (0 ≤ r.right) && decide (r.right ≤ (i : Int) - 1)) := by
      rw [okp_eq ‹_›]; simp [h.1, h.2]
    go_ret
    exact ⟨ret_bool e.symm, rfl⟩
  · have h : ¬ (0 ≤ r.left ∧ r.left ≤ (i : Int) - 1) := by assumption
    have e : okRule i r = false := by
      rw [okp_eq ‹_›, Bool.and_eq_false_iff, Bool.and_eq_false_iff, Bool.and_eq_false_iff]; simp; omega
    go_ret
    exact ⟨ret_bool e.symm, rfl⟩
def SizesPost (rs : List GRule) (w : World) (e : Ending) (w' : World) : Prop :=
  Below w.heap.size w w' ∧ ((∃ ls v, lens rs = some ls ∧ e = .returned (.tuple #[v, .bool true]) ∧ OwnInts w' w.heap.size v ls) ∨
    (lens rs = none ∧ ∃ v ls, e = .returned (.tuple #[v, .bool false]) ∧ OwnInts w' w.heap.size v ls))
set_option maxRecDepth 100000 in
theorem l02Sizes_any (b o : Nat) (v : Value) (rs : List GRule) (w : World) (hp : w.cell? ⟨b, o, none⟩ = some v) (hbl : b < w.heap.size) (h : Sl RuleE w w.heap.size v rs) (hsm : SmallL rs) (hn : rs.length ≤ 1099511627776) :
    Calls Tryd.prog 67 #[.pointer (some ⟨b, o, none⟩)] w (SizesPost rs w) := by
  obtain ⟨A, c, rfl, hc, hm, hrow⟩ := h
  clear hm
  go_enter Tryd.func67, Tryd.ntmps67
  go_wp2_with fail
  go_loopw [4, 5] (fun out i wr => ∃ (k : Nat) (vals : List Int), k ≤ rs.length ∧ i = .int .i64 k ∧ lens (rs.take k) = some vals ∧ Below w.heap.size w wr ∧ OwnInts wr w.heap.size out vals) (fun _ i _ => rs.length - (intOf i).toNat)
  case atStart => exact ⟨0, [], Nat.zero_le _, rfl, by simp [lens], (Below.refl _ _).alloc (Nat.le_refl _) _, OwnInts.empty rfl (Nat.le_refl _)⟩
  case round =>
    obtain ⟨k, vals, hk, rfl, hlen, hB, hown⟩ := hrel
    have hpp : wr.cell? ⟨b, o, none⟩ = some (Value.slice A rs.length c) := (hB.cell hbl).trans hp
    by_cases hlt : k < rs.length
    · have hvk : vals.length = k := by have := lens_length hlen; rw [List.length_take] at this; omega
      obtain ⟨b1, o1, rfl, hbl1, hcell⟩ := hrow.rule hlt
      obtain ⟨r, hrk⟩ : ∃ x, rs[k]? = some x := ⟨_, List.getElem?_eq_getElem hlt⟩
      obtain ⟨g0, g1, g2⟩ := hcell k r hrk
      have hc0 := (hB.cell (p := ⟨b1, o1 + k * 3, none⟩) hbl1).trans g0
      have hc1 := (hB.cell (p := ⟨b1, o1 + k * 3 + 1, none⟩) hbl1).trans g1
      have hc2 := (hB.cell (p := ⟨b1, o1 + k * 3 + 2, none⟩) hbl1).trans g2
      have hsr := hsm r (List.mem_of_getElem? hrk)
      have hsz : w.heap.size ≤ wr.heap.size := hB.size
      have hv1 : vals.length ≤ 1099511627776 := by omega
      have Hr := Lib.hid hrk
      have Hlen := Lib.hid hlen
      have Hvk := Lib.hid hvk
      have Hown := Lib.hid hown
      clear hrk hlen hvk hcell g0 g1 g2 hown
      go_wp2_with (first
        | (go_at_call 75; go_must (refine (l02Rule_any _ _ r k _ hc0 hc1 hc2 (by omega) (by unfold maxLen; omega)).mono ?_); rintro e w2 ⟨rfl, rfl⟩)
        | (at_builtin; go_must (refine push_ints rfl _ _ rfl rfl rfl (by simp) (by repeat (first | exact Hown.out | apply OwnInts.alloc | apply OwnInts.drewN | apply OwnRules.alloc | apply OwnRules.drewN)) (by omega) (by first | omega | (simp; omega)) ?_); intro v' w1 hown1 hgrow hbw))
      · have hok : okRule k r = false := by simpa using ‹(!okRule k r) = true›
        go_ret2
        exact ⟨hB, .inr ⟨lens_bad Hlen.out Hr.out (lensStep_none (by rw [Hvk.out]; exact hok)), _, vals, rfl, Hown.out⟩⟩
      · have hok : okRule k r = true := by simpa using ‹(!okRule k r) = false›
        have hpr : r.pair = true := by have h := ‹r.letter.toList.isEmpty = true›; rw [isEmpty_size] at h; exact h
        have hbd : 0 ≤ r.left ∧ r.left ≤ (k : Int) - 1 ∧ 0 ≤ r.right ∧ r.right ≤ (k : Int) - 1 := by
          simp [okRule, hpr] at hok; omega
        have hvk := Hvk.out
        obtain ⟨g, cap, rfl, hgb, hgl, hcap, hgc⟩ := OwnInts.at_ Hown.out (j := 0) (by omega)
        have hx1 := hgc r.left.toNat (by omega)
        have hx2 := hgc r.right.toNat (by omega)
        have hi1 : r.left < (vals.length : Int) := by omega
        have hi2 : r.right < (vals.length : Int) := by omega
        obtain ⟨hj1, _, hj2, _⟩ := hbd
        have hpos := lens_pos Hlen.out
        have hb1 : 1 ≤ vals.getD r.left.toNat 0 ∧ vals.getD r.left.toNat 0 ≤ 1000000000000000 := by
          rw [List.getD_eq_getElem?_getD, List.getElem?_eq_getElem (by omega)]; exact hpos _ (List.getElem_mem _)
        have hb2 : 1 ≤ vals.getD r.right.toNat 0 ∧ vals.getD r.right.toNat 0 ≤ 1000000000000000 := by
          rw [List.getD_eq_getElem?_getD, List.getElem?_eq_getElem (by omega)]; exact hpos _ (List.getElem_mem _)
        have hrl : ruleLen vals r = vals.getD r.left.toNat 0 + vals.getD r.right.toNat 0 := by simp [ruleLen, hpr]
        generalize vals.getD r.left.toNat 0 = x at *
        generalize vals.getD r.right.toNat 0 = y at *
        have hwr : IntKind.i64.wrap (x + y) = x + y := IntWalk.i64_in _ (by omega)
        have Hrl := Lib.hid hrl
        have Hok := Lib.hid hok
        clear hgc hvk hpos hrl hok hpr
        go_quiet (fail)
        clear hwr
        go_wp2_with (at_builtin; go_must (refine push_ints rfl _ _ rfl rfl rfl (by simp) (by repeat (first | exact Hown.out | apply OwnInts.alloc | apply OwnInts.drewN | apply OwnRules.alloc | apply OwnRules.drewN)) (by omega) (by first | omega | (simp; omega)) ?_); intro v' w1 hown1 hgrow hbw)
        · go_ret2
          exact ⟨(by repeat (first | exact hB | (refine Below.alloc ?_ (by first | omega | (simp; done) | (simp; omega)) _) | refine below_drewN ?_ _ | refine Below.drew ?_)), .inr ⟨lens_bad Hlen.out Hr.out (lensStep_big (by rw [Hrl.out]; unfold maxL; omega)), _, vals, rfl, (by repeat (first | exact Hown.out | apply OwnInts.alloc | apply OwnInts.drewN | apply OwnRules.alloc | apply OwnRules.drewN))⟩⟩
        · go_roundw
          case rel => exact ⟨k + 1, vals ++ [x + y], by omega, by go_num, by have := lens_next Hlen.out Hr.out (by rw [Hvk.out]; exact Hok.out) (by rw [Hrl.out]; unfold maxL; omega); rw [Hrl.out] at this; exact this, (below_drewN hB _).trans hbw, hown1⟩
          case measure => simp [intOf]; omega
      · have hok : okRule k r = true := by simpa using ‹(!okRule k r) = false›
        have hpr : r.pair = false := by have h := ‹r.letter.toList.isEmpty = false›; rw [isEmpty_size] at h; exact h
        have hrl : ruleLen vals r = 1 := by simp [ruleLen, hpr]
        go_roundw
        case rel => exact ⟨k + 1, vals ++ [1], by omega, by go_num, by have := lens_next Hlen.out Hr.out (by rw [Hvk.out]; exact hok) (by rw [hrl]; unfold maxL; omega); rw [hrl] at this; exact this, hB.trans hbw, hown1⟩
        case measure => simp [intOf]; omega
    · have hkn : k = rs.length := by omega
      have hfin : lens rs = some vals := by rw [← hlen, List.take_of_length_le (by omega)]
      have Hfin := Lib.hid hfin
      have Hown := Lib.hid hown
      subst hkn
      clear hlen hfin hown
      go_wp2_with fail
      go_ret2
      exact ⟨hB, .inl ⟨vals, _, Hfin.out, rfl, Hown.out⟩⟩
def LengthsPost (rs : List GRule) (w : World) (e : Ending) (w' : World) : Prop :=
  Below w.heap.size w w' ∧ ∃ v ls, e = .returned (.tuple #[v, .bool (decide (rs.length ≤ 400) && (lens rs).isSome)]) ∧ OwnInts w' w.heap.size v ls ∧ (rs.length ≤ 400 → ∀ l, lens rs = some l → ls = l)
theorem l02Lengths_any (b o : Nat) (v : Value) (rs : List GRule) (w : World) (hp : w.cell? ⟨b, o, none⟩ = some v) (hbl : b < w.heap.size) (h : Sl RuleE w w.heap.size v rs) (hsm : SmallL rs) :
    Calls Tryd.prog 52 #[.pointer (some ⟨b, o, none⟩)] w (LengthsPost rs w) := by
  have h' := h
  obtain ⟨A, c, rfl, hc, hm, hrow⟩ := h'
  have Hsl := Lib.hid h
  clear h hm hrow
  by_cases hn : rs.length ≤ 400
  · go_enter Tryd.func52, Tryd.ntmps52
    go_wp2_with fail
    refine (l02Sizes_any _ _ _ _ _ hp hbl Hsl.out hsm (by omega)).mono ?_
    rintro e w1 ⟨hb, (⟨ls, v1, h1, rfl, h2⟩ | ⟨h1, v1, ls, rfl, h2⟩)⟩
    · have H1 := Lib.hid h1
      have H2 := Lib.hid h2
      clear h1 h2
      go_wp2
      go_ret2
      exact ⟨hb, _, ls, by simp [H1.out, hn], H2.out, fun _ l hl => by rw [H1.out] at hl; injection hl⟩
    · have H1 := Lib.hid h1
      have H2 := Lib.hid h2
      clear h1 h2
      go_wp2
      go_ret2
      exact ⟨hb, _, ls, by simp [H1.out], H2.out, fun _ l hl => by rw [H1.out] at hl; cases hl⟩
  · go_enter Tryd.func52, Tryd.ntmps52
    go_wp2
    go_ret2
    exact ⟨(Below.refl _ _).alloc (Nat.le_refl _) _, _, [], by simp [hn], OwnInts.empty rfl (Nat.le_refl _), fun h => absurd h hn⟩
def gramOk (rs : List GRule) : Bool := decide (rs.length ≤ 400) && (lens rs).isSome
theorem l02Ok_any (b o : Nat) (v : Value) (rs : List GRule) (w : World) (hp : w.cell? ⟨b, o, none⟩ = some v) (hbl : b < w.heap.size) (h : Sl RuleE w w.heap.size v rs) (hsm : SmallL rs) :
    Calls Tryd.prog 32 #[.pointer (some ⟨b, o, none⟩)] w fun e w' => e = .returned (.bool (gramOk rs)) ∧ Below w.heap.size w w' := by
  have Hsl := Lib.hid h
  clear h
  go_enter Tryd.func32, Tryd.ntmps32
  go_wp2_with fail
  refine (l02Lengths_any _ _ _ _ _ hp hbl Hsl.out hsm).mono ?_
  rintro e w1 ⟨hb, v1, ls, rfl, h2, h3⟩
  clear h2 h3
  go_wp2
  go_ret
  exact ⟨rfl, hb⟩
theorem ValidGrammar_any (v : Value) (rs : List GRule) (w : World) (h : Sl RuleE w w.heap.size v rs) (hn : rs.length ≤ 1099511627776) :
    Calls Tryd.prog 24 #[.agg #[v]] w fun e w' => e = .returned (.bool (gramOk rs)) ∧ Below w.heap.size w w' := by
  have h1 := fun o => (h.below ((Below.refl w.heap.size w).alloc (Nat.le_refl _) o)).le (B' := (w.alloc o).heap.size) (by simp)
  have H1 := Lib.hid h1
  clear h1 h
  go_enter Tryd.func24, Tryd.ntmps24
  go_wp2_with fail
  refine (lengths_any _ _ _ (H1.out _) hn).mono ?_
  rintro e w1 ⟨hb, (⟨ls, v1, h1, rfl, h2⟩ | ⟨h1, rfl⟩)⟩
  · have e1 : gramOk rs = decide (rs.length ≤ 400) := by simp [gramOk, h1]
    have E1 := Lib.hid e1
    clear h1 h2 e1
    go_wp2
    go_ret
    exact ⟨ret_bool (by rw [E1.out]), ((Below.refl _ _).alloc (Nat.le_refl _) _).trans (hb.mono (by simp))⟩
  · have e1 : gramOk rs = false := by simp [gramOk, h1]
    have E1 := Lib.hid e1
    clear h1 e1
    go_wp2
    go_ret
    exact ⟨ret_bool (by rw [E1.out]), ((Below.refl _ _).alloc (Nat.le_refl _) _).trans (hb.mono (by simp))⟩
theorem row_cells {α : Type} {E : Enc α} {w : World} {S : Nat → Prop} {a : Addr} {xs : List α} (h : Row E w S (some a) xs) (cs : List Value) (hcs : cs.length = xs.length * E.size)
    (hc : ∀ k x us, xs[k]? = some x → E.cells w S x us → ∀ j u, us[j]? = some u → cs[k * E.size + j]? = some u) : ∀ j u, cs[j]? = some u → w.cell? (a.add j) = some u := by
  intro j u hu
  have hj : j < xs.length * E.size := by rw [← hcs]; exact (List.getElem?_eq_some_iff.1 hu).1
  have hpos : 0 < xs.length := by
    rcases Nat.eq_zero_or_pos xs.length with h0 | h0
    · rw [h0, Nat.zero_mul] at hj; omega
    · exact h0
  obtain ⟨b, o, he, hs, hr⟩ := h hpos
  injection he with he
  subst he
  have hk : j / E.size < xs.length := (Nat.div_lt_iff_lt_mul E.pos).2 hj
  obtain ⟨us, h1, h2⟩ := hr (j / E.size) xs[j / E.size] (List.getElem?_eq_getElem hk)
  have hm : j % E.size < us.length := by rw [E.len h1]; exact Nat.mod_lt _ E.pos
  have h3 := h2 (j % E.size) us[j % E.size] (List.getElem?_eq_getElem hm)
  have h4 := hc _ _ _ (List.getElem?_eq_getElem hk) h1 (j % E.size) us[j % E.size] (List.getElem?_eq_getElem hm)
  rw [Nat.mul_comm, Nat.div_add_mod] at h3 h4
  rw [h4] at hu
  injection hu with hu
  subst hu
  have : (⟨b, o, none⟩ : Addr).add j = ⟨b, o + j, none⟩ := by unfold Addr.add; split <;> simp_all
  rw [this]; exact h3
theorem cells_len (xs : List GRule) : (xs.flatMap GRule.cells).length = xs.length * 3 := by
  induction xs with
  | nil => rfl
  | cons x xs ih =>
    rw [List.flatMap_cons, List.length_append, ih, List.length_cons]
    show 3 + _ = _
    omega
theorem rules_cells {w : World} {S : Nat → Prop} {a : Addr} {xs : List GRule} (h : Row RuleE w S (some a) xs) : ∀ j u, (xs.flatMap GRule.cells)[j]? = some u → w.cell? (a.add j) = some u := by
  refine row_cells h _ (cells_len xs) ?_
  · intro k x us hk hus j u hu
    obtain ⟨c0, c1, c2⟩ := cells3 xs k x hk
    have e : us = x.cells := hus
    subst e
    match j, hu with
    | 0, hu => simp [GRule.cells] at hu; subst hu; simpa [RuleE] using c0
    | 1, hu => simp [GRule.cells] at hu; subst hu; simpa [RuleE] using c1
    | 2, hu => simp [GRule.cells] at hu; subst hu; simpa [RuleE] using c2
    | j + 3, hu => simp [GRule.cells] at hu
theorem rules_one (xs : List GRule) : ∀ u ∈ xs.flatMap GRule.cells, u.oneCell' = true := by
  intro u hu
  rw [List.mem_flatMap] at hu
  obtain ⟨x, _, hx⟩ := hu
  simp [GRule.cells] at hx
  rcases hx with rfl | rfl | rfl <;> rfl
theorem run_append_of_nil {P : Program} (w : World) (base : Nat) (t ty e : TypeId) (i : TypeInfo) (size : Nat) (ht : P.underlying t = some (.slice e)) (hi : P.info? e = some i)
    (v : Value) (n : Nat) (xs : List Value) (hown : w.ownsRow base e size v n xs) (c : Nat) : (Builtin.append_ #[t, t] ty #[v, .slice none 0 c]).run P w = .ok v w := by
  rcases hown.2 with ⟨rfl, rfl⟩ | ⟨g, cap, cur, rfl, _, _, hnc, _⟩
  · simp [Builtin.append_, run_underlying ht, sizeOf, typeInfo, hi, Builtin.lenOf, Builtin.firstCells]
  · simp [Builtin.append_, run_underlying ht, sizeOf, typeInfo, hi, Builtin.lenOf, Builtin.firstCells, hnc, storeCells]
theorem append_rules {W : World} {ops : Array Oper} {rest : List Oper} {o : Oper} {a : Act} {Q : Exit → Act → World → Prop} (hgd : o.guard = none) (s x : Operand)
    (ho : o.op = .call { callee := .builtin .append, args := #[s, x], argTypes := #[24, 24] }) {ys : List GRule} {base : Nat} {v sv : Value} {l : List GRule} {S : Nat → Prop}
    (hs : a.eval s = v) (hx : a.eval x = sv) (hown : OwnRules W base v l) (hsl : SlS RuleE W S sv ys) (hlen : l.length + ys.length ≤ 1099511627776) (hbase : base ≤ W.heap.size)
    (h : ∀ v' w', OwnRules w' base v' (l ++ ys) → W.grownBy w' v.ownBlock → Below base W w' → wpList Tryd.prog ops Q rest (a.put o.dst v') w') :
    wpList Tryd.prog ops Q (o :: rest) a W := by
  obtain ⟨i0, hi0, hz0, hz1, hz2⟩ := info_parts Tryd.infoR
  obtain ⟨A, c, rfl, hc, hm, hrow⟩ := hsl
  refine wpList_plain hgd fun _ hK => ?_
  have H : ∃ v' w', (Builtin.append_ #[24, 24] o.type #[v, .slice A ys.length c]).run Tryd.prog W = .ok v' w' ∧ OwnRules w' base v' (l ++ ys) ∧ W.grownBy w' v.ownBlock := by
    rcases A with _ | ad
    · have h0 : ys = [] := by
        rcases Nat.eq_zero_or_pos ys.length with h0 | h0
        · exact List.eq_nil_of_length_eq_zero h0
        · obtain ⟨b, o, h, _⟩ := hrow h0; cases h
      subst h0
      exact ⟨v, W, run_append_of_nil W base _ _ 42 i0 3 Tryd.underlying24 hi0 v _ _ hown c, by simpa using hown, World.grownBy.refl W _⟩
    · obtain ⟨v', w', hrun, h2, h3, _⟩ := run_append_own_at (P := Tryd.prog) W base 24 o.type 42 i0 _ 3 32 Tryd.underlying24 hi0 hz0 hz1 hz2 rfl (by decide) v _ _ hown ad ys.length c (ys.flatMap GRule.cells)
        (cells_len ys) (rules_cells hrow) (rules_one ys) (by simp only [maxLen]; omega) (by omega) hbase
      exact ⟨v', w', hrun, by unfold OwnRules; simpa using h2, h3⟩
  obtain ⟨v', w', hrun, h2, h3⟩ := H
  unfold Oper.wp execOp
  simp only [ho, resolve, invoke, builtin, Sem.run_bind, Sem.run_pure, Result.andThen_ok, List.map_toArray, List.map_cons, List.map_nil, hs, hx, hrun]
  exact hK _ _ (h v' w' h2 h3 ((Below.refl base W).grown h3 hbase (fun k hk => (World.ownsRow.lt hown k hk).1)))
theorem Clone_any (v : Value) (xs : List GRule) (w : World) (h : Sl RuleE w w.heap.size v xs) (hn : xs.length ≤ 1099511627776) :
    Calls Tryd.prog 58 #[v] w fun e w' => ∃ v', e = .returned v' ∧ OwnRules w' w.heap.size v' xs ∧ Below w.heap.size w w' := by
  have h1 := fun o => (h.below ((Below.refl w.heap.size w).alloc (Nat.le_refl _) o))
  have H1 := Lib.hid h1
  clear h1
  obtain ⟨A, c, rfl, hc, hm, hrow⟩ := h
  rcases A with _ | ad
  · have h0 : xs = [] := by
      rcases Nat.eq_zero_or_pos xs.length with h0 | h0
      · exact List.eq_nil_of_length_eq_zero h0
      · obtain ⟨b, o, h, _⟩ := hrow h0; cases h
    subst h0
    clear hm hrow
    have heq := fun W => Lib.run_eql_slice_nil (P := Tryd.prog) W 24 42 none 0 c 0 0 Tryd.underlying24
    go_enter Tryd.func58, Tryd.ntmps58
    go_wp2
    go_ret
    exact ⟨_, rfl, World.ownsRow_nil _ _ _ _, Below.refl _ _⟩
  · clear hm hrow
    have heq := fun W => Lib.run_eql_slice_nil (P := Tryd.prog) W 24 42 (some ad) xs.length c 0 0 Tryd.underlying24
    go_enter Tryd.func58, Tryd.ntmps58
    go_wp2_with (at_builtin; go_must (refine append_rules rfl _ _ rfl rfl rfl (OwnRules.empty rfl (Nat.le_refl _)) (H1.out _) (by simp; omega) (by simp) ?_); intro v' w1 hown1 hg1 hb1)
    go_ret
    exact ⟨v', rfl, hown1, ((Below.refl _ _).alloc (Nat.le_refl _) _).trans hb1⟩
theorem copied_any (v : Value) (xs : List GRule) (w : World) (h : Sl RuleE w w.heap.size v xs) (hn : xs.length ≤ 1099511627776) :
    Calls Tryd.prog 46 #[.agg #[v]] w fun e w' => ∃ v', e = .returned (.agg #[v']) ∧ OwnRules w' w.heap.size v' xs ∧ Below w.heap.size w w' := by
  have h1 := fun o o' => (h.below (((Below.refl w.heap.size w).alloc (Nat.le_refl _) o).alloc (by simp) o')).le (B' := ((w.alloc o).alloc o').heap.size) (by simp; omega)
  have H1 := Lib.hid h1
  clear h1
  obtain ⟨A, c, rfl, _⟩ := h
  go_enter Tryd.func46, Tryd.ntmps46
  go_wp2_with fail
  refine (Clone_any _ _ _ (H1.out _ _) hn).mono ?_
  rintro e w1 ⟨v1, rfl, hown, hb1⟩
  obtain ⟨A1, c1, rfl, _⟩ := own_nil hown
  obtain ⟨hc1, hf1⟩ := bcell hb1
  have hz1 : w.heap.size + 2 ≤ w1.heap.size := by have := hb1.size; simp at this; omega
  have Hown := Lib.hid hown
  have Hb1 := Lib.hid hb1
  clear hown hb1
  go_wp2
  refine bodyPost_ret (v := .agg #[.slice A1 xs.length c1]) (by simp [results, Tryd.results46, go_sem, hc1]) rfl ⟨_, rfl, ?_, ?_⟩
  · have h4 : w1.ownsRow (w.heap.size + 2) 42 3 (.slice A1 xs.length c1) xs.length (xs.flatMap GRule.cells) := ownsRow_more Hown.out (by simp)
    exact ownsRow_more (ownsRow_setCell_below h4 (by show w.heap.size + 1 < w.heap.size + 2; omega) _) (by omega)
  · exact ((((Below.refl _ _).alloc (Nat.le_refl _) _).alloc (by simp) _).trans (Hb1.out.mono (by simp; omega))).setCell (by show w.heap.size ≤ w.heap.size + 1; omega) _
theorem alloc_heap_last (w : World) (o : Obj) : (w.alloc o).heap[w.heap.size]? = some o := heap_alloc_new w o
theorem cell_up {w w' : World} {N b : Nat} {v : Value} (h : w.cell? ⟨b, 0, none⟩ = some v) (hb : Below N w w') (hlt : b < N) : w'.cell? ⟨b, 0, none⟩ = some v := (hb.cell (p := ⟨b, 0, none⟩) hlt).trans h
theorem own_keep {w w' : World} {base e s : Nat} {v : Value} {n : Nat} {xs : List Value} (h : w.ownsRow base e s v n xs) (hk : ∀ g, v.ownBlock = some g → w'.heap[g]? = w.heap[g]?) : w'.ownsRow base e s v n xs := by
  refine ⟨h.1, ?_⟩
  rcases h.2 with hn | ⟨g, cap, cur, rfl, hb, hgg, rest⟩
  · exact .inl hn
  · exact .inr ⟨g, cap, cur, rfl, hb, by rw [hk g rfl]; exact hgg, rest⟩
theorem below_of_grown {w w' : World} {row : Option Nat} {N : Nat} (hg : w.grownBy w' row) (hN : N ≤ w.heap.size) (hr : ∀ g, row = some g → N ≤ g) : Below N w w' :=
  ⟨hg.os, hg.tape, hg.output, hg.size, fun k hk => hg.block k (by omega) (fun e => by have := hr k e.symm; omega)⟩
theorem OwnRules.below {w w' : World} {base : Nat} {v : Value} {l : List GRule} (h : OwnRules w base v l) (hb : Below w.heap.size w w') : OwnRules w' base v l := ownsRow_below h hb
theorem OwnRules.keep {w w' : World} {base : Nat} {v : Value} {l : List GRule} {row : Option Nat} (h : OwnRules w base v l) (hg : w.grownBy w' row) (hne : ∀ g, v.ownBlock = some g → some g ≠ row) : OwnRules w' base v l :=
  own_keep h fun g hgg => hg.block g (World.ownsRow.lt h g hgg).2 (hne g hgg)
def inR (n a b : Int) : Bool := decide (a ≤ n) && decide (n ≤ b)
end Go.Proofs.YtfhiaifdigefdaaDoor
