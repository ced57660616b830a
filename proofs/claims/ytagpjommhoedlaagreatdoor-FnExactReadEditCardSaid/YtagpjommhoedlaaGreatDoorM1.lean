import Derived.Laws.Strings
import Derived.Test.YtagpjommhoedlaaGreatDoorRows
import Derived.WalkKit
import Derived.ProofKit
import Derived.Deep.QuietTactic
import Derived.BigQuiet
import Derived.Deep.LoopGhost
import Derived.Deep.Light
import Derived.Deep.AppendLies
import Derived.Deep.Draws
import Derived.Maps.AppendAt
import Derived.Lib.Hide
import Derived.WalkSpells
import Derived.Deep.DeepMust
import Derived.LoopTactic
import Derived.Deep.RegionHeld3
import Derived.Shelf.Abstract
namespace Go.Proofs.YtagpjommhoedlaaGreatDoor

structure GRule where
  letter : ByteArray
  left : Int
  right : Int
  deriving DecidableEq

def maxL : Int := 1000000000000000
def GRule.pair (r : GRule) : Bool := r.letter.size == 0
def isLet (s : ByteArray) : Bool := s.size == 1 && decide (97 ≤ ((s.data.getD 0 0).toNat : Int)) && decide (((s.data.getD 0 0).toNat : Int) ≤ 100)
def okRule (i : Nat) (r : GRule) : Bool :=
  if r.pair then decide (0 ≤ r.left) && decide (r.left ≤ (i : Int) - 1) && decide (0 ≤ r.right) && decide (r.right ≤ (i : Int) - 1) else isLet r.letter && r.left == 0 && r.right == 0
def ruleLen (out : List Int) (r : GRule) : Int := if r.pair then out.getD r.left.toNat 0 + out.getD r.right.toNat 0 else 1
def lensStep (o : Option (List Int)) (r : GRule) : Option (List Int) :=
  o.bind fun out => if okRule out.length r = true ∧ ruleLen out r ≤ maxL then some (out ++ [ruleLen out r]) else none
def lens (rs : List GRule) : Option (List Int) := rs.foldl lensStep (some [])

theorem foldl_take_succ {α β : Type} (f : β → α → β) (s : β) (xs : List α) (k : Nat) (x : α) (h : xs[k]? = some x) :
    (xs.take (k + 1)).foldl f s = f ((xs.take k).foldl f s) x := by
  rw [List.take_add_one, h]; simp
theorem lens_none (xs : List GRule) : xs.foldl lensStep none = none := by
  induction xs with
  | nil => rfl
  | cons x xs ih => simpa [lensStep] using ih
theorem lens_bad {rs : List GRule} {k : Nat} {out : List Int} {r : GRule} (h : lens (rs.take k) = some out) (hr : rs[k]? = some r) (hb : lensStep (some out) r = none) : lens rs = none := by
  have h1 : lens (rs.take (k+1)) = none := by unfold lens at *; rw [foldl_take_succ _ _ _ _ _ hr, h, hb]
  have h2 : lens rs = (rs.drop (k+1)).foldl lensStep (lens (rs.take (k+1))) := by
    unfold lens; rw [← List.foldl_append, List.take_append_drop]
  rw [h2, h1, lens_none]
theorem lens_next {rs : List GRule} {k : Nat} {out : List Int} {r : GRule} (h : lens (rs.take k) = some out) (hr : rs[k]? = some r) (h1 : okRule out.length r = true) (h2 : ruleLen out r ≤ maxL) :
    lens (rs.take (k+1)) = some (out ++ [ruleLen out r]) := by
  unfold lens at *; rw [foldl_take_succ _ _ _ _ _ hr, h]; simp [lensStep, h1, h2]
theorem lens_length {rs : List GRule} {out : List Int} (h : lens rs = some out) : out.length = rs.length := by
  suffices H : ∀ (xs : List GRule) (a o : List Int), xs.foldl lensStep (some a) = some o → o.length = a.length + xs.length by
    simpa using H rs [] out h
  intro xs
  induction xs with
  | nil => intro a o h; simp at h; subst h; simp
  | cons x xs ih =>
    intro a o h
    simp only [List.foldl_cons, lensStep, Option.bind_some] at h
    split at h
    · have := ih _ _ h; simp at this ⊢; omega
    · rw [lens_none] at h; cases h
theorem lens_pos {rs : List GRule} {out : List Int} (h : lens rs = some out) : ∀ v ∈ out, 1 ≤ v ∧ v ≤ maxL := by
  suffices H : ∀ (xs : List GRule) (a o : List Int), (∀ v ∈ a, 1 ≤ v ∧ v ≤ maxL) → xs.foldl lensStep (some a) = some o → ∀ v ∈ o, 1 ≤ v ∧ v ≤ maxL by
    exact H rs [] out (by simp) h
  intro xs
  induction xs with
  | nil => intro a o ha h; simp at h; subst h; exact ha
  | cons x xs ih =>
    intro a o ha h
    simp only [List.foldl_cons, lensStep, Option.bind_some] at h
    split at h
    · rename_i hc
      refine ih _ _ ?_ h
      intro v hv
      rw [List.mem_append] at hv
      rcases hv with hv | hv
      · exact ha v hv
      · simp at hv; subst hv
        refine ⟨?_, hc.2⟩
        unfold ruleLen
        split
        · rename_i hp
          have hok := hc.1
          simp only [okRule, hp, if_true, Bool.and_eq_true, decide_eq_true_eq] at hok
          have g : ∀ j : Nat, j < a.length → 1 ≤ a.getD j 0 := by
            intro j hj
            rw [List.getD_eq_getElem?_getD, List.getElem?_eq_getElem hj]
            exact (ha _ (List.getElem_mem hj)).1
          have g1 := g x.left.toNat (by omega)
          have g2 := g x.right.toNat (by omega)
          omega
        · omega
    · rw [lens_none] at h; cases h

theorem isEmpty_size (s : ByteArray) : s.toList.isEmpty = (s.size == 0) := by
  have h : s.toList = s.data.toList := by
    exact ByteArray.toList_eq s
  rw [h]; show s.data.toList.isEmpty = (s.data.size == 0)
  cases s.data with | mk l => cases l <;> simp
theorem lensStep_none {out : List Int} {r : GRule} (h : okRule out.length r = false) : lensStep (some out) r = none := by simp [lensStep, h]
theorem lensStep_big {out : List Int} {r : GRule} (h : maxL < ruleLen out r) : lensStep (some out) r = none := by
  have : ¬ ruleLen out r ≤ maxL := by omega
  simp [lensStep, this]
section
variable {k : Nat} {r : GRule}
theorem okp_yes (h1 : r.letter.toList.isEmpty = true) (h2 : 0 ≤ r.left ∧ r.left ≤ (k:Int) - 1) (h3 : (!decide (0 ≤ r.right)) = false ∧ (!decide (r.right ≤ (k:Int) - 1)) = false) : okRule k r = true ∧ r.pair = true := by
  rw [isEmpty_size] at h1
  simp at h3
  have hp : r.pair = true := h1
  simp [okRule, hp]; omega
theorem okp_no1 (h1 : r.letter.toList.isEmpty = true) (h2 : ¬ (0 ≤ r.left ∧ r.left ≤ (k:Int) - 1)) : okRule k r = false := by
  rw [isEmpty_size] at h1
  have hp : r.pair = true := h1
  simp [okRule, hp]; omega
theorem okp_no2 (h1 : r.letter.toList.isEmpty = true) (h3 : (!decide (0 ≤ r.right)) = true ∨ (!decide (r.right ≤ (k:Int) - 1)) = true) : okRule k r = false := by
  rw [isEmpty_size] at h1
  have hp : r.pair = true := h1
  simp at h3
  simp [okRule, hp]; omega
theorem getD0 (s : ByteArray) (h : 0 < s.size) : s.data.getD 0 0 = s[0] := by
  have h' : 0 < s.data.size := h
  show s.data.getD 0 0 = s.data[0]
  simp [Array.getD, h]
theorem okl_yes (h1 : r.letter.toList.isEmpty = false) (h2 : (r.letter.size : Int) = 1) (hs : 0 < r.letter.size) (h3 : (97 : Int) ≤ ((r.letter[0]'hs).toNat : Int) ∧ ((r.letter[0]'hs).toNat : Int) ≤ 100) (h4 : r.left = 0) (h5 : (r.right != 0) = false) :
    okRule k r = true ∧ r.pair = false := by
  rw [isEmpty_size] at h1
  have hp : r.pair = false := h1
  simp at h5
  have h2' : r.letter.size = 1 := by omega
  simp only [okRule, hp, isLet, getD0 _ hs, h4, h5, h2']
  simp [h3.1, h3.2]
theorem okl_no1 (h1 : r.letter.toList.isEmpty = false) (h2 : ¬ (r.letter.size : Int) = 1) : okRule k r = false := by
  rw [isEmpty_size] at h1
  have hp : r.pair = false := h1
  have h2' : ¬ r.letter.size = 1 := by omega
  simp [okRule, hp, isLet, h2']
theorem okl_no2 (h1 : r.letter.toList.isEmpty = false) (hs : 0 < r.letter.size) (h3 : ¬ ((97 : Int) ≤ ((r.letter[0]'hs).toNat : Int) ∧ ((r.letter[0]'hs).toNat : Int) ≤ 100)) : okRule k r = false := by
  rw [isEmpty_size] at h1
  have hp : r.pair = false := h1
  simp only [okRule, hp, isLet, getD0 _ hs]
  by_cases ha : (97 : Int) ≤ ((r.letter[0]'hs).toNat : Int)
  · have hb : ¬ ((r.letter[0]'hs).toNat : Int) ≤ 100 := fun hb => h3 ⟨ha, hb⟩
    simp [hb]
  · simp [ha]
theorem okl_no3 (h1 : r.letter.toList.isEmpty = false) (h4 : ¬ r.left = 0) : okRule k r = false := by
  rw [isEmpty_size] at h1
  have hp : r.pair = false := h1
  simp [okRule, hp, h4]
theorem okl_no4 (h1 : r.letter.toList.isEmpty = false) (h5 : (r.right != 0) = true) : okRule k r = false := by
  rw [isEmpty_size] at h1
  have hp : r.pair = false := h1
  simp at h5
  simp [okRule, hp, h5]
end
def letOk (c : UInt8) : Bool := decide (97 ≤ (c.toNat : Int)) && decide ((c.toNat : Int) ≤ 100)
def wordOk (s : ByteArray) : Bool := decide ((s.size : Int) ≤ 2000) && s.data.toList.all letOk
theorem toList_getElem? (s : ByteArray) (k : Nat) (h : k < s.size) : s.data.toList[k]? = some s[k] := by
  have h' : k < s.data.toList.length := by simpa using h
  rw [List.getElem?_eq_getElem h']; rfl
theorem all_step {s : ByteArray} {k : Nat} (h : k < s.size) (ha : (s.data.toList.take k).all letOk = true) (hk : letOk s[k] = true) : (s.data.toList.take (k+1)).all letOk = true := by
  rw [List.take_add_one, toList_getElem? s k h, List.all_append, ha]; simpa using hk
theorem all_bad {s : ByteArray} {k : Nat} (h : k < s.size) (hk : letOk s[k] = false) : s.data.toList.all letOk = false := by
  rw [List.all_eq_false]
  exact ⟨s[k], List.mem_of_getElem? (toList_getElem? s k h), by simp [hk]⟩
theorem all_end {s : ByteArray} {k : Nat} (h : s.size ≤ k) (ha : (s.data.toList.take k).all letOk = true) : s.data.toList.all letOk = true := by
  rw [List.take_of_length_le (by simpa using h)] at ha; exact ha
theorem wordOk_one {s : ByteArray} (h : s.size = 1) : wordOk s = isLet s := by
  obtain ⟨⟨l⟩⟩ := s
  match l, h with
  | [c], _ => simp [wordOk, isLet, letOk, ByteArray.size]
theorem letOk_bad {c : UInt8} (h : (!decide ((97 : Int) ≤ (c.toNat : Int))) = true ∨ (!decide ((c.toNat : Int) ≤ 100)) = true) : letOk c = false := by
  simp at h; simp [letOk]; omega
theorem letOk_good {c : UInt8} (h : (!decide ((97 : Int) ≤ (c.toNat : Int))) = false ∧ (!decide ((c.toNat : Int) ≤ 100)) = false) : letOk c = true := by
  simp at h; simp [letOk]; omega
theorem okl_eq {i : Nat} {r : GRule} (h : (!r.letter.toList.isEmpty) = true) : okRule i r = (isLet r.letter && r.left == 0 && r.right == 0) := by
  rw [isEmpty_size] at h
  have hp : r.pair = false := by simpa [GRule.pair] using h
  simp [okRule, hp]
theorem okp_eq {i : Nat} {r : GRule} (h : (!r.letter.toList.isEmpty) = false) : okRule i r = (decide (0 ≤ r.left) && decide (r.left ≤ (i : Int) - 1) && decide (0 ≤ r.right) && decide (r.right ≤ (i : Int) - 1)) := by
  rw [isEmpty_size] at h
  have hp : r.pair = true := by simpa [GRule.pair] using h
  simp [okRule, hp]
theorem isLet_not {s : ByteArray} (h : ¬ (s.size : Int) = 1) : isLet s = false := by
  have : ¬ s.size = 1 := by omega
  simp [isLet, this]
end Go.Proofs.YtagpjommhoedlaaGreatDoor

namespace Go.Proofs.YtagpjommhoedlaaGreatDoor
open Go.RowKit

/-- The slice '.slice A n c' holds the cells xs and lies below block B. -/
def Reads (w : World) (B size : Nat) (A : Option Addr) (n : Nat) (xs : List Value) : Prop :=
  xs.length = n * size ∧ (0 < n → ∃ b o, A = some ⟨b, o, none⟩ ∧ b < B ∧ ∀ j u, xs[j]? = some u → w.cell? ⟨b, o + j, none⟩ = some u)

section
variable {w w' : World} {B B' size n : Nat} {A : Option Addr} {xs : List Value}
theorem Reads.keep (h : Reads w B size A n xs) (hk : ∀ p : Addr, p.block < B → w'.cell? p = w.cell? p) : Reads w' B size A n xs :=
  ⟨h.1, fun hn => by
    obtain ⟨b, o, e, hb, hc⟩ := h.2 hn
    exact ⟨b, o, e, hb, fun j u hu => (hk _ hb).trans (hc j u hu)⟩⟩
theorem Reads.more (h : Reads w B size A n xs) (hB : B ≤ B') : Reads w B' size A n xs :=
  ⟨h.1, fun hn => by
    obtain ⟨b, o, e, hb, hc⟩ := h.2 hn
    exact ⟨b, o, e, by omega, hc⟩⟩
theorem Reads.below (h : Reads w B size A n xs) (hb : Below B w w') : Reads w' B size A n xs := h.keep fun _ hp => hb.cell hp
end

def GRule.cells (r : GRule) : List Value := [.string r.letter, .int .i64 r.left, .int .i64 r.right]

theorem cells3 (rs : List GRule) (k : Nat) (r : GRule) (h : rs[k]? = some r) :
   (rs.flatMap GRule.cells)[k*3]? = some (.string r.letter) ∧ (rs.flatMap GRule.cells)[k*3+1]? = some (.int .i64 r.left) ∧ (rs.flatMap GRule.cells)[k*3+2]? = some (.int .i64 r.right) := by
  induction rs generalizing k with
  | nil => simp at h
  | cons x xs ih =>
    cases k with
    | zero => simp at h; subst h; simp [GRule.cells]
    | succ k =>
      have := ih k (by simpa using h)
      simp only [List.flatMap_cons]
      have e : (GRule.cells x).length = 3 := rfl
      rw [List.getElem?_append_right (by omega), List.getElem?_append_right (by omega), List.getElem?_append_right (by omega), e]
      rw [show (k+1)*3-3 = k*3 by omega, show (k+1)*3+1-3 = k*3+1 by omega, show (k+1)*3+2-3 = k*3+2 by omega]
      exact this

def RulesAt (w : World) (B : Nat) (A : Option Addr) (n : Nat) (rs : List GRule) : Prop :=
  Reads w B 3 A n (rs.flatMap GRule.cells) ∧ rs.length = n

theorem RulesAt.at_ {w : World} {B : Nat} {A : Option Addr} {n : Nat} {rs : List GRule} (h : RulesAt w B A n rs) {k : Nat} (hk : k < n) :
   ∃ b o r, A = some ⟨b, o, none⟩ ∧ b < B ∧ rs[k]? = some r ∧ w.cell? ⟨b, o + k*3, none⟩ = some (.string r.letter) ∧ w.cell? ⟨b, o + k*3 + 1, none⟩ = some (.int .i64 r.left) ∧ w.cell? ⟨b, o + k*3 + 2, none⟩ = some (.int .i64 r.right) := by
  obtain ⟨b, o, e, hb, hc⟩ := h.1.2 (by omega)
  have hl : k < rs.length := by have := h.2; omega
  have hr : rs[k]? = some rs[k] := List.getElem?_eq_getElem hl
  obtain ⟨h0, h1, h2⟩ := cells3 rs k _ hr
  exact ⟨b, o, rs[k], e, hb, hr, hc _ _ h0, hc _ _ h1, hc _ _ h2⟩
theorem RulesAt.below {w w' : World} {B : Nat} {A : Option Addr} {n : Nat} {rs : List GRule} (h : RulesAt w B A n rs) (hb : Below B w w') : RulesAt w' B A n rs := ⟨h.1.below hb, h.2⟩
theorem RulesAt.more {w : World} {B B' : Nat} {A : Option Addr} {n : Nat} {rs : List GRule} (h : RulesAt w B A n rs) (hB : B ≤ B') : RulesAt w B' A n rs := ⟨h.1.more hB, h.2⟩


/-- The numbers of a row of the call's own. -/
def OwnInts (w : World) (base : Nat) (v : Value) (l : List Int) : Prop := w.ownsRow base 2 1 v l.length (l.map (Value.int .i64))

theorem own_nil {w : World} {base e s : Nat} {v : Value} {n : Nat} {xs : List Value} (h : w.ownsRow base e s v n xs) : ∃ A cap, v = .slice A n cap ∧ n ≤ cap ∧ cap ≤ maxLen := by
  rcases h.2 with ⟨rfl, rfl⟩ | ⟨g, cap, cur, rfl, _, _, h1, h2, _⟩
  · exact ⟨none, 0, rfl, Nat.le_refl _, Nat.zero_le _⟩
  · exact ⟨_, cap, rfl, h1, h2⟩
theorem own_form {w : World} {base e s : Nat} {v : Value} {n : Nat} {xs : List Value} (h : w.ownsRow base e s v n xs) (hn : 0 < n) :
    ∃ g cap, v = .slice (some ⟨g, 0, none⟩) n cap ∧ base ≤ g ∧ g < w.heap.size ∧ (n ≤ cap ∧ cap ≤ maxLen) ∧ ∀ j u, xs[j]? = some u → w.cell? ⟨g, j, none⟩ = some u := by
  obtain ⟨g, cap, hv, hb, hlt⟩ := h.form hn
  subst hv
  have hf := h.2
  refine ⟨g, cap, rfl, hb, hlt, ?_, fun j u hu => ?_⟩
  · rcases hf with ⟨h1, _⟩ | ⟨g', cap', cur, h1, _, _, h2, h4, _⟩
    · cases h1
    · injection h1 with _ _ h3; subst h3; exact ⟨h2, h4⟩
  · have hj : j < xs.length := (List.getElem?_eq_some_iff.1 hu).1
    rw [h.1] at hj
    rw [h.cellAt j hj, hu]


/-- 'append(s, x)' of one element onto a row of the call's own: x lies in the newest block. -/
theorem wpList_push {P : Program} {W : World} {ops : Array Oper} {rest : List Oper} {o : Oper} {a : Act} {Q : Exit → Act → World → Prop} (hgd : o.guard = none) (s x : Operand) (t : TypeId)
    (ho : o.op = .call { callee := .builtin .append, args := #[s, x], argTypes := #[t, t] }) {cs : Array Value} {e : TypeId}
    (i : TypeInfo) (z : Value) (size bytes : Nat) (ht : P.underlying t = some (.slice e)) (hi : P.info? e = some i) (hz : i.zero = some z)
    (hsize : i.size = size) (hby : i.bytes = bytes) (hzs : z.cells.size = size) (hsz : 0 < size)
    {base : Nat} {v : Value} {n : Nat} {xs : List Value} (hs : a.eval s = v) (hx : a.eval x = .slice (some ⟨W.heap.size, 0, none⟩) 1 1)
    (hcs : cs.size = size) (h1 : ∀ u ∈ cs.toList, u.oneCell' = true) (hown : W.ownsRow base e size v n xs)
    (hlen : (n + 1) * bytes ≤ 140737488355328) (hn : n + 1 ≤ 140737488355328) (hbase : base ≤ W.heap.size)
    (h : ∀ v' w', w'.ownsRow base e size v' (n + 1) (xs ++ cs.toList) → (W.alloc (.cells cs e)).grownBy w' v.ownBlock → Below base W w' → wpList P ops Q rest (a.put o.dst v') w') :
    wpList P ops Q (o :: rest) a (W.alloc (.cells cs e)) := by
  refine wpList_plain hgd fun _ hK => ?_
  obtain ⟨v', w', hrun, h2, h3, h5⟩ := run_append_own_at (P := P) (W.alloc (.cells cs e)) base t o.type e i z size bytes ht hi hz hsize hby hzs hsz v n xs (hown.alloc _) ⟨W.heap.size, 0, none⟩ 1 1 cs.toList (by simpa using hcs)
    (fun j u hu => by
      have : (W.alloc (.cells cs e)).cell? ⟨W.heap.size, j, none⟩ = cs[j]? := cell_of_row _ _ _ _ e (0, 0) (heap_alloc_new W _)
      have ha : (⟨W.heap.size, 0, none⟩ : Addr).add j = ⟨W.heap.size, j, none⟩ := by unfold Addr.add; split <;> simp_all
      rw [ha, this]; simpa using hu) h1 (by simp only [maxLen]; omega) hlen (by simp; omega)
  unfold Oper.wp execOp
  simp only [ho, resolve, invoke, builtin, Sem.run_bind, Sem.run_pure, Result.andThen_ok, List.map_toArray, List.map_cons, List.map_nil, hs, hx, hrun]
  refine hK _ _ (h v' w' h2 h3 ?_)
  exact ((Below.refl base W).alloc hbase _).grown h3 (by simp; omega) (fun k hk => (hown.lt k hk).1)


theorem Tryz.infoI : (Tryz.prog.info? 2).map (fun i => (i.zero, i.size, i.bytes)) = some (some (.int .i64 0), 1, 8) := by kernel_rfl
theorem Tryz.infoR : (Tryz.prog.info? 148).map (fun i => (i.zero, i.size, i.bytes)) = some (some (.agg #[.string ⟨#[]⟩, .int .i64 0, .int .i64 0]), 3, 32) := by kernel_rfl

def OwnRules (w : World) (base : Nat) (v : Value) (l : List GRule) : Prop := w.ownsRow base 148 3 v l.length (l.flatMap GRule.cells)

theorem OwnInts.alloc {w : World} {base : Nat} {v : Value} {l : List Int} (h : OwnInts w base v l) (o : Obj) : OwnInts (w.alloc o) base v l := World.ownsRow.alloc h o
theorem OwnRules.alloc {w : World} {base : Nat} {v : Value} {l : List GRule} (h : OwnRules w base v l) (o : Obj) : OwnRules (w.alloc o) base v l := World.ownsRow.alloc h o
theorem OwnInts.drew {w : World} {base : Nat} {v : Value} {l : List Int} (h : OwnInts w base v l) : OwnInts w.drew base v l := h
theorem OwnRules.drew {w : World} {base : Nat} {v : Value} {l : List GRule} (h : OwnRules w base v l) : OwnRules w.drew base v l := h
theorem OwnInts.drewN {w : World} {base : Nat} {v : Value} {l : List Int} (h : OwnInts w base v l) (n : Nat) : OwnInts (w.drewN n) base v l := h
theorem OwnRules.drewN {w : World} {base : Nat} {v : Value} {l : List GRule} (h : OwnRules w base v l) (n : Nat) : OwnRules (w.drewN n) base v l := h

theorem OwnInts.at_ {w : World} {base : Nat} {v : Value} {l : List Int} (h : OwnInts w base v l) {j : Nat} (hj : j < l.length) :
    ∃ g cap, v = .slice (some ⟨g, 0, none⟩) l.length cap ∧ base ≤ g ∧ g < w.heap.size ∧ l.length ≤ cap ∧ ∀ i, i < l.length → w.cell? ⟨g, i, none⟩ = some (.int .i64 (l.getD i 0)) := by
  obtain ⟨g, cap, hv, hb, hlt, hc, hcell⟩ := own_form h (by omega)
  refine ⟨g, cap, hv, hb, hlt, hc.1, fun i hi => hcell i _ ?_⟩
  rw [List.getElem?_map, List.getD_eq_getElem?_getD, List.getElem?_eq_getElem hi]; rfl

theorem push_ints {W : World} {ops : Array Oper} {rest : List Oper} {o : Oper} {a : Act} {Q : Exit → Act → World → Prop} (hgd : o.guard = none) (s x : Operand)
    (ho : o.op = .call { callee := .builtin .append, args := #[s, x], argTypes := #[124, 124] }) {y : Int} {base : Nat} {v : Value} {l : List Int}
    (hs : a.eval s = v) {N : Nat} (hx : a.eval x = .slice (some ⟨N, 0, none⟩) 1 1) (hN : N = W.heap.size) (hown : OwnInts W base v l) (hlen : l.length ≤ 1099511627776) (hbase : base ≤ W.heap.size)
    (h : ∀ v' w', OwnInts w' base v' (l ++ [y]) → (W.alloc (.cells #[.int .i64 y] 2)).grownBy w' v.ownBlock → Below base W w' → wpList Tryz.prog ops Q rest (a.put o.dst v') w') :
    wpList Tryz.prog ops Q (o :: rest) a (W.alloc (.cells #[.int .i64 y] 2)) := by
  subst hN
  obtain ⟨i0, hi0, hz0, hz1, hz2⟩ := info_parts Tryz.infoI
  refine wpList_push hgd s x 124 ho i0 (.int .i64 0) 1 8 Tryz.underlying124 hi0 hz0 hz1 hz2 rfl (by decide) hs hx rfl (by simp [Value.oneCell']) hown (by omega) (by omega) hbase ?_
  intro v' w' h1 h2 h3
  refine h v' w' ?_ h2 h3
  unfold OwnInts
  simpa using h1

theorem below_drewN {B : Nat} {a w : World} (h : Below B a w) (n : Nat) : Below B a (w.drewN n) := ⟨h.os, h.tape, h.output, h.size, h.block⟩
theorem ownsRow_more {w : World} {base base' e s : Nat} {v : Value} {n : Nat} {xs : List Value} (h : w.ownsRow base e s v n xs) (hb : base' ≤ base) : w.ownsRow base' e s v n xs := by
  obtain ⟨h1, h2⟩ := h
  refine ⟨h1, ?_⟩
  rcases h2 with h2 | ⟨g, cap, cur, h3, h4, r⟩
  · exact .inl h2
  · exact .inr ⟨g, cap, cur, h3, by omega, r⟩
theorem OwnInts.empty {w : World} {base N : Nat} (hN : N = w.heap.size) (hb : base ≤ w.heap.size) : OwnInts (w.alloc (Obj.cells #[] 2)) base (Value.slice (some ⟨N, 0, none⟩) 0 0) [] := by
  subst hN
  exact World.ownsRow_lit w #[] 0 hb (Nat.zero_le _) rfl
theorem OwnRules.empty {w : World} {base N : Nat} (hN : N = w.heap.size) (hb : base ≤ w.heap.size) : OwnRules (w.alloc (Obj.cells #[] 148)) base (Value.slice (some ⟨N, 0, none⟩) 0 0) [] := by
  subst hN
  exact World.ownsRow_lit w #[] 0 hb (Nat.zero_le _) rfl
theorem ret_bool {a b : Bool} (h : a = b) : Ending.returned (.bool a) = .returned (.bool b) := by rw [h]
theorem ret_int {k : IntKind} {a b : Int} (h : a = b) : Ending.returned (.int k a) = .returned (.int k b) := by rw [h]
theorem bcell {W w1 : World} {N : Nat} (hb : Below N W w1) : (∀ b o, b < N → w1.cell? ⟨b, o, none⟩ = W.cell? ⟨b, o, none⟩) ∧ (∀ b o, b < N → w1.frozen? ⟨b, o, none⟩ = W.frozen? ⟨b, o, none⟩) :=
  ⟨fun b o h => hb.cell (p := ⟨b, o, none⟩) h, fun b o h => hb.frozen (p := ⟨b, o, none⟩) h⟩
theorem ownsRow_below {w w' : World} {base e s : Nat} {v : Value} {n : Nat} {xs : List Value} (h : w.ownsRow base e s v n xs) (hb : Below w.heap.size w w') : w'.ownsRow base e s v n xs :=
  h.kept (row := none) ⟨hb.os, hb.tape, hb.output, hb.size, fun k hk _ => hb.block k hk⟩ (by cases h : v.ownBlock <;> simp)
theorem quiet_left {P : Program} {f : FuncId} {args : Array Value} {w : World} {n : Nat} {v : Value}
    (h : Calls P f args (w.drewN n) fun e w' => e = .returned v ∧ w.drewN n = w') : Calls P f args (w.drewN n) fun e w'' => e = .returned v ∧ ∃ m, w'' = w.drewN m :=
  h.mono fun _ _ ⟨he, hm⟩ => ⟨he, n, hm.symm⟩
end Go.Proofs.YtagpjommhoedlaaGreatDoor

namespace Go.Proofs.YtagpjommhoedlaaGreatDoor
open Go.RowKit

/-- What stands in the blocks of S stands there in w', too. -/
def Keep (S : Nat → Prop) (w w' : World) : Prop := ∀ b, S b → w'.heap[b]? = w.heap[b]?
theorem Keep.cell {S : Nat → Prop} {w w' : World} (h : Keep S w w') {b o : Nat} (hb : S b) : w'.cell? ⟨b, o, none⟩ = w.cell? ⟨b, o, none⟩ := World.cell?_of_block (a := ⟨b, o, none⟩) (h b hb)
theorem Keep.of_below {B : Nat} {w w' : World} (h : Below B w w') : Keep (· < B) w w' := fun b hb => h.block b hb
theorem Keep.mono {S S' : Nat → Prop} {w w' : World} (h : Keep S w w') (hs : ∀ b, S' b → S b) : Keep S' w w' := fun b hb => h b (hs b hb)
theorem Keep.trans {S : Nat → Prop} {w w' w'' : World} (h : Keep S w w') (h' : Keep S w' w'') : Keep S w w'' := fun b hb => (h' b hb).trans (h b hb)
theorem Keep.refl (S : Nat → Prop) (w : World) : Keep S w w := fun _ _ => rfl
/-- How a value of a type lies in cells; S: in which blocks. -/
structure Enc (α : Type) where
  size : Nat
  pos : 0 < size
  cells : World → (Nat → Prop) → α → List Value → Prop
  len : ∀ {w S x cs}, cells w S x cs → cs.length = size
  keep : ∀ {w w' S x cs}, cells w S x cs → Keep S w w' → cells w' S x cs
  more : ∀ {w S S' x cs}, cells w S x cs → (∀ b, S b → S' b) → cells w S' x cs
  one : ∀ {w S x cs}, cells w S x cs → ∀ u ∈ cs, u.oneCell' = true

def IntE : Enc Int where
  size := 1
  pos := by decide
  cells := fun _ _ x cs => cs = [.int .i64 x]
  len := by rintro _ _ _ _ rfl; rfl
  keep := fun h _ => h
  more := fun h _ => h
  one := by rintro _ _ _ _ rfl; simp [Value.oneCell']
def StrE : Enc ByteArray where
  size := 1
  pos := by decide
  cells := fun _ _ x cs => cs = [.string x]
  len := by rintro _ _ _ _ rfl; rfl
  keep := fun h _ => h
  more := fun h _ => h
  one := by rintro _ _ _ _ rfl; simp [Value.oneCell']
def RuleE : Enc GRule where
  size := 3
  pos := by decide
  cells := fun _ _ x cs => cs = x.cells
  len := by rintro _ _ _ _ rfl; rfl
  keep := fun h _ => h
  more := fun h _ => h
  one := by rintro _ _ _ _ rfl; simp [GRule.cells, Value.oneCell']

section
variable {α : Type} (E : Enc α)
/-- The elements xs lie from the address A on, in blocks of S. -/
def Row (w : World) (S : Nat → Prop) (A : Option Addr) (xs : List α) : Prop :=
  0 < xs.length → ∃ b o, A = some ⟨b, o, none⟩ ∧ S b ∧ ∀ k x, xs[k]? = some x → ∃ cs, E.cells w S x cs ∧ ∀ j u, cs[j]? = some u → w.cell? ⟨b, o + (k * E.size + j), none⟩ = some u
/-- The slice value v reads as the list xs, in blocks of S. -/
def SlS (w : World) (S : Nat → Prop) (v : Value) (xs : List α) : Prop := ∃ A c, v = .slice A xs.length c ∧ xs.length ≤ c ∧ c ≤ maxLen ∧ Row E w S A xs
/-- The slice value v reads as the list xs, below block B. -/
abbrev Sl (w : World) (B : Nat) (v : Value) (xs : List α) : Prop := SlS E w (· < B) v xs
variable {E} {w w' : World} {S S' : Nat → Prop} {B B' : Nat} {A : Option Addr} {v : Value} {xs : List α}
theorem Row.keep (h : Row E w S A xs) (hb : Keep S w w') : Row E w' S A xs := fun hn => by
  obtain ⟨b, o, rfl, hlt, hc⟩ := h hn
  refine ⟨b, o, rfl, hlt, fun k x hx => ?_⟩
  obtain ⟨cs, h1, h2⟩ := hc k x hx
  exact ⟨cs, E.keep h1 hb, fun j u hu => (hb.cell hlt).trans (h2 j u hu)⟩
theorem Row.more (h : Row E w S A xs) (hB : ∀ b, S b → S' b) : Row E w S' A xs := fun hn => by
  obtain ⟨b, o, rfl, hlt, hc⟩ := h hn
  refine ⟨b, o, rfl, hB _ hlt, fun k x hx => ?_⟩
  obtain ⟨cs, h1, h2⟩ := hc k x hx
  exact ⟨cs, E.more h1 hB, h2⟩
theorem SlS.keep (h : SlS E w S v xs) (hb : Keep S w w') : SlS E w' S v xs := by
  obtain ⟨A, c, rfl, h1, h0, h2⟩ := h
  exact ⟨A, c, rfl, h1, h0, h2.keep hb⟩
theorem SlS.more (h : SlS E w S v xs) (hB : ∀ b, S b → S' b) : SlS E w S' v xs := by
  obtain ⟨A, c, rfl, h1, h0, h2⟩ := h
  exact ⟨A, c, rfl, h1, h0, h2.more hB⟩
theorem SlS.below (h : Sl E w B v xs) (hb : Below B w w') : Sl E w' B v xs := h.keep (Keep.of_below hb)
theorem SlS.le (h : Sl E w B v xs) (hB : B ≤ B') : Sl E w B' v xs := h.more fun _ hb => Nat.lt_of_lt_of_le hb hB
theorem SlS.up {w0 : World} (h : Sl E w0 w0.heap.size v xs) (hb : Below w0.heap.size w0 w) : Sl E w w.heap.size v xs := (h.below hb).le hb.size
theorem SlS.drewN (h : SlS E w S v xs) (n : Nat) : SlS E (w.drewN n) S v xs := h.keep fun _ _ => rfl
theorem SlS.nil (w : World) (S : Nat → Prop) : SlS E w S (.slice none 0 0) [] := ⟨none, 0, rfl, Nat.le_refl _, Nat.zero_le _, fun h => absurd h (by simp)⟩
end

def SliceE {α : Type} (E : Enc α) : Enc (List α) where
  size := 1
  pos := by decide
  cells := fun w S x cs => ∃ v, cs = [v] ∧ SlS E w S v x
  len := by rintro _ _ _ _ ⟨v, rfl, _⟩; rfl
  keep := by rintro _ _ _ _ _ ⟨v, rfl, h⟩ hb; exact ⟨v, rfl, h.keep hb⟩
  more := by rintro _ _ _ _ _ ⟨v, rfl, h⟩ hb; exact ⟨v, rfl, h.more hb⟩
  one := by rintro _ _ _ _ ⟨v, rfl, A, c, rfl, _⟩; simp [Value.oneCell']

section
variable {w w' : World} {S : Nat → Prop} {A : Option Addr} {v : Value}
theorem Row.int {l : List Int} (h : Row IntE w S A l) {k : Nat} (hk : k < l.length) :
    ∃ b o, A = some ⟨b, o, none⟩ ∧ S b ∧ ∀ i, i < l.length → w.cell? ⟨b, o + i, none⟩ = some (.int .i64 (l.getD i 0)) := by
  obtain ⟨b, o, rfl, hlt, hc⟩ := h (by omega)
  refine ⟨b, o, rfl, hlt, fun i hi => ?_⟩
  obtain ⟨cs, h1, h2⟩ := hc i l[i] (List.getElem?_eq_getElem hi)
  have := h2 0 (.int .i64 l[i]) (by rw [show cs = [.int .i64 l[i]] from h1]; rfl)
  rw [List.getD_eq_getElem?_getD, List.getElem?_eq_getElem hi]
  simpa [IntE] using this
theorem Row.rule {l : List GRule} (h : Row RuleE w S A l) {k : Nat} (hk : k < l.length) :
    ∃ b o, A = some ⟨b, o, none⟩ ∧ S b ∧ ∀ i r, l[i]? = some r → w.cell? ⟨b, o + i * 3, none⟩ = some (.string r.letter) ∧ w.cell? ⟨b, o + i * 3 + 1, none⟩ = some (.int .i64 r.left) ∧ w.cell? ⟨b, o + i * 3 + 2, none⟩ = some (.int .i64 r.right) := by
  obtain ⟨b, o, rfl, hlt, hc⟩ := h (by omega)
  refine ⟨b, o, rfl, hlt, fun i r hi => ?_⟩
  obtain ⟨cs, h1, h2⟩ := hc i r hi
  have e : cs = r.cells := h1
  subst e
  exact ⟨by simpa [RuleE] using h2 0 _ rfl, by simpa [RuleE, Nat.add_assoc] using h2 1 _ rfl, by simpa [RuleE, Nat.add_assoc] using h2 2 _ rfl⟩
theorem Row.sl {α : Type} {E : Enc α} {l : List (List α)} (h : Row (SliceE E) w S A l) {k : Nat} (hk : k < l.length) :
    ∃ b o, A = some ⟨b, o, none⟩ ∧ S b ∧ ∀ i x, l[i]? = some x → ∃ v, w.cell? ⟨b, o + i, none⟩ = some v ∧ SlS E w S v x := by
  obtain ⟨b, o, rfl, hlt, hc⟩ := h (by omega)
  refine ⟨b, o, rfl, hlt, fun i x hi => ?_⟩
  obtain ⟨cs, ⟨v, rfl, h1⟩, h2⟩ := hc i x hi
  exact ⟨v, by simpa [SliceE] using h2 0 v rfl, h1⟩
theorem Row.of_own {α : Type} {E : Enc α} {base e c : Nat} {xs : List α} {n : Nat} {A : Option Addr} {us : List Value} (h : w.ownsRow base e E.size (.slice A n c) n us) (hl : xs.length = n)
    (hS : ∀ g, (Value.slice A n c).ownBlock = some g → S g)
    (hx : ∀ k x, xs[k]? = some x → ∃ cs, E.cells w S x cs ∧ ∀ j u, cs[j]? = some u → us[k * E.size + j]? = some u) : Row E w S A xs := fun hn => by
  obtain ⟨g, cap, hv, hb, hlt, _, hcell⟩ := own_form h (by omega)
  injection hv with hA
  subst hA
  refine ⟨g, 0, rfl, hS g rfl, fun k x hk => ?_⟩
  obtain ⟨cs, h1, h2⟩ := hx k x hk
  exact ⟨cs, h1, fun j u hu => by rw [Nat.zero_add]; exact hcell _ _ (h2 j u hu)⟩
/-- An own row of numbers, read as a list. -/
theorem OwnInts.slS {base : Nat} {l : List Int} (h : OwnInts w base v l) (hS : ∀ g, v.ownBlock = some g → S g) : SlS IntE w S v l := by
  obtain ⟨A, cap, rfl, h1, h2⟩ := own_nil h
  refine ⟨A, cap, rfl, h1, h2, Row.of_own (E := IntE) h rfl hS fun k x hx => ⟨[.int .i64 x], rfl, fun j u hu => ?_⟩⟩
  cases j with
  | zero => simp at hu; subst hu; simp [IntE, hx]
  | succ j => simp at hu
theorem OwnRules.slS {base : Nat} {l : List GRule} (h : OwnRules w base v l) (hS : ∀ g, v.ownBlock = some g → S g) : SlS RuleE w S v l := by
  obtain ⟨A, cap, rfl, h1, h2⟩ := own_nil h
  refine ⟨A, cap, rfl, h1, h2, Row.of_own (E := RuleE) h rfl hS fun k r hx => ⟨r.cells, rfl, fun j u hu => ?_⟩⟩
  obtain ⟨c0, c1, c2⟩ := cells3 l k r hx
  match j, hu with
  | 0, hu => simp [GRule.cells] at hu; subst hu; simpa [RuleE] using c0
  | 1, hu => simp [GRule.cells] at hu; subst hu; simpa [RuleE] using c1
  | 2, hu => simp [GRule.cells] at hu; subst hu; simpa [RuleE] using c2
  | j + 3, hu => simp [GRule.cells] at hu
theorem OwnInts.sl {base : Nat} {l : List Int} (h : OwnInts w base v l) : Sl IntE w w.heap.size v l := h.slS fun g hg => (h.lt g hg).2
theorem OwnRules.sl {base : Nat} {l : List GRule} (h : OwnRules w base v l) : Sl RuleE w w.heap.size v l := h.slS fun g hg => (h.lt g hg).2
end
end Go.Proofs.YtagpjommhoedlaaGreatDoor

namespace Go.Proofs.YtagpjommhoedlaaGreatDoor
open Go.RowKit

end Go.Proofs.YtagpjommhoedlaaGreatDoor

namespace Go.Proofs.YtagpjommhoedlaaGreatDoor
open Go.RowKit

end Go.Proofs.YtagpjommhoedlaaGreatDoor

namespace Go.Proofs.YtagpjommhoedlaaGreatDoor
open Go.RowKit

/-- A row of k values that read as the lists xs, in blocks of S. -/
def Each {α : Type} (E : Enc α) (w : World) (S : Nat → Prop) (vs : List Value) (xs : List (List α)) : Prop := vs.length = xs.length ∧ ∀ (k : Nat) x, xs[k]? = some x → ∃ v, vs[k]? = some v ∧ SlS E w S v x
theorem Each.keep {α : Type} {E : Enc α} {w w' : World} {S : Nat → Prop} {vs : List Value} {xs : List (List α)} (h : Each E w S vs xs) (hk : Keep S w w') : Each E w' S vs xs :=
  ⟨h.1, fun k x hx => by obtain ⟨v, h1, h2⟩ := h.2 k x hx; exact ⟨v, h1, h2.keep hk⟩⟩
theorem Each.more {α : Type} {E : Enc α} {w : World} {S S' : Nat → Prop} {vs : List Value} {xs : List (List α)} (h : Each E w S vs xs) (hk : ∀ b, S b → S' b) : Each E w S' vs xs :=
  ⟨h.1, fun k x hx => by obtain ⟨v, h1, h2⟩ := h.2 k x hx; exact ⟨v, h1, h2.more hk⟩⟩
theorem Each.snoc {α : Type} {E : Enc α} {w : World} {S : Nat → Prop} {vs : List Value} {xs : List (List α)} {v : Value} {x : List α} (h : Each E w S vs xs) (hv : SlS E w S v x) : Each E w S (vs ++ [v]) (xs ++ [x]) :=
  ⟨by simp [h.1], fun k y hy => by
    rcases Nat.lt_trichotomy k xs.length with hk | hk | hk
    · rw [List.getElem?_append_left hk] at hy
      obtain ⟨u, h1, h2⟩ := h.2 k y hy
      exact ⟨u, by rw [List.getElem?_append_left (by rw [h.1]; exact hk)]; exact h1, h2⟩
    · rw [hk] at hy ⊢
      rw [List.getElem?_append_right (Nat.le_refl _)] at hy
      simp at hy
      subst hy
      exact ⟨v, by rw [List.getElem?_append_right (by rw [h.1]; exact Nat.le_refl _), h.1]; simp, hv⟩
    · rw [List.getElem?_append_right (by omega)] at hy
      have : ([x] : List (List α))[k - xs.length]? = none := List.getElem?_eq_none (by simp; omega)
      rw [this] at hy; cases hy⟩
theorem Each.nil {α : Type} {E : Enc α} {w : World} {S : Nat → Prop} : Each E w S [] [] := ⟨rfl, fun k x hx => by simp at hx⟩
theorem Each.sl {α : Type} {E : Enc α} {w : World} {S : Nat → Prop} {vs : List Value} {xs : List (List α)} {base e : Nat} {v : Value} (h : Each E w S vs xs) (ho : w.ownsRow base e 1 v xs.length vs) (hS : ∀ g, v.ownBlock = some g → S g) : SlS (SliceE E) w S v xs := by
  obtain ⟨A, cap, rfl, h1, h2⟩ := own_nil ho
  refine ⟨A, cap, rfl, h1, h2, Row.of_own (E := SliceE E) ho rfl hS fun k x hx => ?_⟩
  obtain ⟨u, hu, hs⟩ := h.2 k x hx
  refine ⟨[u], ⟨u, rfl, hs⟩, fun j y hy => ?_⟩
  cases j with
  | zero => simp at hy; subst hy; simpa [SliceE] using hu
  | succ j => simp at hy

end Go.Proofs.YtagpjommhoedlaaGreatDoor

namespace Go.Proofs.YtagpjommhoedlaaGreatDoor
open Go.RowKit

/-- The letters' texts are no longer than a text can be. -/
def SmallL (rs : List GRule) : Prop := ∀ r ∈ rs, r.letter.size ≤ 9223372036854775807

theorem eqRule_any (l : ByteArray) (a b : Int) (w : World) :
    Calls Tryz.prog 168 #[.agg #[.string l, .int .i64 a, .int .i64 b], .agg #[.string l, .int .i64 a, .int .i64 b]] w fun e w' => e = .returned (.bool true) ∧ (w.alloc (.cells #[.string l, .int .i64 a, .int .i64 b] 148)).alloc (.cells #[.string l, .int .i64 a, .int .i64 b] 148) = w' := by
  go_enter Tryz.func168, Tryz.ntmps168
  go_wp2
  go_ret
  exact ⟨rfl, rfl⟩

theorem eqRuleS_any (v v' : Value) (xs : List GRule) (w : World) (h : Sl RuleE w w.heap.size v xs) (h' : Sl RuleE w w.heap.size v' xs) :
    Calls Tryz.prog 109 #[v, v'] w fun e w' => e = .returned (.bool true) ∧ Below w.heap.size w w' := by
  obtain ⟨A, c, rfl, hc, hm, hrow⟩ := h
  obtain ⟨A', c', rfl, hc', hm', hrow'⟩ := h'
  unfold maxLen at hm
  have hn : xs.length ≤ 9223372036854775807 := by omega
  clear hm hm'
  go_enter Tryz.func109, Tryz.ntmps109
  go_wp2_with fail
  go_loopw [5] (fun i wr => ∃ (k : Nat), k ≤ xs.length ∧ i = .int .i64 k ∧ Below w.heap.size w wr) (fun i _ => xs.length - (intOf i).toNat)
  case atStart => exact ⟨0, Nat.zero_le _, rfl, Below.refl _ _⟩
  case round =>
    obtain ⟨k, hk, rfl, hb⟩ := hrel
    by_cases hlt : k < xs.length
    · obtain ⟨b, o, rfl, hbl, hcell⟩ := hrow.rule hlt
      obtain ⟨b', o', rfl, hbl', hcell'⟩ := hrow'.rule hlt
      obtain ⟨x, hx⟩ : ∃ x, xs[k]? = some x := ⟨_, List.getElem?_eq_getElem hlt⟩
      obtain ⟨g0, g1, g2⟩ := hcell k x hx
      obtain ⟨g0', g1', g2'⟩ := hcell' k x hx
      have hc0 := (hb.cell (p := ⟨b, o + k * 3, none⟩) hbl).trans g0
      have hc1 := (hb.cell (p := ⟨b, o + k * 3 + 1, none⟩) hbl).trans g1
      have hc2 := (hb.cell (p := ⟨b, o + k * 3 + 2, none⟩) hbl).trans g2
      have hc0' := (hb.cell (p := ⟨b', o' + k * 3, none⟩) hbl').trans g0'
      have hc1' := (hb.cell (p := ⟨b', o' + k * 3 + 1, none⟩) hbl').trans g1'
      have hc2' := (hb.cell (p := ⟨b', o' + k * 3 + 2, none⟩) hbl').trans g2'
      have hi : (k : Int) < (xs.length : Int) := by omega
      have hsz : w.heap.size ≤ wr.heap.size := hb.size
      have hb1 : b < wr.heap.size := by omega
      have hb1' : b' < wr.heap.size := by omega
      clear hcell hcell' hx g0 g1 g2 g0' g1' g2'
      go_wp2_with fail
      go_region_held3 (fun w' => w'.cell? ⟨b, o + k * 3, none⟩ = some (.string x.letter) ∧ w'.cell? ⟨b, o + k * 3 + 1, none⟩ = some (.int .i64 x.left) ∧ w'.cell? ⟨b, o + k * 3 + 2, none⟩ = some (.int .i64 x.right) ∧ w'.cell? ⟨b', o' + k * 3, none⟩ = some (.string x.letter) ∧ w'.cell? ⟨b', o' + k * 3 + 1, none⟩ = some (.int .i64 x.left) ∧ w'.cell? ⟨b', o' + k * 3 + 2, none⟩ = some (.int .i64 x.right)) (go_keep)
        (first | (go_at_call 168; refine (eqRule_any _ _ _ _).mono ?_; rintro e w2 ⟨rfl, rfl⟩))
      go_wp2
      go_roundw
      case rel => exact ⟨k + 1, by omega, by go_num, (by repeat (first | exact hb | (refine Below.alloc ?_ (by first | omega | (simp; done) | (simp; omega)) _) | refine below_drewN ?_ _ | refine Below.drew ?_))⟩
      case measure => simp [intOf]; omega
    · go_wp2
      go_ret
      exact ⟨rfl, hb⟩

end Go.Proofs.YtagpjommhoedlaaGreatDoor

namespace Go.Proofs.YtagpjommhoedlaaGreatDoor
open Go.RowKit

theorem set3 (rs : List GRule) (k : Nat) (r : GRule) (h : k < rs.length) :
    (((rs.flatMap GRule.cells).set (k * 3) (.string r.letter)).set (k * 3 + 1) (.int .i64 r.left)).set (k * 3 + 2) (.int .i64 r.right) = (rs.set k r).flatMap GRule.cells := by
  induction rs generalizing k with
  | nil => simp at h
  | cons x xs ih =>
    cases k with
    | zero => simp [GRule.cells]
    | succ k =>
      have := ih k (by simpa using h)
      simp only [List.flatMap_cons, List.set_cons_succ]
      have e : (GRule.cells x).length = 3 := rfl
      rw [List.set_append, if_neg (by omega), e, List.set_append, if_neg (by omega), e, List.set_append, if_neg (by omega), e]
      rw [show (k+1)*3-3 = k*3 by omega, show (k+1)*3+1-3 = k*3+1 by omega, show (k+1)*3+2-3 = k*3+2 by omega, this]

theorem grown_trans {a b c : World} {g : Nat} (h : a.grownBy b (some g)) (k : b.grownBy c (some g)) : a.grownBy c (some g) :=
  ⟨k.os.trans h.os, k.tape.trans h.tape, k.output.trans h.output, Nat.le_trans h.size k.size, fun i hi hne => (k.block i (Nat.lt_of_lt_of_le hi h.size) hne).trans (h.block i hi hne)⟩

theorem OwnRules.stored3 {w : World} {base g n cap : Nat} {rs : List GRule} (h : w.ownsRow base 148 3 (.slice (some ⟨g, 0, none⟩) n cap) n (rs.flatMap GRule.cells)) (k : Nat) (r : GRule) (hk : k < rs.length) :
    (((w.setCell ⟨g, k * 3, none⟩ (.string r.letter)).setCell ⟨g, k * 3 + 1, none⟩ (.int .i64 r.left)).setCell ⟨g, k * 3 + 2, none⟩ (.int .i64 r.right)).ownsRow base 148 3 (.slice (some ⟨g, 0, none⟩) n cap) n ((rs.set k r).flatMap GRule.cells) ∧
    w.grownBy (((w.setCell ⟨g, k * 3, none⟩ (.string r.letter)).setCell ⟨g, k * 3 + 1, none⟩ (.int .i64 r.left)).setCell ⟨g, k * 3 + 2, none⟩ (.int .i64 r.right)) (some g) := by
  obtain ⟨h1, g1⟩ := World.ownsRow.stored h (k * 3) (.string r.letter)
  obtain ⟨h2, g2⟩ := World.ownsRow.stored h1 (k * 3 + 1) (.int .i64 r.left)
  obtain ⟨h3, g3⟩ := World.ownsRow.stored h2 (k * 3 + 2) (.int .i64 r.right)
  rw [set3 rs k r hk] at h3
  exact ⟨h3, grown_trans (grown_trans g1 g2) g3⟩

theorem eqGrammar_any (v v' : Value) (xs : List GRule) (w : World) (h : Sl RuleE w w.heap.size v xs) (h' : Sl RuleE w w.heap.size v' xs) :
    Calls Tryz.prog 44 #[.agg #[v], .agg #[v']] w fun e w' => e = .returned (.bool true) ∧ Below w.heap.size w w' := by
  have h1 := fun o o' => (h.below (((Below.refl w.heap.size w).alloc (Nat.le_refl _) o).alloc (by simp) o')).le (B' := ((w.alloc o).alloc o').heap.size) (by simp; omega)
  have h2 := fun o o' => (h'.below (((Below.refl w.heap.size w).alloc (Nat.le_refl _) o).alloc (by simp) o')).le (B' := ((w.alloc o).alloc o').heap.size) (by simp; omega)
  obtain ⟨A, c, rfl, hc, hm, hrow⟩ := h
  obtain ⟨A', c', rfl, hc', hm', hrow'⟩ := h'
  have H1 := Lib.hid h1
  have H2 := Lib.hid h2
  clear h1 h2 hm hm' hrow hrow'
  go_enter Tryz.func44, Tryz.ntmps44
  go_wp2_with (first | (go_at_call 109; go_must (refine (eqRuleS_any _ _ _ _ (H1.out _ _) (H2.out _ _)).mono ?_); rintro e w2 ⟨rfl, hb2⟩))
  go_ret
  exact ⟨rfl, (((Below.refl _ _).alloc (Nat.le_refl _) _).alloc (by simp) _).trans (hb2.mono (by simp; omega))⟩
end Go.Proofs.YtagpjommhoedlaaGreatDoor

namespace Go.Proofs.YtagpjommhoedlaaGreatDoor
open Go.RowKit

theorem within_any (n a b : Int) (w : World) :
    Calls Tryz.prog 81 #[.int .i64 n, .int .i64 a, .int .i64 b] w fun e w' => e = .returned (.bool (decide (a ≤ n) && decide (n ≤ b))) ∧ w = w' := by
  by_cases h1 : a ≤ n
  · by_cases h2 : n ≤ b <;> go_enter Tryz.func81, Tryz.ntmps81 <;> go_wp2 <;> go_ret <;> exact ⟨by simp [h1,h2], rfl⟩
  · go_enter Tryz.func81, Tryz.ntmps81
    go_wp2
    go_ret
    exact ⟨by simp; omega, rfl⟩

theorem l00In_any (n a b : Int) (w : World) :
    Calls Tryz.prog 93 #[.int .i64 n, .int .i64 a, .int .i64 b] w fun e w' => e = .returned (.bool (decide (a ≤ n) && decide (n ≤ b))) ∧ w = w' := by
  by_cases h1 : a ≤ n
  · by_cases h2 : n ≤ b <;> go_enter Tryz.func93, Tryz.ntmps93 <;> go_wp2 <;> go_ret <;> exact ⟨by simp [h1,h2], rfl⟩
  · go_enter Tryz.func93, Tryz.ntmps93
    go_wp2
    go_ret
    exact ⟨by simp; omega, rfl⟩

theorem isPair_any (l : ByteArray) (a b : Int) (w : World) :
    Calls Tryz.prog 158 #[.agg #[.string l, .int .i64 a, .int .i64 b]] w fun e w' => e = .returned (.bool (l.toList.isEmpty)) ∧ w.alloc (.cells #[.string l, .int .i64 a, .int .i64 b] 148) = w' := by
  go_enter Tryz.func158, Tryz.ntmps158
  go_wp2
  go_ret
  exact ⟨by simp, rfl⟩

theorem isLetter_any (c : UInt8) (w : World) :
    Calls Tryz.prog 140 #[.int .u8 c.toNat] w fun e w' => e = .returned (.bool (decide (97 ≤ (c.toNat:Int)) && decide ((c.toNat:Int) ≤ 100))) ∧ w = w' := by
  by_cases h1 : 97 ≤ (c.toNat : Int)
  · by_cases h2 : (c.toNat : Int) ≤ 100 <;> go_enter Tryz.func140, Tryz.ntmps140 <;> go_wp2 <;> go_ret <;> exact ⟨by simp [h1,h2], rfl⟩
  · go_enter Tryz.func140, Tryz.ntmps140
    go_wp2
    go_ret
    exact ⟨by simp; omega, rfl⟩

def LensPost (rs : List GRule) (w : World) (e : Ending) (w' : World) : Prop :=
  Below w.heap.size w w' ∧ ((∃ ls v, lens rs = some ls ∧ e = .returned (.tuple #[v, .bool (decide (rs.length ≤ 400))]) ∧ OwnInts w' w.heap.size v ls) ∨
    (lens rs = none ∧ e = .returned (.tuple #[.slice none 0 0, .bool false])))

set_option maxRecDepth 100000 in
theorem lengths_any (v : Value) (rs : List GRule) (w : World) (h : Sl RuleE w w.heap.size v rs) (hn : rs.length ≤ 1099511627776) :
    Calls Tryz.prog 99 #[.agg #[v]] w (LensPost rs w) := by
  obtain ⟨A, c, rfl, hc, hm, hrow⟩ := h
  clear hm
  go_enter Tryz.func99, Tryz.ntmps99
  go_wp2_with fail
  go_loopw [4, 12] (fun out i wr => ∃ (k : Nat) (vals : List Int), k ≤ rs.length ∧ i = .int .i64 k ∧ lens (rs.take k) = some vals ∧ Below (w.heap.size+1) (w.alloc (Obj.cells #[Value.slice A rs.length c] 24)) wr ∧ OwnInts wr (w.heap.size+1) out vals) (fun _ i _ => rs.length - (intOf i).toNat)
  case atStart => exact ⟨0, [], Nat.zero_le _, rfl, by simp [lens], (Below.refl _ _).alloc (by simp) _, OwnInts.empty (by simp) (by simp)⟩
  case round =>
    obtain ⟨k, vals, hk, rfl, hlen, hb, hown⟩ := hrel
    have hB : Below w.heap.size w wr := ((Below.refl _ _).alloc (Nat.le_refl _) _).trans (hb.mono (by omega))
    by_cases hlt : k < rs.length
    · have hvk : vals.length = k := by have := lens_length hlen; rw [List.length_take] at this; omega
      obtain ⟨b, o, rfl, hbl, hcell⟩ := (hrow.keep (Keep.of_below hB)).rule hlt
      obtain ⟨r, hrk⟩ : ∃ x, rs[k]? = some x := ⟨_, List.getElem?_eq_getElem hlt⟩
      obtain ⟨hc0, hc1, hc2⟩ := hcell k r hrk
      have hsz : w.heap.size + 1 ≤ wr.heap.size := by have := hb.size; simpa using this
      have hv1 : vals.length ≤ 1099511627776 := by omega
      have hat : 0 < k → _ := fun h => hown.at_ (j := 0) (by omega)
      have Hat := Lib.hid hat
      have Hr := Lib.hid hrk
      have Hlen := Lib.hid hlen
      have Hvk := Lib.hid hvk
      clear hrk hcell hrow hlen hvk hat
      go_wp2_with (first
        | (go_at_call 158; refine (isPair_any _ _ _ _).mono ?_; rintro e w' ⟨rfl, rfl⟩)
        | (go_at_call 81; refine (within_any _ _ _ _).mono ?_; rintro e w' ⟨rfl, rfl⟩)
        | (go_at_call 140; refine (isLetter_any _ _).mono ?_; rintro e w' ⟨rfl, rfl⟩)
        | (at_builtin; go_must (refine push_ints rfl _ _ rfl rfl rfl (by simp) (by repeat (first | exact hown | apply OwnInts.alloc)) (by omega) (by simp; omega) ?_)
           intro v' w1 hown1 hgrow hbw))
      · go_ret2
        exact ⟨by repeat (first | exact hB | (refine Below.alloc ?_ (by first | omega | (simp; omega)) _)), .inr ⟨lens_bad Hlen.out Hr.out (lensStep_none (by rw [Hvk.out]; exact okp_no2 ‹_› ‹_›)), rfl⟩⟩
      · have h1 : 0 ≤ r.left ∧ r.left ≤ (k:Int) - 1 := by assumption
        have h2 : (!decide (0 ≤ r.right)) = false ∧ (!decide (r.right ≤ (k:Int) - 1)) = false := by assumption
        have Hok := Lib.hid (okp_yes (r := r) (k := k) ‹_› h1 h2)
        simp at h2
        obtain ⟨g, cap, rfl, hgb, hgl, hcap, hgc⟩ := Hat.out (by omega)
        have Hgc := Lib.hid hgc
        have hvk := Hvk.out
        have hx1 := hgc r.left.toNat (by omega)
        have hx2 := hgc r.right.toNat (by omega)
        have hi1 : r.left < (vals.length : Int) := by omega
        have hi2 : r.right < (vals.length : Int) := by omega
        have hi3 : 0 ≤ r.right := h2.1
        have hpos := lens_pos Hlen.out
        have hb1 : 1 ≤ vals.getD r.left.toNat 0 ∧ vals.getD r.left.toNat 0 ≤ 1000000000000000 := by
          rw [List.getD_eq_getElem?_getD, List.getElem?_eq_getElem (by omega)]; exact hpos _ (List.getElem_mem _)
        have hb2 : 1 ≤ vals.getD r.right.toNat 0 ∧ vals.getD r.right.toNat 0 ≤ 1000000000000000 := by
          rw [List.getD_eq_getElem?_getD, List.getElem?_eq_getElem (by omega)]; exact hpos _ (List.getElem_mem _)
        have hrl : ruleLen vals r = vals.getD r.left.toNat 0 + vals.getD r.right.toNat 0 := by simp [ruleLen, Hok.out.2]
        generalize vals.getD r.left.toNat 0 = x at *
        generalize vals.getD r.right.toNat 0 = y at *
        have hwr : IntKind.i64.wrap (x + y) = x + y := IntWalk.i64_in _ (by omega)
        have Hrl := Lib.hid hrl
        clear hgc hvk hpos hrl
        go_quiet (fail)
        clear hwr
        go_wp2_with (first
        | (at_builtin; go_must (refine push_ints rfl _ _ rfl rfl rfl (by simp) (by repeat (first | exact hown | apply OwnInts.alloc | apply OwnInts.drewN)) (by omega) (by simp; omega) ?_)
           intro v' w1 hown1 hgrow hbw))
        · go_ret2
          exact ⟨by repeat (first | exact hB | (refine Below.alloc ?_ (by first | omega | (simp; omega)) _) | refine below_drewN ?_ _), .inr ⟨lens_bad Hlen.out Hr.out (lensStep_big (by rw [Hrl.out]; unfold maxL; omega)), rfl⟩⟩
        · go_roundw
          case rel => exact ⟨k + 1, vals ++ [x + y], by omega, by go_num, by have := lens_next Hlen.out Hr.out (by rw [Hvk.out]; exact Hok.out.1) (by rw [Hrl.out]; unfold maxL; omega); rw [Hrl.out] at this; exact this, hb.trans ((below_drewN (((Below.refl _ _).alloc (by omega) _).alloc (by simp; omega) _) _).trans hbw), hown1⟩
          case measure => simp [intOf]; omega
      · go_ret2
        exact ⟨by repeat (first | exact hB | (refine Below.alloc ?_ (by first | omega | (simp; omega)) _)), .inr ⟨lens_bad Hlen.out Hr.out (lensStep_none (by rw [Hvk.out]; exact okp_no1 ‹_› ‹_›)), rfl⟩⟩
      · go_ret2
        exact ⟨by repeat (first | exact hB | (refine Below.alloc ?_ (by first | omega | (simp; omega)) _)), .inr ⟨lens_bad Hlen.out Hr.out (lensStep_none (by rw [Hvk.out]; exact okl_no4 ‹_› ‹_›)), rfl⟩⟩
      · have Hok := okl_yes (r := r) (k := k) ‹_› ‹_› _ ‹_› ‹_› ‹_›
        go_roundw
        case rel => exact ⟨k + 1, vals ++ [1], by omega, by go_num, by have := lens_next Hlen.out Hr.out (by rw [Hvk.out]; exact Hok.1) (by simp [ruleLen, Hok.2, maxL]); simpa [ruleLen, Hok.2] using this, hb.trans (((Below.refl _ _).alloc (by omega) _).alloc (by simp; omega) _ |>.trans hbw), hown1⟩
        case measure => simp [intOf]; omega
      · go_ret2
        exact ⟨by repeat (first | exact hB | (refine Below.alloc ?_ (by first | omega | (simp; omega)) _)), .inr ⟨lens_bad Hlen.out Hr.out (lensStep_none (by rw [Hvk.out]; exact okl_no3 ‹_› ‹_›)), rfl⟩⟩
      · go_ret2
        exact ⟨by repeat (first | exact hB | (refine Below.alloc ?_ (by first | omega | (simp; omega)) _)), .inr ⟨lens_bad Hlen.out Hr.out (lensStep_none (by rw [Hvk.out]; exact okl_no2 ‹_› _ ‹_›)), rfl⟩⟩
      · go_ret2
        exact ⟨by repeat (first | exact hB | (refine Below.alloc ?_ (by first | omega | (simp; omega)) _)), .inr ⟨lens_bad Hlen.out Hr.out (lensStep_none (by rw [Hvk.out]; exact okl_no1 ‹_› ‹_›)), rfl⟩⟩
    · have hkn : k = rs.length := by omega
      have hfin : lens rs = some vals := by rw [← hlen, List.take_of_length_le (by omega)]
      have hg : wr.cell? ⟨w.heap.size, 0, none⟩ = some (Value.slice A rs.length c) := by rw [hb.cell (by simp)]; simp [go_sem]
      have Hfin := Lib.hid hfin
      subst hkn
      clear hlen hrow hfin
      go_wp2_with fail
      go_quiet (fail)
      go_wp2
      go_ret2
      exact ⟨below_drewN hB _, .inl ⟨vals, _, Hfin.out, by simp; omega, ownsRow_more (hown.drewN _) (by omega)⟩⟩
end Go.Proofs.YtagpjommhoedlaaGreatDoor

namespace Go.Proofs.YtagpjommhoedlaaGreatDoor
open Go.RowKit

theorem l01Ok_any (s : ByteArray) (w : World) (hs : s.size ≤ maxLen) :
    Calls Tryz.prog 49 #[.string s] w fun e w' => e = .returned (.bool (wordOk s)) ∧ w = w' := by
  unfold maxLen at hs
  go_enter Tryz.func49, Tryz.ntmps49
  go_wp2_with fail
  · go_ret
    exact ⟨ret_bool (by symm; unfold wordOk; rw [Bool.and_eq_false_iff]; left; simp; omega), rfl⟩
  · go_loop [3] (fun i => ∃ k : Nat, k ≤ s.size ∧ i = .int .i64 k ∧ Hid ((s.data.toList.take k).all letOk = true)) (fun i => s.size - (intOf i).toNat)
    case atStart => exact ⟨0, Nat.zero_le _, rfl, by simp [Hid]⟩
    case round =>
      obtain ⟨k, hk, rfl, H⟩ := hrel
      by_cases hlt : k < s.size
      · by_cases h1 : (s[k].toNat : Int) < 97
        · go_wp2
          go_ret
          exact ⟨ret_bool (by have := all_bad hlt (by simp [letOk]; omega); simp [wordOk, this]), rfl⟩
        · by_cases h2 : 100 < (s[k].toNat : Int)
          · go_wp2
            go_ret
            exact ⟨ret_bool (by have := all_bad hlt (by simp [letOk]; omega); simp [wordOk, this]), rfl⟩
          · go_wp2
            go_round
            case rel => exact ⟨k + 1, by omega, by go_num, all_step hlt H.out (by simp [letOk]; omega)⟩
            case measure => simp [intOf]; omega
      · go_wp2
        go_ret
        exact ⟨ret_bool (by have := all_end (by omega) H.out; simp [wordOk, this]; omega), rfl⟩

theorem ValidWord_any (s : ByteArray) (w : World) (hs : s.size ≤ maxLen) :
    Calls Tryz.prog 75 #[.string s] w fun e w' => e = .returned (.bool (wordOk s)) ∧ w = w' := by
  unfold maxLen at hs
  go_enter Tryz.func75, Tryz.ntmps75
  go_wp2_with fail
  go_loop [6] (fun i => ∃ k : Nat, k ≤ s.size ∧ i = .int .i64 k ∧ Hid ((s.data.toList.take k).all letOk = true)) (fun i => s.size - (intOf i).toNat)
  case atStart => exact ⟨0, Nat.zero_le _, rfl, by simp [Hid]⟩
  case round =>
    obtain ⟨k, hk, rfl, H⟩ := hrel
    by_cases hlt : k < s.size
    · go_wp2_with (first | (go_at_call 140; go_must (refine (isLetter_any _ _).mono ?_); rintro e w' ⟨rfl, rfl⟩))
      · go_ret
        exact ⟨ret_bool (by have := all_bad hlt (letOk_bad ‹_›); simp [wordOk, this]), rfl⟩
      · have h1 := letOk_good (c := s[k]) ‹_›
        go_round
        case rel => exact ⟨k + 1, by omega, by go_num, all_step hlt H.out h1⟩
        case measure => simp [intOf]; omega
    · go_wp2
      go_ret
      exact ⟨ret_bool (by have := all_end (by omega) H.out; simp [wordOk, this]), rfl⟩

set_option maxHeartbeats 1000000 in
theorem l02Rule_any (b o : Nat) (r : GRule) (i : Nat) (w : World) (h0 : w.cell? ⟨b, o, none⟩ = some (.string r.letter)) (h1 : w.cell? ⟨b, o + 1, none⟩ = some (.int .i64 r.left)) (h2 : w.cell? ⟨b, o + 2, none⟩ = some (.int .i64 r.right)) (hi : i ≤ 1099511627776) (hs : r.letter.size ≤ maxLen) :
    Calls Tryz.prog 195 #[.pointer (some ⟨b, o, none⟩), .int .i64 i] w fun e w' => e = .returned (.bool (okRule i r)) ∧ w = w' := by
  have Hs := Lib.hid hs
  clear hs
  go_enter Tryz.func195, Tryz.ntmps195
  go_wp2_with (first
    | (go_at_call 49; go_must (refine (l01Ok_any _ _ Hs.out).mono ?_); rintro e w' ⟨rfl, rfl⟩)
    | (go_at_call 93; go_must (refine (l00In_any _ _ _ _).mono ?_); rintro e w' ⟨rfl, rfl⟩))
  · have e : okRule i r = (r.right == 0) := by
      rw [okl_eq ‹_›, ← wordOk_one (by omega), ‹wordOk r.letter = true›, ‹r.left = 0›]; simp
    go_ret
    exact ⟨ret_bool e.symm, rfl⟩
  · have e : okRule i r = false := by
      rw [okl_eq ‹_›]; simp [‹¬ r.left = 0›]
    go_ret
    exact ⟨ret_bool e.symm, rfl⟩
  · have e : okRule i r = false := by
      rw [okl_eq ‹_›, ← wordOk_one (by omega)]; simp [‹¬ wordOk r.letter = true›]
    go_ret
    exact ⟨ret_bool e.symm, rfl⟩
  · have e : okRule i r = false := by
      rw [okl_eq ‹_›, isLet_not ‹_›]; simp
    go_ret
    exact ⟨ret_bool e.symm, rfl⟩
  · have h : 0 ≤ r.left ∧ r.left ≤ (i : Int) - 1 := by assumption
    have e : okRule i r = (decide (0 ≤ r.right) && decide (r.right ≤ (i : Int) - 1)) := by
      rw [okp_eq ‹_›]; simp [h.1, h.2]
    go_ret
    exact ⟨ret_bool e.symm, rfl⟩
  · have h : ¬ (0 ≤ r.left ∧ r.left ≤ (i : Int) - 1) := by assumption
    have e : okRule i r = false := by
      rw [okp_eq ‹_›, Bool.and_eq_false_iff, Bool.and_eq_false_iff, Bool.and_eq_false_iff]; simp; omega
    go_ret
    exact ⟨ret_bool e.symm, rfl⟩

end Go.Proofs.YtagpjommhoedlaaGreatDoor

namespace Go.Proofs.YtagpjommhoedlaaGreatDoor
open Go.RowKit

def SizesPost (rs : List GRule) (w : World) (e : Ending) (w' : World) : Prop :=
  Below w.heap.size w w' ∧ ((∃ ls v, lens rs = some ls ∧ e = .returned (.tuple #[v, .bool true]) ∧ OwnInts w' w.heap.size v ls) ∨
    (lens rs = none ∧ ∃ v ls, e = .returned (.tuple #[v, .bool false]) ∧ OwnInts w' w.heap.size v ls))

set_option maxRecDepth 100000 in
theorem l02Sizes_any (b o : Nat) (v : Value) (rs : List GRule) (w : World) (hp : w.cell? ⟨b, o, none⟩ = some v) (hbl : b < w.heap.size) (h : Sl RuleE w w.heap.size v rs) (hsm : SmallL rs) (hn : rs.length ≤ 1099511627776) :
    Calls Tryz.prog 139 #[.pointer (some ⟨b, o, none⟩)] w (SizesPost rs w) := by
  obtain ⟨A, c, rfl, hc, hm, hrow⟩ := h
  clear hm
  go_enter Tryz.func139, Tryz.ntmps139
  go_wp2_with fail
  go_loopw [4, 5] (fun out i wr => ∃ (k : Nat) (vals : List Int), k ≤ rs.length ∧ i = .int .i64 k ∧ lens (rs.take k) = some vals ∧ Below w.heap.size w wr ∧ OwnInts wr w.heap.size out vals) (fun _ i _ => rs.length - (intOf i).toNat)
  case atStart => exact ⟨0, [], Nat.zero_le _, rfl, by simp [lens], (Below.refl _ _).alloc (Nat.le_refl _) _, OwnInts.empty rfl (Nat.le_refl _)⟩
  case round =>
    obtain ⟨k, vals, hk, rfl, hlen, hB, hown⟩ := hrel
    have hpp : wr.cell? ⟨b, o, none⟩ = some (Value.slice A rs.length c) := (hB.cell hbl).trans hp
    by_cases hlt : k < rs.length
    · have hvk : vals.length = k := by have := lens_length hlen; rw [List.length_take] at this; omega
      obtain ⟨b1, o1, rfl, hbl1, hcell⟩ := hrow.rule hlt
      obtain ⟨r, hrk⟩ : ∃ x, rs[k]? = some x := ⟨_, List.getElem?_eq_getElem hlt⟩
      obtain ⟨g0, g1, g2⟩ := hcell k r hrk
      have hc0 := (hB.cell (p := ⟨b1, o1 + k * 3, none⟩) hbl1).trans g0
      have hc1 := (hB.cell (p := ⟨b1, o1 + k * 3 + 1, none⟩) hbl1).trans g1
      have hc2 := (hB.cell (p := ⟨b1, o1 + k * 3 + 2, none⟩) hbl1).trans g2
      have hsr := hsm r (List.mem_of_getElem? hrk)
      have hsz : w.heap.size ≤ wr.heap.size := hB.size
      have hv1 : vals.length ≤ 1099511627776 := by omega
      have Hr := Lib.hid hrk
      have Hlen := Lib.hid hlen
      have Hvk := Lib.hid hvk
      have Hown := Lib.hid hown
      clear hrk hlen hvk hcell g0 g1 g2 hown
      go_wp2_with (first
        | (go_at_call 195; go_must (refine (l02Rule_any _ _ r k _ hc0 hc1 hc2 (by omega) (by unfold maxLen; omega)).mono ?_); rintro e w2 ⟨rfl, rfl⟩)
        | (at_builtin; go_must (refine push_ints rfl _ _ rfl rfl rfl (by simp) (by repeat (first | exact Hown.out | apply OwnInts.alloc | apply OwnInts.drewN | apply OwnRules.alloc | apply OwnRules.drewN)) (by omega) (by first | omega | (simp; omega)) ?_); intro v' w1 hown1 hgrow hbw))
      · have hok : okRule k r = false := by simpa using ‹(!okRule k r) = true›
        go_ret2
        exact ⟨hB, .inr ⟨lens_bad Hlen.out Hr.out (lensStep_none (by rw [Hvk.out]; exact hok)), _, vals, rfl, Hown.out⟩⟩
      · have hok : okRule k r = true := by simpa using ‹(!okRule k r) = false›
        have hpr : r.pair = true := by have h := ‹r.letter.toList.isEmpty = true›; rw [isEmpty_size] at h; exact h
        have hbd : 0 ≤ r.left ∧ r.left ≤ (k : Int) - 1 ∧ 0 ≤ r.right ∧ r.right ≤ (k : Int) - 1 := by
          simp [okRule, hpr] at hok; omega
        have hvk := Hvk.out
        obtain ⟨g, cap, rfl, hgb, hgl, hcap, hgc⟩ := OwnInts.at_ Hown.out (j := 0) (by omega)
        have hx1 := hgc r.left.toNat (by omega)
        have hx2 := hgc r.right.toNat (by omega)
        have hi1 : r.left < (vals.length : Int) := by omega
        have hi2 : r.right < (vals.length : Int) := by omega
        obtain ⟨hj1, _, hj2, _⟩ := hbd
        have hpos := lens_pos Hlen.out
        have hb1 : 1 ≤ vals.getD r.left.toNat 0 ∧ vals.getD r.left.toNat 0 ≤ 1000000000000000 := by
          rw [List.getD_eq_getElem?_getD, List.getElem?_eq_getElem (by omega)]; exact hpos _ (List.getElem_mem _)
        have hb2 : 1 ≤ vals.getD r.right.toNat 0 ∧ vals.getD r.right.toNat 0 ≤ 1000000000000000 := by
          rw [List.getD_eq_getElem?_getD, List.getElem?_eq_getElem (by omega)]; exact hpos _ (List.getElem_mem _)
        have hrl : ruleLen vals r = vals.getD r.left.toNat 0 + vals.getD r.right.toNat 0 := by simp [ruleLen, hpr]
        generalize vals.getD r.left.toNat 0 = x at *
        generalize vals.getD r.right.toNat 0 = y at *
        have hwr : IntKind.i64.wrap (x + y) = x + y := IntWalk.i64_in _ (by omega)
        have Hrl := Lib.hid hrl
        have Hok := Lib.hid hok
        clear hgc hvk hpos hrl hok hpr
        go_quiet (fail)
        clear hwr
        go_wp2_with (at_builtin; go_must (refine push_ints rfl _ _ rfl rfl rfl (by simp) (by repeat (first | exact Hown.out | apply OwnInts.alloc | apply OwnInts.drewN | apply OwnRules.alloc | apply OwnRules.drewN)) (by omega) (by first | omega | (simp; omega)) ?_); intro v' w1 hown1 hgrow hbw)
        · go_ret2
          exact ⟨(by repeat (first | exact hB | (refine Below.alloc ?_ (by first | omega | (simp; done) | (simp; omega)) _) | refine below_drewN ?_ _ | refine Below.drew ?_)), .inr ⟨lens_bad Hlen.out Hr.out (lensStep_big (by rw [Hrl.out]; unfold maxL; omega)), _, vals, rfl, (by repeat (first | exact Hown.out | apply OwnInts.alloc | apply OwnInts.drewN | apply OwnRules.alloc | apply OwnRules.drewN))⟩⟩
        · go_roundw
          case rel => exact ⟨k + 1, vals ++ [x + y], by omega, by go_num, by have := lens_next Hlen.out Hr.out (by rw [Hvk.out]; exact Hok.out) (by rw [Hrl.out]; unfold maxL; omega); rw [Hrl.out] at this; exact this, (below_drewN hB _).trans hbw, hown1⟩
          case measure => simp [intOf]; omega
      · have hok : okRule k r = true := by simpa using ‹(!okRule k r) = false›
        have hpr : r.pair = false := by have h := ‹r.letter.toList.isEmpty = false›; rw [isEmpty_size] at h; exact h
        have hrl : ruleLen vals r = 1 := by simp [ruleLen, hpr]
        go_roundw
        case rel => exact ⟨k + 1, vals ++ [1], by omega, by go_num, by have := lens_next Hlen.out Hr.out (by rw [Hvk.out]; exact hok) (by rw [hrl]; unfold maxL; omega); rw [hrl] at this; exact this, hB.trans hbw, hown1⟩
        case measure => simp [intOf]; omega
    · have hkn : k = rs.length := by omega
      have hfin : lens rs = some vals := by rw [← hlen, List.take_of_length_le (by omega)]
      have Hfin := Lib.hid hfin
      have Hown := Lib.hid hown
      subst hkn
      clear hlen hfin hown
      go_wp2_with fail
      go_ret2
      exact ⟨hB, .inl ⟨vals, _, Hfin.out, rfl, Hown.out⟩⟩

def LengthsPost (rs : List GRule) (w : World) (e : Ending) (w' : World) : Prop :=
  Below w.heap.size w w' ∧ ∃ v ls, e = .returned (.tuple #[v, .bool (decide (rs.length ≤ 400) && (lens rs).isSome)]) ∧ OwnInts w' w.heap.size v ls ∧ (rs.length ≤ 400 → ∀ l, lens rs = some l → ls = l)

theorem l02Lengths_any (b o : Nat) (v : Value) (rs : List GRule) (w : World) (hp : w.cell? ⟨b, o, none⟩ = some v) (hbl : b < w.heap.size) (h : Sl RuleE w w.heap.size v rs) (hsm : SmallL rs) :
    Calls Tryz.prog 123 #[.pointer (some ⟨b, o, none⟩)] w (LengthsPost rs w) := by
  have h' := h
  obtain ⟨A, c, rfl, hc, hm, hrow⟩ := h'
  have Hsl := Lib.hid h
  clear h hm hrow
  by_cases hn : rs.length ≤ 400
  · go_enter Tryz.func123, Tryz.ntmps123
    go_wp2_with fail
    refine (l02Sizes_any _ _ _ _ _ hp hbl Hsl.out hsm (by omega)).mono ?_
    rintro e w1 ⟨hb, (⟨ls, v1, h1, rfl, h2⟩ | ⟨h1, v1, ls, rfl, h2⟩)⟩
    · have H1 := Lib.hid h1
      have H2 := Lib.hid h2
      clear h1 h2
      go_wp2
      go_ret2
      exact ⟨hb, _, ls, by simp [H1.out, hn], H2.out, fun _ l hl => by rw [H1.out] at hl; injection hl⟩
    · have H1 := Lib.hid h1
      have H2 := Lib.hid h2
      clear h1 h2
      go_wp2
      go_ret2
      exact ⟨hb, _, ls, by simp [H1.out], H2.out, fun _ l hl => by rw [H1.out] at hl; cases hl⟩
  · go_enter Tryz.func123, Tryz.ntmps123
    go_wp2
    go_ret2
    exact ⟨(Below.refl _ _).alloc (Nat.le_refl _) _, _, [], by simp [hn], OwnInts.empty rfl (Nat.le_refl _), fun h => absurd h hn⟩

def gramOk (rs : List GRule) : Bool := decide (rs.length ≤ 400) && (lens rs).isSome

theorem l02Ok_any (b o : Nat) (v : Value) (rs : List GRule) (w : World) (hp : w.cell? ⟨b, o, none⟩ = some v) (hbl : b < w.heap.size) (h : Sl RuleE w w.heap.size v rs) (hsm : SmallL rs) :
    Calls Tryz.prog 63 #[.pointer (some ⟨b, o, none⟩)] w fun e w' => e = .returned (.bool (gramOk rs)) ∧ Below w.heap.size w w' := by
  have Hsl := Lib.hid h
  clear h
  go_enter Tryz.func63, Tryz.ntmps63
  go_wp2_with fail
  refine (l02Lengths_any _ _ _ _ _ hp hbl Hsl.out hsm).mono ?_
  rintro e w1 ⟨hb, v1, ls, rfl, h2, h3⟩
  clear h2 h3
  go_wp2
  go_ret
  exact ⟨rfl, hb⟩

theorem ValidGrammar_any (v : Value) (rs : List GRule) (w : World) (h : Sl RuleE w w.heap.size v rs) (hn : rs.length ≤ 1099511627776) :
    Calls Tryz.prog 82 #[.agg #[v]] w fun e w' => e = .returned (.bool (gramOk rs)) ∧ Below w.heap.size w w' := by
  have h1 := fun o => (h.below ((Below.refl w.heap.size w).alloc (Nat.le_refl _) o)).le (B' := (w.alloc o).heap.size) (by simp)
  have H1 := Lib.hid h1
  clear h1 h
  go_enter Tryz.func82, Tryz.ntmps82
  go_wp2_with fail
  refine (lengths_any _ _ _ (H1.out _) hn).mono ?_
  rintro e w1 ⟨hb, (⟨ls, v1, h1, rfl, h2⟩ | ⟨h1, rfl⟩)⟩
  · have e1 : gramOk rs = decide (rs.length ≤ 400) := by simp [gramOk, h1]
    have E1 := Lib.hid e1
    clear h1 h2 e1
    go_wp2
    go_ret
    exact ⟨ret_bool (by rw [E1.out]), ((Below.refl _ _).alloc (Nat.le_refl _) _).trans (hb.mono (by simp))⟩
  · have e1 : gramOk rs = false := by simp [gramOk, h1]
    have E1 := Lib.hid e1
    clear h1 e1
    go_wp2
    go_ret
    exact ⟨ret_bool (by rw [E1.out]), ((Below.refl _ _).alloc (Nat.le_refl _) _).trans (hb.mono (by simp))⟩
end Go.Proofs.YtagpjommhoedlaaGreatDoor

namespace Go.Proofs.YtagpjommhoedlaaGreatDoor
open Go.RowKit

/-- The cells of a row, one element behind the other. -/
theorem row_cells {α : Type} {E : Enc α} {w : World} {S : Nat → Prop} {a : Addr} {xs : List α} (h : Row E w S (some a) xs) (cs : List Value) (hcs : cs.length = xs.length * E.size)
    (hc : ∀ k x us, xs[k]? = some x → E.cells w S x us → ∀ j u, us[j]? = some u → cs[k * E.size + j]? = some u) : ∀ j u, cs[j]? = some u → w.cell? (a.add j) = some u := by
  intro j u hu
  have hj : j < xs.length * E.size := by rw [← hcs]; exact (List.getElem?_eq_some_iff.1 hu).1
  have hpos : 0 < xs.length := by
    rcases Nat.eq_zero_or_pos xs.length with h0 | h0
    · rw [h0, Nat.zero_mul] at hj; omega
    · exact h0
  obtain ⟨b, o, he, hs, hr⟩ := h hpos
  injection he with he
  subst he
  have hk : j / E.size < xs.length := (Nat.div_lt_iff_lt_mul E.pos).2 hj
  obtain ⟨us, h1, h2⟩ := hr (j / E.size) xs[j / E.size] (List.getElem?_eq_getElem hk)
  have hm : j % E.size < us.length := by rw [E.len h1]; exact Nat.mod_lt _ E.pos
  have h3 := h2 (j % E.size) us[j % E.size] (List.getElem?_eq_getElem hm)
  have h4 := hc _ _ _ (List.getElem?_eq_getElem hk) h1 (j % E.size) us[j % E.size] (List.getElem?_eq_getElem hm)
  rw [Nat.mul_comm, Nat.div_add_mod] at h3 h4
  rw [h4] at hu
  injection hu with hu
  subst hu
  have : (⟨b, o, none⟩ : Addr).add j = ⟨b, o + j, none⟩ := by unfold Addr.add; split <;> simp_all
  rw [this]; exact h3

theorem cells_len (xs : List GRule) : (xs.flatMap GRule.cells).length = xs.length * 3 := by
  induction xs with
  | nil => rfl
  | cons x xs ih =>
    rw [List.flatMap_cons, List.length_append, ih, List.length_cons]
    show 3 + _ = _
    omega
theorem rules_cells {w : World} {S : Nat → Prop} {a : Addr} {xs : List GRule} (h : Row RuleE w S (some a) xs) : ∀ j u, (xs.flatMap GRule.cells)[j]? = some u → w.cell? (a.add j) = some u := by
  refine row_cells h _ (cells_len xs) ?_
  · intro k x us hk hus j u hu
    obtain ⟨c0, c1, c2⟩ := cells3 xs k x hk
    have e : us = x.cells := hus
    subst e
    match j, hu with
    | 0, hu => simp [GRule.cells] at hu; subst hu; simpa [RuleE] using c0
    | 1, hu => simp [GRule.cells] at hu; subst hu; simpa [RuleE] using c1
    | 2, hu => simp [GRule.cells] at hu; subst hu; simpa [RuleE] using c2
    | j + 3, hu => simp [GRule.cells] at hu
theorem rules_one (xs : List GRule) : ∀ u ∈ xs.flatMap GRule.cells, u.oneCell' = true := by
  intro u hu
  rw [List.mem_flatMap] at hu
  obtain ⟨x, _, hx⟩ := hu
  simp [GRule.cells] at hx
  rcases hx with rfl | rfl | rfl <;> rfl

theorem run_append_of_nil {P : Program} (w : World) (base : Nat) (t ty e : TypeId) (i : TypeInfo) (size : Nat) (ht : P.underlying t = some (.slice e)) (hi : P.info? e = some i)
    (v : Value) (n : Nat) (xs : List Value) (hown : w.ownsRow base e size v n xs) (c : Nat) : (Builtin.append_ #[t, t] ty #[v, .slice none 0 c]).run P w = .ok v w := by
  rcases hown.2 with ⟨rfl, rfl⟩ | ⟨g, cap, cur, rfl, _, _, hnc, _⟩
  · simp [Builtin.append_, run_underlying ht, sizeOf, typeInfo, hi, Builtin.lenOf, Builtin.firstCells]
  · simp [Builtin.append_, run_underlying ht, sizeOf, typeInfo, hi, Builtin.lenOf, Builtin.firstCells, hnc, storeCells]

end Go.Proofs.YtagpjommhoedlaaGreatDoor

namespace Go.Proofs.YtagpjommhoedlaaGreatDoor
open Go.RowKit

def dig1 (j : Nat) : ByteArray := ⟨#[UInt8.ofNat (48 + j % 10)]⟩
theorem dig1_size (j : Nat) : (dig1 j).size = 1 := rfl
def digs : Nat → Nat → ByteArray → ByteArray
  | 0, _, acc => acc
  | f + 1, k, acc => if k = 0 then acc else digs f (k / 10) (dig1 k ++ acc)
def mtext (k : Nat) : ByteArray := if k = 0 then ⟨#[109, 48]⟩ else ⟨#[109]⟩ ++ digs k k ⟨#[]⟩

theorem conv1 (W : World) (j : Nat) : (convert 32 9 (.slice (some ⟨W.heap.size, 0, none⟩) 1 1)).run Tryz.prog (W.alloc (.cells #[.int .u8 (48 + (j : Int) % 10)] 5)) = .ok (.string (dig1 j)) (W.alloc (.cells #[.int .u8 (48 + (j : Int) % 10)] 5)) := by
  rw [run_convert_bytes_arg (W.alloc (.cells #[.int .u8 (48 + (j : Int) % 10)] 5)) 32 5 Tryz.underlying32 Tryz.underlying5 W.heap.size 0 1 1 [48 + (j : Int) % 10] rfl
    (fun i hi => by
      have : i = 0 := by omega
      subst this
      simp [go_sem]) 9 Tryz.underlying9]
  have : strOfNums [48 + (j : Int) % 10] = dig1 j := by
    simp only [strOfNums, dig1, List.map_cons, List.map_nil]
    rw [show (48 + (j : Int) % 10).toNat = 48 + j % 10 by omega]
  rw [this]
theorem digs_zero (f : Nat) (acc : ByteArray) : digs f 0 acc = acc := by cases f <;> simp [digs]
set_option maxRecDepth 100000 in
theorem markText_any (k : Nat) (w : World) (hk : k ≤ 8796093022208) :
    Calls Tryz.prog 182 #[.int .i64 k] w fun e w' => e = .returned (.string (mtext k)) ∧ Below w.heap.size w w' := by
  by_cases h0 : k = 0
  · subst h0
    go_enter Tryz.func182, Tryz.ntmps182
    go_wp2
    go_ret
    exact ⟨rfl, Below.refl _ _⟩
  · go_enter Tryz.func182, Tryz.ntmps182
    go_wp2_with fail
    go_loopw [0, 3] (fun q out wr => ∃ (f j : Nat) (acc : ByteArray), j ≤ f ∧ j ≤ k ∧ q = .int .i64 j ∧ out = .string acc ∧ acc.size + f ≤ k ∧ Below w.heap.size w wr ∧ Hid (digs f j acc = digs k k ⟨#[]⟩)) (fun q _ _ => (intOf q).toNat)
    case atStart => exact ⟨k, k, _, Nat.le_refl _, Nat.le_refl _, rfl, rfl, by simp [ByteArray.size], Below.refl _ _, rfl⟩
    case round =>
      obtain ⟨f, j, acc, hj, hjk, rfl, rfl, hsz, hb, H⟩ := hrel
      by_cases hz : 0 < j
      · have hr : 0 ≤ (j : Int) % 10 ∧ (j : Int) % 10 ≤ 9 := by omega
        have hcv := conv1 wr j
        have hds := dig1_size j
        obtain ⟨f', rfl⟩ : ∃ f', f = f' + 1 := ⟨f - 1, by omega⟩
        go_wp2
        go_roundw
        case rel => exact ⟨f', j / 10, _, by omega, by omega, by go_num, rfl, by rw [ByteArray.size_append, dig1_size]; omega, hb.alloc hb.size _, by have := H.out; rw [digs, if_neg (by omega)] at this; exact this⟩
        case measure => simp [intOf]; omega
      · have hj0 : j = 0 := by omega
        subst hj0
        go_wp2
        go_ret
        exact ⟨by rw [mtext, if_neg h0, ← H.out, digs_zero]; rfl, hb⟩

theorem markText_int (m : Nat) (q : Int) (w : World) (hq : q = m) (hk : m ≤ 8796093022208) :
    Calls Tryz.prog 182 #[.int .i64 q] w fun e w' => e = .returned (.string (mtext m)) ∧ Below w.heap.size w w' := by
  subst hq
  exact markText_any m w hk

def mark1 (k i : Nat) : GRule := { letter := mtext (k + 3 * i), left := (k + 3 * i + 1 : Nat), right := (k + 3 * i + 2 : Nat) }
def marks (k n : Nat) : List GRule := (List.range n).map (mark1 k)
theorem marks_length (k n : Nat) : (marks k n).length = n := by simp [marks]
theorem marks_at (k n i : Nat) (h : i < n) : (marks k n)[i]? = some (mark1 k i) := by simp [marks, h]

theorem grown_below {a b c : World} {row : Option Nat} (h : a.grownBy b row) (k : Below b.heap.size b c) : a.grownBy c row :=
  ⟨k.os.trans h.os, k.tape.trans h.tape, k.output.trans h.output, Nat.le_trans h.size k.size, fun i hi hne => (k.block i (Nat.lt_of_lt_of_le hi h.size)).trans (h.block i hi hne)⟩

theorem mark_step {xs : List GRule} {k n : Nat} (h : n < xs.length) : ((marks k n) ++ xs.drop n).set n (mark1 k n) = marks k (n + 1) ++ xs.drop (n + 1) := by
  rw [List.set_append, if_neg (by rw [marks_length]; omega), marks_length, Nat.sub_self, List.drop_eq_getElem_cons h, List.set_cons_zero]
  simp [marks, List.range_succ]

set_option maxRecDepth 100000 in
theorem markRuleS_any (base : Nat) (v : Value) (xs : List GRule) (k : Nat) (w : World) (h : OwnRules w base v xs) (hn : xs.length ≤ 1099511627776) (hk : k ≤ 1099511627776) :
    Calls Tryz.prog 117 #[v, .int .i64 k] w fun e w' => e = .returned (.int .i64 ((k + 3 * xs.length : Nat) : Int)) ∧ OwnRules w' base v (marks k xs.length) ∧ w.grownBy w' v.ownBlock := by
  rcases Nat.eq_zero_or_pos xs.length with h0 | h0
  · have hx : xs = [] := List.eq_nil_of_length_eq_zero h0
    subst hx
    have Hown := Lib.hid h
    obtain ⟨A, cap, rfl, _⟩ := own_nil h
    clear h
    go_enter Tryz.func117, Tryz.ntmps117
    go_wp2_with fail
    go_loopw [1, 5] (fun q i wr => q = .int .i64 k ∧ i = .int .i64 0 ∧ wr = w) (fun _ _ _ => 0)
    case atStart => exact ⟨rfl, rfl, rfl⟩
    case round =>
      obtain ⟨rfl, rfl, rfl⟩ := hrel
      go_wp2
      go_ret
      exact ⟨by simp, by simpa [marks] using Hown.out, World.grownBy.refl _ _⟩
  · obtain ⟨g, cap, rfl, hgb, hgl, hcap, _⟩ := own_form h h0
    have Hown := Lib.hid h
    clear h hcap
    go_enter Tryz.func117, Tryz.ntmps117
    go_wp2_with fail
    go_loopw [1, 5] (fun q i wr => ∃ n : Nat, n ≤ xs.length ∧ q = .int .i64 ((k + 3 * n : Nat) : Int) ∧ i = .int .i64 n ∧ w.grownBy wr (some g) ∧
      wr.ownsRow base 148 3 (.slice (some ⟨g, 0, none⟩) xs.length cap) xs.length ((marks k n ++ xs.drop n).flatMap GRule.cells)) (fun _ i _ => xs.length - (intOf i).toNat)
    case atStart => exact ⟨0, Nat.zero_le _, rfl, rfl, World.grownBy.refl _ _, by have := Hown.out; unfold OwnRules at this; simpa [marks] using this⟩
    case round =>
      obtain ⟨n, hnl, rfl, rfl, hgr, hown⟩ := hrel
      by_cases hlt : n < xs.length
      · have Hown := Lib.hid hown
        clear hown
        go_wp2_with fail
        refine (markText_int (k + 3 * n) _ _ (by omega) (by omega)).mono ?_
        rintro e w2 ⟨rfl, hb2⟩
        have hown2 := ownsRow_below Hown.out hb2
        have hlen : (marks k n ++ xs.drop n).length = xs.length := by simp [marks_length]; omega
        obtain ⟨u0, hu0⟩ : ∃ u, w2.cell? ⟨g, n * 3, none⟩ = some u :=
          ⟨_, (hown2.cellAt (n * 3) (by omega)).trans (List.getElem?_eq_getElem (by rw [hown2.1]; omega))⟩
        obtain ⟨u1, hu1⟩ : ∃ u, w2.cell? ⟨g, n * 3 + 1, none⟩ = some u :=
          ⟨_, (hown2.cellAt (n * 3 + 1) (by omega)).trans (List.getElem?_eq_getElem (by rw [hown2.1]; omega))⟩
        obtain ⟨u2, hu2⟩ : ∃ u, w2.cell? ⟨g, n * 3 + 2, none⟩ = some u :=
          ⟨_, (hown2.cellAt (n * 3 + 2) (by omega)).trans (List.getElem?_eq_getElem (by rw [hown2.1]; omega))⟩
        have hf0 := hown2.frozenAt (n * 3)
        have hf1 := hown2.frozenAt (n * 3 + 1)
        have hf2 := hown2.frozenAt (n * 3 + 2)
        have hst := OwnRules.stored3 hown2 n (mark1 k n) (by omega)
        rw [mark_step hlt] at hst
        have Hst := Lib.hid hst
        have Hgr := Lib.hid (grown_below hgr hb2)
        clear hown2 hst hlen hb2 hgr
        go_wp2
        have e1 : (mark1 k n).left = (k : Int) + 3 * n + 1 := by simp [mark1]
        have e2 : (mark1 k n).right = (k : Int) + 3 * n + 1 + 1 := by simp [mark1, Int.add_assoc]
        have hst := Hst.out
        rw [e1, e2] at hst
        go_roundw
        case rel => exact ⟨n + 1, by omega, by congr 1 <;> omega, by go_num, grown_trans Hgr.out hst.2, hst.1⟩
        case measure => simp [intOf]; omega
      · have hkn : n = xs.length := by omega
        subst hkn
        have Hown := Lib.hid hown
        clear hown
        go_wp2
        go_ret
        exact ⟨rfl, by have := Hown.out; rw [List.drop_length, List.append_nil] at this; unfold OwnRules; rw [marks_length]; exact this, hgr⟩

theorem keepB {wr W W2 : World} {p : Addr} {v : Value} (h : Below wr.heap.size wr W ∧ W.cell? p = some v) (h2 : Below W.heap.size W W2) (hp : p.block < wr.heap.size) : Below wr.heap.size wr W2 ∧ W2.cell? p = some v :=
  ⟨h.1.trans (h2.mono h.1.size), (h2.cell (Nat.lt_of_lt_of_le hp h.1.size)).trans h.2⟩
set_option maxRecDepth 100000 in
theorem heldRuleS_any (v : Value) (k m : Nat) (w : World) (h : Sl RuleE w w.heap.size v (marks k m)) (hn : m ≤ 1099511627776) (hk : k ≤ 1099511627776) :
    Calls Tryz.prog 118 #[v, .int .i64 k] w fun e w' => e = .returned (.int .i64 ((k + 3 * m : Nat) : Int)) ∧ Below w.heap.size w w' := by
  obtain ⟨A, c, rfl, hc, hm, hrow⟩ := h
  rw [marks_length] at hc
  rw [marks_length]
  clear hm
  go_enter Tryz.func118, Tryz.ntmps118
  go_wp2_with fail
  go_loopw [1, 5] (fun q i wr => ∃ n : Nat, n ≤ m ∧ q = .int .i64 ((k + 3 * n : Nat) : Int) ∧ i = .int .i64 n ∧ Below w.heap.size w wr) (fun _ i _ => m - (intOf i).toNat)
  case atStart => exact ⟨0, Nat.zero_le _, rfl, rfl, Below.refl _ _⟩
  case round =>
    obtain ⟨n, hnl, rfl, rfl, hb⟩ := hrel
    by_cases hlt : n < m
    · obtain ⟨b, o, rfl, hbl, hcell⟩ := hrow.rule (k := n) (by rw [marks_length]; exact hlt)
      obtain ⟨g0, g1, g2⟩ := hcell n _ (marks_at k m n hlt)
      have hc0 : wr.cell? ⟨b, o + n * 3, none⟩ = some (.string (mtext (k + 3 * n))) := (hb.cell (p := ⟨b, o + n * 3, none⟩) hbl).trans g0
      have hc1 : wr.cell? ⟨b, o + n * 3 + 1, none⟩ = some (.int .i64 ((k : Int) + 3 * n + 1)) := (hb.cell (p := ⟨b, o + n * 3 + 1, none⟩) hbl).trans g1
      have hc2 : wr.cell? ⟨b, o + n * 3 + 2, none⟩ = some (.int .i64 ((k : Int) + 3 * n + 1 + 1)) := (hb.cell (p := ⟨b, o + n * 3 + 2, none⟩) hbl).trans (g2.trans (by simp [mark1, Int.add_assoc]))
      have hsz : w.heap.size ≤ wr.heap.size := hb.size
      have hi : (n : Int) < (m : Int) := by omega
      clear hcell g0 g1 g2 hrow
      have hbw : b < wr.heap.size := by omega
      go_wp2_with fail
      go_region_held3 (fun w' => Below wr.heap.size wr w' ∧ w'.cell? ⟨b, o + n * 3, none⟩ = some (.string (mtext (k + 3 * n)))) (first | exact ⟨(Below.refl _ _).drew, hc0⟩ | (exact keepB (by assumption) hb2 hbw))
        (first | (go_at_call 182; refine (markText_int (k + 3 * n) _ _ (by omega) (by omega)).mono ?_; rintro e w2 ⟨rfl, hb2⟩))
      have hbz : Below wr.heap.size wr w2 := ((Below.refl _ _).drew).trans hb2
      have hd1 := (hbz.cell (p := ⟨b, o + n * 3 + 1, none⟩) hbw).trans hc1
      have hd2 := (hbz.cell (p := ⟨b, o + n * 3 + 2, none⟩) hbw).trans hc2
      go_wp2
      go_roundw
      case rel => exact ⟨n + 1, by omega, by congr 1 <;> omega, by go_num, hb.trans (hbz.mono hsz)⟩
      case measure => simp [intOf]; omega
    · have hkn : n = m := by omega
      subst hkn
      go_wp2
      go_ret
      exact ⟨rfl, hb⟩

theorem markGrammar_any (base : Nat) (v : Value) (xs : List GRule) (k : Nat) (w : World) (h : OwnRules w base v xs) (hn : xs.length ≤ 1099511627776) (hk : k ≤ 1099511627776) :
    Calls Tryz.prog 57 #[.agg #[v], .int .i64 k] w fun e w' => e = .returned (.int .i64 ((k + 3 * xs.length : Nat) : Int)) ∧ OwnRules w' base v (marks k xs.length) ∧ w.grownBy w' v.ownBlock := by
  have h1 := fun o => h.alloc o
  have H1 := Lib.hid h1
  have hgr : ∀ o, w.grownBy (w.alloc o) v.ownBlock := fun o => World.grownBy_alloc w o _
  have Hgr := Lib.hid hgr
  obtain ⟨A, cap, rfl, _⟩ := own_nil h
  clear h h1 hgr
  go_enter Tryz.func57, Tryz.ntmps57
  go_wp2_with fail
  refine (markRuleS_any base _ xs k _ (H1.out _) hn hk).mono ?_
  rintro e w1 ⟨rfl, h2, h3⟩
  have H2 := Lib.hid h2
  have H3 := Lib.hid h3
  clear h2 h3
  go_wp2
  go_ret
  refine ⟨by simp, H2.out, ?_⟩
  have h3 := H3.out
  have h4 := Hgr.out (Obj.cells #[Value.slice A xs.length cap] 24)
  exact ⟨h3.os.trans h4.os, h3.tape.trans h4.tape, h3.output.trans h4.output, Nat.le_trans h4.size h3.size, fun i hi hne => (h3.block i (Nat.lt_of_lt_of_le hi h4.size) hne).trans (h4.block i hi hne)⟩

theorem heldGrammar_any (v : Value) (k m : Nat) (w : World) (h : Sl RuleE w w.heap.size v (marks k m)) (hn : m ≤ 1099511627776) (hk : k ≤ 1099511627776) :
    Calls Tryz.prog 58 #[.agg #[v], .int .i64 k] w fun e w' => e = .returned (.int .i64 ((k + 3 * m : Nat) : Int)) ∧ Below w.heap.size w w' := by
  have h1 := fun o => (h.below ((Below.refl w.heap.size w).alloc (Nat.le_refl _) o)).le (B' := (w.alloc o).heap.size) (by simp)
  have H1 := Lib.hid h1
  obtain ⟨A, cap, rfl, _⟩ := h
  clear h1
  go_enter Tryz.func58, Tryz.ntmps58
  go_wp2_with fail
  refine (heldRuleS_any _ k m _ (H1.out _) hn hk).mono ?_
  rintro e w1 ⟨rfl, hb⟩
  go_wp2
  go_ret
  exact ⟨by simp, ((Below.refl _ _).alloc (Nat.le_refl _) _).trans (hb.mono (by simp))⟩
end Go.Proofs.YtagpjommhoedlaaGreatDoor

namespace Go.Proofs.YtagpjommhoedlaaGreatDoor
open Go.RowKit

theorem set2 (rs : List GRule) (k : Nat) (r : GRule) (a b : Int) (h : rs[k]? = some r) :
    ((rs.flatMap GRule.cells).set (k * 3 + 1) (.int .i64 a)).set (k * 3 + 2) (.int .i64 b) = (rs.set k { letter := r.letter, left := a, right := b }).flatMap GRule.cells := by
  have hk : k < rs.length := (List.getElem?_eq_some_iff.1 h).1
  rw [← set3 rs k { letter := r.letter, left := a, right := b } hk]
  have h0 := (cells3 rs k r h).1
  have e : (rs.flatMap GRule.cells).set (k * 3) (.string r.letter) = rs.flatMap GRule.cells := by
    apply List.ext_getElem?
    intro j
    rw [List.getElem?_set]
    split
    · rename_i hj; subst hj
      rw [h0]; split
      · rfl
      · rename_i hlt; rw [List.getElem?_eq_none (by omega)] at h0; cases h0
    · rfl
  rw [e]
end Go.Proofs.YtagpjommhoedlaaGreatDoor

namespace Go.Proofs.YtagpjommhoedlaaGreatDoor
open Go.RowKit

end Go.Proofs.YtagpjommhoedlaaGreatDoor

namespace Go.Proofs.YtagpjommhoedlaaGreatDoor
open Go.RowKit

theorem own_keep {w w' : World} {base e s : Nat} {v : Value} {n : Nat} {xs : List Value} (h : w.ownsRow base e s v n xs) (hk : ∀ g, v.ownBlock = some g → w'.heap[g]? = w.heap[g]?) : w'.ownsRow base e s v n xs := by
  refine ⟨h.1, ?_⟩
  rcases h.2 with hn | ⟨g, cap, cur, rfl, hb, hgg, rest⟩
  · exact .inl hn
  · exact .inr ⟨g, cap, cur, rfl, hb, by rw [hk g rfl]; exact hgg, rest⟩
theorem below_of_grown {w w' : World} {row : Option Nat} {N : Nat} (hg : w.grownBy w' row) (hN : N ≤ w.heap.size) (hr : ∀ g, row = some g → N ≤ g) : Below N w w' :=
  ⟨hg.os, hg.tape, hg.output, hg.size, fun k hk => hg.block k (by omega) (fun e => by have := hr k e.symm; omega)⟩

theorem heldGrammar1 (v : Value) (m : Nat) (w : World) (h : Sl RuleE w w.heap.size v (marks 1 m)) (hn : m ≤ 1099511627776) :
    Calls Tryz.prog 58 #[.agg #[v], .int .i64 1] w fun e w' => e = .returned (.int .i64 ((1 + 3 * m : Nat) : Int)) ∧ Below w.heap.size w w' :=
  heldGrammar_any v 1 m w h hn (by omega)
theorem OwnRules.below {w w' : World} {base : Nat} {v : Value} {l : List GRule} (h : OwnRules w base v l) (hb : Below w.heap.size w w') : OwnRules w' base v l := ownsRow_below h hb
theorem OwnRules.keep {w w' : World} {base : Nat} {v : Value} {l : List GRule} {row : Option Nat} (h : OwnRules w base v l) (hg : w.grownBy w' row) (hne : ∀ g, v.ownBlock = some g → some g ≠ row) : OwnRules w' base v l :=
  own_keep h fun g hgg => hg.block g (World.ownsRow.lt h g hgg).2 (hne g hgg)

theorem keepC {wr W W2 : World} {p q : Addr} {v u : Value} (h : Below wr.heap.size wr W ∧ W.cell? p = some v ∧ W.cell? q = some u) (h2 : Below W.heap.size W W2) (hp : p.block < wr.heap.size) (hq : q.block < wr.heap.size) :
    Below wr.heap.size wr W2 ∧ W2.cell? p = some v ∧ W2.cell? q = some u :=
  ⟨h.1.trans (h2.mono h.1.size), (h2.cell (Nat.lt_of_lt_of_le hp h.1.size)).trans h.2.1, (h2.cell (Nat.lt_of_lt_of_le hq h.1.size)).trans h.2.2⟩
end Go.Proofs.YtagpjommhoedlaaGreatDoor

namespace Go.Proofs.YtagpjommhoedlaaGreatDoor
open Go.RowKit

/-- The index of the first element for which p holds, or -1. -/
def idxOf {α : Type} (p : α → Bool) : List α → Int
  | [] => -1
  | x :: xs => if p x then 0 else if idxOf p xs < 0 then -1 else idxOf p xs + 1
end Go.Proofs.YtagpjommhoedlaaGreatDoor

namespace Go.Proofs.YtagpjommhoedlaaGreatDoor
open Go.RowKit

def inR (n a b : Int) : Bool := decide (a ≤ n) && decide (n ≤ b)
structure GAuto where
  states : Int
  start : Int
  finals : List Int
  next : List (List Int)
theorem l00In_yes (n a b : Int) (w : World) (h : inR n a b = true) : Calls Tryz.prog 93 #[.int .i64 n, .int .i64 a, .int .i64 b] w fun e w' => e = .returned (.bool true) ∧ w = w' :=
  (l00In_any n a b w).mono fun _ _ ⟨he, hw⟩ => ⟨by rw [he, ← h]; rfl, hw⟩
theorem l00In_no (n a b : Int) (w : World) (h : inR n a b = false) : Calls Tryz.prog 93 #[.int .i64 n, .int .i64 a, .int .i64 b] w fun e w' => e = .returned (.bool false) ∧ w = w' :=
  (l00In_any n a b w).mono fun _ _ ⟨he, hw⟩ => ⟨by rw [he, ← h]; rfl, hw⟩

end Go.Proofs.YtagpjommhoedlaaGreatDoor

