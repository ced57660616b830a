import Derived.Test.YtfapnipmgmpgaaaM1
import Derived.Shelf.Abstract
import Derived.StillTailTactics
namespace Go.Proofs.Ytfapnipmgmpgaaa
open Go.RowKit

theorem cell_up {w w' : World} {N b : Nat} {v : Value} (h : w.cell? ⟨b, 0, none⟩ = some v) (hb : Below N w w') (hlt : b < N) : w'.cell? ⟨b, 0, none⟩ = some v := (hb.cell (p := ⟨b, 0, none⟩) hlt).trans h
theorem own_keep {w w' : World} {base e s : Nat} {v : Value} {n : Nat} {xs : List Value} (h : w.ownsRow base e s v n xs) (hk : ∀ g, v.ownBlock = some g → w'.heap[g]? = w.heap[g]?) : w'.ownsRow base e s v n xs := by
  refine ⟨h.1, ?_⟩
  rcases h.2 with hn | ⟨g, cap, cur, rfl, hb, hgg, rest⟩
  · exact .inl hn
  · exact .inr ⟨g, cap, cur, rfl, hb, by rw [hk g rfl]; exact hgg, rest⟩
theorem below_of_grown {w w' : World} {row : Option Nat} {N : Nat} (hg : w.grownBy w' row) (hN : N ≤ w.heap.size) (hr : ∀ g, row = some g → N ≤ g) : Below N w w' :=
  ⟨hg.os, hg.tape, hg.output, hg.size, fun k hk => hg.block k (by omega) (fun e => by have := hr k e.symm; omega)⟩

theorem markGrammar1 (base : Nat) (v : Value) (xs : List GRule) (w : World) (h : OwnRules w base v xs) (hn : xs.length ≤ 1099511627776) :
    Calls Try.prog 26 #[.agg #[v], .int .i64 1] w fun e w' => e = .returned (.int .i64 ((1 + 3 * xs.length : Nat) : Int)) ∧ OwnRules w' base v (marks 1 xs.length) ∧ w.grownBy w' v.ownBlock :=
  markGrammar_any base v xs 1 w h hn (by omega)
theorem heldGrammar1 (v : Value) (m : Nat) (w : World) (h : Sl RuleE w w.heap.size v (marks 1 m)) (hn : m ≤ 1099511627776) :
    Calls Try.prog 27 #[.agg #[v], .int .i64 1] w fun e w' => e = .returned (.int .i64 ((1 + 3 * m : Nat) : Int)) ∧ Below w.heap.size w w' :=
  heldGrammar_any v 1 m w h hn (by omega)
theorem OwnRules.below {w w' : World} {base : Nat} {v : Value} {l : List GRule} (h : OwnRules w base v l) (hb : Below w.heap.size w w') : OwnRules w' base v l := ownsRow_below h hb
theorem OwnRules.keep {w w' : World} {base : Nat} {v : Value} {l : List GRule} {row : Option Nat} (h : OwnRules w base v l) (hg : w.grownBy w' row) (hne : ∀ g, v.ownBlock = some g → some g ≠ row) : OwnRules w' base v l :=
  own_keep h fun g hgg => hg.block g (World.ownsRow.lt h g hgg).2 (hne g hgg)

theorem keepC {wr W W2 : World} {p q : Addr} {v u : Value} (h : Below wr.heap.size wr W ∧ W.cell? p = some v ∧ W.cell? q = some u) (h2 : Below W.heap.size W W2) (hp : p.block < wr.heap.size) (hq : q.block < wr.heap.size) :
    Below wr.heap.size wr W2 ∧ W2.cell? p = some v ∧ W2.cell? q = some u :=
  ⟨h.1.trans (h2.mono h.1.size), (h2.cell (Nat.lt_of_lt_of_le hp h.1.size)).trans h.2.1, (h2.cell (Nat.lt_of_lt_of_le hq h.1.size)).trans h.2.2⟩
end Go.Proofs.Ytfapnipmgmpgaaa

namespace Go.Proofs.Ytfapnipmgmpgaaa
open Go.RowKit

/-- The index of the first element for which p holds, or -1. -/
def idxOf {α : Type} (p : α → Bool) : List α → Int
  | [] => -1
  | x :: xs => if p x then 0 else if idxOf p xs < 0 then -1 else idxOf p xs + 1
end Go.Proofs.Ytfapnipmgmpgaaa

namespace Go.Proofs.Ytfapnipmgmpgaaa
open Go.RowKit

structure GAuto where
  states : Int
  start : Int
  finals : List Int
  next : List (List Int)
end Go.Proofs.Ytfapnipmgmpgaaa

namespace Go.Proofs.Ytfapnipmgmpgaaa
open Go.RowKit

/-- What lay in the blocks of C lies there still; of the rest of the world nothing but blocks has turned. -/
structure Wk (C : Nat → Prop) (w w' : World) : Prop where
  os : w'.os = w.os
  tape : w'.tape = w.tape
  output : w'.output = w.output
  size : w.heap.size ≤ w'.heap.size
  block : ∀ k, C k → w'.heap[k]? = w.heap[k]?
section
variable {C C' : Nat → Prop} {a b c : World}
theorem Wk.refl (C : Nat → Prop) (w : World) : Wk C w w := ⟨rfl, rfl, rfl, Nat.le_refl _, fun _ _ => rfl⟩
theorem Wk.trans (h : Wk C a b) (k : Wk C b c) : Wk C a c := ⟨k.os.trans h.os, k.tape.trans h.tape, k.output.trans h.output, Nat.le_trans h.size k.size, fun i hi => (k.block i hi).trans (h.block i hi)⟩
theorem Wk.mono (h : Wk C a b) (hs : ∀ k, C' k → C k) : Wk C' a b := ⟨h.os, h.tape, h.output, h.size, fun i hi => h.block i (hs i hi)⟩
theorem Wk.of_below {B : Nat} (h : Below B a b) (hs : ∀ k, C k → k < B) : Wk C a b := ⟨h.os, h.tape, h.output, h.size, fun i hi => h.block i (hs i hi)⟩
theorem Wk.below {B : Nat} (h : Wk C a b) (hs : ∀ k, k < B → C k) : Below B a b := ⟨h.os, h.tape, h.output, h.size, fun i hi => h.block i (hs i hi)⟩
theorem Wk.keep (h : Wk C a b) : Keep C a b := fun i hi => h.block i hi
theorem Wk.cell {k o : Nat} {v : Value} (h : Wk C a b) (hk : C k) (hc : a.cell? ⟨k, o, none⟩ = some v) : b.cell? ⟨k, o, none⟩ = some v := (h.keep.cell hk).trans hc
end

def getR (xs : List GRule) (r : Nat) : GRule := xs.getD r ⟨⟨#[]⟩, 0, 0⟩
/-- The rules that are met, from left to right, when a rule is taken apart for a part of its word. -/
def coverR (xs : List GRule) (ls : List Int) (i j : Int) : Nat → Nat → Int → List Nat
  | 0, _, _ => []
  | f + 1, r, p =>
    if p + ls.getD r 0 ≤ i ∨ j ≤ p then [] else if i ≤ p ∧ p + ls.getD r 0 ≤ j then [r] else
      coverR xs ls i j f (getR xs r).left.toNat p ++ coverR xs ls i j f (getR xs r).right.toNat (p + ls.getD (getR xs r).left.toNat 0)
def piecesL (xs : List GRule) (ls : List Int) (i j : Int) : List Nat := if 0 < xs.length ∧ i < j then coverR xs ls i j xs.length (xs.length - 1) 0 else []

theorem lens_steps {xs : List GRule} {ls : List Int} (h : lens xs = some ls) : ∀ (k : Nat) r, xs[k]? = some r → okRule k r = true ∧ ls.getD k 0 = ruleLen ls r := by
  suffices H : ∀ (ys : List GRule) (a o : List Int), ys.foldl lensStep (some a) = some o → (∃ t, o = a ++ t) ∧ ∀ (k : Nat) r, ys[k]? = some r → okRule (a.length + k) r = true ∧ o.getD (a.length + k) 0 = ruleLen o r by
    intro k r hr
    have := (H xs [] ls h).2 k r hr
    simpa using this
  intro ys
  induction ys with
  | nil => intro a o h; simp at h; subst h; exact ⟨⟨[], by simp⟩, fun k r hr => by simp at hr⟩
  | cons x ys ih =>
    intro a o h
    simp only [List.foldl_cons, lensStep, Option.bind_some] at h
    split at h
    · rename_i hc
      obtain ⟨⟨t, ht⟩, h2⟩ := ih _ _ h
      subst ht
      refine ⟨⟨ruleLen a x :: t, by simp⟩, fun k r hr => ?_⟩
      cases k with
      | zero =>
        simp at hr
        subst hr
        refine ⟨by simpa using hc.1, ?_⟩
        have e : (a ++ [ruleLen a x] ++ t).getD (a.length + 0) 0 = ruleLen a x := by
          rw [List.getD_eq_getElem?_getD, List.getElem?_append_left (by simp), List.getElem?_append_right (by omega)]
          simp
        rw [e]
        unfold ruleLen
        split
        · rename_i hp
          have hok := hc.1
          simp only [okRule, hp, if_true, Bool.and_eq_true, decide_eq_true_eq] at hok
          rw [List.append_assoc]
          simp only [List.getD_eq_getElem?_getD]
          rw [List.getElem?_append_left (by omega), List.getElem?_append_left (by omega)]
        · rfl
      | succ k =>
        have := h2 k r (by simpa using hr)
        simp only [List.length_append, List.length_cons, List.length_nil] at this
        rw [show a.length + (k + 1) = a.length + (0 + 1) + k by omega]
        exact this
    · rw [lens_none] at h; cases h
theorem getR_at {xs : List GRule} {r : Nat} (h : r < xs.length) : xs[r]? = some (getR xs r) := by
  unfold getR; rw [List.getD_eq_getElem?_getD, List.getElem?_eq_getElem h]; rfl
theorem lens_pos' {xs : List GRule} {ls : List Int} (h : lens xs = some ls) {r : Nat} (hr : r < xs.length) : 1 ≤ ls.getD r 0 ∧ ls.getD r 0 ≤ 1000000000000000 := by
  have hl := lens_length h
  have := lens_pos h ls[r] (List.getElem_mem (by omega))
  rw [List.getD_eq_getElem?_getD, List.getElem?_eq_getElem (by omega)]; exact this
theorem lens_pair {xs : List GRule} {ls : List Int} (h : lens xs = some ls) {r : Nat} (hr : r < xs.length) (hp : (getR xs r).pair = true) :
    0 ≤ (getR xs r).left ∧ (getR xs r).left.toNat < r ∧ 0 ≤ (getR xs r).right ∧ (getR xs r).right.toNat < r ∧ ls.getD r 0 = ls.getD (getR xs r).left.toNat 0 + ls.getD (getR xs r).right.toNat 0 := by
  obtain ⟨h1, h2⟩ := lens_steps h r _ (getR_at hr)
  simp only [okRule, hp, if_true, Bool.and_eq_true, decide_eq_true_eq] at h1
  simp only [ruleLen, hp, if_true] at h2
  exact ⟨h1.1.1.1, by omega, h1.1.2, by omega, h2⟩
theorem lens_letter {xs : List GRule} {ls : List Int} (h : lens xs = some ls) {r : Nat} (hr : r < xs.length) (hp : (getR xs r).pair = false) : ls.getD r 0 = 1 := by
  obtain ⟨h1, h2⟩ := lens_steps h r _ (getR_at hr)
  simpa [ruleLen, hp] using h2

section
variable {σ : Type}
/-- An object that is no row of bytes. -/
def NoB (o : Obj) : Prop := ∀ c fz, o ≠ .cells c 5 fz
theorem NoB.cells {c : Array Value} {t : TypeId} {fz : Nat × Nat} (h : t ≠ 5) : NoB (.cells c t fz) := fun _ _ e => by
  injection e with _ h2 _; exact h h2
/-- No row of bytes lies from a up in a world. -/
def NewNoB (a : Nat) (w : World) : Prop := ∀ k, a ≤ k → ∀ c fz, w.heap[k]? ≠ some (.cells c 5 fz)
theorem NewNoB.same (w : World) : NewNoB w.heap.size w := fun k hk c fz e => by
  have := (Array.getElem?_eq_some_iff.1 e).1
  omega
theorem NewNoB.alloc {a : Nat} {w : World} (h : NewNoB a w) {o : Obj} (ho : NoB o) : NewNoB a (w.alloc o) := fun k hk c fz e => by
  have hl := (Array.getElem?_eq_some_iff.1 e).1
  rcases Nat.lt_or_ge k w.heap.size with h1 | h1
  · rw [Below.heap_alloc _ _ _ h1] at e
    exact h k hk c fz e
  · have : k = w.heap.size := by simp at hl; omega
    subst this
    rw [heap_alloc_new] at e
    exact ho c fz (Option.some.inj e)
/-- What each step may count on. -/
def Runs (step : σ → Nat → σ) (Ok : σ → Nat → Prop) (s : σ) (l : List Nat) : Prop := ∀ l1 r l2, l = l1 ++ r :: l2 → Ok (l1.foldl step s) r
theorem Runs.one {step : σ → Nat → σ} {Ok : σ → Nat → Prop} {s : σ} {r : Nat} (h : Runs step Ok s [r]) : Ok s r := h [] r [] rfl
theorem Runs.left {step : σ → Nat → σ} {Ok : σ → Nat → Prop} {s : σ} {a b : List Nat} (h : Runs step Ok s (a ++ b)) : Runs step Ok s a := fun l1 r l2 e => h l1 r (l2 ++ b) (by rw [e]; simp)
theorem Runs.right {step : σ → Nat → σ} {Ok : σ → Nat → Prop} {s : σ} {a b : List Nat} (h : Runs step Ok s (a ++ b)) : Runs step Ok (a.foldl step s) b := fun l1 r l2 e => by
  have := h (a ++ l1) r l2 (by rw [e]; simp)
  rwa [List.foldl_append] at this
theorem Runs.all {step : σ → Nat → σ} {Ok : σ → Nat → Prop} {s : σ} {l : List Nat} (h : ∀ s r, Ok s r) : Runs step Ok s l := fun _ _ _ _ => h _ _
/-- Behind a call: the ghost state is s', in a larger set of kept blocks. -/
def TakePost (J : (Nat → Prop) → σ → World → Prop) (C : Nat → Prop) (s' : σ) (w : World) (e : Ending) (w' : World) : Prop :=
  e = .returned (.tuple #[]) ∧ ∃ C', (∀ b, C b → C' b) ∧ (∀ b, C' b → b < w'.heap.size) ∧ J C' s' w' ∧ Wk C w w'
/-- What the closure 'take' has captured. -/
structure PSet (w : World) (C : Nat → Prop) (bl bi bj bw bg bt : Nat) (vL vW vR : Value) (i j : Int) (ls : List Int) (xs : List GRule) : Prop where
  cl : w.cell? ⟨bl, 0, none⟩ = some vL
  ci : w.cell? ⟨bi, 0, none⟩ = some (.int .i64 i)
  cj : w.cell? ⟨bj, 0, none⟩ = some (.int .i64 j)
  cw : w.cell? ⟨bw, 0, none⟩ = some vW
  cg : w.cell? ⟨bg, 0, none⟩ = some vR
  ct : w.cell? ⟨bt, 0, none⟩ = some (.func (.func 167) #[] #[.pointer (some ⟨bl, 0, none⟩), .pointer (some ⟨bi, 0, none⟩), .pointer (some ⟨bj, 0, none⟩), .pointer (some ⟨bw, 0, none⟩), .pointer (some ⟨bg, 0, none⟩), .pointer (some ⟨bt, 0, none⟩)])
  ml : C bl
  mi : C bi
  mj : C bj
  mw : C bw
  mg : C bg
  mt : C bt
  sl : SlS IntE w C vL ls
  sr : SlS RuleE w C vR xs
  lt : ∀ b, C b → b < w.heap.size
theorem PSet.up {w w' : World} {C C' : Nat → Prop} {bl bi bj bw bg bt : Nat} {vL vW vR : Value} {i j : Int} {ls : List Int} {xs : List GRule} (h : PSet w C bl bi bj bw bg bt vL vW vR i j ls xs)
    (hw : Wk C w w') (hs : ∀ b, C b → C' b) (hl : ∀ b, C' b → b < w'.heap.size) : PSet w' C' bl bi bj bw bg bt vL vW vR i j ls xs :=
  ⟨hw.cell h.ml h.cl, hw.cell h.mi h.ci, hw.cell h.mj h.cj, hw.cell h.mw h.cw, hw.cell h.mg h.cg, hw.cell h.mt h.ct, hs _ h.ml, hs _ h.mi, hs _ h.mj, hs _ h.mw, hs _ h.mg, hs _ h.mt,
    (h.sl.keep hw.keep).more hs, (h.sr.keep hw.keep).more hs, hl⟩

/-- The set C with the blocks from a up to b. -/
def ext (C : Nat → Prop) (a b : Nat) : Nat → Prop := fun k => C k ∨ (a ≤ k ∧ k < b)

set_option maxRecDepth 100000 in
set_option maxHeartbeats 2000000 in
theorem take_any (J : (Nat → Prop) → σ → World → Prop) (step : σ → Nat → σ) (Ok : σ → Nat → Prop) (F : FuncId) (cap : Array Value) (xs : List GRule) (ls : List Int) (i j : Int) (hlens : lens xs = some ls) 
    (eg : ∀ args w, (callFunc F args).run Try.prog w = .ok (.enter F args) w)
    (hext : ∀ C s w w', J C s w → Below w.heap.size w w' → NewNoB w.heap.size w' → (∀ b, C b → b < w.heap.size) → J (ext C w.heap.size w'.heap.size) s w')
    (hwith : ∀ C s (r : Nat) (w : World), J C s w → Ok s r → r < xs.length → (∀ b, C b → b < w.heap.size) → Calls Try.prog F (#[.int .i64 r] ++ cap) w (TakePost J C (step s r) w))
    (bl bi bj bw bg bt : Nat) (vL vR : Value) (f : Nat) :
    ∀ (r : Nat) (p : Int) (s : σ) (C : Nat → Prop) (w : World), r < f → r < xs.length → 0 ≤ p → p + ls.getD r 0 ≤ 1000000000000000 → J C s w → Runs step Ok s (coverR xs ls i j f r p) →
      PSet w C bl bi bj bw bg bt vL (.func (.func F) #[] cap) vR i j ls xs →
      Calls Try.prog 167 #[.int .i64 r, .int .i64 p, .pointer (some ⟨bl, 0, none⟩), .pointer (some ⟨bi, 0, none⟩), .pointer (some ⟨bj, 0, none⟩), .pointer (some ⟨bw, 0, none⟩), .pointer (some ⟨bg, 0, none⟩), .pointer (some ⟨bt, 0, none⟩)] w
        (TakePost J C ((coverR xs ls i j f r p).foldl step s) w) := by
  induction f with
  | zero => intro r p s C w h; omega
  | succ f ih =>
    intro r p s C w hf hr hp0 hp1 hJ hRu hS
    have Ih := Lib.hid ih
    have HRu := Lib.hid hRu
    clear hRu
    have Hw := Lib.hid hwith
    have He := Lib.hid hext
    have HJ := Lib.hid hJ
    have HS := Lib.hid hS
    clear ih hwith hext hJ
    have hcl := hS.cl
    have hci := hS.ci
    have hcj := hS.cj
    have hcw := hS.cw
    have hll := lens_length hlens
    obtain ⟨AL, cL, rfl, _, _, hrowL⟩ := hS.sl
    obtain ⟨b1, o1, rfl, hb1, hcellL⟩ := hrowL.int (k := r) (by omega)
    have hcr := hcellL r (by omega)
    have hri : (r : Int) < (ls.length : Int) := by omega
    have hpos := lens_pos' hlens hr
    have Hxy : Hid (∀ y, ls.getD r 0 = y → coverR xs ls i j (f + 1) r p = if p + y ≤ i ∨ j ≤ p then [] else if i ≤ p ∧ p + y ≤ j then [r] else
      coverR xs ls i j f (getR xs r).left.toNat p ++ coverR xs ls i j f (getR xs r).right.toNat (p + ls.getD (getR xs r).left.toNat 0)) := by rintro y rfl; rfl
    have Hll := Lib.hid hll
    have HcL := Lib.hid hcellL
    have Hb1 := Lib.hid hb1
    clear hcellL hll
    obtain ⟨n, hn⟩ : ∃ n, ls.getD r 0 = n := ⟨_, rfl⟩
    rw [hn] at hcr hpos hp1
    have Hn := Lib.hid hn
    have hcov := Hxy.out n hn
    have Hcov := Lib.hid hcov
    rw [hcov] at HRu
    clear hn hcov
    have e144 : ∀ args w, (callFunc 167 args).run Try.prog w = .ok (.enter 167 args) w := enters_of Try.func167 (by kernel_rfl) rfl
    by_cases c1 : p + n ≤ i
    · rw [if_pos (Or.inl c1)] at Hcov HRu
      go_enter Try.func167, Try.ntmps167
      go_wp2_with fail
      go_end0
      exact ⟨rfl, C, fun _ h => h, HS.out.lt, by rw [Hcov.out]; exact HJ.out, Wk.refl _ _⟩
    · by_cases c2 : j ≤ p
      · rw [if_pos (Or.inr c2)] at Hcov HRu
        go_enter Try.func167, Try.ntmps167
        go_wp2_with fail
        go_end0
        exact ⟨rfl, C, fun _ h => h, HS.out.lt, by rw [Hcov.out]; exact HJ.out, Wk.refl _ _⟩
      · rw [if_neg (by omega)] at Hcov HRu
        by_cases c34 : i ≤ p ∧ p + n ≤ j
        · rw [if_pos c34] at Hcov HRu
          obtain ⟨c3, c4⟩ := c34
          go_enter Try.func167, Try.ntmps167
          go_wp2_with fail
          refine (Hw.out C s r w HJ.out HRu.out.one hr HS.out.lt).mono ?_
          rintro e w2 ⟨rfl, C', h1, h2, h3, h4⟩
          go_wp2_with fail
          go_end0
          exact ⟨rfl, C', h1, h2, by rw [Hcov.out]; exact h3, h4⟩
        · rw [if_neg c34] at Hcov HRu
          have hpair : (getR xs r).pair = true := by
            by_cases hp : (getR xs r).pair = true
            · exact hp
            · have := lens_letter hlens hr (by simpa using hp)
              have := Hn.out
              omega
          obtain ⟨hl0, hlr, hr0, hrr, hsum⟩ := lens_pair hlens hr hpair
          obtain ⟨AR, cR, rfl, _, _, hrowR⟩ := HS.out.sr
          obtain ⟨b2, o2, rfl, hb2, hcellR⟩ := hrowR.rule (k := r) hr
          obtain ⟨k0, k1, k2⟩ := hcellR r _ (getR_at hr)
          generalize hR : getR xs r = R at *
          obtain ⟨rs, rl, rr⟩ := R
          obtain ⟨l, rfl⟩ := Int.eq_ofNat_of_zero_le hl0
          obtain ⟨q, rfl⟩ := Int.eq_ofNat_of_zero_le hr0
          simp only [Int.toNat_natCast] at hlr hrr hsum Hcov HRu
          have hcg := HS.out.cg
          have hct := HS.out.ct
          have lbt : bt < w.heap.size := HS.out.lt _ HS.out.mt
          have hpl := lens_pos' hlens (r := l) (by omega)
          have hpq := lens_pos' hlens (r := q) (by omega)
          have hrx : (r : Int) < (xs.length : Int) := by omega
          have hll := Hll.out
          have hsn : n = ls.getD l 0 + ls.getD q 0 := by rw [← Hn.out]; exact hsum
          obtain ⟨m, hm⟩ : ∃ m, ls.getD l 0 = m := ⟨_, rfl⟩
          obtain ⟨m', hm'⟩ : ∃ m', ls.getD q 0 = m' := ⟨_, rfl⟩
          rw [hm] at hsn hpl
          rw [hm'] at hsn hpq
          rw [hm] at Hcov HRu
          have Hm := Lib.hid hm
          have Hm' := Lib.hid hm'
          have Hsn := Lib.hid hsn
          have hl3 : p + m ≤ 1000000000000000 := by omega
          have hq3 : p + m + m' ≤ 1000000000000000 := by omega
          have hq0 : 0 ≤ p + m := by omega
          have Hq0 := Lib.hid hq0
          have Hl3 := Lib.hid hl3
          have Hq3 := Lib.hid hq3
          have hBA : ∀ o, Below w.heap.size w (w.alloc o) := fun o => (Below.refl _ _).alloc (Nat.le_refl _) _
          have HBA := Lib.hid hBA
          have HS1 : ∀ o, PSet (w.alloc o) (ext C w.heap.size (w.alloc o).heap.size) bl bi bj bw bg bt (.slice (some ⟨b1, o1, none⟩) ls.length cL) (.func (.func F) #[] cap) (.slice (some ⟨b2, o2, none⟩) xs.length cR) i j ls xs := fun o =>
            HS.out.up (Wk.of_below (HBA.out o) HS.out.lt) (fun b h => Or.inl h) (fun b h => by rcases h with h | h; exact Nat.lt_of_lt_of_le (HS.out.lt b h) (HBA.out o).size; exact h.2)
          have HJ1 : ∀ o, NoB o → J (ext C w.heap.size (w.alloc o).heap.size) s (w.alloc o) := fun o ho => He.out C s w _ HJ.out (HBA.out o) ((NewNoB.same w).alloc ho) HS.out.lt
          have HSS1 := Lib.hid HS1
          have HJJ1 := Lib.hid HJ1
          have hlx : l < xs.length := by omega
          have hqx : q < xs.length := by omega
          have hlf : l < f := by omega
          have hqf : q < f := by omega
          have Hpair := Lib.hid hpair
          have HR := Lib.hid hR
          have hc34 : (i ≤ p ∧ ¬ p + n ≤ j) ∨ ¬ i ≤ p := by omega
          clear hm hm' hpair hcellR hsum hR hrowL hrowR hb1 hb2 hBA HS1 HJ1 hsn c34
          rcases hc34 with ⟨c3, c4⟩ | c3
          all_goals
            go_enter Try.func167, Try.ntmps167
            go_wp2_with fail
            refine (Ih.out l p s _ _ hlf hlx hp0 (by rw [Hm.out]; exact Hl3.out) (HJJ1.out _ (NoB.cells (by decide))) HRu.out.left (HSS1.out _)).mono ?_
            rintro e w2 ⟨rfl, C2, g1, g2, g3, g4⟩
            have hbx0 : w2.cell? ⟨w.heap.size, 0, none⟩ = some (.string rs) := g4.cell (Or.inr (by simp)) (by simp [go_sem])
            have hbx1 : w2.cell? ⟨w.heap.size, 1, none⟩ = some (.int .i64 l) := g4.cell (Or.inr (by simp)) (by simp [go_sem])
            have hbx2 : w2.cell? ⟨w.heap.size, 2, none⟩ = some (.int .i64 q) := g4.cell (Or.inr (by simp)) (by simp [go_sem])
            have S2 := Lib.hid ((HSS1.out _).up g4 g1 g2)
            have hcl2 := S2.out.cl
            have hct2 := S2.out.ct
            have hcq : w2.cell? ⟨b1, o1 + l, none⟩ = some (.int .i64 m) := g4.cell (Or.inl Hb1.out) (((HBA.out _).cell (p := ⟨b1, o1 + l, none⟩) (HS.out.lt _ Hb1.out)).trans (by rw [HcL.out l (by have := Hll.out; omega), Hm.out]))
            have hli : (l : Int) < (ls.length : Int) := by have := Hll.out; omega
            go_wp2_with fail
            go_still_tail 10, (by kernel_rfl)
            change wpList _ _ _ _ _ w2.drew
            have HB3 := Lib.hid (Below.drew (Below.refl w2.heap.size w2))
            have HJ3 := Lib.hid (He.out C2 _ w2 _ g3 HB3.out (NewNoB.same w2) g2)
            have S3 := Lib.hid (S2.out.up (Wk.of_below HB3.out g2) (C' := ext C2 w2.heap.size w2.drew.heap.size) (fun b h => Or.inl h) (fun b h => by rcases h with h | h; exact g2 b h; exact h.2))
            have W2 := Lib.hid (((Wk.of_below (HBA.out _) HS.out.lt).trans (g4.mono (C' := C) fun b h => Or.inl h)).trans (Wk.of_below HB3.out (fun b h => g2 _ (g1 _ (Or.inl h)))))
            generalize w2.drew = w3 at *
            go_wp2_with fail
            refine (Ih.out q (p + m) _ _ _ hqf hqx Hq0.out (by rw [Hm'.out]; exact Hq3.out) HJ3.out HRu.out.right S3.out).mono ?_
            rintro e w4 ⟨rfl, C4, k1, k2, k3, k4⟩
            go_wp2_with fail
            go_end0
            refine ⟨rfl, C4, fun b h => k1 _ (Or.inl (g1 _ (Or.inl h))), k2, ?_, ?_⟩
            · rw [Hcov.out, List.foldl_append]; exact k3
            · exact W2.out.trans (k4.mono fun b h => Or.inl (g1 _ (Or.inl h)))
end
end Go.Proofs.Ytfapnipmgmpgaaa

namespace Go.Proofs.Ytfapnipmgmpgaaa
open Go.RowKit

theorem push_rule {W : World} {ops : Array Oper} {rest : List Oper} {o : Oper} {a : Act} {Q : Exit → Act → World → Prop} (hgd : o.guard = none) (s x : Operand)
    (ho : o.op = .call { callee := .builtin .append, args := #[s, x], argTypes := #[30, 30] }) {t : ByteArray} {p q : Int} {base : Nat} {v : Value} {l : List GRule}
    (hs : a.eval s = v) {N : Nat} (hx : a.eval x = .slice (some ⟨N, 0, none⟩) 1 1) (hN : N = W.heap.size) (hown : OwnRules W base v l) (hlen : l.length ≤ 1099511627776) (hbase : base ≤ W.heap.size)
    (h : ∀ v' w', OwnRules w' base v' (l ++ [⟨t, p, q⟩]) → (W.alloc (.cells #[.string t, .int .i64 p, .int .i64 q] 160)).grownBy w' v.ownBlock → Below base W w' → wpList Try.prog ops Q rest (a.put o.dst v') w') :
    wpList Try.prog ops Q (o :: rest) a (W.alloc (.cells #[.string t, .int .i64 p, .int .i64 q] 160)) :=
  push_rules (y := ⟨t, p, q⟩) hgd s x ho hs hx hN hown hlen hbase h

/-- What comes back as a grammar and a code. -/
def GRes (out : List GRule) (code : Int) (w : World) (e : Ending) (w' : World) : Prop :=
  Below w.heap.size w w' ∧ ∃ v', OwnRules w' w.heap.size v' out ∧ e = .returned (.tuple #[.agg #[v'], .int .i64 code])

theorem SlS.dr {α : Type} {E : Enc α} {w : World} {v : Value} {xs : List α} (h : Sl E w w.heap.size v xs) : Sl E w.drew w.drew.heap.size v xs := h.keep fun _ _ => rfl
theorem keepD {wr W W2 : World} {N : Nat} {p q : Addr} {v u : Value} (h : Below N wr W ∧ W.cell? p = some v ∧ W.cell? q = some u) (h2 : Below W.heap.size W W2) (hN : N ≤ wr.heap.size) (hp : p.block < wr.heap.size) (hq : q.block < wr.heap.size) :
    Below N wr W2 ∧ W2.cell? p = some v ∧ W2.cell? q = some u :=
  ⟨h.1.trans (h2.mono (Nat.le_trans hN h.1.size)), (h2.cell (Nat.lt_of_lt_of_le hp h.1.size)).trans h.2.1, (h2.cell (Nat.lt_of_lt_of_le hq h.1.size)).trans h.2.2⟩
theorem keepE {wr W W2 : World} {N : Nat} {p q : Addr} {v u : Value} (h : Below N wr W ∧ W.cell? p = some v ∧ W.cell? q = some u) (h2 : Below N W W2) (hp : p.block < N) (hq : q.block < N) :
    Below N wr W2 ∧ W2.cell? p = some v ∧ W2.cell? q = some u :=
  ⟨h.1.trans h2, (h2.cell hp).trans h.2.1, (h2.cell hq).trans h.2.2⟩
theorem step_append_rules {W : World} {ops : Array Oper} {o : Oper} {a : Act} {K : Act → World → Prop} {Q : Exit → Act → World → Prop} {E : Prop} (hgd : o.guard = none) (s x : Operand)
    (ho : o.op = .call { callee := .builtin .append, args := #[s, x], argTypes := #[30, 30] }) {ys : List GRule} {base : Nat} {v sv : Value} {l : List GRule} {S : Nat → Prop}
    (hs : a.eval s = v) (hx : a.eval x = sv) (hown : OwnRules W base v l) (hsl : SlS RuleE W S sv ys) (hlen : l.length + ys.length ≤ 1099511627776) (hbase : base ≤ W.heap.size)
    (h : ∀ v' w', OwnRules w' base v' (l ++ ys) → W.grownBy w' v.ownBlock → Below base W w' → K (a.put o.dst v') w') :
    if Region.wanted o (yielded ops a.tmps) = true then Oper.wp Try.prog o a W K Q else E := by
  have hw : Region.wanted o (yielded ops a.tmps) = true := by simp [Region.wanted, hgd]
  rw [if_pos hw]
  obtain ⟨i0, hi0, hz0, hz1, hz2⟩ := info_parts Try.infoR
  obtain ⟨A, c, rfl, hc, hm, hrow⟩ := hsl
  have H : ∃ v' w', (Builtin.append_ #[30, 30] o.type #[v, .slice A ys.length c]).run Try.prog W = .ok v' w' ∧ OwnRules w' base v' (l ++ ys) ∧ W.grownBy w' v.ownBlock := by
    rcases A with _ | ad
    · have h0 : ys = [] := by
        rcases Nat.eq_zero_or_pos ys.length with h0 | h0
        · exact List.eq_nil_of_length_eq_zero h0
        · obtain ⟨b, o, h, _⟩ := hrow h0; cases h
      subst h0
      exact ⟨v, W, run_append_of_nil W base _ _ 160 i0 3 Try.underlying30 hi0 v _ _ hown c, by simpa using hown, World.grownBy.refl W _⟩
    · obtain ⟨v', w', hrun, h2, h3, _⟩ := run_append_own_at (P := Try.prog) W base 30 o.type 160 i0 _ 3 32 Try.underlying30 hi0 hz0 hz1 hz2 rfl (by decide) v _ _ hown ad ys.length c (ys.flatMap GRule.cells)
        (cells_len ys) (rules_cells hrow) (rules_one ys) (by simp only [maxLen]; omega) (by omega) hbase
      exact ⟨v', w', hrun, by unfold OwnRules; simpa using h2, h3⟩
  obtain ⟨v', w', hrun, h2, h3⟩ := H
  unfold Oper.wp execOp
  simp only [ho, resolve, invoke, builtin, Sem.run_bind, Sem.run_pure, Result.andThen_ok, List.map_toArray, List.map_cons, List.map_nil, hs, hx, hrun]
  exact h v' w' h2 h3 ((Below.refl base W).grown h3 hbase (fun k hk => (World.ownsRow.lt hown k hk).1))
def raiseR (n : Nat) (r : GRule) : GRule := if r.pair then { letter := r.letter, left := r.left + n, right := r.right + n } else r
/-- The numbers of all pairs are small. -/
def SmallP (rs : List GRule) : Prop := ∀ r ∈ rs, r.pair = true → -1099511627776 ≤ r.left ∧ r.left ≤ 1099511627776 ∧ -1099511627776 ≤ r.right ∧ r.right ≤ 1099511627776

theorem raised_any (v : Value) (xs : List GRule) (n : Nat) (w : World) (h : Sl RuleE w w.heap.size v xs) (hl : xs.length ≤ 1099511627776) (hn : n ≤ 1099511627776) (hp : SmallP xs) :
    Calls Try.prog 144 #[v, .int .i64 n] w fun e w' => ∃ v', e = .returned v' ∧ OwnRules w' w.heap.size v' (xs.map (raiseR n)) ∧ Below w.heap.size w w' := by
  obtain ⟨A, c, rfl, hc, hm, hrow⟩ := h
  have Hp := Lib.hid hp
  clear hm hp
  go_enter Try.func144, Try.ntmps144
  go_wp2_with fail
  go_loopw [5, 11] (fun out i wr => ∃ (k : Nat), k ≤ xs.length ∧ i = .int .i64 k ∧ Below w.heap.size w wr ∧ OwnRules wr w.heap.size out ((xs.take k).map (raiseR n))) (fun _ i _ => xs.length - (intOf i).toNat)
  case atStart => exact ⟨0, Nat.zero_le _, rfl, (Below.refl _ _).alloc (Nat.le_refl _) _, OwnRules.empty rfl (Nat.le_refl _)⟩
  case round =>
    obtain ⟨k, hk, rfl, hb, hown⟩ := hrel
    by_cases hlt : k < xs.length
    · obtain ⟨b, o, rfl, hbl, hcell⟩ := hrow.rule hlt
      obtain ⟨r, hr⟩ : ∃ x, xs[k]? = some x := ⟨_, List.getElem?_eq_getElem hlt⟩
      obtain ⟨g0, g1, g2⟩ := hcell k r hr
      have hc0 := (hb.cell (p := ⟨b, o + k * 3, none⟩) hbl).trans g0
      have hc1 := (hb.cell (p := ⟨b, o + k * 3 + 1, none⟩) hbl).trans g1
      have hc2 := (hb.cell (p := ⟨b, o + k * 3 + 2, none⟩) hbl).trans g2
      have hsz : w.heap.size ≤ wr.heap.size := hb.size
      have Hnext : Hid ((xs.take (k + 1)).map (raiseR n) = (xs.take k).map (raiseR n) ++ [raiseR n r]) := by rw [Hid, List.take_add_one, hr, List.map_append]; rfl
      have hlen : ((xs.take k).map (raiseR n)).length ≤ 1099511627776 := by simp; omega
      have Hr := Lib.hid hr
      have Hown := Lib.hid hown
      clear hcell g0 g1 g2 hr hown
      by_cases hpr : r.pair = true
      · have hbd := Hp.out r (List.mem_of_getElem? Hr.out) hpr
        have hemp : r.letter.toList.isEmpty = true := by rw [isEmpty_size]; exact hpr
        have Hrr : Hid (raiseR n r = { letter := r.letter, left := r.left + n, right := r.right + n }) := by rw [Hid, raiseR, if_pos hpr]
        clear hpr
        go_wp2_with (first
          | (go_at_call 137; refine (isPair_any _ _ _ _).mono ?_; rintro e w' ⟨rfl, rfl⟩)
          | (at_builtin; go_must (refine push_rule rfl _ _ rfl rfl rfl (by simp) (by repeat (first | exact Hown.out | apply OwnInts.alloc | apply OwnInts.drewN | apply OwnRules.alloc | apply OwnRules.drewN)) hlen (by first | omega | (simp; done) | (simp; omega)) ?_); intro v' w1 hown1 hgrow hbw))
        go_roundw
        case rel => exact ⟨k + 1, by omega, by go_num, Below.trans (by repeat (first | exact hb | (refine Below.alloc ?_ (by first | omega | (simp; done) | (simp; omega)) _) | refine below_drewN ?_ _ | refine Below.drew ?_)) hbw, by rw [Hnext.out, Hrr.out]; exact hown1⟩
        case measure => simp [intOf]; omega
      · have hemp : r.letter.toList.isEmpty = false := by rw [isEmpty_size]; simpa [GRule.pair] using hpr
        have Hrr : Hid (raiseR n r = r) := by rw [Hid, raiseR, if_neg hpr]
        clear hpr
        go_wp2_with (first
          | (go_at_call 137; refine (isPair_any _ _ _ _).mono ?_; rintro e w' ⟨rfl, rfl⟩)
          | (at_builtin; go_must (refine push_rule rfl _ _ rfl rfl rfl (by simp) (by repeat (first | exact Hown.out | apply OwnInts.alloc | apply OwnInts.drewN | apply OwnRules.alloc | apply OwnRules.drewN)) hlen (by first | omega | (simp; done) | (simp; omega)) ?_); intro v' w1 hown1 hgrow hbw))
        go_roundw
        case rel => exact ⟨k + 1, by omega, by go_num, Below.trans (by repeat (first | exact hb | (refine Below.alloc ?_ (by first | omega | (simp; done) | (simp; omega)) _) | refine below_drewN ?_ _ | refine Below.drew ?_)) hbw, by rw [Hnext.out, Hrr.out]; exact hown1⟩
        case measure => simp [intOf]; omega
    · have hkn : k = xs.length := by omega
      subst hkn
      have Hown2 := Lib.hid hown
      clear hown
      go_wp2
      go_ret
      exact ⟨_, rfl, by have := Hown2.out; rw [List.take_length] at this; exact this, hb⟩

theorem pairInt_any (a b : Int) (w : World) :
    Calls Try.prog 136 #[.int .i64 a, .int .i64 b] w fun e w' => e = .returned (.agg #[.string ⟨#[]⟩, .int .i64 a, .int .i64 b]) ∧ Below w.heap.size w w' := by
  go_enter Try.func136, Try.ntmps136
  go_wp2
  exact bodyPost_ret (v := .agg #[.string ⟨#[]⟩, .int .i64 a, .int .i64 b]) (by simp [results, Try.results136, go_sem]) rfl ⟨rfl, (by repeat (first | exact (Below.refl _ _) | (refine Below.alloc ?_ (by first | omega | (simp; done) | (simp; omega)) _) | refine below_drewN ?_ _ | refine Below.drew ?_))⟩

def pairR (a b : Int) : GRule := { letter := ⟨#[]⟩, left := a, right := b }
def joinG (xs ys : List GRule) : List GRule :=
  if xs.length = 0 then ys else if ys.length = 0 then xs else xs ++ ys.map (raiseR xs.length) ++ [pairR ((xs.length : Int) - 1) ((xs.length : Int) + ys.length - 1)]

def GOwn (out : List GRule) (w : World) (e : Ending) (w' : World) : Prop :=
  Below w.heap.size w w' ∧ ∃ v', OwnRules w' w.heap.size v' out ∧ e = .returned (.agg #[v'])

set_option maxRecDepth 100000 in
set_option maxHeartbeats 4000000 in
theorem join_any (v u : Value) (xs ys : List GRule) (w : World) (h : Sl RuleE w w.heap.size v xs) (h' : Sl RuleE w w.heap.size u ys) (hn : xs.length ≤ 1048576) (hn' : ys.length ≤ 1048576) (hp : SmallP ys) :
    Calls Try.prog 79 #[.agg #[v], .agg #[u]] w (GOwn (joinG xs ys) w) := by
  have h1 := fun o o' o'' => (h.below ((((Below.refl w.heap.size w).alloc (Nat.le_refl _) o).alloc (by simp) o').alloc (by first | omega | (simp; done) | (simp; omega)) o'')).le (B' := (((w.alloc o).alloc o').alloc o'').heap.size) (by simp; omega)
  have h2 := fun o o' o'' => (h'.below ((((Below.refl w.heap.size w).alloc (Nat.le_refl _) o).alloc (by simp) o').alloc (by first | omega | (simp; done) | (simp; omega)) o'')).le (B' := (((w.alloc o).alloc o').alloc o'').heap.size) (by simp; omega)
  have hB := fun o o' o'' => (((Below.refl w.heap.size w).alloc (Nat.le_refl _) o).alloc (by simp) o').alloc (by first | omega | (simp; done) | (simp; omega)) o''
  have H1 := Lib.hid h1
  have H2 := Lib.hid h2
  have HB := Lib.hid hB
  clear h1 h2 hB
  obtain ⟨A, c, rfl, hc, hm, hrow⟩ := h
  obtain ⟨A', c', rfl, hc', hm', hrow'⟩ := h'
  clear hm hm' hrow hrow'
  by_cases h0 : xs.length = 0
  · have hj : joinG xs ys = ys := by rw [joinG, if_pos h0]
    have Hj := Lib.hid hj
    have hb0 : ((xs.length : Int) == 0) = true := by simp [h0]
    have H0 := Lib.hid h0
    clear hj h0
    go_enter Try.func79, Try.ntmps79
    go_wp2_with fail
    refine (copied_any _ _ _ (H2.out _ _ _) (by omega)).mono ?_
    rintro e w1 ⟨v1, rfl, own1, hb1⟩
    obtain ⟨A1, c1, rfl, _⟩ := own_nil own1
    obtain ⟨hc1, hf1⟩ := bcell hb1
    have hz1 : w.heap.size + 3 ≤ w1.heap.size := by have := hb1.size; simp at this; omega
    have Hown := Lib.hid own1
    have Hb1 := Lib.hid hb1
    clear own1 hb1
    go_wp2
    refine bodyPost_ret (v := .agg #[.slice A1 ys.length c1]) (by simp [results, Try.results79, go_sem, hc1]) rfl ⟨?_, _, ?_, rfl⟩
    · exact (((((Below.refl _ _).alloc (Nat.le_refl _) _).alloc (by simp) _).alloc (by simp; omega) _).trans (Hb1.out.mono (by simp; omega))).setCell (by show w.heap.size ≤ w.heap.size + 1 + 1; omega) _
    · rw [Hj.out]
      have h4 : w1.ownsRow (w.heap.size + 3) 160 3 (.slice A1 ys.length c1) ys.length (ys.flatMap GRule.cells) := ownsRow_more Hown.out (by simp)
      exact ownsRow_more (ownsRow_setCell_below h4 (by show w.heap.size + 1 + 1 < w.heap.size + 3; omega) _) (by omega)
  · have hb0 : ((xs.length : Int) == 0) = false := by rw [beq_eq_false_iff_ne]; omega
    by_cases h0' : ys.length = 0
    · have hj : joinG xs ys = xs := by rw [joinG, if_neg h0, if_pos h0']
      have Hj := Lib.hid hj
      have hb0' : ((ys.length : Int) == 0) = true := by simp [h0']
      have H0 := Lib.hid h0
      have H0' := Lib.hid h0'
      clear hj h0 h0'
      go_enter Try.func79, Try.ntmps79
      go_wp2_with fail
      refine (copied_any _ _ _ (H1.out _ _ _) (by omega)).mono ?_
      rintro e w1 ⟨v1, rfl, own1, hb1⟩
      obtain ⟨A1, c1, rfl, _⟩ := own_nil own1
      obtain ⟨hc1, hf1⟩ := bcell hb1
      have hz1 : w.heap.size + 3 ≤ w1.heap.size := by have := hb1.size; simp at this; omega
      have Hown := Lib.hid own1
      have Hb1 := Lib.hid hb1
      clear own1 hb1
      go_wp2
      refine bodyPost_ret (v := .agg #[.slice A1 xs.length c1]) (by simp [results, Try.results79, go_sem, hc1]) rfl ⟨?_, _, ?_, rfl⟩
      · exact (((((Below.refl _ _).alloc (Nat.le_refl _) _).alloc (by simp) _).alloc (by simp; omega) _).trans (Hb1.out.mono (by simp; omega))).setCell (by show w.heap.size ≤ w.heap.size + 1 + 1; omega) _
      · rw [Hj.out]
        have h4 : w1.ownsRow (w.heap.size + 3) 160 3 (.slice A1 xs.length c1) xs.length (xs.flatMap GRule.cells) := ownsRow_more Hown.out (by simp)
        exact ownsRow_more (ownsRow_setCell_below h4 (by show w.heap.size + 1 + 1 < w.heap.size + 3; omega) _) (by omega)
    · have hb0' : ((ys.length : Int) == 0) = false := by rw [beq_eq_false_iff_ne]; omega
      have hj : joinG xs ys = xs ++ ys.map (raiseR xs.length) ++ [pairR ((xs.length : Int) - 1) ((xs.length : Int) + ys.length - 1)] := by rw [joinG, if_neg h0, if_neg h0']
      have Hj := Lib.hid hj
      have hx1 : 1 ≤ xs.length := by omega
      have hy1 : 1 ≤ ys.length := by omega
      have Hp := Lib.hid hp
      clear hj h0 h0' hp
      go_enter Try.func79, Try.ntmps79
      go_wp2_with fail
      go_region_held3 (fun w' => Below (w.heap.size + 3) (((w.alloc (Obj.cells #[Value.slice A xs.length c] 32)).alloc (Obj.cells #[Value.slice A' ys.length c'] 32)).alloc (Obj.cells #[Value.slice none 0 0] 32)) w' ∧ w'.cell? ⟨w.heap.size, 0, none⟩ = some (.slice A xs.length c) ∧ w'.cell? ⟨w.heap.size + 1, 0, none⟩ = some (.slice A' ys.length c'))
        (first | exact ⟨(Below.refl _ _).drew, by simp [go_sem], by simp [go_sem]⟩ | exact keepD (by assumption) hb1 (by simp) (by first | omega | (simp; done) | (simp; omega)) (by first | omega | (simp; done) | (simp; omega)) | exact keepD (by assumption) hb2 (by simp) (by first | omega | (simp; done) | (simp; omega)) (by first | omega | (simp; done) | (simp; omega)) | exact keepE (by assumption) hb3 (by first | omega | (simp; done) | (simp; omega)) (by first | omega | (simp; done) | (simp; omega)))
        (first
          | (go_at_call 143; refine (Clone_any _ _ _ (SlS.dr (H1.out _ _ _)) (by omega)).mono ?_; rintro e w1 ⟨v1, rfl, own1, hb1⟩)
          | (go_at_call 144; refine (raised_any _ _ xs.length _ (SlS.up (SlS.dr (H2.out _ _ _)) hb1) (by omega) (by omega) Hp.out).mono ?_; rintro e w2 ⟨v2, rfl, own2, hb2⟩)
          | (refine step_append_rules (base := w.heap.size + 3) (by rfl) _ _ (by rfl) (by rfl) (by rfl) (OwnRules.below (ownsRow_more own1 (by first | omega | (simp; done) | (simp; omega))) hb2) own2.sl (by simp; omega) (by have h1 := hb1.size; have h2 := hb2.size; simp at h1 h2; omega) ?_; intro v3 w3 own3 hg3 hb3))
      have z1 : w.heap.size + 3 ≤ w1.heap.size := by have h1 := hb1.size; simp at h1; omega
      have z2 : w1.heap.size ≤ w2.heap.size := hb2.size
      have z3 : w2.heap.size ≤ w3.heap.size := hb3.size
      have hb : Below (w.heap.size + 3) (((w.alloc (Obj.cells #[Value.slice A xs.length c] 32)).alloc (Obj.cells #[Value.slice A' ys.length c'] 32)).alloc (Obj.cells #[Value.slice none 0 0] 32)) w3 :=
        (Below.drew (Below.refl _ _)).trans ((hb1.mono (by show w.heap.size + 3 ≤ _; simp [World.drew])).trans ((hb2.mono (by omega)).trans hb3))
      obtain ⟨hc3, hf3⟩ := bcell hb
      have hcr : w3.cell? ⟨w.heap.size + 1 + 1, 0, none⟩ = some (.slice none 0 0) := by rw [hc3 _ _ (by omega)]; simp [go_sem]
      have hfr : w3.frozen? ⟨w.heap.size + 1 + 1, 0, none⟩ = false := by rw [hf3 _ _ (by omega)]; simp [go_sem]
      obtain ⟨L, hL⟩ : ∃ L, L = xs ++ ys.map (raiseR xs.length) := ⟨_, rfl⟩
      rw [← hL] at own3
      have hl3 : L.length ≤ 1099511627776 := by rw [hL]; simp; omega
      have HL := Lib.hid hL
      clear hL
      obtain ⟨A3, c3, rfl, _⟩ := own_nil own3
      have Hown3 := Lib.hid own3
      have Hb := Lib.hid hb
      have hz : w.heap.size + 1 + 1 < w3.heap.size := by omega
      clear own1 own2 own3 hb1 hb2 hb3 hg3 hc3 hf3 hb
      go_wp2_with fail
      refine (pairInt_any _ _ _).mono ?_
      rintro e w4 ⟨rfl, hb4⟩
      have hcr4 := cell_up hcr hb4 hz
      have hfr4 : w4.frozen? ⟨w.heap.size + 1 + 1, 0, none⟩ = false := by rw [hb4.frozen hz, hfr]
      have z4 : w3.heap.size ≤ w4.heap.size := hb4.size
      have Hown4 := Lib.hid (OwnRules.below Hown3.out hb4)
      have Hb4 := Lib.hid (Hb.out.trans (hb4.mono (by omega)))
      clear hcr hfr hb4
      go_wp2_with (at_builtin; go_must (refine push_rule (base := w.heap.size + 3) rfl _ _ rfl rfl rfl (by simp) Hown4.out hl3 (by omega) ?_); intro v5 w5 own5 hgrow hb5; obtain ⟨A5, c5, rfl, _⟩ := own_nil own5; obtain ⟨hc5, hf5⟩ := bcell hb5; have Hown5 := Lib.hid own5; have Hb5 := Lib.hid hb5; clear own5 hgrow hb5)
      have hll : L.length = xs.length + ys.length := by rw [HL.out]; simp
      refine bodyPost_ret (v := .agg #[.slice A5 (L.length + 1) c5]) (by simp [results, Try.results79, go_sem, hc5, hcr4]) rfl ⟨?_, _, ?_, rfl⟩
      · exact ((((((Below.refl _ _).alloc (Nat.le_refl _) _).alloc (by simp) _).alloc (by simp; omega) _).trans ((Hb4.out.trans Hb5.out).mono (by omega)))).setCell (by show w.heap.size ≤ w.heap.size + 1 + 1; omega) _
      · rw [Hj.out, ← HL.out]
        have e : pairR ((xs.length : Int) - 1) ((xs.length : Int) + ys.length - 1) = ⟨⟨#[]⟩, (xs.length : Int) - 1, (L.length : Int) - 1⟩ := by rw [pairR, hll]; simp
        rw [e]
        have h5 := Hown5.out
        rw [List.length_append] at h5
        have h6 := ownsRow_setCell_below (a := ⟨w.heap.size + 1 + 1, 0, none⟩) h5 (by show w.heap.size + 1 + 1 < w.heap.size + 3; omega) (.slice A5 (L.length + 1) c5)
        exact ownsRow_more h6 (by omega)
end Go.Proofs.Ytfapnipmgmpgaaa

namespace Go.Proofs.Ytfapnipmgmpgaaa

/-- A rule of which the numbers are those of the first alike. -/
def trimR (same : List Int) (r : GRule) : GRule := if r.pair then pairR (same.getD r.left.toNat 0) (same.getD r.right.toNat 0) else r
def trimStep (p : List GRule × List Int) (r : GRule) : List GRule × List Int := (p.1 ++ [trimR p.2 r], p.2 ++ [((p.1.idxOf (trimR p.2 r) : Nat) : Int)])
def canon (xs : List GRule) : List GRule × List Int := xs.foldl trimStep ([], [])
def OkAll (xs : List GRule) : Prop := ∀ k r, xs[k]? = some r → okRule k r = true
def needStep (ks : List GRule) (l : List Bool) (i : Nat) : List Bool :=
  if l.getD i false && (getR ks i).pair then (l.set (getR ks i).left.toNat true).set (getR ks i).right.toNat true else l
def needDown (ks : List GRule) : Nat → List Bool → List Bool
  | 0, l => l
  | i + 1, l => needDown ks i (needStep ks l i)
def outStep (ks : List GRule) (need : List Bool) (p : List GRule × List Int) (i : Nat) : List GRule × List Int :=
  if need.getD i false then (p.1 ++ [trimR p.2 (getR ks i)], p.2.set i p.1.length) else p
def rootB (xs : List GRule) : List Bool := (List.replicate xs.length false).set ((canon xs).2.getD (xs.length - 1) 0).toNat true
def needL (xs : List GRule) : List Bool := needDown (canon xs).1 xs.length (rootB xs)
def trimO (xs : List GRule) (k : Nat) : List GRule × List Int := (List.range k).foldl (outStep (canon xs).1 (needL xs)) ([], List.replicate xs.length 0)
/-- The rules that the last one reaches, alike ones once. -/
def trimG (xs : List GRule) : List GRule := (trimO xs xs.length).1

theorem trimR_pair {s : List Int} {r : GRule} (h : r.pair = true) : trimR s r = pairR (s.getD r.left.toNat 0) (s.getD r.right.toNat 0) := by rw [trimR, if_pos h]
theorem trimR_let {s : List Int} {r : GRule} (h : r.pair = false) : trimR s r = r := by rw [trimR, if_neg (by simp [h])]
theorem pairR_pair (a b : Int) : (pairR a b).pair = true := rfl
theorem canon_snoc {xs : List GRule} {k : Nat} {r : GRule} (h : xs[k]? = some r) : canon (xs.take (k + 1)) = trimStep (canon (xs.take k)) r := foldl_take_succ _ _ _ _ _ h
theorem okRule_pair {k : Nat} {a b : Int} (ha : 0 ≤ a ∧ a < k) (hb : 0 ≤ b ∧ b < k) : okRule k (pairR a b) = true := by
  unfold okRule
  rw [if_pos (pairR_pair a b)]
  show (decide (0 ≤ a) && decide (a ≤ (k : Int) - 1) && decide (0 ≤ b) && decide (b ≤ (k : Int) - 1)) = true
  rw [decide_eq_true ha.1, decide_eq_true (show a ≤ (k : Int) - 1 by omega), decide_eq_true hb.1, decide_eq_true (show b ≤ (k : Int) - 1 by omega)]; rfl
theorem okRule_at {k : Nat} {r : GRule} (h : okRule k r = true) (hp : r.pair = true) : 0 ≤ r.left ∧ r.left.toNat < k ∧ 0 ≤ r.right ∧ r.right.toNat < k := by
  unfold okRule at h
  rw [if_pos hp] at h
  simp at h; omega
theorem okRule_let {k : Nat} {r : GRule} (h : okRule k r = true) (hp : r.pair = false) : r.letter.size = 1 ∧ r.left = 0 ∧ r.right = 0 := by
  unfold okRule at h
  rw [if_neg (by simp [hp])] at h
  simp [isLet] at h
  exact ⟨h.1.1.1.1, h.1.2, h.2⟩
theorem okRule_small {k : Nat} {r : GRule} (h : okRule k r = true) : r.letter.size ≤ 1 := by
  cases hp : r.pair with
  | true => have : r.letter.size = 0 := by simpa [GRule.pair] using hp
            omega
  | false => have := (okRule_let h hp).1; omega

structure CanonOk (k : Nat) (p : List GRule × List Int) : Prop where
  l1 : p.1.length = k
  l2 : p.2.length = k
  low : ∀ i, i < k → 0 ≤ p.2.getD i 0 ∧ p.2.getD i 0 ≤ i
  idx : ∀ i, i < k → p.2.getD i 0 = ((p.1.idxOf (getR p.1 i) : Nat) : Int)
  ok : OkAll p.1
theorem getR_some {xs : List GRule} {k : Nat} {r : GRule} (h : xs[k]? = some r) : getR xs k = r := by
  unfold getR; rw [List.getD_eq_getElem?_getD, h]; rfl
theorem getR_append {xs ys : List GRule} {i : Nat} (h : i < xs.length) : getR (xs ++ ys) i = getR xs i := by
  unfold getR; rw [List.getD_eq_getElem?_getD, List.getD_eq_getElem?_getD, List.getElem?_append_left h]
theorem getR_last (xs : List GRule) (r : GRule) : getR (xs ++ [r]) xs.length = r := by
  unfold getR; simp
theorem getR_mem {xs : List GRule} {i : Nat} (h : i < xs.length) : getR xs i ∈ xs := List.mem_of_getElem? (getR_at h)
theorem getI_append {xs ys : List Int} {i : Nat} (h : i < xs.length) : (xs ++ ys).getD i 0 = xs.getD i 0 := by
  rw [List.getD_eq_getElem?_getD, List.getD_eq_getElem?_getD, List.getElem?_append_left h]
theorem getI_last (xs : List Int) (x : Int) : (xs ++ [x]).getD xs.length 0 = x := by simp
theorem OkAll.snoc {xs : List GRule} {r : GRule} (h : OkAll xs) (hr : okRule xs.length r = true) : OkAll (xs ++ [r]) := by
  intro k x hk
  rcases Nat.lt_or_ge k xs.length with hlt | hge
  · rw [List.getElem?_append_left hlt] at hk; exact h k x hk
  · have hl := (List.getElem?_eq_some_iff.1 hk).1
    simp at hl
    have : k = xs.length := by omega
    subst this
    simp at hk; rw [← hk]; exact hr
theorem canon_ok {xs : List GRule} (h : OkAll xs) : ∀ k, k ≤ xs.length → CanonOk k (canon (xs.take k)) := by
  intro k
  induction k with
  | zero => intro _; exact ⟨rfl, rfl, fun i hi => absurd hi (by omega), fun i hi => absurd hi (by omega), fun k r hk => by simp [canon] at hk⟩
  | succ k ih =>
    intro hk
    have H := ih (by omega)
    obtain ⟨r, hr⟩ : ∃ r, xs[k]? = some r := ⟨_, List.getElem?_eq_getElem (by omega)⟩
    have hor := h k r hr
    rw [canon_snoc hr]
    obtain ⟨K, S, hp⟩ : ∃ K S, canon (xs.take k) = (K, S) := ⟨_, _, rfl⟩
    rw [hp] at H ⊢
    have l1 : K.length = k := H.l1
    have l2 : S.length = k := H.l2
    have hx : okRule k (trimR S r) = true := by
      cases hpr : r.pair with
      | true =>
        obtain ⟨h1, h2, h3, h4⟩ := okRule_at hor hpr
        have a1 : 0 ≤ S.getD r.left.toNat 0 ∧ S.getD r.left.toNat 0 ≤ (r.left.toNat : Int) := H.low _ h2
        have a2 : 0 ≤ S.getD r.right.toNat 0 ∧ S.getD r.right.toNat 0 ≤ (r.right.toNat : Int) := H.low _ h4
        rw [trimR_pair hpr]
        exact okRule_pair ⟨a1.1, by omega⟩ ⟨a2.1, by omega⟩
      | false => rw [trimR_let hpr]; exact hor
    obtain ⟨X, hX⟩ : ∃ X, trimR S r = X := ⟨_, rfl⟩
    have e : trimStep (K, S) r = (K ++ [X], S ++ [((K.idxOf X : Nat) : Int)]) := by unfold trimStep; rw [hX]
    rw [e]
    rw [hX] at hx
    refine ⟨by simp [l1], by simp [l2], ?_, ?_, ?_⟩
    · intro i hi
      rcases Nat.lt_or_ge i k with hlt | hge
      · show 0 ≤ (S ++ _).getD i 0 ∧ _
        rw [getI_append (by omega)]; exact H.low i hlt
      · have : i = S.length := by omega
        subst this
        show 0 ≤ (S ++ _).getD S.length 0 ∧ (S ++ _).getD S.length 0 ≤ _
        rw [getI_last]
        have : K.idxOf X ≤ K.length := List.idxOf_le_length
        omega
    · intro i hi
      show (S ++ _).getD i 0 = (((K ++ [X]).idxOf (getR (K ++ [X]) i) : Nat) : Int)
      rcases Nat.lt_or_ge i k with hlt | hge
      · rw [getI_append (by omega), getR_append (by omega), List.idxOf_append, if_pos (getR_mem (by omega))]
        exact H.idx i hlt
      · have : i = K.length := by omega
        subst this
        rw [getR_last]
        have hS : (S ++ [((K.idxOf X : Nat) : Int)]).getD K.length 0 = ((K.idxOf X : Nat) : Int) := by rw [l1, ← l2, getI_last]
        rw [hS, List.idxOf_append]
        split
        · rfl
        · rename_i hn
          rw [List.idxOf_eq_length hn]; simp
    · exact H.ok.snoc (by rw [show (K, S).1.length = k from l1]; exact hx)

theorem needStep_len (ks : List GRule) (l : List Bool) (i : Nat) : (needStep ks l i).length = l.length := by
  unfold needStep; split <;> simp
theorem needDown_len (ks : List GRule) : ∀ (i : Nat) (l : List Bool), (needDown ks i l).length = l.length
  | 0, _ => rfl
  | i + 1, l => by rw [needDown, needDown_len ks i, needStep_len]
theorem needL_len (xs : List GRule) : (needL xs).length = xs.length := by rw [needL, needDown_len]; simp [rootB]
theorem outStep_len (ks : List GRule) (need : List Bool) (p : List GRule × List Int) (i : Nat) : (outStep ks need p i).2.length = p.2.length ∧ (outStep ks need p i).1.length ≤ p.1.length + 1 := by
  unfold outStep; split <;> simp
theorem trimO_succ (xs : List GRule) (k : Nat) : trimO xs (k + 1) = outStep (canon xs).1 (needL xs) (trimO xs k) k := by
  unfold trimO; rw [List.range_succ, List.foldl_append]; rfl
theorem trimO_len (xs : List GRule) : ∀ k, (trimO xs k).2.length = xs.length ∧ (trimO xs k).1.length ≤ k := by
  intro k
  induction k with
  | zero => simp [trimO]
  | succ k ih =>
    rw [trimO_succ]
    have := outStep_len (canon xs).1 (needL xs) (trimO xs k) k
    omega
theorem trimG_len (xs : List GRule) : (trimG xs).length ≤ xs.length := (trimO_len xs xs.length).2
def Small1 (l : List GRule) : Prop := ∀ r ∈ l, r.letter.size ≤ 1
theorem okAll_small {xs : List GRule} (h : OkAll xs) : Small1 xs := by
  intro r hr
  obtain ⟨k, hk⟩ := List.mem_iff_getElem?.1 hr
  exact okRule_small (h k r hk)
theorem trimR_small {s : List Int} {r : GRule} (h : r.letter.size ≤ 1) : (trimR s r).letter.size ≤ 1 := by
  unfold trimR; split
  · exact (by decide : (0 : Nat) ≤ 1)
  · exact h
theorem canon_all {xs : List GRule} (h : OkAll xs) : CanonOk xs.length (canon xs) := by
  have := canon_ok h xs.length (Nat.le_refl _)
  rwa [List.take_length] at this
theorem trimO_small {xs : List GRule} (h : OkAll xs) : ∀ k, k ≤ xs.length → Small1 (trimO xs k).1 := by
  intro k
  induction k with
  | zero => intro _ r hr; simp [trimO] at hr
  | succ k ih =>
    intro hk
    have H := ih (by omega)
    have hc := canon_all h
    rw [trimO_succ]
    unfold outStep
    split
    · intro r hr
      rcases List.mem_append.1 hr with hr | hr
      · exact H r hr
      · rw [List.mem_singleton] at hr; subst hr
        exact trimR_small (okAll_small hc.ok _ (getR_mem (by rw [hc.l1]; omega)))
    · exact H
theorem trimG_small {xs : List GRule} (h : OkAll xs) : SmallL (trimG xs) := fun r hr => Nat.le_trans (trimO_small h xs.length (Nat.le_refl _) r hr) (by decide)
theorem okAll_lens {xs : List GRule} {ls : List Int} (h : lens xs = some ls) : OkAll xs := fun k r hk => (lens_steps h k r hk).1
end Go.Proofs.Ytfapnipmgmpgaaa

namespace Go.Proofs.Ytfapnipmgmpgaaa
open Go.RowKit

/-- Nothing but block b has turned. -/
structure But (b : Nat) (w w' : World) : Prop where
  os : w'.os = w.os
  tape : w'.tape = w.tape
  output : w'.output = w.output
  size : w.heap.size ≤ w'.heap.size
  block : ∀ k, k < w.heap.size → k ≠ b → w'.heap[k]? = w.heap[k]?
theorem But.refl (b : Nat) (w : World) : But b w w := ⟨rfl, rfl, rfl, Nat.le_refl _, fun _ _ _ => rfl⟩
theorem But.trans {b : Nat} {x y z : World} (h : But b x y) (k : But b y z) : But b x z :=
  ⟨k.os.trans h.os, k.tape.trans h.tape, k.output.trans h.output, Nat.le_trans h.size k.size, fun i hi hne => (k.block i (Nat.lt_of_lt_of_le hi h.size) hne).trans (h.block i hi hne)⟩
theorem But.of {b : Nat} {w w' : World} (h : Below w.heap.size w w') : But b w w' := ⟨h.os, h.tape, h.output, h.size, fun k hk _ => h.block k hk⟩
theorem But.below {b B : Nat} {w w' : World} (h : But b w w') (hB : B ≤ b) (hw : B ≤ w.heap.size) : Below B w w' := ⟨h.os, h.tape, h.output, h.size, fun k hk => h.block k (Nat.lt_of_lt_of_le hk hw) (by omega)⟩
theorem But.cell {b : Nat} {w w' : World} (h : But b w w') {p : Addr} (hp : p.block < w.heap.size) (hne : p.block ≠ b) : w'.cell? p = w.cell? p := by
  simp only [World.cell?, h.block _ hp hne]
theorem But.drew {b : Nat} {w w' : World} (h : But b w w') : But b w w'.drew := ⟨h.os, h.tape, h.output, h.size, h.block⟩
theorem But.drewN {b : Nat} {w w' : World} (h : But b w w') (n : Nat) : But b w (w'.drewN n) := ⟨h.os, h.tape, h.output, h.size, h.block⟩
theorem But.setCell {b o : Nat} {w w' : World} (h : But b w w') (v : Value) : But b w (w'.setCell ⟨b, o, none⟩ v) :=
  ⟨h.os, h.tape, h.output, by simpa [World.setCell] using h.size, fun k hk hne => by
    rw [← h.block k hk hne]
    simp only [World.setCell, Array.getElem?_modify]
    rw [if_neg (fun e => hne e.symm)]⟩
theorem But.alloc {b : Nat} {w w' : World} (h : But b w w') (o : Obj) : But b w (w'.alloc o) :=
  ⟨h.os, h.tape, h.output, Nat.le_trans h.size (by simp), fun k hk hne => (Below.heap_alloc w' o k (Nat.lt_of_lt_of_le hk h.size)).trans (h.block k hk hne)⟩
theorem But.tr {b : Nat} {w w1 w2 : World} (h : But b w w1) (hb : Below w1.heap.size w1 w2) : But b w w2 := h.trans (But.of hb)
end Go.Proofs.Ytfapnipmgmpgaaa

namespace Go.Proofs.Ytfapnipmgmpgaaa
open Go.RowKit

/-- Block b holds the cells a. -/
def Blk (w : World) (b : Nat) (a : Array Value) (t : TypeId) : Prop := w.heap[b]? = some (.cells a t (0, 0))
section
variable {w w' : World} {b N : Nat} {a : Array Value} {t : TypeId}
theorem Blk.lt (h : Blk w b a t) : b < w.heap.size := (Array.getElem?_eq_some_iff.1 h).1
theorem Blk.up (h : Blk w b a t) (hb : Below w.heap.size w w') : Blk w' b a t := (hb.block b h.lt).trans h
theorem Blk.upB (h : Blk w b a t) (hb : Below N w w') (hlt : b < N) : Blk w' b a t := (hb.block b hlt).trans h
theorem Blk.cell (h : Blk w b a t) {i : Nat} {v : Value} (hi : a[i]? = some v) : w.cell? ⟨b, i, none⟩ = some v := by
  rw [cell_of_row w b i a t (0, 0) h, hi]
theorem Blk.frozen (h : Blk w b a t) (i : Nat) : w.frozen? ⟨b, i, none⟩ = false := by
  simp [World.frozen?, show w.heap[b]? = _ from h]
theorem Blk.set (h : Blk w b a t) (i : Nat) (v : Value) : Blk (w.setCell ⟨b, i, none⟩ v) b (a.setIfInBounds i v) t := by
  obtain ⟨hlt, hk⟩ := Array.getElem?_eq_some_iff.1 h
  show (w.heap.modify b _)[b]? = _
  rw [Array.getElem?_eq_getElem (by rw [Array.size_modify]; exact hlt), Array.getElem_modify_self, hk]
  rfl
theorem Blk.other (h : Blk w b a t) {p : Addr} (hne : b ≠ p.block) (v : Value) : Blk (w.setCell p v) b a t := (Below.heap_setCell w p v b hne).trans h
theorem Blk.alloc (h : Blk w b a t) (o : Obj) : Blk (w.alloc o) b a t := (Below.heap_alloc w o b h.lt).trans h
theorem Blk.drew (h : Blk w b a t) : Blk w.drew b a t := h
theorem Blk.new (w : World) (a : Array Value) (t : TypeId) : Blk (w.alloc (.cells a t)) w.heap.size a t := heap_alloc_new w _
end
theorem Blk.but {w w' : World} {b c : Nat} {a : Array Value} {t : TypeId} (h : Blk w c a t) (hb : But b w w') (hne : c ≠ b) : Blk w' c a t := (hb.block c h.lt hne).trans h
/-- What holds below a world with a new block holds below the world. -/
theorem Below.unalloc {w w' : World} {o : Obj} (hb : Below (w.alloc o).heap.size (w.alloc o) w') : Below w.heap.size w w' ∧ w'.heap[w.heap.size]? = some o :=
  ⟨((Below.refl w.heap.size w).alloc (Nat.le_refl _) o).trans (hb.mono (by simp)), (hb.block _ (by simp)).trans (heap_alloc_new w o)⟩
theorem Below.undrew {w w' : World} (hb : Below w.drew.heap.size w.drew w') : Below w.heap.size w w' := ((Below.refl w.heap.size w).drew).trans hb
theorem Below.up {w0 w w' : World} {N : Nat} (h : Below N w0 w) (hb : Below w.heap.size w w') (hN : N ≤ w0.heap.size) : Below N w0 w' := h.trans (hb.mono (Nat.le_trans hN h.size))
theorem Below.tr {w0 w w' : World} (h : Below w0.heap.size w0 w) (hb : Below w.heap.size w w') : Below w0.heap.size w0 w' := h.trans (hb.mono h.size)
theorem SlS.upN {α : Type} {E : Enc α} {w w' : World} {N : Nat} {v : Value} {xs : List α} (h : Sl E w N v xs) (hN : N ≤ w.heap.size) (hb : Below w.heap.size w w') : Sl E w' N v xs := h.below (hb.mono hN)
end Go.Proofs.Ytfapnipmgmpgaaa

namespace Go.Proofs.Ytfapnipmgmpgaaa
open Go.RowKit

/-- A row of rules of one's own, between two block numbers. -/
def OwnR (w : World) (lo hi : Nat) (v : Value) (l : List GRule) : Prop := OwnRules w lo v l ∧ (∀ g, v.ownBlock = some g → g < hi) ∧ hi ≤ w.heap.size
section
variable {w w' : World} {lo hi : Nat} {v : Value} {l : List GRule} {row : Option Nat}
theorem OwnR.of (h : OwnRules w lo v l) : OwnR w lo w.heap.size v l := ⟨h, fun g hg => (World.ownsRow.lt h g hg).2, Nat.le_refl _⟩
theorem OwnR.up (h : OwnR w lo hi v l) (hb : Below w.heap.size w w') : OwnR w' lo hi v l := ⟨OwnRules.below h.1 hb, h.2.1, Nat.le_trans h.2.2 hb.size⟩
theorem OwnR.rng (h : OwnR w lo hi v l) : ∀ g, v.ownBlock = some g → lo ≤ g ∧ g < hi := fun g hg => ⟨(World.ownsRow.lt h.1 g hg).1, h.2.1 g hg⟩
theorem OwnR.grown (h : OwnR w lo hi v l) (hg : w.grownBy w' row) (hr : ∀ g, row = some g → g < lo ∨ hi ≤ g) : OwnR w' lo hi v l :=
  ⟨OwnRules.keep h.1 hg fun g hgg e => by have h1 := h.rng g hgg; have h2 := hr g e.symm; omega, h.2.1, Nat.le_trans h.2.2 hg.size⟩
theorem OwnR.alloc (h : OwnR w lo hi v l) (o : Obj) : OwnR (w.alloc o) lo hi v l := ⟨World.ownsRow.alloc h.1 o, h.2.1, Nat.le_trans h.2.2 (by simp)⟩
theorem OwnR.sl (h : OwnR w lo hi v l) : Sl RuleE w w.heap.size v l := OwnRules.sl h.1
end
/-- Only blocks between lo and hi have turned (and new ones have come). -/
structure Chg (lo hi : Nat) (w w' : World) : Prop where
  os : w'.os = w.os
  tape : w'.tape = w.tape
  output : w'.output = w.output
  size : w.heap.size ≤ w'.heap.size
  block : ∀ k, k < w.heap.size → k < lo ∨ hi ≤ k → w'.heap[k]? = w.heap[k]?
theorem Chg.refl (lo hi : Nat) (w : World) : Chg lo hi w w := ⟨rfl, rfl, rfl, Nat.le_refl _, fun _ _ _ => rfl⟩
theorem Chg.trans {lo hi : Nat} {x y z : World} (h : Chg lo hi x y) (k : Chg lo hi y z) : Chg lo hi x z :=
  ⟨k.os.trans h.os, k.tape.trans h.tape, k.output.trans h.output, Nat.le_trans h.size k.size, fun i hi1 hne => (k.block i (Nat.lt_of_lt_of_le hi1 h.size) hne).trans (h.block i hi1 hne)⟩
theorem Chg.of_below {lo hi : Nat} {x y : World} (h : Below x.heap.size x y) : Chg lo hi x y := ⟨h.os, h.tape, h.output, h.size, fun k hk _ => h.block k hk⟩
theorem chg_of {w w' : World} {lo hi : Nat} {v : Value} {l : List GRule} (h : OwnR w lo hi v l) (hg : w.grownBy w' v.ownBlock) : Chg lo hi w w' :=
  ⟨hg.os, hg.tape, hg.output, hg.size, fun k hk hne => hg.block k hk fun e => by have := h.rng k e.symm; omega⟩
theorem Chg.mono {lo hi lo' hi' : Nat} {x y : World} (h : Chg lo hi x y) (h1 : lo' ≤ lo) (h2 : hi ≤ hi') : Chg lo' hi' x y := ⟨h.os, h.tape, h.output, h.size, fun k hk hne => h.block k hk (by omega)⟩
theorem Chg.below {lo hi N : Nat} {x y : World} (h : Chg lo hi x y) (h1 : N ≤ lo) (h2 : N ≤ x.heap.size) : Below N x y := ⟨h.os, h.tape, h.output, h.size, fun k hk => h.block k (Nat.lt_of_lt_of_le hk h2) (by omega)⟩
theorem Blk.chg {w w' : World} {b lo hi : Nat} {a : Array Value} {t : TypeId} (h : Blk w b a t) (hc : Chg lo hi w w') (hne : b < lo ∨ hi ≤ b) : Blk w' b a t := (hc.block b h.lt hne).trans h
theorem OwnR.chg {w w' : World} {lo hi lo' hi' : Nat} {v : Value} {l : List GRule} (h : OwnR w lo hi v l) (hc : Chg lo' hi' w w') (hne : hi ≤ lo' ∨ hi' ≤ lo) : OwnR w' lo hi v l :=
  ⟨own_keep h.1 fun g hg => hc.block g (by have := h.rng g hg; have := h.2.2; omega) (by have := h.rng g hg; omega), h.2.1, Nat.le_trans h.2.2 hc.size⟩
theorem OwnR.markedC {w w' : World} {lo hi lo' hi' : Nat} {v : Value} {l l' : List GRule} (h : OwnR w lo hi v l) (h' : OwnRules w' lo v l') (hc : Chg lo' hi' w w') : OwnR w' lo hi v l' := ⟨h', h.2.1, Nat.le_trans h.2.2 hc.size⟩
theorem Below.chg {w0 w w' : World} {N lo hi : Nat} (h : Below N w0 w) (hN : N ≤ w.heap.size) (hc : Chg lo hi w w') (hl : N ≤ lo) : Below N w0 w' := h.trans (hc.below hl hN)
theorem SlS.chgN {α : Type} {E : Enc α} {w w' : World} {N lo hi : Nat} {v : Value} {xs : List α} (h : Sl E w N v xs) (hN : N ≤ w.heap.size) (hc : Chg lo hi w w') (hl : N ≤ lo) : Sl E w' N v xs := h.below (hc.below hl hN)
theorem Blk.grown {w w' : World} {b : Nat} {a : Array Value} {t : TypeId} {row : Option Nat} (h : Blk w b a t) (hg : w.grownBy w' row) (hne : ∀ g, row = some g → g ≠ b) : Blk w' b a t :=
  (hg.block b h.lt (fun e => hne b e.symm rfl)).trans h
theorem Below.grown {w0 w w' : World} {N : Nat} {row : Option Nat} (h : Below N w0 w) (hN : N ≤ w.heap.size) (hg : w.grownBy w' row) (hr : ∀ g, row = some g → N ≤ g) : Below N w0 w' := h.trans (below_of_grown hg hN hr)
end Go.Proofs.Ytfapnipmgmpgaaa

namespace Go.Proofs.Ytfapnipmgmpgaaa
open Go.RowKit

theorem Try.infoF : (Try.prog.info? 101).map (fun i => (i.zero, i.size, i.bytes)) = some (some (.agg #[.string ⟨#[]⟩, .int .i64 0, .int .i64 0]), 3, 32) := by kernel_rfl
/-- An own row of factors: a factor is a text and two numbers, as a rule is. -/
def OwnFacs (w : World) (base : Nat) (v : Value) (l : List GRule) : Prop := w.ownsRow base 101 3 v l.length (l.flatMap GRule.cells)
theorem szFactor_any (l : ByteArray) (a b left : Int) (w : World) (hs : l.size ≤ 9223372036854775807) (hl : 0 ≤ left ∧ left ≤ 1048576) :
    Calls Try.prog 67 #[.agg #[.string l, .int .i64 a, .int .i64 b], .int .i64 left] w fun e w' => e = .returned (.int .i64 (szN l.size left)) ∧ Below w.heap.size w w' := by
  go_enter Try.func67, Try.ntmps67
  go_wp2
  all_goals
    go_ret
    exact ⟨ret_int (by unfold szN; split <;> omega), (by repeat (first | exact (Below.refl _ _) | (refine Below.alloc ?_ (by first | omega | (simp; done) | (simp; omega)) _) | refine below_drewN ?_ _ | refine Below.drew ?_))⟩
theorem szFactorS_any (v : Value) (xs : List GRule) (left : Int) (w : World) (h : Sl RuleE w w.heap.size v xs) (hsm : SmallL xs) (hl : 0 ≤ left ∧ left ≤ 1048576) :
    Calls Try.prog 19 #[v, .int .i64 left] w fun e w' => e = .returned (.int .i64 (szRs xs left)) ∧ Below w.heap.size w w' := by
  obtain ⟨A, c, rfl, hc, hm, hrow⟩ := h
  unfold maxLen at hm
  go_enter Try.func19, Try.ntmps19
  go_wp2_with fail
  · go_ret
    exact ⟨ret_int (by unfold szRs szN; rw [if_pos (by omega)]), Below.refl _ _⟩
  · have hs : szN xs.length left = left - xs.length := by unfold szN; rw [if_neg (by omega)]
    have hfin : szRs xs left = szRR xs (left - xs.length) := by unfold szRs; rw [hs, if_neg (by omega)]
    have Hfin := Lib.hid hfin
    clear hs hfin
    go_loopw [1, 5] (fun l i wr => ∃ (k : Nat) (q : Int), k ≤ xs.length ∧ 0 ≤ q ∧ q ≤ 1048576 ∧ i = .int .i64 k ∧ l = .int .i64 q ∧ Hid (szRR (xs.drop k) q = szRs xs left) ∧ Below w.heap.size w wr) (fun _ i _ => xs.length - (intOf i).toNat)
    case atStart => exact ⟨0, _, Nat.zero_le _, by omega, by omega, rfl, rfl, by rw [Hfin.out]; rfl, Below.refl _ _⟩
    case round =>
      obtain ⟨k, q, hk, hq0, hq1, rfl, rfl, HN, hb⟩ := hrel
      by_cases hlt : k < xs.length
      · obtain ⟨b, o, rfl, hbl, hcell⟩ := hrow.rule hlt
        obtain ⟨x, hx⟩ : ∃ x, xs[k]? = some x := ⟨_, List.getElem?_eq_getElem hlt⟩
        obtain ⟨g0, g1, g2⟩ := hcell k x hx
        have hc0 := (hb.cell (p := ⟨b, o + k * 3, none⟩) hbl).trans g0
        have hc1 := (hb.cell (p := ⟨b, o + k * 3 + 1, none⟩) hbl).trans g1
        have hc2 := (hb.cell (p := ⟨b, o + k * 3 + 2, none⟩) hbl).trans g2
        have hsx := hsm x (List.mem_of_getElem? hx)
        have Hx := Lib.hid hx
        clear hcell hx g0 g1 g2
        go_wp2_with (first | (go_at_call 67; go_must (refine (szFactor_any _ _ _ _ _ hsx ⟨hq0, hq1⟩).mono ?_); rintro e w2 ⟨rfl, hb2⟩))
        · go_ret
          exact ⟨ret_int (by have := HN.out; rw [szRR_at _ _ _ _ Hx.out, if_pos (by assumption)] at this; exact this), hb.trans (hb2.mono hb.size)⟩
        · have h2 : 0 ≤ szN x.letter.size q := by assumption
          have h3 : szN x.letter.size q ≤ q := by unfold szN at h2 ⊢; split at h2 <;> split <;> omega
          go_roundw
          case rel => exact ⟨k + 1, _, by omega, h2, by omega, by go_num, rfl, by have := HN.out; rw [szRR_at _ _ _ _ Hx.out, if_neg (by omega)] at this; exact this, hb.trans (hb2.mono hb.size)⟩
          case measure => simp [intOf]; omega
      · go_wp2
        go_ret
        exact ⟨ret_int (by have := HN.out; rw [List.drop_eq_nil_of_le (by omega)] at this; exact this), hb⟩
theorem toFactor_any (l : ByteArray) (a b : Int) (w : World) :
    Calls Try.prog 73 #[.agg #[.string l, .int .i64 a, .int .i64 b]] w fun e w' => e = .returned (.agg #[.string l, .int .i64 a, .int .i64 b]) ∧ Below w.heap.size w w' := by
  go_enter Try.func73, Try.ntmps73
  go_wp2
  exact bodyPost_ret (v := .agg #[.string l, .int .i64 a, .int .i64 b]) (by simp [results, Try.results73, go_sem]) rfl ⟨rfl, (by repeat (first | exact (Below.refl _ _) | (refine Below.alloc ?_ (by first | omega | (simp; done) | (simp; omega)) _) | refine below_drewN ?_ _ | refine Below.drew ?_))⟩
theorem eqFactor_any (l : ByteArray) (a b : Int) (w : World) :
    Calls Try.prog 81 #[.agg #[.string l, .int .i64 a, .int .i64 b], .agg #[.string l, .int .i64 a, .int .i64 b]] w fun e w' => e = .returned (.bool true) ∧ (w.alloc (.cells #[.string l, .int .i64 a, .int .i64 b] 101)).alloc (.cells #[.string l, .int .i64 a, .int .i64 b] 101) = w' := by
  go_enter Try.func81, Try.ntmps81
  go_wp2
  go_ret
  exact ⟨rfl, rfl⟩
theorem eqFactorS_any (v v' : Value) (xs : List GRule) (w : World) (h : Sl RuleE w w.heap.size v xs) (h' : Sl RuleE w w.heap.size v' xs) :
    Calls Try.prog 24 #[v, v'] w fun e w' => e = .returned (.bool true) ∧ Below w.heap.size w w' := by
  obtain ⟨A, c, rfl, hc, hm, hrow⟩ := h
  obtain ⟨A', c', rfl, hc', hm', hrow'⟩ := h'
  unfold maxLen at hm
  have hn : xs.length ≤ 9223372036854775807 := by omega
  clear hm hm'
  go_enter Try.func24, Try.ntmps24
  go_wp2_with fail
  go_loopw [5] (fun i wr => ∃ (k : Nat), k ≤ xs.length ∧ i = .int .i64 k ∧ Below w.heap.size w wr) (fun i _ => xs.length - (intOf i).toNat)
  case atStart => exact ⟨0, Nat.zero_le _, rfl, Below.refl _ _⟩
  case round =>
    obtain ⟨k, hk, rfl, hb⟩ := hrel
    by_cases hlt : k < xs.length
    · obtain ⟨b, o, rfl, hbl, hcell⟩ := hrow.rule hlt
      obtain ⟨b', o', rfl, hbl', hcell'⟩ := hrow'.rule hlt
      obtain ⟨x, hx⟩ : ∃ x, xs[k]? = some x := ⟨_, List.getElem?_eq_getElem hlt⟩
      obtain ⟨g0, g1, g2⟩ := hcell k x hx
      obtain ⟨g0', g1', g2'⟩ := hcell' k x hx
      have hc0 := (hb.cell (p := ⟨b, o + k * 3, none⟩) hbl).trans g0
      have hc1 := (hb.cell (p := ⟨b, o + k * 3 + 1, none⟩) hbl).trans g1
      have hc2 := (hb.cell (p := ⟨b, o + k * 3 + 2, none⟩) hbl).trans g2
      have hc0' := (hb.cell (p := ⟨b', o' + k * 3, none⟩) hbl').trans g0'
      have hc1' := (hb.cell (p := ⟨b', o' + k * 3 + 1, none⟩) hbl').trans g1'
      have hc2' := (hb.cell (p := ⟨b', o' + k * 3 + 2, none⟩) hbl').trans g2'
      have hi : (k : Int) < (xs.length : Int) := by omega
      have hsz : w.heap.size ≤ wr.heap.size := hb.size
      have hb1 : b < wr.heap.size := by omega
      have hb1' : b' < wr.heap.size := by omega
      clear hcell hcell' hx g0 g1 g2 g0' g1' g2'
      go_wp2_with fail
      go_region_held3 (fun w' => w'.cell? ⟨b, o + k * 3, none⟩ = some (.string x.letter) ∧ w'.cell? ⟨b, o + k * 3 + 1, none⟩ = some (.int .i64 x.left) ∧ w'.cell? ⟨b, o + k * 3 + 2, none⟩ = some (.int .i64 x.right) ∧ w'.cell? ⟨b', o' + k * 3, none⟩ = some (.string x.letter) ∧ w'.cell? ⟨b', o' + k * 3 + 1, none⟩ = some (.int .i64 x.left) ∧ w'.cell? ⟨b', o' + k * 3 + 2, none⟩ = some (.int .i64 x.right)) (go_keep)
        (first | (go_at_call 81; refine (eqFactor_any _ _ _ _).mono ?_; rintro e w2 ⟨rfl, rfl⟩))
      go_wp2
      go_roundw
      case rel => exact ⟨k + 1, by omega, by go_num, (by repeat (first | exact hb | (refine Below.alloc ?_ (by first | omega | (simp; done) | (simp; omega)) _) | refine below_drewN ?_ _ | refine Below.drew ?_))⟩
      case measure => simp [intOf]; omega
    · go_wp2
      go_ret
      exact ⟨rfl, hb⟩
theorem OwnFacs.stored3 {w : World} {base g n cap : Nat} {rs : List GRule} (h : w.ownsRow base 101 3 (.slice (some ⟨g, 0, none⟩) n cap) n (rs.flatMap GRule.cells)) (k : Nat) (r : GRule) (hk : k < rs.length) :
    (((w.setCell ⟨g, k * 3, none⟩ (.string r.letter)).setCell ⟨g, k * 3 + 1, none⟩ (.int .i64 r.left)).setCell ⟨g, k * 3 + 2, none⟩ (.int .i64 r.right)).ownsRow base 101 3 (.slice (some ⟨g, 0, none⟩) n cap) n ((rs.set k r).flatMap GRule.cells) ∧
    w.grownBy (((w.setCell ⟨g, k * 3, none⟩ (.string r.letter)).setCell ⟨g, k * 3 + 1, none⟩ (.int .i64 r.left)).setCell ⟨g, k * 3 + 2, none⟩ (.int .i64 r.right)) (some g) := by
  obtain ⟨h1, g1⟩ := World.ownsRow.stored h (k * 3) (.string r.letter)
  obtain ⟨h2, g2⟩ := World.ownsRow.stored h1 (k * 3 + 1) (.int .i64 r.left)
  obtain ⟨h3, g3⟩ := World.ownsRow.stored h2 (k * 3 + 2) (.int .i64 r.right)
  rw [set3 rs k r hk] at h3
  exact ⟨h3, grown_trans (grown_trans g1 g2) g3⟩
set_option maxRecDepth 100000 in
theorem toFactorS_any (v : Value) (xs : List GRule) (w : World) (h : Sl RuleE w w.heap.size v xs) (hl : xs.length ≤ 1048576) :
    Calls Try.prog 21 #[v] w fun e w' => ∃ v', e = .returned v' ∧ OwnFacs w' w.heap.size v' xs ∧ Below w.heap.size w w' := by
  obtain ⟨A, c, rfl, hc, hm, hrow⟩ := h
  clear hm
  obtain ⟨i0, hi0, hz0, hz1, hz2⟩ := info_parts Try.infoF
  go_enter Try.func21, Try.ntmps21
  go_wp2_with (at_make; go_must (refine wpList_make_full _ rfl _ _ 49 rfl w.heap.size 101 i0 _ 3 Try.underlying49 hi0 hz0 hz1 _ _ _ _ xs.length rfl rfl rfl rfl (by rw [hz2]; omega) (by unfold maxLen; omega) (Nat.le_refl _) ?_); intro w1 hown1 hg1; rw [madeRules] at hown1)
  have hb1 : Below w.heap.size w w1 := (Below.refl _ _).grown hg1 (Nat.le_refl _) (by simp)
  have Hown := Lib.hid hown1
  clear hown1 hg1 hi0 hz0 hz1 hz2
  go_loopw [4] (fun i wr => ∃ (k : Nat), k ≤ xs.length ∧ i = .int .i64 k ∧ Below w.heap.size w wr ∧ wr.ownsRow w.heap.size 101 3 (.slice (some ⟨w.heap.size, 0, none⟩) xs.length xs.length) xs.length ((xs.take k ++ List.replicate (xs.length - k) ({ letter := ⟨#[]⟩, left := 0, right := 0 } : GRule)).flatMap GRule.cells)) (fun i _ => xs.length - (intOf i).toNat)
  case atStart => exact ⟨0, Nat.zero_le _, rfl, hb1, by simpa using Hown.out⟩
  case round =>
    obtain ⟨k, hk, rfl, hb, hown⟩ := hrel
    by_cases hlt : k < xs.length
    · obtain ⟨b, o, rfl, hbl, hcell⟩ := hrow.rule hlt
      obtain ⟨x, hx⟩ : ∃ x, xs[k]? = some x := ⟨_, List.getElem?_eq_getElem hlt⟩
      obtain ⟨g0, g1, g2⟩ := hcell k x hx
      have hc0 := (hb.cell (p := ⟨b, o + k * 3, none⟩) hbl).trans g0
      have hc1 := (hb.cell (p := ⟨b, o + k * 3 + 1, none⟩) hbl).trans g1
      have hc2 := (hb.cell (p := ⟨b, o + k * 3 + 2, none⟩) hbl).trans g2
      have Hown := Lib.hid hown
      have Hx := Lib.hid hx
      clear hcell hown hx g0 g1 g2
      go_wp2_with fail
      refine (toFactor_any _ _ _ _).mono ?_
      rintro e w2 ⟨rfl, hb2⟩
      have hown2 := ownsRow_below Hown.out hb2
      have hlen : (xs.take k ++ List.replicate (xs.length - k) ({ letter := ⟨#[]⟩, left := 0, right := 0 } : GRule)).length = xs.length := by simp; omega
      obtain ⟨u0, hu0⟩ : ∃ u, w2.cell? ⟨w.heap.size, k * 3, none⟩ = some u :=
        ⟨_, (hown2.cellAt (k * 3) (by omega)).trans (List.getElem?_eq_getElem (by rw [hown2.1]; omega))⟩
      obtain ⟨u1, hu1⟩ : ∃ u, w2.cell? ⟨w.heap.size, k * 3 + 1, none⟩ = some u :=
        ⟨_, (hown2.cellAt (k * 3 + 1) (by omega)).trans (List.getElem?_eq_getElem (by rw [hown2.1]; omega))⟩
      obtain ⟨u2, hu2⟩ : ∃ u, w2.cell? ⟨w.heap.size, k * 3 + 2, none⟩ = some u :=
        ⟨_, (hown2.cellAt (k * 3 + 2) (by omega)).trans (List.getElem?_eq_getElem (by rw [hown2.1]; omega))⟩
      have hf0 := hown2.frozenAt (k * 3)
      have hf1 := hown2.frozenAt (k * 3 + 1)
      have hf2 := hown2.frozenAt (k * 3 + 2)
      have hst := OwnFacs.stored3 hown2 k x (by omega)
      rw [fill_step xs _ k _ Hx.out] at hst
      have Hst := Lib.hid hst
      have hb3 := hb.trans (hb2.mono hb.size)
      clear hown2 hst hlen hb2
      go_wp2
      go_roundw
      case rel => exact ⟨k + 1, by omega, by go_num, ((hb3.setCell (Nat.le_refl _) _).setCell (Nat.le_refl _) _).setCell (Nat.le_refl _) _, Hst.out.1⟩
      case measure => simp [intOf]; omega
    · have hkn : k = xs.length := by omega
      subst hkn
      have Hown2 := Lib.hid hown
      clear hown
      go_wp2
      go_ret
      exact ⟨_, rfl, by have := Hown2.out; simpa [OwnFacs] using this, hb⟩
set_option maxRecDepth 100000 in
theorem markFactorS_any (base : Nat) (v : Value) (xs : List GRule) (k : Nat) (w : World) (h : OwnFacs w base v xs) (hn : xs.length ≤ 1099511627776) (hk : k ≤ 1099511627776) :
    Calls Try.prog 25 #[v, .int .i64 k] w fun e w' => e = .returned (.int .i64 ((k + 3 * xs.length : Nat) : Int)) ∧ OwnFacs w' base v (marks k xs.length) ∧ w.grownBy w' v.ownBlock := by
  rcases Nat.eq_zero_or_pos xs.length with h0 | h0
  · have hx : xs = [] := List.eq_nil_of_length_eq_zero h0
    subst hx
    have Hown := Lib.hid h
    obtain ⟨A, cap, rfl, _⟩ := own_nil h
    clear h
    go_enter Try.func25, Try.ntmps25
    go_wp2_with fail
    go_loopw [1, 5] (fun q i wr => q = .int .i64 k ∧ i = .int .i64 0 ∧ wr = w) (fun _ _ _ => 0)
    case atStart => exact ⟨rfl, rfl, rfl⟩
    case round =>
      obtain ⟨rfl, rfl, rfl⟩ := hrel
      go_wp2
      go_ret
      exact ⟨by simp, by simpa [marks] using Hown.out, World.grownBy.refl _ _⟩
  · obtain ⟨g, cap, rfl, hgb, hgl, hcap, _⟩ := own_form h h0
    have Hown := Lib.hid h
    clear h hcap
    go_enter Try.func25, Try.ntmps25
    go_wp2_with fail
    go_loopw [1, 5] (fun q i wr => ∃ n : Nat, n ≤ xs.length ∧ q = .int .i64 ((k + 3 * n : Nat) : Int) ∧ i = .int .i64 n ∧ w.grownBy wr (some g) ∧
      wr.ownsRow base 101 3 (.slice (some ⟨g, 0, none⟩) xs.length cap) xs.length ((marks k n ++ xs.drop n).flatMap GRule.cells)) (fun _ i _ => xs.length - (intOf i).toNat)
    case atStart => exact ⟨0, Nat.zero_le _, rfl, rfl, World.grownBy.refl _ _, by have := Hown.out; unfold OwnFacs at this; simpa [marks] using this⟩
    case round =>
      obtain ⟨n, hnl, rfl, rfl, hgr, hown⟩ := hrel
      by_cases hlt : n < xs.length
      · have Hown := Lib.hid hown
        clear hown
        go_wp2_with fail
        refine (markText_int (k + 3 * n) _ _ (by omega) (by omega)).mono ?_
        rintro e w2 ⟨rfl, hb2⟩
        have hown2 := ownsRow_below Hown.out hb2
        have hlen : (marks k n ++ xs.drop n).length = xs.length := by simp [marks_length]; omega
        obtain ⟨u0, hu0⟩ : ∃ u, w2.cell? ⟨g, n * 3, none⟩ = some u :=
          ⟨_, (hown2.cellAt (n * 3) (by omega)).trans (List.getElem?_eq_getElem (by rw [hown2.1]; omega))⟩
        obtain ⟨u1, hu1⟩ : ∃ u, w2.cell? ⟨g, n * 3 + 1, none⟩ = some u :=
          ⟨_, (hown2.cellAt (n * 3 + 1) (by omega)).trans (List.getElem?_eq_getElem (by rw [hown2.1]; omega))⟩
        obtain ⟨u2, hu2⟩ : ∃ u, w2.cell? ⟨g, n * 3 + 2, none⟩ = some u :=
          ⟨_, (hown2.cellAt (n * 3 + 2) (by omega)).trans (List.getElem?_eq_getElem (by rw [hown2.1]; omega))⟩
        have hf0 := hown2.frozenAt (n * 3)
        have hf1 := hown2.frozenAt (n * 3 + 1)
        have hf2 := hown2.frozenAt (n * 3 + 2)
        have hst := OwnFacs.stored3 hown2 n (mark1 k n) (by omega)
        rw [mark_step hlt] at hst
        have Hst := Lib.hid hst
        have Hgr := Lib.hid (grown_below hgr hb2)
        clear hown2 hst hlen hb2 hgr
        go_wp2
        have e1 : (mark1 k n).left = (k : Int) + 3 * n + 1 := by simp [mark1]
        have e2 : (mark1 k n).right = (k : Int) + 3 * n + 1 + 1 := by simp [mark1, Int.add_assoc]
        have hst := Hst.out
        rw [e1, e2] at hst
        go_roundw
        case rel => exact ⟨n + 1, by omega, by congr 1 <;> omega, by go_num, grown_trans Hgr.out hst.2, hst.1⟩
        case measure => simp [intOf]; omega
      · have hkn : n = xs.length := by omega
        subst hkn
        have Hown := Lib.hid hown
        clear hown
        go_wp2
        go_ret
        exact ⟨rfl, by have := Hown.out; rw [List.drop_length, List.append_nil] at this; unfold OwnFacs; rw [marks_length]; exact this, hgr⟩
end Go.Proofs.Ytfapnipmgmpgaaa

namespace Go.Proofs.Ytfapnipmgmpgaaa
open Go.RowKit

/-- A factor is kept as a rule is: its letter, from where (left) and how long (right). The length behind it. -/
def facNext (n : Int) (f : GRule) : Option Int :=
  if f.letter.size = 0 then (if (1 ≤ f.right ∧ 0 ≤ f.left ∧ f.left ≤ n ∧ f.right ≤ n - f.left) ∧ n + f.right ≤ maxL then some (n + f.right) else none)
  else if okRule 0 f = true ∧ n + 1 ≤ maxL then some (n + 1) else none
def facLen : Int → List GRule → Option Int
  | n, [] => some n
  | n, f :: r => match facNext n f with | some m => facLen m r | none => none
def facOk (fs : List GRule) : Bool := decide (fs.length ≤ 120) && (facLen 0 fs).isSome
theorem bytes_empty {s : ByteArray} (h : s.size = 0) : s = ⟨#[]⟩ := by
  cases s with | mk l => cases l with | mk l => cases l with | nil => rfl | cons a b => simp [ByteArray.size] at h
theorem isLet_one (s : ByteArray) (h : 0 < s.size) (h1 : s.size = 1) : isLet s = (decide (97 ≤ (s[0].toNat : Int)) && decide ((s[0].toNat : Int) ≤ 100)) := by
  unfold isLet
  rw [getD0 s h, h1]
  simp
theorem isLetterText_any (s : ByteArray) (w : World) (_hs : s.size ≤ maxLen) :
    Calls Try.prog 165 #[.string s] w fun e w' => e = .returned (.bool (isLet s)) ∧ w = w' := by
  unfold maxLen at _hs
  by_cases h1 : s.size = 1
  · have h0 : 0 < s.size := by omega
    have hi : ((s.size : Nat) : Int) = 1 := by omega
    go_enter Try.func165, Try.ntmps165
    go_wp2_with (first | (go_at_call 108; go_must (refine (isLetter_any _ _).mono ?_); rintro e w' ⟨rfl, rfl⟩))
    all_goals
      go_ret
      exact ⟨ret_bool (by rw [isLet_one s h0 h1] <;> simp_all), rfl⟩
  · have hi : ¬ ((s.size : Nat) : Int) = 1 := by omega
    have hb : (((s.size : Nat) : Int) == 1) = false := by simpa using hi
    go_enter Try.func165, Try.ntmps165
    go_wp2_with fail
    all_goals
      go_ret
      exact ⟨ret_bool (by simp [isLet, h1]), rfl⟩
theorem l05Letter_any (s : ByteArray) (w : World) (hs : s.size ≤ maxLen) :
    Calls Try.prog 163 #[.string s] w fun e w' => e = .returned (.bool (isLet s)) ∧ w = w' := by
  by_cases h1 : s.size = 1
  · have hi : ((s.size : Nat) : Int) = 1 := by omega
    have hw := wordOk_one h1
    have hs2 := hs
    unfold maxLen at hs2
    go_enter Try.func163, Try.ntmps163
    go_wp2_with (first | (go_at_call 42; go_must (refine (l01Ok_any _ _ hs).mono ?_); rintro e w' ⟨rfl, rfl⟩))
    all_goals
      go_ret
      exact ⟨ret_bool (by simp_all), rfl⟩
  · have hi : ¬ ((s.size : Nat) : Int) = 1 := by omega
    have hb : (((s.size : Nat) : Int) == 1) = false := by simpa using hi
    have hs2 := hs
    unfold maxLen at hs2
    go_enter Try.func163, Try.ntmps163
    go_wp2_with fail
    all_goals
      go_ret
      exact ⟨ret_bool (by simp [isLet, h1]), rfl⟩
end Go.Proofs.Ytfapnipmgmpgaaa

namespace Go.Proofs.Ytfapnipmgmpgaaa
open Go.RowKit

theorem facLen_step {fs : List GRule} {k : Nat} {f : GRule} {n : Int} (h : fs[k]? = some f) : facLen n (fs.drop k) = (match facNext n f with | some m => facLen m (fs.drop (k + 1)) | none => none) := by
  obtain ⟨hk, rfl⟩ := List.getElem?_eq_some_iff.1 h
  rw [List.drop_eq_getElem_cons hk]; rfl
theorem facLen_bad {fs : List GRule} {k : Nat} {f : GRule} {n N : Int} (h : fs[k]? = some f) (hn : facLen n (fs.drop k) = facLen N fs) (hb : facNext n f = none) : facLen N fs = none := by
  rw [← hn, facLen_step h, hb]
theorem facLen_good {fs : List GRule} {k : Nat} {f : GRule} {n m N : Int} (h : fs[k]? = some f) (hn : facLen n (fs.drop k) = facLen N fs) (hb : facNext n f = some m) : facLen m (fs.drop (k + 1)) = facLen N fs := by
  rw [← hn, facLen_step h, hb]
theorem facOk_bad {fs : List GRule} (h : facLen 0 fs = none) : facOk fs = false := by simp [facOk, h]
theorem nextR_no {n : Int} {f : GRule} (hz : f.letter.size = 0) (h : ¬ (1 ≤ f.right ∧ 0 ≤ f.left ∧ f.left ≤ n ∧ f.right ≤ n - f.left)) : facNext n f = none := by
  unfold facNext; rw [if_pos hz, if_neg (fun x => h x.1)]
theorem nextR_big {n : Int} {f : GRule} (hz : f.letter.size = 0) (h : maxL < n + f.right) : facNext n f = none := by
  unfold facNext; rw [if_pos hz, if_neg (fun x => by have := x.2; omega)]
theorem nextR_ok {n : Int} {f : GRule} (hz : f.letter.size = 0) (h : 1 ≤ f.right ∧ 0 ≤ f.left ∧ f.left ≤ n ∧ f.right ≤ n - f.left) (hm : n + f.right ≤ maxL) : facNext n f = some (n + f.right) := by
  unfold facNext; rw [if_pos hz, if_pos ⟨h, hm⟩]
theorem okR0 {f : GRule} (hz : ¬ f.letter.size = 0) : okRule 0 f = (isLet f.letter && f.left == 0 && f.right == 0) := by
  have : f.pair = false := by simpa [GRule.pair] using hz
  simp [okRule, this]
theorem nextL_no {n : Int} {f : GRule} (hz : ¬ f.letter.size = 0) (h : okRule 0 f = false) : facNext n f = none := by
  unfold facNext; rw [if_neg hz, if_neg (fun x => by rw [h] at x; cases x.1)]
theorem nextL_big {n : Int} {f : GRule} (hz : ¬ f.letter.size = 0) (h : maxL < n + 1) : facNext n f = none := by
  unfold facNext; rw [if_neg hz, if_neg (fun x => by have := x.2; omega)]
theorem nextL_ok {n : Int} {f : GRule} (hz : ¬ f.letter.size = 0) (h : okRule 0 f = true) (hm : n + 1 ≤ maxL) : facNext n f = some (n + 1) := by
  unfold facNext; rw [if_neg hz, if_pos ⟨h, hm⟩]
def FLen (fs : List GRule) (w : World) (r : Ending) (w' : World) : Prop := Below w.heap.size w w' ∧ ∃ n : Int, r = .returned (.tuple #[.int .i64 n, .bool (facOk fs)])
set_option maxRecDepth 100000 in
set_option maxHeartbeats 4000000 in
theorem l06Length_any (v : Value) (fs : List GRule) (w : World) (h : Sl RuleE w w.heap.size v fs) (hsm : SmallL fs) :
    Calls Try.prog 125 #[v] w (FLen fs w) := by
  obtain ⟨A, c, rfl, hc, hm, hrow⟩ := h
  unfold maxLen at hm
  have HROW := Lib.hid hrow
  by_cases hl : 120 < fs.length
  · have hi : (120 : Int) < (fs.length : Int) := by omega
    go_enter Try.func125, Try.ntmps125
    go_wp2_with fail
    go_ret2
    exact ⟨Below.refl _ _, 0, by have : facOk fs = false := by { simp [facOk]; omega }; rw [this]; rfl⟩
  · have hi : ¬ (120 : Int) < (fs.length : Int) := by omega
    go_enter Try.func125, Try.ntmps125
    go_wp2_with fail
    go_loopw [4, 5] (fun q i wr => ∃ (k : Nat) (n : Int), k ≤ fs.length ∧ 0 ≤ n ∧ n ≤ 1000000000000000 ∧ q = .int .i64 n ∧ i = .int .i64 k ∧ Below w.heap.size w wr ∧ Hid (facLen n (fs.drop k) = facLen 0 fs)) (fun _ i _ => fs.length - (intOf i).toNat)
    case atStart => exact ⟨0, 0, Nat.zero_le _, by omega, by omega, rfl, rfl, Below.refl _ _, by rw [List.drop_zero]; exact Lib.hid rfl⟩
    case round =>
      obtain ⟨k, n, hk, hn0, hn1, rfl, rfl, hB, HF⟩ := hrel
      by_cases hlt : k < fs.length
      · obtain ⟨b, o, rfl, hbl, hcell⟩ := HROW.out.rule hlt
        obtain ⟨f, hf⟩ : ∃ x, fs[k]? = some x := ⟨_, List.getElem?_eq_getElem hlt⟩
        obtain ⟨g0, g1, g2⟩ := hcell k f hf
        have hc0 := (hB.cell (p := ⟨b, o + k * 3, none⟩) hbl).trans g0
        have hc1 := (hB.cell (p := ⟨b, o + k * 3 + 1, none⟩) hbl).trans g1
        have hc2 := (hB.cell (p := ⟨b, o + k * 3 + 2, none⟩) hbl).trans g2
        have hsx := hsm f (List.mem_of_getElem? hf)
        have hsz : w.heap.size ≤ wr.heap.size := hB.size
        have hbw : b < wr.heap.size := by omega
        have hik : (k : Int) < (fs.length : Int) := by omega
        have Hf := Lib.hid hf
        have hbad : facNext n f = none → facOk fs = false := fun h => facOk_bad (facLen_bad hf HF.out h)
        have HBAD := Lib.hid hbad
        have hgood : ∀ m, facNext n f = some m → facLen m (fs.drop (k + 1)) = facLen 0 fs := fun m h => facLen_good hf HF.out h
        have HGOOD := Lib.hid hgood
        have HB := Lib.hid hB
        clear hcell hf g0 g1 g2 hbad hgood HF hB
        by_cases hz : f.letter.size = 0
        · rw [bytes_empty hz] at hc0
          have ws : 0 ≤ f.left ∧ f.left ≤ n → IntKind.i64.wrap (n - f.left) = n - f.left := fun h => IntWalk.i64_in _ (by omega)
          have wa : 1 ≤ f.right ∧ 0 ≤ f.left ∧ f.right ≤ n - f.left → IntKind.i64.wrap (n + f.right) = n + f.right := fun h => IntWalk.i64_in _ (by omega)
          by_cases c1 : f.right < 1
          · have d1 : decide (f.right < 1) = true := by simp [c1]
            go_wp2_with fail
            go_ret2
            exact ⟨(by repeat (first | exact HB.out | (refine Below.alloc ?_ (by first | omega | (simp; done) | (simp; omega)) _) | refine below_drewN ?_ _ | refine Below.drew ?_)), 0, by rw [HBAD.out (nextR_no hz (by omega))]; rfl⟩
          · have d1 : decide (f.right < 1) = false := by simp; omega
            by_cases c2 : f.left < 0
            · have d2 : decide (f.left < 0) = true := by simp [c2]
              go_wp2_with fail
              go_ret2
              exact ⟨(by repeat (first | exact HB.out | (refine Below.alloc ?_ (by first | omega | (simp; done) | (simp; omega)) _) | refine below_drewN ?_ _ | refine Below.drew ?_)), 0, by rw [HBAD.out (nextR_no hz (by omega))]; rfl⟩
            · have d2 : decide (f.left < 0) = false := by simp; omega
              by_cases c3 : n < f.left
              · have d3 : decide (n < f.left) = true := by simp [c3]
                go_wp2_with fail
                go_ret2
                exact ⟨(by repeat (first | exact HB.out | (refine Below.alloc ?_ (by first | omega | (simp; done) | (simp; omega)) _) | refine below_drewN ?_ _ | refine Below.drew ?_)), 0, by rw [HBAD.out (nextR_no hz (by omega))]; rfl⟩
              · have d3 : decide (n < f.left) = false := by simp; omega
                have ws2 := ws (by omega)
                by_cases c4 : n - f.left < f.right
                · have d4 : decide (n - f.left < f.right) = true := by simp [c4]
                  go_wp2_with fail
                  go_ret2
                  exact ⟨(by repeat (first | exact HB.out | (refine Below.alloc ?_ (by first | omega | (simp; done) | (simp; omega)) _) | refine below_drewN ?_ _ | refine Below.drew ?_)), 0, by rw [HBAD.out (nextR_no hz (by omega))]; rfl⟩
                · have d4 : decide (n - f.left < f.right) = false := by simp; omega
                  have wa2 := wa (by omega)
                  by_cases c5 : 1000000000000000 < n + f.right
                  · go_wp2_with fail
                    go_ret2
                    exact ⟨(by repeat (first | exact HB.out | (refine Below.alloc ?_ (by first | omega | (simp; done) | (simp; omega)) _) | refine below_drewN ?_ _ | refine Below.drew ?_)), 0, by rw [HBAD.out (nextR_big hz (by unfold maxL; omega))]; rfl⟩
                  · go_wp2_with fail
                    go_roundw
                    case rel => exact ⟨k + 1, n + f.right, by omega, by omega, by omega, rfl, by go_num, (by repeat (first | exact HB.out | (refine Below.alloc ?_ (by first | omega | (simp; done) | (simp; omega)) _) | refine below_drewN ?_ _ | refine Below.drew ?_)), Lib.hid (HGOOD.out _ (nextR_ok hz (by omega) (by unfold maxL; omega)))⟩
                    case measure => simp [intOf]; omega
        · have hie : f.letter.toList.isEmpty = false := by rw [isEmpty_size]; simpa using hz
          have wa2 : IntKind.i64.wrap (n + 1) = n + 1 := IntWalk.i64_in _ (by omega)
          cases c1 : isLet f.letter with
          | false =>
            have HC1 := Lib.hid c1
            clear c1
            go_wp2_with fail
            refine (l05Letter_any f.letter _ (by unfold maxLen; omega)).mono ?_
            rintro e w' ⟨rfl, rfl⟩
            rw [HC1.out]
            go_wp2_with fail
            go_ret2
            exact ⟨(by repeat (first | exact HB.out | (refine Below.alloc ?_ (by first | omega | (simp; done) | (simp; omega)) _) | refine below_drewN ?_ _ | refine Below.drew ?_)), 0, by rw [HBAD.out (nextL_no hz (by rw [okR0 hz, HC1.out]; rfl))]; rfl⟩
          | true =>
            have HC1 := Lib.hid c1
            clear c1
            by_cases c2 : f.left = 0
            · have b2 : (f.left != 0) = false := by simp [c2]
              have HC2 := Lib.hid c2
              clear c2
              by_cases c3 : f.right = 0
              · have b3 : (f.right != 0) = false := by simp [c3]
                have HOK := Lib.hid (show okRule 0 f = true by rw [okR0 hz, HC1.out, HC2.out, c3]; rfl)
                clear c3
                by_cases c5 : 1000000000000000 < n + 1
                · go_wp2_with fail
                  refine (l05Letter_any f.letter _ (by unfold maxLen; omega)).mono ?_
                  rintro e w' ⟨rfl, rfl⟩
                  rw [HC1.out]
                  go_wp2_with fail
                  go_ret2
                  exact ⟨(by repeat (first | exact HB.out | (refine Below.alloc ?_ (by first | omega | (simp; done) | (simp; omega)) _) | refine below_drewN ?_ _ | refine Below.drew ?_)), 0, by rw [HBAD.out (nextL_big hz (by unfold maxL; omega))]; rfl⟩
                · go_wp2_with fail
                  refine (l05Letter_any f.letter _ (by unfold maxLen; omega)).mono ?_
                  rintro e w' ⟨rfl, rfl⟩
                  rw [HC1.out]
                  go_wp2_with fail
                  go_roundw
                  case rel => exact ⟨k + 1, n + 1, by omega, by omega, by omega, rfl, by go_num, (by repeat (first | exact HB.out | (refine Below.alloc ?_ (by first | omega | (simp; done) | (simp; omega)) _) | refine below_drewN ?_ _ | refine Below.drew ?_)), Lib.hid (HGOOD.out _ (nextL_ok hz HOK.out (by unfold maxL; omega)))⟩
                  case measure => simp [intOf]; omega
              · have b3 : (f.right != 0) = true := by simp [c3]
                have HOK := Lib.hid (show okRule 0 f = false by rw [okR0 hz]; simp [c3])
                clear c3
                go_wp2_with fail
                refine (l05Letter_any f.letter _ (by unfold maxLen; omega)).mono ?_
                rintro e w' ⟨rfl, rfl⟩
                rw [HC1.out]
                go_wp2_with fail
                go_ret2
                exact ⟨(by repeat (first | exact HB.out | (refine Below.alloc ?_ (by first | omega | (simp; done) | (simp; omega)) _) | refine below_drewN ?_ _ | refine Below.drew ?_)), 0, by rw [HBAD.out (nextL_no hz HOK.out)]; rfl⟩
            · have b2 : (f.left != 0) = true := by simp [c2]
              have HOK := Lib.hid (show okRule 0 f = false by rw [okR0 hz]; simp [c2])
              clear c2
              go_wp2_with fail
              refine (l05Letter_any f.letter _ (by unfold maxLen; omega)).mono ?_
              rintro e w' ⟨rfl, rfl⟩
              rw [HC1.out]
              go_wp2_with fail
              go_ret2
              exact ⟨(by repeat (first | exact HB.out | (refine Below.alloc ?_ (by first | omega | (simp; done) | (simp; omega)) _) | refine below_drewN ?_ _ | refine Below.drew ?_)), 0, by rw [HBAD.out (nextL_no hz HOK.out)]; rfl⟩
      · have hkn : k = fs.length := by omega
        subst hkn
        have hok : facOk fs = true := by have := HF.out; rw [List.drop_length] at this; simp [facOk, ← this, facLen]; omega
        have HOK := Lib.hid hok
        clear hok
        go_wp2_with fail
        go_ret2
        exact ⟨hB, n, by rw [HOK.out]; rfl⟩
end Go.Proofs.Ytfapnipmgmpgaaa

