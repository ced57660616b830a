import Derived.Test.YtoemoifeiigkoaaDoorM2
import Derived.StillTailTactics
import Derived.Laws.EntriesVeiled
namespace Go.Proofs.YtoemoifeiigkoaaDoor
open Go.RowKit

/-- What lay in the blocks of C lies there still; of the rest of the world nothing but blocks has turned. -/
structure Wk (C : Nat → Prop) (w w' : World) : Prop where
  os : w'.os = w.os
  tape : w'.tape = w.tape
  output : w'.output = w.output
  size : w.heap.size ≤ w'.heap.size
  block : ∀ k, C k → w'.heap[k]? = w.heap[k]?
section
variable {C C' : Nat → Prop} {a b c : World}
theorem Wk.refl (C : Nat → Prop) (w : World) : Wk C w w := ⟨rfl, rfl, rfl, Nat.le_refl _, fun _ _ => rfl⟩
theorem Wk.trans (h : Wk C a b) (k : Wk C b c) : Wk C a c := ⟨k.os.trans h.os, k.tape.trans h.tape, k.output.trans h.output, Nat.le_trans h.size k.size, fun i hi => (k.block i hi).trans (h.block i hi)⟩
theorem Wk.mono (h : Wk C a b) (hs : ∀ k, C' k → C k) : Wk C' a b := ⟨h.os, h.tape, h.output, h.size, fun i hi => h.block i (hs i hi)⟩
theorem Wk.of_below {B : Nat} (h : Below B a b) (hs : ∀ k, C k → k < B) : Wk C a b := ⟨h.os, h.tape, h.output, h.size, fun i hi => h.block i (hs i hi)⟩
theorem Wk.below {B : Nat} (h : Wk C a b) (hs : ∀ k, k < B → C k) : Below B a b := ⟨h.os, h.tape, h.output, h.size, fun i hi => h.block i (hs i hi)⟩
theorem Wk.keep (h : Wk C a b) : Keep C a b := fun i hi => h.block i hi
theorem Wk.cell {k o : Nat} {v : Value} (h : Wk C a b) (hk : C k) (hc : a.cell? ⟨k, o, none⟩ = some v) : b.cell? ⟨k, o, none⟩ = some v := (h.keep.cell hk).trans hc
end

def getR (xs : List GRule) (r : Nat) : GRule := xs.getD r ⟨⟨#[]⟩, 0, 0⟩
/-- The rules that are met, from left to right, when a rule is taken apart for a part of its word. -/
def coverR (xs : List GRule) (ls : List Int) (i j : Int) : Nat → Nat → Int → List Nat
  | 0, _, _ => []
  | f + 1, r, p =>
    if p + ls.getD r 0 ≤ i ∨ j ≤ p then [] else if i ≤ p ∧ p + ls.getD r 0 ≤ j then [r] else
      coverR xs ls i j f (getR xs r).left.toNat p ++ coverR xs ls i j f (getR xs r).right.toNat (p + ls.getD (getR xs r).left.toNat 0)
def piecesL (xs : List GRule) (ls : List Int) (i j : Int) : List Nat := if 0 < xs.length ∧ i < j then coverR xs ls i j xs.length (xs.length - 1) 0 else []

theorem lens_steps {xs : List GRule} {ls : List Int} (h : lens xs = some ls) : ∀ (k : Nat) r, xs[k]? = some r → okRule k r = true ∧ ls.getD k 0 = ruleLen ls r := by
  suffices H : ∀ (ys : List GRule) (a o : List Int), ys.foldl lensStep (some a) = some o → (∃ t, o = a ++ t) ∧ ∀ (k : Nat) r, ys[k]? = some r → okRule (a.length + k) r = true ∧ o.getD (a.length + k) 0 = ruleLen o r by
    intro k r hr
    have := (H xs [] ls h).2 k r hr
    simpa using this
  intro ys
  induction ys with
  | nil => intro a o h; simp at h; subst h; exact ⟨⟨[], by simp⟩, fun k r hr => by simp at hr⟩
  | cons x ys ih =>
    intro a o h
    simp only [List.foldl_cons, lensStep, Option.bind_some] at h
    split at h
    · rename_i hc
      obtain ⟨⟨t, ht⟩, h2⟩ := ih _ _ h
      subst ht
      refine ⟨⟨ruleLen a x :: t, by simp⟩, fun k r hr => ?_⟩
      cases k with
      | zero =>
        simp at hr
        subst hr
        refine ⟨by simpa using hc.1, ?_⟩
        have e : (a ++ [ruleLen a x] ++ t).getD (a.length + 0) 0 = ruleLen a x := by
          rw [List.getD_eq_getElem?_getD, List.getElem?_append_left (by simp), List.getElem?_append_right (by omega)]
          simp
        rw [e]
        unfold ruleLen
        split
        · rename_i hp
          have hok := hc.1
          simp only [okRule, hp, if_true, Bool.and_eq_true, decide_eq_true_eq] at hok
          rw [List.append_assoc]
          simp only [List.getD_eq_getElem?_getD]
          rw [List.getElem?_append_left (by omega), List.getElem?_append_left (by omega)]
        · rfl
      | succ k =>
        have := h2 k r (by simpa using hr)
        simp only [List.length_append, List.length_cons, List.length_nil] at this
        rw [show a.length + (k + 1) = a.length + (0 + 1) + k by omega]
        exact this
    · rw [lens_none] at h; cases h
theorem getR_at {xs : List GRule} {r : Nat} (h : r < xs.length) : xs[r]? = some (getR xs r) := by
  unfold getR; rw [List.getD_eq_getElem?_getD, List.getElem?_eq_getElem h]; rfl
theorem lens_pos' {xs : List GRule} {ls : List Int} (h : lens xs = some ls) {r : Nat} (hr : r < xs.length) : 1 ≤ ls.getD r 0 ∧ ls.getD r 0 ≤ 1000000000000000 := by
  have hl := lens_length h
  have := lens_pos h ls[r] (List.getElem_mem (by omega))
  rw [List.getD_eq_getElem?_getD, List.getElem?_eq_getElem (by omega)]; exact this
theorem lens_pair {xs : List GRule} {ls : List Int} (h : lens xs = some ls) {r : Nat} (hr : r < xs.length) (hp : (getR xs r).pair = true) :
    0 ≤ (getR xs r).left ∧ (getR xs r).left.toNat < r ∧ 0 ≤ (getR xs r).right ∧ (getR xs r).right.toNat < r ∧ ls.getD r 0 = ls.getD (getR xs r).left.toNat 0 + ls.getD (getR xs r).right.toNat 0 := by
  obtain ⟨h1, h2⟩ := lens_steps h r _ (getR_at hr)
  simp only [okRule, hp, if_true, Bool.and_eq_true, decide_eq_true_eq] at h1
  simp only [ruleLen, hp, if_true] at h2
  exact ⟨h1.1.1.1, by omega, h1.1.2, by omega, h2⟩
theorem lens_letter {xs : List GRule} {ls : List Int} (h : lens xs = some ls) {r : Nat} (hr : r < xs.length) (hp : (getR xs r).pair = false) : ls.getD r 0 = 1 := by
  obtain ⟨h1, h2⟩ := lens_steps h r _ (getR_at hr)
  simpa [ruleLen, hp] using h2

section
variable {σ : Type}
/-- An object that is no row of bytes. -/
def NoB (o : Obj) : Prop := ∀ c fz, o ≠ .cells c 5 fz
theorem NoB.cells {c : Array Value} {t : TypeId} {fz : Nat × Nat} (h : t ≠ 5) : NoB (.cells c t fz) := fun _ _ e => by
  injection e with _ h2 _; exact h h2
/-- No row of bytes lies from a up in a world. -/
def NewNoB (a : Nat) (w : World) : Prop := ∀ k, a ≤ k → ∀ c fz, w.heap[k]? ≠ some (.cells c 5 fz)
theorem NewNoB.same (w : World) : NewNoB w.heap.size w := fun k hk c fz e => by
  have := (Array.getElem?_eq_some_iff.1 e).1
  omega
theorem NewNoB.alloc {a : Nat} {w : World} (h : NewNoB a w) {o : Obj} (ho : NoB o) : NewNoB a (w.alloc o) := fun k hk c fz e => by
  have hl := (Array.getElem?_eq_some_iff.1 e).1
  rcases Nat.lt_or_ge k w.heap.size with h1 | h1
  · rw [Below.heap_alloc _ _ _ h1] at e
    exact h k hk c fz e
  · have : k = w.heap.size := by simp at hl; omega
    subst this
    rw [heap_alloc_new] at e
    exact ho c fz (Option.some.inj e)
/-- What each step may count on. -/
def Runs (step : σ → Nat → σ) (Ok : σ → Nat → Prop) (s : σ) (l : List Nat) : Prop := ∀ l1 r l2, l = l1 ++ r :: l2 → Ok (l1.foldl step s) r
theorem Runs.one {step : σ → Nat → σ} {Ok : σ → Nat → Prop} {s : σ} {r : Nat} (h : Runs step Ok s [r]) : Ok s r := h [] r [] rfl
theorem Runs.left {step : σ → Nat → σ} {Ok : σ → Nat → Prop} {s : σ} {a b : List Nat} (h : Runs step Ok s (a ++ b)) : Runs step Ok s a := fun l1 r l2 e => h l1 r (l2 ++ b) (by rw [e]; simp)
theorem Runs.right {step : σ → Nat → σ} {Ok : σ → Nat → Prop} {s : σ} {a b : List Nat} (h : Runs step Ok s (a ++ b)) : Runs step Ok (a.foldl step s) b := fun l1 r l2 e => by
  have := h (a ++ l1) r l2 (by rw [e]; simp)
  rwa [List.foldl_append] at this
theorem Runs.all {step : σ → Nat → σ} {Ok : σ → Nat → Prop} {s : σ} {l : List Nat} (h : ∀ s r, Ok s r) : Runs step Ok s l := fun _ _ _ _ => h _ _
/-- Behind a call: the ghost state is s', in a larger set of kept blocks. -/
def TakePost (J : (Nat → Prop) → σ → World → Prop) (C : Nat → Prop) (s' : σ) (w : World) (e : Ending) (w' : World) : Prop :=
  e = .returned (.tuple #[]) ∧ ∃ C', (∀ b, C b → C' b) ∧ (∀ b, C' b → b < w'.heap.size) ∧ J C' s' w' ∧ Wk C w w'
/-- What the closure 'take' has captured. -/
structure PSet (w : World) (C : Nat → Prop) (bl bi bj bw bg bt : Nat) (vL vW vR : Value) (i j : Int) (ls : List Int) (xs : List GRule) : Prop where
  cl : w.cell? ⟨bl, 0, none⟩ = some vL
  ci : w.cell? ⟨bi, 0, none⟩ = some (.int .i64 i)
  cj : w.cell? ⟨bj, 0, none⟩ = some (.int .i64 j)
  cw : w.cell? ⟨bw, 0, none⟩ = some vW
  cg : w.cell? ⟨bg, 0, none⟩ = some vR
  ct : w.cell? ⟨bt, 0, none⟩ = some (.func (.func 76) #[] #[.pointer (some ⟨bl, 0, none⟩), .pointer (some ⟨bi, 0, none⟩), .pointer (some ⟨bj, 0, none⟩), .pointer (some ⟨bw, 0, none⟩), .pointer (some ⟨bg, 0, none⟩), .pointer (some ⟨bt, 0, none⟩)])
  ml : C bl
  mi : C bi
  mj : C bj
  mw : C bw
  mg : C bg
  mt : C bt
  sl : SlS IntE w C vL ls
  sr : SlS RuleE w C vR xs
  lt : ∀ b, C b → b < w.heap.size
theorem PSet.up {w w' : World} {C C' : Nat → Prop} {bl bi bj bw bg bt : Nat} {vL vW vR : Value} {i j : Int} {ls : List Int} {xs : List GRule} (h : PSet w C bl bi bj bw bg bt vL vW vR i j ls xs)
    (hw : Wk C w w') (hs : ∀ b, C b → C' b) (hl : ∀ b, C' b → b < w'.heap.size) : PSet w' C' bl bi bj bw bg bt vL vW vR i j ls xs :=
  ⟨hw.cell h.ml h.cl, hw.cell h.mi h.ci, hw.cell h.mj h.cj, hw.cell h.mw h.cw, hw.cell h.mg h.cg, hw.cell h.mt h.ct, hs _ h.ml, hs _ h.mi, hs _ h.mj, hs _ h.mw, hs _ h.mg, hs _ h.mt,
    (h.sl.keep hw.keep).more hs, (h.sr.keep hw.keep).more hs, hl⟩

/-- The set C with the blocks from a up to b. -/
def ext (C : Nat → Prop) (a b : Nat) : Nat → Prop := fun k => C k ∨ (a ≤ k ∧ k < b)

set_option maxRecDepth 100000 in
set_option maxHeartbeats 2000000 in
theorem take_any (J : (Nat → Prop) → σ → World → Prop) (step : σ → Nat → σ) (Ok : σ → Nat → Prop) (F : FuncId) (cap : Array Value) (xs : List GRule) (ls : List Int) (i j : Int) (hlens : lens xs = some ls) 
    (eg : ∀ args w, (callFunc F args).run Tryd.prog w = .ok (.enter F args) w)
    (hext : ∀ C s w w', J C s w → Below w.heap.size w w' → NewNoB w.heap.size w' → (∀ b, C b → b < w.heap.size) → J (ext C w.heap.size w'.heap.size) s w')
    (hwith : ∀ C s (r : Nat) (w : World), J C s w → Ok s r → r < xs.length → (∀ b, C b → b < w.heap.size) → Calls Tryd.prog F (#[.int .i64 r] ++ cap) w (TakePost J C (step s r) w))
    (bl bi bj bw bg bt : Nat) (vL vR : Value) (f : Nat) :
    ∀ (r : Nat) (p : Int) (s : σ) (C : Nat → Prop) (w : World), r < f → r < xs.length → 0 ≤ p → p + ls.getD r 0 ≤ 1000000000000000 → J C s w → Runs step Ok s (coverR xs ls i j f r p) →
      PSet w C bl bi bj bw bg bt vL (.func (.func F) #[] cap) vR i j ls xs →
      Calls Tryd.prog 76 #[.int .i64 r, .int .i64 p, .pointer (some ⟨bl, 0, none⟩), .pointer (some ⟨bi, 0, none⟩), .pointer (some ⟨bj, 0, none⟩), .pointer (some ⟨bw, 0, none⟩), .pointer (some ⟨bg, 0, none⟩), .pointer (some ⟨bt, 0, none⟩)] w
        (TakePost J C ((coverR xs ls i j f r p).foldl step s) w) := by
  induction f with
  | zero => intro r p s C w h; omega
  | succ f ih =>
    intro r p s C w hf hr hp0 hp1 hJ hRu hS
    have Ih := Lib.hid ih
    have HRu := Lib.hid hRu
    clear hRu
    have Hw := Lib.hid hwith
    have He := Lib.hid hext
    have HJ := Lib.hid hJ
    have HS := Lib.hid hS
    clear ih hwith hext hJ
    have hcl := hS.cl
    have hci := hS.ci
    have hcj := hS.cj
    have hcw := hS.cw
    have hll := lens_length hlens
    obtain ⟨AL, cL, rfl, _, _, hrowL⟩ := hS.sl
    obtain ⟨b1, o1, rfl, hb1, hcellL⟩ := hrowL.int (k := r) (by omega)
    have hcr := hcellL r (by omega)
    have hri : (r : Int) < (ls.length : Int) := by omega
    have hpos := lens_pos' hlens hr
    have Hxy : Hid (∀ y, ls.getD r 0 = y → coverR xs ls i j (f + 1) r p = if p + y ≤ i ∨ j ≤ p then [] else if i ≤ p ∧ p + y ≤ j then [r] else
      coverR xs ls i j f (getR xs r).left.toNat p ++ coverR xs ls i j f (getR xs r).right.toNat (p + ls.getD (getR xs r).left.toNat 0)) := by rintro y rfl; rfl
    have Hll := Lib.hid hll
    have HcL := Lib.hid hcellL
    have Hb1 := Lib.hid hb1
    clear hcellL hll
    obtain ⟨n, hn⟩ : ∃ n, ls.getD r 0 = n := ⟨_, rfl⟩
    rw [hn] at hcr hpos hp1
    have Hn := Lib.hid hn
    have hcov := Hxy.out n hn
    have Hcov := Lib.hid hcov
    rw [hcov] at HRu
    clear hn hcov
    have e144 : ∀ args w, (callFunc 76 args).run Tryd.prog w = .ok (.enter 76 args) w := enters_of Tryd.func76 (by kernel_rfl) rfl
    by_cases c1 : p + n ≤ i
    · rw [if_pos (Or.inl c1)] at Hcov HRu
      go_enter Tryd.func76, Tryd.ntmps76
      go_wp2_with fail
      go_end0
      exact ⟨rfl, C, fun _ h => h, HS.out.lt, by rw [Hcov.out]; exact HJ.out, Wk.refl _ _⟩
    · by_cases c2 : j ≤ p
      · rw [if_pos (Or.inr c2)] at Hcov HRu
        go_enter Tryd.func76, Tryd.ntmps76
        go_wp2_with fail
        go_end0
        exact ⟨rfl, C, fun _ h => h, HS.out.lt, by rw [Hcov.out]; exact HJ.out, Wk.refl _ _⟩
      · rw [if_neg (by omega)] at Hcov HRu
        by_cases c34 : i ≤ p ∧ p + n ≤ j
        · rw [if_pos c34] at Hcov HRu
          obtain ⟨c3, c4⟩ := c34
          go_enter Tryd.func76, Tryd.ntmps76
          go_wp2_with fail
          refine (Hw.out C s r w HJ.out HRu.out.one hr HS.out.lt).mono ?_
          rintro e w2 ⟨rfl, C', h1, h2, h3, h4⟩
          go_wp2_with fail
          go_end0
          exact ⟨rfl, C', h1, h2, by rw [Hcov.out]; exact h3, h4⟩
        · rw [if_neg c34] at Hcov HRu
          have hpair : (getR xs r).pair = true := by
            by_cases hp : (getR xs r).pair = true
            · exact hp
            · have := lens_letter hlens hr (by simpa using hp)
              have := Hn.out
              omega
          obtain ⟨hl0, hlr, hr0, hrr, hsum⟩ := lens_pair hlens hr hpair
          obtain ⟨AR, cR, rfl, _, _, hrowR⟩ := HS.out.sr
          obtain ⟨b2, o2, rfl, hb2, hcellR⟩ := hrowR.rule (k := r) hr
          obtain ⟨k0, k1, k2⟩ := hcellR r _ (getR_at hr)
          generalize hR : getR xs r = R at *
          obtain ⟨rs, rl, rr⟩ := R
          obtain ⟨l, rfl⟩ := Int.eq_ofNat_of_zero_le hl0
          obtain ⟨q, rfl⟩ := Int.eq_ofNat_of_zero_le hr0
          simp only [Int.toNat_natCast] at hlr hrr hsum Hcov HRu
          have hcg := HS.out.cg
          have hct := HS.out.ct
          have lbt : bt < w.heap.size := HS.out.lt _ HS.out.mt
          have hpl := lens_pos' hlens (r := l) (by omega)
          have hpq := lens_pos' hlens (r := q) (by omega)
          have hrx : (r : Int) < (xs.length : Int) := by omega
          have hll := Hll.out
          have hsn : n = ls.getD l 0 + ls.getD q 0 := by rw [← Hn.out]; exact hsum
          obtain ⟨m, hm⟩ : ∃ m, ls.getD l 0 = m := ⟨_, rfl⟩
          obtain ⟨m', hm'⟩ : ∃ m', ls.getD q 0 = m' := ⟨_, rfl⟩
          rw [hm] at hsn hpl
          rw [hm'] at hsn hpq
          rw [hm] at Hcov HRu
          have Hm := Lib.hid hm
          have Hm' := Lib.hid hm'
          have Hsn := Lib.hid hsn
          have hl3 : p + m ≤ 1000000000000000 := by omega
          have hq3 : p + m + m' ≤ 1000000000000000 := by omega
          have hq0 : 0 ≤ p + m := by omega
          have Hq0 := Lib.hid hq0
          have Hl3 := Lib.hid hl3
          have Hq3 := Lib.hid hq3
          have hBA : ∀ o, Below w.heap.size w (w.alloc o) := fun o => (Below.refl _ _).alloc (Nat.le_refl _) _
          have HBA := Lib.hid hBA
          have HS1 : ∀ o, PSet (w.alloc o) (ext C w.heap.size (w.alloc o).heap.size) bl bi bj bw bg bt (.slice (some ⟨b1, o1, none⟩) ls.length cL) (.func (.func F) #[] cap) (.slice (some ⟨b2, o2, none⟩) xs.length cR) i j ls xs := fun o =>
            HS.out.up (Wk.of_below (HBA.out o) HS.out.lt) (fun b h => Or.inl h) (fun b h => by rcases h with h | h; exact Nat.lt_of_lt_of_le (HS.out.lt b h) (HBA.out o).size; exact h.2)
          have HJ1 : ∀ o, NoB o → J (ext C w.heap.size (w.alloc o).heap.size) s (w.alloc o) := fun o ho => He.out C s w _ HJ.out (HBA.out o) ((NewNoB.same w).alloc ho) HS.out.lt
          have HSS1 := Lib.hid HS1
          have HJJ1 := Lib.hid HJ1
          have hlx : l < xs.length := by omega
          have hqx : q < xs.length := by omega
          have hlf : l < f := by omega
          have hqf : q < f := by omega
          have Hpair := Lib.hid hpair
          have HR := Lib.hid hR
          have hc34 : (i ≤ p ∧ ¬ p + n ≤ j) ∨ ¬ i ≤ p := by omega
          clear hm hm' hpair hcellR hsum hR hrowL hrowR hb1 hb2 hBA HS1 HJ1 hsn c34
          rcases hc34 with ⟨c3, c4⟩ | c3
          all_goals
            go_enter Tryd.func76, Tryd.ntmps76
            go_wp2_with fail
            refine (Ih.out l p s _ _ hlf hlx hp0 (by rw [Hm.out]; exact Hl3.out) (HJJ1.out _ (NoB.cells (by decide))) HRu.out.left (HSS1.out _)).mono ?_
            rintro e w2 ⟨rfl, C2, g1, g2, g3, g4⟩
            have hbx0 : w2.cell? ⟨w.heap.size, 0, none⟩ = some (.string rs) := g4.cell (Or.inr (by simp)) (by simp [go_sem])
            have hbx1 : w2.cell? ⟨w.heap.size, 1, none⟩ = some (.int .i64 l) := g4.cell (Or.inr (by simp)) (by simp [go_sem])
            have hbx2 : w2.cell? ⟨w.heap.size, 2, none⟩ = some (.int .i64 q) := g4.cell (Or.inr (by simp)) (by simp [go_sem])
            have S2 := Lib.hid ((HSS1.out _).up g4 g1 g2)
            have hcl2 := S2.out.cl
            have hct2 := S2.out.ct
            have hcq : w2.cell? ⟨b1, o1 + l, none⟩ = some (.int .i64 m) := g4.cell (Or.inl Hb1.out) (((HBA.out _).cell (p := ⟨b1, o1 + l, none⟩) (HS.out.lt _ Hb1.out)).trans (by rw [HcL.out l (by have := Hll.out; omega), Hm.out]))
            have hli : (l : Int) < (ls.length : Int) := by have := Hll.out; omega
            go_wp2_with fail
            go_still_tail 10, (by kernel_rfl)
            change wpList _ _ _ _ _ w2.drew
            have HB3 := Lib.hid (Below.drew (Below.refl w2.heap.size w2))
            have HJ3 := Lib.hid (He.out C2 _ w2 _ g3 HB3.out (NewNoB.same w2) g2)
            have S3 := Lib.hid (S2.out.up (Wk.of_below HB3.out g2) (C' := ext C2 w2.heap.size w2.drew.heap.size) (fun b h => Or.inl h) (fun b h => by rcases h with h | h; exact g2 b h; exact h.2))
            have W2 := Lib.hid (((Wk.of_below (HBA.out _) HS.out.lt).trans (g4.mono (C' := C) fun b h => Or.inl h)).trans (Wk.of_below HB3.out (fun b h => g2 _ (g1 _ (Or.inl h)))))
            generalize w2.drew = w3 at *
            go_wp2_with fail
            refine (Ih.out q (p + m) _ _ _ hqf hqx Hq0.out (by rw [Hm'.out]; exact Hq3.out) HJ3.out HRu.out.right S3.out).mono ?_
            rintro e w4 ⟨rfl, C4, k1, k2, k3, k4⟩
            go_wp2_with fail
            go_end0
            refine ⟨rfl, C4, fun b h => k1 _ (Or.inl (g1 _ (Or.inl h))), k2, ?_, ?_⟩
            · rw [Hcov.out, List.foldl_append]; exact k3
            · exact W2.out.trans (k4.mono fun b h => Or.inl (g1 _ (Or.inl h)))
end
end Go.Proofs.YtoemoifeiigkoaaDoor

namespace Go.Proofs.YtoemoifeiigkoaaDoor
open Go.RowKit
section
variable {σ : Type}

set_option maxRecDepth 100000 in
set_option maxHeartbeats 1000000 in
theorem pieces_any (J : (Nat → Prop) → σ → World → Prop) (step : σ → Nat → σ) (Ok : σ → Nat → Prop) (F : FuncId) (cap : Array Value) (xs : List GRule) (ls : List Int) (i j : Int) (hlens : lens xs = some ls) (hxs : xs.length ≤ 1099511627776)
    (eg : ∀ args w, (callFunc F args).run Tryd.prog w = .ok (.enter F args) w)
    (hext : ∀ C s w w', J C s w → Below w.heap.size w w' → NewNoB w.heap.size w' → (∀ b, C b → b < w.heap.size) → J (ext C w.heap.size w'.heap.size) s w')
    (hwith : ∀ C s (r : Nat) (w : World), J C s w → Ok s r → r < xs.length → (∀ b, C b → b < w.heap.size) → Calls Tryd.prog F (#[.int .i64 r] ++ cap) w (TakePost J C (step s r) w))
    (vL vR : Value) (s : σ) (C : Nat → Prop) (w : World) (hJ : J C s w) (hRu : Runs step Ok s (piecesL xs ls i j)) (hlt : ∀ b, C b → b < w.heap.size) (hL : SlS IntE w C vL ls) (hR : SlS RuleE w C vR xs) :
    Calls Tryd.prog 58 #[.agg #[vR], vL, .int .i64 i, .int .i64 j, .func (.func F) #[] cap] w (TakePost J C ((piecesL xs ls i j).foldl step s) w) := by
  have HT := Lib.hid (take_any J step Ok F cap xs ls i j hlens eg hext hwith (w.heap.size + 1) (w.heap.size + 1 + 1) (w.heap.size + 1 + 1 + 1) (w.heap.size + 1 + 1 + 1 + 1) w.heap.size (w.heap.size + 1 + 1 + 1 + 1 + 1) vL vR xs.length)
  have He := Lib.hid hext
  have HJ := Lib.hid hJ
  have HRu := Lib.hid hRu
  clear hRu
  have HL := Lib.hid hL
  have HR := Lib.hid hR
  have Hlt := Lib.hid hlt
  clear hwith hext hJ eg hL
  obtain ⟨AR, cR, rfl, _, _, hrowR⟩ := hR
  clear hrowR
  obtain ⟨AL, cL, rfl, _⟩ := HL.out
  have hB : ∀ o1 o2 o3 o4 o5 o6, Below w.heap.size w ((((((w.alloc o1).alloc o2).alloc o3).alloc o4).alloc o5).alloc o6) := fun o1 o2 o3 o4 o5 o6 => (by repeat (first | exact Below.refl _ _ | (refine Below.alloc ?_ (by first | omega | (simp; done) | (simp; omega)) _) | refine below_drewN ?_ _ | refine Below.drew ?_))
  have hJ6 : ∀ o1 o2 o3 o4 o5 o6, NoB o1 → NoB o2 → NoB o3 → NoB o4 → NoB o5 → NoB o6 → J (ext C w.heap.size (w.heap.size + 6)) s ((((((w.alloc o1).alloc o2).alloc o3).alloc o4).alloc o5).alloc o6) := fun o1 o2 o3 o4 o5 o6 n1 n2 n3 n4 n5 n6 => by
    have := He.out C s w ((((((w.alloc o1).alloc o2).alloc o3).alloc o4).alloc o5).alloc o6) HJ.out (hB _ _ _ _ _ _) ((((((((NewNoB.same w).alloc n1).alloc n2).alloc n3).alloc n4).alloc n5).alloc n6)) Hlt.out
    simpa using this
  have hK6 : ∀ o1 o2 o3 o4 o5 o6, Keep C w ((((((w.alloc o1).alloc o2).alloc o3).alloc o4).alloc o5).alloc o6) := fun o1 o2 o3 o4 o5 o6 => (Wk.of_below (hB _ _ _ _ _ _) Hlt.out).keep
  by_cases h0 : 0 < xs.length ∧ i < j
  · obtain ⟨h1, h2⟩ := h0
    go_enter Tryd.func58, Tryd.ntmps58
    go_wp2_with fail
    rw [show ((xs.length : Int) - 1) = ((xs.length - 1 : Nat) : Int) by omega]
    refine (HT.out (xs.length - 1) 0 s (ext C w.heap.size (w.heap.size + 6)) _ (by omega) (by omega) (by omega) ?_ ?_ ?_ ?_).mono ?_
    · have := lens_pos' hlens (r := xs.length - 1) (by omega); omega
    · exact hJ6 _ _ _ _ _ _ (NoB.cells (by decide)) (NoB.cells (by decide)) (NoB.cells (by decide)) (NoB.cells (by decide)) (NoB.cells (by decide)) (NoB.cells (by decide))
    · have := HRu.out
      rwa [piecesL, if_pos ⟨h1, h2⟩] at this
    · have hk := hK6
      exact ⟨by simp [go_sem], by simp [go_sem], by simp [go_sem], by simp [go_sem], by simp [go_sem], by simp [go_sem], Or.inr (by omega), Or.inr (by omega), Or.inr (by omega), Or.inr (by omega), Or.inr (by omega), Or.inr (by omega), (HL.out.keep (hk _ _ _ _ _ _)).more fun b h => Or.inl h, (HR.out.keep (hk _ _ _ _ _ _)).more fun b h => Or.inl h, fun b h => by
        simp
        rcases h with h | h
        · have := Hlt.out b h; omega
        · exact h.2⟩
    · rintro e w2 ⟨rfl, C2, g1, g2, g3, g4⟩
      go_wp2_with fail
      go_end0
      refine ⟨rfl, C2, fun b h => g1 _ (Or.inl h), g2, ?_, ?_⟩
      · rw [piecesL, if_pos ⟨h1, h2⟩]; exact g3
      · exact (Wk.of_below (hB _ _ _ _ _ _) Hlt.out).trans (g4.mono fun b h => Or.inl h)
  · have hp : piecesL xs ls i j = [] := by rw [piecesL, if_neg h0]
    have Hp := Lib.hid hp
    have hh : ¬ 0 < xs.length ∨ (0 < xs.length ∧ ¬ i < j) := by omega
    clear hp h0
    rcases hh with h1 | ⟨h1, h2⟩
    all_goals
      go_enter Tryd.func58, Tryd.ntmps58
      go_wp2_with fail
      go_end0
      refine ⟨rfl, ext C w.heap.size (w.heap.size + 6), fun b h => Or.inl h, ?_, ?_, Wk.of_below (hB _ _ _ _ _ _) Hlt.out⟩
      · intro b h
        simp
        rcases h with h | h
        · have := Hlt.out b h; omega
        · exact h.2
      · rw [Hp.out]
        exact hJ6 _ _ _ _ _ _ (NoB.cells (by decide)) (NoB.cells (by decide)) (NoB.cells (by decide)) (NoB.cells (by decide)) (NoB.cells (by decide)) (NoB.cells (by decide))
end
end Go.Proofs.YtoemoifeiigkoaaDoor

namespace Go.Proofs.YtoemoifeiigkoaaDoor
open Go.RowKit

/-- The cells of a row, one element behind the other. -/
theorem row_cells {α : Type} {E : Enc α} {w : World} {S : Nat → Prop} {a : Addr} {xs : List α} (h : Row E w S (some a) xs) (cs : List Value) (hcs : cs.length = xs.length * E.size)
    (hc : ∀ k x us, xs[k]? = some x → E.cells w S x us → ∀ j u, us[j]? = some u → cs[k * E.size + j]? = some u) : ∀ j u, cs[j]? = some u → w.cell? (a.add j) = some u := by
  intro j u hu
  have hj : j < xs.length * E.size := by rw [← hcs]; exact (List.getElem?_eq_some_iff.1 hu).1
  have hpos : 0 < xs.length := by
    rcases Nat.eq_zero_or_pos xs.length with h0 | h0
    · rw [h0, Nat.zero_mul] at hj; omega
    · exact h0
  obtain ⟨b, o, he, hs, hr⟩ := h hpos
  injection he with he
  subst he
  have hk : j / E.size < xs.length := (Nat.div_lt_iff_lt_mul E.pos).2 hj
  obtain ⟨us, h1, h2⟩ := hr (j / E.size) xs[j / E.size] (List.getElem?_eq_getElem hk)
  have hm : j % E.size < us.length := by rw [E.len h1]; exact Nat.mod_lt _ E.pos
  have h3 := h2 (j % E.size) us[j % E.size] (List.getElem?_eq_getElem hm)
  have h4 := hc _ _ _ (List.getElem?_eq_getElem hk) h1 (j % E.size) us[j % E.size] (List.getElem?_eq_getElem hm)
  rw [Nat.mul_comm, Nat.div_add_mod] at h3 h4
  rw [h4] at hu
  injection hu with hu
  subst hu
  have : (⟨b, o, none⟩ : Addr).add j = ⟨b, o + j, none⟩ := by unfold Addr.add; split <;> simp_all
  rw [this]; exact h3

theorem cells_len (xs : List GRule) : (xs.flatMap GRule.cells).length = xs.length * 3 := by
  induction xs with
  | nil => rfl
  | cons x xs ih =>
    rw [List.flatMap_cons, List.length_append, ih, List.length_cons]
    show 3 + _ = _
    omega
theorem rules_cells {w : World} {S : Nat → Prop} {a : Addr} {xs : List GRule} (h : Row RuleE w S (some a) xs) : ∀ j u, (xs.flatMap GRule.cells)[j]? = some u → w.cell? (a.add j) = some u := by
  refine row_cells h _ (cells_len xs) ?_
  · intro k x us hk hus j u hu
    obtain ⟨c0, c1, c2⟩ := cells3 xs k x hk
    have e : us = x.cells := hus
    subst e
    match j, hu with
    | 0, hu => simp [GRule.cells] at hu; subst hu; simpa [RuleE] using c0
    | 1, hu => simp [GRule.cells] at hu; subst hu; simpa [RuleE] using c1
    | 2, hu => simp [GRule.cells] at hu; subst hu; simpa [RuleE] using c2
    | j + 3, hu => simp [GRule.cells] at hu
theorem ints_cells {w : World} {S : Nat → Prop} {a : Addr} {xs : List Int} (h : Row IntE w S (some a) xs) : ∀ j u, (xs.map (Value.int .i64))[j]? = some u → w.cell? (a.add j) = some u := by
  refine row_cells h _ (by simp [IntE]) ?_
  intro k x us hk hus j u hu
  have e : us = [.int .i64 x] := hus
  subst e
  cases j with
  | zero => simp at hu; subst hu; simp [IntE, hk]
  | succ j => simp at hu

theorem rules_one (xs : List GRule) : ∀ u ∈ xs.flatMap GRule.cells, u.oneCell' = true := by
  intro u hu
  rw [List.mem_flatMap] at hu
  obtain ⟨x, _, hx⟩ := hu
  simp [GRule.cells] at hx
  rcases hx with rfl | rfl | rfl <;> rfl

theorem run_append_of_nil {P : Program} (w : World) (base : Nat) (t ty e : TypeId) (i : TypeInfo) (size : Nat) (ht : P.underlying t = some (.slice e)) (hi : P.info? e = some i)
    (v : Value) (n : Nat) (xs : List Value) (hown : w.ownsRow base e size v n xs) (c : Nat) : (Builtin.append_ #[t, t] ty #[v, .slice none 0 c]).run P w = .ok v w := by
  rcases hown.2 with ⟨rfl, rfl⟩ | ⟨g, cap, cur, rfl, _, _, hnc, _⟩
  · simp [Builtin.append_, run_underlying ht, sizeOf, typeInfo, hi, Builtin.lenOf, Builtin.firstCells]
  · simp [Builtin.append_, run_underlying ht, sizeOf, typeInfo, hi, Builtin.lenOf, Builtin.firstCells, hnc, storeCells]

/-- 'append(s, x...)' onto a row of the call's own, x any slice of rules. -/
theorem append_rules {W : World} {ops : Array Oper} {rest : List Oper} {o : Oper} {a : Act} {Q : Exit → Act → World → Prop} (hgd : o.guard = none) (s x : Operand)
    (ho : o.op = .call { callee := .builtin .append, args := #[s, x], argTypes := #[24, 24] }) {ys : List GRule} {base : Nat} {v sv : Value} {l : List GRule} {S : Nat → Prop}
    (hs : a.eval s = v) (hx : a.eval x = sv) (hown : OwnRules W base v l) (hsl : SlS RuleE W S sv ys) (hlen : l.length + ys.length ≤ 1099511627776) (hbase : base ≤ W.heap.size)
    (h : ∀ v' w', OwnRules w' base v' (l ++ ys) → W.grownBy w' v.ownBlock → Below base W w' → wpList Tryd.prog ops Q rest (a.put o.dst v') w') :
    wpList Tryd.prog ops Q (o :: rest) a W := by
  obtain ⟨i0, hi0, hz0, hz1, hz2⟩ := info_parts Tryd.infoR
  obtain ⟨A, c, rfl, hc, hm, hrow⟩ := hsl
  refine wpList_plain hgd fun _ hK => ?_
  have H : ∃ v' w', (Builtin.append_ #[24, 24] o.type #[v, .slice A ys.length c]).run Tryd.prog W = .ok v' w' ∧ OwnRules w' base v' (l ++ ys) ∧ W.grownBy w' v.ownBlock := by
    rcases A with _ | ad
    · have h0 : ys = [] := by
        rcases Nat.eq_zero_or_pos ys.length with h0 | h0
        · exact List.eq_nil_of_length_eq_zero h0
        · obtain ⟨b, o, h, _⟩ := hrow h0; cases h
      subst h0
      exact ⟨v, W, run_append_of_nil W base _ _ 83 i0 3 Tryd.underlying24 hi0 v _ _ hown c, by simpa using hown, World.grownBy.refl W _⟩
    · obtain ⟨v', w', hrun, h2, h3, _⟩ := run_append_own_at (P := Tryd.prog) W base 24 o.type 83 i0 _ 3 32 Tryd.underlying24 hi0 hz0 hz1 hz2 rfl (by decide) v _ _ hown ad ys.length c (ys.flatMap GRule.cells)
        (cells_len ys) (rules_cells hrow) (rules_one ys) (by simp only [maxLen]; omega) (by omega) hbase
      exact ⟨v', w', hrun, by unfold OwnRules; simpa using h2, h3⟩
  obtain ⟨v', w', hrun, h2, h3⟩ := H
  unfold Oper.wp execOp
  simp only [ho, resolve, invoke, builtin, Sem.run_bind, Sem.run_pure, Result.andThen_ok, List.map_toArray, List.map_cons, List.map_nil, hs, hx, hrun]
  exact hK _ _ (h v' w' h2 h3 ((Below.refl base W).grown h3 hbase (fun k hk => (World.ownsRow.lt hown k hk).1)))

theorem Clone_any (v : Value) (xs : List GRule) (w : World) (h : Sl RuleE w w.heap.size v xs) (hn : xs.length ≤ 1099511627776) :
    Calls Tryd.prog 52 #[v] w fun e w' => ∃ v', e = .returned v' ∧ OwnRules w' w.heap.size v' xs ∧ Below w.heap.size w w' := by
  have h1 := fun o => (h.below ((Below.refl w.heap.size w).alloc (Nat.le_refl _) o))
  have H1 := Lib.hid h1
  clear h1
  obtain ⟨A, c, rfl, hc, hm, hrow⟩ := h
  rcases A with _ | ad
  · have h0 : xs = [] := by
      rcases Nat.eq_zero_or_pos xs.length with h0 | h0
      · exact List.eq_nil_of_length_eq_zero h0
      · obtain ⟨b, o, h, _⟩ := hrow h0; cases h
    subst h0
    clear hm hrow
    have heq := fun W => Lib.run_eql_slice_nil (P := Tryd.prog) W 24 83 none 0 c 0 0 Tryd.underlying24
    go_enter Tryd.func52, Tryd.ntmps52
    go_wp2
    go_ret
    exact ⟨_, rfl, World.ownsRow_nil _ _ _ _, Below.refl _ _⟩
  · clear hm hrow
    have heq := fun W => Lib.run_eql_slice_nil (P := Tryd.prog) W 24 83 (some ad) xs.length c 0 0 Tryd.underlying24
    go_enter Tryd.func52, Tryd.ntmps52
    go_wp2_with (at_builtin; go_must (refine append_rules rfl _ _ rfl rfl rfl (OwnRules.empty rfl (Nat.le_refl _)) (H1.out _) (by simp; omega) (by simp) ?_); intro v' w1 hown1 hg1 hb1)
    go_ret
    exact ⟨v', rfl, hown1, ((Below.refl _ _).alloc (Nat.le_refl _) _).trans hb1⟩

theorem copied_any (v : Value) (xs : List GRule) (w : World) (h : Sl RuleE w w.heap.size v xs) (hn : xs.length ≤ 1099511627776) :
    Calls Tryd.prog 51 #[.agg #[v]] w fun e w' => ∃ v', e = .returned (.agg #[v']) ∧ OwnRules w' w.heap.size v' xs ∧ Below w.heap.size w w' := by
  have h1 := fun o o' => (h.below (((Below.refl w.heap.size w).alloc (Nat.le_refl _) o).alloc (by simp) o')).le (B' := ((w.alloc o).alloc o').heap.size) (by simp; omega)
  have H1 := Lib.hid h1
  clear h1
  obtain ⟨A, c, rfl, _⟩ := h
  go_enter Tryd.func51, Tryd.ntmps51
  go_wp2_with fail
  refine (Clone_any _ _ _ (H1.out _ _) hn).mono ?_
  rintro e w1 ⟨v1, rfl, hown, hb1⟩
  obtain ⟨A1, c1, rfl, _⟩ := own_nil hown
  obtain ⟨hc1, hf1⟩ := bcell hb1
  have hz1 : w.heap.size + 2 ≤ w1.heap.size := by have := hb1.size; simp at this; omega
  have Hown := Lib.hid hown
  have Hb1 := Lib.hid hb1
  clear hown hb1
  go_wp2
  refine bodyPost_ret (v := .agg #[.slice A1 xs.length c1]) (by simp [results, Tryd.results51, go_sem, hc1]) rfl ⟨_, rfl, ?_, ?_⟩
  · have h4 : w1.ownsRow (w.heap.size + 2) 83 3 (.slice A1 xs.length c1) xs.length (xs.flatMap GRule.cells) := ownsRow_more Hown.out (by simp)
    exact ownsRow_more (ownsRow_setCell_below h4 (by show w.heap.size + 1 < w.heap.size + 2; omega) _) (by omega)
  · exact ((((Below.refl _ _).alloc (Nat.le_refl _) _).alloc (by simp) _).trans (Hb1.out.mono (by simp; omega))).setCell (by show w.heap.size ≤ w.heap.size + 1; omega) _

end Go.Proofs.YtoemoifeiigkoaaDoor

namespace Go.Proofs.YtoemoifeiigkoaaDoor
open Go.RowKit

def dig1 (j : Nat) : ByteArray := ⟨#[UInt8.ofNat (48 + j % 10)]⟩
theorem dig1_size (j : Nat) : (dig1 j).size = 1 := rfl
def digs : Nat → Nat → ByteArray → ByteArray
  | 0, _, acc => acc
  | f + 1, k, acc => if k = 0 then acc else digs f (k / 10) (dig1 k ++ acc)
def mtext (k : Nat) : ByteArray := if k = 0 then ⟨#[109, 48]⟩ else ⟨#[109]⟩ ++ digs k k ⟨#[]⟩

theorem conv1 (W : World) (j : Nat) : (convert 22 9 (.slice (some ⟨W.heap.size, 0, none⟩) 1 1)).run Tryd.prog (W.alloc (.cells #[.int .u8 (48 + (j : Int) % 10)] 5)) = .ok (.string (dig1 j)) (W.alloc (.cells #[.int .u8 (48 + (j : Int) % 10)] 5)) := by
  rw [run_convert_bytes_arg (W.alloc (.cells #[.int .u8 (48 + (j : Int) % 10)] 5)) 22 5 Tryd.underlying22 Tryd.underlying5 W.heap.size 0 1 1 [48 + (j : Int) % 10] rfl
    (fun i hi => by
      have : i = 0 := by omega
      subst this
      simp [go_sem]) 9 Tryd.underlying9]
  have : strOfNums [48 + (j : Int) % 10] = dig1 j := by
    simp only [strOfNums, dig1, List.map_cons, List.map_nil]
    rw [show (48 + (j : Int) % 10).toNat = 48 + j % 10 by omega]
  rw [this]
theorem digs_zero (f : Nat) (acc : ByteArray) : digs f 0 acc = acc := by cases f <;> simp [digs]
def mark1 (k i : Nat) : GRule := { letter := mtext (k + 3 * i), left := (k + 3 * i + 1 : Nat), right := (k + 3 * i + 2 : Nat) }
def marks (k n : Nat) : List GRule := (List.range n).map (mark1 k)
theorem marks_length (k n : Nat) : (marks k n).length = n := by simp [marks]
theorem marks_at (k n i : Nat) (h : i < n) : (marks k n)[i]? = some (mark1 k i) := by simp [marks, h]

theorem grown_below {a b c : World} {row : Option Nat} (h : a.grownBy b row) (k : Below b.heap.size b c) : a.grownBy c row :=
  ⟨k.os.trans h.os, k.tape.trans h.tape, k.output.trans h.output, Nat.le_trans h.size k.size, fun i hi hne => (k.block i (Nat.lt_of_lt_of_le hi h.size)).trans (h.block i hi hne)⟩

theorem mark_step {xs : List GRule} {k n : Nat} (h : n < xs.length) : ((marks k n) ++ xs.drop n).set n (mark1 k n) = marks k (n + 1) ++ xs.drop (n + 1) := by
  rw [List.set_append, if_neg (by rw [marks_length]; omega), marks_length, Nat.sub_self, List.drop_eq_getElem_cons h, List.set_cons_zero]
  simp [marks, List.range_succ]

theorem keepB {wr W W2 : World} {p : Addr} {v : Value} (h : Below wr.heap.size wr W ∧ W.cell? p = some v) (h2 : Below W.heap.size W W2) (hp : p.block < wr.heap.size) : Below wr.heap.size wr W2 ∧ W2.cell? p = some v :=
  ⟨h.1.trans (h2.mono h.1.size), (h2.cell (Nat.lt_of_lt_of_le hp h.1.size)).trans h.2⟩
end Go.Proofs.YtoemoifeiigkoaaDoor

namespace Go.Proofs.YtoemoifeiigkoaaDoor
open Go.RowKit

def turnR (r : GRule) : GRule := { letter := r.letter, left := r.right, right := r.left }
theorem set2 (rs : List GRule) (k : Nat) (r : GRule) (a b : Int) (h : rs[k]? = some r) :
    ((rs.flatMap GRule.cells).set (k * 3 + 1) (.int .i64 a)).set (k * 3 + 2) (.int .i64 b) = (rs.set k { letter := r.letter, left := a, right := b }).flatMap GRule.cells := by
  have hk : k < rs.length := (List.getElem?_eq_some_iff.1 h).1
  rw [← set3 rs k { letter := r.letter, left := a, right := b } hk]
  have h0 := (cells3 rs k r h).1
  have e : (rs.flatMap GRule.cells).set (k * 3) (.string r.letter) = rs.flatMap GRule.cells := by
    apply List.ext_getElem?
    intro j
    rw [List.getElem?_set]
    split
    · rename_i hj; subst hj
      rw [h0]; split
      · rfl
      · rename_i hlt; rw [List.getElem?_eq_none (by omega)] at h0; cases h0
    · rfl
  rw [e]
theorem OwnRules.stored2 {w : World} {base g n cap : Nat} {rs : List GRule} (h : w.ownsRow base 83 3 (.slice (some ⟨g, 0, none⟩) n cap) n (rs.flatMap GRule.cells)) (k : Nat) (r : GRule) (a b : Int) (hk : rs[k]? = some r) :
    ((w.setCell ⟨g, k * 3 + 1, none⟩ (.int .i64 a)).setCell ⟨g, k * 3 + 2, none⟩ (.int .i64 b)).ownsRow base 83 3 (.slice (some ⟨g, 0, none⟩) n cap) n ((rs.set k { letter := r.letter, left := a, right := b }).flatMap GRule.cells) ∧
    w.grownBy ((w.setCell ⟨g, k * 3 + 1, none⟩ (.int .i64 a)).setCell ⟨g, k * 3 + 2, none⟩ (.int .i64 b)) (some g) := by
  obtain ⟨h2, g2⟩ := World.ownsRow.stored h (k * 3 + 1) (.int .i64 a)
  obtain ⟨h3, g3⟩ := World.ownsRow.stored h2 (k * 3 + 2) (.int .i64 b)
  rw [set2 rs k r a b hk] at h3
  exact ⟨h3, grown_trans g2 g3⟩
theorem OwnRules.stored2' {w : World} {base g n cap : Nat} {rs : List GRule} (h : w.ownsRow base 83 3 (.slice (some ⟨g, 0, none⟩) n cap) n (rs.flatMap GRule.cells)) (k : Nat) (r : GRule) (a b : Int) (hk : rs[k]? = some r) :
    ((w.setCell ⟨g, k * 3 + 2, none⟩ (.int .i64 b)).setCell ⟨g, k * 3 + 1, none⟩ (.int .i64 a)).ownsRow base 83 3 (.slice (some ⟨g, 0, none⟩) n cap) n ((rs.set k { letter := r.letter, left := a, right := b }).flatMap GRule.cells) ∧
    w.grownBy ((w.setCell ⟨g, k * 3 + 2, none⟩ (.int .i64 b)).setCell ⟨g, k * 3 + 1, none⟩ (.int .i64 a)) (some g) := by
  obtain ⟨h2, g2⟩ := World.ownsRow.stored h (k * 3 + 2) (.int .i64 b)
  obtain ⟨h3, g3⟩ := World.ownsRow.stored h2 (k * 3 + 1) (.int .i64 a)
  rw [List.set_comm _ _ (by omega), set2 rs k r a b hk] at h3
  exact ⟨h3, grown_trans g2 g3⟩
theorem turn_step {xs : List GRule} {n : Nat} {r : GRule} (h : xs[n]? = some r) : ((xs.take n).map turnR ++ xs.drop n).set n (turnR r) = (xs.take (n + 1)).map turnR ++ xs.drop (n + 1) := by
  obtain ⟨hn, rfl⟩ := List.getElem?_eq_some_iff.1 h
  rw [List.set_append, if_neg (by simp; omega), List.length_map, List.length_take, Nat.min_eq_left (by omega), Nat.sub_self, List.drop_eq_getElem_cons hn, List.set_cons_zero, List.take_add_one, h, List.map_append, List.append_assoc]
  rfl
theorem turn_at {xs : List GRule} {n : Nat} {r : GRule} (h : xs[n]? = some r) : ((xs.take n).map turnR ++ xs.drop n)[n]? = some r := by
  obtain ⟨hn, rfl⟩ := List.getElem?_eq_some_iff.1 h
  rw [List.getElem?_append_right (by simp; omega)]
  simp [Nat.min_eq_left (Nat.le_of_lt hn)]

theorem grown_alloc {a w : World} {row : Option Nat} (h : a.grownBy w row) (o : Obj) : a.grownBy (w.alloc o) row :=
  ⟨h.os, h.tape, h.output, Nat.le_trans h.size (by simp), fun i hi hne => (Below.heap_alloc w o i (Nat.lt_of_lt_of_le hi h.size)).trans (h.block i hi hne)⟩
theorem grown_drew {a w : World} {row : Option Nat} (h : a.grownBy w row) : a.grownBy w.drew row := ⟨h.os, h.tape, h.output, h.size, h.block⟩
theorem alloc_heap_last (w : World) (o : Obj) : (w.alloc o).heap[w.heap.size]? = some o := heap_alloc_new w o

set_option maxRecDepth 100000 in
set_option maxHeartbeats 1000000 in
theorem turnedOver_any (v : Value) (xs : List GRule) (w : World) (h : Sl RuleE w w.heap.size v xs) (hn : xs.length ≤ 1099511627776) :
    Calls Tryd.prog 28 #[.agg #[v]] w fun e w' => ∃ v', e = .returned (.agg #[v']) ∧ OwnRules w' w.heap.size v' (xs.map turnR) ∧ Below w.heap.size w w' := by
  have h1 := fun o o' => (h.below (((Below.refl w.heap.size w).alloc (Nat.le_refl _) o).alloc (by simp) o')).le (B' := ((w.alloc o).alloc o').heap.size) (by simp; omega)
  have H1 := Lib.hid h1
  clear h1
  obtain ⟨A, c, rfl, _⟩ := h
  go_enter Tryd.func28, Tryd.ntmps28
  go_wp2_with fail
  refine (copied_any _ _ _ (H1.out _ _) hn).mono ?_
  rintro e w1 ⟨v1, rfl, hown, hb1⟩
  rcases Nat.eq_zero_or_pos xs.length with h0 | h0
  · have hx : xs = [] := List.eq_nil_of_length_eq_zero h0
    subst hx
    obtain ⟨A1, c1, rfl, _⟩ := own_nil hown
    obtain ⟨hc1, hf1⟩ := bcell hb1
    have hz1 : w.heap.size + 2 ≤ w1.heap.size := by have := hb1.size; simp at this; omega
    have hz3 : w.heap.size + 1 < w1.heap.size := by omega
    have hc2 : w1.cell? ⟨w.heap.size + 1, 0, none⟩ = some (.slice none 0 0) := by rw [hc1 _ _ (by simp)]; simp [go_sem]
    have hf2 : w1.frozen? ⟨w.heap.size + 1, 0, none⟩ = false := by rw [hf1 _ _ (by simp)]; simp [go_sem]
    have Hown := Lib.hid hown
    have Hb1 := Lib.hid hb1
    clear hown hb1 hc1 hf1 h0
    go_wp2_with fail
    go_loopw [11] (fun i wr => i = .int .i64 0 ∧ wr = w1.alloc (Obj.cells #[Value.slice A1 0 c1] 26)) (fun _ _ => 0)
    case atStart => exact ⟨rfl, rfl⟩
    case round =>
      obtain ⟨rfl, rfl⟩ := hrel
      go_wp2
      refine bodyPost_ret (v := .agg #[.slice A1 0 c1]) (by simp [results, Tryd.results28, go_sem, hc2, hz3]) rfl ⟨_, rfl, ?_, ?_⟩
      · have h4 : w1.ownsRow (w.heap.size + 2) 83 3 (.slice A1 0 c1) 0 [] := ownsRow_more Hown.out (by simp)
        exact ownsRow_more (World.ownsRow.alloc (ownsRow_setCell_below h4 (a := ⟨w.heap.size + 1, 0, none⟩) (by show w.heap.size + 1 < w.heap.size + 2; omega) _) _) (by omega)
      · exact (((((Below.refl _ _).alloc (Nat.le_refl _) _).alloc (by simp) _).trans (Hb1.out.mono (by simp; omega))).setCell (by show w.heap.size ≤ w.heap.size + 1; omega) _).alloc (by simp [World.setCell]; omega) _
  · obtain ⟨g, cap, rfl, hgb, hgl, hcap, _⟩ := own_form hown h0
    simp at hgb
    obtain ⟨hc1, hf1⟩ := bcell hb1
    have hz1 : w.heap.size + 2 ≤ w1.heap.size := by have := hb1.size; simp at this; omega
    have Hown := Lib.hid hown
    have Hb1 := Lib.hid hb1
    clear hown hb1 hcap
    go_wp2_with fail
    have hgw : w1.alloc (Obj.cells #[Value.slice (some ⟨g, 0, none⟩) xs.length cap] 26) = w1.alloc (Obj.cells #[Value.slice (some ⟨g, 0, none⟩) xs.length cap] 26) := rfl
    go_loopw [11] (fun i wr => ∃ n : Nat, n ≤ xs.length ∧ i = .int .i64 n ∧ (w1.alloc (Obj.cells #[Value.slice (some ⟨g, 0, none⟩) xs.length cap] 26)).grownBy wr (some g) ∧
      wr.ownsRow (w.heap.size + 2) 83 3 (.slice (some ⟨g, 0, none⟩) xs.length cap) xs.length (((xs.take n).map turnR ++ xs.drop n).flatMap GRule.cells)) (fun i _ => xs.length - (intOf i).toNat)
    case atStart => exact ⟨0, Nat.zero_le _, rfl, World.grownBy.refl _ _, by have := Hown.out; simp only [List.take_zero, List.map_nil, List.nil_append, List.drop_zero]; exact ownsRow_more (World.ownsRow.alloc this _) (by simp)⟩
    case round =>
      obtain ⟨n, hnl, rfl, hgr, hown⟩ := hrel
      have hbx : wr.heap[w1.heap.size]? = some (Obj.cells #[Value.slice (some ⟨g, 0, none⟩) xs.length cap] 26) := by
        rw [hgr.block w1.heap.size (by simp) (by simp; omega)]; exact heap_alloc_new _ _
      have hcb : wr.cell? ⟨w1.heap.size, 0, none⟩ = some (.slice (some ⟨g, 0, none⟩) xs.length cap) := by simp [World.cell?, hbx]
      have hszr : w1.heap.size < wr.heap.size := by have := hgr.size; simp at this; omega
      clear hbx
      by_cases hlt : n < xs.length
      · obtain ⟨r, hr⟩ : ∃ r, xs[n]? = some r := ⟨_, List.getElem?_eq_getElem hlt⟩
        obtain ⟨c0, c1, c2⟩ := cells3 _ _ _ (turn_at hr)
        have hl3 : n * 3 + 2 < xs.length * 3 := by omega
        have hd0 : wr.cell? ⟨g, n * 3, none⟩ = some (.string r.letter) := (hown.cellAt (n * 3) (by omega)).trans c0
        have hd1 : wr.cell? ⟨g, n * 3 + 1, none⟩ = some (.int .i64 r.left) := (hown.cellAt (n * 3 + 1) (by omega)).trans c1
        have hd2 : wr.cell? ⟨g, n * 3 + 2, none⟩ = some (.int .i64 r.right) := (hown.cellAt (n * 3 + 2) (by omega)).trans c2
        have hf0 := hown.frozenAt (n * 3)
        have hfa := hown.frozenAt (n * 3 + 1)
        have hfb := hown.frozenAt (n * 3 + 2)
        have hi : (n : Int) < (xs.length : Int) := by omega
        have hg2 : g < wr.heap.size := by omega
        have Hr := Lib.hid hr
        have Hown := Lib.hid hown
        have Hgr := Lib.hid hgr
        clear hown hgr hr c0 c1 c2 hc1 hf1 hgw
        go_wp2_with fail
        go_region
        go_wp2
        go_roundw
        case rel =>
          refine ⟨n + 1, by omega, by go_num, ?_, ?_⟩
          · exact grown_drew (grown_alloc (grown_trans Hgr.out (OwnRules.stored2 Hown.out n r r.right r.left (turn_at Hr.out)).2) _)
          · rw [← turn_step Hr.out]
            exact World.ownsRow.alloc (OwnRules.stored2 Hown.out n r r.right r.left (turn_at Hr.out)).1 _
        case measure => simp [intOf]; omega
      · have hkn : n = xs.length := by omega
        subst hkn
        have hrb : wr.heap[w.heap.size + 1]? = some (Obj.cells #[Value.slice none 0 0] 26) := by
          rw [hgr.block (w.heap.size + 1) (by simp; omega) (by simp; omega), Below.heap_alloc _ _ _ (by omega), Hb1.out.block _ (by simp)]
          have h9 := alloc_heap_last (w.alloc (Obj.cells #[Value.slice A xs.length c] 26)) (Obj.cells #[Value.slice none 0 0] 26)
          rw [show (w.alloc (Obj.cells #[Value.slice A xs.length c] 26)).heap.size = w.heap.size + 1 by simp] at h9
          exact h9
        have hcr : wr.cell? ⟨w.heap.size + 1, 0, none⟩ = some (.slice none 0 0) := by simp [World.cell?, hrb]
        have hfr : wr.frozen? ⟨w.heap.size + 1, 0, none⟩ = false := by simp [World.frozen?, hrb]
        have Hgr := Lib.hid hgr
        have Hown := Lib.hid hown
        clear hrb hown hgr hc1 hf1 hgw
        go_wp2
        refine bodyPost_ret (v := .agg #[.slice (some ⟨g, 0, none⟩) xs.length cap]) (by simp [results, Tryd.results28, go_sem, hcr]) rfl ⟨_, rfl, ?_, ?_⟩
        · have h4 := Hown.out
          rw [List.take_length, List.drop_length, List.append_nil] at h4
          have h5 := ownsRow_setCell_below h4 (a := ⟨w.heap.size + 1, 0, none⟩) (by show w.heap.size + 1 < w.heap.size + 2; omega) (.slice (some ⟨g, 0, none⟩) xs.length cap)
          unfold OwnRules
          rw [List.length_map]
          exact ownsRow_more h5 (by omega)
        · refine Below.setCell ?_ (by show w.heap.size ≤ w.heap.size + 1; omega) _
          exact ((((((Below.refl _ _).alloc (Nat.le_refl _) _).alloc (by simp) _).trans (Hb1.out.mono (by simp; omega))).alloc (by omega) _).grown Hgr.out (by simp; omega) (fun k hk => by injection hk with hk; omega))

def turnOut (xs : List GRule) : List GRule := if gramOk xs then xs.map turnR else []
def turnCode (xs : List GRule) : Int := if gramOk xs then 0 else 1
def TurnPost (xs : List GRule) (w : World) (e : Ending) (w' : World) : Prop :=
  Below w.heap.size w w' ∧ ∃ v', OwnRules w' w.heap.size v' (turnOut xs) ∧ e = .returned (.tuple #[.agg #[v'], .int .i64 (turnCode xs)])

theorem implTurn_any (v : Value) (xs : List GRule) (w : World) (h : Sl RuleE w w.heap.size v xs) (hn : xs.length ≤ 1099511627776) :
    Calls Tryd.prog 11 #[.agg #[v]] w (TurnPost xs w) := by
  have h1 := fun o o' => (h.below (((Below.refl w.heap.size w).alloc (Nat.le_refl _) o).alloc (by simp) o')).le (B' := ((w.alloc o).alloc o').heap.size) (by simp; omega)
  have H1 := Lib.hid h1
  clear h1
  obtain ⟨A, c, rfl, _⟩ := h
  go_enter Tryd.func11, Tryd.ntmps11
  go_wp2_with fail
  refine (ValidGrammar_any _ _ _ (H1.out _ _) hn).mono ?_
  rintro e w1 ⟨rfl, hb1⟩
  obtain ⟨hc1, hf1⟩ := bcell hb1
  have hz1 : w.heap.size + 2 ≤ w1.heap.size := by have := hb1.size; simp at this; omega
  have hsl := (H1.out (Obj.cells #[Value.slice A xs.length c] 26) (Obj.cells #[Value.slice none 0 0] 26)).up hb1
  have Hsl := Lib.hid hsl
  have Hb1 := Lib.hid (((Below.refl w.heap.size w).alloc (Nat.le_refl _) (Obj.cells #[Value.slice A xs.length c] 26)).alloc (by simp) (Obj.cells #[Value.slice none 0 0] 26) |>.trans (hb1.mono (by simp; omega)))
  clear hb1 hsl
  have hz3 : w.heap.size + 1 < w1.heap.size := by omega
  by_cases hok : gramOk xs = true
  · have hok2 : (!gramOk xs) = false := by simp [hok]
    have Hok := Lib.hid hok
    clear hok
    go_wp2_with fail
    refine (turnedOver_any _ _ _ Hsl.out hn).mono ?_
    rintro e w2 ⟨v2, rfl, hown, hb2⟩
    obtain ⟨A2, c2, rfl, _⟩ := own_nil hown
    obtain ⟨hd1, hg1⟩ := bcell hb2
    have hz2 : w.heap.size + 1 < w2.heap.size := by have := hb2.size; omega
    have hc2 : w2.cell? ⟨w.heap.size + 1, 0, none⟩ = some (.slice none 0 0) := by rw [hd1 _ _ hz3, hc1 _ _ (by simp)]; simp [go_sem]
    have hf2 : w2.frozen? ⟨w.heap.size + 1, 0, none⟩ = false := by rw [hg1 _ _ hz3, hf1 _ _ (by simp)]; simp [go_sem]
    have Hown := Lib.hid hown
    have Hb2 := Lib.hid hb2
    clear hown hb2 hc1 hf1 hd1 hg1
    go_wp2
    refine bodyPost_ret (v := .tuple #[.agg #[.slice A2 (xs.map turnR).length c2], .int .i64 0]) (by simp [results, Tryd.results11, go_sem, hc2]) rfl ⟨?_, _, ?_, by rw [turnCode, if_pos Hok.out]⟩
    · exact (Hb1.out.trans (Hb2.out.mono (by omega))).setCell (by show w.heap.size ≤ w.heap.size + 1; omega) _
    · rw [turnOut, if_pos Hok.out]
      exact ownsRow_more (ownsRow_setCell_below Hown.out (a := ⟨w.heap.size + 1, 0, none⟩) (by show w.heap.size + 1 < w1.heap.size; omega) _) (by omega)
  · have hok2 : (!gramOk xs) = true := by simp [hok]
    have Hok := Lib.hid hok
    clear hok
    have hc2 : w1.cell? ⟨w.heap.size + 1, 0, none⟩ = some (.slice none 0 0) := by rw [hc1 _ _ (by simp)]; simp [go_sem]
    have hf2 : w1.frozen? ⟨w.heap.size + 1, 0, none⟩ = false := by rw [hf1 _ _ (by simp)]; simp [go_sem]
    clear hc1 hf1
    go_wp2
    refine bodyPost_ret (v := .tuple #[.agg #[.slice none 0 0], .int .i64 1]) (by simp [results, Tryd.results11, go_sem, hc2]) rfl ⟨?_, _, ?_, by rw [turnCode, if_neg Hok.out]⟩
    · exact Hb1.out.setCell (by show w.heap.size ≤ w.heap.size + 1; omega) _
    · rw [turnOut, if_neg Hok.out]; exact World.ownsRow_nil _ _ _ _
end Go.Proofs.YtoemoifeiigkoaaDoor

namespace Go.Proofs.YtoemoifeiigkoaaDoor
open Go.RowKit

end Go.Proofs.YtoemoifeiigkoaaDoor

namespace Go.Proofs.YtoemoifeiigkoaaDoor
open Go.RowKit

theorem cell_up {w w' : World} {N b : Nat} {v : Value} (h : w.cell? ⟨b, 0, none⟩ = some v) (hb : Below N w w') (hlt : b < N) : w'.cell? ⟨b, 0, none⟩ = some v := (hb.cell (p := ⟨b, 0, none⟩) hlt).trans h
theorem cell_up_grown {w w' : World} {b : Nat} {row : Option Nat} {v : Value} (h : w.cell? ⟨b, 0, none⟩ = some v) (hg : w.grownBy w' row) (hlt : b < w.heap.size) (hne : some b ≠ row) : w'.cell? ⟨b, 0, none⟩ = some v :=
  (World.cell?_of_block (a := ⟨b, 0, none⟩) (hg.block b hlt hne)).trans h
theorem own_keep {w w' : World} {base e s : Nat} {v : Value} {n : Nat} {xs : List Value} (h : w.ownsRow base e s v n xs) (hk : ∀ g, v.ownBlock = some g → w'.heap[g]? = w.heap[g]?) : w'.ownsRow base e s v n xs := by
  refine ⟨h.1, ?_⟩
  rcases h.2 with hn | ⟨g, cap, cur, rfl, hb, hgg, rest⟩
  · exact .inl hn
  · exact .inr ⟨g, cap, cur, rfl, hb, by rw [hk g rfl]; exact hgg, rest⟩
theorem own_rng {w : World} {base e s : Nat} {v : Value} {n : Nat} {xs : List Value} (h : w.ownsRow base e s v n xs) : ∀ g, v.ownBlock = some g → base ≤ g ∧ g < w.heap.size := h.lt
theorem below_of_grown {w w' : World} {row : Option Nat} {N : Nat} (hg : w.grownBy w' row) (hN : N ≤ w.heap.size) (hr : ∀ g, row = some g → N ≤ g) : Below N w w' :=
  ⟨hg.os, hg.tape, hg.output, hg.size, fun k hk => hg.block k (by omega) (fun e => by have := hr k e.symm; omega)⟩

theorem turnOut_len (xs : List GRule) : (turnOut xs).length ≤ xs.length := by unfold turnOut; split <;> simp
theorem OwnRules.below {w w' : World} {base : Nat} {v : Value} {l : List GRule} (h : OwnRules w base v l) (hb : Below w.heap.size w w') : OwnRules w' base v l := ownsRow_below h hb
theorem OwnRules.keep {w w' : World} {base : Nat} {v : Value} {l : List GRule} {row : Option Nat} (h : OwnRules w base v l) (hg : w.grownBy w' row) (hne : ∀ g, v.ownBlock = some g → some g ≠ row) : OwnRules w' base v l :=
  own_keep h fun g hgg => hg.block g (World.ownsRow.lt h g hgg).2 (hne g hgg)

theorem keepC {wr W W2 : World} {p q : Addr} {v u : Value} (h : Below wr.heap.size wr W ∧ W.cell? p = some v ∧ W.cell? q = some u) (h2 : Below W.heap.size W W2) (hp : p.block < wr.heap.size) (hq : q.block < wr.heap.size) :
    Below wr.heap.size wr W2 ∧ W2.cell? p = some v ∧ W2.cell? q = some u :=
  ⟨h.1.trans (h2.mono h.1.size), (h2.cell (Nat.lt_of_lt_of_le hp h.1.size)).trans h.2.1, (h2.cell (Nat.lt_of_lt_of_le hq h.1.size)).trans h.2.2⟩
theorem Hid_slR {w W w7 : World} {base : Nat} {v : Value} {l : List GRule} (h : OwnRules w base v l) (hb : Below w.heap.size w W) (hb7 : Below W.heap.size W w7) : Sl RuleE w7 w7.heap.size v l :=
  (h.below (hb.trans (hb7.mono hb.size))).sl

end Go.Proofs.YtoemoifeiigkoaaDoor

namespace Go.Proofs.YtoemoifeiigkoaaDoor
open Go.RowKit

theorem within_yes (n a b : Int) (w : World) (h : inR n a b = true) : Calls Tryd.prog 26 #[.int .i64 n, .int .i64 a, .int .i64 b] w fun e w' => e = .returned (.bool true) ∧ w = w' :=
  (within_any n a b w).mono fun _ _ ⟨he, hw⟩ => ⟨by rw [he, ← h]; rfl, hw⟩
theorem within_no (n a b : Int) (w : World) (h : inR n a b = false) : Calls Tryd.prog 26 #[.int .i64 n, .int .i64 a, .int .i64 b] w fun e w' => e = .returned (.bool false) ∧ w = w' :=
  (within_any n a b w).mono fun _ _ ⟨he, hw⟩ => ⟨by rw [he, ← h]; rfl, hw⟩

end Go.Proofs.YtoemoifeiigkoaaDoor

namespace Go.Proofs.YtoemoifeiigkoaaDoor
open Go.RowKit

/-- The value v reads as the automaton a, below block B. -/
def AutoV (w : World) (B : Nat) (v : Value) (a : GAuto) : Prop := ∃ vF vN, v = .agg #[.int .i64 a.states, .int .i64 a.start, vF, vN] ∧ Sl IntE w B vF a.finals ∧ Sl (SliceE IntE) w B vN a.next
theorem AutoV.below {w w' : World} {B : Nat} {v : Value} {a : GAuto} (h : AutoV w B v a) (hb : Below B w w') : AutoV w' B v a := by
  obtain ⟨vF, vN, rfl, h1, h2⟩ := h
  exact ⟨vF, vN, rfl, h1.below hb, h2.below hb⟩
theorem AutoV.le {w : World} {B B' : Nat} {v : Value} {a : GAuto} (h : AutoV w B v a) (hb : B ≤ B') : AutoV w B' v a := by
  obtain ⟨vF, vN, rfl, h1, h2⟩ := h
  exact ⟨vF, vN, rfl, h1.le hb, h2.le hb⟩
theorem AutoV.up {w0 w : World} {v : Value} {a : GAuto} (h : AutoV w0 w0.heap.size v a) (hb : Below w0.heap.size w0 w) : AutoV w w.heap.size v a := (h.below hb).le hb.size

end Go.Proofs.YtoemoifeiigkoaaDoor

namespace Go.Proofs.YtoemoifeiigkoaaDoor
open Go.RowKit

theorem any_false_of {α : Type} {p : α → Bool} {d : α} {l : List α} (h : ∀ i, i < l.length → p (l.getD i d) = true) : (l.any fun r => !p r) = false := by
  rw [List.any_eq_false]
  intro x hx
  obtain ⟨i, hi, rfl⟩ := List.getElem_of_mem hx
  have := h i hi
  rw [List.getD_eq_getElem?_getD, List.getElem?_eq_getElem hi, Option.getD_some] at this
  simp [this]
theorem any_true_of {α : Type} {p : α → Bool} {d : α} {l : List α} (i : Nat) (hi : i < l.length) (h : p (l.getD i d) = false) : (l.any fun r => !p r) = true := by
  rw [List.any_eq_true]
  rw [List.getD_eq_getElem?_getD, List.getElem?_eq_getElem hi, Option.getD_some] at h
  exact ⟨l[i], List.getElem_mem hi, by simp [h]⟩
theorem rowOk_no1 {s : Int} {row : List Int} (h : row.length ≠ 4) : rowOk s row = false := by simp [rowOk, h]
theorem rowOk_no2 {s : Int} {row : List Int} (i : Nat) (hi : i < row.length) (h : inR (row.getD i 0) 0 (s - 1) = false) : rowOk s row = false := by
  unfold rowOk; rw [any_true_of (p := fun x => inR x 0 (s - 1)) (d := 0) i hi h]; simp
theorem rowOk_yes {s : Int} {row : List Int} (h : row.length = 4) (h' : ∀ i, i < 4 → inR (row.getD i 0) 0 (s - 1) = true) : rowOk s row = true := by
  unfold rowOk; rw [any_false_of (p := fun x => inR x 0 (s - 1)) (d := 0) (by rw [h]; exact h')]; simp [h]
theorem nextOk_no {s : Int} {next : List (List Int)} (i : Nat) (hi : i < next.length) (h : rowOk s (next.getD i []) = false) : nextOk s next = false := by
  unfold nextOk; rw [any_true_of (p := rowOk s) (d := []) i hi h]; simp
theorem nextOk_of {s : Int} {next : List (List Int)} (h : ∀ i, i < next.length → rowOk s (next.getD i []) = true) : nextOk s next = ((next.length : Int) == s) := by
  unfold nextOk; rw [any_false_of (p := rowOk s) (d := []) h]; simp

end Go.Proofs.YtoemoifeiigkoaaDoor

namespace Go.Proofs.YtoemoifeiigkoaaDoor
open Go.RowKit

def szA (a : GAuto) (left : Int) : Int := if szN a.finals.length left < 0 then -1 else if szII a.next (szN a.finals.length left) < 0 then -1 else szII a.next (szN a.finals.length left)
theorem szII_le (xs : List (List Int)) (left : Int) (h0 : 0 ≤ left) : szII xs left ≤ left := by
  unfold szII
  split
  · omega
  · have := szNN_le xs (szN xs.length left) (by omega)
    have h3 : szN xs.length left ≤ left := by unfold szN; split <;> omega
    omega
theorem szNN_all (xs : List (List Int)) : ∀ left : Int, 0 ≤ szNN xs left → left ≤ 1048576 → ∀ x ∈ xs, x.length ≤ 1048576 := by
  induction xs with
  | nil => intro l _ _ x hx; simp at hx
  | cons y ys ih =>
    intro l h hl x hx
    unfold szNN at h
    split at h
    · omega
    · rename_i hn
      have h3 : szN y.length l ≤ l := by unfold szN at *; split at hn <;> split <;> omega
      have h4 : (y.length : Int) ≤ l := by unfold szN at hn; split at hn <;> omega
      rcases List.mem_cons.1 hx with rfl | hx
      · omega
      · exact ih _ h (by omega) x hx
theorem szA_le {a : GAuto} (h : 0 ≤ szA a 1048576) : a.finals.length ≤ 1048576 ∧ a.next.length ≤ 1048576 ∧ ∀ x ∈ a.next, x.length ≤ 1048576 := by
  unfold szA at h
  split at h
  · omega
  · rename_i h1
    split at h
    · omega
    · rename_i h2
      have h3 : szN a.finals.length 1048576 ≤ 1048576 := by unfold szN; split <;> omega
      have h4 : (a.finals.length : Int) ≤ 1048576 := by unfold szN at h1; split at h1 <;> omega
      unfold szII at h
      split at h
      · omega
      · rename_i h5
        have h6 : szN a.next.length (szN a.finals.length 1048576) ≤ 1048576 := by unfold szN at *; (repeat' split) <;> omega
        have h7 : (a.next.length : Int) ≤ 1048576 := by unfold szN at h5 h6 h3; (repeat' split at h5) <;> omega
        exact ⟨by omega, by omega, szNN_all _ _ h h6⟩

theorem Keep.of_set {S : Nat → Prop} {w : World} {p : Addr} (h : ¬ S p.block) (v : Value) : Keep S w (w.setCell p v) := by
  intro b hb
  exact heap_setCell_other w p b v (fun e => h (e ▸ hb))
theorem Keep.of_set2 {N M b o : Nat} {w : World} (h : b < N) (v : Value) : Keep (fun k => N ≤ k ∧ k < M) w (w.setCell ⟨b, o, none⟩ v) := Keep.of_set (fun h' => by have := h'.1; simp at this; omega) v

end Go.Proofs.YtoemoifeiigkoaaDoor

