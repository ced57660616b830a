import Derived.Test.YtfkijaamfmpboaaM1
import Derived.StillTailTactics
import Derived.Laws.EntriesVeiled
import Derived.Lib.UnsafeStr
import Derived.Laws.IdiomStrings
import Derived.BigQuiet
import Derived.Lib.Builder
import Derived.Laws.Bits64b
import Derived.Deep.RegionLaw
import Derived.RangeFuncBox
import Derived.Deep.DeepCutAuto
import Derived.Deep.CutBlock
namespace Go.Proofs.Ytfkijaamfmpboaa
open Go.RowKit
structure Wk (C : Nat → Prop) (w w' : World) : Prop where
  os : w'.os = w.os
  tape : w'.tape = w.tape
  output : w'.output = w.output
  size : w.heap.size ≤ w'.heap.size
  block : ∀ k, C k → w'.heap[k]? = w.heap[k]?
section
variable {C C' : Nat → Prop} {a b c : World}
theorem Wk.refl (C : Nat → Prop) (w : World) : Wk C w w := ⟨rfl, rfl, rfl, Nat.le_refl _, fun _ _ => rfl⟩
theorem Wk.trans (h : Wk C a b) (k : Wk C b c) : Wk C a c := ⟨k.os.trans h.os, k.tape.trans h.tape, k.output.trans h.output, Nat.le_trans h.size k.size, fun i hi => (k.block i hi).trans (h.block i hi)⟩
theorem Wk.mono (h : Wk C a b) (hs : ∀ k, C' k → C k) : Wk C' a b := ⟨h.os, h.tape, h.output, h.size, fun i hi => h.block i (hs i hi)⟩
theorem Wk.of_below {B : Nat} (h : Below B a b) (hs : ∀ k, C k → k < B) : Wk C a b := ⟨h.os, h.tape, h.output, h.size, fun i hi => h.block i (hs i hi)⟩
theorem Wk.below {B : Nat} (h : Wk C a b) (hs : ∀ k, k < B → C k) : Below B a b := ⟨h.os, h.tape, h.output, h.size, fun i hi => h.block i (hs i hi)⟩
theorem Wk.keep (h : Wk C a b) : Keep C a b := fun i hi => h.block i hi
theorem Wk.cell {k o : Nat} {v : Value} (h : Wk C a b) (hk : C k) (hc : a.cell? ⟨k, o, none⟩ = some v) : b.cell? ⟨k, o, none⟩ = some v := (h.keep.cell hk).trans hc
end
def getR (xs : List GRule) (r : Nat) : GRule := xs.getD r ⟨⟨#[]⟩, 0, 0⟩
def coverR (xs : List GRule) (ls : List Int) (i j : Int) : Nat → Nat → Int → List Nat
  | 0, _, _ => []
  | f + 1, r, p =>
    if p + ls.getD r 0 ≤ i ∨ j ≤ p then [] else if i ≤ p ∧ p + ls.getD r 0 ≤ j then [r] else
      coverR xs ls i j f (getR xs r).left.toNat p ++ coverR xs ls i j f (getR xs r).right.toNat (p + ls.getD (getR xs r).left.toNat 0)
def piecesL (xs : List GRule) (ls : List Int) (i j : Int) : List Nat := if 0 < xs.length ∧ i < j then coverR xs ls i j xs.length (xs.length - 1) 0 else []
theorem lens_steps {xs : List GRule} {ls : List Int} (h : lens xs = some ls) : ∀ (k : Nat) r, xs[k]? = some r → okRule k r = true ∧ ls.getD k 0 = ruleLen ls r := by
  suffices H : ∀ (ys : List GRule) (a o : List Int), ys.foldl lensStep (some a) = some o → (∃ t, o = a ++ t) ∧ ∀ (k : Nat) r, ys[k]? = some r → okRule (a.length + k) r = true ∧ o.getD (a.length + k) 0 = ruleLen o r by
    intro k r hr
    have := (H xs [] ls h).2 k r hr
    simpa using this
  intro ys
  induction ys with
  | nil => intro a o h; simp at h; subst h; exact ⟨⟨[], by simp⟩, fun k r hr => by simp at hr⟩
  | cons x ys ih =>
    intro a o h
    simp only [List.foldl_cons, lensStep, Option.bind_some] at h
    split at h
    · rename_i hc
      obtain ⟨⟨t, ht⟩, h2⟩ := ih _ _ h
      subst ht
      refine ⟨⟨ruleLen a x :: t, by simp⟩, fun k r hr => ?_⟩
      cases k with
      | zero =>
        simp at hr
        subst hr
        refine ⟨by simpa using hc.1, ?_⟩
        have e : (a ++ [ruleLen a x] ++ t).getD (a.length + 0) 0 = ruleLen a x := by
          rw [List.getD_eq_getElem?_getD, List.getElem?_append_left (by simp), List.getElem?_append_right (by omega)]
          simp
        rw [e]
        unfold ruleLen
        split
        · rename_i hp
          have hok := hc.1
          simp only [okRule, hp, if_true, Bool.and_eq_true, decide_eq_true_eq] at hok
          rw [List.append_assoc]
          simp only [List.getD_eq_getElem?_getD]
          rw [List.getElem?_append_left (by omega), List.getElem?_append_left (by omega)]
        · rfl
      | succ k =>
        have := h2 k r (by simpa using hr)
        simp only [List.length_append, List.length_cons, List.length_nil] at this
        rw [show a.length + (k + 1) = a.length + (0 + 1) + k by omega]
        exact this
    · rw [lens_none] at h; cases h
theorem getR_at {xs : List GRule} {r : Nat} (h : r < xs.length) : xs[r]? = some (getR xs r) := by
  unfold getR; rw [List.getD_eq_getElem?_getD, List.getElem?_eq_getElem h]; rfl
theorem lens_pos' {xs : List GRule} {ls : List Int} (h : lens xs = some ls) {r : Nat} (hr : r < xs.length) : 1 ≤ ls.getD r 0 ∧ ls.getD r 0 ≤ 1000000000000000 := by
  have hl := lens_length h
  have := lens_pos h ls[r] (List.getElem_mem (by omega))
  rw [List.getD_eq_getElem?_getD, List.getElem?_eq_getElem (by omega)]; exact this
theorem lens_pair {xs : List GRule} {ls : List Int} (h : lens xs = some ls) {r : Nat} (hr : r < xs.length) (hp : (getR xs r).pair = true) :
    0 ≤ (getR xs r).left ∧ (getR xs r).left.toNat < r ∧ 0 ≤ (getR xs r).right ∧ (getR xs r).right.toNat < r ∧ ls.getD r 0 = ls.getD (getR xs r).left.toNat 0 + ls.getD (getR xs r).right.toNat 0 := by
  obtain ⟨h1, h2⟩ := lens_steps h r _ (getR_at hr)
  simp only [okRule, hp, if_true, Bool.and_eq_true, decide_eq_true_eq] at h1
  simp only [ruleLen, hp, if_true] at h2
  exact ⟨h1.1.1.1, by omega, h1.1.2, by omega, h2⟩
theorem lens_letter {xs : List GRule} {ls : List Int} (h : lens xs = some ls) {r : Nat} (hr : r < xs.length) (hp : (getR xs r).pair = false) : ls.getD r 0 = 1 := by
  obtain ⟨h1, h2⟩ := lens_steps h r _ (getR_at hr)
  simpa [ruleLen, hp] using h2
section
variable {σ : Type}
def NoB (o : Obj) : Prop := ∀ c fz, o ≠ .cells c 5 fz
theorem NoB.cells {c : Array Value} {t : TypeId} {fz : Nat × Nat} (h : t ≠ 5) : NoB (.cells c t fz) := fun _ _ e => by
  injection e with _ h2 _; exact h h2
def NewNoB (a : Nat) (w : World) : Prop := ∀ k, a ≤ k → ∀ c fz, w.heap[k]? ≠ some (.cells c 5 fz)
theorem NewNoB.same (w : World) : NewNoB w.heap.size w := fun k hk c fz e => by
  have := (Array.getElem?_eq_some_iff.1 e).1
  omega
theorem NewNoB.alloc {a : Nat} {w : World} (h : NewNoB a w) {o : Obj} (ho : NoB o) : NewNoB a (w.alloc o) := fun k hk c fz e => by
  have hl := (Array.getElem?_eq_some_iff.1 e).1
  rcases Nat.lt_or_ge k w.heap.size with h1 | h1
  · rw [Below.heap_alloc _ _ _ h1] at e
    exact h k hk c fz e
  · have : k = w.heap.size := by simp at hl; omega
    subst this
    rw [heap_alloc_new] at e
    exact ho c fz (Option.some.inj e)
def Runs (step : σ → Nat → σ) (Ok : σ → Nat → Prop) (s : σ) (l : List Nat) : Prop := ∀ l1 r l2, l = l1 ++ r :: l2 → Ok (l1.foldl step s) r
theorem Runs.one {step : σ → Nat → σ} {Ok : σ → Nat → Prop} {s : σ} {r : Nat} (h : Runs step Ok s [r]) : Ok s r := h [] r [] rfl
theorem Runs.left {step : σ → Nat → σ} {Ok : σ → Nat → Prop} {s : σ} {a b : List Nat} (h : Runs step Ok s (a ++ b)) : Runs step Ok s a := fun l1 r l2 e => h l1 r (l2 ++ b) (by rw [e]; simp)
theorem Runs.right {step : σ → Nat → σ} {Ok : σ → Nat → Prop} {s : σ} {a b : List Nat} (h : Runs step Ok s (a ++ b)) : Runs step Ok (a.foldl step s) b := fun l1 r l2 e => by
  have := h (a ++ l1) r l2 (by rw [e]; simp)
  rwa [List.foldl_append] at this
theorem Runs.all {step : σ → Nat → σ} {Ok : σ → Nat → Prop} {s : σ} {l : List Nat} (h : ∀ s r, Ok s r) : Runs step Ok s l := fun _ _ _ _ => h _ _
def TakePost (J : (Nat → Prop) → σ → World → Prop) (C : Nat → Prop) (s' : σ) (w : World) (e : Ending) (w' : World) : Prop :=
  e = .returned (.tuple #[]) ∧ ∃ C', (∀ b, C b → C' b) ∧ (∀ b, C' b → b < w'.heap.size) ∧ J C' s' w' ∧ Wk C w w'
structure PSet (w : World) (C : Nat → Prop) (bl bi bj bw bg bt : Nat) (vL vW vR : Value) (i j : Int) (ls : List Int) (xs : List GRule) : Prop where
  cl : w.cell? ⟨bl, 0, none⟩ = some vL
  ci : w.cell? ⟨bi, 0, none⟩ = some (.int .i64 i)
  cj : w.cell? ⟨bj, 0, none⟩ = some (.int .i64 j)
  cw : w.cell? ⟨bw, 0, none⟩ = some vW
  cg : w.cell? ⟨bg, 0, none⟩ = some vR
  ct : w.cell? ⟨bt, 0, none⟩ = some (.func (.func 109) #[] #[.pointer (some ⟨bl, 0, none⟩), .pointer (some ⟨bi, 0, none⟩), .pointer (some ⟨bj, 0, none⟩), .pointer (some ⟨bw, 0, none⟩), .pointer (some ⟨bg, 0, none⟩), .pointer (some ⟨bt, 0, none⟩)])
  ml : C bl
  mi : C bi
  mj : C bj
  mw : C bw
  mg : C bg
  mt : C bt
  sl : SlS IntE w C vL ls
  sr : SlS RuleE w C vR xs
  lt : ∀ b, C b → b < w.heap.size
theorem PSet.up {w w' : World} {C C' : Nat → Prop} {bl bi bj bw bg bt : Nat} {vL vW vR : Value} {i j : Int} {ls : List Int} {xs : List GRule} (h : PSet w C bl bi bj bw bg bt vL vW vR i j ls xs)
    (hw : Wk C w w') (hs : ∀ b, C b → C' b) (hl : ∀ b, C' b → b < w'.heap.size) : PSet w' C' bl bi bj bw bg bt vL vW vR i j ls xs :=
  ⟨hw.cell h.ml h.cl, hw.cell h.mi h.ci, hw.cell h.mj h.cj, hw.cell h.mw h.cw, hw.cell h.mg h.cg, hw.cell h.mt h.ct, hs _ h.ml, hs _ h.mi, hs _ h.mj, hs _ h.mw, hs _ h.mg, hs _ h.mt,
    (h.sl.keep hw.keep).more hs, (h.sr.keep hw.keep).more hs, hl⟩
def ext (C : Nat → Prop) (a b : Nat) : Nat → Prop := fun k => C k ∨ (a ≤ k ∧ k < b)
set_option maxRecDepth 100000 in
set_option maxHeartbeats 2000000 in
theorem take_any (J : (Nat → Prop) → σ → World → Prop) (step : σ → Nat → σ) (Ok : σ → Nat → Prop) (F : FuncId) (cap : Array Value) (xs : List GRule) (ls : List Int) (i j : Int) (hlens : lens xs = some ls) 
    (eg : ∀ args w, (callFunc F args).run Try.prog w = .ok (.enter F args) w)
    (hext : ∀ C s w w', J C s w → Below w.heap.size w w' → NewNoB w.heap.size w' → (∀ b, C b → b < w.heap.size) → J (ext C w.heap.size w'.heap.size) s w')
    (hwith : ∀ C s (r : Nat) (w : World), J C s w → Ok s r → r < xs.length → (∀ b, C b → b < w.heap.size) → Calls Try.prog F (#[.int .i64 r] ++ cap) w (TakePost J C (step s r) w))
    (bl bi bj bw bg bt : Nat) (vL vR : Value) (f : Nat) :
    ∀ (r : Nat) (p : Int) (s : σ) (C : Nat → Prop) (w : World), r < f → r < xs.length → 0 ≤ p → p + ls.getD r 0 ≤ 1000000000000000 → J C s w → Runs step Ok s (coverR xs ls i j f r p) →
      PSet w C bl bi bj bw bg bt vL (.func (.func F) #[] cap) vR i j ls xs →
      Calls Try.prog 109 #[.int .i64 r, .int .i64 p, .pointer (some ⟨bl, 0, none⟩), .pointer (some ⟨bi, 0, none⟩), .pointer (some ⟨bj, 0, none⟩), .pointer (some ⟨bw, 0, none⟩), .pointer (some ⟨bg, 0, none⟩), .pointer (some ⟨bt, 0, none⟩)] w
        (TakePost J C ((coverR xs ls i j f r p).foldl step s) w) := by
  induction f with
  | zero => intro r p s C w h; omega
  | succ f ih =>
    intro r p s C w hf hr hp0 hp1 hJ hRu hS
    have Ih := Lib.hid ih
    have HRu := Lib.hid hRu
    clear hRu
    have Hw := Lib.hid hwith
    have He := Lib.hid hext
    have HJ := Lib.hid hJ
    have HS := Lib.hid hS
    clear ih hwith hext hJ
    have hcl := hS.cl
    have hci := hS.ci
    have hcj := hS.cj
    have hcw := hS.cw
    have hll := lens_length hlens
    obtain ⟨AL, cL, rfl, _, _, hrowL⟩ := hS.sl
    obtain ⟨b1, o1, rfl, hb1, hcellL⟩ := hrowL.int (k := r) (by omega)
    have hcr := hcellL r (by omega)
    have hri : (r : Int) < (ls.length : Int) := by omega
    have hpos := lens_pos' hlens hr
    have Hxy : Hid (∀ y, ls.getD r 0 = y → coverR xs ls i j (f + 1) r p = if p + y ≤ i ∨ j ≤ p then [] else if i ≤ p ∧ p + y ≤ j then [r] else
      coverR xs ls i j f (getR xs r).left.toNat p ++ coverR xs ls i j f (getR xs r).right.toNat (p + ls.getD (getR xs r).left.toNat 0)) := by rintro y rfl; rfl
    have Hll := Lib.hid hll
    have HcL := Lib.hid hcellL
    have Hb1 := Lib.hid hb1
    clear hcellL hll
    obtain ⟨n, hn⟩ : ∃ n, ls.getD r 0 = n := ⟨_, rfl⟩
    rw [hn] at hcr hpos hp1
    have Hn := Lib.hid hn
    have hcov := Hxy.out n hn
    have Hcov := Lib.hid hcov
    rw [hcov] at HRu
    clear hn hcov
    have e144 : ∀ args w, (callFunc 109 args).run Try.prog w = .ok (.enter 109 args) w := enters_of Try.func109 (by kernel_rfl) rfl
    by_cases c1 : p + n ≤ i
    · rw [if_pos (Or.inl c1)] at Hcov HRu
      go_enter Try.func109, Try.ntmps109
      go_wp2_with fail
      go_end0
      exact ⟨rfl, C, fun _ h => h, HS.out.lt, by rw [Hcov.out]; exact HJ.out, Wk.refl _ _⟩
    · by_cases c2 : j ≤ p
      · rw [if_pos (Or.inr c2)] at Hcov HRu
        go_enter Try.func109, Try.ntmps109
        go_wp2_with fail
        go_end0
        exact ⟨rfl, C, fun _ h => h, HS.out.lt, by rw [Hcov.out]; exact HJ.out, Wk.refl _ _⟩
      · rw [if_neg (by omega)] at Hcov HRu
        by_cases c34 : i ≤ p ∧ p + n ≤ j
        · rw [if_pos c34] at Hcov HRu
          obtain ⟨c3, c4⟩ := c34
          go_enter Try.func109, Try.ntmps109
          go_wp2_with fail
          refine (Hw.out C s r w HJ.out HRu.out.one hr HS.out.lt).mono ?_
          rintro e w2 ⟨rfl, C', h1, h2, h3, h4⟩
          go_wp2_with fail
          go_end0
          exact ⟨rfl, C', h1, h2, by rw [Hcov.out]; exact h3, h4⟩
        · rw [if_neg c34] at Hcov HRu
          have hpair : (getR xs r).pair = true := by
            by_cases hp : (getR xs r).pair = true
            · exact hp
            · have := lens_letter hlens hr (by simpa using hp)
              have := Hn.out
              omega
          obtain ⟨hl0, hlr, hr0, hrr, hsum⟩ := lens_pair hlens hr hpair
          obtain ⟨AR, cR, rfl, _, _, hrowR⟩ := HS.out.sr
          obtain ⟨b2, o2, rfl, hb2, hcellR⟩ := hrowR.rule (k := r) hr
          obtain ⟨k0, k1, k2⟩ := hcellR r _ (getR_at hr)
          generalize hR : getR xs r = R at *
          obtain ⟨rs, rl, rr⟩ := R
          obtain ⟨l, rfl⟩ := Int.eq_ofNat_of_zero_le hl0
          obtain ⟨q, rfl⟩ := Int.eq_ofNat_of_zero_le hr0
          simp only [Int.toNat_natCast] at hlr hrr hsum Hcov HRu
          have hcg := HS.out.cg
          have hct := HS.out.ct
          have lbt : bt < w.heap.size := HS.out.lt _ HS.out.mt
          have hpl := lens_pos' hlens (r := l) (by omega)
          have hpq := lens_pos' hlens (r := q) (by omega)
          have hrx : (r : Int) < (xs.length : Int) := by omega
          have hll := Hll.out
          have hsn : n = ls.getD l 0 + ls.getD q 0 := by rw [← Hn.out]; exact hsum
          obtain ⟨m, hm⟩ : ∃ m, ls.getD l 0 = m := ⟨_, rfl⟩
          obtain ⟨m', hm'⟩ : ∃ m', ls.getD q 0 = m' := ⟨_, rfl⟩
          rw [hm] at hsn hpl
          rw [hm'] at hsn hpq
          rw [hm] at Hcov HRu
          have Hm := Lib.hid hm
          have Hm' := Lib.hid hm'
          have Hsn := Lib.hid hsn
          have hl3 : p + m ≤ 1000000000000000 := by omega
          have hq3 : p + m + m' ≤ 1000000000000000 := by omega
          have hq0 : 0 ≤ p + m := by omega
          have Hq0 := Lib.hid hq0
          have Hl3 := Lib.hid hl3
          have Hq3 := Lib.hid hq3
          have hBA : ∀ o, Below w.heap.size w (w.alloc o) := fun o => (Below.refl _ _).alloc (Nat.le_refl _) _
          have HBA := Lib.hid hBA
          have HS1 : ∀ o, PSet (w.alloc o) (ext C w.heap.size (w.alloc o).heap.size) bl bi bj bw bg bt (.slice (some ⟨b1, o1, none⟩) ls.length cL) (.func (.func F) #[] cap) (.slice (some ⟨b2, o2, none⟩) xs.length cR) i j ls xs := fun o =>
            HS.out.up (Wk.of_below (HBA.out o) HS.out.lt) (fun b h => Or.inl h) (fun b h => by rcases h with h | h; exact Nat.lt_of_lt_of_le (HS.out.lt b h) (HBA.out o).size; exact h.2)
          have HJ1 : ∀ o, NoB o → J (ext C w.heap.size (w.alloc o).heap.size) s (w.alloc o) := fun o ho => He.out C s w _ HJ.out (HBA.out o) ((NewNoB.same w).alloc ho) HS.out.lt
          have HSS1 := Lib.hid HS1
          have HJJ1 := Lib.hid HJ1
          have hlx : l < xs.length := by omega
          have hqx : q < xs.length := by omega
          have hlf : l < f := by omega
          have hqf : q < f := by omega
          have Hpair := Lib.hid hpair
          have HR := Lib.hid hR
          have hc34 : (i ≤ p ∧ ¬ p + n ≤ j) ∨ ¬ i ≤ p := by omega
          clear hm hm' hpair hcellR hsum hR hrowL hrowR hb1 hb2 hBA HS1 HJ1 hsn c34
          rcases hc34 with ⟨c3, c4⟩ | c3
          all_goals
            go_enter Try.func109, Try.ntmps109
            go_wp2_with fail
            refine (Ih.out l p s _ _ hlf hlx hp0 (by rw [Hm.out]; exact Hl3.out) (HJJ1.out _ (NoB.cells (by decide))) HRu.out.left (HSS1.out _)).mono ?_
            rintro e w2 ⟨rfl, C2, g1, g2, g3, g4⟩
            have hbx0 : w2.cell? ⟨w.heap.size, 0, none⟩ = some (.string rs) := g4.cell (Or.inr (by simp)) (by simp [go_sem])
            have hbx1 : w2.cell? ⟨w.heap.size, 1, none⟩ = some (.int .i64 l) := g4.cell (Or.inr (by simp)) (by simp [go_sem])
            have hbx2 : w2.cell? ⟨w.heap.size, 2, none⟩ = some (.int .i64 q) := g4.cell (Or.inr (by simp)) (by simp [go_sem])
            have S2 := Lib.hid ((HSS1.out _).up g4 g1 g2)
            have hcl2 := S2.out.cl
            have hct2 := S2.out.ct
            have hcq : w2.cell? ⟨b1, o1 + l, none⟩ = some (.int .i64 m) := g4.cell (Or.inl Hb1.out) (((HBA.out _).cell (p := ⟨b1, o1 + l, none⟩) (HS.out.lt _ Hb1.out)).trans (by rw [HcL.out l (by have := Hll.out; omega), Hm.out]))
            have hli : (l : Int) < (ls.length : Int) := by have := Hll.out; omega
            go_wp2_with fail
            go_still_tail 10, (by kernel_rfl)
            change wpList _ _ _ _ _ w2.drew
            have HB3 := Lib.hid (Below.drew (Below.refl w2.heap.size w2))
            have HJ3 := Lib.hid (He.out C2 _ w2 _ g3 HB3.out (NewNoB.same w2) g2)
            have S3 := Lib.hid (S2.out.up (Wk.of_below HB3.out g2) (C' := ext C2 w2.heap.size w2.drew.heap.size) (fun b h => Or.inl h) (fun b h => by rcases h with h | h; exact g2 b h; exact h.2))
            have W2 := Lib.hid (((Wk.of_below (HBA.out _) HS.out.lt).trans (g4.mono (C' := C) fun b h => Or.inl h)).trans (Wk.of_below HB3.out (fun b h => g2 _ (g1 _ (Or.inl h)))))
            generalize w2.drew = w3 at *
            go_wp2_with fail
            refine (Ih.out q (p + m) _ _ _ hqf hqx Hq0.out (by rw [Hm'.out]; exact Hq3.out) HJ3.out HRu.out.right S3.out).mono ?_
            rintro e w4 ⟨rfl, C4, k1, k2, k3, k4⟩
            go_wp2_with fail
            go_end0
            refine ⟨rfl, C4, fun b h => k1 _ (Or.inl (g1 _ (Or.inl h))), k2, ?_, ?_⟩
            · rw [Hcov.out, List.foldl_append]; exact k3
            · exact W2.out.trans (k4.mono fun b h => Or.inl (g1 _ (Or.inl h)))
end
section
variable {σ : Type}
set_option maxRecDepth 100000 in
set_option maxHeartbeats 1000000 in
theorem pieces_any (J : (Nat → Prop) → σ → World → Prop) (step : σ → Nat → σ) (Ok : σ → Nat → Prop) (F : FuncId) (cap : Array Value) (xs : List GRule) (ls : List Int) (i j : Int) (hlens : lens xs = some ls) (hxs : xs.length ≤ 1099511627776)
    (eg : ∀ args w, (callFunc F args).run Try.prog w = .ok (.enter F args) w)
    (hext : ∀ C s w w', J C s w → Below w.heap.size w w' → NewNoB w.heap.size w' → (∀ b, C b → b < w.heap.size) → J (ext C w.heap.size w'.heap.size) s w')
    (hwith : ∀ C s (r : Nat) (w : World), J C s w → Ok s r → r < xs.length → (∀ b, C b → b < w.heap.size) → Calls Try.prog F (#[.int .i64 r] ++ cap) w (TakePost J C (step s r) w))
    (vL vR : Value) (s : σ) (C : Nat → Prop) (w : World) (hJ : J C s w) (hRu : Runs step Ok s (piecesL xs ls i j)) (hlt : ∀ b, C b → b < w.heap.size) (hL : SlS IntE w C vL ls) (hR : SlS RuleE w C vR xs) :
    Calls Try.prog 95 #[.agg #[vR], vL, .int .i64 i, .int .i64 j, .func (.func F) #[] cap] w (TakePost J C ((piecesL xs ls i j).foldl step s) w) := by
  have HT := Lib.hid (take_any J step Ok F cap xs ls i j hlens eg hext hwith (w.heap.size + 1) (w.heap.size + 1 + 1) (w.heap.size + 1 + 1 + 1) (w.heap.size + 1 + 1 + 1 + 1) w.heap.size (w.heap.size + 1 + 1 + 1 + 1 + 1) vL vR xs.length)
  have He := Lib.hid hext
  have HJ := Lib.hid hJ
  have HRu := Lib.hid hRu
  clear hRu
  have HL := Lib.hid hL
  have HR := Lib.hid hR
  have Hlt := Lib.hid hlt
  clear hwith hext hJ eg hL
  obtain ⟨AR, cR, rfl, _, _, hrowR⟩ := hR
  clear hrowR
  obtain ⟨AL, cL, rfl, _⟩ := HL.out
  have hB : ∀ o1 o2 o3 o4 o5 o6, Below w.heap.size w ((((((w.alloc o1).alloc o2).alloc o3).alloc o4).alloc o5).alloc o6) := fun o1 o2 o3 o4 o5 o6 => (by repeat (first | exact Below.refl _ _ | (refine Below.alloc ?_ (by first | omega | (simp; done) | (simp; omega)) _) | refine below_drewN ?_ _ | refine Below.drew ?_))
  have hJ6 : ∀ o1 o2 o3 o4 o5 o6, NoB o1 → NoB o2 → NoB o3 → NoB o4 → NoB o5 → NoB o6 → J (ext C w.heap.size (w.heap.size + 6)) s ((((((w.alloc o1).alloc o2).alloc o3).alloc o4).alloc o5).alloc o6) := fun o1 o2 o3 o4 o5 o6 n1 n2 n3 n4 n5 n6 => by
    have := He.out C s w ((((((w.alloc o1).alloc o2).alloc o3).alloc o4).alloc o5).alloc o6) HJ.out (hB _ _ _ _ _ _) ((((((((NewNoB.same w).alloc n1).alloc n2).alloc n3).alloc n4).alloc n5).alloc n6)) Hlt.out
    simpa using this
  have hK6 : ∀ o1 o2 o3 o4 o5 o6, Keep C w ((((((w.alloc o1).alloc o2).alloc o3).alloc o4).alloc o5).alloc o6) := fun o1 o2 o3 o4 o5 o6 => (Wk.of_below (hB _ _ _ _ _ _) Hlt.out).keep
  by_cases h0 : 0 < xs.length ∧ i < j
  · obtain ⟨h1, h2⟩ := h0
    go_enter Try.func95, Try.ntmps95
    go_wp2_with fail
    rw [show ((xs.length : Int) - 1) = ((xs.length - 1 : Nat) : Int) by omega]
    refine (HT.out (xs.length - 1) 0 s (ext C w.heap.size (w.heap.size + 6)) _ (by omega) (by omega) (by omega) ?_ ?_ ?_ ?_).mono ?_
    · have := lens_pos' hlens (r := xs.length - 1) (by omega); omega
    · exact hJ6 _ _ _ _ _ _ (NoB.cells (by decide)) (NoB.cells (by decide)) (NoB.cells (by decide)) (NoB.cells (by decide)) (NoB.cells (by decide)) (NoB.cells (by decide))
    · have := HRu.out
      rwa [piecesL, if_pos ⟨h1, h2⟩] at this
    · have hk := hK6
      exact ⟨by simp [go_sem], by simp [go_sem], by simp [go_sem], by simp [go_sem], by simp [go_sem], by simp [go_sem], Or.inr (by omega), Or.inr (by omega), Or.inr (by omega), Or.inr (by omega), Or.inr (by omega), Or.inr (by omega), (HL.out.keep (hk _ _ _ _ _ _)).more fun b h => Or.inl h, (HR.out.keep (hk _ _ _ _ _ _)).more fun b h => Or.inl h, fun b h => by
        simp
        rcases h with h | h
        · have := Hlt.out b h; omega
        · exact h.2⟩
    · rintro e w2 ⟨rfl, C2, g1, g2, g3, g4⟩
      go_wp2_with fail
      go_end0
      refine ⟨rfl, C2, fun b h => g1 _ (Or.inl h), g2, ?_, ?_⟩
      · rw [piecesL, if_pos ⟨h1, h2⟩]; exact g3
      · exact (Wk.of_below (hB _ _ _ _ _ _) Hlt.out).trans (g4.mono fun b h => Or.inl h)
  · have hp : piecesL xs ls i j = [] := by rw [piecesL, if_neg h0]
    have Hp := Lib.hid hp
    have hh : ¬ 0 < xs.length ∨ (0 < xs.length ∧ ¬ i < j) := by omega
    clear hp h0
    rcases hh with h1 | ⟨h1, h2⟩
    all_goals
      go_enter Try.func95, Try.ntmps95
      go_wp2_with fail
      go_end0
      refine ⟨rfl, ext C w.heap.size (w.heap.size + 6), fun b h => Or.inl h, ?_, ?_, Wk.of_below (hB _ _ _ _ _ _) Hlt.out⟩
      · intro b h
        simp
        rcases h with h | h
        · have := Hlt.out b h; omega
        · exact h.2
      · rw [Hp.out]
        exact hJ6 _ _ _ _ _ _ (NoB.cells (by decide)) (NoB.cells (by decide)) (NoB.cells (by decide)) (NoB.cells (by decide)) (NoB.cells (by decide)) (NoB.cells (by decide))
end
theorem row_cells {α : Type} {E : Enc α} {w : World} {S : Nat → Prop} {a : Addr} {xs : List α} (h : Row E w S (some a) xs) (cs : List Value) (hcs : cs.length = xs.length * E.size)
    (hc : ∀ k x us, xs[k]? = some x → E.cells w S x us → ∀ j u, us[j]? = some u → cs[k * E.size + j]? = some u) : ∀ j u, cs[j]? = some u → w.cell? (a.add j) = some u := by
  intro j u hu
  have hj : j < xs.length * E.size := by rw [← hcs]; exact (List.getElem?_eq_some_iff.1 hu).1
  have hpos : 0 < xs.length := by
    rcases Nat.eq_zero_or_pos xs.length with h0 | h0
    · rw [h0, Nat.zero_mul] at hj; omega
    · exact h0
  obtain ⟨b, o, he, hs, hr⟩ := h hpos
  injection he with he
  subst he
  have hk : j / E.size < xs.length := (Nat.div_lt_iff_lt_mul E.pos).2 hj
  obtain ⟨us, h1, h2⟩ := hr (j / E.size) xs[j / E.size] (List.getElem?_eq_getElem hk)
  have hm : j % E.size < us.length := by rw [E.len h1]; exact Nat.mod_lt _ E.pos
  have h3 := h2 (j % E.size) us[j % E.size] (List.getElem?_eq_getElem hm)
  have h4 := hc _ _ _ (List.getElem?_eq_getElem hk) h1 (j % E.size) us[j % E.size] (List.getElem?_eq_getElem hm)
  rw [Nat.mul_comm, Nat.div_add_mod] at h3 h4
  rw [h4] at hu
  injection hu with hu
  subst hu
  have : (⟨b, o, none⟩ : Addr).add j = ⟨b, o + j, none⟩ := by unfold Addr.add; split <;> simp_all
  rw [this]; exact h3
theorem cells_len (xs : List GRule) : (xs.flatMap GRule.cells).length = xs.length * 3 := by
  induction xs with
  | nil => rfl
  | cons x xs ih =>
    rw [List.flatMap_cons, List.length_append, ih, List.length_cons]
    show 3 + _ = _
    omega
theorem rules_cells {w : World} {S : Nat → Prop} {a : Addr} {xs : List GRule} (h : Row RuleE w S (some a) xs) : ∀ j u, (xs.flatMap GRule.cells)[j]? = some u → w.cell? (a.add j) = some u := by
  refine row_cells h _ (cells_len xs) ?_
  · intro k x us hk hus j u hu
    obtain ⟨c0, c1, c2⟩ := cells3 xs k x hk
    have e : us = x.cells := hus
    subst e
    match j, hu with
    | 0, hu => simp [GRule.cells] at hu; subst hu; simpa [RuleE] using c0
    | 1, hu => simp [GRule.cells] at hu; subst hu; simpa [RuleE] using c1
    | 2, hu => simp [GRule.cells] at hu; subst hu; simpa [RuleE] using c2
    | j + 3, hu => simp [GRule.cells] at hu
theorem rules_one (xs : List GRule) : ∀ u ∈ xs.flatMap GRule.cells, u.oneCell' = true := by
  intro u hu
  rw [List.mem_flatMap] at hu
  obtain ⟨x, _, hx⟩ := hu
  simp [GRule.cells] at hx
  rcases hx with rfl | rfl | rfl <;> rfl
theorem run_append_of_nil {P : Program} (w : World) (base : Nat) (t ty e : TypeId) (i : TypeInfo) (size : Nat) (ht : P.underlying t = some (.slice e)) (hi : P.info? e = some i)
    (v : Value) (n : Nat) (xs : List Value) (hown : w.ownsRow base e size v n xs) (c : Nat) : (Builtin.append_ #[t, t] ty #[v, .slice none 0 c]).run P w = .ok v w := by
  rcases hown.2 with ⟨rfl, rfl⟩ | ⟨g, cap, cur, rfl, _, _, hnc, _⟩
  · simp [Builtin.append_, run_underlying ht, sizeOf, typeInfo, hi, Builtin.lenOf, Builtin.firstCells]
  · simp [Builtin.append_, run_underlying ht, sizeOf, typeInfo, hi, Builtin.lenOf, Builtin.firstCells, hnc, storeCells]
theorem append_rules {W : World} {ops : Array Oper} {rest : List Oper} {o : Oper} {a : Act} {Q : Exit → Act → World → Prop} (hgd : o.guard = none) (s x : Operand)
    (ho : o.op = .call { callee := .builtin .append, args := #[s, x], argTypes := #[28, 28] }) {ys : List GRule} {base : Nat} {v sv : Value} {l : List GRule} {S : Nat → Prop}
    (hs : a.eval s = v) (hx : a.eval x = sv) (hown : OwnRules W base v l) (hsl : SlS RuleE W S sv ys) (hlen : l.length + ys.length ≤ 1099511627776) (hbase : base ≤ W.heap.size)
    (h : ∀ v' w', OwnRules w' base v' (l ++ ys) → W.grownBy w' v.ownBlock → Below base W w' → wpList Try.prog ops Q rest (a.put o.dst v') w') :
    wpList Try.prog ops Q (o :: rest) a W := by
  obtain ⟨i0, hi0, hz0, hz1, hz2⟩ := info_parts Try.infoR
  obtain ⟨A, c, rfl, hc, hm, hrow⟩ := hsl
  refine wpList_plain hgd fun _ hK => ?_
  have H : ∃ v' w', (Builtin.append_ #[28, 28] o.type #[v, .slice A ys.length c]).run Try.prog W = .ok v' w' ∧ OwnRules w' base v' (l ++ ys) ∧ W.grownBy w' v.ownBlock := by
    rcases A with _ | ad
    · have h0 : ys = [] := by
        rcases Nat.eq_zero_or_pos ys.length with h0 | h0
        · exact List.eq_nil_of_length_eq_zero h0
        · obtain ⟨b, o, h, _⟩ := hrow h0; cases h
      subst h0
      exact ⟨v, W, run_append_of_nil W base _ _ 111 i0 3 Try.underlying28 hi0 v _ _ hown c, by simpa using hown, World.grownBy.refl W _⟩
    · obtain ⟨v', w', hrun, h2, h3, _⟩ := run_append_own_at (P := Try.prog) W base 28 o.type 111 i0 _ 3 32 Try.underlying28 hi0 hz0 hz1 hz2 rfl (by decide) v _ _ hown ad ys.length c (ys.flatMap GRule.cells)
        (cells_len ys) (rules_cells hrow) (rules_one ys) (by simp only [maxLen]; omega) (by omega) hbase
      exact ⟨v', w', hrun, by unfold OwnRules; simpa using h2, h3⟩
  obtain ⟨v', w', hrun, h2, h3⟩ := H
  unfold Oper.wp execOp
  simp only [ho, resolve, invoke, builtin, Sem.run_bind, Sem.run_pure, Result.andThen_ok, List.map_toArray, List.map_cons, List.map_nil, hs, hx, hrun]
  exact hK _ _ (h v' w' h2 h3 ((Below.refl base W).grown h3 hbase (fun k hk => (World.ownsRow.lt hown k hk).1)))
theorem Clone_any (v : Value) (xs : List GRule) (w : World) (h : Sl RuleE w w.heap.size v xs) (hn : xs.length ≤ 1099511627776) :
    Calls Try.prog 102 #[v] w fun e w' => ∃ v', e = .returned v' ∧ OwnRules w' w.heap.size v' xs ∧ Below w.heap.size w w' := by
  have h1 := fun o => (h.below ((Below.refl w.heap.size w).alloc (Nat.le_refl _) o))
  have H1 := Lib.hid h1
  clear h1
  obtain ⟨A, c, rfl, hc, hm, hrow⟩ := h
  rcases A with _ | ad
  · have h0 : xs = [] := by
      rcases Nat.eq_zero_or_pos xs.length with h0 | h0
      · exact List.eq_nil_of_length_eq_zero h0
      · obtain ⟨b, o, h, _⟩ := hrow h0; cases h
    subst h0
    clear hm hrow
    have heq := fun W => Lib.run_eql_slice_nil (P := Try.prog) W 28 111 none 0 c 0 0 Try.underlying28
    go_enter Try.func102, Try.ntmps102
    go_wp2
    go_ret
    exact ⟨_, rfl, World.ownsRow_nil _ _ _ _, Below.refl _ _⟩
  · clear hm hrow
    have heq := fun W => Lib.run_eql_slice_nil (P := Try.prog) W 28 111 (some ad) xs.length c 0 0 Try.underlying28
    go_enter Try.func102, Try.ntmps102
    go_wp2_with (at_builtin; go_must (refine append_rules rfl _ _ rfl rfl rfl (OwnRules.empty rfl (Nat.le_refl _)) (H1.out _) (by simp; omega) (by simp) ?_); intro v' w1 hown1 hg1 hb1)
    go_ret
    exact ⟨v', rfl, hown1, ((Below.refl _ _).alloc (Nat.le_refl _) _).trans hb1⟩
theorem copied_any (v : Value) (xs : List GRule) (w : World) (h : Sl RuleE w w.heap.size v xs) (hn : xs.length ≤ 1099511627776) :
    Calls Try.prog 80 #[.agg #[v]] w fun e w' => ∃ v', e = .returned (.agg #[v']) ∧ OwnRules w' w.heap.size v' xs ∧ Below w.heap.size w w' := by
  have h1 := fun o o' => (h.below (((Below.refl w.heap.size w).alloc (Nat.le_refl _) o).alloc (by simp) o')).le (B' := ((w.alloc o).alloc o').heap.size) (by simp; omega)
  have H1 := Lib.hid h1
  clear h1
  obtain ⟨A, c, rfl, _⟩ := h
  go_enter Try.func80, Try.ntmps80
  go_wp2_with fail
  refine (Clone_any _ _ _ (H1.out _ _) hn).mono ?_
  rintro e w1 ⟨v1, rfl, hown, hb1⟩
  obtain ⟨A1, c1, rfl, _⟩ := own_nil hown
  obtain ⟨hc1, hf1⟩ := bcell hb1
  have hz1 : w.heap.size + 2 ≤ w1.heap.size := by have := hb1.size; simp at this; omega
  have Hown := Lib.hid hown
  have Hb1 := Lib.hid hb1
  clear hown hb1
  go_wp2
  refine bodyPost_ret (v := .agg #[.slice A1 xs.length c1]) (by simp [results, Try.results80, go_sem, hc1]) rfl ⟨_, rfl, ?_, ?_⟩
  · have h4 : w1.ownsRow (w.heap.size + 2) 111 3 (.slice A1 xs.length c1) xs.length (xs.flatMap GRule.cells) := ownsRow_more Hown.out (by simp)
    exact ownsRow_more (ownsRow_setCell_below h4 (by show w.heap.size + 1 < w.heap.size + 2; omega) _) (by omega)
  · exact ((((Below.refl _ _).alloc (Nat.le_refl _) _).alloc (by simp) _).trans (Hb1.out.mono (by simp; omega))).setCell (by show w.heap.size ≤ w.heap.size + 1; omega) _
def dig1 (j : Nat) : ByteArray := ⟨#[UInt8.ofNat (48 + j % 10)]⟩
theorem dig1_size (j : Nat) : (dig1 j).size = 1 := rfl
def digs : Nat → Nat → ByteArray → ByteArray
  | 0, _, acc => acc
  | f + 1, k, acc => if k = 0 then acc else digs f (k / 10) (dig1 k ++ acc)
def mtext (k : Nat) : ByteArray := if k = 0 then ⟨#[109, 48]⟩ else ⟨#[109]⟩ ++ digs k k ⟨#[]⟩
theorem conv1 (W : World) (j : Nat) : (convert 41 9 (.slice (some ⟨W.heap.size, 0, none⟩) 1 1)).run Try.prog (W.alloc (.cells #[.int .u8 (48 + (j : Int) % 10)] 5)) = .ok (.string (dig1 j)) (W.alloc (.cells #[.int .u8 (48 + (j : Int) % 10)] 5)) := by
  rw [run_convert_bytes_arg (W.alloc (.cells #[.int .u8 (48 + (j : Int) % 10)] 5)) 41 5 Try.underlying41 Try.underlying5 W.heap.size 0 1 1 [48 + (j : Int) % 10] rfl
    (fun i hi => by
      have : i = 0 := by omega
      subst this
      simp [go_sem]) 9 Try.underlying9]
  have : strOfNums [48 + (j : Int) % 10] = dig1 j := by
    simp only [strOfNums, dig1, List.map_cons, List.map_nil]
    rw [show (48 + (j : Int) % 10).toNat = 48 + j % 10 by omega]
  rw [this]
theorem digs_zero (f : Nat) (acc : ByteArray) : digs f 0 acc = acc := by cases f <;> simp [digs]
set_option maxRecDepth 100000 in
theorem markText_any (k : Nat) (w : World) (hk : k ≤ 8796093022208) :
    Calls Try.prog 82 #[.int .i64 k] w fun e w' => e = .returned (.string (mtext k)) ∧ Below w.heap.size w w' := by
  by_cases h0 : k = 0
  · subst h0
    go_enter Try.func82, Try.ntmps82
    go_wp2
    go_ret
    exact ⟨rfl, Below.refl _ _⟩
  · go_enter Try.func82, Try.ntmps82
    go_wp2_with fail
    go_loopw [0, 3] (fun q out wr => ∃ (f j : Nat) (acc : ByteArray), j ≤ f ∧ j ≤ k ∧ q = .int .i64 j ∧ out = .string acc ∧ acc.size + f ≤ k ∧ Below w.heap.size w wr ∧ Hid (digs f j acc = digs k k ⟨#[]⟩)) (fun q _ _ => (intOf q).toNat)
    case atStart => exact ⟨k, k, _, Nat.le_refl _, Nat.le_refl _, rfl, rfl, by simp [ByteArray.size], Below.refl _ _, rfl⟩
    case round =>
      obtain ⟨f, j, acc, hj, hjk, rfl, rfl, hsz, hb, H⟩ := hrel
      by_cases hz : 0 < j
      · have hr : 0 ≤ (j : Int) % 10 ∧ (j : Int) % 10 ≤ 9 := by omega
        have hcv := conv1 wr j
        have hds := dig1_size j
        obtain ⟨f', rfl⟩ : ∃ f', f = f' + 1 := ⟨f - 1, by omega⟩
        go_wp2
        go_roundw
        case rel => exact ⟨f', j / 10, _, by omega, by omega, by go_num, rfl, by rw [ByteArray.size_append, dig1_size]; omega, hb.alloc hb.size _, by have := H.out; rw [digs, if_neg (by omega)] at this; exact this⟩
        case measure => simp [intOf]; omega
      · have hj0 : j = 0 := by omega
        subst hj0
        go_wp2
        go_ret
        exact ⟨by rw [mtext, if_neg h0, ← H.out, digs_zero]; rfl, hb⟩
theorem markText_int (m : Nat) (q : Int) (w : World) (hq : q = m) (hk : m ≤ 8796093022208) :
    Calls Try.prog 82 #[.int .i64 q] w fun e w' => e = .returned (.string (mtext m)) ∧ Below w.heap.size w w' := by
  subst hq
  exact markText_any m w hk
def mark1 (k i : Nat) : GRule := { letter := mtext (k + 3 * i), left := (k + 3 * i + 1 : Nat), right := (k + 3 * i + 2 : Nat) }
def marks (k n : Nat) : List GRule := (List.range n).map (mark1 k)
theorem marks_length (k n : Nat) : (marks k n).length = n := by simp [marks]
theorem grown_below {a b c : World} {row : Option Nat} (h : a.grownBy b row) (k : Below b.heap.size b c) : a.grownBy c row :=
  ⟨k.os.trans h.os, k.tape.trans h.tape, k.output.trans h.output, Nat.le_trans h.size k.size, fun i hi hne => (k.block i (Nat.lt_of_lt_of_le hi h.size)).trans (h.block i hi hne)⟩
theorem mark_step {xs : List GRule} {k n : Nat} (h : n < xs.length) : ((marks k n) ++ xs.drop n).set n (mark1 k n) = marks k (n + 1) ++ xs.drop (n + 1) := by
  rw [List.set_append, if_neg (by rw [marks_length]; omega), marks_length, Nat.sub_self, List.drop_eq_getElem_cons h, List.set_cons_zero]
  simp [marks, List.range_succ]
set_option maxRecDepth 100000 in
theorem markRuleS_any (base : Nat) (v : Value) (xs : List GRule) (k : Nat) (w : World) (h : OwnRules w base v xs) (hn : xs.length ≤ 1099511627776) (hk : k ≤ 1099511627776) :
    Calls Try.prog 55 #[v, .int .i64 k] w fun e w' => e = .returned (.int .i64 ((k + 3 * xs.length : Nat) : Int)) ∧ OwnRules w' base v (marks k xs.length) ∧ w.grownBy w' v.ownBlock := by
  rcases Nat.eq_zero_or_pos xs.length with h0 | h0
  · have hx : xs = [] := List.eq_nil_of_length_eq_zero h0
    subst hx
    have Hown := Lib.hid h
    obtain ⟨A, cap, rfl, _⟩ := own_nil h
    clear h
    go_enter Try.func55, Try.ntmps55
    go_wp2_with fail
    go_loopw [1, 5] (fun q i wr => q = .int .i64 k ∧ i = .int .i64 0 ∧ wr = w) (fun _ _ _ => 0)
    case atStart => exact ⟨rfl, rfl, rfl⟩
    case round =>
      obtain ⟨rfl, rfl, rfl⟩ := hrel
      go_wp2
      go_ret
      exact ⟨by simp, by simpa [marks] using Hown.out, World.grownBy.refl _ _⟩
  · obtain ⟨g, cap, rfl, hgb, hgl, hcap, _⟩ := own_form h h0
    have Hown := Lib.hid h
    clear h hcap
    go_enter Try.func55, Try.ntmps55
    go_wp2_with fail
    go_loopw [1, 5] (fun q i wr => ∃ n : Nat, n ≤ xs.length ∧ q = .int .i64 ((k + 3 * n : Nat) : Int) ∧ i = .int .i64 n ∧ w.grownBy wr (some g) ∧
      wr.ownsRow base 111 3 (.slice (some ⟨g, 0, none⟩) xs.length cap) xs.length ((marks k n ++ xs.drop n).flatMap GRule.cells)) (fun _ i _ => xs.length - (intOf i).toNat)
    case atStart => exact ⟨0, Nat.zero_le _, rfl, rfl, World.grownBy.refl _ _, by have := Hown.out; unfold OwnRules at this; simpa [marks] using this⟩
    case round =>
      obtain ⟨n, hnl, rfl, rfl, hgr, hown⟩ := hrel
      by_cases hlt : n < xs.length
      · have Hown := Lib.hid hown
        clear hown
        go_wp2_with fail
        refine (markText_int (k + 3 * n) _ _ (by omega) (by omega)).mono ?_
        rintro e w2 ⟨rfl, hb2⟩
        have hown2 := ownsRow_below Hown.out hb2
        have hlen : (marks k n ++ xs.drop n).length = xs.length := by simp [marks_length]; omega
        obtain ⟨u0, hu0⟩ : ∃ u, w2.cell? ⟨g, n * 3, none⟩ = some u :=
          ⟨_, (hown2.cellAt (n * 3) (by omega)).trans (List.getElem?_eq_getElem (by rw [hown2.1]; omega))⟩
        obtain ⟨u1, hu1⟩ : ∃ u, w2.cell? ⟨g, n * 3 + 1, none⟩ = some u :=
          ⟨_, (hown2.cellAt (n * 3 + 1) (by omega)).trans (List.getElem?_eq_getElem (by rw [hown2.1]; omega))⟩
        obtain ⟨u2, hu2⟩ : ∃ u, w2.cell? ⟨g, n * 3 + 2, none⟩ = some u :=
          ⟨_, (hown2.cellAt (n * 3 + 2) (by omega)).trans (List.getElem?_eq_getElem (by rw [hown2.1]; omega))⟩
        have hf0 := hown2.frozenAt (n * 3)
        have hf1 := hown2.frozenAt (n * 3 + 1)
        have hf2 := hown2.frozenAt (n * 3 + 2)
        have hst := OwnRules.stored3 hown2 n (mark1 k n) (by omega)
        rw [mark_step hlt] at hst
        have Hst := Lib.hid hst
        have Hgr := Lib.hid (grown_below hgr hb2)
        clear hown2 hst hlen hb2 hgr
        go_wp2
        have e1 : (mark1 k n).left = (k : Int) + 3 * n + 1 := by simp [mark1]
        have e2 : (mark1 k n).right = (k : Int) + 3 * n + 1 + 1 := by simp [mark1, Int.add_assoc]
        have hst := Hst.out
        rw [e1, e2] at hst
        go_roundw
        case rel => exact ⟨n + 1, by omega, by congr 1 <;> omega, by go_num, grown_trans Hgr.out hst.2, hst.1⟩
        case measure => simp [intOf]; omega
      · have hkn : n = xs.length := by omega
        subst hkn
        have Hown := Lib.hid hown
        clear hown
        go_wp2
        go_ret
        exact ⟨rfl, by have := Hown.out; rw [List.drop_length, List.append_nil] at this; unfold OwnRules; rw [marks_length]; exact this, hgr⟩
theorem markGrammar_any (base : Nat) (v : Value) (xs : List GRule) (k : Nat) (w : World) (h : OwnRules w base v xs) (hn : xs.length ≤ 1099511627776) (hk : k ≤ 1099511627776) :
    Calls Try.prog 14 #[.agg #[v], .int .i64 k] w fun e w' => e = .returned (.int .i64 ((k + 3 * xs.length : Nat) : Int)) ∧ OwnRules w' base v (marks k xs.length) ∧ w.grownBy w' v.ownBlock := by
  have h1 := fun o => h.alloc o
  have H1 := Lib.hid h1
  have hgr : ∀ o, w.grownBy (w.alloc o) v.ownBlock := fun o => World.grownBy_alloc w o _
  have Hgr := Lib.hid hgr
  obtain ⟨A, cap, rfl, _⟩ := own_nil h
  clear h h1 hgr
  go_enter Try.func14, Try.ntmps14
  go_wp2_with fail
  refine (markRuleS_any base _ xs k _ (H1.out _) hn hk).mono ?_
  rintro e w1 ⟨rfl, h2, h3⟩
  have H2 := Lib.hid h2
  have H3 := Lib.hid h3
  clear h2 h3
  go_wp2
  go_ret
  refine ⟨by simp, H2.out, ?_⟩
  have h3 := H3.out
  have h4 := Hgr.out (Obj.cells #[Value.slice A xs.length cap] 30)
  exact ⟨h3.os.trans h4.os, h3.tape.trans h4.tape, h3.output.trans h4.output, Nat.le_trans h4.size h3.size, fun i hi hne => (h3.block i (Nat.lt_of_lt_of_le hi h4.size) hne).trans (h4.block i hi hne)⟩
def turnR (r : GRule) : GRule := { letter := r.letter, left := r.right, right := r.left }
theorem set2 (rs : List GRule) (k : Nat) (r : GRule) (a b : Int) (h : rs[k]? = some r) :
    ((rs.flatMap GRule.cells).set (k * 3 + 1) (.int .i64 a)).set (k * 3 + 2) (.int .i64 b) = (rs.set k { letter := r.letter, left := a, right := b }).flatMap GRule.cells := by
  have hk : k < rs.length := (List.getElem?_eq_some_iff.1 h).1
  rw [← set3 rs k { letter := r.letter, left := a, right := b } hk]
  have h0 := (cells3 rs k r h).1
  have e : (rs.flatMap GRule.cells).set (k * 3) (.string r.letter) = rs.flatMap GRule.cells := by
    apply List.ext_getElem?
    intro j
    rw [List.getElem?_set]
    split
    · rename_i hj; subst hj
      rw [h0]; split
      · rfl
      · rename_i hlt; rw [List.getElem?_eq_none (by omega)] at h0; cases h0
    · rfl
  rw [e]
theorem OwnRules.stored2 {w : World} {base g n cap : Nat} {rs : List GRule} (h : w.ownsRow base 111 3 (.slice (some ⟨g, 0, none⟩) n cap) n (rs.flatMap GRule.cells)) (k : Nat) (r : GRule) (a b : Int) (hk : rs[k]? = some r) :
    ((w.setCell ⟨g, k * 3 + 1, none⟩ (.int .i64 a)).setCell ⟨g, k * 3 + 2, none⟩ (.int .i64 b)).ownsRow base 111 3 (.slice (some ⟨g, 0, none⟩) n cap) n ((rs.set k { letter := r.letter, left := a, right := b }).flatMap GRule.cells) ∧
    w.grownBy ((w.setCell ⟨g, k * 3 + 1, none⟩ (.int .i64 a)).setCell ⟨g, k * 3 + 2, none⟩ (.int .i64 b)) (some g) := by
  obtain ⟨h2, g2⟩ := World.ownsRow.stored h (k * 3 + 1) (.int .i64 a)
  obtain ⟨h3, g3⟩ := World.ownsRow.stored h2 (k * 3 + 2) (.int .i64 b)
  rw [set2 rs k r a b hk] at h3
  exact ⟨h3, grown_trans g2 g3⟩
theorem turn_step {xs : List GRule} {n : Nat} {r : GRule} (h : xs[n]? = some r) : ((xs.take n).map turnR ++ xs.drop n).set n (turnR r) = (xs.take (n + 1)).map turnR ++ xs.drop (n + 1) := by
  obtain ⟨hn, rfl⟩ := List.getElem?_eq_some_iff.1 h
  rw [List.set_append, if_neg (by simp; omega), List.length_map, List.length_take, Nat.min_eq_left (by omega), Nat.sub_self, List.drop_eq_getElem_cons hn, List.set_cons_zero, List.take_add_one, h, List.map_append, List.append_assoc]
  rfl
theorem turn_at {xs : List GRule} {n : Nat} {r : GRule} (h : xs[n]? = some r) : ((xs.take n).map turnR ++ xs.drop n)[n]? = some r := by
  obtain ⟨hn, rfl⟩ := List.getElem?_eq_some_iff.1 h
  rw [List.getElem?_append_right (by simp; omega)]
  simp [Nat.min_eq_left (Nat.le_of_lt hn)]
theorem grown_alloc {a w : World} {row : Option Nat} (h : a.grownBy w row) (o : Obj) : a.grownBy (w.alloc o) row :=
  ⟨h.os, h.tape, h.output, Nat.le_trans h.size (by simp), fun i hi hne => (Below.heap_alloc w o i (Nat.lt_of_lt_of_le hi h.size)).trans (h.block i hi hne)⟩
theorem grown_drew {a w : World} {row : Option Nat} (h : a.grownBy w row) : a.grownBy w.drew row := ⟨h.os, h.tape, h.output, h.size, h.block⟩
theorem alloc_heap_last (w : World) (o : Obj) : (w.alloc o).heap[w.heap.size]? = some o := heap_alloc_new w o
set_option maxRecDepth 100000 in
set_option maxHeartbeats 1000000 in
theorem turnedOver_any (v : Value) (xs : List GRule) (w : World) (h : Sl RuleE w w.heap.size v xs) (hn : xs.length ≤ 1099511627776) :
    Calls Try.prog 51 #[.agg #[v]] w fun e w' => ∃ v', e = .returned (.agg #[v']) ∧ OwnRules w' w.heap.size v' (xs.map turnR) ∧ Below w.heap.size w w' := by
  have h1 := fun o o' => (h.below (((Below.refl w.heap.size w).alloc (Nat.le_refl _) o).alloc (by simp) o')).le (B' := ((w.alloc o).alloc o').heap.size) (by simp; omega)
  have H1 := Lib.hid h1
  clear h1
  obtain ⟨A, c, rfl, _⟩ := h
  go_enter Try.func51, Try.ntmps51
  go_wp2_with fail
  refine (copied_any _ _ _ (H1.out _ _) hn).mono ?_
  rintro e w1 ⟨v1, rfl, hown, hb1⟩
  rcases Nat.eq_zero_or_pos xs.length with h0 | h0
  · have hx : xs = [] := List.eq_nil_of_length_eq_zero h0
    subst hx
    obtain ⟨A1, c1, rfl, _⟩ := own_nil hown
    obtain ⟨hc1, hf1⟩ := bcell hb1
    have hz1 : w.heap.size + 2 ≤ w1.heap.size := by have := hb1.size; simp at this; omega
    have hz3 : w.heap.size + 1 < w1.heap.size := by omega
    have hc2 : w1.cell? ⟨w.heap.size + 1, 0, none⟩ = some (.slice none 0 0) := by rw [hc1 _ _ (by simp)]; simp [go_sem]
    have hf2 : w1.frozen? ⟨w.heap.size + 1, 0, none⟩ = false := by rw [hf1 _ _ (by simp)]; simp [go_sem]
    have Hown := Lib.hid hown
    have Hb1 := Lib.hid hb1
    clear hown hb1 hc1 hf1 h0
    go_wp2_with fail
    go_loopw [11] (fun i wr => i = .int .i64 0 ∧ wr = w1.alloc (Obj.cells #[Value.slice A1 0 c1] 30)) (fun _ _ => 0)
    case atStart => exact ⟨rfl, rfl⟩
    case round =>
      obtain ⟨rfl, rfl⟩ := hrel
      go_wp2
      refine bodyPost_ret (v := .agg #[.slice A1 0 c1]) (by simp [results, Try.results51, go_sem, hc2, hz3]) rfl ⟨_, rfl, ?_, ?_⟩
      · have h4 : w1.ownsRow (w.heap.size + 2) 111 3 (.slice A1 0 c1) 0 [] := ownsRow_more Hown.out (by simp)
        exact ownsRow_more (World.ownsRow.alloc (ownsRow_setCell_below h4 (a := ⟨w.heap.size + 1, 0, none⟩) (by show w.heap.size + 1 < w.heap.size + 2; omega) _) _) (by omega)
      · exact (((((Below.refl _ _).alloc (Nat.le_refl _) _).alloc (by simp) _).trans (Hb1.out.mono (by simp; omega))).setCell (by show w.heap.size ≤ w.heap.size + 1; omega) _).alloc (by simp [World.setCell]; omega) _
  · obtain ⟨g, cap, rfl, hgb, hgl, hcap, _⟩ := own_form hown h0
    simp at hgb
    obtain ⟨hc1, hf1⟩ := bcell hb1
    have hz1 : w.heap.size + 2 ≤ w1.heap.size := by have := hb1.size; simp at this; omega
    have Hown := Lib.hid hown
    have Hb1 := Lib.hid hb1
    clear hown hb1 hcap
    go_wp2_with fail
    have hgw : w1.alloc (Obj.cells #[Value.slice (some ⟨g, 0, none⟩) xs.length cap] 30) = w1.alloc (Obj.cells #[Value.slice (some ⟨g, 0, none⟩) xs.length cap] 30) := rfl
    go_loopw [11] (fun i wr => ∃ n : Nat, n ≤ xs.length ∧ i = .int .i64 n ∧ (w1.alloc (Obj.cells #[Value.slice (some ⟨g, 0, none⟩) xs.length cap] 30)).grownBy wr (some g) ∧
      wr.ownsRow (w.heap.size + 2) 111 3 (.slice (some ⟨g, 0, none⟩) xs.length cap) xs.length (((xs.take n).map turnR ++ xs.drop n).flatMap GRule.cells)) (fun i _ => xs.length - (intOf i).toNat)
    case atStart => exact ⟨0, Nat.zero_le _, rfl, World.grownBy.refl _ _, by have := Hown.out; simp only [List.take_zero, List.map_nil, List.nil_append, List.drop_zero]; exact ownsRow_more (World.ownsRow.alloc this _) (by simp)⟩
    case round =>
      obtain ⟨n, hnl, rfl, hgr, hown⟩ := hrel
      have hbx : wr.heap[w1.heap.size]? = some (Obj.cells #[Value.slice (some ⟨g, 0, none⟩) xs.length cap] 30) := by
        rw [hgr.block w1.heap.size (by simp) (by simp; omega)]; exact heap_alloc_new _ _
      have hcb : wr.cell? ⟨w1.heap.size, 0, none⟩ = some (.slice (some ⟨g, 0, none⟩) xs.length cap) := by simp [World.cell?, hbx]
      have hszr : w1.heap.size < wr.heap.size := by have := hgr.size; simp at this; omega
      clear hbx
      by_cases hlt : n < xs.length
      · obtain ⟨r, hr⟩ : ∃ r, xs[n]? = some r := ⟨_, List.getElem?_eq_getElem hlt⟩
        obtain ⟨c0, c1, c2⟩ := cells3 _ _ _ (turn_at hr)
        have hl3 : n * 3 + 2 < xs.length * 3 := by omega
        have hd0 : wr.cell? ⟨g, n * 3, none⟩ = some (.string r.letter) := (hown.cellAt (n * 3) (by omega)).trans c0
        have hd1 : wr.cell? ⟨g, n * 3 + 1, none⟩ = some (.int .i64 r.left) := (hown.cellAt (n * 3 + 1) (by omega)).trans c1
        have hd2 : wr.cell? ⟨g, n * 3 + 2, none⟩ = some (.int .i64 r.right) := (hown.cellAt (n * 3 + 2) (by omega)).trans c2
        have hf0 := hown.frozenAt (n * 3)
        have hfa := hown.frozenAt (n * 3 + 1)
        have hfb := hown.frozenAt (n * 3 + 2)
        have hi : (n : Int) < (xs.length : Int) := by omega
        have hg2 : g < wr.heap.size := by omega
        have Hr := Lib.hid hr
        have Hown := Lib.hid hown
        have Hgr := Lib.hid hgr
        clear hown hgr hr c0 c1 c2 hc1 hf1 hgw
        go_wp2_with fail
        go_region
        go_wp2
        go_roundw
        case rel =>
          refine ⟨n + 1, by omega, by go_num, ?_, ?_⟩
          · exact grown_drew (grown_alloc (grown_trans Hgr.out (OwnRules.stored2 Hown.out n r r.right r.left (turn_at Hr.out)).2) _)
          · rw [← turn_step Hr.out]
            exact World.ownsRow.alloc (OwnRules.stored2 Hown.out n r r.right r.left (turn_at Hr.out)).1 _
        case measure => simp [intOf]; omega
      · have hkn : n = xs.length := by omega
        subst hkn
        have hrb : wr.heap[w.heap.size + 1]? = some (Obj.cells #[Value.slice none 0 0] 30) := by
          rw [hgr.block (w.heap.size + 1) (by simp; omega) (by simp; omega), Below.heap_alloc _ _ _ (by omega), Hb1.out.block _ (by simp)]
          have h9 := alloc_heap_last (w.alloc (Obj.cells #[Value.slice A xs.length c] 30)) (Obj.cells #[Value.slice none 0 0] 30)
          rw [show (w.alloc (Obj.cells #[Value.slice A xs.length c] 30)).heap.size = w.heap.size + 1 by simp] at h9
          exact h9
        have hcr : wr.cell? ⟨w.heap.size + 1, 0, none⟩ = some (.slice none 0 0) := by simp [World.cell?, hrb]
        have hfr : wr.frozen? ⟨w.heap.size + 1, 0, none⟩ = false := by simp [World.frozen?, hrb]
        have Hgr := Lib.hid hgr
        have Hown := Lib.hid hown
        clear hrb hown hgr hc1 hf1 hgw
        go_wp2
        refine bodyPost_ret (v := .agg #[.slice (some ⟨g, 0, none⟩) xs.length cap]) (by simp [results, Try.results51, go_sem, hcr]) rfl ⟨_, rfl, ?_, ?_⟩
        · have h4 := Hown.out
          rw [List.take_length, List.drop_length, List.append_nil] at h4
          have h5 := ownsRow_setCell_below h4 (a := ⟨w.heap.size + 1, 0, none⟩) (by show w.heap.size + 1 < w.heap.size + 2; omega) (.slice (some ⟨g, 0, none⟩) xs.length cap)
          unfold OwnRules
          rw [List.length_map]
          exact ownsRow_more h5 (by omega)
        · refine Below.setCell ?_ (by show w.heap.size ≤ w.heap.size + 1; omega) _
          exact ((((((Below.refl _ _).alloc (Nat.le_refl _) _).alloc (by simp) _).trans (Hb1.out.mono (by simp; omega))).alloc (by omega) _).grown Hgr.out (by simp; omega) (fun k hk => by injection hk with hk; omega))
theorem own_keep {w w' : World} {base e s : Nat} {v : Value} {n : Nat} {xs : List Value} (h : w.ownsRow base e s v n xs) (hk : ∀ g, v.ownBlock = some g → w'.heap[g]? = w.heap[g]?) : w'.ownsRow base e s v n xs := by
  refine ⟨h.1, ?_⟩
  rcases h.2 with hn | ⟨g, cap, cur, rfl, hb, hgg, rest⟩
  · exact .inl hn
  · exact .inr ⟨g, cap, cur, rfl, hb, by rw [hk g rfl]; exact hgg, rest⟩
theorem below_of_grown {w w' : World} {row : Option Nat} {N : Nat} (hg : w.grownBy w' row) (hN : N ≤ w.heap.size) (hr : ∀ g, row = some g → N ≤ g) : Below N w w' :=
  ⟨hg.os, hg.tape, hg.output, hg.size, fun k hk => hg.block k (by omega) (fun e => by have := hr k e.symm; omega)⟩
theorem markGrammar1 (base : Nat) (v : Value) (xs : List GRule) (w : World) (h : OwnRules w base v xs) (hn : xs.length ≤ 1099511627776) :
    Calls Try.prog 14 #[.agg #[v], .int .i64 1] w fun e w' => e = .returned (.int .i64 ((1 + 3 * xs.length : Nat) : Int)) ∧ OwnRules w' base v (marks 1 xs.length) ∧ w.grownBy w' v.ownBlock :=
  markGrammar_any base v xs 1 w h hn (by omega)
theorem OwnRules.below {w w' : World} {base : Nat} {v : Value} {l : List GRule} (h : OwnRules w base v l) (hb : Below w.heap.size w w') : OwnRules w' base v l := ownsRow_below h hb
theorem OwnRules.keep {w w' : World} {base : Nat} {v : Value} {l : List GRule} {row : Option Nat} (h : OwnRules w base v l) (hg : w.grownBy w' row) (hne : ∀ g, v.ownBlock = some g → some g ≠ row) : OwnRules w' base v l :=
  own_keep h fun g hgg => hg.block g (World.ownsRow.lt h g hgg).2 (hne g hgg)
theorem l04Letter_any (c : UInt8) (w : World) (h1 : 97 ≤ c.toNat) (h2 : c.toNat ≤ 100) :
    Calls Try.prog 46 #[.int .u8 c.toNat] w fun e w' => e = .returned (.int .i64 ((c.toNat - 97 : Nat) : Int)) ∧ w = w' := by
  obtain ⟨d, hd⟩ : ∃ d, c.toNat = 97 + d := ⟨c.toNat - 97, by omega⟩
  have hd3 : d ≤ 3 := by omega
  rw [hd]
  clear hd h1 h2
  go_enter Try.func46, Try.ntmps46
  go_wp2_with fail
  go_ret
  exact ⟨ret_int (by omega), rfl⟩
theorem wpList_push2 {P : Program} {W : World} {ops : Array Oper} {rest : List Oper} {o : Oper} {a : Act} {Q : Exit → Act → World → Prop} (hgd : o.guard = none) (s x : Operand) (t : TypeId)
    (ho : o.op = .call { callee := .builtin .append, args := #[s, x], argTypes := #[t, t] }) {cs : Array Value} {e : TypeId}
    (i : TypeInfo) (z : Value) (size bytes : Nat) (ht : P.underlying t = some (.slice e)) (hi : P.info? e = some i) (hz : i.zero = some z)
    (hsize : i.size = size) (hby : i.bytes = bytes) (hzs : z.cells.size = size) (hsz : 0 < size)
    {base : Nat} {v : Value} {n : Nat} {xs : List Value} (hs : a.eval s = v) (hx : a.eval x = .slice (some ⟨W.heap.size, 0, none⟩) 1 1)
    (hcs : cs.size = size) (h1 : ∀ u ∈ cs.toList, u.oneCell' = true) (hown : W.ownsRow base e size v n xs)
    (hlen : (n + 1) * bytes ≤ 140737488355328) (hn : n + 1 ≤ 140737488355328) (hbase : base ≤ W.heap.size)
    (h : ∀ v' w', w'.ownsRow base e size v' (n + 1) (xs ++ cs.toList) → (W.alloc (.cells cs e)).grownBy w' v.ownBlock → (v'.ownBlock = v.ownBlock ∨ v'.ownBlock = some (W.heap.size + 1)) → wpList P ops Q rest (a.put o.dst v') w') :
    wpList P ops Q (o :: rest) a (W.alloc (.cells cs e)) := by
  refine wpList_plain hgd fun _ hK => ?_
  obtain ⟨v', w', hrun, h2, h3, _, h5⟩ := run_append_own_at (P := P) (W.alloc (.cells cs e)) base t o.type e i z size bytes ht hi hz hsize hby hzs hsz v n xs (hown.alloc _) ⟨W.heap.size, 0, none⟩ 1 1 cs.toList (by simpa using hcs)
    (fun j u hu => by
      have : (W.alloc (.cells cs e)).cell? ⟨W.heap.size, j, none⟩ = cs[j]? := cell_of_row _ _ _ _ e (0, 0) (heap_alloc_new W _)
      have ha : (⟨W.heap.size, 0, none⟩ : Addr).add j = ⟨W.heap.size, j, none⟩ := by unfold Addr.add; split <;> simp_all
      rw [ha, this]; simpa using hu) h1 (by simp only [maxLen]; omega) hlen (by simp; omega)
  unfold Oper.wp execOp
  simp only [ho, resolve, invoke, builtin, Sem.run_bind, Sem.run_pure, Result.andThen_ok, List.map_toArray, List.map_cons, List.map_nil, hs, hx, hrun]
  exact hK _ _ (h v' w' h2 h3 (by simpa using h5))
theorem push_sl {W : World} {ops : Array Oper} {rest : List Oper} {o : Oper} {a : Act} {Q : Exit → Act → World → Prop} (hgd : o.guard = none) (s x : Operand)
    (ho : o.op = .call { callee := .builtin .append, args := #[s, x], argTypes := #[54, 54] }) {u : Value} {base n : Nat} {v : Value} {vs : List Value}
    (hs : a.eval s = v) {N : Nat} (hx : a.eval x = .slice (some ⟨N, 0, none⟩) 1 1) (hN : N = W.heap.size) (hu : u.oneCell' = true) (hown : W.ownsRow base 34 1 v n vs) (hlen : n ≤ 1099511627776) (hbase : base ≤ W.heap.size)
    (h : ∀ v' w', w'.ownsRow base 34 1 v' (n + 1) (vs ++ [u]) → (W.alloc (.cells #[u] 34)).grownBy w' v.ownBlock → (v'.ownBlock = v.ownBlock ∨ v'.ownBlock = some (W.heap.size + 1)) → wpList Try.prog ops Q rest (a.put o.dst v') w') :
    wpList Try.prog ops Q (o :: rest) a (W.alloc (.cells #[u] 34)) := by
  subst hN
  obtain ⟨i0, hi0, hz0, hz1, hz2⟩ := info_parts Try.infoII
  refine wpList_push2 hgd s x 54 ho i0 (.slice none 0 0) 1 24 Try.underlying54 hi0 hz0 hz1 hz2 rfl (by decide) hs hx rfl (by simpa using hu) hown (by omega) (by omega) hbase ?_
  intro v' w' h1 h2 h3
  exact h v' w' (by simpa using h1) h2 h3
theorem cells2 {w : World} {S : Nat → Prop} {A : Option Addr} {l : List (List Int)} (hrow : Row (SliceE IntE) w S A l) (hl : 0 < l.length) :
    ∃ b o, A = some ⟨b, o, none⟩ ∧ S b ∧ ∀ t d, t < l.length → d < (l.getD t []).length → ∃ b' o' c, w.cell? ⟨b, o + t, none⟩ = some (.slice (some ⟨b', o', none⟩) (l.getD t []).length c) ∧ S b' ∧ w.cell? ⟨b', o' + d, none⟩ = some (.int .i64 ((l.getD t []).getD d 0)) := by
  obtain ⟨b, o, rfl, hbl, hcell⟩ := hrow.sl hl
  refine ⟨b, o, rfl, hbl, fun t d ht hd => ?_⟩
  have hx : l[t]? = some (l.getD t []) := by rw [List.getD_eq_getElem?_getD, List.getElem?_eq_getElem ht]; rfl
  obtain ⟨u, hu, A2, c2, rfl, hc2, hm2, hrow2⟩ := hcell t _ hx
  obtain ⟨b2, o2, rfl, hb2, hcell2⟩ := hrow2.int (k := d) hd
  exact ⟨b2, o2, c2, hu, hb2, hcell2 d hd⟩
theorem own_grown {w w' : World} {base e s : Nat} {v : Value} {n : Nat} {xs : List Value} {row : Option Nat} (h : w.ownsRow base e s v n xs) (hg : w.grownBy w' row) (hne : ∀ g, v.ownBlock = some g → some g ≠ row) : w'.ownsRow base e s v n xs :=
  own_keep h fun g hgg => hg.block g (h.lt g hgg).2 (hne g hgg)
theorem ownSl_empty {w : World} {base N : Nat} (hN : N = w.heap.size) (hb : base ≤ w.heap.size) : (w.alloc (Obj.cells #[] 34)).ownsRow base 34 1 (Value.slice (some ⟨N, 0, none⟩) 0 0) 0 [] := by
  subst hN
  exact World.ownsRow_lit w #[] 0 hb (Nat.zero_le _) rfl
theorem isPair_b (l : ByteArray) (a b : Int) (w : World) :
    Calls Try.prog 92 #[.agg #[.string l, .int .i64 a, .int .i64 b]] w fun e w' => e = .returned (.bool (l.toList.isEmpty)) ∧ Below w.heap.size w w' :=
  (isPair_any l a b w).mono fun _ _ ⟨he, hw⟩ => ⟨he, hw ▸ (Below.refl _ _).alloc (Nat.le_refl _) _⟩
theorem maps_push {N B : Nat} {wo wr w2 : World} {outv v' rowv : Value} {k : Nat} {vs : List Value} {M : List (List Int)} {row : List Int} {o : Obj} (hN : N ≤ wo.heap.size) (hB : wo.heap.size ≤ B) (hown : wo.ownsRow N 34 1 outv k vs)
    (hea : Each IntE wo (fun b => N ≤ b ∧ b < wo.heap.size ∧ some b ≠ outv.ownBlock) vs M) (hb : Below wo.heap.size wo wr) (hrow : OwnInts wr B rowv row) (hg : (wr.alloc o).grownBy w2 outv.ownBlock) (hv : v'.ownBlock = outv.ownBlock ∨ v'.ownBlock = some (wr.heap.size + 1)) :
    Each IntE w2 (fun b => N ≤ b ∧ b < w2.heap.size ∧ some b ≠ v'.ownBlock) (vs ++ [rowv]) (M ++ [row]) := by
  have hs1 : wo.heap.size ≤ wr.heap.size := hb.size
  have hs2 : wr.heap.size < w2.heap.size := Nat.lt_of_lt_of_le (by simp) hg.size
  have hob := fun g hg => (hown.lt g hg).2
  have h1 := hea.keep ((Keep.of_below hb).mono fun b h => h.2.1)
  have h2 := h1.keep ((Keep.of_below ((Below.refl wr.heap.size wr).alloc (Nat.le_refl _) o)).mono fun b h => by have := h.2.1; omega)
  have h3 := h2.keep ((Keep.of_grown hg).mono fun b h => ⟨by have := h.2.1; simp; omega, h.2.2⟩)
  have h4 := h3.more (S' := fun b => N ≤ b ∧ b < w2.heap.size ∧ some b ≠ v'.ownBlock) fun b h => ⟨h.1, by have := h.2.1; omega, fun e => by
    rcases hv with hv | hv
    · exact h.2.2 (e.trans hv)
    · rw [hv] at e; injection e with e; have := h.2.1; omega⟩
  refine h4.snoc ?_
  have r1 := World.ownsRow.alloc hrow o
  have r2 : OwnInts w2 B rowv row := own_grown r1 hg fun g hgg e => by
    have := (World.ownsRow.lt hrow g hgg).1
    have := hob g e.symm
    omega
  refine r2.slS fun g hgg => ⟨?_, ?_, ?_⟩
  · have := (World.ownsRow.lt hrow g hgg).1; omega
  · have := (World.ownsRow.lt hrow g hgg).2; omega
  · intro e
    rcases hv with hv | hv
    · have := hob g (hv ▸ e.symm); have := (World.ownsRow.lt hrow g hgg).1; omega
    · rw [hv] at e; injection e with e; have := (World.ownsRow.lt hrow g hgg).2; omega
def MapsPost (w : World) (m : List (List Int)) (e : Ending) (w' : World) : Prop :=
  ∃ v, e = .returned v ∧ SlS (SliceE IntE) w' (fun b => w.heap.size ≤ b ∧ b < w'.heap.size) v m ∧ Below w.heap.size w w'
def lastI (l : List Int) : Int := l.getD (l.length - 1) 0
theorem last_any (v : Value) (l : List Int) (w : World) (h : Sl IntE w w.heap.size v l) :
    Calls Try.prog 68 #[v] w fun e w' => e = .returned (.int .i64 (lastI l)) ∧ w = w' := by
  obtain ⟨A, c, rfl, hc, hm, hrow⟩ := h
  unfold maxLen at hm
  by_cases h0 : l.length = 0
  · have hl : l = [] := List.eq_nil_of_length_eq_zero h0
    subst hl
    go_enter Try.func68, Try.ntmps68
    go_wp2_with fail
    go_ret
    exact ⟨rfl, rfl⟩
  · obtain ⟨b, o, rfl, hbl, hcell⟩ := hrow.int (k := 0) (by omega)
    have hc0 := hcell (l.length - 1) (by omega)
    have g0 : ((l.length : Int) == 0) = false := by rw [beq_eq_false_iff_ne]; omega
    have hk : ((l.length : Int) - 1).toNat = l.length - 1 := by omega
    have hl : 0 ≤ (l.length : Int) - 1 := by omega
    obtain ⟨x, hx⟩ : ∃ x, l.getD (l.length - 1) 0 = x := ⟨_, rfl⟩
    have Hx := Lib.hid hx
    rw [hx] at hc0
    clear hcell hx
    go_enter Try.func68, Try.ntmps68
    go_wp2_with fail
    go_ret
    exact ⟨ret_int (by rw [lastI, Hx.out]), rfl⟩
theorem Wk.set {C : Nat → Prop} {w : World} {b o : Nat} {v : Value} (h : ¬ C b) : Wk C w (w.setCell ⟨b, o, none⟩ v).drew :=
  ⟨rfl, rfl, rfl, by show w.heap.size ≤ (w.setCell ⟨b, o, none⟩ v).heap.size; simp, fun k hk => heap_setCell_other w ⟨b, o, none⟩ k v (fun e => h (by have e' : k = b := e; exact e' ▸ hk))⟩
def wordR (xs : List GRule) : Nat → Nat → List UInt8
  | 0, _ => []
  | f + 1, r => if (getR xs r).pair then wordR xs f (getR xs r).left.toNat ++ wordR xs f (getR xs r).right.toNat else (getR xs r).letter.data.toList
def W1 (xs : List GRule) (r : Nat) : List UInt8 := wordR xs (r + 1) r
def wordG (xs : List GRule) : List UInt8 := if xs = [] then [] else W1 xs (xs.length - 1)
def cutL {α : Type} (l : List α) (i j : Int) : List α := (l.take j.toNat).drop i.toNat
theorem wordR_fuel {xs : List GRule} {ls : List Int} (h : lens xs = some ls) : ∀ (f r : Nat), r < f → r < xs.length → wordR xs f r = W1 xs r := by
  intro f
  induction f using Nat.strongRecOn with
  | _ f ih =>
    intro r hr hx
    obtain ⟨g, rfl⟩ : ∃ g, f = g + 1 := ⟨f - 1, by omega⟩
    unfold W1
    rw [wordR, wordR]
    cases hp : (getR xs r).pair with
    | false => rfl
    | true =>
      obtain ⟨q1, q2, q3, q4, q5⟩ := lens_pair h hx hp
      rw [if_pos rfl, if_pos rfl, ih g (by omega) _ (by omega) (by omega), ih g (by omega) _ (by omega) (by omega)]
      by_cases e : r = g
      · subst e
        rw [ih r (by omega) _ (by omega) (by omega), ih r (by omega) _ (by omega) (by omega)]
      · rw [ih r (by omega) _ q2 (by omega), ih r (by omega) _ q4 (by omega)]
theorem W1_pair {xs : List GRule} {ls : List Int} (h : lens xs = some ls) {r : Nat} (hx : r < xs.length) (hp : (getR xs r).pair = true) : W1 xs r = W1 xs (getR xs r).left.toNat ++ W1 xs (getR xs r).right.toNat := by
  obtain ⟨q1, q2, q3, q4, q5⟩ := lens_pair h hx hp
  rw [W1, wordR, if_pos hp, wordR_fuel h r _ q2 (by omega), wordR_fuel h r _ q4 (by omega)]
theorem W1_let {xs : List GRule} {r : Nat} (hp : (getR xs r).pair = false) : W1 xs r = (getR xs r).letter.data.toList := by
  rw [W1, wordR, if_neg (by simp [hp])]
theorem lens_isLet {xs : List GRule} {ls : List Int} (h : lens xs = some ls) {r : Nat} (hx : r < xs.length) (hp : (getR xs r).pair = false) : isLet (getR xs r).letter = true := by
  have h1 := (lens_steps h r _ (getR_at hx)).1
  unfold okRule at h1
  rw [if_neg (by simp [hp])] at h1
  simp at h1; exact h1.1.1
theorem isLet_size {s : ByteArray} (h : isLet s = true) : s.size = 1 := by unfold isLet at h; simp at h; exact h.1.1
theorem W1_len {xs : List GRule} {ls : List Int} (h : lens xs = some ls) : ∀ (r : Nat), r < xs.length → ((W1 xs r).length : Int) = ls.getD r 0 := by
  intro r
  induction r using Nat.strongRecOn with
  | _ r ih =>
    intro hx
    cases hp : (getR xs r).pair with
    | false =>
      rw [W1_let hp, lens_letter h hx hp]
      have := isLet_size (lens_isLet h hx hp)
      show (((getR xs r).letter.data.toList.length : Nat) : Int) = 1
      rw [Array.length_toList]
      exact congrArg _ this
    | true =>
      obtain ⟨q1, q2, q3, q4, q5⟩ := lens_pair h hx hp
      rw [W1_pair h hx hp, List.length_append, q5, ← ih _ q2 (by omega), ← ih _ q4 (by omega)]
      omega
theorem cutL_append {α : Type} (a b : List α) (i j : Int) : cutL (a ++ b) i j = cutL a i j ++ cutL b (i - a.length) (j - a.length) := by
  unfold cutL
  rw [List.take_append, List.drop_append]
  have e1 : (j - (a.length : Int)).toNat = j.toNat - a.length := by omega
  have e2 : (i - (a.length : Int)).toNat = i.toNat - a.length := by omega
  rw [e1, e2, List.length_take]
  congr 1
  by_cases hj : j.toNat ≤ a.length
  · have : List.take (j.toNat - a.length) b = [] := by rw [show j.toNat - a.length = 0 by omega]; rfl
    rw [this]; simp
  · rw [show min j.toNat a.length = a.length by omega]
theorem cutL_nil {α : Type} {l : List α} {i j : Int} (h : (l.length : Int) ≤ i ∨ j ≤ 0 ∨ j ≤ i) : cutL l i j = [] := by
  unfold cutL
  apply List.drop_eq_nil_of_le
  rw [List.length_take]; omega
theorem cutL_all {α : Type} {l : List α} {i j : Int} (hi : i ≤ 0) (hj : (l.length : Int) ≤ j) : cutL l i j = l := by
  unfold cutL
  rw [show i.toNat = 0 by omega, List.drop_zero, List.take_of_length_le (by omega)]
theorem cover_word {xs : List GRule} {ls : List Int} (h : lens xs = some ls) {i j : Int} : ∀ (f r : Nat) (p : Int), r < f → r < xs.length →
    (coverR xs ls i j f r p).flatMap (W1 xs) = cutL (W1 xs r) (i - p) (j - p) := by
  intro f
  induction f with
  | zero => intro r p hr; omega
  | succ f ih =>
    intro r p hr hx
    have hw := W1_len h r hx
    have h1 := lens_pos' h hx
    rw [coverR]
    split
    · rename_i c; rw [cutL_nil (by omega)]; rfl
    split
    · rename_i c; rw [cutL_all (by omega) (by omega)]; simp
    rename_i c1 c2
    cases hp : (getR xs r).pair with
    | false => have := lens_letter h hx hp; omega
    | true =>
      obtain ⟨q1, q2, q3, q4, q5⟩ := lens_pair h hx hp
      rw [List.flatMap_append, ih _ _ (by omega) (by omega), ih _ _ (by omega) (by omega), W1_pair h hx hp, cutL_append, W1_len h _ (by omega)]
      congr 2 <;> omega
theorem wordG_pos {xs : List GRule} (h : 0 < xs.length) : wordG xs = W1 xs (xs.length - 1) := by
  rw [wordG, if_neg (by intro e; subst e; simp at h)]
theorem lastI_at {xs : List GRule} {ls : List Int} (h : lens xs = some ls) (_h0 : 0 < xs.length) : lastI ls = ls.getD (xs.length - 1) 0 := by
  rw [lastI, lens_length h]
theorem wordG_len {xs : List GRule} {ls : List Int} (h : lens xs = some ls) : ((wordG xs).length : Int) = lastI ls := by
  by_cases h0 : 0 < xs.length
  · rw [wordG_pos h0, W1_len h _ (by omega), lastI_at h h0]
  · have hx : xs = [] := List.eq_nil_of_length_eq_zero (by omega)
    subst hx
    have : ls = [] := List.eq_nil_of_length_eq_zero (by rw [lens_length h]; rfl)
    subst this; rfl
theorem pieces_word {xs : List GRule} {ls : List Int} (h : lens xs = some ls) {i j : Int} : (piecesL xs ls i j).flatMap (W1 xs) = cutL (wordG xs) i j := by
  unfold piecesL
  split
  · rename_i c
    rw [cover_word h _ _ _ (by omega) (by omega), wordG_pos c.1, Int.sub_zero, Int.sub_zero]
  · rename_i c
    by_cases h0 : 0 < xs.length
    · rw [cutL_nil (by omega)]; rfl
    · have hx : xs = [] := List.eq_nil_of_length_eq_zero (by omega)
      subst hx
      simp [wordG, cutL]
def selW (c : UInt8) : Nat → List UInt8 → Nat
  | _, [] => 0
  | k, x :: W => if x = c then (if k = 0 then 0 else selW c (k - 1) W + 1) else selW c k W + 1
def cntW (c : UInt8) : List UInt8 → Nat
  | [] => 0
  | x :: W => (if x = c then 1 else 0) + cntW c W
theorem cntW_app (c : UInt8) (A B : List UInt8) : cntW c (A ++ B) = cntW c A + cntW c B := by
  induction A with
  | nil => simp [cntW]
  | cons x A ih => simp only [List.cons_append, cntW, ih]; omega
theorem cntW_rev (c : UInt8) (A : List UInt8) : cntW c A.reverse = cntW c A := by
  induction A with
  | nil => rfl
  | cons x A ih => rw [List.reverse_cons, cntW_app, ih]; simp only [cntW]; omega
theorem cntW_le (c : UInt8) (A : List UInt8) : cntW c A ≤ A.length := by
  induction A with
  | nil => simp [cntW]
  | cons x A ih => simp only [cntW, List.length_cons]; split <;> omega
theorem selW_app (c : UInt8) (B : List UInt8) : ∀ (A : List UInt8) (k : Nat), (k < cntW c A → selW c k (A ++ B) = selW c k A) ∧ (cntW c A ≤ k → selW c k (A ++ B) = A.length + selW c (k - cntW c A) B) := by
  intro A
  induction A with
  | nil => intro k; refine ⟨fun h => absurd h (by simp [cntW]), fun _ => by simp [cntW]⟩
  | cons x A ih =>
    intro k
    by_cases e : x = c
    · refine ⟨fun h => ?_, fun h => ?_⟩
      · simp only [List.cons_append, selW, if_pos e]
        by_cases k0 : k = 0
        · simp [k0]
        · rw [if_neg k0, if_neg k0, (ih (k - 1)).1 (by simp only [cntW, if_pos e] at h; omega)]
      · simp only [cntW, if_pos e] at h ⊢
        simp only [List.cons_append, selW, if_pos e, List.length_cons]
        rw [if_neg (by omega), (ih (k - 1)).2 (by omega), show k - 1 - cntW c A = k - (1 + cntW c A) by omega]; omega
    · refine ⟨fun h => ?_, fun h => ?_⟩
      · simp only [List.cons_append, selW, if_neg e]
        rw [(ih k).1 (by simp only [cntW, if_neg e] at h; omega)]
      · simp only [cntW, if_neg e] at h ⊢
        simp only [List.cons_append, selW, if_neg e, List.length_cons]
        rw [(ih k).2 (by omega), show k - (0 + cntW c A) = k - cntW c A by omega]; omega
theorem selW_part (c : UInt8) : ∀ (W : List UInt8) (k : Nat), k < cntW c W → ∃ A B, W = A ++ c :: B ∧ cntW c A = k ∧ selW c k W = A.length := by
  intro W
  induction W with
  | nil => intro k h; exact absurd h (by simp [cntW])
  | cons x W ih =>
    intro k h
    by_cases e : x = c
    · by_cases k0 : k = 0
      · exact ⟨[], W, by rw [e]; rfl, by simp [cntW, k0], by simp [selW, e, k0]⟩
      · obtain ⟨A, B, h1, h2, h3⟩ := ih (k - 1) (by simp only [cntW, if_pos e] at h; omega)
        refine ⟨x :: A, B, by rw [h1]; rfl, ?_, ?_⟩
        · simp only [cntW, if_pos e, h2]; omega
        · simp only [selW, if_pos e, if_neg k0, h3, List.length_cons]
    · obtain ⟨A, B, h1, h2, h3⟩ := ih k (by simp only [cntW, if_neg e] at h; omega)
      refine ⟨x :: A, B, by rw [h1]; rfl, ?_, ?_⟩
      · simp only [cntW, if_neg e, h2]; omega
      · simp only [selW, if_neg e, h3, List.length_cons]
theorem selW_at (c : UInt8) (A B : List UInt8) : selW c (cntW c A) (A ++ c :: B) = A.length := by
  rw [(selW_app c _ A _).2 (Nat.le_refl _), Nat.sub_self]; simp [selW]
theorem selW_lt {c : UInt8} {W : List UInt8} {k : Nat} (h : k < cntW c W) : selW c k W < W.length := by
  obtain ⟨A, B, h1, _, h3⟩ := selW_part c W k h
  rw [h3, h1, List.length_append, List.length_cons]; omega
theorem selW_rev {c : UInt8} {W : List UInt8} {k : Nat} (h : k < cntW c W) : selW c k W.reverse = W.length - 1 - selW c (cntW c W - 1 - k) W := by
  obtain ⟨A, B, h1, h2, h3⟩ := selW_part c W (cntW c W - 1 - k) (by omega)
  have e : cntW c B = k := by rw [h1, cntW_app] at h2 h; simp only [cntW, if_true] at h h2; omega
  rw [h3]
  have e2 : W.reverse = B.reverse ++ c :: A.reverse := by rw [h1]; simp
  have e3 := selW_at c B.reverse A.reverse
  rw [cntW_rev, e, List.length_reverse] at e3
  rw [e2, e3, h1, List.length_append, List.length_cons]; omega
def embF (W : List UInt8) : List UInt8 → Nat → List Nat
  | [], _ => []
  | c :: p, i => if cntW c (W.take i) < cntW c W then selW c (cntW c (W.take i)) W :: embF W p (selW c (cntW c (W.take i)) W + 1) else []
def embL (W : List UInt8) : List UInt8 → Nat → Option (List Nat)
  | [], _ => some []
  | c :: q, t => if cntW c (W.take t) = 0 then none else (embL W q (selW c (cntW c (W.take t) - 1) W)).map (selW c (cntW c (W.take t) - 1) W :: ·)
theorem embF_le (W : List UInt8) : ∀ (p : List UInt8) (i : Nat), (embF W p i).length ≤ p.length := by
  intro p
  induction p with
  | nil => intro i; simp [embF]
  | cons c p ih => intro i; rw [embF]; split <;> simp [ih]
theorem cnt_take_rev (c : UInt8) (W : List UInt8) (t : Nat) (h : t ≤ W.length) : cntW c (W.reverse.take (W.length - t)) = cntW c W - cntW c (W.take t) := by
  have e := cntW_app c (W.take t) (W.drop t)
  rw [List.take_append_drop] at e
  have e2 : W.reverse.take (W.length - t) = (W.drop t).reverse := by
    have := List.take_reverse (xs := W) (i := W.length - t)
    rw [this, show W.length - (W.length - t) = t by omega]
  rw [e2, cntW_rev]; omega
theorem emb_last (W : List UInt8) : ∀ (q : List UInt8) (t : Nat), t ≤ W.length →
    embL W q t = if (embF W.reverse q (W.length - t)).length < q.length then none else some ((embF W.reverse q (W.length - t)).map (fun a => W.length - 1 - a)) := by
  intro q
  induction q with
  | nil => intro t _; simp [embL, embF]
  | cons c q ih =>
    intro t ht
    have e1 := cnt_take_rev c W t ht
    have e2 := cntW_app c (W.take t) (W.drop t)
    rw [List.take_append_drop] at e2
    have hr := cntW_rev c W
    rw [embL, embF, e1, hr]
    by_cases hk : cntW c (W.take t) = 0
    · rw [if_pos hk, hk, if_neg (show ¬ (cntW c W - 0 < cntW c W) by omega), if_pos (by simp)]
    · have hlt : cntW c W - cntW c (W.take t) < cntW c W := by omega
      rw [if_neg hk, if_pos hlt]
      have hs := selW_rev hlt
      rw [show cntW c W - 1 - (cntW c W - cntW c (W.take t)) = cntW c (W.take t) - 1 by omega] at hs
      have hb : selW c (cntW c (W.take t) - 1) W < W.length := selW_lt (by omega)
      rw [hs, show W.length - 1 - selW c (cntW c (W.take t) - 1) W + 1 = W.length - selW c (cntW c (W.take t) - 1) W by omega, ih _ (by omega)]
      simp only [List.length_cons]
      by_cases hx : (embF W.reverse q (W.length - selW c (cntW c (W.take t) - 1) W)).length < q.length
      · rw [if_pos hx, if_pos (by omega)]; rfl
      · rw [if_neg hx, if_neg (by omega)]
        simp only [Option.map_some, List.map_cons]
        rw [show W.length - 1 - (W.length - 1 - selW c (cntW c (W.take t) - 1) W) = selW c (cntW c (W.take t) - 1) W by omega]
theorem emb_last0 (W q : List UInt8) : embL W q W.length = if (embF W.reverse q 0).length < q.length then none else some ((embF W.reverse q 0).map (fun a => W.length - 1 - a)) := by
  have := emb_last W q W.length (Nat.le_refl _)
  rw [Nat.sub_self] at this; exact this
theorem cnt_pieces {c : UInt8} {xs : List GRule} {ls : List Int} (h : lens xs = some ls) {i j : Int} : ((piecesL xs ls i j).map (fun r => cntW c (W1 xs r))).sum = cntW c (cutL (wordG xs) i j) := by
  rw [← pieces_word h]
  generalize piecesL xs ls i j = L
  induction L with
  | nil => rfl
  | cons r L ih => rw [List.map_cons, List.sum_cons, List.flatMap_cons, cntW_app, ih]
def ltr (l : Nat) : UInt8 := UInt8.ofNat (97 + l)
def cntR (xs : List GRule) (r : Nat) : List Int := [(cntW (ltr 0) (W1 xs r) : Int), (cntW (ltr 1) (W1 xs r) : Int), (cntW (ltr 2) (W1 xs r) : Int), (cntW (ltr 3) (W1 xs r) : Int)]
def cntsL (xs : List GRule) (k : Nat) : List (List Int) := (List.range k).map (cntR xs)
theorem ltr_nat {l : Nat} (h : l < 4) : (ltr l).toNat = 97 + l := by
  unfold ltr; simp; omega
theorem ltr_of {c : UInt8} (h1 : 97 ≤ c.toNat) (h2 : c.toNat ≤ 100) : ltr (c.toNat - 97) = c := by
  unfold ltr
  rw [show 97 + (c.toNat - 97) = c.toNat by omega]; simp
theorem cntsL_len (xs : List GRule) (k : Nat) : (cntsL xs k).length = k := by simp [cntsL]
theorem cntsL_succ (xs : List GRule) (k : Nat) : cntsL xs (k + 1) = cntsL xs k ++ [cntR xs k] := by simp [cntsL, List.range_succ]
theorem cntsL_get (xs : List GRule) {k r : Nat} (h : r < k) : (cntsL xs k).getD r [] = cntR xs r := by
  unfold cntsL
  rw [List.getD_eq_getElem?_getD, List.getElem?_map, List.getElem?_range h]; rfl
theorem cntsL_at (xs : List GRule) {k r : Nat} (h : r < k) : (cntsL xs k)[r]? = some (cntR xs r) := by
  unfold cntsL
  rw [List.getElem?_map, List.getElem?_range h]; rfl
theorem cntR_len (xs : List GRule) (r : Nat) : (cntR xs r).length = 4 := rfl
theorem cntR_get (xs : List GRule) (r : Nat) {l : Nat} (h : l < 4) : (cntR xs r).getD l 0 = (cntW (ltr l) (W1 xs r) : Int) := by
  match l, h with
  | 0, _ => rfl
  | 1, _ => rfl
  | 2, _ => rfl
  | 3, _ => rfl
theorem cnt_pair {xs : List GRule} {ls : List Int} (h : lens xs = some ls) {r : Nat} (hx : r < xs.length) (hp : (getR xs r).pair = true) (c : UInt8) :
    cntW c (W1 xs r) = cntW c (W1 xs (getR xs r).left.toNat) + cntW c (W1 xs (getR xs r).right.toNat) := by rw [W1_pair h hx hp, cntW_app]
theorem let_one {xs : List GRule} {ls : List Int} (h : lens xs = some ls) {r : Nat} (hx : r < xs.length) (hp : (getR xs r).pair = false) : ∃ l, l < 4 ∧ (getR xs r).letter = ⟨#[ltr l]⟩ ∧ W1 xs r = [ltr l] := by
  have hL := lens_isLet h hx hp
  have h1 := isLet_size hL
  have hw := W1_let hp
  have h2 := hL
  unfold isLet at h2
  simp at h2
  generalize (getR xs r).letter = s at *
  obtain ⟨⟨L⟩⟩ := s
  have hl : L.length = 1 := h1
  obtain ⟨c, rfl⟩ := List.length_eq_one_iff.1 hl
  simp at h2
  refine ⟨c.toNat - 97, by omega, ?_, ?_⟩
  · rw [ltr_of (by omega) (by omega)]
  · rw [ltr_of (by omega) (by omega)]; exact hw
theorem cnt_let {l m : Nat} (hl : l < 4) (hm : m < 4) : cntW (ltr m) [ltr l] = if l = m then 1 else 0 := by
  simp only [cntW]
  by_cases e : l = m
  · subst e; simp
  · rw [if_neg e, if_neg]
    intro h
    have := congrArg UInt8.toNat h
    rw [ltr_nat hl, ltr_nat hm] at this; omega
theorem cnt_le {xs : List GRule} {ls : List Int} (h : lens xs = some ls) {r : Nat} (hx : r < xs.length) (c : UInt8) : (cntW c (W1 xs r) : Int) ≤ 1000000000000000 := by
  have h1 := cntW_le c (W1 xs r)
  have h2 := W1_len h r hx
  have h3 := lens_pos' h hx
  omega
theorem convB (L : List UInt8) (b p n c : Nat) (W : World) (hn : n = L.length) (h : ∀ t (ht : t < L.length), W.cell? ⟨b, p + t, none⟩ = some (.int .u8 (L[t].toNat : Int))) :
    (convert 41 9 (.slice (some ⟨b, p, none⟩) n c)).run Try.prog W = .ok (.string ⟨L.toArray⟩) W := by
  subst hn
  exact run_convert_bytes_back (P := Try.prog) W 41 9 5 ⟨b, p, none⟩ c L Try.underlying41 Try.underlying5 Try.underlying9 (fun j hj => by
    have e : (⟨b, p, none⟩ : Addr).add j = ⟨b, p + j, none⟩ := by unfold Addr.add; split <;> simp_all
    rw [e]; exact h j hj)
structure But (b : Nat) (w w' : World) : Prop where
  os : w'.os = w.os
  tape : w'.tape = w.tape
  output : w'.output = w.output
  size : w.heap.size ≤ w'.heap.size
  block : ∀ k, k < w.heap.size → k ≠ b → w'.heap[k]? = w.heap[k]?
theorem But.refl (b : Nat) (w : World) : But b w w := ⟨rfl, rfl, rfl, Nat.le_refl _, fun _ _ _ => rfl⟩
theorem But.trans {b : Nat} {x y z : World} (h : But b x y) (k : But b y z) : But b x z :=
  ⟨k.os.trans h.os, k.tape.trans h.tape, k.output.trans h.output, Nat.le_trans h.size k.size, fun i hi hne => (k.block i (Nat.lt_of_lt_of_le hi h.size) hne).trans (h.block i hi hne)⟩
theorem But.of {b : Nat} {w w' : World} (h : Below w.heap.size w w') : But b w w' := ⟨h.os, h.tape, h.output, h.size, fun k hk _ => h.block k hk⟩
theorem But.below {b B : Nat} {w w' : World} (h : But b w w') (hB : B ≤ b) (hw : B ≤ w.heap.size) : Below B w w' := ⟨h.os, h.tape, h.output, h.size, fun k hk => h.block k (Nat.lt_of_lt_of_le hk hw) (by omega)⟩
theorem But.cell {b : Nat} {w w' : World} (h : But b w w') {p : Addr} (hp : p.block < w.heap.size) (hne : p.block ≠ b) : w'.cell? p = w.cell? p := by
  simp only [World.cell?, h.block _ hp hne]
theorem But.drew {b : Nat} {w w' : World} (h : But b w w') : But b w w'.drew := ⟨h.os, h.tape, h.output, h.size, h.block⟩
theorem But.drewN {b : Nat} {w w' : World} (h : But b w w') (n : Nat) : But b w (w'.drewN n) := ⟨h.os, h.tape, h.output, h.size, h.block⟩
theorem But.setCell {b o : Nat} {w w' : World} (h : But b w w') (v : Value) : But b w (w'.setCell ⟨b, o, none⟩ v) :=
  ⟨h.os, h.tape, h.output, by simpa [World.setCell] using h.size, fun k hk hne => by
    rw [← h.block k hk hne]
    simp only [World.setCell, Array.getElem?_modify]
    rw [if_neg (fun e => hne e.symm)]⟩
theorem But.alloc {b : Nat} {w w' : World} (h : But b w w') (o : Obj) : But b w (w'.alloc o) :=
  ⟨h.os, h.tape, h.output, Nat.le_trans h.size (by simp), fun k hk hne => (Below.heap_alloc w' o k (Nat.lt_of_lt_of_le hk h.size)).trans (h.block k hk hne)⟩
theorem But.tr {b : Nat} {w w1 w2 : World} (h : But b w w1) (hb : Below w1.heap.size w1 w2) : But b w w2 := h.trans (But.of hb)
theorem But.keep {b : Nat} {w w' : World} (h : But b w w') : Keep (fun k => k ≠ b ∧ k < w.heap.size) w w' := fun k hk => h.block k hk.2 hk.1
theorem gram_lens {xs : List GRule} (h : gramOk xs = true) : xs.length ≤ 400 ∧ ∃ ls, lens xs = some ls := by
  simp only [gramOk, Bool.and_eq_true, decide_eq_true_eq] at h
  exact ⟨h.1, Option.isSome_iff_exists.1 h.2⟩
def gramLen (xs : List GRule) : Int := match lens xs with | some ls => lastI ls | none => 0
theorem gramLen_of {xs : List GRule} {ls : List Int} (h : lens xs = some ls) : gramLen xs = lastI ls := by simp [gramLen, h]
theorem lastI_bounds {xs : List GRule} {ls : List Int} (h : lens xs = some ls) : 0 ≤ lastI ls ∧ lastI ls ≤ 1000000000000000 := by
  have hll := lens_length h
  unfold lastI
  by_cases h0 : xs.length = 0
  · have : ls = [] := List.eq_nil_of_length_eq_zero (by omega)
    subst this; simp
  · have := lens_pos' h (r := ls.length - 1) (by omega)
    omega
set_option maxRecDepth 100000 in
theorem l02Length_any (b o : Nat) (v : Value) (xs : List GRule) (ls : List Int) (w : World) (hl : lens xs = some ls) (hp : w.cell? ⟨b, o, none⟩ = some v) (hbl : b < w.heap.size) (h : Sl RuleE w w.heap.size v xs) (hsm : SmallL xs) (hn : xs.length ≤ 1099511627776) :
    Calls Try.prog 29 #[.pointer (some ⟨b, o, none⟩)] w fun e w' => e = .returned (.int .i64 (lastI ls)) ∧ Below w.heap.size w w' := by
  have Hsl := Lib.hid h
  have Hl := Lib.hid hl
  clear h hl
  go_enter Try.func29, Try.ntmps29
  go_wp2_with fail
  refine (l02Sizes_any _ _ _ _ _ hp hbl Hsl.out hsm hn).mono ?_
  rintro e w1 ⟨hb, (⟨ls', v1, h1, rfl, h2⟩ | ⟨h1, _⟩)⟩
  · have e1 : ls' = ls := by rw [Hl.out] at h1; injection h1 with h1; exact h1.symm
    subst e1
    have HB := Lib.hid hb
    have hsl := h2.sl
    obtain ⟨A, c, rfl, hc, hm, hrow⟩ := hsl
    unfold maxLen at hm
    clear h1 h2 hb
    by_cases h0 : ls'.length = 0
    · have hl : ls' = [] := List.eq_nil_of_length_eq_zero h0
      subst hl
      clear hrow
      go_wp2_with fail
      go_ret
      exact ⟨rfl, HB.out⟩
    · obtain ⟨b, o, rfl, hbl, hcell⟩ := hrow.int (k := 0) (by omega)
      have hc0 := hcell (ls'.length - 1) (by omega)
      have g0 : ((ls'.length : Int) == 0) = false := by rw [beq_eq_false_iff_ne]; omega
      have hk : ((ls'.length : Int) - 1).toNat = ls'.length - 1 := by omega
      have hl : 0 ≤ (ls'.length : Int) - 1 := by omega
      have hwr : IntKind.i64.wrap ((ls'.length : Int) - 1) = (ls'.length : Int) - 1 := IntWalk.i64_in _ (by omega)
      obtain ⟨x, hx⟩ : ∃ x, ls'.getD (ls'.length - 1) 0 = x := ⟨_, rfl⟩
      have Hx := Lib.hid hx
      rw [hx] at hc0
      clear hcell hx hrow
      go_wp2_with fail
      go_ret
      exact ⟨ret_int (by rw [lastI, Hx.out]), HB.out⟩
  · rw [Hl.out] at h1; cases h1
def lenV (xs : List GRule) : Int := if gramOk xs then gramLen xs else 0
def lenC (xs : List GRule) : Int := if gramOk xs then 0 else 1
set_option maxRecDepth 100000 in
theorem LengthOf_any (v : Value) (xs : List GRule) (w : World) (h : Sl RuleE w w.heap.size v xs) (hn : xs.length ≤ 1099511627776) :
    Calls Try.prog 53 #[.agg #[v]] w fun e w' => e = .returned (.tuple #[.int .i64 (lenV xs), .int .i64 (lenC xs)]) ∧ Below w.heap.size w w' := by
  have h1 := fun o => (h.below ((Below.refl w.heap.size w).alloc (Nat.le_refl _) o)).le (B' := (w.alloc o).heap.size) (by simp)
  have H1 := Lib.hid h1
  clear h1 h
  go_enter Try.func53, Try.ntmps53
  go_wp2_with fail
  refine (lengths_any _ _ _ (H1.out _) hn).mono ?_
  rintro e w1 ⟨hb, (⟨ls, v1, h1, rfl, h2⟩ | ⟨h1, rfl⟩)⟩
  · have HL := Lib.hid h2.sl
    have H1' := Lib.hid h1
    have HB := Lib.hid hb
    obtain ⟨A, c, rfl, _⟩ := h2.sl
    clear h1 h2 hb
    by_cases hc : xs.length ≤ 400
    · have hd : decide (xs.length ≤ 400) = true := by simp [hc]
      have hg : gramOk xs = true := by simp [gramOk, H1'.out, hc]
      have Hg := Lib.hid hg
      rw [hd]
      clear hd hc hg
      go_wp2_with fail
      refine (last_any _ ls _ HL.out).mono ?_
      rintro e w2 ⟨rfl, rfl⟩
      go_wp2_with fail
      go_ret2
      exact ⟨by simp [lenV, lenC, Hg.out, gramLen_of H1'.out], ((Below.refl _ _).alloc (Nat.le_refl _) _).trans (HB.out.mono (by simp))⟩
    · have hd : decide (xs.length ≤ 400) = false := by simp [hc]
      have hg : gramOk xs = false := by simp [gramOk, hc]
      have Hg := Lib.hid hg
      rw [hd]
      clear hd hc hg
      go_wp2_with fail
      go_ret2
      exact ⟨by simp [lenV, lenC, Hg.out], ((Below.refl _ _).alloc (Nat.le_refl _) _).trans (HB.out.mono (by simp))⟩
  · have hg : gramOk xs = false := by simp [gramOk, h1]
    have Hg := Lib.hid hg
    have HB := Lib.hid hb
    clear h1 hg hb
    go_wp2_with fail
    go_ret2
    exact ⟨by simp [lenV, lenC, Hg.out], ((Below.refl _ _).alloc (Nat.le_refl _) _).trans (HB.out.mono (by simp))⟩
theorem But.up {b B : Nat} {w w1 w2 : World} (h : But b w w1) (hb : Below B w1 w2) (hB : w.heap.size ≤ B) : But b w w2 :=
  ⟨hb.os.trans h.os, hb.tape.trans h.tape, hb.output.trans h.output, Nat.le_trans h.size hb.size, fun k hk hne => (hb.block k (Nat.lt_of_lt_of_le hk hB)).trans (h.block k hk hne)⟩
theorem OwnRules.but {b base : Nat} {w w' : World} {v : Value} {l : List GRule} (h : OwnRules w base v l) (hb : But b w w') (hne : b < base) : OwnRules w' base v l := by
  unfold OwnRules at *
  obtain ⟨h1, h2⟩ := h
  refine ⟨h1, ?_⟩
  rcases h2 with h2 | ⟨g, cap, cur, h3, h4, h5, r⟩
  · exact .inl h2
  · exact .inr ⟨g, cap, cur, h3, h4, (hb.block g (Array.getElem?_eq_some_iff.1 h5).1 (by omega)).trans h5, r⟩
end Go.Proofs.Ytfkijaamfmpboaa
