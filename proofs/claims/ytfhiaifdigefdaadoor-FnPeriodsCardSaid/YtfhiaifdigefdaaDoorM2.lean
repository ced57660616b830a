import Derived.Test.YtfhiaifdigefdaaDoorM1
import Derived.StillTailTactics
import Derived.Laws.EntriesVeiled
import Derived.Deep.RegionLaw
import Derived.RangeFuncBox
import Derived.Shelf.Strconv.Itoa0
import Derived.Shelf.Strconv.Itoa1
import Derived.Shelf.LaysM
import Derived.Shelf.Strconv.Itoa2
import Derived.Shelf.Strconv.Itoa3
import Derived.Shelf.Strconv.Itoa4
import Derived.Test.YtfhiaifdigefdaaDoorProg
import Derived.Lib.LaidTab
import Derived.WalkSmall
namespace Go.Proofs.YtfhiaifdigefdaaDoor
open Go.RowKit
structure Wk (C : Nat → Prop) (w w' : World) : Prop where
  os : w'.os = w.os
  tape : w'.tape = w.tape
  output : w'.output = w.output
  size : w.heap.size ≤ w'.heap.size
  block : ∀ k, C k → w'.heap[k]? = w.heap[k]?
section
variable {C C' : Nat → Prop} {a b c : World}
theorem Wk.refl (C : Nat → Prop) (w : World) : Wk C w w := ⟨rfl, rfl, rfl, Nat.le_refl _, fun _ _ => rfl⟩
theorem Wk.trans (h : Wk C a b) (k : Wk C b c) : Wk C a c := ⟨k.os.trans h.os, k.tape.trans h.tape, k.output.trans h.output, Nat.le_trans h.size k.size, fun i hi => (k.block i hi).trans (h.block i hi)⟩
theorem Wk.mono (h : Wk C a b) (hs : ∀ k, C' k → C k) : Wk C' a b := ⟨h.os, h.tape, h.output, h.size, fun i hi => h.block i (hs i hi)⟩
theorem Wk.of_below {B : Nat} (h : Below B a b) (hs : ∀ k, C k → k < B) : Wk C a b := ⟨h.os, h.tape, h.output, h.size, fun i hi => h.block i (hs i hi)⟩
theorem Wk.below {B : Nat} (h : Wk C a b) (hs : ∀ k, k < B → C k) : Below B a b := ⟨h.os, h.tape, h.output, h.size, fun i hi => h.block i (hs i hi)⟩
theorem Wk.keep (h : Wk C a b) : Keep C a b := fun i hi => h.block i hi
theorem Wk.cell {k o : Nat} {v : Value} (h : Wk C a b) (hk : C k) (hc : a.cell? ⟨k, o, none⟩ = some v) : b.cell? ⟨k, o, none⟩ = some v := (h.keep.cell hk).trans hc
end
def getR (xs : List GRule) (r : Nat) : GRule := xs.getD r ⟨⟨#[]⟩, 0, 0⟩
def coverR (xs : List GRule) (ls : List Int) (i j : Int) : Nat → Nat → Int → List Nat
  | 0, _, _ => []
  | f + 1, r, p =>
    if p + ls.getD r 0 ≤ i ∨ j ≤ p then [] else if i ≤ p ∧ p + ls.getD r 0 ≤ j then [r] else
      coverR xs ls i j f (getR xs r).left.toNat p ++ coverR xs ls i j f (getR xs r).right.toNat (p + ls.getD (getR xs r).left.toNat 0)
def piecesL (xs : List GRule) (ls : List Int) (i j : Int) : List Nat := if 0 < xs.length ∧ i < j then coverR xs ls i j xs.length (xs.length - 1) 0 else []
theorem lens_steps {xs : List GRule} {ls : List Int} (h : lens xs = some ls) : ∀ (k : Nat) r, xs[k]? = some r → okRule k r = true ∧ ls.getD k 0 = ruleLen ls r := by
  suffices H : ∀ (ys : List GRule) (a o : List Int), ys.foldl lensStep (some a) = some o → (∃ t, o = a ++ t) ∧ ∀ (k : Nat) r, ys[k]? = some r → okRule (a.length + k) r = true ∧ o.getD (a.length + k) 0 = ruleLen o r by
    intro k r hr
    have := (H xs [] ls h).2 k r hr
    simpa using this
  intro ys
  induction ys with
  | nil => intro a o h; simp at h; subst h; exact ⟨⟨[], by simp⟩, fun k r hr => by simp at hr⟩
  | cons x ys ih =>
    intro a o h
    simp only [List.foldl_cons, lensStep, Option.bind_some] at h
    split at h
    · rename_i hc
      obtain ⟨⟨t, ht⟩, h2⟩ := ih _ _ h
      subst ht
      refine ⟨⟨ruleLen a x :: t, by simp⟩, fun k r hr => ?_⟩
      cases k with
      | zero =>
        simp at hr
        subst hr
        refine ⟨by simpa using hc.1, ?_⟩
        have e : (a ++ [ruleLen a x] ++ t).getD (a.length + 0) 0 = ruleLen a x := by
          rw [List.getD_eq_getElem?_getD, List.getElem?_append_left (by simp), List.getElem?_append_right (by omega)]
          simp
        rw [e]
        unfold ruleLen
        split
        · rename_i hp
          have hok := hc.1
          simp only [okRule, hp, if_true, Bool.and_eq_true, decide_eq_true_eq] at hok
          rw [List.append_assoc]
          simp only [List.getD_eq_getElem?_getD]
          rw [List.getElem?_append_left (by omega), List.getElem?_append_left (by omega)]
        · rfl
      | succ k =>
        have := h2 k r (by simpa using hr)
        simp only [List.length_append, List.length_cons, List.length_nil] at this
        rw [show a.length + (k + 1) = a.length + (0 + 1) + k by omega]
        exact this
    · rw [lens_none] at h; cases h
theorem getR_at {xs : List GRule} {r : Nat} (h : r < xs.length) : xs[r]? = some (getR xs r) := by
  unfold getR; rw [List.getD_eq_getElem?_getD, List.getElem?_eq_getElem h]; rfl
theorem lens_pos' {xs : List GRule} {ls : List Int} (h : lens xs = some ls) {r : Nat} (hr : r < xs.length) : 1 ≤ ls.getD r 0 ∧ ls.getD r 0 ≤ 1000000000000000 := by
  have hl := lens_length h
  have := lens_pos h ls[r] (List.getElem_mem (by omega))
  rw [List.getD_eq_getElem?_getD, List.getElem?_eq_getElem (by omega)]; exact this
theorem lens_pair {xs : List GRule} {ls : List Int} (h : lens xs = some ls) {r : Nat} (hr : r < xs.length) (hp : (getR xs r).pair = true) :
    0 ≤ (getR xs r).left ∧ (getR xs r).left.toNat < r ∧ 0 ≤ (getR xs r).right ∧ (getR xs r).right.toNat < r ∧ ls.getD r 0 = ls.getD (getR xs r).left.toNat 0 + ls.getD (getR xs r).right.toNat 0 := by
  obtain ⟨h1, h2⟩ := lens_steps h r _ (getR_at hr)
  simp only [okRule, hp, if_true, Bool.and_eq_true, decide_eq_true_eq] at h1
  simp only [ruleLen, hp, if_true] at h2
  exact ⟨h1.1.1.1, by omega, h1.1.2, by omega, h2⟩
theorem lens_letter {xs : List GRule} {ls : List Int} (h : lens xs = some ls) {r : Nat} (hr : r < xs.length) (hp : (getR xs r).pair = false) : ls.getD r 0 = 1 := by
  obtain ⟨h1, h2⟩ := lens_steps h r _ (getR_at hr)
  simpa [ruleLen, hp] using h2
section
variable {σ : Type}
def NoB (o : Obj) : Prop := ∀ c fz, o ≠ .cells c 5 fz
theorem NoB.cells {c : Array Value} {t : TypeId} {fz : Nat × Nat} (h : t ≠ 5) : NoB (.cells c t fz) := fun _ _ e => by
  injection e with _ h2 _; exact h h2
def NewNoB (a : Nat) (w : World) : Prop := ∀ k, a ≤ k → ∀ c fz, w.heap[k]? ≠ some (.cells c 5 fz)
theorem NewNoB.same (w : World) : NewNoB w.heap.size w := fun k hk c fz e => by
  have := (Array.getElem?_eq_some_iff.1 e).1
  omega
theorem NewNoB.alloc {a : Nat} {w : World} (h : NewNoB a w) {o : Obj} (ho : NoB o) : NewNoB a (w.alloc o) := fun k hk c fz e => by
  have hl := (Array.getElem?_eq_some_iff.1 e).1
  rcases Nat.lt_or_ge k w.heap.size with h1 | h1
  · rw [Below.heap_alloc _ _ _ h1] at e
    exact h k hk c fz e
  · have : k = w.heap.size := by simp at hl; omega
    subst this
    rw [heap_alloc_new] at e
    exact ho c fz (Option.some.inj e)
def Runs (step : σ → Nat → σ) (Ok : σ → Nat → Prop) (s : σ) (l : List Nat) : Prop := ∀ l1 r l2, l = l1 ++ r :: l2 → Ok (l1.foldl step s) r
theorem Runs.one {step : σ → Nat → σ} {Ok : σ → Nat → Prop} {s : σ} {r : Nat} (h : Runs step Ok s [r]) : Ok s r := h [] r [] rfl
theorem Runs.left {step : σ → Nat → σ} {Ok : σ → Nat → Prop} {s : σ} {a b : List Nat} (h : Runs step Ok s (a ++ b)) : Runs step Ok s a := fun l1 r l2 e => h l1 r (l2 ++ b) (by rw [e]; simp)
theorem Runs.right {step : σ → Nat → σ} {Ok : σ → Nat → Prop} {s : σ} {a b : List Nat} (h : Runs step Ok s (a ++ b)) : Runs step Ok (a.foldl step s) b := fun l1 r l2 e => by
  have := h (a ++ l1) r l2 (by rw [e]; simp)
  rwa [List.foldl_append] at this
theorem Runs.all {step : σ → Nat → σ} {Ok : σ → Nat → Prop} {s : σ} {l : List Nat} (h : ∀ s r, Ok s r) : Runs step Ok s l := fun _ _ _ _ => h _ _
def TakePost (J : (Nat → Prop) → σ → World → Prop) (C : Nat → Prop) (s' : σ) (w : World) (e : Ending) (w' : World) : Prop :=
  e = .returned (.tuple #[]) ∧ ∃ C', (∀ b, C b → C' b) ∧ (∀ b, C' b → b < w'.heap.size) ∧ J C' s' w' ∧ Wk C w w'
structure PSet (w : World) (C : Nat → Prop) (bl bi bj bw bg bt : Nat) (vL vW vR : Value) (i j : Int) (ls : List Int) (xs : List GRule) : Prop where
  cl : w.cell? ⟨bl, 0, none⟩ = some vL
  ci : w.cell? ⟨bi, 0, none⟩ = some (.int .i64 i)
  cj : w.cell? ⟨bj, 0, none⟩ = some (.int .i64 j)
  cw : w.cell? ⟨bw, 0, none⟩ = some vW
  cg : w.cell? ⟨bg, 0, none⟩ = some vR
  ct : w.cell? ⟨bt, 0, none⟩ = some (.func (.func 70) #[] #[.pointer (some ⟨bl, 0, none⟩), .pointer (some ⟨bi, 0, none⟩), .pointer (some ⟨bj, 0, none⟩), .pointer (some ⟨bw, 0, none⟩), .pointer (some ⟨bg, 0, none⟩), .pointer (some ⟨bt, 0, none⟩)])
  ml : C bl
  mi : C bi
  mj : C bj
  mw : C bw
  mg : C bg
  mt : C bt
  sl : SlS IntE w C vL ls
  sr : SlS RuleE w C vR xs
  lt : ∀ b, C b → b < w.heap.size
theorem PSet.up {w w' : World} {C C' : Nat → Prop} {bl bi bj bw bg bt : Nat} {vL vW vR : Value} {i j : Int} {ls : List Int} {xs : List GRule} (h : PSet w C bl bi bj bw bg bt vL vW vR i j ls xs)
    (hw : Wk C w w') (hs : ∀ b, C b → C' b) (hl : ∀ b, C' b → b < w'.heap.size) : PSet w' C' bl bi bj bw bg bt vL vW vR i j ls xs :=
  ⟨hw.cell h.ml h.cl, hw.cell h.mi h.ci, hw.cell h.mj h.cj, hw.cell h.mw h.cw, hw.cell h.mg h.cg, hw.cell h.mt h.ct, hs _ h.ml, hs _ h.mi, hs _ h.mj, hs _ h.mw, hs _ h.mg, hs _ h.mt,
    (h.sl.keep hw.keep).more hs, (h.sr.keep hw.keep).more hs, hl⟩
def ext (C : Nat → Prop) (a b : Nat) : Nat → Prop := fun k => C k ∨ (a ≤ k ∧ k < b)
set_option maxRecDepth 100000 in
set_option maxHeartbeats 2000000 in
theorem take_any (J : (Nat → Prop) → σ → World → Prop) (step : σ → Nat → σ) (Ok : σ → Nat → Prop) (F : FuncId) (cap : Array Value) (xs : List GRule) (ls : List Int) (i j : Int) (hlens : lens xs = some ls) 
    (eg : ∀ args w, (callFunc F args).run Tryd.prog w = .ok (.enter F args) w)
    (hext : ∀ C s w w', J C s w → Below w.heap.size w w' → NewNoB w.heap.size w' → (∀ b, C b → b < w.heap.size) → J (ext C w.heap.size w'.heap.size) s w')
    (hwith : ∀ C s (r : Nat) (w : World), J C s w → Ok s r → r < xs.length → (∀ b, C b → b < w.heap.size) → Calls Tryd.prog F (#[.int .i64 r] ++ cap) w (TakePost J C (step s r) w))
    (bl bi bj bw bg bt : Nat) (vL vR : Value) (f : Nat) :
    ∀ (r : Nat) (p : Int) (s : σ) (C : Nat → Prop) (w : World), r < f → r < xs.length → 0 ≤ p → p + ls.getD r 0 ≤ 1000000000000000 → J C s w → Runs step Ok s (coverR xs ls i j f r p) →
      PSet w C bl bi bj bw bg bt vL (.func (.func F) #[] cap) vR i j ls xs →
      Calls Tryd.prog 70 #[.int .i64 r, .int .i64 p, .pointer (some ⟨bl, 0, none⟩), .pointer (some ⟨bi, 0, none⟩), .pointer (some ⟨bj, 0, none⟩), .pointer (some ⟨bw, 0, none⟩), .pointer (some ⟨bg, 0, none⟩), .pointer (some ⟨bt, 0, none⟩)] w
        (TakePost J C ((coverR xs ls i j f r p).foldl step s) w) := by
  induction f with
  | zero => intro r p s C w h; omega
  | succ f ih =>
    intro r p s C w hf hr hp0 hp1 hJ hRu hS
    have Ih := Lib.hid ih
    have HRu := Lib.hid hRu
    clear hRu
    have Hw := Lib.hid hwith
    have He := Lib.hid hext
    have HJ := Lib.hid hJ
    have HS := Lib.hid hS
    clear ih hwith hext hJ
    have hcl := hS.cl
    have hci := hS.ci
    have hcj := hS.cj
    have hcw := hS.cw
    have hll := lens_length hlens
    obtain ⟨AL, cL, rfl, _, _, hrowL⟩ := hS.sl
    obtain ⟨b1, o1, rfl, hb1, hcellL⟩ := hrowL.int (k := r) (by omega)
    have hcr := hcellL r (by omega)
    have hri : (r : Int) < (ls.length : Int) := by omega
    have hpos := lens_pos' hlens hr
    have Hxy : Hid (∀ y, ls.getD r 0 = y → coverR xs ls i j (f + 1) r p = if p + y ≤ i ∨ j ≤ p then [] else if i ≤ p ∧ p + y ≤ j then [r] else
      coverR xs ls i j f (getR xs r).left.toNat p ++ coverR xs ls i j f (getR xs r).right.toNat (p + ls.getD (getR xs r).left.toNat 0)) := by rintro y rfl; rfl
    have Hll := Lib.hid hll
    have HcL := Lib.hid hcellL
    have Hb1 := Lib.hid hb1
    clear hcellL hll
    obtain ⟨n, hn⟩ : ∃ n, ls.getD r 0 = n := ⟨_, rfl⟩
    rw [hn] at hcr hpos hp1
    have Hn := Lib.hid hn
    have hcov := Hxy.out n hn
    have Hcov := Lib.hid hcov
    rw [hcov] at HRu
    clear hn hcov
    have e144 : ∀ args w, (callFunc 70 args).run Tryd.prog w = .ok (.enter 70 args) w := enters_of Tryd.func70 (by kernel_rfl) rfl
    by_cases c1 : p + n ≤ i
    · rw [if_pos (Or.inl c1)] at Hcov HRu
      go_enter Tryd.func70, Tryd.ntmps70
      go_wp2_with fail
      go_end0
      exact ⟨rfl, C, fun _ h => h, HS.out.lt, by rw [Hcov.out]; exact HJ.out, Wk.refl _ _⟩
    · by_cases c2 : j ≤ p
      · rw [if_pos (Or.inr c2)] at Hcov HRu
        go_enter Tryd.func70, Tryd.ntmps70
        go_wp2_with fail
        go_end0
        exact ⟨rfl, C, fun _ h => h, HS.out.lt, by rw [Hcov.out]; exact HJ.out, Wk.refl _ _⟩
      · rw [if_neg (by omega)] at Hcov HRu
        by_cases c34 : i ≤ p ∧ p + n ≤ j
        · rw [if_pos c34] at Hcov HRu
          obtain ⟨c3, c4⟩ := c34
          go_enter Tryd.func70, Tryd.ntmps70
          go_wp2_with fail
          refine (Hw.out C s r w HJ.out HRu.out.one hr HS.out.lt).mono ?_
          rintro e w2 ⟨rfl, C', h1, h2, h3, h4⟩
          go_wp2_with fail
          go_end0
          exact ⟨rfl, C', h1, h2, by rw [Hcov.out]; exact h3, h4⟩
        · rw [if_neg c34] at Hcov HRu
          have hpair : (getR xs r).pair = true := by
            by_cases hp : (getR xs r).pair = true
            · exact hp
            · have := lens_letter hlens hr (by simpa using hp)
              have := Hn.out
              omega
          obtain ⟨hl0, hlr, hr0, hrr, hsum⟩ := lens_pair hlens hr hpair
          obtain ⟨AR, cR, rfl, _, _, hrowR⟩ := HS.out.sr
          obtain ⟨b2, o2, rfl, hb2, hcellR⟩ := hrowR.rule (k := r) hr
          obtain ⟨k0, k1, k2⟩ := hcellR r _ (getR_at hr)
          generalize hR : getR xs r = R at *
          obtain ⟨rs, rl, rr⟩ := R
          obtain ⟨l, rfl⟩ := Int.eq_ofNat_of_zero_le hl0
          obtain ⟨q, rfl⟩ := Int.eq_ofNat_of_zero_le hr0
          simp only [Int.toNat_natCast] at hlr hrr hsum Hcov HRu
          have hcg := HS.out.cg
          have hct := HS.out.ct
          have lbt : bt < w.heap.size := HS.out.lt _ HS.out.mt
          have hpl := lens_pos' hlens (r := l) (by omega)
          have hpq := lens_pos' hlens (r := q) (by omega)
          have hrx : (r : Int) < (xs.length : Int) := by omega
          have hll := Hll.out
          have hsn : n = ls.getD l 0 + ls.getD q 0 := by rw [← Hn.out]; exact hsum
          obtain ⟨m, hm⟩ : ∃ m, ls.getD l 0 = m := ⟨_, rfl⟩
          obtain ⟨m', hm'⟩ : ∃ m', ls.getD q 0 = m' := ⟨_, rfl⟩
          rw [hm] at hsn hpl
          rw [hm'] at hsn hpq
          rw [hm] at Hcov HRu
          have Hm := Lib.hid hm
          have Hm' := Lib.hid hm'
          have Hsn := Lib.hid hsn
          have hl3 : p + m ≤ 1000000000000000 := by omega
          have hq3 : p + m + m' ≤ 1000000000000000 := by omega
          have hq0 : 0 ≤ p + m := by omega
          have Hq0 := Lib.hid hq0
          have Hl3 := Lib.hid hl3
          have Hq3 := Lib.hid hq3
          have hBA : ∀ o, Below w.heap.size w (w.alloc o) := fun o => (Below.refl _ _).alloc (Nat.le_refl _) _
          have HBA := Lib.hid hBA
          have HS1 : ∀ o, PSet (w.alloc o) (ext C w.heap.size (w.alloc o).heap.size) bl bi bj bw bg bt (.slice (some ⟨b1, o1, none⟩) ls.length cL) (.func (.func F) #[] cap) (.slice (some ⟨b2, o2, none⟩) xs.length cR) i j ls xs := fun o =>
            HS.out.up (Wk.of_below (HBA.out o) HS.out.lt) (fun b h => Or.inl h) (fun b h => by rcases h with h | h; exact Nat.lt_of_lt_of_le (HS.out.lt b h) (HBA.out o).size; exact h.2)
          have HJ1 : ∀ o, NoB o → J (ext C w.heap.size (w.alloc o).heap.size) s (w.alloc o) := fun o ho => He.out C s w _ HJ.out (HBA.out o) ((NewNoB.same w).alloc ho) HS.out.lt
          have HSS1 := Lib.hid HS1
          have HJJ1 := Lib.hid HJ1
          have hlx : l < xs.length := by omega
          have hqx : q < xs.length := by omega
          have hlf : l < f := by omega
          have hqf : q < f := by omega
          have Hpair := Lib.hid hpair
          have HR := Lib.hid hR
          have hc34 : (i ≤ p ∧ ¬ p + n ≤ j) ∨ ¬ i ≤ p := by omega
          clear hm hm' hpair hcellR hsum hR hrowL hrowR hb1 hb2 hBA HS1 HJ1 hsn c34
          rcases hc34 with ⟨c3, c4⟩ | c3
          all_goals
            go_enter Tryd.func70, Tryd.ntmps70
            go_wp2_with fail
            refine (Ih.out l p s _ _ hlf hlx hp0 (by rw [Hm.out]; exact Hl3.out) (HJJ1.out _ (NoB.cells (by decide))) HRu.out.left (HSS1.out _)).mono ?_
            rintro e w2 ⟨rfl, C2, g1, g2, g3, g4⟩
            have hbx0 : w2.cell? ⟨w.heap.size, 0, none⟩ = some (.string rs) := g4.cell (Or.inr (by simp)) (by simp [go_sem])
            have hbx1 : w2.cell? ⟨w.heap.size, 1, none⟩ = some (.int .i64 l) := g4.cell (Or.inr (by simp)) (by simp [go_sem])
            have hbx2 : w2.cell? ⟨w.heap.size, 2, none⟩ = some (.int .i64 q) := g4.cell (Or.inr (by simp)) (by simp [go_sem])
            have S2 := Lib.hid ((HSS1.out _).up g4 g1 g2)
            have hcl2 := S2.out.cl
            have hct2 := S2.out.ct
            have hcq : w2.cell? ⟨b1, o1 + l, none⟩ = some (.int .i64 m) := g4.cell (Or.inl Hb1.out) (((HBA.out _).cell (p := ⟨b1, o1 + l, none⟩) (HS.out.lt _ Hb1.out)).trans (by rw [HcL.out l (by have := Hll.out; omega), Hm.out]))
            have hli : (l : Int) < (ls.length : Int) := by have := Hll.out; omega
            go_wp2_with fail
            go_still_tail 10, (by kernel_rfl)
            change wpList _ _ _ _ _ w2.drew
            have HB3 := Lib.hid (Below.drew (Below.refl w2.heap.size w2))
            have HJ3 := Lib.hid (He.out C2 _ w2 _ g3 HB3.out (NewNoB.same w2) g2)
            have S3 := Lib.hid (S2.out.up (Wk.of_below HB3.out g2) (C' := ext C2 w2.heap.size w2.drew.heap.size) (fun b h => Or.inl h) (fun b h => by rcases h with h | h; exact g2 b h; exact h.2))
            have W2 := Lib.hid (((Wk.of_below (HBA.out _) HS.out.lt).trans (g4.mono (C' := C) fun b h => Or.inl h)).trans (Wk.of_below HB3.out (fun b h => g2 _ (g1 _ (Or.inl h)))))
            generalize w2.drew = w3 at *
            go_wp2_with fail
            refine (Ih.out q (p + m) _ _ _ hqf hqx Hq0.out (by rw [Hm'.out]; exact Hq3.out) HJ3.out HRu.out.right S3.out).mono ?_
            rintro e w4 ⟨rfl, C4, k1, k2, k3, k4⟩
            go_wp2_with fail
            go_end0
            refine ⟨rfl, C4, fun b h => k1 _ (Or.inl (g1 _ (Or.inl h))), k2, ?_, ?_⟩
            · rw [Hcov.out, List.foldl_append]; exact k3
            · exact W2.out.trans (k4.mono fun b h => Or.inl (g1 _ (Or.inl h)))
end
def GRes (out : List GRule) (code : Int) (w : World) (e : Ending) (w' : World) : Prop :=
  Below w.heap.size w w' ∧ ∃ v', OwnRules w' w.heap.size v' out ∧ e = .returned (.tuple #[.agg #[v'], .int .i64 code])
theorem step_append_rules {W : World} {ops : Array Oper} {o : Oper} {a : Act} {K : Act → World → Prop} {Q : Exit → Act → World → Prop} {E : Prop} (hgd : o.guard = none) (s x : Operand)
    (ho : o.op = .call { callee := .builtin .append, args := #[s, x], argTypes := #[24, 24] }) {ys : List GRule} {base : Nat} {v sv : Value} {l : List GRule} {S : Nat → Prop}
    (hs : a.eval s = v) (hx : a.eval x = sv) (hown : OwnRules W base v l) (hsl : SlS RuleE W S sv ys) (hlen : l.length + ys.length ≤ 1099511627776) (hbase : base ≤ W.heap.size)
    (h : ∀ v' w', OwnRules w' base v' (l ++ ys) → W.grownBy w' v.ownBlock → Below base W w' → K (a.put o.dst v') w') :
    if Region.wanted o (yielded ops a.tmps) = true then Oper.wp Tryd.prog o a W K Q else E := by
  have hw : Region.wanted o (yielded ops a.tmps) = true := by simp [Region.wanted, hgd]
  rw [if_pos hw]
  obtain ⟨i0, hi0, hz0, hz1, hz2⟩ := info_parts Tryd.infoR
  obtain ⟨A, c, rfl, hc, hm, hrow⟩ := hsl
  have H : ∃ v' w', (Builtin.append_ #[24, 24] o.type #[v, .slice A ys.length c]).run Tryd.prog W = .ok v' w' ∧ OwnRules w' base v' (l ++ ys) ∧ W.grownBy w' v.ownBlock := by
    rcases A with _ | ad
    · have h0 : ys = [] := by
        rcases Nat.eq_zero_or_pos ys.length with h0 | h0
        · exact List.eq_nil_of_length_eq_zero h0
        · obtain ⟨b, o, h, _⟩ := hrow h0; cases h
      subst h0
      exact ⟨v, W, run_append_of_nil W base _ _ 42 i0 3 Tryd.underlying24 hi0 v _ _ hown c, by simpa using hown, World.grownBy.refl W _⟩
    · obtain ⟨v', w', hrun, h2, h3, _⟩ := run_append_own_at (P := Tryd.prog) W base 24 o.type 42 i0 _ 3 32 Tryd.underlying24 hi0 hz0 hz1 hz2 rfl (by decide) v _ _ hown ad ys.length c (ys.flatMap GRule.cells)
        (cells_len ys) (rules_cells hrow) (rules_one ys) (by simp only [maxLen]; omega) (by omega) hbase
      exact ⟨v', w', hrun, by unfold OwnRules; simpa using h2, h3⟩
  obtain ⟨v', w', hrun, h2, h3⟩ := H
  unfold Oper.wp execOp
  simp only [ho, resolve, invoke, builtin, Sem.run_bind, Sem.run_pure, Result.andThen_ok, List.map_toArray, List.map_cons, List.map_nil, hs, hx, hrun]
  exact h v' w' h2 h3 ((Below.refl base W).grown h3 hbase (fun k hk => (World.ownsRow.lt hown k hk).1))
theorem pairInt_any (a b : Int) (w : World) :
    Calls Tryd.prog 48 #[.int .i64 a, .int .i64 b] w fun e w' => e = .returned (.agg #[.string ⟨#[]⟩, .int .i64 a, .int .i64 b]) ∧ Below w.heap.size w w' := by
  go_enter Tryd.func48, Tryd.ntmps48
  go_wp2
  exact bodyPost_ret (v := .agg #[.string ⟨#[]⟩, .int .i64 a, .int .i64 b]) (by simp [results, Tryd.results48, go_sem]) rfl ⟨rfl, (by repeat (first | exact (Below.refl _ _) | (refine Below.alloc ?_ (by first | omega | (simp; done) | (simp; omega)) _) | refine below_drewN ?_ _ | refine Below.drew ?_))⟩
def pairR (a b : Int) : GRule := { letter := ⟨#[]⟩, left := a, right := b }
def GOwn (out : List GRule) (w : World) (e : Ending) (w' : World) : Prop :=
  Below w.heap.size w w' ∧ ∃ v', OwnRules w' w.heap.size v' out ∧ e = .returned (.agg #[v'])
def OkAll (xs : List GRule) : Prop := ∀ k r, xs[k]? = some r → okRule k r = true
theorem pairR_pair (a b : Int) : (pairR a b).pair = true := rfl
theorem okRule_pair {k : Nat} {a b : Int} (ha : 0 ≤ a ∧ a < k) (hb : 0 ≤ b ∧ b < k) : okRule k (pairR a b) = true := by
  unfold okRule
  rw [if_pos (pairR_pair a b)]
  show (decide (0 ≤ a) && decide (a ≤ (k : Int) - 1) && decide (0 ≤ b) && decide (b ≤ (k : Int) - 1)) = true
  rw [decide_eq_true ha.1, decide_eq_true (show a ≤ (k : Int) - 1 by omega), decide_eq_true hb.1, decide_eq_true (show b ≤ (k : Int) - 1 by omega)]; rfl
theorem okRule_let {k : Nat} {r : GRule} (h : okRule k r = true) (hp : r.pair = false) : r.letter.size = 1 ∧ r.left = 0 ∧ r.right = 0 := by
  unfold okRule at h
  rw [if_neg (by simp [hp])] at h
  simp [isLet] at h
  exact ⟨h.1.1.1.1, h.1.2, h.2⟩
theorem okRule_small {k : Nat} {r : GRule} (h : okRule k r = true) : r.letter.size ≤ 1 := by
  cases hp : r.pair with
  | true => have : r.letter.size = 0 := by simpa [GRule.pair] using hp
            omega
  | false => have := (okRule_let h hp).1; omega
def Small1 (l : List GRule) : Prop := ∀ r ∈ l, r.letter.size ≤ 1
theorem okAll_small {xs : List GRule} (h : OkAll xs) : Small1 xs := by
  intro r hr
  obtain ⟨k, hk⟩ := List.mem_iff_getElem?.1 hr
  exact okRule_small (h k r hk)
theorem okAll_lens {xs : List GRule} {ls : List Int} (h : lens xs = some ls) : OkAll xs := fun k r hk => (lens_steps h k r hk).1
structure But (b : Nat) (w w' : World) : Prop where
  os : w'.os = w.os
  tape : w'.tape = w.tape
  output : w'.output = w.output
  size : w.heap.size ≤ w'.heap.size
  block : ∀ k, k < w.heap.size → k ≠ b → w'.heap[k]? = w.heap[k]?
theorem But.refl (b : Nat) (w : World) : But b w w := ⟨rfl, rfl, rfl, Nat.le_refl _, fun _ _ _ => rfl⟩
theorem But.trans {b : Nat} {x y z : World} (h : But b x y) (k : But b y z) : But b x z :=
  ⟨k.os.trans h.os, k.tape.trans h.tape, k.output.trans h.output, Nat.le_trans h.size k.size, fun i hi hne => (k.block i (Nat.lt_of_lt_of_le hi h.size) hne).trans (h.block i hi hne)⟩
theorem But.of {b : Nat} {w w' : World} (h : Below w.heap.size w w') : But b w w' := ⟨h.os, h.tape, h.output, h.size, fun k hk _ => h.block k hk⟩
theorem But.below {b B : Nat} {w w' : World} (h : But b w w') (hB : B ≤ b) (hw : B ≤ w.heap.size) : Below B w w' := ⟨h.os, h.tape, h.output, h.size, fun k hk => h.block k (Nat.lt_of_lt_of_le hk hw) (by omega)⟩
theorem But.cell {b : Nat} {w w' : World} (h : But b w w') {p : Addr} (hp : p.block < w.heap.size) (hne : p.block ≠ b) : w'.cell? p = w.cell? p := by
  simp only [World.cell?, h.block _ hp hne]
theorem But.drew {b : Nat} {w w' : World} (h : But b w w') : But b w w'.drew := ⟨h.os, h.tape, h.output, h.size, h.block⟩
theorem But.drewN {b : Nat} {w w' : World} (h : But b w w') (n : Nat) : But b w (w'.drewN n) := ⟨h.os, h.tape, h.output, h.size, h.block⟩
theorem But.setCell {b o : Nat} {w w' : World} (h : But b w w') (v : Value) : But b w (w'.setCell ⟨b, o, none⟩ v) :=
  ⟨h.os, h.tape, h.output, by simpa [World.setCell] using h.size, fun k hk hne => by
    rw [← h.block k hk hne]
    simp only [World.setCell, Array.getElem?_modify]
    rw [if_neg (fun e => hne e.symm)]⟩
theorem But.alloc {b : Nat} {w w' : World} (h : But b w w') (o : Obj) : But b w (w'.alloc o) :=
  ⟨h.os, h.tape, h.output, Nat.le_trans h.size (by simp), fun k hk hne => (Below.heap_alloc w' o k (Nat.lt_of_lt_of_le hk h.size)).trans (h.block k hk hne)⟩
theorem But.tr {b : Nat} {w w1 w2 : World} (h : But b w w1) (hb : Below w1.heap.size w1 w2) : But b w w2 := h.trans (But.of hb)
def Blk (w : World) (b : Nat) (a : Array Value) (t : TypeId) : Prop := w.heap[b]? = some (.cells a t (0, 0))
section
variable {w w' : World} {b N : Nat} {a : Array Value} {t : TypeId}
theorem Blk.lt (h : Blk w b a t) : b < w.heap.size := (Array.getElem?_eq_some_iff.1 h).1
theorem Blk.up (h : Blk w b a t) (hb : Below w.heap.size w w') : Blk w' b a t := (hb.block b h.lt).trans h
theorem Blk.upB (h : Blk w b a t) (hb : Below N w w') (hlt : b < N) : Blk w' b a t := (hb.block b hlt).trans h
theorem Blk.cell (h : Blk w b a t) {i : Nat} {v : Value} (hi : a[i]? = some v) : w.cell? ⟨b, i, none⟩ = some v := by
  rw [cell_of_row w b i a t (0, 0) h, hi]
theorem Blk.frozen (h : Blk w b a t) (i : Nat) : w.frozen? ⟨b, i, none⟩ = false := by
  simp [World.frozen?, show w.heap[b]? = _ from h]
theorem Blk.set (h : Blk w b a t) (i : Nat) (v : Value) : Blk (w.setCell ⟨b, i, none⟩ v) b (a.setIfInBounds i v) t := by
  obtain ⟨hlt, hk⟩ := Array.getElem?_eq_some_iff.1 h
  show (w.heap.modify b _)[b]? = _
  rw [Array.getElem?_eq_getElem (by rw [Array.size_modify]; exact hlt), Array.getElem_modify_self, hk]
  rfl
theorem Blk.other (h : Blk w b a t) {p : Addr} (hne : b ≠ p.block) (v : Value) : Blk (w.setCell p v) b a t := (Below.heap_setCell w p v b hne).trans h
theorem Blk.alloc (h : Blk w b a t) (o : Obj) : Blk (w.alloc o) b a t := (Below.heap_alloc w o b h.lt).trans h
theorem Blk.drew (h : Blk w b a t) : Blk w.drew b a t := h
theorem Blk.new (w : World) (a : Array Value) (t : TypeId) : Blk (w.alloc (.cells a t)) w.heap.size a t := heap_alloc_new w _
theorem Blk.of_heap (h : w.heap[b]? = some (.cells a t (0, 0))) : Blk w b a t := h
end
theorem Blk.but {w w' : World} {b c : Nat} {a : Array Value} {t : TypeId} (h : Blk w c a t) (hb : But b w w') (hne : c ≠ b) : Blk w' c a t := (hb.block c h.lt hne).trans h
theorem Below.unalloc {w w' : World} {o : Obj} (hb : Below (w.alloc o).heap.size (w.alloc o) w') : Below w.heap.size w w' ∧ w'.heap[w.heap.size]? = some o :=
  ⟨((Below.refl w.heap.size w).alloc (Nat.le_refl _) o).trans (hb.mono (by simp)), (hb.block _ (by simp)).trans (heap_alloc_new w o)⟩
theorem Below.undrew {w w' : World} (hb : Below w.drew.heap.size w.drew w') : Below w.heap.size w w' := ((Below.refl w.heap.size w).drew).trans hb
theorem Below.up {w0 w w' : World} {N : Nat} (h : Below N w0 w) (hb : Below w.heap.size w w') (hN : N ≤ w0.heap.size) : Below N w0 w' := h.trans (hb.mono (Nat.le_trans hN h.size))
theorem Below.tr {w0 w w' : World} (h : Below w0.heap.size w0 w) (hb : Below w.heap.size w w') : Below w0.heap.size w0 w' := h.trans (hb.mono h.size)
def prV (a b : Nat) : Value := .agg #[.int .u64 (a : Int), .int .u64 (b : Int)]
set_option maxRecDepth 100000 in
set_option maxHeartbeats 4000000 in
theorem times_any (a0 a1 b0 b1 : Nat) (w : World) (ha0 : a0 < pF) (ha1 : a1 < pF) (hb0 : b0 < pF) (hb1 : b1 < pF) :
    Calls Tryd.prog 65 #[.agg #[.int .u64 a0, .int .u64 a1], .agg #[.int .u64 b0, .int .u64 b1]] w fun e w' => Below w.heap.size w w' ∧ e = .returned (.agg #[.int .u64 (((a0 * b0) % pF : Nat) : Int), .int .u64 (((a1 * b1) % pF : Nat) : Int)]) := by
  have M0 := Lib.hid (fun W => (mulField_any a0 b0 W ha0 hb0).mono (R' := fun e w'' => e = .returned (.int .u64 (((a0 * b0) % pF : Nat) : Int)) ∧ w'' = W) fun e w' ⟨h1, h2⟩ => ⟨h1, h2.symm⟩)
  have M1 := Lib.hid (fun W => (mulField_any a1 b1 W ha1 hb1).mono (R' := fun e w'' => e = .returned (.int .u64 (((a1 * b1) % pF : Nat) : Int)) ∧ w'' = W) fun e w' ⟨h1, h2⟩ => ⟨h1, h2.symm⟩)
  obtain ⟨p0, hp0⟩ : ∃ p, (a0 * b0) % pF = p := ⟨_, rfl⟩
  obtain ⟨p1, hp1⟩ : ∃ p, (a1 * b1) % pF = p := ⟨_, rfl⟩
  rw [hp0] at M0 ⊢
  rw [hp1] at M1 ⊢
  clear hp0 hp1 ha0 ha1 hb0 hb1
  have HB := Lib.hid (fun o o' o'' => (((Below.refl w.heap.size w).alloc (Nat.le_refl _) o).alloc (by simp) o').alloc (by simp; omega) o'')
  have K0 := Lib.hid (((Blk.new w #[.int .u64 (a0 : Int), .int .u64 (a1 : Int)] 103).alloc (.cells #[.int .u64 (b0 : Int), .int .u64 (b1 : Int)] 103)).alloc (.cells #[.int .u64 0, .int .u64 0] 103))
  have K1 := Lib.hid ((Blk.new (w.alloc (.cells #[.int .u64 (a0 : Int), .int .u64 (a1 : Int)] 103)) #[.int .u64 (b0 : Int), .int .u64 (b1 : Int)] 103).alloc (.cells #[.int .u64 0, .int .u64 0] 103))
  have K2 := Lib.hid (Blk.new ((w.alloc (.cells #[.int .u64 (a0 : Int), .int .u64 (a1 : Int)] 103)).alloc (.cells #[.int .u64 (b0 : Int), .int .u64 (b1 : Int)] 103)) #[.int .u64 0, .int .u64 0] 103)
  have z1 : (w.alloc (.cells #[.int .u64 (a0 : Int), .int .u64 (a1 : Int)] 103)).heap.size = w.heap.size + 1 := by simp
  have z2 : ((w.alloc (.cells #[.int .u64 (a0 : Int), .int .u64 (a1 : Int)] 103)).alloc (.cells #[.int .u64 (b0 : Int), .int .u64 (b1 : Int)] 103)).heap.size = w.heap.size + 1 + 1 := by simp
  rw [z1] at K1
  rw [z2] at K2
  have HBB := Lib.hid (HB.out (.cells #[.int .u64 (a0 : Int), .int .u64 (a1 : Int)] 103) (.cells #[.int .u64 (b0 : Int), .int .u64 (b1 : Int)] 103) (.cells #[.int .u64 0, .int .u64 0] 103))
  clear HB z1 z2
  go_enter Tryd.func65, Tryd.ntmps65
  go_upto_region 1 with fail
  revert K0 K1 K2 HBB
  generalize (((w.alloc (.cells #[.int .u64 (a0 : Int), .int .u64 (a1 : Int)] 103)).alloc (.cells #[.int .u64 (b0 : Int), .int .u64 (b1 : Int)] 103)).alloc (.cells #[.int .u64 0, .int .u64 0] 103)) = W
  intro K0 K1 K2 HBB
  have c0 := Blk.cell (i := 0) (v := .int .u64 (a0 : Int)) K0.out rfl
  have c1 := Blk.cell (i := 1) (v := .int .u64 (a1 : Int)) K0.out rfl
  have c2 := Blk.cell (i := 0) (v := .int .u64 (b0 : Int)) K1.out rfl
  have c3 := Blk.cell (i := 1) (v := .int .u64 (b1 : Int)) K1.out rfl
  have c4 := Blk.cell (i := 0) (v := .int .u64 0) K2.out rfl
  have c5 := Blk.cell (i := 1) (v := .int .u64 0) K2.out rfl
  have f4 := Blk.frozen K2.out 0
  have f5 := Blk.frozen K2.out 1
  have l2 := Blk.lt K2.out
  have l1 := Blk.lt K1.out
  have l0 := Blk.lt K0.out
  refine wp_region_still_tail 10 (by kernel_rfl) (by kernel_rfl) ?_
  simp only [List.take_succ_cons, List.take_zero, List.drop_succ_cons, List.drop_zero]
  still_step
  still_step
  still_step
  still_step
  still_call (M0.out _)
  still_step
  still_step
  still_step
  still_step
  still_call (M1.out _)
  refine wpStill_nil ?_
  go_wp2_with fail
  refine bodyPost_ret (v := .agg #[.int .u64 (p0 : Int), .int .u64 (p1 : Int)]) (by simp [results, Tryd.results65, go_sem, c4, c5]) rfl ⟨?_, rfl⟩
  exact Below.setCell (Below.setCell (Below.drew HBB.out) (by show w.heap.size ≤ w.heap.size + 1 + 1; omega) _) (by show w.heap.size ≤ w.heap.size + 1 + 1; omega) _
set_option maxRecDepth 100000 in
set_option maxHeartbeats 4000000 in
theorem plus_any (a0 a1 b0 b1 : Nat) (w : World) (ha0 : a0 < pF) (ha1 : a1 < pF) (hb0 : b0 < pF) (hb1 : b1 < pF) :
    Calls Tryd.prog 66 #[.agg #[.int .u64 a0, .int .u64 a1], .agg #[.int .u64 b0, .int .u64 b1]] w fun e w' => Below w.heap.size w w' ∧ e = .returned (.agg #[.int .u64 (((a0 + b0) % pF : Nat) : Int), .int .u64 (((a1 + b1) % pF : Nat) : Int)]) := by
  have M0 := Lib.hid (fun W => (addField_any a0 b0 W ha0 hb0).mono (R' := fun e w'' => e = .returned (.int .u64 (((a0 + b0) % pF : Nat) : Int)) ∧ w'' = W) fun e w' ⟨h1, h2⟩ => ⟨h1, h2.symm⟩)
  have M1 := Lib.hid (fun W => (addField_any a1 b1 W ha1 hb1).mono (R' := fun e w'' => e = .returned (.int .u64 (((a1 + b1) % pF : Nat) : Int)) ∧ w'' = W) fun e w' ⟨h1, h2⟩ => ⟨h1, h2.symm⟩)
  obtain ⟨p0, hp0⟩ : ∃ p, (a0 + b0) % pF = p := ⟨_, rfl⟩
  obtain ⟨p1, hp1⟩ : ∃ p, (a1 + b1) % pF = p := ⟨_, rfl⟩
  rw [hp0] at M0 ⊢
  rw [hp1] at M1 ⊢
  clear hp0 hp1 ha0 ha1 hb0 hb1
  have HB := Lib.hid (fun o o' o'' => (((Below.refl w.heap.size w).alloc (Nat.le_refl _) o).alloc (by simp) o').alloc (by simp; omega) o'')
  have K0 := Lib.hid (((Blk.new w #[.int .u64 (a0 : Int), .int .u64 (a1 : Int)] 103).alloc (.cells #[.int .u64 (b0 : Int), .int .u64 (b1 : Int)] 103)).alloc (.cells #[.int .u64 0, .int .u64 0] 103))
  have K1 := Lib.hid ((Blk.new (w.alloc (.cells #[.int .u64 (a0 : Int), .int .u64 (a1 : Int)] 103)) #[.int .u64 (b0 : Int), .int .u64 (b1 : Int)] 103).alloc (.cells #[.int .u64 0, .int .u64 0] 103))
  have K2 := Lib.hid (Blk.new ((w.alloc (.cells #[.int .u64 (a0 : Int), .int .u64 (a1 : Int)] 103)).alloc (.cells #[.int .u64 (b0 : Int), .int .u64 (b1 : Int)] 103)) #[.int .u64 0, .int .u64 0] 103)
  have z1 : (w.alloc (.cells #[.int .u64 (a0 : Int), .int .u64 (a1 : Int)] 103)).heap.size = w.heap.size + 1 := by simp
  have z2 : ((w.alloc (.cells #[.int .u64 (a0 : Int), .int .u64 (a1 : Int)] 103)).alloc (.cells #[.int .u64 (b0 : Int), .int .u64 (b1 : Int)] 103)).heap.size = w.heap.size + 1 + 1 := by simp
  rw [z1] at K1
  rw [z2] at K2
  have HBB := Lib.hid (HB.out (.cells #[.int .u64 (a0 : Int), .int .u64 (a1 : Int)] 103) (.cells #[.int .u64 (b0 : Int), .int .u64 (b1 : Int)] 103) (.cells #[.int .u64 0, .int .u64 0] 103))
  clear HB z1 z2
  go_enter Tryd.func66, Tryd.ntmps66
  go_upto_region 1 with fail
  revert K0 K1 K2 HBB
  generalize (((w.alloc (.cells #[.int .u64 (a0 : Int), .int .u64 (a1 : Int)] 103)).alloc (.cells #[.int .u64 (b0 : Int), .int .u64 (b1 : Int)] 103)).alloc (.cells #[.int .u64 0, .int .u64 0] 103)) = W
  intro K0 K1 K2 HBB
  have c0 := Blk.cell (i := 0) (v := .int .u64 (a0 : Int)) K0.out rfl
  have c1 := Blk.cell (i := 1) (v := .int .u64 (a1 : Int)) K0.out rfl
  have c2 := Blk.cell (i := 0) (v := .int .u64 (b0 : Int)) K1.out rfl
  have c3 := Blk.cell (i := 1) (v := .int .u64 (b1 : Int)) K1.out rfl
  have c4 := Blk.cell (i := 0) (v := .int .u64 0) K2.out rfl
  have c5 := Blk.cell (i := 1) (v := .int .u64 0) K2.out rfl
  have f4 := Blk.frozen K2.out 0
  have f5 := Blk.frozen K2.out 1
  have l2 := Blk.lt K2.out
  have l1 := Blk.lt K1.out
  have l0 := Blk.lt K0.out
  refine wp_region_still_tail 10 (by kernel_rfl) (by kernel_rfl) ?_
  simp only [List.take_succ_cons, List.take_zero, List.drop_succ_cons, List.drop_zero]
  still_step
  still_step
  still_step
  still_step
  still_call (M0.out _)
  still_step
  still_step
  still_step
  still_step
  still_call (M1.out _)
  refine wpStill_nil ?_
  go_wp2_with fail
  refine bodyPost_ret (v := .agg #[.int .u64 (p0 : Int), .int .u64 (p1 : Int)]) (by simp [results, Tryd.results66, go_sem, c4, c5]) rfl ⟨?_, rfl⟩
  exact Below.setCell (Below.setCell (Below.drew HBB.out) (by show w.heap.size ≤ w.heap.size + 1 + 1; omega) _) (by show w.heap.size ≤ w.heap.size + 1 + 1; omega) _
section
variable {σ : Type}
set_option maxRecDepth 100000 in
set_option maxHeartbeats 1000000 in
theorem pieces_any (J : (Nat → Prop) → σ → World → Prop) (step : σ → Nat → σ) (Ok : σ → Nat → Prop) (F : FuncId) (cap : Array Value) (xs : List GRule) (ls : List Int) (i j : Int) (hlens : lens xs = some ls) (hxs : xs.length ≤ 1099511627776)
    (eg : ∀ args w, (callFunc F args).run Tryd.prog w = .ok (.enter F args) w)
    (hext : ∀ C s w w', J C s w → Below w.heap.size w w' → NewNoB w.heap.size w' → (∀ b, C b → b < w.heap.size) → J (ext C w.heap.size w'.heap.size) s w')
    (hwith : ∀ C s (r : Nat) (w : World), J C s w → Ok s r → r < xs.length → (∀ b, C b → b < w.heap.size) → Calls Tryd.prog F (#[.int .i64 r] ++ cap) w (TakePost J C (step s r) w))
    (vL vR : Value) (s : σ) (C : Nat → Prop) (w : World) (hJ : J C s w) (hRu : Runs step Ok s (piecesL xs ls i j)) (hlt : ∀ b, C b → b < w.heap.size) (hL : SlS IntE w C vL ls) (hR : SlS RuleE w C vR xs) :
    Calls Tryd.prog 54 #[.agg #[vR], vL, .int .i64 i, .int .i64 j, .func (.func F) #[] cap] w (TakePost J C ((piecesL xs ls i j).foldl step s) w) := by
  have HT := Lib.hid (take_any J step Ok F cap xs ls i j hlens eg hext hwith (w.heap.size + 1) (w.heap.size + 1 + 1) (w.heap.size + 1 + 1 + 1) (w.heap.size + 1 + 1 + 1 + 1) w.heap.size (w.heap.size + 1 + 1 + 1 + 1 + 1) vL vR xs.length)
  have He := Lib.hid hext
  have HJ := Lib.hid hJ
  have HRu := Lib.hid hRu
  clear hRu
  have HL := Lib.hid hL
  have HR := Lib.hid hR
  have Hlt := Lib.hid hlt
  clear hwith hext hJ eg hL
  obtain ⟨AR, cR, rfl, _, _, hrowR⟩ := hR
  clear hrowR
  obtain ⟨AL, cL, rfl, _⟩ := HL.out
  have hB : ∀ o1 o2 o3 o4 o5 o6, Below w.heap.size w ((((((w.alloc o1).alloc o2).alloc o3).alloc o4).alloc o5).alloc o6) := fun o1 o2 o3 o4 o5 o6 => (by repeat (first | exact Below.refl _ _ | (refine Below.alloc ?_ (by first | omega | (simp; done) | (simp; omega)) _) | refine below_drewN ?_ _ | refine Below.drew ?_))
  have hJ6 : ∀ o1 o2 o3 o4 o5 o6, NoB o1 → NoB o2 → NoB o3 → NoB o4 → NoB o5 → NoB o6 → J (ext C w.heap.size (w.heap.size + 6)) s ((((((w.alloc o1).alloc o2).alloc o3).alloc o4).alloc o5).alloc o6) := fun o1 o2 o3 o4 o5 o6 n1 n2 n3 n4 n5 n6 => by
    have := He.out C s w ((((((w.alloc o1).alloc o2).alloc o3).alloc o4).alloc o5).alloc o6) HJ.out (hB _ _ _ _ _ _) ((((((((NewNoB.same w).alloc n1).alloc n2).alloc n3).alloc n4).alloc n5).alloc n6)) Hlt.out
    simpa using this
  have hK6 : ∀ o1 o2 o3 o4 o5 o6, Keep C w ((((((w.alloc o1).alloc o2).alloc o3).alloc o4).alloc o5).alloc o6) := fun o1 o2 o3 o4 o5 o6 => (Wk.of_below (hB _ _ _ _ _ _) Hlt.out).keep
  by_cases h0 : 0 < xs.length ∧ i < j
  · obtain ⟨h1, h2⟩ := h0
    go_enter Tryd.func54, Tryd.ntmps54
    go_wp2_with fail
    rw [show ((xs.length : Int) - 1) = ((xs.length - 1 : Nat) : Int) by omega]
    refine (HT.out (xs.length - 1) 0 s (ext C w.heap.size (w.heap.size + 6)) _ (by omega) (by omega) (by omega) ?_ ?_ ?_ ?_).mono ?_
    · have := lens_pos' hlens (r := xs.length - 1) (by omega); omega
    · exact hJ6 _ _ _ _ _ _ (NoB.cells (by decide)) (NoB.cells (by decide)) (NoB.cells (by decide)) (NoB.cells (by decide)) (NoB.cells (by decide)) (NoB.cells (by decide))
    · have := HRu.out
      rwa [piecesL, if_pos ⟨h1, h2⟩] at this
    · have hk := hK6
      exact ⟨by simp [go_sem], by simp [go_sem], by simp [go_sem], by simp [go_sem], by simp [go_sem], by simp [go_sem], Or.inr (by omega), Or.inr (by omega), Or.inr (by omega), Or.inr (by omega), Or.inr (by omega), Or.inr (by omega), (HL.out.keep (hk _ _ _ _ _ _)).more fun b h => Or.inl h, (HR.out.keep (hk _ _ _ _ _ _)).more fun b h => Or.inl h, fun b h => by
        simp
        rcases h with h | h
        · have := Hlt.out b h; omega
        · exact h.2⟩
    · rintro e w2 ⟨rfl, C2, g1, g2, g3, g4⟩
      go_wp2_with fail
      go_end0
      refine ⟨rfl, C2, fun b h => g1 _ (Or.inl h), g2, ?_, ?_⟩
      · rw [piecesL, if_pos ⟨h1, h2⟩]; exact g3
      · exact (Wk.of_below (hB _ _ _ _ _ _) Hlt.out).trans (g4.mono fun b h => Or.inl h)
  · have hp : piecesL xs ls i j = [] := by rw [piecesL, if_neg h0]
    have Hp := Lib.hid hp
    have hh : ¬ 0 < xs.length ∨ (0 < xs.length ∧ ¬ i < j) := by omega
    clear hp h0
    rcases hh with h1 | ⟨h1, h2⟩
    all_goals
      go_enter Tryd.func54, Tryd.ntmps54
      go_wp2_with fail
      go_end0
      refine ⟨rfl, ext C w.heap.size (w.heap.size + 6), fun b h => Or.inl h, ?_, ?_, Wk.of_below (hB _ _ _ _ _ _) Hlt.out⟩
      · intro b h
        simp
        rcases h with h | h
        · have := Hlt.out b h; omega
        · exact h.2
      · rw [Hp.out]
        exact hJ6 _ _ _ _ _ _ (NoB.cells (by decide)) (NoB.cells (by decide)) (NoB.cells (by decide)) (NoB.cells (by decide)) (NoB.cells (by decide)) (NoB.cells (by decide))
end
def lastI (l : List Int) : Int := l.getD (l.length - 1) 0
theorem last_any (v : Value) (l : List Int) (w : World) (h : Sl IntE w w.heap.size v l) :
    Calls Tryd.prog 31 #[v] w fun e w' => e = .returned (.int .i64 (lastI l)) ∧ w = w' := by
  obtain ⟨A, c, rfl, hc, hm, hrow⟩ := h
  unfold maxLen at hm
  by_cases h0 : l.length = 0
  · have hl : l = [] := List.eq_nil_of_length_eq_zero h0
    subst hl
    go_enter Tryd.func31, Tryd.ntmps31
    go_wp2_with fail
    go_ret
    exact ⟨rfl, rfl⟩
  · obtain ⟨b, o, rfl, hbl, hcell⟩ := hrow.int (k := 0) (by omega)
    have hc0 := hcell (l.length - 1) (by omega)
    have g0 : ((l.length : Int) == 0) = false := by rw [beq_eq_false_iff_ne]; omega
    have hk : ((l.length : Int) - 1).toNat = l.length - 1 := by omega
    have hl : 0 ≤ (l.length : Int) - 1 := by omega
    obtain ⟨x, hx⟩ : ∃ x, l.getD (l.length - 1) 0 = x := ⟨_, rfl⟩
    have Hx := Lib.hid hx
    rw [hx] at hc0
    clear hcell hx
    go_enter Tryd.func31, Tryd.ntmps31
    go_wp2_with fail
    go_ret
    exact ⟨ret_int (by rw [lastI, Hx.out]), rfl⟩
theorem Wk.set {C : Nat → Prop} {w : World} {b o : Nat} {v : Value} (h : ¬ C b) : Wk C w (w.setCell ⟨b, o, none⟩ v).drew :=
  ⟨rfl, rfl, rfl, by show w.heap.size ≤ (w.setCell ⟨b, o, none⟩ v).heap.size; simp, fun k hk => heap_setCell_other w ⟨b, o, none⟩ k v (fun e => h (by have e' : k = b := e; exact e' ▸ hk))⟩
def wordR (xs : List GRule) : Nat → Nat → List UInt8
  | 0, _ => []
  | f + 1, r => if (getR xs r).pair then wordR xs f (getR xs r).left.toNat ++ wordR xs f (getR xs r).right.toNat else (getR xs r).letter.data.toList
def W1 (xs : List GRule) (r : Nat) : List UInt8 := wordR xs (r + 1) r
def wordG (xs : List GRule) : List UInt8 := if xs = [] then [] else W1 xs (xs.length - 1)
def cutL {α : Type} (l : List α) (i j : Int) : List α := (l.take j.toNat).drop i.toNat
theorem wordR_fuel {xs : List GRule} {ls : List Int} (h : lens xs = some ls) : ∀ (f r : Nat), r < f → r < xs.length → wordR xs f r = W1 xs r := by
  intro f
  induction f using Nat.strongRecOn with
  | _ f ih =>
    intro r hr hx
    obtain ⟨g, rfl⟩ : ∃ g, f = g + 1 := ⟨f - 1, by omega⟩
    unfold W1
    rw [wordR, wordR]
    cases hp : (getR xs r).pair with
    | false => rfl
    | true =>
      obtain ⟨q1, q2, q3, q4, q5⟩ := lens_pair h hx hp
      rw [if_pos rfl, if_pos rfl, ih g (by omega) _ (by omega) (by omega), ih g (by omega) _ (by omega) (by omega)]
      by_cases e : r = g
      · subst e
        rw [ih r (by omega) _ (by omega) (by omega), ih r (by omega) _ (by omega) (by omega)]
      · rw [ih r (by omega) _ q2 (by omega), ih r (by omega) _ q4 (by omega)]
theorem W1_pair {xs : List GRule} {ls : List Int} (h : lens xs = some ls) {r : Nat} (hx : r < xs.length) (hp : (getR xs r).pair = true) : W1 xs r = W1 xs (getR xs r).left.toNat ++ W1 xs (getR xs r).right.toNat := by
  obtain ⟨q1, q2, q3, q4, q5⟩ := lens_pair h hx hp
  rw [W1, wordR, if_pos hp, wordR_fuel h r _ q2 (by omega), wordR_fuel h r _ q4 (by omega)]
theorem W1_let {xs : List GRule} {r : Nat} (hp : (getR xs r).pair = false) : W1 xs r = (getR xs r).letter.data.toList := by
  rw [W1, wordR, if_neg (by simp [hp])]
theorem lens_isLet {xs : List GRule} {ls : List Int} (h : lens xs = some ls) {r : Nat} (hx : r < xs.length) (hp : (getR xs r).pair = false) : isLet (getR xs r).letter = true := by
  have h1 := (lens_steps h r _ (getR_at hx)).1
  unfold okRule at h1
  rw [if_neg (by simp [hp])] at h1
  simp at h1; exact h1.1.1
theorem isLet_size {s : ByteArray} (h : isLet s = true) : s.size = 1 := by unfold isLet at h; simp at h; exact h.1.1
theorem W1_len {xs : List GRule} {ls : List Int} (h : lens xs = some ls) : ∀ (r : Nat), r < xs.length → ((W1 xs r).length : Int) = ls.getD r 0 := by
  intro r
  induction r using Nat.strongRecOn with
  | _ r ih =>
    intro hx
    cases hp : (getR xs r).pair with
    | false =>
      rw [W1_let hp, lens_letter h hx hp]
      have := isLet_size (lens_isLet h hx hp)
      show (((getR xs r).letter.data.toList.length : Nat) : Int) = 1
      rw [Array.length_toList]
      exact congrArg _ this
    | true =>
      obtain ⟨q1, q2, q3, q4, q5⟩ := lens_pair h hx hp
      rw [W1_pair h hx hp, List.length_append, q5, ← ih _ q2 (by omega), ← ih _ q4 (by omega)]
      omega
theorem cutL_append {α : Type} (a b : List α) (i j : Int) : cutL (a ++ b) i j = cutL a i j ++ cutL b (i - a.length) (j - a.length) := by
  unfold cutL
  rw [List.take_append, List.drop_append]
  have e1 : (j - (a.length : Int)).toNat = j.toNat - a.length := by omega
  have e2 : (i - (a.length : Int)).toNat = i.toNat - a.length := by omega
  rw [e1, e2, List.length_take]
  congr 1
  by_cases hj : j.toNat ≤ a.length
  · have : List.take (j.toNat - a.length) b = [] := by rw [show j.toNat - a.length = 0 by omega]; rfl
    rw [this]; simp
  · rw [show min j.toNat a.length = a.length by omega]
theorem cutL_nil {α : Type} {l : List α} {i j : Int} (h : (l.length : Int) ≤ i ∨ j ≤ 0 ∨ j ≤ i) : cutL l i j = [] := by
  unfold cutL
  apply List.drop_eq_nil_of_le
  rw [List.length_take]; omega
theorem cutL_all {α : Type} {l : List α} {i j : Int} (hi : i ≤ 0) (hj : (l.length : Int) ≤ j) : cutL l i j = l := by
  unfold cutL
  rw [show i.toNat = 0 by omega, List.drop_zero, List.take_of_length_le (by omega)]
theorem cutL_len {α : Type} {l : List α} {i j : Int} (hi : 0 ≤ i) (hij : i ≤ j) (hj : j ≤ l.length) : ((cutL l i j).length : Int) = j - i := by
  unfold cutL
  rw [List.length_drop, List.length_take]; omega
theorem cover_word {xs : List GRule} {ls : List Int} (h : lens xs = some ls) {i j : Int} : ∀ (f r : Nat) (p : Int), r < f → r < xs.length →
    (coverR xs ls i j f r p).flatMap (W1 xs) = cutL (W1 xs r) (i - p) (j - p) := by
  intro f
  induction f with
  | zero => intro r p hr; omega
  | succ f ih =>
    intro r p hr hx
    have hw := W1_len h r hx
    have h1 := lens_pos' h hx
    rw [coverR]
    split
    · rename_i c; rw [cutL_nil (by omega)]; rfl
    split
    · rename_i c; rw [cutL_all (by omega) (by omega)]; simp
    rename_i c1 c2
    cases hp : (getR xs r).pair with
    | false => have := lens_letter h hx hp; omega
    | true =>
      obtain ⟨q1, q2, q3, q4, q5⟩ := lens_pair h hx hp
      rw [List.flatMap_append, ih _ _ (by omega) (by omega), ih _ _ (by omega) (by omega), W1_pair h hx hp, cutL_append, W1_len h _ (by omega)]
      congr 2 <;> omega
theorem wordG_pos {xs : List GRule} (h : 0 < xs.length) : wordG xs = W1 xs (xs.length - 1) := by
  rw [wordG, if_neg (by intro e; subst e; simp at h)]
theorem lastI_at {xs : List GRule} {ls : List Int} (h : lens xs = some ls) (_h0 : 0 < xs.length) : lastI ls = ls.getD (xs.length - 1) 0 := by
  rw [lastI, lens_length h]
theorem wordG_len {xs : List GRule} {ls : List Int} (h : lens xs = some ls) : ((wordG xs).length : Int) = lastI ls := by
  by_cases h0 : 0 < xs.length
  · rw [wordG_pos h0, W1_len h _ (by omega), lastI_at h h0]
  · have hx : xs = [] := List.eq_nil_of_length_eq_zero (by omega)
    subst hx
    have : ls = [] := List.eq_nil_of_length_eq_zero (by rw [lens_length h]; rfl)
    subst this; rfl
theorem pieces_word {xs : List GRule} {ls : List Int} (h : lens xs = some ls) {i j : Int} : (piecesL xs ls i j).flatMap (W1 xs) = cutL (wordG xs) i j := by
  unfold piecesL
  split
  · rename_i c
    rw [cover_word h _ _ _ (by omega) (by omega), wordG_pos c.1, Int.sub_zero, Int.sub_zero]
  · rename_i c
    by_cases h0 : 0 < xs.length
    · rw [cutL_nil (by omega)]; rfl
    · have hx : xs = [] := List.eq_nil_of_length_eq_zero (by omega)
      subst hx
      simp [wordG, cutL]
theorem W1_ok {xs : List GRule} {ls : List Int} (h : lens xs = some ls) : ∀ (r : Nat), r < xs.length → (W1 xs r).all letOk = true := by
  intro r
  induction r using Nat.strongRecOn with
  | _ r ih =>
    intro hx
    cases hp : (getR xs r).pair with
    | false =>
      have hl := lens_isLet h hx hp
      rw [W1_let hp]
      have := wordOk_one (isLet_size hl)
      rw [hl] at this
      unfold wordOk at this
      simp only [Bool.and_eq_true] at this
      exact this.2
    | true =>
      obtain ⟨q1, q2, q3, q4, q5⟩ := lens_pair h hx hp
      rw [W1_pair h hx hp, List.all_append, ih _ q2 (by omega), ih _ q4 (by omega)]; rfl
def limOut (xs : List GRule) : List GRule := if gramOk xs then xs else []
def limCode (xs : List GRule) : Int := if gramOk xs then 0 else 3
theorem gram_lens {xs : List GRule} (h : gramOk xs = true) : xs.length ≤ 400 ∧ ∃ ls, lens xs = some ls := by
  simp only [gramOk, Bool.and_eq_true, decide_eq_true_eq] at h
  exact ⟨h.1, Option.isSome_iff_exists.1 h.2⟩
def LimPost (base : Nat) (xs : List GRule) (w : World) (e : Ending) (w' : World) : Prop :=
  Below w.heap.size w w' ∧ ∃ v', OwnRules w' base v' (limOut xs) ∧ e = .returned (.tuple #[.agg #[v'], .int .i64 (limCode xs)])
theorem orLimit_any (base : Nat) (v : Value) (xs : List GRule) (w : World) (h : OwnRules w base v xs) (hn : xs.length ≤ 1099511627776) :
    Calls Tryd.prog 26 #[.agg #[v]] w (LimPost base xs w) := by
  have h1 := fun o o' => (h.sl.below (((Below.refl w.heap.size w).alloc (Nat.le_refl _) o).alloc (by simp) o')).le (B' := ((w.alloc o).alloc o').heap.size) (by simp; omega)
  have hv : v.ownBlock ≠ some (w.heap.size + 1) := fun e => by have := (World.ownsRow.lt h _ e).2; omega
  have H1 := Lib.hid h1
  have H := Lib.hid h
  have Hv := Lib.hid hv
  clear h1 hv
  obtain ⟨A, c, rfl, _⟩ := own_nil h
  clear h
  go_enter Tryd.func26, Tryd.ntmps26
  go_wp2_with fail
  refine (ValidGrammar_any _ _ _ (H1.out _ _) hn).mono ?_
  rintro e w1 ⟨rfl, hb1⟩
  obtain ⟨hc1, hf1⟩ := bcell hb1
  have hz1 : w.heap.size + 1 < w1.heap.size := by have := hb1.size; simp at this; omega
  have hc2 : w1.cell? ⟨w.heap.size + 1, 0, none⟩ = some (.slice none 0 0) := by rw [hc1 _ _ (by simp)]; simp [go_sem]
  have hf2 : w1.frozen? ⟨w.heap.size + 1, 0, none⟩ = false := by rw [hf1 _ _ (by simp)]; simp [go_sem]
  have hc3 : w1.cell? ⟨w.heap.size, 0, none⟩ = some (.slice A xs.length c) := by rw [hc1 _ _ (by simp; omega)]; simp [go_sem]
  have Hb1 := Lib.hid (((Below.refl w.heap.size w).alloc (Nat.le_refl _) (Obj.cells #[Value.slice A xs.length c] 26)).alloc (by simp) (Obj.cells #[Value.slice none 0 0] 26) |>.trans (hb1.mono (by simp; omega)))
  clear hc1 hf1 hb1
  by_cases hok : gramOk xs = true
  · have hok2 : (!gramOk xs) = false := by simp [hok]
    have Hok := Lib.hid hok
    clear hok
    go_wp2
    refine bodyPost_ret (v := .tuple #[.agg #[.slice A xs.length c], .int .i64 0]) (by simp [results, Tryd.results26, go_sem, hc2]) rfl ⟨?_, _, ?_, by rw [limCode, if_pos Hok.out]⟩
    · exact Hb1.out.setCell (by show w.heap.size ≤ w.heap.size + 1; omega) _
    · rw [limOut, if_pos Hok.out]
      refine own_keep (OwnRules.below H.out Hb1.out) fun g hg => Below.heap_setCell _ _ _ _ (fun e => Hv.out ?_)
      rw [hg, e]
  · have hok2 : (!gramOk xs) = true := by simp [hok]
    have Hok := Lib.hid hok
    clear hok
    go_wp2
    refine bodyPost_ret (v := .tuple #[.agg #[.slice none 0 0], .int .i64 3]) (by simp [results, Tryd.results26, go_sem, hc2]) rfl ⟨?_, _, ?_, by rw [limCode, if_neg Hok.out]⟩
    · exact Hb1.out.setCell (by show w.heap.size ≤ w.heap.size + 1; omega) _
    · rw [limOut, if_neg Hok.out]; exact World.ownsRow_nil _ _ _ _
theorem step_push_rule {W : World} {ops : Array Oper} {o : Oper} {a : Act} {K : Act → World → Prop} {Q : Exit → Act → World → Prop} {E : Prop} (hgd : o.guard = none) (s x : Operand)
    (ho : o.op = .call { callee := .builtin .append, args := #[s, x], argTypes := #[24, 24] }) {t : ByteArray} {p q : Int} {base : Nat} {v : Value} {l : List GRule}
    (hs : a.eval s = v) {N : Nat} (hx : a.eval x = .slice (some ⟨N, 0, none⟩) 1 1) (hN : N = W.heap.size) (hown : OwnRules W base v l) (hlen : l.length ≤ 1099511627775) (hbase : base ≤ W.heap.size)
    (h : ∀ v' w', OwnRules w' base v' (l ++ [⟨t, p, q⟩]) → (W.alloc (.cells #[.string t, .int .i64 p, .int .i64 q] 42)).grownBy w' v.ownBlock → Below base (W.alloc (.cells #[.string t, .int .i64 p, .int .i64 q] 42)) w' → K (a.put o.dst v') w') :
    if Region.wanted o (yielded ops a.tmps) = true then Oper.wp Tryd.prog o a (W.alloc (.cells #[.string t, .int .i64 p, .int .i64 q] 42)) K Q else E := by
  subst hN
  refine step_append_rules (ys := [⟨t, p, q⟩]) (S := fun b => b = W.heap.size) hgd s x ho hs hx (hown.alloc _) ⟨_, 1, rfl, Nat.le_refl _, by simp [maxLen], fun _ => ⟨W.heap.size, 0, rfl, rfl, fun k r hk => ⟨r.cells, rfl, fun j u hu => ?_⟩⟩⟩ (by simp; omega) (by simp; omega) h
  have hk0 : k = 0 := by
    have := (List.getElem?_eq_some_iff.1 hk).1
    simp at this; exact this
  subst hk0
  simp at hk
  subst hk
  have hc : (W.alloc (.cells #[.string t, .int .i64 p, .int .i64 q] 42)).cell? ⟨W.heap.size, j, none⟩ = (#[Value.string t, .int .i64 p, .int .i64 q] : Array Value)[j]? := cell_of_row _ _ _ _ 42 (0, 0) (heap_alloc_new W _)
  simp only [Nat.zero_mul, Nat.zero_add]
  rw [hc]
  simpa [GRule.cells] using hu
theorem Boxed.mk' {w : World} {B : Nat} {t : TypeId} {v : Value} (h : w.heap[B]? = some (.cells #[v] t (0, 0))) : Boxed w.drew B t v := h
theorem Boxed.up {w w' : World} {B N : Nat} {t : TypeId} {v : Value} (h : Boxed w B t v) (hb : Below N w w') (hlt : B < N) : Boxed w' B t v := (hb.block B hlt).trans h
theorem Boxed.grown {w w' : World} {B base e s n : Nat} {t : TypeId} {v : Value} {xs : List Value} {o : Obj} (h : Boxed w B t v) (hte : t ≠ e) (own : w.ownsRow base e s v n xs) (hg : (w.alloc o).grownBy w' v.ownBlock) : Boxed w' B t v := (h.alloc o).kept hg (h.not_row hte own)
end Go.Proofs.YtfhiaifdigefdaaDoor
namespace Go.Proofs
open Go.Shelf Go.RowKit
def Tryd.laysM173_ren : Go.Shelf.Ren := ⟨fun | 173 => 47 | 246 => 68 | 283 => 76 | 284 => 77 | 285 => 78 | 286 => 79 | 129 => 86 | 317 => 85 | 318 => 87 | 319 => 88 | 320 => 89 | 337 => 90 | 338 => 91 | n => n, fun | 2 => 2 | 3 => 3 | 9 => 9 | 4 => 4 | 171 => 118 | 0 => 0 | 53 => 76 | 37 => 22 | 5 => 5 | 173 => 121 | 212 => 130 | 51 => 131 | 20 => 20 | 213 => 132 | 46 => 107 | 232 => 136 | 233 => 137 | n => n, fun | 17 => 0 | 18 => 1 | 19 => 2 | n => n⟩
theorem Tryd.laysM173 : Go.Proofs.LaysM.n173 Tryd.prog Tryd.laysM173_ren := {
  mixed := by kernel_rfl
  f129 := Tryd.func86.trans (congrArg some (by kernel_rfl))
  f173 := Tryd.func47.trans (congrArg some (by kernel_rfl))
  f246 := Tryd.func68.trans (congrArg some (by kernel_rfl))
  f283 := Tryd.func76.trans (congrArg some (by kernel_rfl))
  f284 := Tryd.func77.trans (congrArg some (by kernel_rfl))
  f285 := Tryd.func78.trans (congrArg some (by kernel_rfl))
  f286 := Tryd.func79.trans (congrArg some (by kernel_rfl))
  f317 := Tryd.func85.trans (congrArg some (by kernel_rfl))
  f318 := Tryd.func87.trans (congrArg some (by kernel_rfl))
  f319 := Tryd.func88.trans (congrArg some (by kernel_rfl))
  f320 := Tryd.func89.trans (congrArg some (by kernel_rfl))
  f337 := Tryd.func90.trans (congrArg some (by kernel_rfl))
  f338 := Tryd.func91.trans (congrArg some (by kernel_rfl))
  t0 := Tryd.underlying0
  a0 := Tryd.isAgg0
  z0 := Tryd.sizeOf0
  v0 := Tryd.zeroValue0
  t2 := Tryd.underlying2
  a2 := Tryd.isAgg2
  z2 := Tryd.sizeOf2
  v2 := Tryd.zeroValue2
  t3 := Tryd.underlying3
  a3 := Tryd.isAgg3
  z3 := Tryd.sizeOf3
  v3 := Tryd.zeroValue3
  t4 := Tryd.underlying4
  a4 := Tryd.isAgg4
  z4 := Tryd.sizeOf4
  v4 := Tryd.zeroValue4
  t5 := Tryd.underlying5
  a5 := Tryd.isAgg5
  z5 := Tryd.sizeOf5
  v5 := Tryd.zeroValue5
  t9 := Tryd.underlying9
  a9 := Tryd.isAgg9
  z9 := Tryd.sizeOf9
  v9 := Tryd.zeroValue9
  t20 := Tryd.underlying20
  a20 := Tryd.isAgg20
  z20 := Tryd.sizeOf20
  v20 := Tryd.zeroValue20
  t37 := Tryd.underlying22
  a37 := Tryd.isAgg22
  z37 := Tryd.sizeOf22
  v37 := Tryd.zeroValue22
  t46 := Tryd.underlying107
  a46 := Tryd.isAgg107
  z46 := Tryd.sizeOf107
  v46 := Tryd.zeroValue107
  t51 := Tryd.underlying131
  a51 := Tryd.isAgg131
  z51 := Tryd.sizeOf131
  v51 := Tryd.zeroValue131
  t53 := Tryd.underlying76
  a53 := Tryd.isAgg76
  z53 := Tryd.sizeOf76
  v53 := Tryd.zeroValue76
  t171 := Tryd.underlying118
  a171 := Tryd.isAgg118
  z171 := Tryd.sizeOf118
  v171 := Tryd.zeroValue118
  t173 := Tryd.underlying121
  a173 := Tryd.isAgg121
  z173 := Tryd.sizeOf121
  v173 := Tryd.zeroValue121
  t212 := Tryd.underlying130
  a212 := Tryd.isAgg130
  z212 := Tryd.sizeOf130
  v212 := Tryd.zeroValue130
  t213 := Tryd.underlying132
  a213 := Tryd.isAgg132
  z213 := Tryd.sizeOf132
  t232 := Tryd.underlying136
  a232 := Tryd.isAgg136
  z232 := Tryd.sizeOf136
  v232 := Tryd.zeroValue136
  t233 := Tryd.underlying137
  a233 := Tryd.isAgg137
  z233 := Tryd.sizeOf137
  v233 := Tryd.zeroValue137
  g17 := by kernel_rfl
  g18 := by kernel_rfl
  g19 := by kernel_rfl
  i0 := by kernel_rfl
  i2 := by kernel_rfl
  i3 := by kernel_rfl
  i4 := by kernel_rfl
  i5 := by kernel_rfl
  i9 := by kernel_rfl
  i20 := by kernel_rfl
  i37 := by kernel_rfl
  i46 := by kernel_rfl
  i51 := by kernel_rfl
  i53 := by kernel_rfl
  i171 := by kernel_rfl
  i173 := by kernel_rfl
  i212 := by kernel_rfl
  i232 := by kernel_rfl
  i233 := by kernel_rfl
  m17 := by kernel_rfl
  m18 := by kernel_rfl
  m19 := by kernel_rfl }
open Go.RowKit Go.Sort Go.Lib in
theorem Tryd.strconv_FormatInt_10 (n : Int) (h0 : -9223372036854775808 ≤ n) (h1 : n ≤ 9223372036854775807) (w : World) (htab : Lib.TabIs Tryd.prog w "internal/strconv.uint64pow10" .u64 Lib.pow10Tab) :
    Calls Tryd.prog 47 #[.int .i64 n, .int .i64 10] w fun e w' => e = .returned (.string ⟨(Lib.itoa n).toArray⟩) ∧ ∃ k os, w' = grow (w.drewN k) os := Any.strconv_FormatInt_10 Tryd.laysM173 n h0 h1 w htab
end Go.Proofs
namespace Go.Proofs.YtfhiaifdigefdaaDoor
open Go.RowKit
theorem tab_below {P : Program} {w w' : World} {nm : String} {k : IntKind} {zs : List Int} (h : Lib.TabIs P w nm k zs) (hb : Below w.heap.size w w') : Lib.TabIs P w' nm k zs := by
  unfold Lib.TabIs World.var? at h ⊢
  obtain ⟨g, hg, h2⟩ := Option.bind_eq_some_iff.1 h
  rw [hg]
  simp only [Option.bind_some]
  have hlt : g < w.heap.size := by
    rcases Nat.lt_or_ge g w.heap.size with h' | h'
    · exact h'
    · rw [Array.getElem?_eq_none h'] at h2; cases h2
  rw [hb.block g hlt]; exact h2
def binL (n : Nat) : List UInt8 := if h : n < 2 then [UInt8.ofNat (48 + n)] else binL (n / 2) ++ [UInt8.ofNat (48 + n % 2)]
termination_by n
decreasing_by omega
theorem binL_lt {n : Nat} (h : n < 2) : binL n = [UInt8.ofNat (48 + n)] := by rw [binL, dif_pos h]
theorem binL_ge {n : Nat} (h : ¬ n < 2) : binL n = binL (n / 2) ++ [UInt8.ofNat (48 + n % 2)] := by rw [binL, dif_neg h]
def deB64 : List Int := [0, 1, 56, 2, 57, 49, 28, 3, 61, 58, 42, 50, 38, 29, 17, 4, 62, 47, 59, 36, 45, 43, 51, 22, 53, 39, 33, 30, 24, 18, 12, 5, 63, 55, 48, 27, 60, 41, 37, 16, 46, 35, 44, 21, 52, 32, 23, 11, 54, 26, 40, 15, 34, 20, 31, 10, 25, 14, 19, 9, 13, 8, 7, 6]
theorem tz_two (w : World) (htab : Lib.TabIs Tryd.prog w "math/bits.deBruijn64tab" .u8 deB64) :
    Calls Tryd.prog 89 #[.int .u64 2] w fun e w' => e = .returned (.int .i64 1) ∧ w = w' := by
  have hc0 := htab.cell (g := 2) (by kernel_rfl) 1 (by decide)
  have hc : w.cell? ⟨2, 1, none⟩ = some (.int .u8 1) := hc0
  clear hc0
  have e1 : IntKind.u64.wrap (-2) = 18446744073709551614 := by decide
  have e2 : bits BinOp.and IntKind.u64 2 18446744073709551614 = 2 := by decide
  have e3 : IntKind.u64.wrap (2 * 285870213051353865) = 571740426102707730 := by decide
  clear htab
  go_enter Tryd.func89, Tryd.ntmps89
  go_wp2
  go_ret
  exact ⟨rfl, rfl⟩
theorem pow2_two (w : World) : Calls Tryd.prog 88 #[.int .i64 2] w fun e w' => e = .returned (.bool true) ∧ w = w' := by
  have e2 : bits BinOp.and IntKind.i64 2 1 = 0 := by decide
  go_enter Tryd.func88, Tryd.ntmps88
  go_wp2
  go_ret
  exact ⟨rfl, rfl⟩
theorem convL (L : List UInt8) (b p n c : Nat) (W : World) (hn : n = L.length) (h : ∀ t (ht : t < L.length), W.cell? ⟨b, p + t, none⟩ = some (.int .u8 (L[t].toNat : Int))) :
    (convert 22 9 (.slice (some ⟨b, p, none⟩) n c)).run Tryd.prog W = .ok (.string ⟨L.toArray⟩) W := by
  subst hn
  exact run_convert_bytes_back (P := Tryd.prog) W 22 9 5 ⟨b, p, none⟩ c L Tryd.underlying22 Tryd.underlying5 Tryd.underlying9 (fun j hj => by
    have e : (⟨b, p, none⟩ : Addr).add j = ⟨b, p + j, none⟩ := by unfold Addr.add; split <;> simp_all
    rw [e]; exact h j hj)
set_option maxRecDepth 100000 in
set_option maxHeartbeats 1000000 in
theorem formatBits_two (n : Nat) (hn : n < 1152921504606846976) (w : World) (htab : Lib.TabIs Tryd.prog w "math/bits.deBruijn64tab" .u8 deB64) :
    Calls Tryd.prog 79 #[.slice none 0 0, .int .u64 n, .int .i64 2, .bool false, .bool false] w fun e w' => e = .returned (.tuple #[.slice none 0 0, .string ⟨(binL n).toArray⟩]) ∧ Below w.heap.size w w' := by
  have HT := Lib.hid htab
  clear htab
  go_enter Tryd.func79, Tryd.ntmps79
  go_wp2_with fail
  refine (pow2_two _).mono ?_
  rintro e w' ⟨rfl, rfl⟩
  go_wp2_with fail
  refine (tz_two _ (tab_below HT.out ((Below.refl _ _).alloc (Nat.le_refl _) _))).mono ?_
  rintro e w' ⟨rfl, rfl⟩
  go_wp2_with fail
  go_loopw [1, 13] (fun u i wr => ∃ (m : Nat) (S : List UInt8) (arr : Array Value), u = .int .u64 m ∧ i = .int .i64 (65 - (S.length : Int)) ∧ m < 2 ^ (60 - S.length) ∧ S.length ≤ 60 ∧ Hid (binL n = binL m ++ S) ∧ arr.size = 65 ∧ Hid (∀ t (h : t < S.length), arr[65 - S.length + t]? = some (.int .u8 (S[t].toNat : Int))) ∧ wr = w.alloc (.cells arr 132)) (fun u _ _ => (intOf u).toNat)
  case atStart => exact ⟨n, [], Tryd.zeroCells132, rfl, rfl, hn, by simp, by simp [Hid], by kernel_rfl, fun t h => absurd h (by simp), rfl⟩
  case round =>
    obtain ⟨m, S, arr, rfl, rfl, hm, hS, hbin, hsz, harr, rfl⟩ := hrel
    by_cases c : 2 ≤ m
    · have c' : (2 : Int) ≤ m := by omega
      have hS58 : S.length ≤ 58 := by
        rcases Nat.lt_or_ge S.length 59 with h | h
        · omega
        · have : 60 - S.length ≤ 1 := by omega
          have := Nat.pow_le_pow_right (show 0 < 2 by omega) this
          omega
      obtain ⟨p, hp⟩ : ∃ p : Nat, 65 - (S.length : Int) - 1 = (p : Int) := ⟨64 - S.length, by omega⟩
      have hwi : IntKind.i64.wrap (65 - (S.length : Int) - 1) = (p : Int) := by rw [hp]; exact IntWalk.i64_in _ (by omega)
      have hp65 : p < 65 := by omega
      have hpa : p < arr.size := by omega
      have hpi : (p : Int) < 65 := by omega
      have HP := Lib.hid hp
      obtain ⟨d, hd⟩ : ∃ d : Nat, m % 2 = d := ⟨_, rfl⟩
      have hd2 : d = 0 ∨ d = 1 := by omega
      have hand : bits BinOp.and IntKind.u64 (m : Int) 1 = (d : Int) := by rw [and_one_u64 _ (by omega) (by have := Nat.pow_le_pow_right (show 0 < 2 by omega) (show 60 - S.length ≤ 60 by omega); omega)]; omega
      have Hd := Lib.hid hd
      clear hp hd
      have hmp : m < 2 ^ (60 - S.length - 1) * 2 := by
        have e : 60 - S.length = (60 - S.length - 1) + 1 := by omega
        rw [e, Nat.pow_succ] at hm; exact hm
      have Hmp := Lib.hid hmp
      have Hsz := Lib.hid hsz
      have HS58 := Lib.hid hS58
      clear hmp hm
      rcases hd2 with rfl | rfl
      all_goals
        go_wp2_with fail
        have hp' := HP.out
        have hL := HS58.out
        have hz := Hsz.out
        refine ⟨⟨m / 2, UInt8.ofNat (48 + m % 2) :: S, arr.setIfInBounds p (.int .u8 ((UInt8.ofNat (48 + m % 2)).toNat : Int)), ?_, ?_, ?_, ?_, ?_, ?_, ?_, ?_⟩, ?_⟩
        · rw [show ((m / 2 : Nat) : Int) = (m : Int) / 2 by omega]
        · simp only [List.length_cons]; congr 1; omega
        · have := Hmp.out
          simp only [List.length_cons]
          rw [show 60 - (S.length + 1) = 60 - S.length - 1 by omega]; omega
        · simp only [List.length_cons]; omega
        · show binL n = _
          rw [hbin.out, binL_ge (show ¬ m < 2 by omega)]; simp
        · simp [hz]
        · intro t ht
          simp only [List.length_cons] at ht ⊢
          cases t with
          | zero =>
            rw [show 65 - (S.length + 1) + 0 = p by omega, Array.getElem?_setIfInBounds_self_of_lt (by omega)]
            simp
          | succ t =>
            rw [show 65 - (S.length + 1) + (t + 1) = 65 - S.length + t by omega, Array.getElem?_setIfInBounds_ne (by omega), harr.out t (by omega)]
            simp
        · rw [Hd.out]; rfl
        · simp [intOf]; omega
    · have hbm : binL m = [UInt8.ofNat (48 + m)] := binL_lt (by omega)
      have c' : ¬ ((2 : Int) ≤ m) := by omega
      obtain ⟨p, hp⟩ : ∃ p : Nat, 65 - (S.length : Int) - 1 = (p : Int) := ⟨64 - S.length, by omega⟩
      have hwi : IntKind.i64.wrap (65 - (S.length : Int) - 1) = (p : Int) := by rw [hp]; exact IntWalk.i64_in _ (by omega)
      have hp65 : p < 65 := by omega
      have hp65' : p ≤ 65 := by omega
      have hpa : p < arr.size := by omega
      have hpi : (p : Int) < 65 := by omega
      have hpi' : (p : Int) ≤ 65 := by omega
      have HP := Lib.hid hp
      have Hsz := Lib.hid hsz
      have Hbm := Lib.hid hbm
      have hm2 : m = 0 ∨ m = 1 := by omega
      clear hp hm hbm
      rcases hm2 with rfl | rfl
      all_goals
        go_wp2_with fail
        have hp' := HP.out
        have hz := Hsz.out
      · rw [convL (UInt8.ofNat (48 + 0) :: S) w.heap.size p _ _ _ (by simp only [List.length_cons]; omega) ?_]
        · go_wp2_with fail
          go_ret2
          refine ⟨?_, (by repeat (first | exact Below.refl _ _ | (refine Below.alloc ?_ (by first | omega | (simp; done) | (simp; omega)) _) | refine below_drewN ?_ _ | refine Below.drew ?_))⟩
          rw [hbin.out, Hbm.out]; rfl
        · intro t ht
          simp only [List.length_cons] at ht
          rw [World.cell?_alloc_mark]
          cases t with
          | zero => exact Array.getElem?_setIfInBounds_self_of_lt (by omega)
          | succ t => rw [Array.getElem?_setIfInBounds_ne (by omega), show p + (t + 1) = 65 - S.length + t by omega, harr.out t (by omega)]; rfl
      · rw [convL (UInt8.ofNat (48 + 1) :: S) w.heap.size p _ _ _ (by simp only [List.length_cons]; omega) ?_]
        · go_wp2_with fail
          go_ret2
          refine ⟨?_, (by repeat (first | exact Below.refl _ _ | (refine Below.alloc ?_ (by first | omega | (simp; done) | (simp; omega)) _) | refine below_drewN ?_ _ | refine Below.drew ?_))⟩
          rw [hbin.out, Hbm.out]; rfl
        · intro t ht
          simp only [List.length_cons] at ht
          rw [World.cell?_alloc_mark]
          cases t with
          | zero => exact Array.getElem?_setIfInBounds_self_of_lt (by omega)
          | succ t => rw [Array.getElem?_setIfInBounds_ne (by omega), show p + (t + 1) = 65 - S.length + t by omega, harr.out t (by omega)]; rfl
set_option maxRecDepth 100000 in
theorem formatIntI_two (n : Nat) (hn : n < 1152921504606846976) (w : World) (htab : Lib.TabIs Tryd.prog w "math/bits.deBruijn64tab" .u8 deB64) :
    Calls Tryd.prog 68 #[.int .i64 n, .int .i64 2] w fun e w' => e = .returned (.string ⟨(binL n).toArray⟩) ∧ Below w.heap.size w w' := by
  have HT := Lib.hid htab
  have hw : IntKind.u64.wrap (n : Int) = (n : Int) := IntWalk.u64_in _ (by omega)
  have h0 : ¬ ((n : Int) < 0) := by omega
  clear htab
  go_enter Tryd.func68, Tryd.ntmps68
  go_wp2_with fail
  refine (formatBits_two n hn _ HT.out).mono ?_
  rintro e w1 ⟨rfl, hb1⟩
  go_wp2_with fail
  go_ret
  exact ⟨rfl, hb1⟩
theorem formatInt_two (n : Nat) (hn : n < 1152921504606846976) (w : World) (htab : Lib.TabIs Tryd.prog w "math/bits.deBruijn64tab" .u8 deB64) :
    Calls Tryd.prog 47 #[.int .i64 n, .int .i64 2] w fun e w' => e = .returned (.string ⟨(binL n).toArray⟩) ∧ Below w.heap.size w w' := by
  have HT := Lib.hid htab
  clear htab
  go_enter Tryd.func47, Tryd.ntmps47
  go_wp2_with fail
  refine (formatIntI_two n hn _ HT.out).mono ?_
  rintro e w1 ⟨rfl, hb1⟩
  go_wp2_with fail
  go_ret
  exact ⟨rfl, hb1⟩
end Go.Proofs.YtfhiaifdigefdaaDoor
