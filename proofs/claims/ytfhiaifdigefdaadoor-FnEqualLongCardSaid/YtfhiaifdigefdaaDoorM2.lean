import Derived.Test.YtfhiaifdigefdaaDoorM1
import Derived.StillTailTactics
import Derived.Laws.EntriesVeiled
namespace Go.Proofs.YtfhiaifdigefdaaDoor
open Go.RowKit
structure Wk (C : Nat → Prop) (w w' : World) : Prop where
  os : w'.os = w.os
  tape : w'.tape = w.tape
  output : w'.output = w.output
  size : w.heap.size ≤ w'.heap.size
  block : ∀ k, C k → w'.heap[k]? = w.heap[k]?
section
variable {C C' : Nat → Prop} {a b c : World}
theorem Wk.refl (C : Nat → Prop) (w : World) : Wk C w w := ⟨rfl, rfl, rfl, Nat.le_refl _, fun _ _ => rfl⟩
theorem Wk.trans (h : Wk C a b) (k : Wk C b c) : Wk C a c := ⟨k.os.trans h.os, k.tape.trans h.tape, k.output.trans h.output, Nat.le_trans h.size k.size, fun i hi => (k.block i hi).trans (h.block i hi)⟩
theorem Wk.mono (h : Wk C a b) (hs : ∀ k, C' k → C k) : Wk C' a b := ⟨h.os, h.tape, h.output, h.size, fun i hi => h.block i (hs i hi)⟩
theorem Wk.of_below {B : Nat} (h : Below B a b) (hs : ∀ k, C k → k < B) : Wk C a b := ⟨h.os, h.tape, h.output, h.size, fun i hi => h.block i (hs i hi)⟩
theorem Wk.below {B : Nat} (h : Wk C a b) (hs : ∀ k, k < B → C k) : Below B a b := ⟨h.os, h.tape, h.output, h.size, fun i hi => h.block i (hs i hi)⟩
theorem Wk.keep (h : Wk C a b) : Keep C a b := fun i hi => h.block i hi
theorem Wk.cell {k o : Nat} {v : Value} (h : Wk C a b) (hk : C k) (hc : a.cell? ⟨k, o, none⟩ = some v) : b.cell? ⟨k, o, none⟩ = some v := (h.keep.cell hk).trans hc
end
def getR (xs : List GRule) (r : Nat) : GRule := xs.getD r ⟨⟨#[]⟩, 0, 0⟩
def coverR (xs : List GRule) (ls : List Int) (i j : Int) : Nat → Nat → Int → List Nat
  | 0, _, _ => []
  | f + 1, r, p =>
    if p + ls.getD r 0 ≤ i ∨ j ≤ p then [] else if i ≤ p ∧ p + ls.getD r 0 ≤ j then [r] else
      coverR xs ls i j f (getR xs r).left.toNat p ++ coverR xs ls i j f (getR xs r).right.toNat (p + ls.getD (getR xs r).left.toNat 0)
def piecesL (xs : List GRule) (ls : List Int) (i j : Int) : List Nat := if 0 < xs.length ∧ i < j then coverR xs ls i j xs.length (xs.length - 1) 0 else []
theorem lens_steps {xs : List GRule} {ls : List Int} (h : lens xs = some ls) : ∀ (k : Nat) r, xs[k]? = some r → okRule k r = true ∧ ls.getD k 0 = ruleLen ls r := by
  suffices H : ∀ (ys : List GRule) (a o : List Int), ys.foldl lensStep (some a) = some o → (∃ t, o = a ++ t) ∧ ∀ (k : Nat) r, ys[k]? = some r → okRule (a.length + k) r = true ∧ o.getD (a.length + k) 0 = ruleLen o r by
    intro k r hr
    have := (H xs [] ls h).2 k r hr
    simpa using this
  intro ys
  induction ys with
  | nil => intro a o h; simp at h; subst h; exact ⟨⟨[], by simp⟩, fun k r hr => by simp at hr⟩
  | cons x ys ih =>
    intro a o h
    simp only [List.foldl_cons, lensStep, Option.bind_some] at h
    split at h
    · rename_i hc
      obtain ⟨⟨t, ht⟩, h2⟩ := ih _ _ h
      subst ht
      refine ⟨⟨ruleLen a x :: t, by simp⟩, fun k r hr => ?_⟩
      cases k with
      | zero =>
        simp at hr
        subst hr
        refine ⟨by simpa using hc.1, ?_⟩
        have e : (a ++ [ruleLen a x] ++ t).getD (a.length + 0) 0 = ruleLen a x := by
          rw [List.getD_eq_getElem?_getD, List.getElem?_append_left (by simp), List.getElem?_append_right (by omega)]
          simp
        rw [e]
        unfold ruleLen
        split
        · rename_i hp
          have hok := hc.1
          simp only [okRule, hp, if_true, Bool.and_eq_true, decide_eq_true_eq] at hok
          rw [List.append_assoc]
          simp only [List.getD_eq_getElem?_getD]
          rw [List.getElem?_append_left (by omega), List.getElem?_append_left (by omega)]
        · rfl
      | succ k =>
        have := h2 k r (by simpa using hr)
        simp only [List.length_append, List.length_cons, List.length_nil] at this
        rw [show a.length + (k + 1) = a.length + (0 + 1) + k by omega]
        exact this
    · rw [lens_none] at h; cases h
theorem getR_at {xs : List GRule} {r : Nat} (h : r < xs.length) : xs[r]? = some (getR xs r) := by
  unfold getR; rw [List.getD_eq_getElem?_getD, List.getElem?_eq_getElem h]; rfl
theorem lens_pos' {xs : List GRule} {ls : List Int} (h : lens xs = some ls) {r : Nat} (hr : r < xs.length) : 1 ≤ ls.getD r 0 ∧ ls.getD r 0 ≤ 1000000000000000 := by
  have hl := lens_length h
  have := lens_pos h ls[r] (List.getElem_mem (by omega))
  rw [List.getD_eq_getElem?_getD, List.getElem?_eq_getElem (by omega)]; exact this
theorem lens_pair {xs : List GRule} {ls : List Int} (h : lens xs = some ls) {r : Nat} (hr : r < xs.length) (hp : (getR xs r).pair = true) :
    0 ≤ (getR xs r).left ∧ (getR xs r).left.toNat < r ∧ 0 ≤ (getR xs r).right ∧ (getR xs r).right.toNat < r ∧ ls.getD r 0 = ls.getD (getR xs r).left.toNat 0 + ls.getD (getR xs r).right.toNat 0 := by
  obtain ⟨h1, h2⟩ := lens_steps h r _ (getR_at hr)
  simp only [okRule, hp, if_true, Bool.and_eq_true, decide_eq_true_eq] at h1
  simp only [ruleLen, hp, if_true] at h2
  exact ⟨h1.1.1.1, by omega, h1.1.2, by omega, h2⟩
theorem lens_letter {xs : List GRule} {ls : List Int} (h : lens xs = some ls) {r : Nat} (hr : r < xs.length) (hp : (getR xs r).pair = false) : ls.getD r 0 = 1 := by
  obtain ⟨h1, h2⟩ := lens_steps h r _ (getR_at hr)
  simpa [ruleLen, hp] using h2
section
variable {σ : Type}
def NoB (o : Obj) : Prop := ∀ c fz, o ≠ .cells c 5 fz
theorem NoB.cells {c : Array Value} {t : TypeId} {fz : Nat × Nat} (h : t ≠ 5) : NoB (.cells c t fz) := fun _ _ e => by
  injection e with _ h2 _; exact h h2
def NewNoB (a : Nat) (w : World) : Prop := ∀ k, a ≤ k → ∀ c fz, w.heap[k]? ≠ some (.cells c 5 fz)
theorem NewNoB.same (w : World) : NewNoB w.heap.size w := fun k hk c fz e => by
  have := (Array.getElem?_eq_some_iff.1 e).1
  omega
theorem NewNoB.alloc {a : Nat} {w : World} (h : NewNoB a w) {o : Obj} (ho : NoB o) : NewNoB a (w.alloc o) := fun k hk c fz e => by
  have hl := (Array.getElem?_eq_some_iff.1 e).1
  rcases Nat.lt_or_ge k w.heap.size with h1 | h1
  · rw [Below.heap_alloc _ _ _ h1] at e
    exact h k hk c fz e
  · have : k = w.heap.size := by simp at hl; omega
    subst this
    rw [heap_alloc_new] at e
    exact ho c fz (Option.some.inj e)
def Runs (step : σ → Nat → σ) (Ok : σ → Nat → Prop) (s : σ) (l : List Nat) : Prop := ∀ l1 r l2, l = l1 ++ r :: l2 → Ok (l1.foldl step s) r
theorem Runs.one {step : σ → Nat → σ} {Ok : σ → Nat → Prop} {s : σ} {r : Nat} (h : Runs step Ok s [r]) : Ok s r := h [] r [] rfl
theorem Runs.left {step : σ → Nat → σ} {Ok : σ → Nat → Prop} {s : σ} {a b : List Nat} (h : Runs step Ok s (a ++ b)) : Runs step Ok s a := fun l1 r l2 e => h l1 r (l2 ++ b) (by rw [e]; simp)
theorem Runs.right {step : σ → Nat → σ} {Ok : σ → Nat → Prop} {s : σ} {a b : List Nat} (h : Runs step Ok s (a ++ b)) : Runs step Ok (a.foldl step s) b := fun l1 r l2 e => by
  have := h (a ++ l1) r l2 (by rw [e]; simp)
  rwa [List.foldl_append] at this
theorem Runs.all {step : σ → Nat → σ} {Ok : σ → Nat → Prop} {s : σ} {l : List Nat} (h : ∀ s r, Ok s r) : Runs step Ok s l := fun _ _ _ _ => h _ _
def TakePost (J : (Nat → Prop) → σ → World → Prop) (C : Nat → Prop) (s' : σ) (w : World) (e : Ending) (w' : World) : Prop :=
  e = .returned (.tuple #[]) ∧ ∃ C', (∀ b, C b → C' b) ∧ (∀ b, C' b → b < w'.heap.size) ∧ J C' s' w' ∧ Wk C w w'
structure PSet (w : World) (C : Nat → Prop) (bl bi bj bw bg bt : Nat) (vL vW vR : Value) (i j : Int) (ls : List Int) (xs : List GRule) : Prop where
  cl : w.cell? ⟨bl, 0, none⟩ = some vL
  ci : w.cell? ⟨bi, 0, none⟩ = some (.int .i64 i)
  cj : w.cell? ⟨bj, 0, none⟩ = some (.int .i64 j)
  cw : w.cell? ⟨bw, 0, none⟩ = some vW
  cg : w.cell? ⟨bg, 0, none⟩ = some vR
  ct : w.cell? ⟨bt, 0, none⟩ = some (.func (.func 70) #[] #[.pointer (some ⟨bl, 0, none⟩), .pointer (some ⟨bi, 0, none⟩), .pointer (some ⟨bj, 0, none⟩), .pointer (some ⟨bw, 0, none⟩), .pointer (some ⟨bg, 0, none⟩), .pointer (some ⟨bt, 0, none⟩)])
  ml : C bl
  mi : C bi
  mj : C bj
  mw : C bw
  mg : C bg
  mt : C bt
  sl : SlS IntE w C vL ls
  sr : SlS RuleE w C vR xs
  lt : ∀ b, C b → b < w.heap.size
theorem PSet.up {w w' : World} {C C' : Nat → Prop} {bl bi bj bw bg bt : Nat} {vL vW vR : Value} {i j : Int} {ls : List Int} {xs : List GRule} (h : PSet w C bl bi bj bw bg bt vL vW vR i j ls xs)
    (hw : Wk C w w') (hs : ∀ b, C b → C' b) (hl : ∀ b, C' b → b < w'.heap.size) : PSet w' C' bl bi bj bw bg bt vL vW vR i j ls xs :=
  ⟨hw.cell h.ml h.cl, hw.cell h.mi h.ci, hw.cell h.mj h.cj, hw.cell h.mw h.cw, hw.cell h.mg h.cg, hw.cell h.mt h.ct, hs _ h.ml, hs _ h.mi, hs _ h.mj, hs _ h.mw, hs _ h.mg, hs _ h.mt,
    (h.sl.keep hw.keep).more hs, (h.sr.keep hw.keep).more hs, hl⟩
def ext (C : Nat → Prop) (a b : Nat) : Nat → Prop := fun k => C k ∨ (a ≤ k ∧ k < b)
set_option maxRecDepth 100000 in
set_option maxHeartbeats 2000000 in
theorem take_any (J : (Nat → Prop) → σ → World → Prop) (step : σ → Nat → σ) (Ok : σ → Nat → Prop) (F : FuncId) (cap : Array Value) (xs : List GRule) (ls : List Int) (i j : Int) (hlens : lens xs = some ls) 
    (eg : ∀ args w, (callFunc F args).run Tryd.prog w = .ok (.enter F args) w)
    (hext : ∀ C s w w', J C s w → Below w.heap.size w w' → NewNoB w.heap.size w' → (∀ b, C b → b < w.heap.size) → J (ext C w.heap.size w'.heap.size) s w')
    (hwith : ∀ C s (r : Nat) (w : World), J C s w → Ok s r → r < xs.length → (∀ b, C b → b < w.heap.size) → Calls Tryd.prog F (#[.int .i64 r] ++ cap) w (TakePost J C (step s r) w))
    (bl bi bj bw bg bt : Nat) (vL vR : Value) (f : Nat) :
    ∀ (r : Nat) (p : Int) (s : σ) (C : Nat → Prop) (w : World), r < f → r < xs.length → 0 ≤ p → p + ls.getD r 0 ≤ 1000000000000000 → J C s w → Runs step Ok s (coverR xs ls i j f r p) →
      PSet w C bl bi bj bw bg bt vL (.func (.func F) #[] cap) vR i j ls xs →
      Calls Tryd.prog 70 #[.int .i64 r, .int .i64 p, .pointer (some ⟨bl, 0, none⟩), .pointer (some ⟨bi, 0, none⟩), .pointer (some ⟨bj, 0, none⟩), .pointer (some ⟨bw, 0, none⟩), .pointer (some ⟨bg, 0, none⟩), .pointer (some ⟨bt, 0, none⟩)] w
        (TakePost J C ((coverR xs ls i j f r p).foldl step s) w) := by
  induction f with
  | zero => intro r p s C w h; omega
  | succ f ih =>
    intro r p s C w hf hr hp0 hp1 hJ hRu hS
    have Ih := Lib.hid ih
    have HRu := Lib.hid hRu
    clear hRu
    have Hw := Lib.hid hwith
    have He := Lib.hid hext
    have HJ := Lib.hid hJ
    have HS := Lib.hid hS
    clear ih hwith hext hJ
    have hcl := hS.cl
    have hci := hS.ci
    have hcj := hS.cj
    have hcw := hS.cw
    have hll := lens_length hlens
    obtain ⟨AL, cL, rfl, _, _, hrowL⟩ := hS.sl
    obtain ⟨b1, o1, rfl, hb1, hcellL⟩ := hrowL.int (k := r) (by omega)
    have hcr := hcellL r (by omega)
    have hri : (r : Int) < (ls.length : Int) := by omega
    have hpos := lens_pos' hlens hr
    have Hxy : Hid (∀ y, ls.getD r 0 = y → coverR xs ls i j (f + 1) r p = if p + y ≤ i ∨ j ≤ p then [] else if i ≤ p ∧ p + y ≤ j then [r] else
      coverR xs ls i j f (getR xs r).left.toNat p ++ coverR xs ls i j f (getR xs r).right.toNat (p + ls.getD (getR xs r).left.toNat 0)) := by rintro y rfl; rfl
    have Hll := Lib.hid hll
    have HcL := Lib.hid hcellL
    have Hb1 := Lib.hid hb1
    clear hcellL hll
    obtain ⟨n, hn⟩ : ∃ n, ls.getD r 0 = n := ⟨_, rfl⟩
    rw [hn] at hcr hpos hp1
    have Hn := Lib.hid hn
    have hcov := Hxy.out n hn
    have Hcov := Lib.hid hcov
    rw [hcov] at HRu
    clear hn hcov
    have e144 : ∀ args w, (callFunc 70 args).run Tryd.prog w = .ok (.enter 70 args) w := enters_of Tryd.func70 (by kernel_rfl) rfl
    by_cases c1 : p + n ≤ i
    · rw [if_pos (Or.inl c1)] at Hcov HRu
      go_enter Tryd.func70, Tryd.ntmps70
      go_wp2_with fail
      go_end0
      exact ⟨rfl, C, fun _ h => h, HS.out.lt, by rw [Hcov.out]; exact HJ.out, Wk.refl _ _⟩
    · by_cases c2 : j ≤ p
      · rw [if_pos (Or.inr c2)] at Hcov HRu
        go_enter Tryd.func70, Tryd.ntmps70
        go_wp2_with fail
        go_end0
        exact ⟨rfl, C, fun _ h => h, HS.out.lt, by rw [Hcov.out]; exact HJ.out, Wk.refl _ _⟩
      · rw [if_neg (by omega)] at Hcov HRu
        by_cases c34 : i ≤ p ∧ p + n ≤ j
        · rw [if_pos c34] at Hcov HRu
          obtain ⟨c3, c4⟩ := c34
          go_enter Tryd.func70, Tryd.ntmps70
          go_wp2_with fail
          refine (Hw.out C s r w HJ.out HRu.out.one hr HS.out.lt).mono ?_
          rintro e w2 ⟨rfl, C', h1, h2, h3, h4⟩
          go_wp2_with fail
          go_end0
          exact ⟨rfl, C', h1, h2, by rw [Hcov.out]; exact h3, h4⟩
        · rw [if_neg c34] at Hcov HRu
          have hpair : (getR xs r).pair = true := by
            by_cases hp : (getR xs r).pair = true
            · exact hp
            · have := lens_letter hlens hr (by simpa using hp)
              have := Hn.out
              omega
          obtain ⟨hl0, hlr, hr0, hrr, hsum⟩ := lens_pair hlens hr hpair
          obtain ⟨AR, cR, rfl, _, _, hrowR⟩ := HS.out.sr
          obtain ⟨b2, o2, rfl, hb2, hcellR⟩ := hrowR.rule (k := r) hr
          obtain ⟨k0, k1, k2⟩ := hcellR r _ (getR_at hr)
          generalize hR : getR xs r = R at *
          obtain ⟨rs, rl, rr⟩ := R
          obtain ⟨l, rfl⟩ := Int.eq_ofNat_of_zero_le hl0
          obtain ⟨q, rfl⟩ := Int.eq_ofNat_of_zero_le hr0
          simp only [Int.toNat_natCast] at hlr hrr hsum Hcov HRu
          have hcg := HS.out.cg
          have hct := HS.out.ct
          have lbt : bt < w.heap.size := HS.out.lt _ HS.out.mt
          have hpl := lens_pos' hlens (r := l) (by omega)
          have hpq := lens_pos' hlens (r := q) (by omega)
          have hrx : (r : Int) < (xs.length : Int) := by omega
          have hll := Hll.out
          have hsn : n = ls.getD l 0 + ls.getD q 0 := by rw [← Hn.out]; exact hsum
          obtain ⟨m, hm⟩ : ∃ m, ls.getD l 0 = m := ⟨_, rfl⟩
          obtain ⟨m', hm'⟩ : ∃ m', ls.getD q 0 = m' := ⟨_, rfl⟩
          rw [hm] at hsn hpl
          rw [hm'] at hsn hpq
          rw [hm] at Hcov HRu
          have Hm := Lib.hid hm
          have Hm' := Lib.hid hm'
          have Hsn := Lib.hid hsn
          have hl3 : p + m ≤ 1000000000000000 := by omega
          have hq3 : p + m + m' ≤ 1000000000000000 := by omega
          have hq0 : 0 ≤ p + m := by omega
          have Hq0 := Lib.hid hq0
          have Hl3 := Lib.hid hl3
          have Hq3 := Lib.hid hq3
          have hBA : ∀ o, Below w.heap.size w (w.alloc o) := fun o => (Below.refl _ _).alloc (Nat.le_refl _) _
          have HBA := Lib.hid hBA
          have HS1 : ∀ o, PSet (w.alloc o) (ext C w.heap.size (w.alloc o).heap.size) bl bi bj bw bg bt (.slice (some ⟨b1, o1, none⟩) ls.length cL) (.func (.func F) #[] cap) (.slice (some ⟨b2, o2, none⟩) xs.length cR) i j ls xs := fun o =>
            HS.out.up (Wk.of_below (HBA.out o) HS.out.lt) (fun b h => Or.inl h) (fun b h => by rcases h with h | h; exact Nat.lt_of_lt_of_le (HS.out.lt b h) (HBA.out o).size; exact h.2)
          have HJ1 : ∀ o, NoB o → J (ext C w.heap.size (w.alloc o).heap.size) s (w.alloc o) := fun o ho => He.out C s w _ HJ.out (HBA.out o) ((NewNoB.same w).alloc ho) HS.out.lt
          have HSS1 := Lib.hid HS1
          have HJJ1 := Lib.hid HJ1
          have hlx : l < xs.length := by omega
          have hqx : q < xs.length := by omega
          have hlf : l < f := by omega
          have hqf : q < f := by omega
          have Hpair := Lib.hid hpair
          have HR := Lib.hid hR
          have hc34 : (i ≤ p ∧ ¬ p + n ≤ j) ∨ ¬ i ≤ p := by omega
          clear hm hm' hpair hcellR hsum hR hrowL hrowR hb1 hb2 hBA HS1 HJ1 hsn c34
          rcases hc34 with ⟨c3, c4⟩ | c3
          all_goals
            go_enter Tryd.func70, Tryd.ntmps70
            go_wp2_with fail
            refine (Ih.out l p s _ _ hlf hlx hp0 (by rw [Hm.out]; exact Hl3.out) (HJJ1.out _ (NoB.cells (by decide))) HRu.out.left (HSS1.out _)).mono ?_
            rintro e w2 ⟨rfl, C2, g1, g2, g3, g4⟩
            have hbx0 : w2.cell? ⟨w.heap.size, 0, none⟩ = some (.string rs) := g4.cell (Or.inr (by simp)) (by simp [go_sem])
            have hbx1 : w2.cell? ⟨w.heap.size, 1, none⟩ = some (.int .i64 l) := g4.cell (Or.inr (by simp)) (by simp [go_sem])
            have hbx2 : w2.cell? ⟨w.heap.size, 2, none⟩ = some (.int .i64 q) := g4.cell (Or.inr (by simp)) (by simp [go_sem])
            have S2 := Lib.hid ((HSS1.out _).up g4 g1 g2)
            have hcl2 := S2.out.cl
            have hct2 := S2.out.ct
            have hcq : w2.cell? ⟨b1, o1 + l, none⟩ = some (.int .i64 m) := g4.cell (Or.inl Hb1.out) (((HBA.out _).cell (p := ⟨b1, o1 + l, none⟩) (HS.out.lt _ Hb1.out)).trans (by rw [HcL.out l (by have := Hll.out; omega), Hm.out]))
            have hli : (l : Int) < (ls.length : Int) := by have := Hll.out; omega
            go_wp2_with fail
            go_still_tail 10, (by kernel_rfl)
            change wpList _ _ _ _ _ w2.drew
            have HB3 := Lib.hid (Below.drew (Below.refl w2.heap.size w2))
            have HJ3 := Lib.hid (He.out C2 _ w2 _ g3 HB3.out (NewNoB.same w2) g2)
            have S3 := Lib.hid (S2.out.up (Wk.of_below HB3.out g2) (C' := ext C2 w2.heap.size w2.drew.heap.size) (fun b h => Or.inl h) (fun b h => by rcases h with h | h; exact g2 b h; exact h.2))
            have W2 := Lib.hid (((Wk.of_below (HBA.out _) HS.out.lt).trans (g4.mono (C' := C) fun b h => Or.inl h)).trans (Wk.of_below HB3.out (fun b h => g2 _ (g1 _ (Or.inl h)))))
            generalize w2.drew = w3 at *
            go_wp2_with fail
            refine (Ih.out q (p + m) _ _ _ hqf hqx Hq0.out (by rw [Hm'.out]; exact Hq3.out) HJ3.out HRu.out.right S3.out).mono ?_
            rintro e w4 ⟨rfl, C4, k1, k2, k3, k4⟩
            go_wp2_with fail
            go_end0
            refine ⟨rfl, C4, fun b h => k1 _ (Or.inl (g1 _ (Or.inl h))), k2, ?_, ?_⟩
            · rw [Hcov.out, List.foldl_append]; exact k3
            · exact W2.out.trans (k4.mono fun b h => Or.inl (g1 _ (Or.inl h)))
end
theorem push_rule {W : World} {ops : Array Oper} {rest : List Oper} {o : Oper} {a : Act} {Q : Exit → Act → World → Prop} (hgd : o.guard = none) (s x : Operand)
    (ho : o.op = .call { callee := .builtin .append, args := #[s, x], argTypes := #[24, 24] }) {t : ByteArray} {p q : Int} {base : Nat} {v : Value} {l : List GRule}
    (hs : a.eval s = v) {N : Nat} (hx : a.eval x = .slice (some ⟨N, 0, none⟩) 1 1) (hN : N = W.heap.size) (hown : OwnRules W base v l) (hlen : l.length ≤ 1099511627776) (hbase : base ≤ W.heap.size)
    (h : ∀ v' w', OwnRules w' base v' (l ++ [⟨t, p, q⟩]) → (W.alloc (.cells #[.string t, .int .i64 p, .int .i64 q] 42)).grownBy w' v.ownBlock → Below base W w' → wpList Tryd.prog ops Q rest (a.put o.dst v') w') :
    wpList Tryd.prog ops Q (o :: rest) a (W.alloc (.cells #[.string t, .int .i64 p, .int .i64 q] 42)) :=
  push_rules (y := ⟨t, p, q⟩) hgd s x ho hs hx hN hown hlen hbase h
def GRes (out : List GRule) (code : Int) (w : World) (e : Ending) (w' : World) : Prop :=
  Below w.heap.size w w' ∧ ∃ v', OwnRules w' w.heap.size v' out ∧ e = .returned (.tuple #[.agg #[v'], .int .i64 code])
theorem SlS.dr {α : Type} {E : Enc α} {w : World} {v : Value} {xs : List α} (h : Sl E w w.heap.size v xs) : Sl E w.drew w.drew.heap.size v xs := h.keep fun _ _ => rfl
theorem keepD {wr W W2 : World} {N : Nat} {p q : Addr} {v u : Value} (h : Below N wr W ∧ W.cell? p = some v ∧ W.cell? q = some u) (h2 : Below W.heap.size W W2) (hN : N ≤ wr.heap.size) (hp : p.block < wr.heap.size) (hq : q.block < wr.heap.size) :
    Below N wr W2 ∧ W2.cell? p = some v ∧ W2.cell? q = some u :=
  ⟨h.1.trans (h2.mono (Nat.le_trans hN h.1.size)), (h2.cell (Nat.lt_of_lt_of_le hp h.1.size)).trans h.2.1, (h2.cell (Nat.lt_of_lt_of_le hq h.1.size)).trans h.2.2⟩
theorem keepE {wr W W2 : World} {N : Nat} {p q : Addr} {v u : Value} (h : Below N wr W ∧ W.cell? p = some v ∧ W.cell? q = some u) (h2 : Below N W W2) (hp : p.block < N) (hq : q.block < N) :
    Below N wr W2 ∧ W2.cell? p = some v ∧ W2.cell? q = some u :=
  ⟨h.1.trans h2, (h2.cell hp).trans h.2.1, (h2.cell hq).trans h.2.2⟩
theorem step_append_rules {W : World} {ops : Array Oper} {o : Oper} {a : Act} {K : Act → World → Prop} {Q : Exit → Act → World → Prop} {E : Prop} (hgd : o.guard = none) (s x : Operand)
    (ho : o.op = .call { callee := .builtin .append, args := #[s, x], argTypes := #[24, 24] }) {ys : List GRule} {base : Nat} {v sv : Value} {l : List GRule} {S : Nat → Prop}
    (hs : a.eval s = v) (hx : a.eval x = sv) (hown : OwnRules W base v l) (hsl : SlS RuleE W S sv ys) (hlen : l.length + ys.length ≤ 1099511627776) (hbase : base ≤ W.heap.size)
    (h : ∀ v' w', OwnRules w' base v' (l ++ ys) → W.grownBy w' v.ownBlock → Below base W w' → K (a.put o.dst v') w') :
    if Region.wanted o (yielded ops a.tmps) = true then Oper.wp Tryd.prog o a W K Q else E := by
  have hw : Region.wanted o (yielded ops a.tmps) = true := by simp [Region.wanted, hgd]
  rw [if_pos hw]
  obtain ⟨i0, hi0, hz0, hz1, hz2⟩ := info_parts Tryd.infoR
  obtain ⟨A, c, rfl, hc, hm, hrow⟩ := hsl
  have H : ∃ v' w', (Builtin.append_ #[24, 24] o.type #[v, .slice A ys.length c]).run Tryd.prog W = .ok v' w' ∧ OwnRules w' base v' (l ++ ys) ∧ W.grownBy w' v.ownBlock := by
    rcases A with _ | ad
    · have h0 : ys = [] := by
        rcases Nat.eq_zero_or_pos ys.length with h0 | h0
        · exact List.eq_nil_of_length_eq_zero h0
        · obtain ⟨b, o, h, _⟩ := hrow h0; cases h
      subst h0
      exact ⟨v, W, run_append_of_nil W base _ _ 42 i0 3 Tryd.underlying24 hi0 v _ _ hown c, by simpa using hown, World.grownBy.refl W _⟩
    · obtain ⟨v', w', hrun, h2, h3, _⟩ := run_append_own_at (P := Tryd.prog) W base 24 o.type 42 i0 _ 3 32 Tryd.underlying24 hi0 hz0 hz1 hz2 rfl (by decide) v _ _ hown ad ys.length c (ys.flatMap GRule.cells)
        (cells_len ys) (rules_cells hrow) (rules_one ys) (by simp only [maxLen]; omega) (by omega) hbase
      exact ⟨v', w', hrun, by unfold OwnRules; simpa using h2, h3⟩
  obtain ⟨v', w', hrun, h2, h3⟩ := H
  unfold Oper.wp execOp
  simp only [ho, resolve, invoke, builtin, Sem.run_bind, Sem.run_pure, Result.andThen_ok, List.map_toArray, List.map_cons, List.map_nil, hs, hx, hrun]
  exact h v' w' h2 h3 ((Below.refl base W).grown h3 hbase (fun k hk => (World.ownsRow.lt hown k hk).1))
def raiseR (n : Nat) (r : GRule) : GRule := if r.pair then { letter := r.letter, left := r.left + n, right := r.right + n } else r
def SmallP (rs : List GRule) : Prop := ∀ r ∈ rs, r.pair = true → -1099511627776 ≤ r.left ∧ r.left ≤ 1099511627776 ∧ -1099511627776 ≤ r.right ∧ r.right ≤ 1099511627776
theorem raised_any (v : Value) (xs : List GRule) (n : Nat) (w : World) (h : Sl RuleE w w.heap.size v xs) (hl : xs.length ≤ 1099511627776) (hn : n ≤ 1099511627776) (hp : SmallP xs) :
    Calls Tryd.prog 59 #[v, .int .i64 n] w fun e w' => ∃ v', e = .returned v' ∧ OwnRules w' w.heap.size v' (xs.map (raiseR n)) ∧ Below w.heap.size w w' := by
  obtain ⟨A, c, rfl, hc, hm, hrow⟩ := h
  have Hp := Lib.hid hp
  clear hm hp
  go_enter Tryd.func59, Tryd.ntmps59
  go_wp2_with fail
  go_loopw [5, 11] (fun out i wr => ∃ (k : Nat), k ≤ xs.length ∧ i = .int .i64 k ∧ Below w.heap.size w wr ∧ OwnRules wr w.heap.size out ((xs.take k).map (raiseR n))) (fun _ i _ => xs.length - (intOf i).toNat)
  case atStart => exact ⟨0, Nat.zero_le _, rfl, (Below.refl _ _).alloc (Nat.le_refl _) _, OwnRules.empty rfl (Nat.le_refl _)⟩
  case round =>
    obtain ⟨k, hk, rfl, hb, hown⟩ := hrel
    by_cases hlt : k < xs.length
    · obtain ⟨b, o, rfl, hbl, hcell⟩ := hrow.rule hlt
      obtain ⟨r, hr⟩ : ∃ x, xs[k]? = some x := ⟨_, List.getElem?_eq_getElem hlt⟩
      obtain ⟨g0, g1, g2⟩ := hcell k r hr
      have hc0 := (hb.cell (p := ⟨b, o + k * 3, none⟩) hbl).trans g0
      have hc1 := (hb.cell (p := ⟨b, o + k * 3 + 1, none⟩) hbl).trans g1
      have hc2 := (hb.cell (p := ⟨b, o + k * 3 + 2, none⟩) hbl).trans g2
      have hsz : w.heap.size ≤ wr.heap.size := hb.size
      have Hnext : Hid ((xs.take (k + 1)).map (raiseR n) = (xs.take k).map (raiseR n) ++ [raiseR n r]) := by rw [Hid, List.take_add_one, hr, List.map_append]; rfl
      have hlen : ((xs.take k).map (raiseR n)).length ≤ 1099511627776 := by simp; omega
      have Hr := Lib.hid hr
      have Hown := Lib.hid hown
      clear hcell g0 g1 g2 hr hown
      by_cases hpr : r.pair = true
      · have hbd := Hp.out r (List.mem_of_getElem? Hr.out) hpr
        have hemp : r.letter.toList.isEmpty = true := by rw [isEmpty_size]; exact hpr
        have Hrr : Hid (raiseR n r = { letter := r.letter, left := r.left + n, right := r.right + n }) := by rw [Hid, raiseR, if_pos hpr]
        clear hpr
        go_wp2_with (first
          | (go_at_call 50; refine (isPair_any _ _ _ _).mono ?_; rintro e w' ⟨rfl, rfl⟩)
          | (at_builtin; go_must (refine push_rule rfl _ _ rfl rfl rfl (by simp) (by repeat (first | exact Hown.out | apply OwnInts.alloc | apply OwnInts.drewN | apply OwnRules.alloc | apply OwnRules.drewN)) hlen (by first | omega | (simp; done) | (simp; omega)) ?_); intro v' w1 hown1 hgrow hbw))
        go_roundw
        case rel => exact ⟨k + 1, by omega, by go_num, Below.trans (by repeat (first | exact hb | (refine Below.alloc ?_ (by first | omega | (simp; done) | (simp; omega)) _) | refine below_drewN ?_ _ | refine Below.drew ?_)) hbw, by rw [Hnext.out, Hrr.out]; exact hown1⟩
        case measure => simp [intOf]; omega
      · have hemp : r.letter.toList.isEmpty = false := by rw [isEmpty_size]; simpa [GRule.pair] using hpr
        have Hrr : Hid (raiseR n r = r) := by rw [Hid, raiseR, if_neg hpr]
        clear hpr
        go_wp2_with (first
          | (go_at_call 50; refine (isPair_any _ _ _ _).mono ?_; rintro e w' ⟨rfl, rfl⟩)
          | (at_builtin; go_must (refine push_rule rfl _ _ rfl rfl rfl (by simp) (by repeat (first | exact Hown.out | apply OwnInts.alloc | apply OwnInts.drewN | apply OwnRules.alloc | apply OwnRules.drewN)) hlen (by first | omega | (simp; done) | (simp; omega)) ?_); intro v' w1 hown1 hgrow hbw))
        go_roundw
        case rel => exact ⟨k + 1, by omega, by go_num, Below.trans (by repeat (first | exact hb | (refine Below.alloc ?_ (by first | omega | (simp; done) | (simp; omega)) _) | refine below_drewN ?_ _ | refine Below.drew ?_)) hbw, by rw [Hnext.out, Hrr.out]; exact hown1⟩
        case measure => simp [intOf]; omega
    · have hkn : k = xs.length := by omega
      subst hkn
      have Hown2 := Lib.hid hown
      clear hown
      go_wp2
      go_ret
      exact ⟨_, rfl, by have := Hown2.out; rw [List.take_length] at this; exact this, hb⟩
theorem pairInt_any (a b : Int) (w : World) :
    Calls Tryd.prog 48 #[.int .i64 a, .int .i64 b] w fun e w' => e = .returned (.agg #[.string ⟨#[]⟩, .int .i64 a, .int .i64 b]) ∧ Below w.heap.size w w' := by
  go_enter Tryd.func48, Tryd.ntmps48
  go_wp2
  exact bodyPost_ret (v := .agg #[.string ⟨#[]⟩, .int .i64 a, .int .i64 b]) (by simp [results, Tryd.results48, go_sem]) rfl ⟨rfl, (by repeat (first | exact (Below.refl _ _) | (refine Below.alloc ?_ (by first | omega | (simp; done) | (simp; omega)) _) | refine below_drewN ?_ _ | refine Below.drew ?_))⟩
def pairR (a b : Int) : GRule := { letter := ⟨#[]⟩, left := a, right := b }
def joinG (xs ys : List GRule) : List GRule :=
  if xs.length = 0 then ys else if ys.length = 0 then xs else xs ++ ys.map (raiseR xs.length) ++ [pairR ((xs.length : Int) - 1) ((xs.length : Int) + ys.length - 1)]
def GOwn (out : List GRule) (w : World) (e : Ending) (w' : World) : Prop :=
  Below w.heap.size w w' ∧ ∃ v', OwnRules w' w.heap.size v' out ∧ e = .returned (.agg #[v'])
set_option maxRecDepth 100000 in
set_option maxHeartbeats 4000000 in
theorem join_any (v u : Value) (xs ys : List GRule) (w : World) (h : Sl RuleE w w.heap.size v xs) (h' : Sl RuleE w w.heap.size u ys) (hn : xs.length ≤ 1048576) (hn' : ys.length ≤ 1048576) (hp : SmallP ys) :
    Calls Tryd.prog 35 #[.agg #[v], .agg #[u]] w (GOwn (joinG xs ys) w) := by
  have h1 := fun o o' o'' => (h.below ((((Below.refl w.heap.size w).alloc (Nat.le_refl _) o).alloc (by simp) o').alloc (by first | omega | (simp; done) | (simp; omega)) o'')).le (B' := (((w.alloc o).alloc o').alloc o'').heap.size) (by simp; omega)
  have h2 := fun o o' o'' => (h'.below ((((Below.refl w.heap.size w).alloc (Nat.le_refl _) o).alloc (by simp) o').alloc (by first | omega | (simp; done) | (simp; omega)) o'')).le (B' := (((w.alloc o).alloc o').alloc o'').heap.size) (by simp; omega)
  have hB := fun o o' o'' => (((Below.refl w.heap.size w).alloc (Nat.le_refl _) o).alloc (by simp) o').alloc (by first | omega | (simp; done) | (simp; omega)) o''
  have H1 := Lib.hid h1
  have H2 := Lib.hid h2
  have HB := Lib.hid hB
  clear h1 h2 hB
  obtain ⟨A, c, rfl, hc, hm, hrow⟩ := h
  obtain ⟨A', c', rfl, hc', hm', hrow'⟩ := h'
  clear hm hm' hrow hrow'
  by_cases h0 : xs.length = 0
  · have hj : joinG xs ys = ys := by rw [joinG, if_pos h0]
    have Hj := Lib.hid hj
    have hb0 : ((xs.length : Int) == 0) = true := by simp [h0]
    have H0 := Lib.hid h0
    clear hj h0
    go_enter Tryd.func35, Tryd.ntmps35
    go_wp2_with fail
    refine (copied_any _ _ _ (H2.out _ _ _) (by omega)).mono ?_
    rintro e w1 ⟨v1, rfl, own1, hb1⟩
    obtain ⟨A1, c1, rfl, _⟩ := own_nil own1
    obtain ⟨hc1, hf1⟩ := bcell hb1
    have hz1 : w.heap.size + 3 ≤ w1.heap.size := by have := hb1.size; simp at this; omega
    have Hown := Lib.hid own1
    have Hb1 := Lib.hid hb1
    clear own1 hb1
    go_wp2
    refine bodyPost_ret (v := .agg #[.slice A1 ys.length c1]) (by simp [results, Tryd.results35, go_sem, hc1]) rfl ⟨?_, _, ?_, rfl⟩
    · exact (((((Below.refl _ _).alloc (Nat.le_refl _) _).alloc (by simp) _).alloc (by simp; omega) _).trans (Hb1.out.mono (by simp; omega))).setCell (by show w.heap.size ≤ w.heap.size + 1 + 1; omega) _
    · rw [Hj.out]
      have h4 : w1.ownsRow (w.heap.size + 3) 42 3 (.slice A1 ys.length c1) ys.length (ys.flatMap GRule.cells) := ownsRow_more Hown.out (by simp)
      exact ownsRow_more (ownsRow_setCell_below h4 (by show w.heap.size + 1 + 1 < w.heap.size + 3; omega) _) (by omega)
  · have hb0 : ((xs.length : Int) == 0) = false := by rw [beq_eq_false_iff_ne]; omega
    by_cases h0' : ys.length = 0
    · have hj : joinG xs ys = xs := by rw [joinG, if_neg h0, if_pos h0']
      have Hj := Lib.hid hj
      have hb0' : ((ys.length : Int) == 0) = true := by simp [h0']
      have H0 := Lib.hid h0
      have H0' := Lib.hid h0'
      clear hj h0 h0'
      go_enter Tryd.func35, Tryd.ntmps35
      go_wp2_with fail
      refine (copied_any _ _ _ (H1.out _ _ _) (by omega)).mono ?_
      rintro e w1 ⟨v1, rfl, own1, hb1⟩
      obtain ⟨A1, c1, rfl, _⟩ := own_nil own1
      obtain ⟨hc1, hf1⟩ := bcell hb1
      have hz1 : w.heap.size + 3 ≤ w1.heap.size := by have := hb1.size; simp at this; omega
      have Hown := Lib.hid own1
      have Hb1 := Lib.hid hb1
      clear own1 hb1
      go_wp2
      refine bodyPost_ret (v := .agg #[.slice A1 xs.length c1]) (by simp [results, Tryd.results35, go_sem, hc1]) rfl ⟨?_, _, ?_, rfl⟩
      · exact (((((Below.refl _ _).alloc (Nat.le_refl _) _).alloc (by simp) _).alloc (by simp; omega) _).trans (Hb1.out.mono (by simp; omega))).setCell (by show w.heap.size ≤ w.heap.size + 1 + 1; omega) _
      · rw [Hj.out]
        have h4 : w1.ownsRow (w.heap.size + 3) 42 3 (.slice A1 xs.length c1) xs.length (xs.flatMap GRule.cells) := ownsRow_more Hown.out (by simp)
        exact ownsRow_more (ownsRow_setCell_below h4 (by show w.heap.size + 1 + 1 < w.heap.size + 3; omega) _) (by omega)
    · have hb0' : ((ys.length : Int) == 0) = false := by rw [beq_eq_false_iff_ne]; omega
      have hj : joinG xs ys = xs ++ ys.map (raiseR xs.length) ++ [pairR ((xs.length : Int) - 1) ((xs.length : Int) + ys.length - 1)] := by rw [joinG, if_neg h0, if_neg h0']
      have Hj := Lib.hid hj
      have hx1 : 1 ≤ xs.length := by omega
      have hy1 : 1 ≤ ys.length := by omega
      have Hp := Lib.hid hp
      clear hj h0 h0' hp
      go_enter Tryd.func35, Tryd.ntmps35
      go_wp2_with fail
      go_region_held3 (fun w' => Below (w.heap.size + 3) (((w.alloc (Obj.cells #[Value.slice A xs.length c] 26)).alloc (Obj.cells #[Value.slice A' ys.length c'] 26)).alloc (Obj.cells #[Value.slice none 0 0] 26)) w' ∧ w'.cell? ⟨w.heap.size, 0, none⟩ = some (.slice A xs.length c) ∧ w'.cell? ⟨w.heap.size + 1, 0, none⟩ = some (.slice A' ys.length c'))
        (first | exact ⟨(Below.refl _ _).drew, by simp [go_sem], by simp [go_sem]⟩ | exact keepD (by assumption) hb1 (by simp) (by first | omega | (simp; done) | (simp; omega)) (by first | omega | (simp; done) | (simp; omega)) | exact keepD (by assumption) hb2 (by simp) (by first | omega | (simp; done) | (simp; omega)) (by first | omega | (simp; done) | (simp; omega)) | exact keepE (by assumption) hb3 (by first | omega | (simp; done) | (simp; omega)) (by first | omega | (simp; done) | (simp; omega)))
        (first
          | (go_at_call 58; refine (Clone_any _ _ _ (SlS.dr (H1.out _ _ _)) (by omega)).mono ?_; rintro e w1 ⟨v1, rfl, own1, hb1⟩)
          | (go_at_call 59; refine (raised_any _ _ xs.length _ (SlS.up (SlS.dr (H2.out _ _ _)) hb1) (by omega) (by omega) Hp.out).mono ?_; rintro e w2 ⟨v2, rfl, own2, hb2⟩)
          | (refine step_append_rules (base := w.heap.size + 3) (by rfl) _ _ (by rfl) (by rfl) (by rfl) (OwnRules.below (ownsRow_more own1 (by first | omega | (simp; done) | (simp; omega))) hb2) own2.sl (by simp; omega) (by have h1 := hb1.size; have h2 := hb2.size; simp at h1 h2; omega) ?_; intro v3 w3 own3 hg3 hb3))
      have z1 : w.heap.size + 3 ≤ w1.heap.size := by have h1 := hb1.size; simp at h1; omega
      have z2 : w1.heap.size ≤ w2.heap.size := hb2.size
      have z3 : w2.heap.size ≤ w3.heap.size := hb3.size
      have hb : Below (w.heap.size + 3) (((w.alloc (Obj.cells #[Value.slice A xs.length c] 26)).alloc (Obj.cells #[Value.slice A' ys.length c'] 26)).alloc (Obj.cells #[Value.slice none 0 0] 26)) w3 :=
        (Below.drew (Below.refl _ _)).trans ((hb1.mono (by show w.heap.size + 3 ≤ _; simp [World.drew])).trans ((hb2.mono (by omega)).trans hb3))
      obtain ⟨hc3, hf3⟩ := bcell hb
      have hcr : w3.cell? ⟨w.heap.size + 1 + 1, 0, none⟩ = some (.slice none 0 0) := by rw [hc3 _ _ (by omega)]; simp [go_sem]
      have hfr : w3.frozen? ⟨w.heap.size + 1 + 1, 0, none⟩ = false := by rw [hf3 _ _ (by omega)]; simp [go_sem]
      obtain ⟨L, hL⟩ : ∃ L, L = xs ++ ys.map (raiseR xs.length) := ⟨_, rfl⟩
      rw [← hL] at own3
      have hl3 : L.length ≤ 1099511627776 := by rw [hL]; simp; omega
      have HL := Lib.hid hL
      clear hL
      obtain ⟨A3, c3, rfl, _⟩ := own_nil own3
      have Hown3 := Lib.hid own3
      have Hb := Lib.hid hb
      have hz : w.heap.size + 1 + 1 < w3.heap.size := by omega
      clear own1 own2 own3 hb1 hb2 hb3 hg3 hc3 hf3 hb
      go_wp2_with fail
      refine (pairInt_any _ _ _).mono ?_
      rintro e w4 ⟨rfl, hb4⟩
      have hcr4 := cell_up hcr hb4 hz
      have hfr4 : w4.frozen? ⟨w.heap.size + 1 + 1, 0, none⟩ = false := by rw [hb4.frozen hz, hfr]
      have z4 : w3.heap.size ≤ w4.heap.size := hb4.size
      have Hown4 := Lib.hid (OwnRules.below Hown3.out hb4)
      have Hb4 := Lib.hid (Hb.out.trans (hb4.mono (by omega)))
      clear hcr hfr hb4
      go_wp2_with (at_builtin; go_must (refine push_rule (base := w.heap.size + 3) rfl _ _ rfl rfl rfl (by simp) Hown4.out hl3 (by omega) ?_); intro v5 w5 own5 hgrow hb5; obtain ⟨A5, c5, rfl, _⟩ := own_nil own5; obtain ⟨hc5, hf5⟩ := bcell hb5; have Hown5 := Lib.hid own5; have Hb5 := Lib.hid hb5; clear own5 hgrow hb5)
      have hll : L.length = xs.length + ys.length := by rw [HL.out]; simp
      refine bodyPost_ret (v := .agg #[.slice A5 (L.length + 1) c5]) (by simp [results, Tryd.results35, go_sem, hc5, hcr4]) rfl ⟨?_, _, ?_, rfl⟩
      · exact ((((((Below.refl _ _).alloc (Nat.le_refl _) _).alloc (by simp) _).alloc (by simp; omega) _).trans ((Hb4.out.trans Hb5.out).mono (by omega)))).setCell (by show w.heap.size ≤ w.heap.size + 1 + 1; omega) _
      · rw [Hj.out, ← HL.out]
        have e : pairR ((xs.length : Int) - 1) ((xs.length : Int) + ys.length - 1) = ⟨⟨#[]⟩, (xs.length : Int) - 1, (L.length : Int) - 1⟩ := by rw [pairR, hll]; simp
        rw [e]
        have h5 := Hown5.out
        rw [List.length_append] at h5
        have h6 := ownsRow_setCell_below (a := ⟨w.heap.size + 1 + 1, 0, none⟩) h5 (by show w.heap.size + 1 + 1 < w.heap.size + 3; omega) (.slice A5 (L.length + 1) c5)
        exact ownsRow_more h6 (by omega)
def trimR (same : List Int) (r : GRule) : GRule := if r.pair then pairR (same.getD r.left.toNat 0) (same.getD r.right.toNat 0) else r
def trimStep (p : List GRule × List Int) (r : GRule) : List GRule × List Int := (p.1 ++ [trimR p.2 r], p.2 ++ [((p.1.idxOf (trimR p.2 r) : Nat) : Int)])
def canon (xs : List GRule) : List GRule × List Int := xs.foldl trimStep ([], [])
def OkAll (xs : List GRule) : Prop := ∀ k r, xs[k]? = some r → okRule k r = true
def needStep (ks : List GRule) (l : List Bool) (i : Nat) : List Bool :=
  if l.getD i false && (getR ks i).pair then (l.set (getR ks i).left.toNat true).set (getR ks i).right.toNat true else l
def needDown (ks : List GRule) : Nat → List Bool → List Bool
  | 0, l => l
  | i + 1, l => needDown ks i (needStep ks l i)
def outStep (ks : List GRule) (need : List Bool) (p : List GRule × List Int) (i : Nat) : List GRule × List Int :=
  if need.getD i false then (p.1 ++ [trimR p.2 (getR ks i)], p.2.set i p.1.length) else p
def rootB (xs : List GRule) : List Bool := (List.replicate xs.length false).set ((canon xs).2.getD (xs.length - 1) 0).toNat true
def needL (xs : List GRule) : List Bool := needDown (canon xs).1 xs.length (rootB xs)
def trimO (xs : List GRule) (k : Nat) : List GRule × List Int := (List.range k).foldl (outStep (canon xs).1 (needL xs)) ([], List.replicate xs.length 0)
def trimG (xs : List GRule) : List GRule := (trimO xs xs.length).1
theorem trimR_pair {s : List Int} {r : GRule} (h : r.pair = true) : trimR s r = pairR (s.getD r.left.toNat 0) (s.getD r.right.toNat 0) := by rw [trimR, if_pos h]
theorem trimR_let {s : List Int} {r : GRule} (h : r.pair = false) : trimR s r = r := by rw [trimR, if_neg (by simp [h])]
theorem pairR_pair (a b : Int) : (pairR a b).pair = true := rfl
theorem canon_snoc {xs : List GRule} {k : Nat} {r : GRule} (h : xs[k]? = some r) : canon (xs.take (k + 1)) = trimStep (canon (xs.take k)) r := foldl_take_succ _ _ _ _ _ h
theorem okRule_pair {k : Nat} {a b : Int} (ha : 0 ≤ a ∧ a < k) (hb : 0 ≤ b ∧ b < k) : okRule k (pairR a b) = true := by
  unfold okRule
  rw [if_pos (pairR_pair a b)]
  show (decide (0 ≤ a) && decide (a ≤ (k : Int) - 1) && decide (0 ≤ b) && decide (b ≤ (k : Int) - 1)) = true
  rw [decide_eq_true ha.1, decide_eq_true (show a ≤ (k : Int) - 1 by omega), decide_eq_true hb.1, decide_eq_true (show b ≤ (k : Int) - 1 by omega)]; rfl
theorem okRule_at {k : Nat} {r : GRule} (h : okRule k r = true) (hp : r.pair = true) : 0 ≤ r.left ∧ r.left.toNat < k ∧ 0 ≤ r.right ∧ r.right.toNat < k := by
  unfold okRule at h
  rw [if_pos hp] at h
  simp at h; omega
theorem okRule_let {k : Nat} {r : GRule} (h : okRule k r = true) (hp : r.pair = false) : r.letter.size = 1 ∧ r.left = 0 ∧ r.right = 0 := by
  unfold okRule at h
  rw [if_neg (by simp [hp])] at h
  simp [isLet] at h
  exact ⟨h.1.1.1.1, h.1.2, h.2⟩
theorem okRule_small {k : Nat} {r : GRule} (h : okRule k r = true) : r.letter.size ≤ 1 := by
  cases hp : r.pair with
  | true => have : r.letter.size = 0 := by simpa [GRule.pair] using hp
            omega
  | false => have := (okRule_let h hp).1; omega
structure CanonOk (k : Nat) (p : List GRule × List Int) : Prop where
  l1 : p.1.length = k
  l2 : p.2.length = k
  low : ∀ i, i < k → 0 ≤ p.2.getD i 0 ∧ p.2.getD i 0 ≤ i
  idx : ∀ i, i < k → p.2.getD i 0 = ((p.1.idxOf (getR p.1 i) : Nat) : Int)
  ok : OkAll p.1
theorem getR_some {xs : List GRule} {k : Nat} {r : GRule} (h : xs[k]? = some r) : getR xs k = r := by
  unfold getR; rw [List.getD_eq_getElem?_getD, h]; rfl
theorem getR_append {xs ys : List GRule} {i : Nat} (h : i < xs.length) : getR (xs ++ ys) i = getR xs i := by
  unfold getR; rw [List.getD_eq_getElem?_getD, List.getD_eq_getElem?_getD, List.getElem?_append_left h]
theorem getR_last (xs : List GRule) (r : GRule) : getR (xs ++ [r]) xs.length = r := by
  unfold getR; simp
theorem getR_mem {xs : List GRule} {i : Nat} (h : i < xs.length) : getR xs i ∈ xs := List.mem_of_getElem? (getR_at h)
theorem getI_append {xs ys : List Int} {i : Nat} (h : i < xs.length) : (xs ++ ys).getD i 0 = xs.getD i 0 := by
  rw [List.getD_eq_getElem?_getD, List.getD_eq_getElem?_getD, List.getElem?_append_left h]
theorem getI_last (xs : List Int) (x : Int) : (xs ++ [x]).getD xs.length 0 = x := by simp
theorem OkAll.snoc {xs : List GRule} {r : GRule} (h : OkAll xs) (hr : okRule xs.length r = true) : OkAll (xs ++ [r]) := by
  intro k x hk
  rcases Nat.lt_or_ge k xs.length with hlt | hge
  · rw [List.getElem?_append_left hlt] at hk; exact h k x hk
  · have hl := (List.getElem?_eq_some_iff.1 hk).1
    simp at hl
    have : k = xs.length := by omega
    subst this
    simp at hk; rw [← hk]; exact hr
theorem canon_ok {xs : List GRule} (h : OkAll xs) : ∀ k, k ≤ xs.length → CanonOk k (canon (xs.take k)) := by
  intro k
  induction k with
  | zero => intro _; exact ⟨rfl, rfl, fun i hi => absurd hi (by omega), fun i hi => absurd hi (by omega), fun k r hk => by simp [canon] at hk⟩
  | succ k ih =>
    intro hk
    have H := ih (by omega)
    obtain ⟨r, hr⟩ : ∃ r, xs[k]? = some r := ⟨_, List.getElem?_eq_getElem (by omega)⟩
    have hor := h k r hr
    rw [canon_snoc hr]
    obtain ⟨K, S, hp⟩ : ∃ K S, canon (xs.take k) = (K, S) := ⟨_, _, rfl⟩
    rw [hp] at H ⊢
    have l1 : K.length = k := H.l1
    have l2 : S.length = k := H.l2
    have hx : okRule k (trimR S r) = true := by
      cases hpr : r.pair with
      | true =>
        obtain ⟨h1, h2, h3, h4⟩ := okRule_at hor hpr
        have a1 : 0 ≤ S.getD r.left.toNat 0 ∧ S.getD r.left.toNat 0 ≤ (r.left.toNat : Int) := H.low _ h2
        have a2 : 0 ≤ S.getD r.right.toNat 0 ∧ S.getD r.right.toNat 0 ≤ (r.right.toNat : Int) := H.low _ h4
        rw [trimR_pair hpr]
        exact okRule_pair ⟨a1.1, by omega⟩ ⟨a2.1, by omega⟩
      | false => rw [trimR_let hpr]; exact hor
    obtain ⟨X, hX⟩ : ∃ X, trimR S r = X := ⟨_, rfl⟩
    have e : trimStep (K, S) r = (K ++ [X], S ++ [((K.idxOf X : Nat) : Int)]) := by unfold trimStep; rw [hX]
    rw [e]
    rw [hX] at hx
    refine ⟨by simp [l1], by simp [l2], ?_, ?_, ?_⟩
    · intro i hi
      rcases Nat.lt_or_ge i k with hlt | hge
      · show 0 ≤ (S ++ _).getD i 0 ∧ _
        rw [getI_append (by omega)]; exact H.low i hlt
      · have : i = S.length := by omega
        subst this
        show 0 ≤ (S ++ _).getD S.length 0 ∧ (S ++ _).getD S.length 0 ≤ _
        rw [getI_last]
        have : K.idxOf X ≤ K.length := List.idxOf_le_length
        omega
    · intro i hi
      show (S ++ _).getD i 0 = (((K ++ [X]).idxOf (getR (K ++ [X]) i) : Nat) : Int)
      rcases Nat.lt_or_ge i k with hlt | hge
      · rw [getI_append (by omega), getR_append (by omega), List.idxOf_append, if_pos (getR_mem (by omega))]
        exact H.idx i hlt
      · have : i = K.length := by omega
        subst this
        rw [getR_last]
        have hS : (S ++ [((K.idxOf X : Nat) : Int)]).getD K.length 0 = ((K.idxOf X : Nat) : Int) := by rw [l1, ← l2, getI_last]
        rw [hS, List.idxOf_append]
        split
        · rfl
        · rename_i hn
          rw [List.idxOf_eq_length hn]; simp
    · exact H.ok.snoc (by rw [show (K, S).1.length = k from l1]; exact hx)
theorem needStep_len (ks : List GRule) (l : List Bool) (i : Nat) : (needStep ks l i).length = l.length := by
  unfold needStep; split <;> simp
theorem needDown_len (ks : List GRule) : ∀ (i : Nat) (l : List Bool), (needDown ks i l).length = l.length
  | 0, _ => rfl
  | i + 1, l => by rw [needDown, needDown_len ks i, needStep_len]
theorem needL_len (xs : List GRule) : (needL xs).length = xs.length := by rw [needL, needDown_len]; simp [rootB]
theorem outStep_len (ks : List GRule) (need : List Bool) (p : List GRule × List Int) (i : Nat) : (outStep ks need p i).2.length = p.2.length ∧ (outStep ks need p i).1.length ≤ p.1.length + 1 := by
  unfold outStep; split <;> simp
theorem trimO_succ (xs : List GRule) (k : Nat) : trimO xs (k + 1) = outStep (canon xs).1 (needL xs) (trimO xs k) k := by
  unfold trimO; rw [List.range_succ, List.foldl_append]; rfl
theorem trimO_len (xs : List GRule) : ∀ k, (trimO xs k).2.length = xs.length ∧ (trimO xs k).1.length ≤ k := by
  intro k
  induction k with
  | zero => simp [trimO]
  | succ k ih =>
    rw [trimO_succ]
    have := outStep_len (canon xs).1 (needL xs) (trimO xs k) k
    omega
theorem trimG_len (xs : List GRule) : (trimG xs).length ≤ xs.length := (trimO_len xs xs.length).2
def Small1 (l : List GRule) : Prop := ∀ r ∈ l, r.letter.size ≤ 1
theorem okAll_small {xs : List GRule} (h : OkAll xs) : Small1 xs := by
  intro r hr
  obtain ⟨k, hk⟩ := List.mem_iff_getElem?.1 hr
  exact okRule_small (h k r hk)
theorem canon_all {xs : List GRule} (h : OkAll xs) : CanonOk xs.length (canon xs) := by
  have := canon_ok h xs.length (Nat.le_refl _)
  rwa [List.take_length] at this
theorem okAll_lens {xs : List GRule} {ls : List Int} (h : lens xs = some ls) : OkAll xs := fun k r hk => (lens_steps h k r hk).1
structure But (b : Nat) (w w' : World) : Prop where
  os : w'.os = w.os
  tape : w'.tape = w.tape
  output : w'.output = w.output
  size : w.heap.size ≤ w'.heap.size
  block : ∀ k, k < w.heap.size → k ≠ b → w'.heap[k]? = w.heap[k]?
theorem But.refl (b : Nat) (w : World) : But b w w := ⟨rfl, rfl, rfl, Nat.le_refl _, fun _ _ _ => rfl⟩
theorem But.trans {b : Nat} {x y z : World} (h : But b x y) (k : But b y z) : But b x z :=
  ⟨k.os.trans h.os, k.tape.trans h.tape, k.output.trans h.output, Nat.le_trans h.size k.size, fun i hi hne => (k.block i (Nat.lt_of_lt_of_le hi h.size) hne).trans (h.block i hi hne)⟩
theorem But.of {b : Nat} {w w' : World} (h : Below w.heap.size w w') : But b w w' := ⟨h.os, h.tape, h.output, h.size, fun k hk _ => h.block k hk⟩
theorem But.below {b B : Nat} {w w' : World} (h : But b w w') (hB : B ≤ b) (hw : B ≤ w.heap.size) : Below B w w' := ⟨h.os, h.tape, h.output, h.size, fun k hk => h.block k (Nat.lt_of_lt_of_le hk hw) (by omega)⟩
theorem But.cell {b : Nat} {w w' : World} (h : But b w w') {p : Addr} (hp : p.block < w.heap.size) (hne : p.block ≠ b) : w'.cell? p = w.cell? p := by
  simp only [World.cell?, h.block _ hp hne]
theorem But.drew {b : Nat} {w w' : World} (h : But b w w') : But b w w'.drew := ⟨h.os, h.tape, h.output, h.size, h.block⟩
theorem But.drewN {b : Nat} {w w' : World} (h : But b w w') (n : Nat) : But b w (w'.drewN n) := ⟨h.os, h.tape, h.output, h.size, h.block⟩
theorem But.setCell {b o : Nat} {w w' : World} (h : But b w w') (v : Value) : But b w (w'.setCell ⟨b, o, none⟩ v) :=
  ⟨h.os, h.tape, h.output, by simpa [World.setCell] using h.size, fun k hk hne => by
    rw [← h.block k hk hne]
    simp only [World.setCell, Array.getElem?_modify]
    rw [if_neg (fun e => hne e.symm)]⟩
theorem But.alloc {b : Nat} {w w' : World} (h : But b w w') (o : Obj) : But b w (w'.alloc o) :=
  ⟨h.os, h.tape, h.output, Nat.le_trans h.size (by simp), fun k hk hne => (Below.heap_alloc w' o k (Nat.lt_of_lt_of_le hk h.size)).trans (h.block k hk hne)⟩
theorem But.tr {b : Nat} {w w1 w2 : World} (h : But b w w1) (hb : Below w1.heap.size w1 w2) : But b w w2 := h.trans (But.of hb)
def Blk (w : World) (b : Nat) (a : Array Value) (t : TypeId) : Prop := w.heap[b]? = some (.cells a t (0, 0))
section
variable {w w' : World} {b N : Nat} {a : Array Value} {t : TypeId}
theorem Blk.lt (h : Blk w b a t) : b < w.heap.size := (Array.getElem?_eq_some_iff.1 h).1
theorem Blk.up (h : Blk w b a t) (hb : Below w.heap.size w w') : Blk w' b a t := (hb.block b h.lt).trans h
theorem Blk.upB (h : Blk w b a t) (hb : Below N w w') (hlt : b < N) : Blk w' b a t := (hb.block b hlt).trans h
theorem Blk.cell (h : Blk w b a t) {i : Nat} {v : Value} (hi : a[i]? = some v) : w.cell? ⟨b, i, none⟩ = some v := by
  rw [cell_of_row w b i a t (0, 0) h, hi]
theorem Blk.frozen (h : Blk w b a t) (i : Nat) : w.frozen? ⟨b, i, none⟩ = false := by
  simp [World.frozen?, show w.heap[b]? = _ from h]
theorem Blk.set (h : Blk w b a t) (i : Nat) (v : Value) : Blk (w.setCell ⟨b, i, none⟩ v) b (a.setIfInBounds i v) t := by
  obtain ⟨hlt, hk⟩ := Array.getElem?_eq_some_iff.1 h
  show (w.heap.modify b _)[b]? = _
  rw [Array.getElem?_eq_getElem (by rw [Array.size_modify]; exact hlt), Array.getElem_modify_self, hk]
  rfl
theorem Blk.other (h : Blk w b a t) {p : Addr} (hne : b ≠ p.block) (v : Value) : Blk (w.setCell p v) b a t := (Below.heap_setCell w p v b hne).trans h
theorem Blk.alloc (h : Blk w b a t) (o : Obj) : Blk (w.alloc o) b a t := (Below.heap_alloc w o b h.lt).trans h
theorem Blk.drew (h : Blk w b a t) : Blk w.drew b a t := h
theorem Blk.new (w : World) (a : Array Value) (t : TypeId) : Blk (w.alloc (.cells a t)) w.heap.size a t := heap_alloc_new w _
theorem Blk.of_heap (h : w.heap[b]? = some (.cells a t (0, 0))) : Blk w b a t := h
end
theorem Blk.but {w w' : World} {b c : Nat} {a : Array Value} {t : TypeId} (h : Blk w c a t) (hb : But b w w') (hne : c ≠ b) : Blk w' c a t := (hb.block c h.lt hne).trans h
theorem Below.undrew {w w' : World} (hb : Below w.drew.heap.size w.drew w') : Below w.heap.size w w' := ((Below.refl w.heap.size w).drew).trans hb
theorem Below.up {w0 w w' : World} {N : Nat} (h : Below N w0 w) (hb : Below w.heap.size w w') (hN : N ≤ w0.heap.size) : Below N w0 w' := h.trans (hb.mono (Nat.le_trans hN h.size))
theorem Below.tr {w0 w w' : World} (h : Below w0.heap.size w0 w) (hb : Below w.heap.size w w') : Below w0.heap.size w0 w' := h.trans (hb.mono h.size)
def prV (a b : Nat) : Value := .agg #[.int .u64 (a : Int), .int .u64 (b : Int)]
set_option maxRecDepth 100000 in
set_option maxHeartbeats 4000000 in
theorem times_any (a0 a1 b0 b1 : Nat) (w : World) (ha0 : a0 < pF) (ha1 : a1 < pF) (hb0 : b0 < pF) (hb1 : b1 < pF) :
    Calls Tryd.prog 65 #[.agg #[.int .u64 a0, .int .u64 a1], .agg #[.int .u64 b0, .int .u64 b1]] w fun e w' => Below w.heap.size w w' ∧ e = .returned (.agg #[.int .u64 (((a0 * b0) % pF : Nat) : Int), .int .u64 (((a1 * b1) % pF : Nat) : Int)]) := by
  have M0 := Lib.hid (fun W => (mulField_any a0 b0 W ha0 hb0).mono (R' := fun e w'' => e = .returned (.int .u64 (((a0 * b0) % pF : Nat) : Int)) ∧ w'' = W) fun e w' ⟨h1, h2⟩ => ⟨h1, h2.symm⟩)
  have M1 := Lib.hid (fun W => (mulField_any a1 b1 W ha1 hb1).mono (R' := fun e w'' => e = .returned (.int .u64 (((a1 * b1) % pF : Nat) : Int)) ∧ w'' = W) fun e w' ⟨h1, h2⟩ => ⟨h1, h2.symm⟩)
  obtain ⟨p0, hp0⟩ : ∃ p, (a0 * b0) % pF = p := ⟨_, rfl⟩
  obtain ⟨p1, hp1⟩ : ∃ p, (a1 * b1) % pF = p := ⟨_, rfl⟩
  rw [hp0] at M0 ⊢
  rw [hp1] at M1 ⊢
  clear hp0 hp1 ha0 ha1 hb0 hb1
  have HB := Lib.hid (fun o o' o'' => (((Below.refl w.heap.size w).alloc (Nat.le_refl _) o).alloc (by simp) o').alloc (by simp; omega) o'')
  have K0 := Lib.hid (((Blk.new w #[.int .u64 (a0 : Int), .int .u64 (a1 : Int)] 103).alloc (.cells #[.int .u64 (b0 : Int), .int .u64 (b1 : Int)] 103)).alloc (.cells #[.int .u64 0, .int .u64 0] 103))
  have K1 := Lib.hid ((Blk.new (w.alloc (.cells #[.int .u64 (a0 : Int), .int .u64 (a1 : Int)] 103)) #[.int .u64 (b0 : Int), .int .u64 (b1 : Int)] 103).alloc (.cells #[.int .u64 0, .int .u64 0] 103))
  have K2 := Lib.hid (Blk.new ((w.alloc (.cells #[.int .u64 (a0 : Int), .int .u64 (a1 : Int)] 103)).alloc (.cells #[.int .u64 (b0 : Int), .int .u64 (b1 : Int)] 103)) #[.int .u64 0, .int .u64 0] 103)
  have z1 : (w.alloc (.cells #[.int .u64 (a0 : Int), .int .u64 (a1 : Int)] 103)).heap.size = w.heap.size + 1 := by simp
  have z2 : ((w.alloc (.cells #[.int .u64 (a0 : Int), .int .u64 (a1 : Int)] 103)).alloc (.cells #[.int .u64 (b0 : Int), .int .u64 (b1 : Int)] 103)).heap.size = w.heap.size + 1 + 1 := by simp
  rw [z1] at K1
  rw [z2] at K2
  have HBB := Lib.hid (HB.out (.cells #[.int .u64 (a0 : Int), .int .u64 (a1 : Int)] 103) (.cells #[.int .u64 (b0 : Int), .int .u64 (b1 : Int)] 103) (.cells #[.int .u64 0, .int .u64 0] 103))
  clear HB z1 z2
  go_enter Tryd.func65, Tryd.ntmps65
  go_upto_region 1 with fail
  revert K0 K1 K2 HBB
  generalize (((w.alloc (.cells #[.int .u64 (a0 : Int), .int .u64 (a1 : Int)] 103)).alloc (.cells #[.int .u64 (b0 : Int), .int .u64 (b1 : Int)] 103)).alloc (.cells #[.int .u64 0, .int .u64 0] 103)) = W
  intro K0 K1 K2 HBB
  have c0 := Blk.cell (i := 0) (v := .int .u64 (a0 : Int)) K0.out rfl
  have c1 := Blk.cell (i := 1) (v := .int .u64 (a1 : Int)) K0.out rfl
  have c2 := Blk.cell (i := 0) (v := .int .u64 (b0 : Int)) K1.out rfl
  have c3 := Blk.cell (i := 1) (v := .int .u64 (b1 : Int)) K1.out rfl
  have c4 := Blk.cell (i := 0) (v := .int .u64 0) K2.out rfl
  have c5 := Blk.cell (i := 1) (v := .int .u64 0) K2.out rfl
  have f4 := Blk.frozen K2.out 0
  have f5 := Blk.frozen K2.out 1
  have l2 := Blk.lt K2.out
  have l1 := Blk.lt K1.out
  have l0 := Blk.lt K0.out
  refine wp_region_still_tail 10 (by kernel_rfl) (by kernel_rfl) ?_
  simp only [List.take_succ_cons, List.take_zero, List.drop_succ_cons, List.drop_zero]
  still_step
  still_step
  still_step
  still_step
  still_call (M0.out _)
  still_step
  still_step
  still_step
  still_step
  still_call (M1.out _)
  refine wpStill_nil ?_
  go_wp2_with fail
  refine bodyPost_ret (v := .agg #[.int .u64 (p0 : Int), .int .u64 (p1 : Int)]) (by simp [results, Tryd.results65, go_sem, c4, c5]) rfl ⟨?_, rfl⟩
  exact Below.setCell (Below.setCell (Below.drew HBB.out) (by show w.heap.size ≤ w.heap.size + 1 + 1; omega) _) (by show w.heap.size ≤ w.heap.size + 1 + 1; omega) _
set_option maxRecDepth 100000 in
set_option maxHeartbeats 4000000 in
theorem plus_any (a0 a1 b0 b1 : Nat) (w : World) (ha0 : a0 < pF) (ha1 : a1 < pF) (hb0 : b0 < pF) (hb1 : b1 < pF) :
    Calls Tryd.prog 66 #[.agg #[.int .u64 a0, .int .u64 a1], .agg #[.int .u64 b0, .int .u64 b1]] w fun e w' => Below w.heap.size w w' ∧ e = .returned (.agg #[.int .u64 (((a0 + b0) % pF : Nat) : Int), .int .u64 (((a1 + b1) % pF : Nat) : Int)]) := by
  have M0 := Lib.hid (fun W => (addField_any a0 b0 W ha0 hb0).mono (R' := fun e w'' => e = .returned (.int .u64 (((a0 + b0) % pF : Nat) : Int)) ∧ w'' = W) fun e w' ⟨h1, h2⟩ => ⟨h1, h2.symm⟩)
  have M1 := Lib.hid (fun W => (addField_any a1 b1 W ha1 hb1).mono (R' := fun e w'' => e = .returned (.int .u64 (((a1 + b1) % pF : Nat) : Int)) ∧ w'' = W) fun e w' ⟨h1, h2⟩ => ⟨h1, h2.symm⟩)
  obtain ⟨p0, hp0⟩ : ∃ p, (a0 + b0) % pF = p := ⟨_, rfl⟩
  obtain ⟨p1, hp1⟩ : ∃ p, (a1 + b1) % pF = p := ⟨_, rfl⟩
  rw [hp0] at M0 ⊢
  rw [hp1] at M1 ⊢
  clear hp0 hp1 ha0 ha1 hb0 hb1
  have HB := Lib.hid (fun o o' o'' => (((Below.refl w.heap.size w).alloc (Nat.le_refl _) o).alloc (by simp) o').alloc (by simp; omega) o'')
  have K0 := Lib.hid (((Blk.new w #[.int .u64 (a0 : Int), .int .u64 (a1 : Int)] 103).alloc (.cells #[.int .u64 (b0 : Int), .int .u64 (b1 : Int)] 103)).alloc (.cells #[.int .u64 0, .int .u64 0] 103))
  have K1 := Lib.hid ((Blk.new (w.alloc (.cells #[.int .u64 (a0 : Int), .int .u64 (a1 : Int)] 103)) #[.int .u64 (b0 : Int), .int .u64 (b1 : Int)] 103).alloc (.cells #[.int .u64 0, .int .u64 0] 103))
  have K2 := Lib.hid (Blk.new ((w.alloc (.cells #[.int .u64 (a0 : Int), .int .u64 (a1 : Int)] 103)).alloc (.cells #[.int .u64 (b0 : Int), .int .u64 (b1 : Int)] 103)) #[.int .u64 0, .int .u64 0] 103)
  have z1 : (w.alloc (.cells #[.int .u64 (a0 : Int), .int .u64 (a1 : Int)] 103)).heap.size = w.heap.size + 1 := by simp
  have z2 : ((w.alloc (.cells #[.int .u64 (a0 : Int), .int .u64 (a1 : Int)] 103)).alloc (.cells #[.int .u64 (b0 : Int), .int .u64 (b1 : Int)] 103)).heap.size = w.heap.size + 1 + 1 := by simp
  rw [z1] at K1
  rw [z2] at K2
  have HBB := Lib.hid (HB.out (.cells #[.int .u64 (a0 : Int), .int .u64 (a1 : Int)] 103) (.cells #[.int .u64 (b0 : Int), .int .u64 (b1 : Int)] 103) (.cells #[.int .u64 0, .int .u64 0] 103))
  clear HB z1 z2
  go_enter Tryd.func66, Tryd.ntmps66
  go_upto_region 1 with fail
  revert K0 K1 K2 HBB
  generalize (((w.alloc (.cells #[.int .u64 (a0 : Int), .int .u64 (a1 : Int)] 103)).alloc (.cells #[.int .u64 (b0 : Int), .int .u64 (b1 : Int)] 103)).alloc (.cells #[.int .u64 0, .int .u64 0] 103)) = W
  intro K0 K1 K2 HBB
  have c0 := Blk.cell (i := 0) (v := .int .u64 (a0 : Int)) K0.out rfl
  have c1 := Blk.cell (i := 1) (v := .int .u64 (a1 : Int)) K0.out rfl
  have c2 := Blk.cell (i := 0) (v := .int .u64 (b0 : Int)) K1.out rfl
  have c3 := Blk.cell (i := 1) (v := .int .u64 (b1 : Int)) K1.out rfl
  have c4 := Blk.cell (i := 0) (v := .int .u64 0) K2.out rfl
  have c5 := Blk.cell (i := 1) (v := .int .u64 0) K2.out rfl
  have f4 := Blk.frozen K2.out 0
  have f5 := Blk.frozen K2.out 1
  have l2 := Blk.lt K2.out
  have l1 := Blk.lt K1.out
  have l0 := Blk.lt K0.out
  refine wp_region_still_tail 10 (by kernel_rfl) (by kernel_rfl) ?_
  simp only [List.take_succ_cons, List.take_zero, List.drop_succ_cons, List.drop_zero]
  still_step
  still_step
  still_step
  still_step
  still_call (M0.out _)
  still_step
  still_step
  still_step
  still_step
  still_call (M1.out _)
  refine wpStill_nil ?_
  go_wp2_with fail
  refine bodyPost_ret (v := .agg #[.int .u64 (p0 : Int), .int .u64 (p1 : Int)]) (by simp [results, Tryd.results66, go_sem, c4, c5]) rfl ⟨?_, rfl⟩
  exact Below.setCell (Below.setCell (Below.drew HBB.out) (by show w.heap.size ≤ w.heap.size + 1 + 1; omega) _) (by show w.heap.size ≤ w.heap.size + 1 + 1; omega) _
section
variable {σ : Type}
set_option maxRecDepth 100000 in
set_option maxHeartbeats 1000000 in
theorem pieces_any (J : (Nat → Prop) → σ → World → Prop) (step : σ → Nat → σ) (Ok : σ → Nat → Prop) (F : FuncId) (cap : Array Value) (xs : List GRule) (ls : List Int) (i j : Int) (hlens : lens xs = some ls) (hxs : xs.length ≤ 1099511627776)
    (eg : ∀ args w, (callFunc F args).run Tryd.prog w = .ok (.enter F args) w)
    (hext : ∀ C s w w', J C s w → Below w.heap.size w w' → NewNoB w.heap.size w' → (∀ b, C b → b < w.heap.size) → J (ext C w.heap.size w'.heap.size) s w')
    (hwith : ∀ C s (r : Nat) (w : World), J C s w → Ok s r → r < xs.length → (∀ b, C b → b < w.heap.size) → Calls Tryd.prog F (#[.int .i64 r] ++ cap) w (TakePost J C (step s r) w))
    (vL vR : Value) (s : σ) (C : Nat → Prop) (w : World) (hJ : J C s w) (hRu : Runs step Ok s (piecesL xs ls i j)) (hlt : ∀ b, C b → b < w.heap.size) (hL : SlS IntE w C vL ls) (hR : SlS RuleE w C vR xs) :
    Calls Tryd.prog 54 #[.agg #[vR], vL, .int .i64 i, .int .i64 j, .func (.func F) #[] cap] w (TakePost J C ((piecesL xs ls i j).foldl step s) w) := by
  have HT := Lib.hid (take_any J step Ok F cap xs ls i j hlens eg hext hwith (w.heap.size + 1) (w.heap.size + 1 + 1) (w.heap.size + 1 + 1 + 1) (w.heap.size + 1 + 1 + 1 + 1) w.heap.size (w.heap.size + 1 + 1 + 1 + 1 + 1) vL vR xs.length)
  have He := Lib.hid hext
  have HJ := Lib.hid hJ
  have HRu := Lib.hid hRu
  clear hRu
  have HL := Lib.hid hL
  have HR := Lib.hid hR
  have Hlt := Lib.hid hlt
  clear hwith hext hJ eg hL
  obtain ⟨AR, cR, rfl, _, _, hrowR⟩ := hR
  clear hrowR
  obtain ⟨AL, cL, rfl, _⟩ := HL.out
  have hB : ∀ o1 o2 o3 o4 o5 o6, Below w.heap.size w ((((((w.alloc o1).alloc o2).alloc o3).alloc o4).alloc o5).alloc o6) := fun o1 o2 o3 o4 o5 o6 => (by repeat (first | exact Below.refl _ _ | (refine Below.alloc ?_ (by first | omega | (simp; done) | (simp; omega)) _) | refine below_drewN ?_ _ | refine Below.drew ?_))
  have hJ6 : ∀ o1 o2 o3 o4 o5 o6, NoB o1 → NoB o2 → NoB o3 → NoB o4 → NoB o5 → NoB o6 → J (ext C w.heap.size (w.heap.size + 6)) s ((((((w.alloc o1).alloc o2).alloc o3).alloc o4).alloc o5).alloc o6) := fun o1 o2 o3 o4 o5 o6 n1 n2 n3 n4 n5 n6 => by
    have := He.out C s w ((((((w.alloc o1).alloc o2).alloc o3).alloc o4).alloc o5).alloc o6) HJ.out (hB _ _ _ _ _ _) ((((((((NewNoB.same w).alloc n1).alloc n2).alloc n3).alloc n4).alloc n5).alloc n6)) Hlt.out
    simpa using this
  have hK6 : ∀ o1 o2 o3 o4 o5 o6, Keep C w ((((((w.alloc o1).alloc o2).alloc o3).alloc o4).alloc o5).alloc o6) := fun o1 o2 o3 o4 o5 o6 => (Wk.of_below (hB _ _ _ _ _ _) Hlt.out).keep
  by_cases h0 : 0 < xs.length ∧ i < j
  · obtain ⟨h1, h2⟩ := h0
    go_enter Tryd.func54, Tryd.ntmps54
    go_wp2_with fail
    rw [show ((xs.length : Int) - 1) = ((xs.length - 1 : Nat) : Int) by omega]
    refine (HT.out (xs.length - 1) 0 s (ext C w.heap.size (w.heap.size + 6)) _ (by omega) (by omega) (by omega) ?_ ?_ ?_ ?_).mono ?_
    · have := lens_pos' hlens (r := xs.length - 1) (by omega); omega
    · exact hJ6 _ _ _ _ _ _ (NoB.cells (by decide)) (NoB.cells (by decide)) (NoB.cells (by decide)) (NoB.cells (by decide)) (NoB.cells (by decide)) (NoB.cells (by decide))
    · have := HRu.out
      rwa [piecesL, if_pos ⟨h1, h2⟩] at this
    · have hk := hK6
      exact ⟨by simp [go_sem], by simp [go_sem], by simp [go_sem], by simp [go_sem], by simp [go_sem], by simp [go_sem], Or.inr (by omega), Or.inr (by omega), Or.inr (by omega), Or.inr (by omega), Or.inr (by omega), Or.inr (by omega), (HL.out.keep (hk _ _ _ _ _ _)).more fun b h => Or.inl h, (HR.out.keep (hk _ _ _ _ _ _)).more fun b h => Or.inl h, fun b h => by
        simp
        rcases h with h | h
        · have := Hlt.out b h; omega
        · exact h.2⟩
    · rintro e w2 ⟨rfl, C2, g1, g2, g3, g4⟩
      go_wp2_with fail
      go_end0
      refine ⟨rfl, C2, fun b h => g1 _ (Or.inl h), g2, ?_, ?_⟩
      · rw [piecesL, if_pos ⟨h1, h2⟩]; exact g3
      · exact (Wk.of_below (hB _ _ _ _ _ _) Hlt.out).trans (g4.mono fun b h => Or.inl h)
  · have hp : piecesL xs ls i j = [] := by rw [piecesL, if_neg h0]
    have Hp := Lib.hid hp
    have hh : ¬ 0 < xs.length ∨ (0 < xs.length ∧ ¬ i < j) := by omega
    clear hp h0
    rcases hh with h1 | ⟨h1, h2⟩
    all_goals
      go_enter Tryd.func54, Tryd.ntmps54
      go_wp2_with fail
      go_end0
      refine ⟨rfl, ext C w.heap.size (w.heap.size + 6), fun b h => Or.inl h, ?_, ?_, Wk.of_below (hB _ _ _ _ _ _) Hlt.out⟩
      · intro b h
        simp
        rcases h with h | h
        · have := Hlt.out b h; omega
        · exact h.2
      · rw [Hp.out]
        exact hJ6 _ _ _ _ _ _ (NoB.cells (by decide)) (NoB.cells (by decide)) (NoB.cells (by decide)) (NoB.cells (by decide)) (NoB.cells (by decide)) (NoB.cells (by decide))
end
theorem within_yes (n a b : Int) (w : World) (h : inR n a b = true) : Calls Tryd.prog 25 #[.int .i64 n, .int .i64 a, .int .i64 b] w fun e w' => e = .returned (.bool true) ∧ w = w' :=
  (within_any n a b w).mono fun _ _ ⟨he, hw⟩ => ⟨by rw [he, ← h]; rfl, hw⟩
theorem within_no (n a b : Int) (w : World) (h : inR n a b = false) : Calls Tryd.prog 25 #[.int .i64 n, .int .i64 a, .int .i64 b] w fun e w' => e = .returned (.bool false) ∧ w = w' :=
  (within_any n a b w).mono fun _ _ ⟨he, hw⟩ => ⟨by rw [he, ← h]; rfl, hw⟩
theorem step_push_int {W : World} {ops : Array Oper} {o : Oper} {a : Act} {K : Act → World → Prop} {Q : Exit → Act → World → Prop} {E : Prop} (hgd : o.guard = none) (s x : Operand)
    (ho : o.op = .call { callee := .builtin .append, args := #[s, x], argTypes := #[58, 58] }) {y : Int} {base : Nat} {v : Value} {l : List Int}
    (hs : a.eval s = v) {N : Nat} (hx : a.eval x = .slice (some ⟨N, 0, none⟩) 1 1) (hc : W.cell? ⟨N, 0, none⟩ = some (.int .i64 y)) (hown : OwnInts W base v l) (hlen : l.length ≤ 1099511627776) (hbase : base ≤ W.heap.size)
    (h : ∀ v' w', OwnInts w' base v' (l ++ [y]) → W.grownBy w' v.ownBlock → (v'.ownBlock = v.ownBlock ∨ v'.ownBlock = some W.heap.size) → K (a.put o.dst v') w') :
    if Region.wanted o (yielded ops a.tmps) = true then Oper.wp Tryd.prog o a W K Q else E := by
  have hw : Region.wanted o (yielded ops a.tmps) = true := by simp [Region.wanted, hgd]
  rw [if_pos hw]
  obtain ⟨i0, hi0, hz0, hz1, hz2⟩ := info_parts Tryd.infoI
  obtain ⟨v', w', hrun, h2, h3, _, h5⟩ := run_append_own_at (P := Tryd.prog) W base 58 o.type 2 i0 (.int .i64 0) 1 8 Tryd.underlying58 hi0 hz0 hz1 hz2 rfl (by decide) v _ _ hown ⟨N, 0, none⟩ 1 1 [.int .i64 y] rfl
    (fun j u hu => by
      cases j with
      | zero => simp at hu; subst hu; simpa [Addr.add] using hc
      | succ j => simp at hu) (by simp [Value.oneCell']) (by simp only [maxLen]; omega) (by omega) hbase
  unfold Oper.wp execOp
  simp only [ho, resolve, invoke, builtin, Sem.run_bind, Sem.run_pure, Result.andThen_ok, List.map_toArray, List.map_cons, List.map_nil, hs, hx, hrun]
  exact h v' w' (by unfold OwnInts; simpa using h2) h3 h5
def lastI (l : List Int) : Int := l.getD (l.length - 1) 0
theorem last_any (v : Value) (l : List Int) (w : World) (h : Sl IntE w w.heap.size v l) :
    Calls Tryd.prog 31 #[v] w fun e w' => e = .returned (.int .i64 (lastI l)) ∧ w = w' := by
  obtain ⟨A, c, rfl, hc, hm, hrow⟩ := h
  unfold maxLen at hm
  by_cases h0 : l.length = 0
  · have hl : l = [] := List.eq_nil_of_length_eq_zero h0
    subst hl
    go_enter Tryd.func31, Tryd.ntmps31
    go_wp2_with fail
    go_ret
    exact ⟨rfl, rfl⟩
  · obtain ⟨b, o, rfl, hbl, hcell⟩ := hrow.int (k := 0) (by omega)
    have hc0 := hcell (l.length - 1) (by omega)
    have g0 : ((l.length : Int) == 0) = false := by rw [beq_eq_false_iff_ne]; omega
    have hk : ((l.length : Int) - 1).toNat = l.length - 1 := by omega
    have hl : 0 ≤ (l.length : Int) - 1 := by omega
    obtain ⟨x, hx⟩ : ∃ x, l.getD (l.length - 1) 0 = x := ⟨_, rfl⟩
    have Hx := Lib.hid hx
    rw [hx] at hc0
    clear hcell hx
    go_enter Tryd.func31, Tryd.ntmps31
    go_wp2_with fail
    go_ret
    exact ⟨ret_int (by rw [lastI, Hx.out]), rfl⟩
theorem Wk.set {C : Nat → Prop} {w : World} {b o : Nat} {v : Value} (h : ¬ C b) : Wk C w (w.setCell ⟨b, o, none⟩ v).drew :=
  ⟨rfl, rfl, rfl, by show w.heap.size ≤ (w.setCell ⟨b, o, none⟩ v).heap.size; simp, fun k hk => heap_setCell_other w ⟨b, o, none⟩ k v (fun e => h (by have e' : k = b := e; exact e' ▸ hk))⟩
def wordR (xs : List GRule) : Nat → Nat → List UInt8
  | 0, _ => []
  | f + 1, r => if (getR xs r).pair then wordR xs f (getR xs r).left.toNat ++ wordR xs f (getR xs r).right.toNat else (getR xs r).letter.data.toList
def W1 (xs : List GRule) (r : Nat) : List UInt8 := wordR xs (r + 1) r
def wordG (xs : List GRule) : List UInt8 := if xs = [] then [] else W1 xs (xs.length - 1)
def cutL {α : Type} (l : List α) (i j : Int) : List α := (l.take j.toNat).drop i.toNat
theorem wordR_fuel {xs : List GRule} {ls : List Int} (h : lens xs = some ls) : ∀ (f r : Nat), r < f → r < xs.length → wordR xs f r = W1 xs r := by
  intro f
  induction f using Nat.strongRecOn with
  | _ f ih =>
    intro r hr hx
    obtain ⟨g, rfl⟩ : ∃ g, f = g + 1 := ⟨f - 1, by omega⟩
    unfold W1
    rw [wordR, wordR]
    cases hp : (getR xs r).pair with
    | false => rfl
    | true =>
      obtain ⟨q1, q2, q3, q4, q5⟩ := lens_pair h hx hp
      rw [if_pos rfl, if_pos rfl, ih g (by omega) _ (by omega) (by omega), ih g (by omega) _ (by omega) (by omega)]
      by_cases e : r = g
      · subst e
        rw [ih r (by omega) _ (by omega) (by omega), ih r (by omega) _ (by omega) (by omega)]
      · rw [ih r (by omega) _ q2 (by omega), ih r (by omega) _ q4 (by omega)]
theorem W1_pair {xs : List GRule} {ls : List Int} (h : lens xs = some ls) {r : Nat} (hx : r < xs.length) (hp : (getR xs r).pair = true) : W1 xs r = W1 xs (getR xs r).left.toNat ++ W1 xs (getR xs r).right.toNat := by
  obtain ⟨q1, q2, q3, q4, q5⟩ := lens_pair h hx hp
  rw [W1, wordR, if_pos hp, wordR_fuel h r _ q2 (by omega), wordR_fuel h r _ q4 (by omega)]
theorem W1_let {xs : List GRule} {r : Nat} (hp : (getR xs r).pair = false) : W1 xs r = (getR xs r).letter.data.toList := by
  rw [W1, wordR, if_neg (by simp [hp])]
theorem lens_isLet {xs : List GRule} {ls : List Int} (h : lens xs = some ls) {r : Nat} (hx : r < xs.length) (hp : (getR xs r).pair = false) : isLet (getR xs r).letter = true := by
  have h1 := (lens_steps h r _ (getR_at hx)).1
  unfold okRule at h1
  rw [if_neg (by simp [hp])] at h1
  simp at h1; exact h1.1.1
theorem isLet_size {s : ByteArray} (h : isLet s = true) : s.size = 1 := by unfold isLet at h; simp at h; exact h.1.1
theorem W1_len {xs : List GRule} {ls : List Int} (h : lens xs = some ls) : ∀ (r : Nat), r < xs.length → ((W1 xs r).length : Int) = ls.getD r 0 := by
  intro r
  induction r using Nat.strongRecOn with
  | _ r ih =>
    intro hx
    cases hp : (getR xs r).pair with
    | false =>
      rw [W1_let hp, lens_letter h hx hp]
      have := isLet_size (lens_isLet h hx hp)
      show (((getR xs r).letter.data.toList.length : Nat) : Int) = 1
      rw [Array.length_toList]
      exact congrArg _ this
    | true =>
      obtain ⟨q1, q2, q3, q4, q5⟩ := lens_pair h hx hp
      rw [W1_pair h hx hp, List.length_append, q5, ← ih _ q2 (by omega), ← ih _ q4 (by omega)]
      omega
theorem cutL_append {α : Type} (a b : List α) (i j : Int) : cutL (a ++ b) i j = cutL a i j ++ cutL b (i - a.length) (j - a.length) := by
  unfold cutL
  rw [List.take_append, List.drop_append]
  have e1 : (j - (a.length : Int)).toNat = j.toNat - a.length := by omega
  have e2 : (i - (a.length : Int)).toNat = i.toNat - a.length := by omega
  rw [e1, e2, List.length_take]
  congr 1
  by_cases hj : j.toNat ≤ a.length
  · have : List.take (j.toNat - a.length) b = [] := by rw [show j.toNat - a.length = 0 by omega]; rfl
    rw [this]; simp
  · rw [show min j.toNat a.length = a.length by omega]
theorem cutL_nil {α : Type} {l : List α} {i j : Int} (h : (l.length : Int) ≤ i ∨ j ≤ 0 ∨ j ≤ i) : cutL l i j = [] := by
  unfold cutL
  apply List.drop_eq_nil_of_le
  rw [List.length_take]; omega
theorem cutL_all {α : Type} {l : List α} {i j : Int} (hi : i ≤ 0) (hj : (l.length : Int) ≤ j) : cutL l i j = l := by
  unfold cutL
  rw [show i.toNat = 0 by omega, List.drop_zero, List.take_of_length_le (by omega)]
theorem cutL_len {α : Type} {l : List α} {i j : Int} (hi : 0 ≤ i) (hij : i ≤ j) (hj : j ≤ l.length) : ((cutL l i j).length : Int) = j - i := by
  unfold cutL
  rw [List.length_drop, List.length_take]; omega
theorem cover_word {xs : List GRule} {ls : List Int} (h : lens xs = some ls) {i j : Int} : ∀ (f r : Nat) (p : Int), r < f → r < xs.length →
    (coverR xs ls i j f r p).flatMap (W1 xs) = cutL (W1 xs r) (i - p) (j - p) := by
  intro f
  induction f with
  | zero => intro r p hr; omega
  | succ f ih =>
    intro r p hr hx
    have hw := W1_len h r hx
    have h1 := lens_pos' h hx
    rw [coverR]
    split
    · rename_i c; rw [cutL_nil (by omega)]; rfl
    split
    · rename_i c; rw [cutL_all (by omega) (by omega)]; simp
    rename_i c1 c2
    cases hp : (getR xs r).pair with
    | false => have := lens_letter h hx hp; omega
    | true =>
      obtain ⟨q1, q2, q3, q4, q5⟩ := lens_pair h hx hp
      rw [List.flatMap_append, ih _ _ (by omega) (by omega), ih _ _ (by omega) (by omega), W1_pair h hx hp, cutL_append, W1_len h _ (by omega)]
      congr 2 <;> omega
theorem wordG_pos {xs : List GRule} (h : 0 < xs.length) : wordG xs = W1 xs (xs.length - 1) := by
  rw [wordG, if_neg (by intro e; subst e; simp at h)]
theorem lastI_at {xs : List GRule} {ls : List Int} (h : lens xs = some ls) (_h0 : 0 < xs.length) : lastI ls = ls.getD (xs.length - 1) 0 := by
  rw [lastI, lens_length h]
theorem wordG_len {xs : List GRule} {ls : List Int} (h : lens xs = some ls) : ((wordG xs).length : Int) = lastI ls := by
  by_cases h0 : 0 < xs.length
  · rw [wordG_pos h0, W1_len h _ (by omega), lastI_at h h0]
  · have hx : xs = [] := List.eq_nil_of_length_eq_zero (by omega)
    subst hx
    have : ls = [] := List.eq_nil_of_length_eq_zero (by rw [lens_length h]; rfl)
    subst this; rfl
theorem pieces_word {xs : List GRule} {ls : List Int} (h : lens xs = some ls) {i j : Int} : (piecesL xs ls i j).flatMap (W1 xs) = cutL (wordG xs) i j := by
  unfold piecesL
  split
  · rename_i c
    rw [cover_word h _ _ _ (by omega) (by omega), wordG_pos c.1, Int.sub_zero, Int.sub_zero]
  · rename_i c
    by_cases h0 : 0 < xs.length
    · rw [cutL_nil (by omega)]; rfl
    · have hx : xs = [] := List.eq_nil_of_length_eq_zero (by omega)
      subst hx
      simp [wordG, cutL]
theorem cover_mem {xs : List GRule} {ls : List Int} (hl : lens xs = some ls) {i j : Int} : ∀ (f r : Nat) (p : Int), r < f → r < xs.length → ∀ x ∈ coverR xs ls i j f r p, x < xs.length := by
  intro f
  induction f with
  | zero => intro r p hr; omega
  | succ f ih =>
    intro r p hr hx y hy
    rw [coverR] at hy
    have h1 := lens_pos' hl hx
    split at hy
    · simp at hy
    split at hy
    · simp at hy; omega
    rename_i c1 c2
    cases hpair : (getR xs r).pair with
    | false => have := lens_letter hl hx hpair; omega
    | true =>
      obtain ⟨q1, q2, q3, q4, q5⟩ := lens_pair hl hx hpair
      rcases List.mem_append.1 hy with hy | hy
      · exact ih _ _ (by omega) (by omega) y hy
      · exact ih _ _ (by omega) (by omega) y hy
theorem cover_one {xs : List GRule} {ls : List Int} (hl : lens xs = some ls) {i j : Int} : ∀ (f r : Nat) (p : Int), r < f → r < xs.length → (i ≤ p ∨ p + ls.getD r 0 ≤ j) → (coverR xs ls i j f r p).length ≤ r + 1 := by
  intro f
  induction f with
  | zero => intro r p hr; omega
  | succ f ih =>
    intro r p hr hx ho
    rw [coverR]
    have h1 := lens_pos' hl hx
    split
    · simp
    split
    · simp
    rename_i c1 c2
    cases hpair : (getR xs r).pair with
    | false => have := lens_letter hl hx hpair; omega
    | true =>
      obtain ⟨q1, q2, q3, q4, q5⟩ := lens_pair hl hx hpair
      have hL := lens_pos' hl (r := (getR xs r).left.toNat) (by omega)
      have hR := lens_pos' hl (r := (getR xs r).right.toNat) (by omega)
      obtain ⟨g, rfl⟩ : ∃ g, f = g + 1 := ⟨f - 1, by omega⟩
      rw [List.length_append]
      rcases ho with ho | ho
      · by_cases c3 : p + ls.getD (getR xs r).left.toNat 0 ≤ j
        · have e1 : (coverR xs ls i j (g + 1) (getR xs r).left.toNat p).length = 1 := by rw [coverR, if_neg (by omega), if_pos (by omega)]; rfl
          have e2 := ih (getR xs r).right.toNat (p + ls.getD (getR xs r).left.toNat 0) (by omega) (by omega) (.inl (by omega))
          omega
        · have e2 : (coverR xs ls i j (g + 1) (getR xs r).right.toNat (p + ls.getD (getR xs r).left.toNat 0)).length = 0 := by rw [coverR, if_pos (by omega)]; rfl
          have e1 := ih (getR xs r).left.toNat p (by omega) (by omega) (.inl ho)
          omega
      · by_cases c3 : i ≤ p + ls.getD (getR xs r).left.toNat 0
        · have e2 : (coverR xs ls i j (g + 1) (getR xs r).right.toNat (p + ls.getD (getR xs r).left.toNat 0)).length ≤ 1 := by
            rw [coverR]
            split
            · simp
            rw [if_pos (by omega)]; simp
          have e1 := ih (getR xs r).left.toNat p (by omega) (by omega) (.inr (by omega))
          omega
        · have e1 : (coverR xs ls i j (g + 1) (getR xs r).left.toNat p).length = 0 := by rw [coverR, if_pos (by omega)]; rfl
          have e2 := ih (getR xs r).right.toNat (p + ls.getD (getR xs r).left.toNat 0) (by omega) (by omega) (.inr (by omega))
          omega
theorem cover_two {xs : List GRule} {ls : List Int} (hl : lens xs = some ls) {i j : Int} : ∀ (f r : Nat) (p : Int), r < f → r < xs.length → (coverR xs ls i j f r p).length ≤ 2 * (r + 1) := by
  intro f
  induction f with
  | zero => intro r p hr; omega
  | succ f ih =>
    intro r p hr hx
    rw [coverR]
    have h1 := lens_pos' hl hx
    split
    · simp
    split
    · simp; omega
    rename_i c1 c2
    cases hpair : (getR xs r).pair with
    | false => have := lens_letter hl hx hpair; omega
    | true =>
      obtain ⟨q1, q2, q3, q4, q5⟩ := lens_pair hl hx hpair
      have hL := lens_pos' hl (r := (getR xs r).left.toNat) (by omega)
      have hR := lens_pos' hl (r := (getR xs r).right.toNat) (by omega)
      obtain ⟨g, rfl⟩ : ∃ g, f = g + 1 := ⟨f - 1, by omega⟩
      rw [List.length_append]
      by_cases c3 : j ≤ p + ls.getD (getR xs r).left.toNat 0
      · have e2 : (coverR xs ls i j (g + 1) (getR xs r).right.toNat (p + ls.getD (getR xs r).left.toNat 0)).length = 0 := by rw [coverR, if_pos (by omega)]; rfl
        have e1 := ih (getR xs r).left.toNat p (by omega) (by omega)
        omega
      · by_cases c4 : p + ls.getD (getR xs r).left.toNat 0 ≤ i
        · have e1 : (coverR xs ls i j (g + 1) (getR xs r).left.toNat p).length = 0 := by rw [coverR, if_pos (by omega)]; rfl
          have e2 := ih (getR xs r).right.toNat (p + ls.getD (getR xs r).left.toNat 0) (by omega) (by omega)
          omega
        · have e1 := cover_one hl (i := i) (j := j) (g + 1) (getR xs r).left.toNat p (by omega) (by omega) (.inr (by omega))
          have e2 := cover_one hl (i := i) (j := j) (g + 1) (getR xs r).right.toNat (p + ls.getD (getR xs r).left.toNat 0) (by omega) (by omega) (.inl (by omega))
          omega
def joinStep (p : List GRule × Int) (c : Nat) : List GRule × Int := (p.1 ++ [pairR p.2 c], (p.1.length : Int))
def cutG (xs : List GRule) : List Nat → List GRule
  | [] => []
  | [c] => xs.take (c + 1)
  | c :: d :: cs => ((d :: cs).foldl joinStep (xs, (c : Int))).1
def partG (xs : List GRule) (ls : List Int) (i j : Int) : List GRule := trimG (cutG xs (piecesL xs ls i j))
theorem join_ok {m : Nat} : ∀ (cs : List Nat) (p : List GRule × Int), (∀ c ∈ cs, c < m) → m ≤ p.1.length → OkAll p.1 → 0 ≤ p.2 ∧ p.2 < p.1.length → OkAll (cs.foldl joinStep p).1 ∧ (cs.foldl joinStep p).1.length = p.1.length + cs.length
  | [], p, _, _, h, _ => ⟨h, rfl⟩
  | c :: cs, p, hc, hm, h, hp => by
    have hcm := hc c (by simp)
    have := join_ok cs (joinStep p c) (fun d hd => hc d (by simp [hd])) (by simp [joinStep]; omega) (h.snoc (okRule_pair hp ⟨by omega, by omega⟩)) (by simp [joinStep]; omega)
    refine ⟨this.1, ?_⟩
    rw [List.foldl_cons, this.2]
    simp [joinStep]; omega
theorem okAll_take {xs : List GRule} (h : OkAll xs) (n : Nat) : OkAll (xs.take n) := fun k r hk => by
  rw [List.getElem?_take] at hk
  split at hk
  · exact h k r hk
  · cases hk
theorem cutG_ok {xs : List GRule} (h : OkAll xs) (cs : List Nat) (hc : ∀ c ∈ cs, c < xs.length) : OkAll (cutG xs cs) ∧ (cutG xs cs).length ≤ xs.length + cs.length := by
  match cs with
  | [] => exact ⟨fun k r hk => by simp [cutG] at hk, by simp [cutG]⟩
  | [c] => exact ⟨okAll_take h _, by simp [cutG]; omega⟩
  | c :: d :: cs =>
    have := join_ok (d :: cs) (xs, (c : Int)) (fun x hx => hc x (by simp at hx; simp; exact .inr hx)) (Nat.le_refl _) h (by have := hc c (by simp); simp; omega)
    refine ⟨this.1, ?_⟩
    have e : (cutG xs (c :: d :: cs)).length = xs.length + (d :: cs).length := this.2
    rw [e]; simp
theorem pieces_len {xs : List GRule} {ls : List Int} (hl : lens xs = some ls) (i j : Int) : (piecesL xs ls i j).length ≤ 2 * xs.length := by
  unfold piecesL
  split
  · rename_i h
    have := cover_two hl (i := i) (j := j) xs.length (xs.length - 1) 0 (by omega) (by omega)
    omega
  · simp
theorem pieces_mem {xs : List GRule} {ls : List Int} (hl : lens xs = some ls) (i j : Int) : ∀ x ∈ piecesL xs ls i j, x < xs.length := by
  unfold piecesL
  split
  · rename_i h
    exact cover_mem hl xs.length (xs.length - 1) 0 (by omega) (by omega)
  · simp
theorem partG_len {xs : List GRule} {ls : List Int} (hl : lens xs = some ls) (i j : Int) : (partG xs ls i j).length ≤ 3 * xs.length := by
  have h1 := trimG_len (cutG xs (piecesL xs ls i j))
  have h2 := (cutG_ok (okAll_lens hl) _ (pieces_mem hl i j)).2
  have h3 := pieces_len hl i j
  unfold partG; omega
end Go.Proofs.YtfhiaifdigefdaaDoor
