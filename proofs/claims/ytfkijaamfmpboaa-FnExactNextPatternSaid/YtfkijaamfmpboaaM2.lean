import Derived.Test.YtfkijaamfmpboaaM1
import Derived.Shelf.Abstract
import Derived.StillTailTactics
import Derived.Laws.EntriesVeiled
namespace Go.Proofs.Ytfkijaamfmpboaa
open Go.RowKit
def inR (n a b : Int) : Bool := decide (a ≤ n) && decide (n ≤ b)
def rowOk (states : Int) (row : List Int) : Bool := (row.length == 4) && !row.any fun s => !inR s 0 (states - 1)
def nextOk (states : Int) (next : List (List Int)) : Bool := ((next.length : Int) == states) && !next.any fun r => !rowOk states r
def risesOk (hi : Int) (l : List Int) : Bool := allB l.length fun i => inR (l.getD i 0) 0 hi && (i == 0 || decide (l.getD (i - 1) 0 < l.getD i 0))
structure GAuto where
  states : Int
  start : Int
  finals : List Int
  next : List (List Int)
def autoOk (a : GAuto) : Bool := inR a.states 1 24 && inR a.start 0 (a.states - 1) && risesOk (a.states - 1) a.finals && nextOk a.states a.next
theorem machCl11_any (s states : Int) (b : Nat) (w : World) (hc : w.cell? ⟨b, 0, none⟩ = some (.int .i64 states)) (h1 : 1 ≤ states) (h2 : states ≤ 24) :
    Calls Try.prog 118 #[.int .i64 s, .pointer (some ⟨b, 0, none⟩)] w fun e w' => e = .returned (.bool (!inR s 0 (states - 1))) ∧ w = w' := by
  go_enter Try.func118, Try.ntmps118
  go_wp2_with (first | (go_at_call 37; go_must (refine (within_any _ _ _ _).mono ?_); rintro e w' ⟨rfl, rfl⟩))
  go_ret
  exact ⟨by simp [inR], rfl⟩
theorem machCl1_any (v : Value) (row : List Int) (states : Int) (b : Nat) (w : World) (h : Sl IntE w w.heap.size v row) (hb : b < w.heap.size) (hc : w.cell? ⟨b, 0, none⟩ = some (.int .i64 states)) (h1 : 1 ≤ states) (h2 : states ≤ 24) :
    Calls Try.prog 116 #[v, .pointer (some ⟨b, 0, none⟩)] w fun e w' => e = .returned (.bool (!rowOk states row)) ∧ Below w.heap.size w w' := by
  have H := Lib.hid h
  obtain ⟨A, c, rfl, hc', hm, _⟩ := h
  unfold maxLen at hm
  have hmf : ∀ (fn : Fn) (first cap : Array Value) (w : World), (Instr.makeFunc fn first cap).run Try.prog w = .ok (.func fn first cap) w := fun _ _ _ _ => rfl
  by_cases hl : row.length = 4
  · have hl1 : (row.length == 4) = true := by simp [hl]
    have hl2 : ((row.length : Int) != 4) = false := by simp [hl]
    have Hl := Lib.hid hl1
    clear hl hl1
    go_enter Try.func116, Try.ntmps116
    go_wp2_with fail
    refine (ContainsInts_any _ row _ _ (fun s => !inR s 0 (states - 1)) _ H.out (enters_of Try.func118 (by kernel_rfl) rfl) ?_).mono ?_
    · intro W x hW hx
      exact (machCl11_any x states b W ((hW.cell (p := ⟨b, 0, none⟩) hb).trans hc) h1 h2).mono fun e w' ⟨he, hw⟩ => ⟨he, hw ▸ Below.refl _ _⟩
    · rintro e w2 ⟨rfl, hb2⟩
      go_wp2
      go_ret
      exact ⟨ret_bool (by unfold rowOk; rw [Hl.out]; simp), hb2⟩
  · have hl1 : (row.length == 4) = false := by simp [hl]
    have hl2 : ((row.length : Int) != 4) = true := by simp; omega
    have Hl := Lib.hid hl1
    clear hl hl1
    go_enter Try.func116, Try.ntmps116
    go_wp2_with fail
    go_ret
    exact ⟨ret_bool (by unfold rowOk; rw [Hl.out]; simp), Below.refl _ _⟩
theorem l00In_yes (n a b : Int) (w : World) (h : inR n a b = true) : Calls Try.prog 28 #[.int .i64 n, .int .i64 a, .int .i64 b] w fun e w' => e = .returned (.bool true) ∧ w = w' :=
  (l00In_any n a b w).mono fun _ _ ⟨he, hw⟩ => ⟨by rw [he, ← h]; rfl, hw⟩
theorem l00In_no (n a b : Int) (w : World) (h : inR n a b = false) : Calls Try.prog 28 #[.int .i64 n, .int .i64 a, .int .i64 b] w fun e w' => e = .returned (.bool false) ∧ w = w' :=
  (l00In_any n a b w).mono fun _ _ ⟨he, hw⟩ => ⟨by rw [he, ← h]; rfl, hw⟩
structure Wk (C : Nat → Prop) (w w' : World) : Prop where
  os : w'.os = w.os
  tape : w'.tape = w.tape
  output : w'.output = w.output
  size : w.heap.size ≤ w'.heap.size
  block : ∀ k, C k → w'.heap[k]? = w.heap[k]?
section
variable {C C' : Nat → Prop} {a b c : World}
theorem Wk.refl (C : Nat → Prop) (w : World) : Wk C w w := ⟨rfl, rfl, rfl, Nat.le_refl _, fun _ _ => rfl⟩
theorem Wk.trans (h : Wk C a b) (k : Wk C b c) : Wk C a c := ⟨k.os.trans h.os, k.tape.trans h.tape, k.output.trans h.output, Nat.le_trans h.size k.size, fun i hi => (k.block i hi).trans (h.block i hi)⟩
theorem Wk.mono (h : Wk C a b) (hs : ∀ k, C' k → C k) : Wk C' a b := ⟨h.os, h.tape, h.output, h.size, fun i hi => h.block i (hs i hi)⟩
theorem Wk.of_below {B : Nat} (h : Below B a b) (hs : ∀ k, C k → k < B) : Wk C a b := ⟨h.os, h.tape, h.output, h.size, fun i hi => h.block i (hs i hi)⟩
theorem Wk.below {B : Nat} (h : Wk C a b) (hs : ∀ k, k < B → C k) : Below B a b := ⟨h.os, h.tape, h.output, h.size, fun i hi => h.block i (hs i hi)⟩
theorem Wk.keep (h : Wk C a b) : Keep C a b := fun i hi => h.block i hi
theorem Wk.cell {k o : Nat} {v : Value} (h : Wk C a b) (hk : C k) (hc : a.cell? ⟨k, o, none⟩ = some v) : b.cell? ⟨k, o, none⟩ = some v := (h.keep.cell hk).trans hc
end
def getR (xs : List GRule) (r : Nat) : GRule := xs.getD r ⟨⟨#[]⟩, 0, 0⟩
def coverR (xs : List GRule) (ls : List Int) (i j : Int) : Nat → Nat → Int → List Nat
  | 0, _, _ => []
  | f + 1, r, p =>
    if p + ls.getD r 0 ≤ i ∨ j ≤ p then [] else if i ≤ p ∧ p + ls.getD r 0 ≤ j then [r] else
      coverR xs ls i j f (getR xs r).left.toNat p ++ coverR xs ls i j f (getR xs r).right.toNat (p + ls.getD (getR xs r).left.toNat 0)
def piecesL (xs : List GRule) (ls : List Int) (i j : Int) : List Nat := if 0 < xs.length ∧ i < j then coverR xs ls i j xs.length (xs.length - 1) 0 else []
theorem lens_steps {xs : List GRule} {ls : List Int} (h : lens xs = some ls) : ∀ (k : Nat) r, xs[k]? = some r → okRule k r = true ∧ ls.getD k 0 = ruleLen ls r := by
  suffices H : ∀ (ys : List GRule) (a o : List Int), ys.foldl lensStep (some a) = some o → (∃ t, o = a ++ t) ∧ ∀ (k : Nat) r, ys[k]? = some r → okRule (a.length + k) r = true ∧ o.getD (a.length + k) 0 = ruleLen o r by
    intro k r hr
    have := (H xs [] ls h).2 k r hr
    simpa using this
  intro ys
  induction ys with
  | nil => intro a o h; simp at h; subst h; exact ⟨⟨[], by simp⟩, fun k r hr => by simp at hr⟩
  | cons x ys ih =>
    intro a o h
    simp only [List.foldl_cons, lensStep, Option.bind_some] at h
    split at h
    · rename_i hc
      obtain ⟨⟨t, ht⟩, h2⟩ := ih _ _ h
      subst ht
      refine ⟨⟨ruleLen a x :: t, by simp⟩, fun k r hr => ?_⟩
      cases k with
      | zero =>
        simp at hr
        subst hr
        refine ⟨by simpa using hc.1, ?_⟩
        have e : (a ++ [ruleLen a x] ++ t).getD (a.length + 0) 0 = ruleLen a x := by
          rw [List.getD_eq_getElem?_getD, List.getElem?_append_left (by simp), List.getElem?_append_right (by omega)]
          simp
        rw [e]
        unfold ruleLen
        split
        · rename_i hp
          have hok := hc.1
          simp only [okRule, hp, if_true, Bool.and_eq_true, decide_eq_true_eq] at hok
          rw [List.append_assoc]
          simp only [List.getD_eq_getElem?_getD]
          rw [List.getElem?_append_left (by omega), List.getElem?_append_left (by omega)]
        · rfl
      | succ k =>
        have := h2 k r (by simpa using hr)
        simp only [List.length_append, List.length_cons, List.length_nil] at this
        rw [show a.length + (k + 1) = a.length + (0 + 1) + k by omega]
        exact this
    · rw [lens_none] at h; cases h
theorem getR_at {xs : List GRule} {r : Nat} (h : r < xs.length) : xs[r]? = some (getR xs r) := by
  unfold getR; rw [List.getD_eq_getElem?_getD, List.getElem?_eq_getElem h]; rfl
theorem lens_pos' {xs : List GRule} {ls : List Int} (h : lens xs = some ls) {r : Nat} (hr : r < xs.length) : 1 ≤ ls.getD r 0 ∧ ls.getD r 0 ≤ 1000000000000000 := by
  have hl := lens_length h
  have := lens_pos h ls[r] (List.getElem_mem (by omega))
  rw [List.getD_eq_getElem?_getD, List.getElem?_eq_getElem (by omega)]; exact this
theorem lens_pair {xs : List GRule} {ls : List Int} (h : lens xs = some ls) {r : Nat} (hr : r < xs.length) (hp : (getR xs r).pair = true) :
    0 ≤ (getR xs r).left ∧ (getR xs r).left.toNat < r ∧ 0 ≤ (getR xs r).right ∧ (getR xs r).right.toNat < r ∧ ls.getD r 0 = ls.getD (getR xs r).left.toNat 0 + ls.getD (getR xs r).right.toNat 0 := by
  obtain ⟨h1, h2⟩ := lens_steps h r _ (getR_at hr)
  simp only [okRule, hp, if_true, Bool.and_eq_true, decide_eq_true_eq] at h1
  simp only [ruleLen, hp, if_true] at h2
  exact ⟨h1.1.1.1, by omega, h1.1.2, by omega, h2⟩
theorem lens_letter {xs : List GRule} {ls : List Int} (h : lens xs = some ls) {r : Nat} (hr : r < xs.length) (hp : (getR xs r).pair = false) : ls.getD r 0 = 1 := by
  obtain ⟨h1, h2⟩ := lens_steps h r _ (getR_at hr)
  simpa [ruleLen, hp] using h2
section
variable {σ : Type}
def NoB (o : Obj) : Prop := ∀ c fz, o ≠ .cells c 5 fz
theorem NoB.cells {c : Array Value} {t : TypeId} {fz : Nat × Nat} (h : t ≠ 5) : NoB (.cells c t fz) := fun _ _ e => by
  injection e with _ h2 _; exact h h2
def NewNoB (a : Nat) (w : World) : Prop := ∀ k, a ≤ k → ∀ c fz, w.heap[k]? ≠ some (.cells c 5 fz)
theorem NewNoB.same (w : World) : NewNoB w.heap.size w := fun k hk c fz e => by
  have := (Array.getElem?_eq_some_iff.1 e).1
  omega
theorem NewNoB.alloc {a : Nat} {w : World} (h : NewNoB a w) {o : Obj} (ho : NoB o) : NewNoB a (w.alloc o) := fun k hk c fz e => by
  have hl := (Array.getElem?_eq_some_iff.1 e).1
  rcases Nat.lt_or_ge k w.heap.size with h1 | h1
  · rw [Below.heap_alloc _ _ _ h1] at e
    exact h k hk c fz e
  · have : k = w.heap.size := by simp at hl; omega
    subst this
    rw [heap_alloc_new] at e
    exact ho c fz (Option.some.inj e)
def Runs (step : σ → Nat → σ) (Ok : σ → Nat → Prop) (s : σ) (l : List Nat) : Prop := ∀ l1 r l2, l = l1 ++ r :: l2 → Ok (l1.foldl step s) r
theorem Runs.one {step : σ → Nat → σ} {Ok : σ → Nat → Prop} {s : σ} {r : Nat} (h : Runs step Ok s [r]) : Ok s r := h [] r [] rfl
theorem Runs.left {step : σ → Nat → σ} {Ok : σ → Nat → Prop} {s : σ} {a b : List Nat} (h : Runs step Ok s (a ++ b)) : Runs step Ok s a := fun l1 r l2 e => h l1 r (l2 ++ b) (by rw [e]; simp)
theorem Runs.right {step : σ → Nat → σ} {Ok : σ → Nat → Prop} {s : σ} {a b : List Nat} (h : Runs step Ok s (a ++ b)) : Runs step Ok (a.foldl step s) b := fun l1 r l2 e => by
  have := h (a ++ l1) r l2 (by rw [e]; simp)
  rwa [List.foldl_append] at this
theorem Runs.all {step : σ → Nat → σ} {Ok : σ → Nat → Prop} {s : σ} {l : List Nat} (h : ∀ s r, Ok s r) : Runs step Ok s l := fun _ _ _ _ => h _ _
def TakePost (J : (Nat → Prop) → σ → World → Prop) (C : Nat → Prop) (s' : σ) (w : World) (e : Ending) (w' : World) : Prop :=
  e = .returned (.tuple #[]) ∧ ∃ C', (∀ b, C b → C' b) ∧ (∀ b, C' b → b < w'.heap.size) ∧ J C' s' w' ∧ Wk C w w'
structure PSet (w : World) (C : Nat → Prop) (bl bi bj bw bg bt : Nat) (vL vW vR : Value) (i j : Int) (ls : List Int) (xs : List GRule) : Prop where
  cl : w.cell? ⟨bl, 0, none⟩ = some vL
  ci : w.cell? ⟨bi, 0, none⟩ = some (.int .i64 i)
  cj : w.cell? ⟨bj, 0, none⟩ = some (.int .i64 j)
  cw : w.cell? ⟨bw, 0, none⟩ = some vW
  cg : w.cell? ⟨bg, 0, none⟩ = some vR
  ct : w.cell? ⟨bt, 0, none⟩ = some (.func (.func 109) #[] #[.pointer (some ⟨bl, 0, none⟩), .pointer (some ⟨bi, 0, none⟩), .pointer (some ⟨bj, 0, none⟩), .pointer (some ⟨bw, 0, none⟩), .pointer (some ⟨bg, 0, none⟩), .pointer (some ⟨bt, 0, none⟩)])
  ml : C bl
  mi : C bi
  mj : C bj
  mw : C bw
  mg : C bg
  mt : C bt
  sl : SlS IntE w C vL ls
  sr : SlS RuleE w C vR xs
  lt : ∀ b, C b → b < w.heap.size
theorem PSet.up {w w' : World} {C C' : Nat → Prop} {bl bi bj bw bg bt : Nat} {vL vW vR : Value} {i j : Int} {ls : List Int} {xs : List GRule} (h : PSet w C bl bi bj bw bg bt vL vW vR i j ls xs)
    (hw : Wk C w w') (hs : ∀ b, C b → C' b) (hl : ∀ b, C' b → b < w'.heap.size) : PSet w' C' bl bi bj bw bg bt vL vW vR i j ls xs :=
  ⟨hw.cell h.ml h.cl, hw.cell h.mi h.ci, hw.cell h.mj h.cj, hw.cell h.mw h.cw, hw.cell h.mg h.cg, hw.cell h.mt h.ct, hs _ h.ml, hs _ h.mi, hs _ h.mj, hs _ h.mw, hs _ h.mg, hs _ h.mt,
    (h.sl.keep hw.keep).more hs, (h.sr.keep hw.keep).more hs, hl⟩
def ext (C : Nat → Prop) (a b : Nat) : Nat → Prop := fun k => C k ∨ (a ≤ k ∧ k < b)
set_option maxRecDepth 100000 in
set_option maxHeartbeats 2000000 in
theorem take_any (J : (Nat → Prop) → σ → World → Prop) (step : σ → Nat → σ) (Ok : σ → Nat → Prop) (F : FuncId) (cap : Array Value) (xs : List GRule) (ls : List Int) (i j : Int) (hlens : lens xs = some ls) 
    (eg : ∀ args w, (callFunc F args).run Try.prog w = .ok (.enter F args) w)
    (hext : ∀ C s w w', J C s w → Below w.heap.size w w' → NewNoB w.heap.size w' → (∀ b, C b → b < w.heap.size) → J (ext C w.heap.size w'.heap.size) s w')
    (hwith : ∀ C s (r : Nat) (w : World), J C s w → Ok s r → r < xs.length → (∀ b, C b → b < w.heap.size) → Calls Try.prog F (#[.int .i64 r] ++ cap) w (TakePost J C (step s r) w))
    (bl bi bj bw bg bt : Nat) (vL vR : Value) (f : Nat) :
    ∀ (r : Nat) (p : Int) (s : σ) (C : Nat → Prop) (w : World), r < f → r < xs.length → 0 ≤ p → p + ls.getD r 0 ≤ 1000000000000000 → J C s w → Runs step Ok s (coverR xs ls i j f r p) →
      PSet w C bl bi bj bw bg bt vL (.func (.func F) #[] cap) vR i j ls xs →
      Calls Try.prog 109 #[.int .i64 r, .int .i64 p, .pointer (some ⟨bl, 0, none⟩), .pointer (some ⟨bi, 0, none⟩), .pointer (some ⟨bj, 0, none⟩), .pointer (some ⟨bw, 0, none⟩), .pointer (some ⟨bg, 0, none⟩), .pointer (some ⟨bt, 0, none⟩)] w
        (TakePost J C ((coverR xs ls i j f r p).foldl step s) w) := by
  induction f with
  | zero => intro r p s C w h; omega
  | succ f ih =>
    intro r p s C w hf hr hp0 hp1 hJ hRu hS
    have Ih := Lib.hid ih
    have HRu := Lib.hid hRu
    clear hRu
    have Hw := Lib.hid hwith
    have He := Lib.hid hext
    have HJ := Lib.hid hJ
    have HS := Lib.hid hS
    clear ih hwith hext hJ
    have hcl := hS.cl
    have hci := hS.ci
    have hcj := hS.cj
    have hcw := hS.cw
    have hll := lens_length hlens
    obtain ⟨AL, cL, rfl, _, _, hrowL⟩ := hS.sl
    obtain ⟨b1, o1, rfl, hb1, hcellL⟩ := hrowL.int (k := r) (by omega)
    have hcr := hcellL r (by omega)
    have hri : (r : Int) < (ls.length : Int) := by omega
    have hpos := lens_pos' hlens hr
    have Hxy : Hid (∀ y, ls.getD r 0 = y → coverR xs ls i j (f + 1) r p = if p + y ≤ i ∨ j ≤ p then [] else if i ≤ p ∧ p + y ≤ j then [r] else
      coverR xs ls i j f (getR xs r).left.toNat p ++ coverR xs ls i j f (getR xs r).right.toNat (p + ls.getD (getR xs r).left.toNat 0)) := by rintro y rfl; rfl
    have Hll := Lib.hid hll
    have HcL := Lib.hid hcellL
    have Hb1 := Lib.hid hb1
    clear hcellL hll
    obtain ⟨n, hn⟩ : ∃ n, ls.getD r 0 = n := ⟨_, rfl⟩
    rw [hn] at hcr hpos hp1
    have Hn := Lib.hid hn
    have hcov := Hxy.out n hn
    have Hcov := Lib.hid hcov
    rw [hcov] at HRu
    clear hn hcov
    have e144 : ∀ args w, (callFunc 109 args).run Try.prog w = .ok (.enter 109 args) w := enters_of Try.func109 (by kernel_rfl) rfl
    by_cases c1 : p + n ≤ i
    · rw [if_pos (Or.inl c1)] at Hcov HRu
      go_enter Try.func109, Try.ntmps109
      go_wp2_with fail
      go_end0
      exact ⟨rfl, C, fun _ h => h, HS.out.lt, by rw [Hcov.out]; exact HJ.out, Wk.refl _ _⟩
    · by_cases c2 : j ≤ p
      · rw [if_pos (Or.inr c2)] at Hcov HRu
        go_enter Try.func109, Try.ntmps109
        go_wp2_with fail
        go_end0
        exact ⟨rfl, C, fun _ h => h, HS.out.lt, by rw [Hcov.out]; exact HJ.out, Wk.refl _ _⟩
      · rw [if_neg (by omega)] at Hcov HRu
        by_cases c34 : i ≤ p ∧ p + n ≤ j
        · rw [if_pos c34] at Hcov HRu
          obtain ⟨c3, c4⟩ := c34
          go_enter Try.func109, Try.ntmps109
          go_wp2_with fail
          refine (Hw.out C s r w HJ.out HRu.out.one hr HS.out.lt).mono ?_
          rintro e w2 ⟨rfl, C', h1, h2, h3, h4⟩
          go_wp2_with fail
          go_end0
          exact ⟨rfl, C', h1, h2, by rw [Hcov.out]; exact h3, h4⟩
        · rw [if_neg c34] at Hcov HRu
          have hpair : (getR xs r).pair = true := by
            by_cases hp : (getR xs r).pair = true
            · exact hp
            · have := lens_letter hlens hr (by simpa using hp)
              have := Hn.out
              omega
          obtain ⟨hl0, hlr, hr0, hrr, hsum⟩ := lens_pair hlens hr hpair
          obtain ⟨AR, cR, rfl, _, _, hrowR⟩ := HS.out.sr
          obtain ⟨b2, o2, rfl, hb2, hcellR⟩ := hrowR.rule (k := r) hr
          obtain ⟨k0, k1, k2⟩ := hcellR r _ (getR_at hr)
          generalize hR : getR xs r = R at *
          obtain ⟨rs, rl, rr⟩ := R
          obtain ⟨l, rfl⟩ := Int.eq_ofNat_of_zero_le hl0
          obtain ⟨q, rfl⟩ := Int.eq_ofNat_of_zero_le hr0
          simp only [Int.toNat_natCast] at hlr hrr hsum Hcov HRu
          have hcg := HS.out.cg
          have hct := HS.out.ct
          have lbt : bt < w.heap.size := HS.out.lt _ HS.out.mt
          have hpl := lens_pos' hlens (r := l) (by omega)
          have hpq := lens_pos' hlens (r := q) (by omega)
          have hrx : (r : Int) < (xs.length : Int) := by omega
          have hll := Hll.out
          have hsn : n = ls.getD l 0 + ls.getD q 0 := by rw [← Hn.out]; exact hsum
          obtain ⟨m, hm⟩ : ∃ m, ls.getD l 0 = m := ⟨_, rfl⟩
          obtain ⟨m', hm'⟩ : ∃ m', ls.getD q 0 = m' := ⟨_, rfl⟩
          rw [hm] at hsn hpl
          rw [hm'] at hsn hpq
          rw [hm] at Hcov HRu
          have Hm := Lib.hid hm
          have Hm' := Lib.hid hm'
          have Hsn := Lib.hid hsn
          have hl3 : p + m ≤ 1000000000000000 := by omega
          have hq3 : p + m + m' ≤ 1000000000000000 := by omega
          have hq0 : 0 ≤ p + m := by omega
          have Hq0 := Lib.hid hq0
          have Hl3 := Lib.hid hl3
          have Hq3 := Lib.hid hq3
          have hBA : ∀ o, Below w.heap.size w (w.alloc o) := fun o => (Below.refl _ _).alloc (Nat.le_refl _) _
          have HBA := Lib.hid hBA
          have HS1 : ∀ o, PSet (w.alloc o) (ext C w.heap.size (w.alloc o).heap.size) bl bi bj bw bg bt (.slice (some ⟨b1, o1, none⟩) ls.length cL) (.func (.func F) #[] cap) (.slice (some ⟨b2, o2, none⟩) xs.length cR) i j ls xs := fun o =>
            HS.out.up (Wk.of_below (HBA.out o) HS.out.lt) (fun b h => Or.inl h) (fun b h => by rcases h with h | h; exact Nat.lt_of_lt_of_le (HS.out.lt b h) (HBA.out o).size; exact h.2)
          have HJ1 : ∀ o, NoB o → J (ext C w.heap.size (w.alloc o).heap.size) s (w.alloc o) := fun o ho => He.out C s w _ HJ.out (HBA.out o) ((NewNoB.same w).alloc ho) HS.out.lt
          have HSS1 := Lib.hid HS1
          have HJJ1 := Lib.hid HJ1
          have hlx : l < xs.length := by omega
          have hqx : q < xs.length := by omega
          have hlf : l < f := by omega
          have hqf : q < f := by omega
          have Hpair := Lib.hid hpair
          have HR := Lib.hid hR
          have hc34 : (i ≤ p ∧ ¬ p + n ≤ j) ∨ ¬ i ≤ p := by omega
          clear hm hm' hpair hcellR hsum hR hrowL hrowR hb1 hb2 hBA HS1 HJ1 hsn c34
          rcases hc34 with ⟨c3, c4⟩ | c3
          all_goals
            go_enter Try.func109, Try.ntmps109
            go_wp2_with fail
            refine (Ih.out l p s _ _ hlf hlx hp0 (by rw [Hm.out]; exact Hl3.out) (HJJ1.out _ (NoB.cells (by decide))) HRu.out.left (HSS1.out _)).mono ?_
            rintro e w2 ⟨rfl, C2, g1, g2, g3, g4⟩
            have hbx0 : w2.cell? ⟨w.heap.size, 0, none⟩ = some (.string rs) := g4.cell (Or.inr (by simp)) (by simp [go_sem])
            have hbx1 : w2.cell? ⟨w.heap.size, 1, none⟩ = some (.int .i64 l) := g4.cell (Or.inr (by simp)) (by simp [go_sem])
            have hbx2 : w2.cell? ⟨w.heap.size, 2, none⟩ = some (.int .i64 q) := g4.cell (Or.inr (by simp)) (by simp [go_sem])
            have S2 := Lib.hid ((HSS1.out _).up g4 g1 g2)
            have hcl2 := S2.out.cl
            have hct2 := S2.out.ct
            have hcq : w2.cell? ⟨b1, o1 + l, none⟩ = some (.int .i64 m) := g4.cell (Or.inl Hb1.out) (((HBA.out _).cell (p := ⟨b1, o1 + l, none⟩) (HS.out.lt _ Hb1.out)).trans (by rw [HcL.out l (by have := Hll.out; omega), Hm.out]))
            have hli : (l : Int) < (ls.length : Int) := by have := Hll.out; omega
            go_wp2_with fail
            go_still_tail 10, (by kernel_rfl)
            change wpList _ _ _ _ _ w2.drew
            have HB3 := Lib.hid (Below.drew (Below.refl w2.heap.size w2))
            have HJ3 := Lib.hid (He.out C2 _ w2 _ g3 HB3.out (NewNoB.same w2) g2)
            have S3 := Lib.hid (S2.out.up (Wk.of_below HB3.out g2) (C' := ext C2 w2.heap.size w2.drew.heap.size) (fun b h => Or.inl h) (fun b h => by rcases h with h | h; exact g2 b h; exact h.2))
            have W2 := Lib.hid (((Wk.of_below (HBA.out _) HS.out.lt).trans (g4.mono (C' := C) fun b h => Or.inl h)).trans (Wk.of_below HB3.out (fun b h => g2 _ (g1 _ (Or.inl h)))))
            generalize w2.drew = w3 at *
            go_wp2_with fail
            refine (Ih.out q (p + m) _ _ _ hqf hqx Hq0.out (by rw [Hm'.out]; exact Hq3.out) HJ3.out HRu.out.right S3.out).mono ?_
            rintro e w4 ⟨rfl, C4, k1, k2, k3, k4⟩
            go_wp2_with fail
            go_end0
            refine ⟨rfl, C4, fun b h => k1 _ (Or.inl (g1 _ (Or.inl h))), k2, ?_, ?_⟩
            · rw [Hcov.out, List.foldl_append]; exact k3
            · exact W2.out.trans (k4.mono fun b h => Or.inl (g1 _ (Or.inl h)))
end
section
variable {σ : Type}
set_option maxRecDepth 100000 in
set_option maxHeartbeats 1000000 in
theorem pieces_any (J : (Nat → Prop) → σ → World → Prop) (step : σ → Nat → σ) (Ok : σ → Nat → Prop) (F : FuncId) (cap : Array Value) (xs : List GRule) (ls : List Int) (i j : Int) (hlens : lens xs = some ls) (hxs : xs.length ≤ 1099511627776)
    (eg : ∀ args w, (callFunc F args).run Try.prog w = .ok (.enter F args) w)
    (hext : ∀ C s w w', J C s w → Below w.heap.size w w' → NewNoB w.heap.size w' → (∀ b, C b → b < w.heap.size) → J (ext C w.heap.size w'.heap.size) s w')
    (hwith : ∀ C s (r : Nat) (w : World), J C s w → Ok s r → r < xs.length → (∀ b, C b → b < w.heap.size) → Calls Try.prog F (#[.int .i64 r] ++ cap) w (TakePost J C (step s r) w))
    (vL vR : Value) (s : σ) (C : Nat → Prop) (w : World) (hJ : J C s w) (hRu : Runs step Ok s (piecesL xs ls i j)) (hlt : ∀ b, C b → b < w.heap.size) (hL : SlS IntE w C vL ls) (hR : SlS RuleE w C vR xs) :
    Calls Try.prog 95 #[.agg #[vR], vL, .int .i64 i, .int .i64 j, .func (.func F) #[] cap] w (TakePost J C ((piecesL xs ls i j).foldl step s) w) := by
  have HT := Lib.hid (take_any J step Ok F cap xs ls i j hlens eg hext hwith (w.heap.size + 1) (w.heap.size + 1 + 1) (w.heap.size + 1 + 1 + 1) (w.heap.size + 1 + 1 + 1 + 1) w.heap.size (w.heap.size + 1 + 1 + 1 + 1 + 1) vL vR xs.length)
  have He := Lib.hid hext
  have HJ := Lib.hid hJ
  have HRu := Lib.hid hRu
  clear hRu
  have HL := Lib.hid hL
  have HR := Lib.hid hR
  have Hlt := Lib.hid hlt
  clear hwith hext hJ eg hL
  obtain ⟨AR, cR, rfl, _, _, hrowR⟩ := hR
  clear hrowR
  obtain ⟨AL, cL, rfl, _⟩ := HL.out
  have hB : ∀ o1 o2 o3 o4 o5 o6, Below w.heap.size w ((((((w.alloc o1).alloc o2).alloc o3).alloc o4).alloc o5).alloc o6) := fun o1 o2 o3 o4 o5 o6 => (by repeat (first | exact Below.refl _ _ | (refine Below.alloc ?_ (by first | omega | (simp; done) | (simp; omega)) _) | refine below_drewN ?_ _ | refine Below.drew ?_))
  have hJ6 : ∀ o1 o2 o3 o4 o5 o6, NoB o1 → NoB o2 → NoB o3 → NoB o4 → NoB o5 → NoB o6 → J (ext C w.heap.size (w.heap.size + 6)) s ((((((w.alloc o1).alloc o2).alloc o3).alloc o4).alloc o5).alloc o6) := fun o1 o2 o3 o4 o5 o6 n1 n2 n3 n4 n5 n6 => by
    have := He.out C s w ((((((w.alloc o1).alloc o2).alloc o3).alloc o4).alloc o5).alloc o6) HJ.out (hB _ _ _ _ _ _) ((((((((NewNoB.same w).alloc n1).alloc n2).alloc n3).alloc n4).alloc n5).alloc n6)) Hlt.out
    simpa using this
  have hK6 : ∀ o1 o2 o3 o4 o5 o6, Keep C w ((((((w.alloc o1).alloc o2).alloc o3).alloc o4).alloc o5).alloc o6) := fun o1 o2 o3 o4 o5 o6 => (Wk.of_below (hB _ _ _ _ _ _) Hlt.out).keep
  by_cases h0 : 0 < xs.length ∧ i < j
  · obtain ⟨h1, h2⟩ := h0
    go_enter Try.func95, Try.ntmps95
    go_wp2_with fail
    rw [show ((xs.length : Int) - 1) = ((xs.length - 1 : Nat) : Int) by omega]
    refine (HT.out (xs.length - 1) 0 s (ext C w.heap.size (w.heap.size + 6)) _ (by omega) (by omega) (by omega) ?_ ?_ ?_ ?_).mono ?_
    · have := lens_pos' hlens (r := xs.length - 1) (by omega); omega
    · exact hJ6 _ _ _ _ _ _ (NoB.cells (by decide)) (NoB.cells (by decide)) (NoB.cells (by decide)) (NoB.cells (by decide)) (NoB.cells (by decide)) (NoB.cells (by decide))
    · have := HRu.out
      rwa [piecesL, if_pos ⟨h1, h2⟩] at this
    · have hk := hK6
      exact ⟨by simp [go_sem], by simp [go_sem], by simp [go_sem], by simp [go_sem], by simp [go_sem], by simp [go_sem], Or.inr (by omega), Or.inr (by omega), Or.inr (by omega), Or.inr (by omega), Or.inr (by omega), Or.inr (by omega), (HL.out.keep (hk _ _ _ _ _ _)).more fun b h => Or.inl h, (HR.out.keep (hk _ _ _ _ _ _)).more fun b h => Or.inl h, fun b h => by
        simp
        rcases h with h | h
        · have := Hlt.out b h; omega
        · exact h.2⟩
    · rintro e w2 ⟨rfl, C2, g1, g2, g3, g4⟩
      go_wp2_with fail
      go_end0
      refine ⟨rfl, C2, fun b h => g1 _ (Or.inl h), g2, ?_, ?_⟩
      · rw [piecesL, if_pos ⟨h1, h2⟩]; exact g3
      · exact (Wk.of_below (hB _ _ _ _ _ _) Hlt.out).trans (g4.mono fun b h => Or.inl h)
  · have hp : piecesL xs ls i j = [] := by rw [piecesL, if_neg h0]
    have Hp := Lib.hid hp
    have hh : ¬ 0 < xs.length ∨ (0 < xs.length ∧ ¬ i < j) := by omega
    clear hp h0
    rcases hh with h1 | ⟨h1, h2⟩
    all_goals
      go_enter Try.func95, Try.ntmps95
      go_wp2_with fail
      go_end0
      refine ⟨rfl, ext C w.heap.size (w.heap.size + 6), fun b h => Or.inl h, ?_, ?_, Wk.of_below (hB _ _ _ _ _ _) Hlt.out⟩
      · intro b h
        simp
        rcases h with h | h
        · have := Hlt.out b h; omega
        · exact h.2
      · rw [Hp.out]
        exact hJ6 _ _ _ _ _ _ (NoB.cells (by decide)) (NoB.cells (by decide)) (NoB.cells (by decide)) (NoB.cells (by decide)) (NoB.cells (by decide)) (NoB.cells (by decide))
end
theorem within_yes (n a b : Int) (w : World) (h : inR n a b = true) : Calls Try.prog 37 #[.int .i64 n, .int .i64 a, .int .i64 b] w fun e w' => e = .returned (.bool true) ∧ w = w' :=
  (within_any n a b w).mono fun _ _ ⟨he, hw⟩ => ⟨by rw [he, ← h]; rfl, hw⟩
theorem within_no (n a b : Int) (w : World) (h : inR n a b = false) : Calls Try.prog 37 #[.int .i64 n, .int .i64 a, .int .i64 b] w fun e w' => e = .returned (.bool false) ∧ w = w' :=
  (within_any n a b w).mono fun _ _ ⟨he, hw⟩ => ⟨by rw [he, ← h]; rfl, hw⟩
theorem isMachine_no (states start : Int) (v : Value) (w : World) (h : inR states 1 24 = false) (hv : ∃ A n c, v = .slice A n c) :
    Calls Try.prog 110 #[.int .i64 states, .int .i64 start, v] w fun e w' => e = .returned (.bool false) ∧ Below w.heap.size w w' := by
  obtain ⟨A, n, c, rfl⟩ := hv
  have H := Lib.hid h
  clear h
  go_enter Try.func110, Try.ntmps110
  go_wp2_with fail
  refine (within_no _ _ _ _ H.out).mono ?_
  rintro e w' ⟨rfl, rfl⟩
  go_wp2_with fail
  go_ret
  exact ⟨rfl, (by repeat (first | exact Below.refl _ _ | (refine Below.alloc ?_ (by first | omega | (simp; done) | (simp; omega)) _) | refine below_drewN ?_ _ | refine Below.drew ?_))⟩
theorem isMachine_any (states start : Int) (v : Value) (next : List (List Int)) (w : World) (h : Sl (SliceE IntE) w w.heap.size v next) (hS : inR states 1 24 = true) :
    Calls Try.prog 110 #[.int .i64 states, .int .i64 start, v] w fun e w' => e = .returned (.bool (inR start 0 (states - 1) && nextOk states next)) ∧ Below w.heap.size w w' := by
  have h1 : 1 ≤ states ∧ states ≤ 24 := by simpa [inR] using hS
  obtain ⟨h1, h2⟩ := h1
  have HS := Lib.hid hS
  have H := Lib.hid h
  clear hS
  obtain ⟨A, c, rfl, hc', hm, _⟩ := h
  unfold maxLen at hm
  have hmf : ∀ (fn : Fn) (first cap : Array Value) (w : World), (Instr.makeFunc fn first cap).run Try.prog w = .ok (.func fn first cap) w := fun _ _ _ _ => rfl
  by_cases c1 : inR start 0 (states - 1) = true
  · have C1 := Lib.hid c1
    clear c1
    by_cases c2 : (next.length : Int) = states
    · have g2 : ((next.length : Int) == states) = true := by simp [c2]
      have C2 := Lib.hid c2
      clear c2
      go_enter Try.func110, Try.ntmps110
      go_wp2_with fail
      refine (within_yes _ _ _ _ HS.out).mono ?_
      rintro e w' ⟨rfl, rfl⟩
      go_wp2_with fail
      refine (within_yes _ _ _ _ C1.out).mono ?_
      rintro e w' ⟨rfl, rfl⟩
      go_wp2_with fail
      refine (ContainsRows_any _ next _ _ (fun s => !rowOk states s) _ ((H.out.below ((by repeat (first | exact Below.refl _ _ | (refine Below.alloc ?_ (by first | omega | (simp; done) | (simp; omega)) _) | refine below_drewN ?_ _ | refine Below.drew ?_)))).le (by first | omega | (simp; done) | (simp; omega))) (enters_of Try.func116 (by kernel_rfl) rfl) ?_).mono ?_
      · intro W u x hW hx hs
        exact (machCl1_any u x states w.heap.size W hs (Nat.lt_of_lt_of_le (by simp) hW.size) ((hW.cell (p := ⟨w.heap.size, 0, none⟩) (by simp)).trans (by simp [go_sem])) h1 h2)
      · rintro e w2 ⟨rfl, hb2⟩
        go_wp2_with fail
        go_ret
        exact ⟨ret_bool (by rw [C1.out, nextOk, C2.out]; simp), ((Below.refl _ _).alloc (Nat.le_refl _) _).trans (hb2.mono (by simp))⟩
    · have g2 : ((next.length : Int) == states) = false := by simp [c2]
      have C2 := Lib.hid g2
      clear c2
      go_enter Try.func110, Try.ntmps110
      go_wp2_with fail
      refine (within_yes _ _ _ _ HS.out).mono ?_
      rintro e w' ⟨rfl, rfl⟩
      go_wp2_with fail
      refine (within_yes _ _ _ _ C1.out).mono ?_
      rintro e w' ⟨rfl, rfl⟩
      go_wp2_with fail
      go_ret
      exact ⟨ret_bool (by rw [C1.out, nextOk, C2.out]; simp), (by repeat (first | exact Below.refl _ _ | (refine Below.alloc ?_ (by first | omega | (simp; done) | (simp; omega)) _) | refine below_drewN ?_ _ | refine Below.drew ?_))⟩
  · have c1' : inR start 0 (states - 1) = false := by simpa using c1
    have C1 := Lib.hid c1'
    clear c1 c1'
    go_enter Try.func110, Try.ntmps110
    go_wp2_with fail
    refine (within_yes _ _ _ _ HS.out).mono ?_
    rintro e w' ⟨rfl, rfl⟩
    go_wp2_with fail
    refine (within_no _ _ _ _ C1.out).mono ?_
    rintro e w' ⟨rfl, rfl⟩
    go_wp2_with fail
    go_ret
    exact ⟨ret_bool (by rw [C1.out]; simp), (by repeat (first | exact Below.refl _ _ | (refine Below.alloc ?_ (by first | omega | (simp; done) | (simp; omega)) _) | refine below_drewN ?_ _ | refine Below.drew ?_))⟩
def AutoV (w : World) (B : Nat) (v : Value) (a : GAuto) : Prop := ∃ vF vN, v = .agg #[.int .i64 a.states, .int .i64 a.start, vF, vN] ∧ Sl IntE w B vF a.finals ∧ Sl (SliceE IntE) w B vN a.next
theorem AutoV.below {w w' : World} {B : Nat} {v : Value} {a : GAuto} (h : AutoV w B v a) (hb : Below B w w') : AutoV w' B v a := by
  obtain ⟨vF, vN, rfl, h1, h2⟩ := h
  exact ⟨vF, vN, rfl, h1.below hb, h2.below hb⟩
theorem AutoV.le {w : World} {B B' : Nat} {v : Value} {a : GAuto} (h : AutoV w B v a) (hb : B ≤ B') : AutoV w B' v a := by
  obtain ⟨vF, vN, rfl, h1, h2⟩ := h
  exact ⟨vF, vN, rfl, h1.le hb, h2.le hb⟩
theorem AutoV.up {w0 w : World} {v : Value} {a : GAuto} (h : AutoV w0 w0.heap.size v a) (hb : Below w0.heap.size w0 w) : AutoV w w.heap.size v a := (h.below hb).le hb.size
theorem ValidAuto_yes (v : Value) (a : GAuto) (w : World) (h : AutoV w w.heap.size v a) (hS : inR a.states 1 24 = true) :
    Calls Try.prog 98 #[v] w fun e w' => e = .returned (.bool (autoOk a)) ∧ Below w.heap.size w w' := by
  obtain ⟨states, start, finals, next⟩ := a
  obtain ⟨vF, vN, rfl, hF, hN⟩ := h
  simp only at hF hN hS ⊢
  have h1 : 1 ≤ states ∧ states ≤ 24 := by simpa [inR] using hS
  obtain ⟨h1, h2⟩ := h1
  have HS := Lib.hid hS
  have HN := Lib.hid hN
  clear hS hN
  obtain ⟨A, c, rfl, hc, hm, hrow⟩ := hF
  obtain ⟨AN, cN, rfl, _⟩ := HN.out
  unfold maxLen at hm
  have hn : finals.length ≤ 9223372036854775807 := by omega
  clear hm
  go_enter Try.func98, Try.ntmps98
  go_wp2_with fail
  go_loop [8] (fun i => ∃ (k : Nat), k ≤ finals.length ∧ i = .int .i64 k ∧ Hid (∀ i, i < k → (inR (finals.getD i 0) 0 (states - 1) && (i == 0 || decide (finals.getD (i - 1) 0 < finals.getD i 0))) = true)) (fun i => finals.length - (intOf i).toNat)
  case atStart => exact ⟨0, Nat.zero_le _, rfl, fun i hi => absurd hi (by omega)⟩
  case round =>
    obtain ⟨k, hk, rfl, HA⟩ := hrel
    by_cases hlt : k < finals.length
    · obtain ⟨b, o, rfl, hbl, hcell⟩ := hrow.int hlt
      have hc0 := hcell k hlt
      have hc1 : 0 < k → w.cell? ⟨b, o + (k - 1), none⟩ = some (.int .i64 (finals.getD (k - 1) 0)) := fun h => hcell (k - 1) (by omega)
      have hki : (k : Int) < (finals.length : Int) := by omega
      clear hcell
      generalize hx : finals.getD k 0 = x at *
      have Hx := Lib.hid hx
      clear hx
      by_cases c1 : inR x 0 (states - 1) = true
      · have C1 := Lib.hid c1
        clear c1
        by_cases c2 : k = 0
        · have C2 := Lib.hid c2
          have g2 : decide (0 < k) = false := by simp [c2]
          clear c2 hc1
          go_wp2_with fail
          refine (within_yes _ _ _ _ C1.out).mono ?_
          rintro e w' ⟨rfl, rfl⟩
          go_wp2_with fail
          go_round
          case rel => exact ⟨k + 1, by omega, by go_num, fun i hi => by
            obtain rfl : i = k := by have := C2.out; omega
            rw [Hx.out, C1.out, C2.out]; rfl⟩
          case measure => simp [intOf]; omega
        · have C2 := Lib.hid c2
          have g2 : decide (0 < k) = true := by simp; omega
          have hc2 := hc1 (by omega)
          have hkl : 0 ≤ (k : Int) - 1 := by omega
          have hkk : ((k : Int) - 1).toNat = k - 1 := by omega
          clear c2 hc1
          generalize hy : finals.getD (k - 1) 0 = y at *
          have Hy := Lib.hid hy
          clear hy
          by_cases c3 : y < x
          · have C3 := Lib.hid c3
            have g3 : decide (x ≤ y) = false := by simp; omega
            clear c3
            go_wp2_with fail
            refine (within_yes _ _ _ _ C1.out).mono ?_
            rintro e w' ⟨rfl, rfl⟩
            go_wp2_with fail
            go_round
            case rel => exact ⟨k + 1, by omega, by go_num, fun i hi => by
              rcases Nat.lt_or_ge i k with h | h
              · exact HA.out i h
              · obtain rfl : i = k := by omega
                rw [Hx.out, Hy.out, C1.out]; simp [C3.out]⟩
            case measure => simp [intOf]; omega
          · have C3 := Lib.hid c3
            have g3 : decide (x ≤ y) = true := by simp; omega
            clear c3
            go_wp2_with fail
            refine (within_yes _ _ _ _ C1.out).mono ?_
            rintro e w' ⟨rfl, rfl⟩
            go_wp2_with fail
            go_ret
            exact ⟨ret_bool (by unfold autoOk risesOk; rw [allB_false k hlt (by simp only; rw [Hx.out, Hy.out]; simp [C3.out, C2.out])]; simp), (by repeat (first | exact Below.refl _ _ | (refine Below.alloc ?_ (by first | omega | (simp; done) | (simp; omega)) _) | refine below_drewN ?_ _ | refine Below.drew ?_))⟩
      · have c1' : inR x 0 (states - 1) = false := by simpa using c1
        have C1 := Lib.hid c1'
        clear c1 c1' hc1
        go_wp2_with fail
        refine (within_no _ _ _ _ C1.out).mono ?_
        rintro e w' ⟨rfl, rfl⟩
        go_wp2_with fail
        go_ret
        exact ⟨ret_bool (by unfold autoOk risesOk; rw [allB_false k hlt (by simp only; rw [Hx.out, C1.out]; rfl)]; simp), (by repeat (first | exact Below.refl _ _ | (refine Below.alloc ?_ (by first | omega | (simp; done) | (simp; omega)) _) | refine below_drewN ?_ _ | refine Below.drew ?_))⟩
    · go_wp2_with fail
      refine (isMachine_any _ _ _ next _ ((HN.out.below ((by repeat (first | exact Below.refl _ _ | (refine Below.alloc ?_ (by first | omega | (simp; done) | (simp; omega)) _) | refine below_drewN ?_ _ | refine Below.drew ?_)))).le (by first | omega | (simp; done) | (simp; omega))) HS.out).mono ?_
      rintro e w2 ⟨rfl, hb2⟩
      go_wp2_with fail
      go_ret
      exact ⟨ret_bool (by unfold autoOk risesOk; rw [allB_true fun i hi => HA.out i (by simp only at hi; omega)]; simp [HS.out]), ((Below.refl _ _).alloc (Nat.le_refl _) _).trans (hb2.mono (by simp))⟩
theorem ValidAuto_no (v : Value) (a : GAuto) (w : World) (h : AutoV w w.heap.size v a) (hS : inR a.states 1 24 = false) :
    Calls Try.prog 98 #[v] w fun e w' => e = .returned (.bool (autoOk a)) ∧ Below w.heap.size w w' := by
  obtain ⟨states, start, finals, next⟩ := a
  obtain ⟨vF, vN, rfl, hF, hN⟩ := h
  simp only at hF hN hS ⊢
  have HS := Lib.hid hS
  have Hno : Hid (autoOk { states := states, start := start, finals := finals, next := next } = false) := by simp [Hid, autoOk, hS]
  clear hS
  obtain ⟨A, c, rfl, hc, hm, hrow⟩ := hF
  obtain ⟨AN, cN, rfl, _⟩ := hN
  unfold maxLen at hm
  have hn : finals.length ≤ 9223372036854775807 := by omega
  clear hm
  go_enter Try.func98, Try.ntmps98
  go_wp2_with fail
  go_loop [8] (fun i => ∃ (k : Nat), k ≤ finals.length ∧ i = .int .i64 k) (fun i => finals.length - (intOf i).toNat)
  case atStart => exact ⟨0, Nat.zero_le _, rfl⟩
  case round =>
    obtain ⟨k, hk, rfl⟩ := hrel
    by_cases hlt : k < finals.length
    · obtain ⟨b, o, rfl, hbl, hcell⟩ := hrow.int hlt
      have hc0 := hcell k hlt
      have hc1 : 0 < k → w.cell? ⟨b, o + (k - 1), none⟩ = some (.int .i64 (finals.getD (k - 1) 0)) := fun h => hcell (k - 1) (by omega)
      have hki : (k : Int) < (finals.length : Int) := by omega
      clear hcell
      generalize finals.getD k 0 = x at *
      by_cases c2 : k = 0
      · have C2 := Lib.hid c2
        have g2 : decide (0 < k) = false := by simp [c2]
        clear c2 hc1
        by_cases c1 : inR x 0 (wrap64 (states - 1)) = true
        · have C1 := Lib.hid c1
          clear c1
          go_wp2_with fail
          refine (within_yes _ _ _ _ C1.out).mono ?_
          rintro e w' ⟨rfl, rfl⟩
          go_wp2_with fail
          go_round
          case rel => exact ⟨k + 1, by omega, by go_num⟩
          case measure => simp [intOf]; omega
        · have c1' : inR x 0 (wrap64 (states - 1)) = false := by simpa using c1
          have C1 := Lib.hid c1'
          clear c1 c1'
          go_wp2_with fail
          refine (within_no _ _ _ _ C1.out).mono ?_
          rintro e w' ⟨rfl, rfl⟩
          go_wp2_with fail
          go_ret
          exact ⟨ret_bool Hno.out.symm, (by repeat (first | exact Below.refl _ _ | (refine Below.alloc ?_ (by first | omega | (simp; done) | (simp; omega)) _) | refine below_drewN ?_ _ | refine Below.drew ?_))⟩
      · have C2 := Lib.hid c2
        have g2 : decide (0 < k) = true := by simp; omega
        have hc2 := hc1 (by omega)
        have hkl : 0 ≤ (k : Int) - 1 := by omega
        have hkk : ((k : Int) - 1).toNat = k - 1 := by omega
        clear c2 hc1
        generalize finals.getD (k - 1) 0 = y at *
        by_cases c1 : inR x 0 (wrap64 (states - 1)) = true
        · have C1 := Lib.hid c1
          clear c1
          by_cases c3 : y < x
          · have g3 : decide (x ≤ y) = false := by simp; omega
            clear c3
            go_wp2_with fail
            refine (within_yes _ _ _ _ C1.out).mono ?_
            rintro e w' ⟨rfl, rfl⟩
            go_wp2_with fail
            go_round
            case rel => exact ⟨k + 1, by omega, by go_num⟩
            case measure => simp [intOf]; omega
          · have g3 : decide (x ≤ y) = true := by simp; omega
            clear c3
            go_wp2_with fail
            refine (within_yes _ _ _ _ C1.out).mono ?_
            rintro e w' ⟨rfl, rfl⟩
            go_wp2_with fail
            go_ret
            exact ⟨ret_bool Hno.out.symm, (by repeat (first | exact Below.refl _ _ | (refine Below.alloc ?_ (by first | omega | (simp; done) | (simp; omega)) _) | refine below_drewN ?_ _ | refine Below.drew ?_))⟩
        · have c1' : inR x 0 (wrap64 (states - 1)) = false := by simpa using c1
          have C1 := Lib.hid c1'
          clear c1 c1'
          go_wp2_with fail
          refine (within_no _ _ _ _ C1.out).mono ?_
          rintro e w' ⟨rfl, rfl⟩
          go_wp2_with fail
          go_ret
          exact ⟨ret_bool Hno.out.symm, (by repeat (first | exact Below.refl _ _ | (refine Below.alloc ?_ (by first | omega | (simp; done) | (simp; omega)) _) | refine below_drewN ?_ _ | refine Below.drew ?_))⟩
    · go_wp2_with fail
      refine (isMachine_no _ _ _ _ HS.out ⟨_, _, _, rfl⟩).mono ?_
      rintro e w2 ⟨rfl, hb2⟩
      go_wp2_with fail
      go_ret
      exact ⟨ret_bool Hno.out.symm, ((Below.refl _ _).alloc (Nat.le_refl _) _).trans (hb2.mono (by simp))⟩
theorem ValidAuto_any (v : Value) (a : GAuto) (w : World) (h : AutoV w w.heap.size v a) :
    Calls Try.prog 98 #[v] w fun e w' => e = .returned (.bool (autoOk a)) ∧ Below w.heap.size w w' := by
  by_cases hS : inR a.states 1 24 = true
  · exact ValidAuto_yes v a w h hS
  · exact ValidAuto_no v a w h (by simpa using hS)
theorem any_false_of {α : Type} {p : α → Bool} {d : α} {l : List α} (h : ∀ i, i < l.length → p (l.getD i d) = true) : (l.any fun r => !p r) = false := by
  rw [List.any_eq_false]
  intro x hx
  obtain ⟨i, hi, rfl⟩ := List.getElem_of_mem hx
  have := h i hi
  rw [List.getD_eq_getElem?_getD, List.getElem?_eq_getElem hi, Option.getD_some] at this
  simp [this]
theorem rowOk_yes {s : Int} {row : List Int} (h : row.length = 4) (h' : ∀ i, i < 4 → inR (row.getD i 0) 0 (s - 1) = true) : rowOk s row = true := by
  unfold rowOk; rw [any_false_of (p := fun x => inR x 0 (s - 1)) (d := 0) (by rw [h]; exact h')]; simp [h]
theorem nextOk_of {s : Int} {next : List (List Int)} (h : ∀ i, i < next.length → rowOk s (next.getD i []) = true) : nextOk s next = ((next.length : Int) == s) := by
  unfold nextOk; rw [any_false_of (p := rowOk s) (d := []) h]; simp
theorem Keep.of_set {S : Nat → Prop} {w : World} {p : Addr} (h : ¬ S p.block) (v : Value) : Keep S w (w.setCell p v) := by
  intro b hb
  exact heap_setCell_other w p b v (fun e => h (e ▸ hb))
theorem Keep.of_set2 {N M b o : Nat} {w : World} (h : b < N) (v : Value) : Keep (fun k => N ≤ k ∧ k < M) w (w.setCell ⟨b, o, none⟩ v) := Keep.of_set (fun h' => by have := h'.1; simp at this; omega) v
def stepW (next : List (List Int)) (s : Nat) (d : Nat) : Nat := ((next.getD s []).getD d 0).toNat
def readW (next : List (List Int)) (s : Nat) (l : List UInt8) : Nat := l.foldl (fun s c => stepW next s (c.toNat - 97)) s
theorem any_false_get {α : Type} {p : α → Bool} {d : α} {l : List α} (h : (l.any fun r => !p r) = false) (i : Nat) (hi : i < l.length) : p (l.getD i d) = true := by
  rw [List.any_eq_false] at h
  have := h l[i] (List.getElem_mem hi)
  rw [List.getD_eq_getElem?_getD, List.getElem?_eq_getElem hi, Option.getD_some]
  simpa using this
theorem nextOk_get {s : Int} {next : List (List Int)} (h : nextOk s next = true) : (next.length : Int) = s ∧ ∀ t, t < next.length → (next.getD t []).length = 4 ∧ ∀ d, d < 4 → 0 ≤ (next.getD t []).getD d 0 ∧ (next.getD t []).getD d 0 < next.length := by
  unfold nextOk at h
  rw [Bool.and_eq_true, Bool.not_eq_true'] at h
  obtain ⟨h1, h2⟩ := h
  have h1 : (next.length : Int) = s := by simpa using h1
  refine ⟨h1, fun t ht => ?_⟩
  have h3 := any_false_get (p := rowOk s) (d := []) h2 t ht
  unfold rowOk at h3
  rw [Bool.and_eq_true, Bool.not_eq_true'] at h3
  have h4 : (next.getD t []).length = 4 := by simpa using h3.1
  refine ⟨h4, fun d hd => ?_⟩
  have h5 := any_false_get (p := fun x => inR x 0 (s - 1)) (d := 0) h3.2 d (by omega)
  simp only [inR, Bool.and_eq_true, decide_eq_true_eq] at h5
  omega
theorem autoOk_get {a : GAuto} (h : autoOk a = true) : 1 ≤ a.states ∧ a.states ≤ 24 ∧ (a.next.length : Int) = a.states ∧ ∀ t, t < a.next.length → (a.next.getD t []).length = 4 ∧ ∀ d, d < 4 → 0 ≤ (a.next.getD t []).getD d 0 ∧ (a.next.getD t []).getD d 0 < a.next.length := by
  unfold autoOk at h
  simp only [Bool.and_eq_true] at h
  have h1 := h.1.1.1
  simp only [inR, Bool.and_eq_true, decide_eq_true_eq] at h1
  exact ⟨h1.1, h1.2, nextOk_get h.2⟩
theorem l04Letter_any (c : UInt8) (w : World) (h1 : 97 ≤ c.toNat) (h2 : c.toNat ≤ 100) :
    Calls Try.prog 46 #[.int .u8 c.toNat] w fun e w' => e = .returned (.int .i64 ((c.toNat - 97 : Nat) : Int)) ∧ w = w' := by
  obtain ⟨d, hd⟩ : ∃ d, c.toNat = 97 + d := ⟨c.toNat - 97, by omega⟩
  have hd3 : d ≤ 3 := by omega
  rw [hd]
  clear hd h1 h2
  go_enter Try.func46, Try.ntmps46
  go_wp2_with fail
  go_ret
  exact ⟨ret_int (by omega), rfl⟩
def Box4 (w : World) (b : Nat) (c0 c1 c2 c3 : Value) : Prop := w.cell? ⟨b, 0, none⟩ = some c0 ∧ w.cell? ⟨b, 1, none⟩ = some c1 ∧ w.cell? ⟨b, 2, none⟩ = some c2 ∧ w.cell? ⟨b, 3, none⟩ = some c3
theorem Box4.up {w w' : World} {b N : Nat} {c0 c1 c2 c3 : Value} (h : Box4 w b c0 c1 c2 c3) (hb : Below N w w') (hlt : b < N) : Box4 w' b c0 c1 c2 c3 :=
  ⟨(hb.cell (p := ⟨b, 0, none⟩) hlt).trans h.1, (hb.cell (p := ⟨b, 1, none⟩) hlt).trans h.2.1, (hb.cell (p := ⟨b, 2, none⟩) hlt).trans h.2.2.1, (hb.cell (p := ⟨b, 3, none⟩) hlt).trans h.2.2.2⟩
theorem Box4.new {w w' : World} {c0 c1 c2 c3 : Value} {t : TypeId} (hb : Below (w.alloc (.cells #[c0, c1, c2, c3] t)).heap.size (w.alloc (.cells #[c0, c1, c2, c3] t)) w') : Box4 w' w.heap.size c0 c1 c2 c3 :=
  Box4.up (w := w.alloc (.cells #[c0, c1, c2, c3] t)) ⟨by simp [go_sem], by simp [go_sem], by simp [go_sem], by simp [go_sem]⟩ hb (by simp)
theorem wpList_push2 {P : Program} {W : World} {ops : Array Oper} {rest : List Oper} {o : Oper} {a : Act} {Q : Exit → Act → World → Prop} (hgd : o.guard = none) (s x : Operand) (t : TypeId)
    (ho : o.op = .call { callee := .builtin .append, args := #[s, x], argTypes := #[t, t] }) {cs : Array Value} {e : TypeId}
    (i : TypeInfo) (z : Value) (size bytes : Nat) (ht : P.underlying t = some (.slice e)) (hi : P.info? e = some i) (hz : i.zero = some z)
    (hsize : i.size = size) (hby : i.bytes = bytes) (hzs : z.cells.size = size) (hsz : 0 < size)
    {base : Nat} {v : Value} {n : Nat} {xs : List Value} (hs : a.eval s = v) (hx : a.eval x = .slice (some ⟨W.heap.size, 0, none⟩) 1 1)
    (hcs : cs.size = size) (h1 : ∀ u ∈ cs.toList, u.oneCell' = true) (hown : W.ownsRow base e size v n xs)
    (hlen : (n + 1) * bytes ≤ 140737488355328) (hn : n + 1 ≤ 140737488355328) (hbase : base ≤ W.heap.size)
    (h : ∀ v' w', w'.ownsRow base e size v' (n + 1) (xs ++ cs.toList) → (W.alloc (.cells cs e)).grownBy w' v.ownBlock → (v'.ownBlock = v.ownBlock ∨ v'.ownBlock = some (W.heap.size + 1)) → wpList P ops Q rest (a.put o.dst v') w') :
    wpList P ops Q (o :: rest) a (W.alloc (.cells cs e)) := by
  refine wpList_plain hgd fun _ hK => ?_
  obtain ⟨v', w', hrun, h2, h3, _, h5⟩ := run_append_own_at (P := P) (W.alloc (.cells cs e)) base t o.type e i z size bytes ht hi hz hsize hby hzs hsz v n xs (hown.alloc _) ⟨W.heap.size, 0, none⟩ 1 1 cs.toList (by simpa using hcs)
    (fun j u hu => by
      have : (W.alloc (.cells cs e)).cell? ⟨W.heap.size, j, none⟩ = cs[j]? := cell_of_row _ _ _ _ e (0, 0) (heap_alloc_new W _)
      have ha : (⟨W.heap.size, 0, none⟩ : Addr).add j = ⟨W.heap.size, j, none⟩ := by unfold Addr.add; split <;> simp_all
      rw [ha, this]; simpa using hu) h1 (by simp only [maxLen]; omega) hlen (by simp; omega)
  unfold Oper.wp execOp
  simp only [ho, resolve, invoke, builtin, Sem.run_bind, Sem.run_pure, Result.andThen_ok, List.map_toArray, List.map_cons, List.map_nil, hs, hx, hrun]
  exact hK _ _ (h v' w' h2 h3 (by simpa using h5))
theorem push_sl {W : World} {ops : Array Oper} {rest : List Oper} {o : Oper} {a : Act} {Q : Exit → Act → World → Prop} (hgd : o.guard = none) (s x : Operand)
    (ho : o.op = .call { callee := .builtin .append, args := #[s, x], argTypes := #[54, 54] }) {u : Value} {base n : Nat} {v : Value} {vs : List Value}
    (hs : a.eval s = v) {N : Nat} (hx : a.eval x = .slice (some ⟨N, 0, none⟩) 1 1) (hN : N = W.heap.size) (hu : u.oneCell' = true) (hown : W.ownsRow base 34 1 v n vs) (hlen : n ≤ 1099511627776) (hbase : base ≤ W.heap.size)
    (h : ∀ v' w', w'.ownsRow base 34 1 v' (n + 1) (vs ++ [u]) → (W.alloc (.cells #[u] 34)).grownBy w' v.ownBlock → (v'.ownBlock = v.ownBlock ∨ v'.ownBlock = some (W.heap.size + 1)) → wpList Try.prog ops Q rest (a.put o.dst v') w') :
    wpList Try.prog ops Q (o :: rest) a (W.alloc (.cells #[u] 34)) := by
  subst hN
  obtain ⟨i0, hi0, hz0, hz1, hz2⟩ := info_parts Try.infoII
  refine wpList_push2 hgd s x 54 ho i0 (.slice none 0 0) 1 24 Try.underlying54 hi0 hz0 hz1 hz2 rfl (by decide) hs hx rfl (by simpa using hu) hown (by omega) (by omega) hbase ?_
  intro v' w' h1 h2 h3
  exact h v' w' (by simpa using h1) h2 h3
theorem step_push_int {W : World} {ops : Array Oper} {o : Oper} {a : Act} {K : Act → World → Prop} {Q : Exit → Act → World → Prop} {E : Prop} (hgd : o.guard = none) (s x : Operand)
    (ho : o.op = .call { callee := .builtin .append, args := #[s, x], argTypes := #[34, 34] }) {y : Int} {base : Nat} {v : Value} {l : List Int}
    (hs : a.eval s = v) {N : Nat} (hx : a.eval x = .slice (some ⟨N, 0, none⟩) 1 1) (hc : W.cell? ⟨N, 0, none⟩ = some (.int .i64 y)) (hown : OwnInts W base v l) (hlen : l.length ≤ 1099511627776) (hbase : base ≤ W.heap.size)
    (h : ∀ v' w', OwnInts w' base v' (l ++ [y]) → W.grownBy w' v.ownBlock → (v'.ownBlock = v.ownBlock ∨ v'.ownBlock = some W.heap.size) → K (a.put o.dst v') w') :
    if Region.wanted o (yielded ops a.tmps) = true then Oper.wp Try.prog o a W K Q else E := by
  have hw : Region.wanted o (yielded ops a.tmps) = true := by simp [Region.wanted, hgd]
  rw [if_pos hw]
  obtain ⟨i0, hi0, hz0, hz1, hz2⟩ := info_parts Try.infoI
  obtain ⟨v', w', hrun, h2, h3, _, h5⟩ := run_append_own_at (P := Try.prog) W base 34 o.type 2 i0 (.int .i64 0) 1 8 Try.underlying34 hi0 hz0 hz1 hz2 rfl (by decide) v _ _ hown ⟨N, 0, none⟩ 1 1 [.int .i64 y] rfl
    (fun j u hu => by
      cases j with
      | zero => simp at hu; subst hu; simpa [Addr.add] using hc
      | succ j => simp at hu) (by simp [Value.oneCell']) (by simp only [maxLen]; omega) (by omega) hbase
  unfold Oper.wp execOp
  simp only [ho, resolve, invoke, builtin, Sem.run_bind, Sem.run_pure, Result.andThen_ok, List.map_toArray, List.map_cons, List.map_nil, hs, hx, hrun]
  exact h v' w' (by unfold OwnInts; simpa using h2) h3 h5
def mapCell (next out : List (List Int)) (r : GRule) (s : Nat) : Int :=
  if r.pair then (out.getD r.right.toNat []).getD ((out.getD r.left.toNat []).getD s 0).toNat 0 else (next.getD s []).getD ((r.letter.data.getD 0 0).toNat - 97) 0
def mapRow (next out : List (List Int)) (r : GRule) : List Int := (List.range next.length).map (mapCell next out r)
def mapsOf (next : List (List Int)) (xs : List GRule) : List (List Int) := xs.foldl (fun out r => out ++ [mapRow next out r]) []
theorem mapsOf_snoc {next : List (List Int)} {xs : List GRule} {k : Nat} {r : GRule} (h : xs[k]? = some r) : mapsOf next (xs.take (k + 1)) = mapsOf next (xs.take k) ++ [mapRow next (mapsOf next (xs.take k)) r] := by
  unfold mapsOf; rw [foldl_take_succ _ _ _ _ _ h]
theorem mapsOf_len (next : List (List Int)) (xs : List GRule) : (mapsOf next xs).length = xs.length := by
  suffices H : ∀ (ys : List GRule) (a : List (List Int)), (ys.foldl (fun out r => out ++ [mapRow next out r]) a).length = a.length + ys.length by simpa [mapsOf] using H xs []
  intro ys
  induction ys with
  | nil => intro a; rfl
  | cons y ys ih => intro a; rw [List.foldl_cons, ih]; simp; omega
def RowsOk (n : Nat) (l : List (List Int)) : Prop := ∀ t, t < l.length → (l.getD t []).length = n ∧ ∀ d, d < n → 0 ≤ (l.getD t []).getD d 0 ∧ (l.getD t []).getD d 0 < n
theorem RowsOk.snoc {n : Nat} {l : List (List Int)} {row : List Int} (h : RowsOk n l) (h1 : row.length = n) (h2 : ∀ d, d < n → 0 ≤ row.getD d 0 ∧ row.getD d 0 < n) : RowsOk n (l ++ [row]) := by
  intro t ht
  rcases Nat.lt_or_ge t l.length with h3 | h3
  · have e : (l ++ [row]).getD t [] = l.getD t [] := by rw [List.getD_eq_getElem?_getD, List.getElem?_append_left h3, List.getD_eq_getElem?_getD]
    rw [e]; exact h t h3
  · have ht' : t = l.length := by simp at ht; omega
    subst ht'
    have e : (l ++ [row]).getD l.length [] = row := by rw [List.getD_eq_getElem?_getD, List.getElem?_append_right (Nat.le_refl _)]; simp
    rw [e]; exact ⟨h1, h2⟩
theorem letter_of_ok {i : Nat} {r : GRule} (h : okRule i r = true) (hp : r.pair = false) : r.letter.size = 1 ∧ 97 ≤ (r.letter.data.getD 0 0).toNat ∧ (r.letter.data.getD 0 0).toNat ≤ 100 := by
  simp only [okRule, hp, isLet, Bool.and_eq_true, Bool.false_eq_true, if_false, decide_eq_true_eq, beq_iff_eq] at h
  omega
theorem pair_of_ok {i : Nat} {r : GRule} (h : okRule i r = true) (hp : r.pair = true) : 0 ≤ r.left ∧ r.left.toNat < i ∧ 0 ≤ r.right ∧ r.right.toNat < i := by
  simp only [okRule, hp, if_true, Bool.and_eq_true, decide_eq_true_eq] at h
  omega
theorem mapCell_ok {a : GAuto} (ha : autoOk a = true) {out : List (List Int)} (ho : RowsOk a.next.length out) {r : GRule} (hr : okRule out.length r = true) {s : Nat} (hs : s < a.next.length) :
    0 ≤ mapCell a.next out r s ∧ mapCell a.next out r s < a.next.length := by
  unfold mapCell
  split
  · rename_i hp
    obtain ⟨h1, h2, h3, h4⟩ := pair_of_ok hr hp
    obtain ⟨g1, g2⟩ := ho _ h2
    obtain ⟨k1, k2⟩ := ho _ h4
    have := g2 s hs
    exact k2 _ (by omega)
  · rename_i hp
    obtain ⟨h1, h2, h3⟩ := letter_of_ok hr (by simpa using hp)
    exact ((autoOk_get ha).2.2.2 s hs).2 _ (by omega)
theorem mapRow_len (next out : List (List Int)) (r : GRule) : (mapRow next out r).length = next.length := by simp [mapRow]
theorem mapRow_get (next out : List (List Int)) (r : GRule) {d : Nat} (hd : d < next.length) : (mapRow next out r).getD d 0 = mapCell next out r d := by
  rw [mapRow, List.getD_eq_getElem?_getD, List.getElem?_map, List.getElem?_range hd]; rfl
theorem mapsOf_ok {a : GAuto} (ha : autoOk a = true) {xs : List GRule} {ls : List Int} (hl : lens xs = some ls) : ∀ k, k ≤ xs.length → RowsOk a.next.length (mapsOf a.next (xs.take k)) := by
  intro k
  induction k with
  | zero => intro _ t ht; simp [mapsOf] at ht
  | succ k ih =>
    intro hk
    have hr := getR_at (xs := xs) (r := k) (by omega)
    have h1 := ih (by omega)
    have hok := (lens_steps hl k _ hr).1
    have hlen : (mapsOf a.next (xs.take k)).length = k := by rw [mapsOf_len, List.length_take]; omega
    rw [mapsOf_snoc hr]
    refine h1.snoc (mapRow_len _ _ _) fun d hd => ?_
    rw [mapRow_get _ _ _ hd]
    exact mapCell_ok ha h1 (by rw [hlen]; exact hok) hd
theorem cells2 {w : World} {S : Nat → Prop} {A : Option Addr} {l : List (List Int)} (hrow : Row (SliceE IntE) w S A l) (hl : 0 < l.length) :
    ∃ b o, A = some ⟨b, o, none⟩ ∧ S b ∧ ∀ t d, t < l.length → d < (l.getD t []).length → ∃ b' o' c, w.cell? ⟨b, o + t, none⟩ = some (.slice (some ⟨b', o', none⟩) (l.getD t []).length c) ∧ S b' ∧ w.cell? ⟨b', o' + d, none⟩ = some (.int .i64 ((l.getD t []).getD d 0)) := by
  obtain ⟨b, o, rfl, hbl, hcell⟩ := hrow.sl hl
  refine ⟨b, o, rfl, hbl, fun t d ht hd => ?_⟩
  have hx : l[t]? = some (l.getD t []) := by rw [List.getD_eq_getElem?_getD, List.getElem?_eq_getElem ht]; rfl
  obtain ⟨u, hu, A2, c2, rfl, hc2, hm2, hrow2⟩ := hcell t _ hx
  obtain ⟨b2, o2, rfl, hb2, hcell2⟩ := hrow2.int (k := d) hd
  exact ⟨b2, o2, c2, hu, hb2, hcell2 d hd⟩
theorem own_grown {w w' : World} {base e s : Nat} {v : Value} {n : Nat} {xs : List Value} {row : Option Nat} (h : w.ownsRow base e s v n xs) (hg : w.grownBy w' row) (hne : ∀ g, v.ownBlock = some g → some g ≠ row) : w'.ownsRow base e s v n xs :=
  own_keep h fun g hgg => hg.block g (h.lt g hgg).2 (hne g hgg)
theorem ownSl_empty {w : World} {base N : Nat} (hN : N = w.heap.size) (hb : base ≤ w.heap.size) : (w.alloc (Obj.cells #[] 34)).ownsRow base 34 1 (Value.slice (some ⟨N, 0, none⟩) 0 0) 0 [] := by
  subst hN
  exact World.ownsRow_lit w #[] 0 hb (Nat.zero_le _) rfl
theorem leDA (w : World) (o : Obj) : w.heap.size ≤ (w.alloc o).drew.heap.size := Nat.le_trans (by simp) (Nat.le_refl _)
theorem isPair_b (l : ByteArray) (a b : Int) (w : World) :
    Calls Try.prog 92 #[.agg #[.string l, .int .i64 a, .int .i64 b]] w fun e w' => e = .returned (.bool (l.toList.isEmpty)) ∧ Below w.heap.size w w' :=
  (isPair_any l a b w).mono fun _ _ ⟨he, hw⟩ => ⟨he, hw ▸ (Below.refl _ _).alloc (Nat.le_refl _) _⟩
theorem keepM {W W2 : World} {row : Option Nat} {N : Nat} {p0 p1 p2 p3 p4 p5 : Addr} {v0 v1 v2 v3 v4 v5 : Value}
    (h : W.cell? p0 = some v0 ∧ W.cell? p1 = some v1 ∧ W.cell? p2 = some v2 ∧ W.cell? p3 = some v3 ∧ W.cell? p4 = some v4 ∧ W.cell? p5 = some v5) (hg : W.grownBy W2 row) (hr : ∀ g, row = some g → N ≤ g)
    (h0 : p0.block < N) (h1 : p1.block < N) (h2 : p2.block < N) (h3 : p3.block < N) (h4 : p4.block < N) (h5 : p5.block < N) :
    W2.cell? p0 = some v0 ∧ W2.cell? p1 = some v1 ∧ W2.cell? p2 = some v2 ∧ W2.cell? p3 = some v3 ∧ W2.cell? p4 = some v4 ∧ W2.cell? p5 = some v5 := by
  have k : ∀ {p : Addr} {v : Value}, W.cell? p = some v → p.block < N → W2.cell? p = some v := fun {p v} hc hp => hg.cell hc (fun e => by have := hr _ e.symm; omega)
  exact ⟨k h.1 h0, k h.2.1 h1, k h.2.2.1 h2, k h.2.2.2.1 h3, k h.2.2.2.2.1 h4, k h.2.2.2.2.2 h5⟩
theorem maps_push {N B : Nat} {wo wr w2 : World} {outv v' rowv : Value} {k : Nat} {vs : List Value} {M : List (List Int)} {row : List Int} {o : Obj} (hN : N ≤ wo.heap.size) (hB : wo.heap.size ≤ B) (hown : wo.ownsRow N 34 1 outv k vs)
    (hea : Each IntE wo (fun b => N ≤ b ∧ b < wo.heap.size ∧ some b ≠ outv.ownBlock) vs M) (hb : Below wo.heap.size wo wr) (hrow : OwnInts wr B rowv row) (hg : (wr.alloc o).grownBy w2 outv.ownBlock) (hv : v'.ownBlock = outv.ownBlock ∨ v'.ownBlock = some (wr.heap.size + 1)) :
    Each IntE w2 (fun b => N ≤ b ∧ b < w2.heap.size ∧ some b ≠ v'.ownBlock) (vs ++ [rowv]) (M ++ [row]) := by
  have hs1 : wo.heap.size ≤ wr.heap.size := hb.size
  have hs2 : wr.heap.size < w2.heap.size := Nat.lt_of_lt_of_le (by simp) hg.size
  have hob := fun g hg => (hown.lt g hg).2
  have h1 := hea.keep ((Keep.of_below hb).mono fun b h => h.2.1)
  have h2 := h1.keep ((Keep.of_below ((Below.refl wr.heap.size wr).alloc (Nat.le_refl _) o)).mono fun b h => by have := h.2.1; omega)
  have h3 := h2.keep ((Keep.of_grown hg).mono fun b h => ⟨by have := h.2.1; simp; omega, h.2.2⟩)
  have h4 := h3.more (S' := fun b => N ≤ b ∧ b < w2.heap.size ∧ some b ≠ v'.ownBlock) fun b h => ⟨h.1, by have := h.2.1; omega, fun e => by
    rcases hv with hv | hv
    · exact h.2.2 (e.trans hv)
    · rw [hv] at e; injection e with e; have := h.2.1; omega⟩
  refine h4.snoc ?_
  have r1 := World.ownsRow.alloc hrow o
  have r2 : OwnInts w2 B rowv row := own_grown r1 hg fun g hgg e => by
    have := (World.ownsRow.lt hrow g hgg).1
    have := hob g e.symm
    omega
  refine r2.slS fun g hgg => ⟨?_, ?_, ?_⟩
  · have := (World.ownsRow.lt hrow g hgg).1; omega
  · have := (World.ownsRow.lt hrow g hgg).2; omega
  · intro e
    rcases hv with hv | hv
    · have := hob g (hv ▸ e.symm); have := (World.ownsRow.lt hrow g hgg).1; omega
    · rw [hv] at e; injection e with e; have := (World.ownsRow.lt hrow g hgg).2; omega
theorem keepM3 {W W2 : World} {row : Option Nat} {N : Nat} {p0 p1 p2 : Addr} {v0 v1 v2 : Value}
    (h : W.cell? p0 = some v0 ∧ W.cell? p1 = some v1 ∧ W.cell? p2 = some v2) (hg : W.grownBy W2 row) (hr : ∀ g, row = some g → N ≤ g)
    (h0 : p0.block < N) (h1 : p1.block < N) (h2 : p2.block < N) :
    W2.cell? p0 = some v0 ∧ W2.cell? p1 = some v1 ∧ W2.cell? p2 = some v2 := by
  have k : ∀ {p : Addr} {v : Value}, W.cell? p = some v → p.block < N → W2.cell? p = some v := fun {p v} hc hp => hg.cell hc (fun e => by have := hr _ e.symm; omega)
  exact ⟨k h.1 h0, k h.2.1 h1, k h.2.2 h2⟩
def MapsPost (w : World) (m : List (List Int)) (e : Ending) (w' : World) : Prop :=
  ∃ v, e = .returned v ∧ SlS (SliceE IntE) w' (fun b => w.heap.size ≤ b ∧ b < w'.heap.size) v m ∧ Below w.heap.size w w'
set_option maxRecDepth 100000 in
set_option maxHeartbeats 4000000 in
theorem stateMaps_any (vN vR : Value) (a : GAuto) (xs : List GRule) (ls : List Int) (w : World) (hN : Sl (SliceE IntE) w w.heap.size vN a.next) (hR : Sl RuleE w w.heap.size vR xs) (ha : autoOk a = true) (hl : lens xs = some ls) (hn : xs.length ≤ 1099511627776) :
    Calls Try.prog 99 #[vN, .agg #[vR]] w (MapsPost w (mapsOf a.next xs)) := by
  obtain ⟨AN, cN, rfl, _, hmN, hrowN⟩ := hN
  obtain ⟨AR, cR, rfl, _, _, hrowR⟩ := hR
  obtain ⟨n1, n2, n3, n4⟩ := autoOk_get ha
  have hnext : a.next.length ≤ 24 := by omega
  have hnext0 : 1 ≤ a.next.length := by omega
  have Hl := Lib.hid hl
  have Ha := Lib.hid ha
  have N3 := Lib.hid n3
  have N4 := Lib.hid n4
  have HN := Lib.hid hrowN
  have HR := Lib.hid hrowR
  clear n3 n4 hl ha hrowN hrowR
  go_enter Try.func99, Try.ntmps99
  go_wp2_with fail
  go_loopw [5, 14] (fun out i wr => ∃ (k : Nat) (vs : List Value), k ≤ xs.length ∧ i = .int .i64 k ∧ Below (w.heap.size + 1) (w.alloc (Obj.cells #[Value.slice AR xs.length cR] 30)) wr ∧ wr.ownsRow (w.heap.size + 1) 34 1 out k vs ∧
    Each IntE wr (fun b => w.heap.size + 1 ≤ b ∧ b < wr.heap.size ∧ some b ≠ out.ownBlock) vs (mapsOf a.next (xs.take k))) (fun _ i _ => xs.length - (intOf i).toNat)
  case atStart => exact ⟨0, [], Nat.zero_le _, rfl, (Below.refl _ _).alloc (by simp) _, ownSl_empty (by simp) (by simp), Each.nil⟩
  case round =>
    obtain ⟨k, vs, hk, rfl, hb, hown, hea⟩ := hrel
    obtain ⟨wo, rfl⟩ : ∃ wo : World, wo = wr := ⟨_, rfl⟩
    have hsz : w.heap.size + 1 ≤ wo.heap.size := Nat.le_trans (by simp) hb.size
    have hB : Below w.heap.size w wo := ((Below.refl _ _).alloc (Nat.le_refl _) _).trans (hb.mono (by omega))
    have HB := Lib.hid hb
    have HBB := Lib.hid hB
    have Hown := Lib.hid hown
    have Hea := Lib.hid hea
    clear hb hB hown hea
    by_cases hlt : k < xs.length
    · obtain ⟨b2, o2, rfl, hb2, hcellR⟩ := HR.out.rule (k := k) hlt
      have hrk := getR_at hlt
      obtain ⟨k0, k1, k2⟩ := hcellR k _ hrk
      have hc0 := (HBB.out.cell (p := ⟨b2, o2 + k * 3, none⟩) hb2).trans k0
      have hc1 := (HBB.out.cell (p := ⟨b2, o2 + k * 3 + 1, none⟩) hb2).trans k1
      have hc2 := (HBB.out.cell (p := ⟨b2, o2 + k * 3 + 2, none⟩) hb2).trans k2
      have hok := (lens_steps Hl.out k _ hrk).1
      have hki : (k : Int) < (xs.length : Int) := by omega
      have Hok := Lib.hid hok
      have Hrk := Lib.hid hrk
      have hmo := mapsOf_ok Ha.out Hl.out k hk
      have Hmo := Lib.hid hmo
      have hml : (mapsOf a.next (xs.take k)).length = k := by rw [mapsOf_len, List.length_take]; omega
      have Hml := Lib.hid hml
      have hsl : SlS (SliceE IntE) wo (fun b => b < wo.heap.size) u5 (mapsOf a.next (xs.take k)) :=
        (Hea.out.more (S' := fun b => b < wo.heap.size) fun b h => h.2.1).sl (by rw [hml]; exact Hown.out) fun g hg => (World.ownsRow.lt Hown.out g hg).2
      have Hsl := Lib.hid hsl
      obtain ⟨Ao, co, hvo, _⟩ := hsl
      rw [hml] at hvo
      subst hvo
      clear hok hrk hmo hml k0 k1 k2 hcellR
      obtain ⟨R, hR⟩ : ∃ R, getR xs k = R := ⟨_, rfl⟩
      rw [hR] at hc0 hc1 hc2 Hok Hrk
      clear hR
      have Hsn : Hid (mapsOf a.next (xs.take (k + 1)) = mapsOf a.next (xs.take k) ++ [mapRow a.next (mapsOf a.next (xs.take k)) R]) := mapsOf_snoc Hrk.out
      obtain ⟨M, hM⟩ : ∃ M, mapsOf a.next (xs.take k) = M := ⟨_, rfl⟩
      rw [hM] at Hmo Hml Hsl Hea Hsn
      clear hM
      obtain ⟨rs, rl, rr⟩ := R
      simp only at hc0 hc1 hc2
      have hmc : ∀ s, s < a.next.length → 0 ≤ mapCell a.next M ⟨rs, rl, rr⟩ s ∧ mapCell a.next M ⟨rs, rl, rr⟩ s < a.next.length := fun s hs => mapCell_ok Ha.out Hmo.out (r := ⟨rs, rl, rr⟩) (by rw [Hml.out]; exact Hok.out) hs
      have Hmc := Lib.hid hmc
      clear hmc
      go_wp2_with fail
      go_loopw [8, 21] (fun row i wi => ∃ j : Nat, j ≤ a.next.length ∧ i = .int .i64 j ∧ Below wo.heap.size wo wi ∧ wo.heap.size < wi.heap.size ∧ wi.cell? ⟨wo.heap.size, 0, none⟩ = some (.string rs) ∧ wi.cell? ⟨wo.heap.size, 1, none⟩ = some (.int .i64 rl) ∧ wi.cell? ⟨wo.heap.size, 2, none⟩ = some (.int .i64 rr) ∧
        OwnInts wi (wo.heap.size + 1) row ((List.range j).map (mapCell a.next M ⟨rs, rl, rr⟩))) (fun _ i _ => a.next.length - (intOf i).toNat)
      case atStart => exact ⟨0, Nat.zero_le _, rfl, (by repeat (first | exact Below.refl _ _ | (refine Below.alloc ?_ (by first | omega | (simp; done) | (simp; omega)) _) | refine below_drewN ?_ _ | refine Below.drew ?_)), by simp; omega, by simp [go_sem], by simp [go_sem], by simp [go_sem], OwnInts.empty (by simp) (by simp)⟩
      case round =>
        obtain ⟨j, hj, rfl, hbi, hzi, x0, x1, x2, howni⟩ := hrel
        have Hbi := Lib.hid hbi
        have Howni := Lib.hid howni
        clear hbi howni
        have hlen : ((List.range j).map (mapCell a.next M ⟨rs, rl, rr⟩)).length ≤ 1099511627776 := by simp; omega
        have hsi : wo.heap.size ≤ wr.heap.size := by omega
        by_cases hjl : j < a.next.length
        · have Hnx : Hid ((List.range (j + 1)).map (mapCell a.next M ⟨rs, rl, rr⟩) = (List.range j).map (mapCell a.next M ⟨rs, rl, rr⟩) ++ [mapCell a.next M ⟨rs, rl, rr⟩ j]) := by rw [Hid, List.range_succ, List.map_append]; rfl
          have hce := Hmc.out j hjl
          obtain ⟨m2, hm2⟩ : ∃ m2 : Nat, mapCell a.next M ⟨rs, rl, rr⟩ j = m2 := ⟨(mapCell a.next M ⟨rs, rl, rr⟩ j).toNat, by omega⟩
          have Hm2 := Lib.hid hm2
          clear hce hm2
          have i3 : (j : Int) < (a.next.length : Int) := by omega
          by_cases hp : (⟨rs, rl, rr⟩ : GRule).pair = true
          · obtain ⟨p1, p2, p3, p4⟩ := pair_of_ok Hok.out hp
            have Hp := Lib.hid hp
            have hemp : rs.toList.isEmpty = true := by rw [isEmpty_size]; exact hp
            obtain ⟨l, hl⟩ := Int.eq_ofNat_of_zero_le p1
            obtain ⟨q, hq⟩ := Int.eq_ofNat_of_zero_le p3
            simp only at hl hq p2 p4
            rw [hl] at x1
            rw [hq] at x2
            rw [hl, Int.toNat_natCast] at p2
            rw [hq, Int.toNat_natCast] at p4
            have Hl1 := Lib.hid hl
            have Hq1 := Lib.hid hq
            clear hp p1 p3 hl hq
            have hM0 := Hml.out
            obtain ⟨Ao2, co2, hv2, _, _, hrow2⟩ := (Hsl.out.keep (Keep.of_below Hbi.out))
            have ea : Ao = Ao2 := by injection hv2
            subst ea
            clear hv2
            obtain ⟨b, o, rfl, hbb, hcells⟩ := cells2 hrow2 (by omega)
            have r1 := Hmo.out l (by omega)
            have r2 := Hmo.out q (by omega)
            obtain ⟨m1, hm1⟩ : ∃ m1 : Nat, (M.getD l []).getD j 0 = m1 := ⟨((M.getD l []).getD j 0).toNat, by have := (r1.2 j hjl).1; omega⟩
            have hm1l : m1 < a.next.length := by have := (r1.2 j hjl).2; omega
            obtain ⟨b1, o1, c1, d1, d2, d3⟩ := hcells l j (by omega) (by rw [r1.1]; exact hjl)
            obtain ⟨b3, o3, c3, f1, f2, f3⟩ := hcells q m1 (by omega) (by rw [r2.1]; exact hm1l)
            rw [r1.1] at d1
            rw [r2.1] at f1
            rw [hm1] at d3
            have hcellv : (M.getD q []).getD m1 0 = m2 := by
              have := Hm2.out
              rw [mapCell, if_pos Hp.out] at this
              simp only [Hl1.out, Hq1.out, Int.toNat_natCast, hm1] at this
              exact this
            rw [hcellv] at f3
            have y0 : b < wo.heap.size := hbb
            have y2 : b1 < wo.heap.size := d2
            have y3 : b3 < wo.heap.size := f2
            have i1 : (l : Int) < (k : Int) := by omega
            have i2 : (q : Int) < (k : Int) := by omega
            have i4 : (m1 : Int) < (a.next.length : Int) := by omega
            clear hrow2 hcells r1 r2 hm1 hcellv hM0
            go_wp2_with fail
            refine (isPair_b _ _ _ _).mono ?_
            rintro e w1 ⟨rfl, hb1⟩
            have g0 := (hb1.cell (p := ⟨wo.heap.size, 0, none⟩) hzi).trans x0
            have g1 := (hb1.cell (p := ⟨wo.heap.size, 1, none⟩) hzi).trans x1
            have g2 := (hb1.cell (p := ⟨wo.heap.size, 2, none⟩) hzi).trans x2
            have g3 := (hb1.cell (p := ⟨b, o + l, none⟩) (by show b < _; omega)).trans d1
            have g4 := (hb1.cell (p := ⟨b1, o1 + j, none⟩) (by show b1 < _; omega)).trans d3
            have g5 := (hb1.cell (p := ⟨b, o + q, none⟩) (by show b < _; omega)).trans f1
            have g6 := (hb1.cell (p := ⟨b3, o3 + m1, none⟩) (by show b3 < _; omega)).trans f3
            have hz1 : wo.heap.size < w1.heap.size := by have := hb1.size; omega
            have z0 : b < w1.heap.size := by omega
            have z2 : b1 < w1.heap.size := by omega
            have z3 : b3 < w1.heap.size := by omega
            have Hb1 := Lib.hid (Hbi.out.trans (hb1.mono hsi))
            have Hown1 := Lib.hid (ownsRow_below Howni.out hb1)
            have G0 := Lib.hid g0
            have G1 := Lib.hid g1
            have G2 := Lib.hid g2
            clear hb1 x0 x1 x2 d1 d3 f1 f3 d2 f2 hbb g0
            go_wp2_with fail
            go_region_held3 (fun w' => w'.cell? ⟨wo.heap.size, 1, none⟩ = some (.int .i64 (l : Int)) ∧ w'.cell? ⟨wo.heap.size, 2, none⟩ = some (.int .i64 (q : Int)) ∧ w'.cell? ⟨b, o + l, none⟩ = some (.slice (some ⟨b1, o1, none⟩) a.next.length c1) ∧ w'.cell? ⟨b1, o1 + j, none⟩ = some (.int .i64 (m1 : Int)) ∧ w'.cell? ⟨b, o + q, none⟩ = some (.slice (some ⟨b3, o3, none⟩) a.next.length c3) ∧ w'.cell? ⟨b3, o3 + m1, none⟩ = some (.int .i64 (m2 : Int)))
              (first | go_keep | exact keepM (N := wo.heap.size + 1) (by assumption) hgrow (fun g hg => (World.ownsRow.lt Hown1.out g hg).1) (by simp) (by simp) (by show b < _; omega) (by show b1 < _; omega) (by show b < _; omega) (by show b3 < _; omega))
              ((refine step_push_int (y := (m2 : Int)) (N := w1.heap.size) (base := wo.heap.size + 1) (by rfl) _ _ (by rfl) (by rfl) (by rfl) (by simp [go_sem]) (OwnInts.drew (OwnInts.alloc Hown1.out _)) hlen (Nat.le_trans hz1 (leDA _ _)) ?_; intro v' w2 hown2 hgrow hblk))
            have B2 : Below (wo.heap.size + 1) w1 w2 := (((Below.refl _ _).alloc hz1 _).drew).grown hgrow (Nat.le_trans hz1 (leDA _ _)) (fun g hg => (World.ownsRow.lt Hown1.out g hg).1)
            have q0 := (B2.cell (p := ⟨wo.heap.size, 0, none⟩) (by simp)).trans G0.out
            have q1 := (B2.cell (p := ⟨wo.heap.size, 1, none⟩) (by simp)).trans G1.out
            have q2 := (B2.cell (p := ⟨wo.heap.size, 2, none⟩) (by simp)).trans G2.out
            have hz2 : wo.heap.size < w2.heap.size := by have := B2.size; omega
            have HB2 := Lib.hid (Hb1.out.trans (B2.mono (by omega)))
            have Hown2 := Lib.hid hown2
            clear B2 hown2 hgrow hblk
            go_wp2_with fail
            go_roundw
            case rel => exact ⟨j + 1, by omega, by go_num, HB2.out, hz2, q0, by rw [q1, Hl1.out], by rw [q2, Hq1.out], by rw [Hnx.out, Hm2.out]; exact Hown2.out⟩
            case measure => simp [intOf]; omega
          · obtain ⟨p1, p2, p3⟩ := letter_of_ok Hok.out (by simpa using hp)
            have hp' : (⟨rs, rl, rr⟩ : GRule).pair = false := by simpa using hp
            have Hp := Lib.hid hp'
            have hemp : rs.toList.isEmpty = false := by rw [isEmpty_size]; simpa [GRule.pair] using hp'
            simp only at p1 p2 p3
            have hs0 : 0 < rs.size := by omega
            rw [getD0 rs hs0] at p2 p3
            obtain ⟨d, hd⟩ : ∃ d, rs[0].toNat = 97 + d := ⟨rs[0].toNat - 97, by omega⟩
            have hd4 : d < 4 := by omega
            have r1 := N4.out j hjl
            have hcellv : (a.next.getD j []).getD d 0 = m2 := by
              have := Hm2.out
              rw [mapCell, Hp.out] at this
              simp only [Bool.false_eq_true, if_false, getD0 rs hs0, hd] at this
              rw [← this]; congr 1; omega
            have hBr := HBB.out.trans (Hbi.out.mono (by omega))
            obtain ⟨b, o, rfl, hbb, hcells⟩ := cells2 (HN.out.keep (Keep.of_below hBr)) (by omega)
            obtain ⟨b1, o1, c1, d1, d2, d3⟩ := hcells j d hjl (by rw [r1.1]; exact hd4)
            rw [r1.1] at d1
            rw [hcellv] at d3
            have y0 : b < wo.heap.size := by have : b < w.heap.size := hbb; omega
            have y2 : b1 < wo.heap.size := by have : b1 < w.heap.size := d2; omega
            have i4 : (d : Int) < 4 := by omega
            have h8 : IntKind.u8.wrap ((rs[0].toNat : Int) - 97) = (d : Int) := by rw [hd, IntWalk.u8_in _ (by omega)]; omega
            have his : (0 : Int) < (rs.size : Int) := by omega
            have H8 := Lib.hid h8
            clear hp hp' r1 hcellv hcells hd h8 hBr p1 p2 p3
            go_wp2_with fail
            refine (isPair_b _ _ _ _).mono ?_
            rintro e w1 ⟨rfl, hb1⟩
            have g0 := (hb1.cell (p := ⟨wo.heap.size, 0, none⟩) hzi).trans x0
            have g1 := (hb1.cell (p := ⟨wo.heap.size, 1, none⟩) hzi).trans x1
            have g2 := (hb1.cell (p := ⟨wo.heap.size, 2, none⟩) hzi).trans x2
            have g3 := (hb1.cell (p := ⟨b, o + j, none⟩) (by show b < _; omega)).trans d1
            have g4 := (hb1.cell (p := ⟨b1, o1 + d, none⟩) (by show b1 < _; omega)).trans d3
            have hz1 : wo.heap.size < w1.heap.size := by have := hb1.size; omega
            have z0 : b < w1.heap.size := by omega
            have z2 : b1 < w1.heap.size := by omega
            have Hb1 := Lib.hid (Hbi.out.trans (hb1.mono hsi))
            have Hown1 := Lib.hid (ownsRow_below Howni.out hb1)
            have G0 := Lib.hid g0
            have G1 := Lib.hid g1
            have G2 := Lib.hid g2
            clear hb1 x0 x1 x2 d1 d3 d2 hbb g1 g2
            go_wp2_with fail
            have h8 := H8.out
            go_region_held3 (fun w' => w'.cell? ⟨wo.heap.size, 0, none⟩ = some (.string rs) ∧ w'.cell? ⟨b, o + j, none⟩ = some (.slice (some ⟨b1, o1, none⟩) 4 c1) ∧ w'.cell? ⟨b1, o1 + d, none⟩ = some (.int .i64 (m2 : Int)))
              (first | go_keep | exact keepM3 (N := wo.heap.size + 1) (by assumption) hgrow (fun g hg => (World.ownsRow.lt Hown1.out g hg).1) (by simp) (by show b < _; omega) (by show b1 < _; omega))
              ((refine step_push_int (y := (m2 : Int)) (N := w1.heap.size) (base := wo.heap.size + 1) (by rfl) _ _ (by rfl) (by rfl) (by rfl) (by simp [go_sem]) (OwnInts.drew (OwnInts.alloc Hown1.out _)) hlen (Nat.le_trans hz1 (leDA _ _)) ?_; intro v' w2 hown2 hgrow hblk))
            clear h8
            have B2 : Below (wo.heap.size + 1) w1 w2 := (((Below.refl _ _).alloc hz1 _).drew).grown hgrow (Nat.le_trans hz1 (leDA _ _)) (fun g hg => (World.ownsRow.lt Hown1.out g hg).1)
            have q0 := (B2.cell (p := ⟨wo.heap.size, 0, none⟩) (by simp)).trans G0.out
            have q1 := (B2.cell (p := ⟨wo.heap.size, 1, none⟩) (by simp)).trans G1.out
            have q2 := (B2.cell (p := ⟨wo.heap.size, 2, none⟩) (by simp)).trans G2.out
            have hz2 : wo.heap.size < w2.heap.size := by have := B2.size; omega
            have HB2 := Lib.hid (Hb1.out.trans (B2.mono (by omega)))
            have Hown2 := Lib.hid hown2
            clear B2 hown2 hgrow hblk
            go_wp2_with fail
            go_roundw
            case rel => exact ⟨j + 1, by omega, by go_num, HB2.out, hz2, q0, q1, q2, by rw [Hnx.out, Hm2.out]; exact Hown2.out⟩
            case measure => simp [intOf]; omega
        · have hjn : j = a.next.length := by omega
          have hown3 := ownsRow_below Hown.out Hbi.out
          have Hown3 := Lib.hid hown3
          obtain ⟨Ar, cr, hvr, _⟩ := own_nil Howni.out
          subst hvr
          have Hrow : Hid ((List.range j).map (mapCell a.next M ⟨rs, rl, rr⟩) = mapRow a.next M ⟨rs, rl, rr⟩) := by rw [Hid, mapRow, hjn]
          clear hown3
          go_wp2_with (at_builtin; go_must (refine push_sl (W := wr) (N := wr.heap.size) (base := w.heap.size + 1) rfl _ _ rfl rfl rfl rfl rfl (by exact Hown3.out) (by omega) (by omega) ?_); intro v' w2 hown2 hgrow hblk)
          have Hea2 := Lib.hid (maps_push (B := wo.heap.size + 1) (by omega) (by omega) Hown.out Hea.out Hbi.out Howni.out hgrow hblk)
          have Hown2 := Lib.hid hown2
          have B2 := Lib.hid (HB.out.trans (((Hbi.out.mono (by omega)).alloc (by omega) _).grown hgrow (by simp; omega) (fun g hg => (World.ownsRow.lt Hown.out g hg).1)))
          clear hown2 hgrow hblk
          go_roundw
          case rel => exact ⟨k + 1, _, by omega, by go_num, B2.out, Hown2.out, by rw [Hsn.out, ← Hrow.out]; have := Hea2.out; simp only [List.length_map, List.length_range, hjn] at this ⊢; exact this⟩
          case measure => simp [intOf]; omega
    · have hkn : k = xs.length := by omega
      subst hkn
      rw [List.take_length] at Hea
      have Hsl : Hid (SlS (SliceE IntE) wo (fun b => w.heap.size ≤ b ∧ b < wo.heap.size) u5 (mapsOf a.next xs)) :=
        (Hea.out.more (S' := fun b => w.heap.size ≤ b ∧ b < wo.heap.size) fun b h => ⟨by have := h.1; omega, h.2.1⟩).sl (by rw [mapsOf_len]; exact Hown.out) fun g hg => by have := World.ownsRow.lt Hown.out g hg; omega
      go_wp2_with fail
      go_ret
      exact ⟨_, rfl, Hsl.out, HBB.out⟩
end Go.Proofs.Ytfkijaamfmpboaa
