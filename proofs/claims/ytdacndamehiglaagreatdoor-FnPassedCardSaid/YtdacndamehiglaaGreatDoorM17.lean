import Derived.Test.YtdacndamehiglaaGreatDoorM15
import Derived.Test.YtdacndamehiglaaGreatDoorM16
import Derived.Test.YtdacndamehiglaaGreatDoorM14
import Derived.Test.YtdacndamehiglaaGreatDoorM7
import Derived.Test.YtdacndamehiglaaGreatDoorM1
import Derived.Shelf.SlicesE.Reverse
import Derived.Lib.ConvBytes
import Derived.Lib.RowBridge
import Derived.Laws.IdiomCopy
import Derived.Lib.LazyBuf
import Derived.Test.YtdacndamehiglaaGreatDoorM6
import Derived.Test.YtdacndamehiglaaGreatDoorM3
import Derived.Test.YtdacndamehiglaaGreatDoorM13
import Derived.Test.YtdacndamehiglaaGreatDoorM2
import Derived.Deep.CutRange
import Derived.Deep.DeepCutAuto
import Derived.Test.YtdacndamehiglaaGreatDoorM11
import Derived.Shelf.Strings.BuilderK
import Derived.Laws.EntriesVeiled
namespace Go.Proofs.YtdacndamehiglaaGreatDoor
def insW (w : List UInt8) (i : Nat) (p : List UInt8) : List UInt8 := w.take i ++ (p ++ w.drop i)
def delW (w : List UInt8) (i j : Nat) : List UInt8 := w.take i ++ w.drop j
theorem insW_len (w p : List UInt8) {i : Nat} (hi : i ≤ w.length) : (insW w i p).length = w.length + p.length := by
  unfold insW; simp only [List.length_append, List.length_take, List.length_drop]; omega
theorem delW_len (w : List UInt8) {i j : Nat} (hi : i ≤ j) (hj : j ≤ w.length) : (delW w i j).length = w.length - (j - i) := by
  unfold delW; simp only [List.length_append, List.length_take, List.length_drop]; omega
theorem insW_get (w p : List UInt8) {i : Nat} (hi : i ≤ w.length) (k : Nat) : (insW w i p)[k]? = if k < i then w[k]? else if k < i + p.length then p[k - i]? else w[k - p.length]? := by
  unfold insW
  have hl : (w.take i).length = i := by rw [List.length_take]; omega
  by_cases h1 : k < i
  · rw [if_pos h1, List.getElem?_append_left (by omega), List.getElem?_take, if_pos h1]
  · rw [if_neg h1, List.getElem?_append_right (by omega), hl]
    by_cases h2 : k < i + p.length
    · rw [if_pos h2, List.getElem?_append_left (by omega)]
    · rw [if_neg h2, List.getElem?_append_right (by omega), List.getElem?_drop]
      congr 1; omega
theorem delW_get (w : List UInt8) {i j : Nat} (hi : i ≤ j) (hj : j ≤ w.length) (k : Nat) : (delW w i j)[k]? = if k < i then w[k]? else w[k + (j - i)]? := by
  unfold delW
  have hl : (w.take i).length = i := by rw [List.length_take]; omega
  by_cases h1 : k < i
  · rw [if_pos h1, List.getElem?_append_left (by omega), List.getElem?_take, if_pos h1]
  · rw [if_neg h1, List.getElem?_append_right (by omega), hl, List.getElem?_drop]
    congr 1; omega
theorem delW_same (w : List UInt8) (i : Nat) : delW w i i = w := by unfold delW; exact List.take_append_drop i w
theorem ins_ins (w p q : List UInt8) {i j : Nat} (hij : i ≤ j) (hj : j ≤ w.length) : insW (insW w i p) (j + p.length) q = insW (insW w j q) i p := by
  have l1 := insW_len w p (i := i) (by omega)
  have l2 := insW_len w q hj
  apply List.ext_getElem?
  intro k
  rw [insW_get _ _ (by omega), insW_get _ _ (by omega), insW_get _ _ (by omega), insW_get _ _ (by omega), insW_get _ _ (by omega), insW_get _ _ (by omega)]
  repeat' split
  all_goals first | rfl | omega | (congr 1; omega)
theorem ins_del1 (w p : List UInt8) {i a b : Nat} (hi : i ≤ a) (hab : a ≤ b) (hb : b ≤ w.length) : delW (insW w i p) (a + p.length) (b + p.length) = insW (delW w a b) i p := by
  have l1 := insW_len w p (i := i) (by omega)
  have l2 := delW_len w hab hb
  apply List.ext_getElem?
  intro k
  rw [delW_get _ (by omega) (by omega), insW_get _ _ (by omega), insW_get _ _ (by omega), insW_get _ _ (by omega), delW_get _ (by omega) (by omega), delW_get _ (by omega) (by omega)]
  repeat' split
  all_goals first | rfl | omega | (congr 1; omega)
theorem ins_del2 (w p : List UInt8) {i a b : Nat} (hi : b ≤ i) (hab : a ≤ b) (hb : i ≤ w.length) : delW (insW w i p) a b = insW (delW w a b) (i - (b - a)) p := by
  have l1 := insW_len w p (i := i) (by omega)
  have l2 := delW_len w (i := a) (j := b) hab (by omega)
  apply List.ext_getElem?
  intro k
  rw [delW_get _ (by omega) (by omega), insW_get _ _ (by omega), insW_get _ _ (by omega), insW_get _ _ (by omega), delW_get _ (by omega) (by omega), delW_get _ (by omega) (by omega)]
  repeat' split
  all_goals first | rfl | omega | (congr 1; omega)
theorem ins_del3 (w p : List UInt8) {i a b : Nat} (ha : a < i) (hi : i < b) (hb : b ≤ w.length) : delW (delW (insW w i p) (i + p.length) (b + p.length)) a i = insW (delW w a b) a p := by
  have l1 := insW_len w p (i := i) (by omega)
  have l2 := delW_len w (i := a) (j := b) (by omega) (by omega)
  have l3 := delW_len (insW w i p) (i := i + p.length) (j := b + p.length) (by omega) (by omega)
  apply List.ext_getElem?
  intro k
  rw [delW_get _ (by omega) (by omega), delW_get _ (by omega) (by omega), delW_get _ (by omega) (by omega), insW_get _ _ (by omega), insW_get _ _ (by omega), insW_get _ _ (by omega), insW_get _ _ (by omega), insW_get _ _ (by omega), delW_get _ (by omega) (by omega), delW_get _ (by omega) (by omega)]
  repeat' split
  all_goals first | rfl | omega | (congr 1; omega)
def lessN (a b p : Nat) : Nat := if p ≤ a then p else if p < b then a else p - (b - a)
theorem lessN_at (a b p : Nat) : (p ≤ a ∧ lessN a b p = p) ∨ (a < p ∧ p < b ∧ lessN a b p = a) ∨ (a < p ∧ b ≤ p ∧ lessN a b p = p - (b - a)) := by
  unfold lessN
  by_cases h1 : p ≤ a
  · exact .inl ⟨h1, if_pos h1⟩
  · by_cases h2 : p < b
    · exact .inr (.inl ⟨by omega, h2, by rw [if_neg h1, if_pos h2]⟩)
    · exact .inr (.inr ⟨by omega, by omega, by rw [if_neg h1, if_neg h2]⟩)
theorem delW_ix (w : List UInt8) {i j : Nat} (hi : i ≤ j) (hj : j ≤ w.length) (k : Nat) : ∃ m, (delW w i j)[k]? = w[m]? ∧ (k < i ∧ m = k ∨ i ≤ k ∧ m = k + (j - i)) := by
  rw [delW_get w hi hj]
  by_cases h : k < i
  · exact ⟨k, if_pos h, .inl ⟨h, rfl⟩⟩
  · exact ⟨k + (j - i), if_neg h, .inr ⟨by omega, rfl⟩⟩
theorem del_del (w : List UInt8) {a b c d : Nat} (hab : a ≤ b) (hb : b ≤ w.length) (hcd : c ≤ d) (hd : d ≤ w.length) : delW (delW w a b) (lessN a b c) (lessN a b d) = delW (delW w c d) (lessN c d a) (lessN c d b) := by
  have l1 := delW_len w hab hb
  have l2 := delW_len w hcd hd
  have k1 := lessN_at a b c
  have k2 := lessN_at a b d
  have k3 := lessN_at c d a
  have k4 := lessN_at c d b
  generalize lessN a b c = c' at *
  generalize lessN a b d = d' at *
  generalize lessN c d a = a' at *
  generalize lessN c d b = b' at *
  apply List.ext_getElem?
  intro k
  obtain ⟨m1, e1, f1⟩ := delW_ix (delW w a b) (i := c') (j := d') (by omega) (by omega) k
  obtain ⟨m2, e2, f2⟩ := delW_ix w hab hb m1
  obtain ⟨m3, e3, f3⟩ := delW_ix (delW w c d) (i := a') (j := b') (by omega) (by omega) k
  obtain ⟨m4, e4, f4⟩ := delW_ix w hcd hd m3
  rw [e1, e2, e3, e4]
  congr 1
  omega
structure RunE (h : List GRule) (bs : List GEdit) (w : List UInt8) : Prop where
  ok : ∀ b ∈ bs, editOk b = true
  num : (bs.foldl stepE (h, 0)).2 = (bs.length : Nat)
  mrg : mrgF h bs = some (bs.foldl stepE (h, 0)).1
  word : wordG (bs.foldl stepE (h, 0)).1 = w
  right : gramOk (bs.foldl stepE (h, 0)).1 = true
theorem RunE.nil {h : List GRule} (hg : gramOk h = true) : RunE h [] (wordG h) := ⟨fun b hb => absurd hb (by simp), rfl, rfl, rfl, hg⟩
theorem RunE.one {h : List GRule} {b : GEdit} {w : List UInt8} (hc : applyCode h b = 0) (hw : wordG (applyOut h b) = w) : RunE h [b] w := by
  have e : [b].foldl stepE (h, 0) = (applyOut h b, 1) := by
    show stepE (h, 0) b = _
    unfold stepE; rw [if_pos hc]; rfl
  refine ⟨fun x hx => ?_, by rw [e]; rfl, ?_, by rw [e]; exact hw, by rw [e]; exact applyOut_ok h b⟩
  · simp only [List.mem_singleton] at hx; subst hx; exact (applyCode_ok hc).2.1
  · rw [e]; show (if applyCode h b = 0 then _ else _) = _; rw [if_pos hc]; rfl
theorem RunE.two {h : List GRule} {b c : GEdit} {w : List UInt8} (hc : applyCode h b = 0) (hd : applyCode (applyOut h b) c = 0) (hw : wordG (applyOut (applyOut h b) c) = w) : RunE h [b, c] w := by
  have e : [b, c].foldl stepE (h, 0) = (applyOut (applyOut h b) c, 2) := by
    show stepE (stepE (h, 0) b) c = _
    unfold stepE; rw [if_pos hc, if_pos hd]; rfl
  refine ⟨fun x hx => ?_, by rw [e]; rfl, ?_, by rw [e]; exact hw, by rw [e]; exact applyOut_ok _ c⟩
  · simp only [List.mem_cons, List.not_mem_nil, or_false] at hx
    rcases hx with rfl | rfl
    · exact (applyCode_ok hc).2.1
    · exact (applyCode_ok hd).2.1
  · rw [e]; show (if applyCode h b = 0 then (if applyCode (applyOut h b) c = 0 then _ else _) else _) = _; rw [if_pos hc, if_pos hd]; rfl
def SmP (p : List GRule) : Prop := gramOk p = true ∧ 0 < p.length ∧ p.length ≤ 14 ∧ gramLen p ≤ 5
theorem ins_run {h p : List GRule} {i : Nat} (hg : gramOk h = true) (hs : (wordG h).length ≤ 60) (hi : i ≤ (wordG h).length) (hp : SmP p) : applyCode h (insE i p) = 0 ∧ wordG (applyOut h (insE i p)) = insW (wordG h) i (wordG p) ∧ gramOk (applyOut h (insE i p)) = true := by
  have hl := glen hg
  have hc : applyCode h (insE i p) = 0 := ins_can hg ⟨by omega, by omega⟩ (by omega) hp.2.1 hp.1 (by have := hp.2.2.1; omega) (by have := hp.2.2.2; omega)
  refine ⟨hc, ?_, applyOut_ok _ _⟩
  have he := edit_word hc
  unfold EwP at he
  rw [if_pos (show (insE (i : Int) p).kind = 1 from rfl)] at he
  rw [he]
  show cutL (wordG h) 0 (i : Int) ++ wordG p ++ cutL (wordG h) (i : Int) ((wordG h).length : Nat) = _
  unfold cutL insW
  rw [Int.toNat_natCast, Int.toNat_natCast, List.take_length, List.append_assoc]
  rfl
theorem del_run {h : List GRule} {i j : Nat} (hg : gramOk h = true) (hs : (wordG h).length ≤ 60) (hi : i ≤ j) (hj : j ≤ (wordG h).length) : applyCode h (delE i j) = 0 ∧ wordG (applyOut h (delE i j)) = delW (wordG h) i j ∧ gramOk (applyOut h (delE i j)) = true := by
  have hl := glen hg
  have hc : applyCode h (delE i j) = 0 := del_can hg ⟨by omega, by omega, by omega⟩ (by omega)
  refine ⟨hc, ?_, applyOut_ok _ _⟩
  have he := edit_word hc
  unfold EwP at he
  rw [if_neg (show ¬ (delE (i : Int) j).kind = 1 by show ¬ (2 : Int) = 1; omega), if_pos (show (delE (i : Int) j).kind = 2 from rfl)] at he
  rw [he]
  show cutL (wordG h) 0 (i : Int) ++ cutL (wordG h) (j : Int) ((wordG h).length : Nat) = _
  unfold cutL delW
  rw [Int.toNat_natCast, Int.toNat_natCast, Int.toNat_natCast, List.take_length]
  rfl
theorem run_ins {h p : List GRule} {i : Nat} {w : List UInt8} (hg : gramOk h = true) (hs : (wordG h).length ≤ 60) (hi : i ≤ (wordG h).length) (hp : SmP p) (hw : insW (wordG h) i (wordG p) = w) : RunE h [insE i p] w := by
  obtain ⟨a, b, _⟩ := ins_run hg hs hi hp
  exact RunE.one a (b.trans hw)
theorem run_del {h : List GRule} {i j : Nat} {w : List UInt8} (hg : gramOk h = true) (hs : (wordG h).length ≤ 60) (hi : i ≤ j) (hj : j ≤ (wordG h).length) (hw : delW (wordG h) i j = w) : RunE h [delE i j] w := by
  obtain ⟨a, b, _⟩ := del_run hg hs hi hj
  exact RunE.one a (b.trans hw)
theorem lessP_nat {e : GEdit} {a b : Nat} (ha : e.i = a) (hb : e.j = b) (hab : a ≤ b) (p : Nat) : lessP e p = (lessN a b p : Nat) := by
  unfold lessP lessN
  rw [ha, hb]
  by_cases h1 : p ≤ a
  · rw [if_pos h1, if_pos (by omega)]
  · rw [if_neg h1, if_neg (by omega)]
    by_cases h2 : p < b
    · rw [if_pos h2, if_pos (by omega)]
    · rw [if_neg h2, if_neg (by omega)]; omega
def PassOk (xs : List GRule) (e f : GEdit) : Prop :=
  applyCode xs e = 0 ∧ applyCode xs f = 0 ∧ ∃ w, RunE (applyOut xs e) (passE f e false) w ∧ RunE (applyOut xs f) (passE e f true) w
theorem pass_ii {xs p q : List GRule} {i j : Nat} (hx : gramOk xs = true) (hs : (wordG xs).length ≤ 30) (hi : i ≤ (wordG xs).length) (hj : j ≤ (wordG xs).length) (hp : SmP p) (hq : SmP q) : PassOk xs (insE i p) (insE j q) := by
  obtain ⟨a1, a2, a3⟩ := ins_run hx (by omega) hi hp
  obtain ⟨b1, b2, b3⟩ := ins_run hx (by omega) hj hq
  have lp := glen hp.1
  have lq := glen hq.1
  have kp := hp.2.2.2
  have kq := hq.2.2.2
  have la := congrArg List.length a2
  have lb := congrArg List.length b2
  rw [insW_len _ _ hi] at la
  rw [insW_len _ _ hj] at lb
  refine ⟨a1, b1, ?_⟩
  by_cases c : i ≤ j
  · have e1 : passE (insE j q) (insE i p) false = [insE ((j + (wordG p).length : Nat) : Int) q] := by
      unfold passE
      rw [if_pos (show (insE (j : Int) q).kind = 1 from rfl)]
      unfold passI
      rw [if_pos (show (insE (i : Int) p).kind = 1 from rfl), if_pos (show (insE (i : Int) p).i < (insE (j : Int) q).i ∨ ((insE (i : Int) p).i = (insE (j : Int) q).i ∧ false = false) by show (i : Int) < (j : Int) ∨ ((i : Int) = (j : Int) ∧ _); by_cases h : i < j; exact .inl (by omega); exact .inr ⟨by omega, rfl⟩)]
      show [insE ((j : Int) + gramLen p) q] = _
      rw [lp]; congr 1
    have e2 : passE (insE i p) (insE j q) true = [insE (i : Int) p] := by
      unfold passE
      rw [if_pos (show (insE (i : Int) p).kind = 1 from rfl)]
      unfold passI
      rw [if_pos (show (insE (j : Int) q).kind = 1 from rfl), if_neg (show ¬ ((insE (j : Int) q).i < (insE (i : Int) p).i ∨ ((insE (j : Int) q).i = (insE (i : Int) p).i ∧ true = false)) by show ¬ ((j : Int) < (i : Int) ∨ ((j : Int) = (i : Int) ∧ _)); rintro (h | ⟨_, h⟩); omega; cases h)]
      rfl
    rw [e1, e2]
    exact ⟨_, run_ins a3 (by omega) (by omega) hq rfl, run_ins b3 (by omega) (by omega) hp (by rw [a2, b2]; exact (ins_ins _ _ _ c hj).symm)⟩
  · have e1 : passE (insE j q) (insE i p) false = [insE (j : Int) q] := by
      unfold passE
      rw [if_pos (show (insE (j : Int) q).kind = 1 from rfl)]
      unfold passI
      rw [if_pos (show (insE (i : Int) p).kind = 1 from rfl), if_neg (show ¬ ((insE (i : Int) p).i < (insE (j : Int) q).i ∨ ((insE (i : Int) p).i = (insE (j : Int) q).i ∧ false = false)) by show ¬ ((i : Int) < (j : Int) ∨ ((i : Int) = (j : Int) ∧ _)); rintro (h | ⟨h, _⟩) <;> omega)]
      rfl
    have e2 : passE (insE i p) (insE j q) true = [insE ((i + (wordG q).length : Nat) : Int) p] := by
      unfold passE
      rw [if_pos (show (insE (i : Int) p).kind = 1 from rfl)]
      unfold passI
      rw [if_pos (show (insE (j : Int) q).kind = 1 from rfl), if_pos (show (insE (j : Int) q).i < (insE (i : Int) p).i ∨ ((insE (j : Int) q).i = (insE (i : Int) p).i ∧ true = false) by show (j : Int) < (i : Int) ∨ _; exact .inl (by omega))]
      show [insE ((i : Int) + gramLen q) p] = _
      rw [lq]; congr 1
    rw [e1, e2]
    exact ⟨_, run_ins a3 (by omega) (by omega) hq rfl, run_ins b3 (by omega) (by omega) hp (by rw [a2, b2]; exact ins_ins _ _ _ (by omega) hi)⟩
theorem lessN_le {a b p n : Nat} (hab : a ≤ b) (hp : p ≤ n) (hb : b ≤ n) : lessN a b p ≤ n - (b - a) := by
  have := lessN_at a b p
  omega
theorem pd_run {xs p : List GRule} {i a b : Nat} (first : Bool) (hx : gramOk xs = true) (hs : (wordG xs).length ≤ 30) (hi : i ≤ (wordG xs).length) (hp : SmP p) (hab : a ≤ b) (hb : b ≤ (wordG xs).length) :
    RunE (applyOut xs (insE i p)) (passE (delE a b) (insE i p) first) (insW (delW (wordG xs) a b) (lessN a b i) (wordG p)) := by
  obtain ⟨a1, a2, a3⟩ := ins_run hx (by omega) hi hp
  have lp := glen hp.1
  have kp := hp.2.2.2
  have la := congrArg List.length a2
  rw [insW_len _ _ hi] at la
  have k1 := lessN_at a b i
  unfold passE
  rw [if_neg (show ¬ (delE (a : Int) b).kind = 1 by show ¬ (2 : Int) = 1; omega)]
  by_cases h0 : a = b
  · subst h0
    rw [if_pos (show (delE (a : Int) a).i = (delE (a : Int) a).j from rfl)]
    have e : lessN a a i = i := by omega
    rw [delW_same, e, ← a2]
    exact RunE.nil a3
  · rw [if_neg (show ¬ (delE (a : Int) b).i = (delE (a : Int) b).j by show ¬ (a : Int) = (b : Int); omega), if_pos (show (insE (i : Int) p).kind = 1 from rfl)]
    by_cases h1 : i ≤ a
    · rw [if_pos (show (insE (i : Int) p).i ≤ (delE (a : Int) b).i by show (i : Int) ≤ (a : Int); omega)]
      show RunE _ [delE ((a : Int) + gramLen p) ((b : Int) + gramLen p)] _
      rw [lp, show (a : Int) + ((wordG p).length : Nat) = ((a + (wordG p).length : Nat) : Int) by omega, show (b : Int) + ((wordG p).length : Nat) = ((b + (wordG p).length : Nat) : Int) by omega, show lessN a b i = i by omega]
      exact run_del a3 (by omega) (by omega) (by omega) (by rw [a2]; exact ins_del1 _ _ h1 hab hb)
    · rw [if_neg (show ¬ (insE (i : Int) p).i ≤ (delE (a : Int) b).i by show ¬ (i : Int) ≤ (a : Int); omega)]
      by_cases h2 : b ≤ i
      · rw [if_pos (show (delE (a : Int) b).j ≤ (insE (i : Int) p).i by show (b : Int) ≤ (i : Int); omega), show lessN a b i = i - (b - a) by omega]
        exact run_del a3 (by omega) hab (by omega) (by rw [a2]; exact ins_del2 _ _ h2 hab hi)
      · rw [if_neg (show ¬ (delE (a : Int) b).j ≤ (insE (i : Int) p).i by show ¬ (b : Int) ≤ (i : Int); omega)]
        show RunE _ [delE ((i : Int) + gramLen p) ((b : Int) + gramLen p), delE (a : Int) (i : Int)] _
        rw [lp, show (i : Int) + ((wordG p).length : Nat) = ((i + (wordG p).length : Nat) : Int) by omega, show (b : Int) + ((wordG p).length : Nat) = ((b + (wordG p).length : Nat) : Int) by omega, show lessN a b i = a by omega]
        obtain ⟨c1, c2, c3⟩ := del_run (h := applyOut xs (insE i p)) (i := i + (wordG p).length) (j := b + (wordG p).length) a3 (by omega) (by omega) (by omega)
        have lc := congrArg List.length c2
        rw [a2, delW_len _ (by omega) (by rw [insW_len _ _ hi]; omega), insW_len _ _ hi] at lc
        obtain ⟨d1, d2, _⟩ := del_run (h := applyOut (applyOut xs (insE i p)) (delE ((i + (wordG p).length : Nat) : Int) ((b + (wordG p).length : Nat) : Int))) (i := a) (j := i) c3 (by omega) (by omega) (by omega)
        exact RunE.two c1 d1 (by rw [d2, c2, a2]; exact ins_del3 _ _ (by omega) (by omega) hb)
theorem pi_run {xs p : List GRule} {i a b : Nat} (first : Bool) (hx : gramOk xs = true) (hs : (wordG xs).length ≤ 30) (hi : i ≤ (wordG xs).length) (hp : SmP p) (hab : a ≤ b) (hb : b ≤ (wordG xs).length) :
    RunE (applyOut xs (delE a b)) (passE (insE i p) (delE a b) first) (insW (delW (wordG xs) a b) (lessN a b i) (wordG p)) := by
  obtain ⟨a1, a2, a3⟩ := del_run hx (by omega) hab hb
  have la := congrArg List.length a2
  rw [delW_len _ hab hb] at la
  have hl := lessN_le hab hi hb
  unfold passE
  rw [if_pos (show (insE (i : Int) p).kind = 1 from rfl)]
  unfold passI
  rw [if_neg (show ¬ (delE (a : Int) b).kind = 1 by show ¬ (2 : Int) = 1; omega), show (insE (i : Int) p).i = (i : Int) from rfl, lessP_nat (e := delE (a : Int) b) rfl rfl hab]
  exact run_ins a3 (by omega) (by omega) hp (by rw [a2]; rfl)
theorem dd_run {xs : List GRule} {a b c d : Nat} (first : Bool) (hx : gramOk xs = true) (hs : (wordG xs).length ≤ 30) (hab : a ≤ b) (hb : b ≤ (wordG xs).length) (hcd : c ≤ d) (hd : d ≤ (wordG xs).length) :
    RunE (applyOut xs (delE a b)) (passE (delE c d) (delE a b) first) (delW (delW (wordG xs) a b) (lessN a b c) (lessN a b d)) := by
  obtain ⟨a1, a2, a3⟩ := del_run hx (by omega) hab hb
  have la := congrArg List.length a2
  rw [delW_len _ hab hb] at la
  have hl := lessN_le hab hd hb
  have k1 := lessN_at a b c
  have k2 := lessN_at a b d
  unfold passE
  rw [if_neg (show ¬ (delE (c : Int) d).kind = 1 by show ¬ (2 : Int) = 1; omega)]
  by_cases h0 : c = d
  · subst h0
    rw [if_pos (show (delE (c : Int) c).i = (delE (c : Int) c).j from rfl), delW_same, ← a2]
    exact RunE.nil a3
  · rw [if_neg (show ¬ (delE (c : Int) d).i = (delE (c : Int) d).j by show ¬ (c : Int) = (d : Int); omega), if_neg (show ¬ (delE (a : Int) b).kind = 1 by show ¬ (2 : Int) = 1; omega)]
    show RunE _ (remE (lessP (delE (a : Int) b) (c : Int)) (lessP (delE (a : Int) b) (d : Int))) _
    rw [lessP_nat (e := delE (a : Int) b) rfl rfl hab, lessP_nat (e := delE (a : Int) b) rfl rfl hab]
    unfold remE
    by_cases h1 : lessN a b c < lessN a b d
    · rw [if_pos (by omega)]
      exact run_del a3 (by omega) (by omega) (by omega) (by rw [a2])
    · rw [if_neg (by omega), show lessN a b d = lessN a b c by omega, delW_same, ← a2]
      exact RunE.nil a3
def PlE (n : Int) (e : GEdit) : Prop := (∃ (i : Nat) (p : List GRule), e = insE i p ∧ (i : Int) ≤ n ∧ SmP p) ∨ (∃ i j : Nat, e = delE i j ∧ i ≤ j ∧ (j : Int) ≤ n)
theorem pass_ok {xs : List GRule} {e f : GEdit} (hx : gramOk xs = true) (hs : gramLen xs ≤ 30) (he : PlE (gramLen xs) e) (hf : PlE (gramLen xs) f) : PassOk xs e f := by
  have hl := glen hx
  have h30 : (wordG xs).length ≤ 30 := by omega
  rcases he with ⟨i, p, rfl, hi, hp⟩ | ⟨a, b, rfl, hab, hb⟩
  · rcases hf with ⟨j, q, rfl, hj, hq⟩ | ⟨c, d, rfl, hcd, hd⟩
    · exact pass_ii hx h30 (by omega) (by omega) hp hq
    · exact ⟨(ins_run hx (by omega) (by omega) hp).1, (del_run hx (by omega) hcd (by omega)).1, _, pd_run false hx h30 (by omega) hp hcd (by omega), pi_run true hx h30 (by omega) hp hcd (by omega)⟩
  · rcases hf with ⟨j, q, rfl, hj, hq⟩ | ⟨c, d, rfl, hcd, hd⟩
    · exact ⟨(del_run hx (by omega) hab (by omega)).1, (ins_run hx (by omega) (by omega) hq).1, _, pi_run false hx h30 (by omega) hq hab (by omega), pd_run true hx h30 (by omega) hq hab (by omega)⟩
    · refine ⟨(del_run hx (by omega) hab (by omega)).1, (del_run hx (by omega) hcd (by omega)).1, _, dd_run false hx h30 hab (by omega) hcd (by omega), ?_⟩
      rw [del_del (wordG xs) hab (by omega) hcd (by omega)]
      exact dd_run true hx h30 hcd (by omega) hab (by omega)
theorem plE_ok {n : Int} {e : GEdit} (h : PlE n e) (hn : n ≤ 1000000000000000) : editOk e = true ∧ simE e = true ∧ editFits e n = true ∧ e.part.length ≤ 14 ∧ e.map.size = 0 := by
  rcases h with ⟨i, p, rfl, hi, hp⟩ | ⟨i, j, rfl, hij, hj⟩
  · exact ⟨insE_ok ⟨by omega, by omega⟩ hp.2.1 hp.1, rfl, fits_ins hi, hp.2.2.1, rfl⟩
  · exact ⟨delE_ok ⟨by omega, by omega, by omega⟩, rfl, fits_del hj, by show 0 ≤ 14; omega, rfl⟩
theorem run_aes {h : List GRule} {bs : List GEdit} {w : List UInt8} (hg : gramOk h = true) (hr : RunE h bs w) (hl : bs.length ≤ 60) : aesCode h bs = 0 ∧ aesN h bs = (bs.length : Nat) ∧ wordG (aesOut h bs) = w ∧ gramOk (aesOut h bs) = true ∧ mrgF h bs = some (aesOut h bs) := by
  have hc : aesCode h bs = 0 := by
    unfold aesCode
    rw [hg, show bs.all editOk = true from List.all_eq_true.2 hr.ok, if_pos (by rfl), if_neg (by omega)]
  have e1 : aesOut h bs = (bs.foldl stepE (h, 0)).1 := by unfold aesOut; rw [if_pos hc]; rfl
  refine ⟨hc, ?_, by rw [e1]; exact hr.word, by rw [e1]; exact hr.right, by rw [e1]; exact hr.mrg⟩
  unfold aesN; rw [if_pos hc]; exact hr.num
structure PsA (xs : List GRule) (e f : GEdit) : Prop where
  c1 : applyCode xs e = 0
  c2 : applyCode xs f = 0
  p1 : pasCode f e false = 0
  p2 : pasCode e f true = 0
  x1 : aesCode (applyOut xs e) (pasOut f e false) = 0
  x2 : aesN (applyOut xs e) (pasOut f e false) = ((pasOut f e false).length : Nat)
  y1 : aesCode (applyOut xs f) (pasOut e f true) = 0
  y2 : aesN (applyOut xs f) (pasOut e f true) = ((pasOut e f true).length : Nat)
  m1 : mrgCode xs e f = 0
  gx : gramOk (aesOut (applyOut xs e) (pasOut f e false)) = true
  gy : gramOk (aesOut (applyOut xs f) (pasOut e f true)) = true
  gm : gramOk (mrgOut xs e f) = true
  w1 : wordG (aesOut (applyOut xs e) (pasOut f e false)) = wordG (aesOut (applyOut xs f) (pasOut e f true))
  w2 : wordG (mrgOut xs e f) = wordG (aesOut (applyOut xs e) (pasOut f e false))
theorem pass_all2 {xs : List GRule} {e f : GEdit} (hx : gramOk xs = true) (hs : gramLen xs ≤ 30) (he : PlE (gramLen xs) e) (hf : PlE (gramLen xs) f) : PsA xs e f := by
  obtain ⟨c1, c2, w, r1, r2⟩ := pass_ok hx hs he hf
  obtain ⟨oe, se, fe, _, _⟩ := plE_ok he (by omega)
  obtain ⟨of, sf, ff, _, _⟩ := plE_ok hf (by omega)
  have p1 : pasCode f e false = 0 := by
    unfold pasCode
    rw [oe, of, se, sf, if_pos (by rfl), if_pos (by rfl), if_pos (List.all_eq_true.2 r1.ok)]
  have p2 : pasCode e f true = 0 := by
    unfold pasCode
    rw [oe, of, se, sf, if_pos (by rfl), if_pos (by rfl), if_pos (List.all_eq_true.2 r2.ok)]
  have q1 : pasOut f e false = passE f e false := by unfold pasOut; rw [if_pos p1]
  have q2 : pasOut e f true = passE e f true := by unfold pasOut; rw [if_pos p2]
  have l1 := (pass_small (f := e) (first := false) of).1
  have l2 := (pass_small (f := f) (first := true) oe).1
  obtain ⟨x1, x2, x3, x4, x5⟩ := run_aes (applyOut_ok xs e) r1 (by omega)
  obtain ⟨y1, y2, y3, y4, _⟩ := run_aes (applyOut_ok xs f) r2 (by omega)
  have hS : mrgS xs e f = some (aesOut (applyOut xs e) (passE f e false)) := by unfold mrgS; rw [if_pos c1, x5]
  have hmo : mrgOut xs e f = aesOut (applyOut xs e) (passE f e false) := by
    unfold mrgOut
    rw [hx, oe, of, se, sf, fe, ff, hS, if_pos (by rfl), if_pos (by rfl)]
  have hmc : mrgCode xs e f = 0 := by
    unfold mrgCode
    rw [hx, oe, of, se, sf, fe, ff, hS, if_pos (by rfl), if_pos (by rfl)]
  refine ⟨c1, c2, p1, p2, by rw [q1]; exact x1, by rw [q1]; exact x2, by rw [q2]; exact y1, by rw [q2]; exact y2, hmc, by rw [q1]; exact x4, by rw [q2]; exact y4, by rw [hmo]; exact x4, by rw [q1, q2, x3, y3], by rw [hmo, q1]⟩
end Go.Proofs.YtdacndamehiglaaGreatDoor
namespace Go.Proofs
open Go.Shelf
end Go.Proofs
namespace Go.Proofs.YtdacndamehiglaaGreatDoor
open Go.RowKit
set_option maxRecDepth 100000 in
set_option maxHeartbeats 2000000 in
theorem l02Letter_any (b o : Nat) (vR vL : Value) (xs : List GRule) (ls : List Int) (i : Int) (c : UInt8) (w : World) (hp : w.cell? ⟨b, o, none⟩ = some vR) (hR : Sl RuleE w w.heap.size vR xs) (hL : Sl IntE w w.heap.size vL ls)
    (hl : lens xs = some ls) (hn : xs.length ≤ 1099511627776) (hi : 0 ≤ i) (hc : (wordG xs)[i.toNat]? = some c) :
    Calls Tryz.prog 104 #[.pointer (some ⟨b, o, none⟩), vL, .int .i64 i] w fun e w' => e = .returned (.int .u8 c.toNat) ∧ w = w' := by
  have h0 : 0 < xs.length := by
    refine Nat.pos_of_ne_zero fun e => ?_
    have hx : xs = [] := List.eq_nil_of_length_eq_zero e
    subst hx
    simp [wordG] at hc
  have hll := lens_length hl
  rw [wordG_pos h0] at hc
  have hlt := (List.getElem?_eq_some_iff.1 hc).1
  have hWl := W1_len hl (xs.length - 1) (by omega)
  obtain ⟨AR, cR, rfl, _, hmR, hrowR⟩ := hR
  obtain ⟨AL, cL, rfl, _, hmL, hrowL⟩ := hL
  unfold maxLen at hmR hmL
  obtain ⟨bR, oR, rfl, hbR, hcR⟩ := hrowR.rule h0
  obtain ⟨bL, oL, rfl, hbL, hcL⟩ := hrowL.int (k := 0) (by omega)
  have HcR := Lib.hid hcR
  have HcL := Lib.hid hcL
  have Hll := Lib.hid hll
  have Hl := Lib.hid hl
  have hm1 : (xs.length : Int) - 1 = ((xs.length - 1 : Nat) : Int) := by omega
  obtain ⟨m, hm⟩ : ∃ m, xs.length - 1 = m := ⟨_, rfl⟩
  rw [hm] at hm1 hc hlt hWl
  have hmx : m < xs.length := by omega
  have Hc := Lib.hid hc
  have hq0 : i < ls.getD m 0 := by omega
  have Hq0 := Lib.hid hq0
  have Hm1 := Lib.hid hm1
  clear hrowR hrowL hcR hcL hll hl hc hlt hWl hm hq0
  go_enter Tryz.func104, Tryz.ntmps104
  go_wp2_with fail
  go_loopw [2, 7] (fun q a wx => ∃ (r : Nat) (z : Int), r < xs.length ∧ a = .int .i64 (r : Int) ∧ q = .int .i64 z ∧ 0 ≤ z ∧ z < ls.getD r 0 ∧ (W1 xs r)[z.toNat]? = some c ∧ wx = w) (fun _ a _ => (intOf a).toNat)
  case atStart => exact ⟨m, i, hmx, rfl, rfl, hi, Hq0.out, Hc.out, rfl⟩
  case round =>
    obtain ⟨r, z, hr, rfl, rfl, hz, hzl, hw, rfl⟩ := hrel
    obtain ⟨k0, k1, k2⟩ := HcR.out r _ (getR_at hr)
    have hri : (r : Int) < (xs.length : Int) := by omega
    have Hw := Lib.hid hw
    have Hzl := Lib.hid hzl
    obtain ⟨R, hR⟩ : ∃ R, getR xs r = R := ⟨_, rfl⟩
    rw [hR] at k0 k1 k2
    have HR := Lib.hid hR
    clear hw hzl hR hm1
    by_cases hp2 : R.letter.toList.isEmpty = true
    · have hpr : (getR xs r).pair = true := by rw [HR.out]; rw [isEmpty_size] at hp2; exact hp2
      obtain ⟨q1, q2, q3, q4, q5⟩ := lens_pair Hl.out hr hpr
      have hW := W1_pair Hl.out hr hpr
      rw [HR.out] at q1 q2 q3 q4 q5 hW
      obtain ⟨la, hla⟩ := Int.eq_ofNat_of_zero_le q1
      obtain ⟨ra, hra⟩ := Int.eq_ofNat_of_zero_le q3
      rw [hla] at q2 k1
      rw [hra] at q4 k2
      rw [hla, hra] at hW q5
      simp only [Int.toNat_natCast] at q2 q4 q5 hW
      have hlw := W1_len Hl.out la (by omega)
      have cl := HcL.out la (by have := Hll.out; omega)
      have hli : (la : Int) < (ls.length : Int) := by have := Hll.out; omega
      have hpl := lens_pos' Hl.out (r := la) (by omega)
      have hpr2 := lens_pos' Hl.out (r := r) hr
      obtain ⟨LA, hLA⟩ : ∃ x, ls.getD la 0 = x := ⟨_, rfl⟩
      rw [hLA] at cl hlw hpl q5
      have HLA := Lib.hid hLA
      have Hq5 := Lib.hid q5
      have Hlw := Lib.hid hlw
      have HW := Lib.hid hW
      have hzb : z ≤ 1000000000000000 := by have := Hzl.out; omega
      clear hpr q1 q3 hla hra hLA q5 hlw hW hpr2
      by_cases hc1 : z < LA
      · go_wp2_with fail
        refine ⟨⟨la, z, by omega, rfl, rfl, hz, by rw [HLA.out]; exact hc1, ?_, trivial⟩, by simp [intOf]; omega⟩
        have := Hw.out
        rwa [HW.out, List.getElem?_append_left (by have := Hlw.out; omega)] at this
      · go_wp2_with fail
        refine ⟨⟨ra, z - LA, by omega, rfl, rfl, by omega, by have := Hq5.out; have := Hzl.out; omega, ?_, trivial⟩, by simp [intOf]; omega⟩
        have := Hw.out
        rw [HW.out, List.getElem?_append_right (by have := Hlw.out; omega)] at this
        rwa [show z.toNat - (W1 xs la).length = (z - LA).toNat by have := Hlw.out; omega] at this
    · have hp3 : R.letter.toList.isEmpty = false := by simpa using hp2
      have hpr : (getR xs r).pair = false := by rw [HR.out]; rw [isEmpty_size] at hp3; exact hp3
      have hsz := isLet_size (lens_isLet Hl.out hr hpr)
      have hone := lens_letter Hl.out hr hpr
      have hW := W1_let hpr
      rw [HR.out] at hsz hW
      have hz0 : z = 0 := by have := Hzl.out; omega
      have hcc : R.letter.data.toList[0]? = some c := by
        have := Hw.out
        rw [hW, hz0] at this; exact this
      have hs0 : 0 < R.letter.size := by omega
      have hget : R.letter[0]'hs0 = c := by
        rw [toList_getElem? _ _ hs0] at hcc
        exact Option.some.inj hcc
      have Hget := Lib.hid hget
      clear hp2 hpr hone hW hz0 hcc hget
      go_wp2_with fail
      go_ret
      exact ⟨by rw [← Hget.out]; rfl, rfl⟩
theorem cutL_snoc {l : List UInt8} {i z : Int} {c : UInt8} (hi : 0 ≤ i) (hz : i ≤ z) (hc : l[z.toNat]? = some c) : cutL l i (z + 1) = cutL l i z ++ [c] := by
  have hlt := (List.getElem?_eq_some_iff.1 hc).1
  unfold cutL
  rw [show (z + 1).toNat = z.toNat + 1 by omega, List.take_add_one, hc, Option.toList_some, List.drop_append_of_le_length (by rw [List.length_take]; omega)]
theorem cutL_none (l : List UInt8) (i : Int) : cutL l i i = [] := cutL_nil (by omega)
set_option maxRecDepth 100000 in
set_option maxHeartbeats 2000000 in
theorem l02Unpack_any (b o : Nat) (v : Value) (xs : List GRule) (ls : List Int) (i j : Int) (w : World) (hp : w.cell? ⟨b, o, none⟩ = some v) (hbl : b < w.heap.size) (h : Sl RuleE w w.heap.size v xs) (hsm : SmallL xs) (hl : lens xs = some ls)
    (hn : xs.length ≤ 400) (hi : 0 ≤ i) (hij : i ≤ j) (hj : j ≤ lastI ls) (hbig : j - i ≤ 1000000) :
    Calls Tryz.prog 44 #[.pointer (some ⟨b, o, none⟩), .int .i64 i, .int .i64 j] w fun e w' => e = .returned (.string ⟨(cutL (wordG xs) i j).toArray⟩) ∧ Below w.heap.size w w' := by
  have HR := Lib.hid h
  obtain ⟨AR, cR, rfl, _⟩ := h
  have Hl := Lib.hid hl
  have hwl := wordG_len hl
  have hlb := (lastI_bounds hl).2
  have hd4 : decide (xs.length ≤ 400) = true := by simp [hn]
  clear hl
  go_enter Tryz.func44, Tryz.ntmps44
  go_wp2_with fail
  refine (l02Lengths_any _ _ _ xs _ hp hbl HR.out hsm).mono ?_
  rintro e w2 ⟨hb2, v2, ls', rfl, own2, hls⟩
  have e4 : ls' = ls := hls hn ls Hl.out
  subst e4
  obtain ⟨A2, c2, rfl, _⟩ := own_nil own2
  have p2 := (hb2.cell (p := ⟨b, o, none⟩) hbl).trans hp
  have z2 : b < w2.heap.size := Nat.lt_of_lt_of_le hbl hb2.size
  have HL2 := Lib.hid own2.sl
  have HR2 := Lib.hid (HR.out.up hb2)
  have HB2 := Lib.hid hb2
  clear hb2 own2 hls hp
  go_wp2_with fail
  go_loopw [9, 10] (fun q a wx => ∃ (k : Nat) (z : Int) (g c : Nat) (l : List UInt8), z = i + k ∧ z ≤ j ∧ a = .int .i64 z ∧ q = .slice (some ⟨g, 0, none⟩) l.length c ∧ l = cutL (wordG xs) i z ∧ OwnB wx w2.heap.size q l ∧ Below w2.heap.size w2 wx) (fun _ a _ => (j - intOf a).toNat)
  case atStart => exact ⟨0, i, _, 0, [], by omega, hij, rfl, rfl, (cutL_none _ _).symm, OwnB.empty rfl (Nat.le_refl _), (Below.refl _ _).alloc (Nat.le_refl _) _⟩
  case round =>
    obtain ⟨k, z, g, c, l, hz, hzj, rfl, rfl, hlc, hown, hb3⟩ := hrel
    have Hown := Lib.hid hown
    have HB3 := Lib.hid hb3
    have Hlc := Lib.hid hlc
    have hll : (l.length : Int) = z - i := by rw [hlc]; exact cutL_len hi (by omega) (by omega)
    have p3 := (hb3.cell (p := ⟨b, o, none⟩) z2).trans p2
    have HL3 := Lib.hid ((HL2.out.below hb3).le hb3.size)
    have HR3 := Lib.hid ((HR2.out.below hb3).le hb3.size)
    have hcv := OwnB.string hown
    have HLL : Hid (l.length ≤ 1099511627776) := by rw [Hid]; omega
    have hs3 : w2.heap.size ≤ wr.heap.size := hb3.size
    have Hz0 := Lib.hid hz
    have hiz : i ≤ z := by omega
    clear hown hb3 hlc hz
    by_cases hlt : z < j
    · obtain ⟨x, hx⟩ : ∃ x, (wordG xs)[z.toNat]? = some x := ⟨_, List.getElem?_eq_getElem (by omega)⟩
      have Hx := Lib.hid hx
      have Lt := Lib.hid (l02Letter_any b o _ (.slice A2 ls'.length c2) xs ls' z x wr p3 HR3.out HL3.out Hl.out (by omega) (by omega) hx)
      have hzm : z ≤ 1000000000000000 := by omega
      have Hll := Lib.hid hll
      clear hx hcv hll
      go_wp2_with fail
      (with_reducible refine Lt.out.mono ?_)
      rintro e w4 ⟨rfl, rfl⟩
      go_wp2_with (first
        | (at_builtin; refine push_byte (base := w2.heap.size) (v := .slice (some ⟨g, 0, none⟩) l.length c) (l := l) (y := x) rfl _ _ rfl rfl rfl rfl Hown.out HLL.out hs3 ?_; intro v5 w5 own5 hg5 hb5; obtain ⟨g5, c5, rfl⟩ := own5.some_ (by simp)))
      have e5 : (l ++ [x]).length = l.length + 1 := by simp
      refine ⟨⟨k + 1, z + 1, g5, c5, l ++ [x], by have := Hz0.out; omega, by omega, rfl, by rw [e5], ?_, by rw [← e5]; exact own5, HB3.out.trans hb5⟩, by simp [intOf]; omega⟩
      rw [cutL_snoc hi (by omega) Hx.out, Hlc.out]
    · have hzj2 : z = j := by omega
      have Hz := Lib.hid hzj2
      clear hll hzj2
      go_wp2_with fail
      go_ret
      exact ⟨by rw [← Hz.out, ← Hlc.out]; rfl, HB2.out.trans (HB3.out.mono HB2.out.size)⟩
theorem pieces_all {xs : List GRule} {ls : List Int} (hl : lens xs = some ls) : piecesL xs ls 0 (lastI ls) = if xs.length = 0 then [] else [xs.length - 1] := by
  have hll := lens_length hl
  unfold piecesL
  by_cases h0 : xs.length = 0
  · rw [if_neg (by omega), if_pos h0]
  · have hp := lens_pos' hl (r := xs.length - 1) (by omega)
    have e : lastI ls = ls.getD (xs.length - 1) 0 := by rw [lastI, hll]
    rw [if_pos ⟨by omega, by rw [e]; omega⟩, if_neg h0]
    obtain ⟨n, hn⟩ : ∃ n, xs.length = n + 1 := ⟨xs.length - 1, by omega⟩
    rw [hn, coverR]
    rw [hn] at e hp
    rw [if_neg (by rw [e]; omega), if_pos (by rw [e]; omega)]
section
variable {α : Type} {E : Enc α} {w w1 w2 : World} {o : Obj} {v : Value} {xs : List α}
end
set_option maxRecDepth 100000 in
theorem a2Long_any (v v' : Value) (l l' : List UInt8) (w : World) (h : Sl ByteE w w.heap.size v l) (h' : Sl ByteE w w.heap.size v' l') :
    Calls Tryz.prog 6 #[v, v'] w fun e w' => e = .returned (.bool (decide ((3000 : Int) < l.length) || decide ((3000 : Int) < l'.length))) ∧ w = w' := by
  obtain ⟨A, c, rfl, _⟩ := h
  obtain ⟨A', c', rfl, _⟩ := h'
  by_cases h1 : (3000 : Int) < (l.length : Int)
  · go_enter Tryz.func6, Tryz.ntmps6
    go_wp2_with fail
    go_ret
    exact ⟨ret_bool (by simp [h1]), rfl⟩
  · have e1 : decide ((3000 : Int) < (l.length : Int)) = false := by simp; omega
    go_enter Tryz.func6, Tryz.ntmps6
    go_wp2_with fail
    go_ret
    exact ⟨ret_bool (by first | rfl | (simp [e1]; done) | simp), rfl⟩
theorem A2Grammar_any (v : Value) (l : List UInt8) (most : Int) (w : World) (h : Sl ByteE w w.heap.size v l) :
    Calls Tryz.prog 7 #[v, .int .i64 most] w fun e w' => ∃ u xs, e = .returned (.agg #[u]) ∧ Sl RuleE w' w'.heap.size u xs ∧ DrawnOk most xs ∧ xs.length ≤ 14 ∧ Below w.heap.size w w' := by
  have HL := Lib.hid h
  obtain ⟨A, c, rfl, _⟩ := h
  go_enter Tryz.func7, Tryz.ntmps7
  go_wp2_with fail
  have ba := (Below.refl _ w).alloc (Nat.le_refl _) (.cells #[.slice none 0 0] 26)
  refine (from_any _ l _ (HL.out.up ba)).mono ?_
  rintro r w1 ⟨b, rfl, hb, hs, hb1⟩
  have KR1 := Lib.hid (Blk.up (Blk.new w #[.slice none 0 0] 26) hb1)
  have hbz : w.heap.size < b := by simp at hb; omega
  have HS := Lib.hid hs
  have HB := Lib.hid (ba.trans (hb1.mono ba.size))
  have hz1 : w.heap.size < w1.heap.size := KR1.out.lt
  clear hs hb1 ba hb
  go_wp2_with fail
  refine (l02Drawn_any b 0 most _ HS.out (by omega)).mono ?_
  rintro r w2 ⟨u, xs, rfl, hsl, hok, hl, _, hb2⟩
  have KR2 := KR1.out.but hb2 (by omega)
  have cR := Blk.cell (i := 0) (v := .slice none 0 0) KR2 rfl
  have zR := Blk.frozen KR2 0
  have hz2 := hb2.size
  have HB2 := Lib.hid (HB.out.trans (hb2.below (B := w.heap.size) (by omega) (by omega)))
  have HSL := Lib.hid hsl
  clear hsl hb2 KR2
  obtain ⟨AX, cX, rfl, _⟩ := HSL.out
  go_wp2_with fail
  exact bodyPost_ret (v := .agg #[.slice AX xs.length cX]) (by simp [results, Tryz.results7, go_sem, cR]) rfl
    ⟨_, xs, rfl, (HSL.out.keep fun k hk => Below.heap_setCell w2 ⟨w.heap.size, 0, none⟩ _ k (by show k ≠ w.heap.size; omega)).more fun k hk => by simpa using hk.2, hok, hl, HB2.out.setCell (p := ⟨w.heap.size, 0, none⟩) (Nat.le_refl _) _⟩
theorem six {wx : World} {R : Nat} {a0 a1 a2 a3 a4 a5 : Value} (h : Blk wx R #[a0, a1, a2, a3, a4, a5] 30) (v0 v1 v2 v3 v4 v5 : Value) :
    let W := (((((wx.setCell ⟨R, 0, none⟩ v0).setCell ⟨R, 1, none⟩ v1).setCell ⟨R, 2, none⟩ v2).setCell ⟨R, 3, none⟩ v3).setCell ⟨R, 4, none⟩ v4).setCell ⟨R, 5, none⟩ v5
    Blk W R #[v0, v1, v2, v3, v4, v5] 30 ∧ (∀ k, k ≠ R → W.heap[k]? = wx.heap[k]?) ∧ Below R wx W := by
  intro W
  exact ⟨(((((h.set 0 v0).set 1 v1).set 2 v2).set 3 v3).set 4 v4).set 5 v5,
    fun k hk => (Below.heap_setCell _ ⟨R, 5, none⟩ v5 k hk).trans ((Below.heap_setCell _ ⟨R, 4, none⟩ v4 k hk).trans ((Below.heap_setCell _ ⟨R, 3, none⟩ v3 k hk).trans ((Below.heap_setCell _ ⟨R, 2, none⟩ v2 k hk).trans ((Below.heap_setCell _ ⟨R, 1, none⟩ v1 k hk).trans (Below.heap_setCell _ ⟨R, 0, none⟩ v0 k hk))))),
    ((((((Below.refl _ wx).setCell (p := ⟨R, 0, none⟩) (Nat.le_refl _) v0).setCell (p := ⟨R, 1, none⟩) (Nat.le_refl _) v1).setCell (p := ⟨R, 2, none⟩) (Nat.le_refl _) v2).setCell (p := ⟨R, 3, none⟩) (Nat.le_refl _) v3).setCell (p := ⟨R, 4, none⟩) (Nat.le_refl _) v4).setCell (p := ⟨R, 5, none⟩) (Nat.le_refl _) v5⟩
def PlPost (b : Nat) (n : Int) (w : World) (r : Ending) (w' : World) : Prop :=
  ∃ (vR : Value) (e : GEdit), r = .returned (.agg #[.int .i64 e.kind, .int .i64 e.i, .int .i64 e.j, .int .i64 e.k, vR, .string e.map]) ∧ SlS RuleE w' (fun k => k ≠ b ∧ w.heap.size < k ∧ k < w'.heap.size) vR e.part ∧ PlE n e ∧ SmallL e.part ∧ But b w w'
set_option maxRecDepth 100000 in
set_option maxHeartbeats 8000000 in
theorem l07Plainly_any (b N : Nat) (n : Int) (w : World) (h : Src w b N) (hN : N ≤ 700000) (hn : 0 ≤ n ∧ n ≤ 2000000000000000) :
    Calls Tryz.prog 79 #[.pointer (some ⟨b, 0, none⟩), .int .i64 n] w (PlPost b n w) := by
  have hlt := h.lt
  have HS := Lib.hid h
  clear h
  obtain ⟨n, rfl⟩ := Int.eq_ofNat_of_zero_le hn.1
  have hn9 : n ≤ 2000000000000000 := by omega
  clear hn
  have wn : IntKind.i64.wrap ((n : Int) + 1) = (n : Int) + 1 := IntWalk.i64_in _ (by omega)
  have ba := (Below.refl _ w).alloc (Nat.le_refl _) (.cells #[.int .i64 0, .int .i64 0, .int .i64 0, .int .i64 0, .slice none 0 0, .string ⟨#[]⟩] 30)
  have HS0 := Lib.hid (HS.out.keep ba)
  have KR0 := Lib.hid (Blk.new w #[.int .i64 0, .int .i64 0, .int .i64 0, .int .i64 0, .slice none 0 0, .string ⟨#[]⟩] 30)
  have HB0 := Lib.hid (But.of (b := b) ba)
  clear ba HS
  go_enter Tryz.func79, Tryz.ntmps79
  go_wp2_with fail
  refine (one_any b N 2 _ HS0.out (by omega)).mono ?_
  rintro r w1 ⟨t, rfl, hs1, hb1⟩
  have KR1 := Lib.hid (KR0.out.but hb1 (by omega))
  have HB1 := Lib.hid (HB0.out.trans hb1)
  have HS1 := Lib.hid hs1
  have z1 : w.heap.size < w1.heap.size := KR1.out.lt
  clear hs1 hb1 KR0 HB0 HS0
  cases t with
  | true =>
    go_wp2_with fail
    refine (pick_any b (N + 2) ((n : Int) + 1) _ HS1.out (by omega)).mono ?_
    rintro r w2 ⟨y, rfl, hy, hy6, hs2, hb2⟩
    have hyn : y ≤ n := by omega
    have KR2 := Lib.hid (KR1.out.but hb2 (by omega))
    have HB2 := Lib.hid (HB1.out.trans hb2)
    have HS2 := Lib.hid hs2
    have z2 : w.heap.size < w2.heap.size := KR2.out.lt
    clear hs2 hb2 KR1 HB1 HS1 hy
    go_wp2_with fail
    refine (l02Drawn_any b _ 4 _ HS2.out (by omega)).mono ?_
    rintro r w3 ⟨v, xs, rfl, hsl, hdr, h14, hs3, hb3⟩
    obtain ⟨AX, cX, rfl, _⟩ := (id hsl : SlS RuleE w3 _ v xs)
    have KR3 := KR2.out.but hb3 (by omega)
    have HB3 := Lib.hid (HB2.out.trans hb3)
    have z3 := hb3.size
    have HSL := Lib.hid hsl
    have HDR := Lib.hid hdr
    have HK3 := Lib.hid KR3
    have cR0 := Blk.cell (i := 0) (v := .int .i64 0) KR3 rfl
    have cR1 := Blk.cell (i := 1) (v := .int .i64 0) KR3 rfl
    have cR2 := Blk.cell (i := 2) (v := .int .i64 0) KR3 rfl
    have cR3 := Blk.cell (i := 3) (v := .int .i64 0) KR3 rfl
    have cR4 := Blk.cell (i := 4) (v := .slice none 0 0) KR3 rfl
    have cR5 := Blk.cell (i := 5) (v := .string ⟨#[]⟩) KR3 rfl
    have zR0 := Blk.frozen KR3 0
    have zR1 := Blk.frozen KR3 1
    have zR2 := Blk.frozen KR3 2
    have zR3 := Blk.frozen KR3 3
    have zR4 := Blk.frozen KR3 4
    have zR5 := Blk.frozen KR3 5
    clear hsl hdr hs3 hb3 KR2 HB2 HS2 KR3
    go_wp2_with fail
    obtain ⟨s1, s2, s3⟩ := six HK3.out (.int .i64 1) (.int .i64 (y : Int)) (.int .i64 0) (.int .i64 0) (.slice AX xs.length cX) (.string ⟨#[]⟩)
    clear cR0 cR1 cR2 cR3 cR4 cR5 zR0 zR1 zR2 zR3 zR4 zR5
    generalize (((((w3.setCell ⟨w.heap.size, 0, none⟩ (.int .i64 1)).setCell ⟨w.heap.size, 1, none⟩ (.int .i64 (y : Int))).setCell ⟨w.heap.size, 2, none⟩ (.int .i64 0)).setCell ⟨w.heap.size, 3, none⟩ (.int .i64 0)).setCell ⟨w.heap.size, 4, none⟩ (.slice AX xs.length cX)).setCell ⟨w.heap.size, 5, none⟩ (.string ⟨#[]⟩) = W at s1 s2 s3 ⊢
    have x0 := Blk.cell (i := 0) (v := .int .i64 1) s1 rfl
    have x1 := Blk.cell (i := 1) (v := .int .i64 (y : Int)) s1 rfl
    have x2 := Blk.cell (i := 2) (v := .int .i64 0) s1 rfl
    have x3 := Blk.cell (i := 3) (v := .int .i64 0) s1 rfl
    have x4 := Blk.cell (i := 4) (v := .slice AX xs.length cX) s1 rfl
    have x5 := Blk.cell (i := 5) (v := .string ⟨#[]⟩) s1 rfl
    exact bodyPost_ret (v := .agg #[.int .i64 1, .int .i64 (y : Int), .int .i64 0, .int .i64 0, .slice AX xs.length cX, .string ⟨#[]⟩]) (by simp [results, Tryz.results79, go_sem, x0, x1, x2, x3, x4, x5]) rfl
      ⟨_, insE (y : Int) xs, rfl, (HSL.out.keep fun k hk => s2 k (by omega)).more fun k hk => ⟨by omega, by omega, Nat.lt_of_lt_of_le hk.2 s3.size⟩, .inl ⟨y, xs, rfl, by omega, HDR.out.1, HDR.out.2.1, h14, by have := HDR.out.2.2.1 (by omega); omega⟩, HDR.out.2.2.2, HB3.out.up s3 (Nat.le_refl _)⟩
  | false =>
    go_wp2_with fail
    refine (pick_any b (N + 2) ((n : Int) + 1) _ HS1.out (by omega)).mono ?_
    rintro r w2 ⟨y, rfl, hy, hy6, hs2, hb2⟩
    have hyn : y ≤ n := by omega
    have KR2 := Lib.hid (KR1.out.but hb2 (by omega))
    have HB2 := Lib.hid (HB1.out.trans hb2)
    have HS2 := Lib.hid hs2
    have z2 : w.heap.size < w2.heap.size := KR2.out.lt
    have wy : IntKind.i64.wrap ((n : Int) - (y : Int)) = (n : Int) - (y : Int) := IntWalk.i64_in _ (by omega)
    have wy1 : IntKind.i64.wrap ((n : Int) - (y : Int) + 1) = (n : Int) - (y : Int) + 1 := IntWalk.i64_in _ (by omega)
    clear hs2 hb2 KR1 HB1 HS1 hy
    go_wp2_with fail
    refine (pick_any b _ ((n : Int) - (y : Int) + 1) _ HS2.out (by omega)).mono ?_
    rintro r w3 ⟨z, rfl, hz, hz6, hs3, hb3⟩
    have hzn : y + z ≤ n := by omega
    have KR3 := KR2.out.but hb3 (by omega)
    have HB3 := Lib.hid (HB2.out.trans hb3)
    have z3 := hb3.size
    have HK3 := Lib.hid KR3
    have wz : IntKind.i64.wrap ((y : Int) + (z : Int)) = (y : Int) + (z : Int) := IntWalk.i64_in _ (by omega)
    have cR0 := Blk.cell (i := 0) (v := .int .i64 0) KR3 rfl
    have cR1 := Blk.cell (i := 1) (v := .int .i64 0) KR3 rfl
    have cR2 := Blk.cell (i := 2) (v := .int .i64 0) KR3 rfl
    have cR3 := Blk.cell (i := 3) (v := .int .i64 0) KR3 rfl
    have cR4 := Blk.cell (i := 4) (v := .slice none 0 0) KR3 rfl
    have cR5 := Blk.cell (i := 5) (v := .string ⟨#[]⟩) KR3 rfl
    have zR0 := Blk.frozen KR3 0
    have zR1 := Blk.frozen KR3 1
    have zR2 := Blk.frozen KR3 2
    have zR3 := Blk.frozen KR3 3
    have zR4 := Blk.frozen KR3 4
    have zR5 := Blk.frozen KR3 5
    clear hs3 hb3 KR2 HB2 HS2 KR3 hz
    go_wp2_with fail
    obtain ⟨s1, s2, s3⟩ := six HK3.out (.int .i64 2) (.int .i64 (y : Int)) (.int .i64 ((y : Int) + (z : Int))) (.int .i64 0) (.slice none 0 0) (.string ⟨#[]⟩)
    clear cR0 cR1 cR2 cR3 cR4 cR5 zR0 zR1 zR2 zR3 zR4 zR5
    generalize (((((w3.setCell ⟨w.heap.size, 0, none⟩ (.int .i64 2)).setCell ⟨w.heap.size, 1, none⟩ (.int .i64 (y : Int))).setCell ⟨w.heap.size, 2, none⟩ (.int .i64 ((y : Int) + (z : Int)))).setCell ⟨w.heap.size, 3, none⟩ (.int .i64 0)).setCell ⟨w.heap.size, 4, none⟩ (.slice none 0 0)).setCell ⟨w.heap.size, 5, none⟩ (.string ⟨#[]⟩) = W at s1 s2 s3 ⊢
    have x0 := Blk.cell (i := 0) (v := .int .i64 2) s1 rfl
    have x1 := Blk.cell (i := 1) (v := .int .i64 (y : Int)) s1 rfl
    have x2 := Blk.cell (i := 2) (v := .int .i64 ((y : Int) + (z : Int))) s1 rfl
    have x3 := Blk.cell (i := 3) (v := .int .i64 0) s1 rfl
    have x4 := Blk.cell (i := 4) (v := .slice none 0 0) s1 rfl
    have x5 := Blk.cell (i := 5) (v := .string ⟨#[]⟩) s1 rfl
    exact bodyPost_ret (v := .agg #[.int .i64 2, .int .i64 (y : Int), .int .i64 ((y : Int) + (z : Int)), .int .i64 0, .slice none 0 0, .string ⟨#[]⟩]) (by simp [results, Tryz.results79, go_sem, x0, x1, x2, x3, x4, x5]) rfl
      ⟨_, delE (y : Int) ((y : Int) + (z : Int)), rfl, SlS.nil _ _, .inr ⟨y, y + z, by rw [show (y : Int) + (z : Int) = ((y + z : Nat) : Int) by omega], by omega, by omega⟩, fun r hr => absurd hr (by simp [delE]), HB3.out.up s3 (Nat.le_refl _)⟩
set_option maxRecDepth 100000 in
set_option maxHeartbeats 4000000 in
theorem A2Plainly_any (v : Value) (l : List UInt8) (n : Int) (w : World) (h : Sl ByteE w w.heap.size v l) (hn : 0 ≤ n ∧ n ≤ 2000000000000000) :
    Calls Tryz.prog 28 #[v, .int .i64 n] w fun r w' => ∃ u e, r = .returned u ∧ EditV w' w'.heap.size u e ∧ PlE n e ∧ SmallL e.part ∧ Below w.heap.size w w' := by
  have HL := Lib.hid h
  obtain ⟨A, c, rfl, _⟩ := h
  go_enter Tryz.func28, Tryz.ntmps28
  go_wp2_with fail
  have ba := (Below.refl _ w).alloc (Nat.le_refl _) (.cells #[.int .i64 0, .int .i64 0, .int .i64 0, .int .i64 0, .slice none 0 0, .string ⟨#[]⟩] 30)
  refine (from_any _ l _ (HL.out.up ba)).mono ?_
  rintro r w1 ⟨b, rfl, hb, hs, hb1⟩
  have KR1 := Lib.hid (Blk.up (Blk.new w #[.int .i64 0, .int .i64 0, .int .i64 0, .int .i64 0, .slice none 0 0, .string ⟨#[]⟩] 30) hb1)
  have hbz : w.heap.size < b := by simp at hb; omega
  have HS := Lib.hid hs
  have HB := Lib.hid (ba.trans (hb1.mono ba.size))
  have hz1 : w.heap.size < w1.heap.size := KR1.out.lt
  clear hs hb1 ba hb
  go_wp2_with fail
  refine (l07Plainly_any b 0 n _ HS.out (by omega) hn).mono ?_
  rintro r w2 ⟨vR, e, rfl, hsl, hpl, hsm, hb2⟩
  have KR2 := KR1.out.but hb2 (by omega)
  have cR0 := Blk.cell (i := 0) (v := .int .i64 0) KR2 rfl
  have cR1 := Blk.cell (i := 1) (v := .int .i64 0) KR2 rfl
  have cR2 := Blk.cell (i := 2) (v := .int .i64 0) KR2 rfl
  have cR3 := Blk.cell (i := 3) (v := .int .i64 0) KR2 rfl
  have cR4 := Blk.cell (i := 4) (v := .slice none 0 0) KR2 rfl
  have cR5 := Blk.cell (i := 5) (v := .string ⟨#[]⟩) KR2 rfl
  have zR0 := Blk.frozen KR2 0
  have zR1 := Blk.frozen KR2 1
  have zR2 := Blk.frozen KR2 2
  have zR3 := Blk.frozen KR2 3
  have zR4 := Blk.frozen KR2 4
  have zR5 := Blk.frozen KR2 5
  have hz2 := hb2.size
  have HB2 := Lib.hid (HB.out.trans (hb2.below (B := w.heap.size) (by omega) (by omega)))
  have HSL := Lib.hid hsl
  have HOK := Lib.hid (And.intro hpl hsm)
  have HK2 := Lib.hid KR2
  clear hsl hb2 hpl hsm KR2
  obtain ⟨AX, cX, rfl, _⟩ := HSL.out
  go_wp2_with fail
  obtain ⟨s1, s2, s3⟩ := six HK2.out (.int .i64 e.kind) (.int .i64 e.i) (.int .i64 e.j) (.int .i64 e.k) (.slice AX e.part.length cX) (.string e.map)
  have HB3 := HB2.out.trans s3
  clear cR0 cR1 cR2 cR3 cR4 cR5 zR0 zR1 zR2 zR3 zR4 zR5
  generalize (((((w2.setCell ⟨w.heap.size, 0, none⟩ (.int .i64 e.kind)).setCell ⟨w.heap.size, 1, none⟩ (.int .i64 e.i)).setCell ⟨w.heap.size, 2, none⟩ (.int .i64 e.j)).setCell ⟨w.heap.size, 3, none⟩ (.int .i64 e.k)).setCell ⟨w.heap.size, 4, none⟩ (.slice AX e.part.length cX)).setCell ⟨w.heap.size, 5, none⟩ (.string e.map) = W at s1 s2 s3 HB3 ⊢
  have x0 := Blk.cell (i := 0) (v := .int .i64 e.kind) s1 rfl
  have x1 := Blk.cell (i := 1) (v := .int .i64 e.i) s1 rfl
  have x2 := Blk.cell (i := 2) (v := .int .i64 e.j) s1 rfl
  have x3 := Blk.cell (i := 3) (v := .int .i64 e.k) s1 rfl
  have x4 := Blk.cell (i := 4) (v := .slice AX e.part.length cX) s1 rfl
  have x5 := Blk.cell (i := 5) (v := .string e.map) s1 rfl
  exact bodyPost_ret (v := .agg #[.int .i64 e.kind, .int .i64 e.i, .int .i64 e.j, .int .i64 e.k, .slice AX e.part.length cX, .string e.map]) (by simp [results, Tryz.results28, go_sem, x0, x1, x2, x3, x4, x5]) rfl
    ⟨_, e, rfl, ⟨_, rfl, (HSL.out.keep fun k hk => s2 k (by omega)).more fun k hk => Nat.lt_of_lt_of_le hk.2.2 s3.size⟩, HOK.out.1, HOK.out.2, HB3⟩
end Go.Proofs.YtdacndamehiglaaGreatDoor
namespace Go.Proofs
open Go.Shelf
end Go.Proofs
namespace Go.Proofs.YtdacndamehiglaaGreatDoor
open Go.RowKit
section
variable {xs : List GRule} {vR : Value} {bg bs b B : Nat}
end
def upV (xs : List GRule) : List UInt8 := if gramOk xs && decide ((wordG xs).length ≤ 2000) then wordG xs else []
def upC (xs : List GRule) : Int := if gramOk xs then (if (wordG xs).length ≤ 2000 then 0 else 3) else 1
theorem up_bad {xs : List GRule} (h : gramOk xs = false) : upV xs = [] ∧ upC xs = 1 := by simp [upV, upC, h]
theorem up_long {xs : List GRule} (h : gramOk xs = true) (hl : ¬ (wordG xs).length ≤ 2000) : upV xs = [] ∧ upC xs = 3 := by
  unfold upV upC
  rw [h, decide_eq_false hl]
  simp [hl]
theorem up_ok {xs : List GRule} (h : gramOk xs = true) (hl : (wordG xs).length ≤ 2000) : upV xs = wordG xs ∧ upC xs = 0 := by
  unfold upV upC
  rw [h, decide_eq_true hl]
  simp [hl]
set_option maxRecDepth 100000 in
set_option maxHeartbeats 1000000 in
theorem specUnpackWord_any (v : Value) (xs : List GRule) (w : World) (h : Sl RuleE w w.heap.size v xs) (hsm : SmallL xs) :
    Calls Tryz.prog 33 #[.agg #[v]] w fun e w' => e = .returned (.tuple #[.string ⟨(upV xs).toArray⟩, .int .i64 (upC xs)]) ∧ Below w.heap.size w w' := by
  have HG := Lib.hid h
  obtain ⟨A, c, rfl, _⟩ := h
  have b1 := (Below.refl w.heap.size w).alloc (Nat.le_refl _) (Obj.cells #[.slice A xs.length c] 26)
  have KP := Blk.new w #[.slice A xs.length c] 26
  go_enter Tryz.func33, Tryz.ntmps33
  go_upto_region 1 with fail
  generalize (w.alloc (Obj.cells #[.slice A xs.length c] 26)) = w0 at *
  have KB := Lib.hid b1
  clear b1
  have cP0_1 := Blk.cell (i := 0) (v := .slice A xs.length c) KP rfl
  have lP_2 := Blk.lt KP
  go_wp2_with fail
  refine (l02Ok_any w.heap.size 0 _ xs _ cP0_1 (Blk.lt KP) (HG.out.up KB.out) hsm).mono ?_
  rintro e w1 ⟨rfl, hb_3⟩
  have z_w1 : w0.heap.size ≤ w1.heap.size := hb_3.size
  have KB_4 := Lib.hid (Below.tr KB.out hb_3)
  have KP_5 := Blk.up KP hb_3
  clear cP0_1 lP_2 KB KP
  cases hg : gramOk xs with
  | false =>
    have HQ := Lib.hid (up_bad hg)
    clear hg
    go_wp2_with fail
    go_ret2
    exact ⟨by rw [HQ.out.1, HQ.out.2]; rfl, KB_4.out⟩
  | true =>
    obtain ⟨h4, ls, hl⟩ := gram_lens hg
    have HGG := Lib.hid hg
    have HL := Lib.hid hl
    have hwl := wordG_len hl
    have hlb := lastI_bounds hl
    clear hg hl
    have cP0_6 := Blk.cell (i := 0) (v := .slice A xs.length c) KP_5 rfl
    have lP_7 := Blk.lt KP_5
    go_wp2_with fail
    refine (l02Length_any w.heap.size 0 _ xs ls _ HL.out cP0_6 (Blk.lt KP_5) (HG.out.up KB_4.out) hsm (by omega)).mono ?_
    rintro e w2 ⟨rfl, hb_8⟩
    have z_w2 : w1.heap.size ≤ w2.heap.size := hb_8.size
    have KB_9 := Lib.hid (Below.tr KB_4.out hb_8)
    have KP_10 := Blk.up KP_5 hb_8
    clear hb_3 cP0_6 lP_7 KB_4 KP_5
    by_cases hbig : (2000 : Int) < lastI ls
    · have HQ := Lib.hid (up_long HGG.out (by omega))
      go_wp2_with fail
      go_ret2
      exact ⟨by rw [HQ.out.1, HQ.out.2]; rfl, KB_9.out⟩
    · have HQ := Lib.hid (up_ok HGG.out (by omega))
      have hcut : cutL (wordG xs) 0 (lastI ls) = wordG xs := cutL_all (Int.le_refl _) (by omega)
      have HC := Lib.hid hcut
      clear hcut
      have cP0_11 := Blk.cell (i := 0) (v := .slice A xs.length c) KP_10 rfl
      have lP_12 := Blk.lt KP_10
      go_wp2_with fail
      refine (l02Unpack_any w.heap.size 0 _ xs ls 0 (lastI ls) _ cP0_11 (Blk.lt KP_10) (HG.out.up KB_9.out) hsm HL.out h4 (by omega) (by omega) (by omega) (by omega)).mono ?_
      rintro e w3 ⟨rfl, hb_13⟩
      have z_w3 : w2.heap.size ≤ w3.heap.size := hb_13.size
      have KB_14 := Lib.hid (Below.tr KB_9.out hb_13)
      have KP_15 := Blk.up KP_10 hb_13
      clear hb_8 cP0_11 lP_12 KB_9 KP_10
      go_wp2_with fail
      go_ret2
      exact ⟨by rw [HQ.out.1, HQ.out.2, HC.out]; rfl, KB_14.out⟩
theorem Unpacked_any (v : Value) (xs : List GRule) (w : World) (h : Sl RuleE w w.heap.size v xs) (hsm : SmallL xs) :
    Calls Tryz.prog 8 #[.agg #[v]] w fun e w' => e = .returned (.string ⟨(upV xs).toArray⟩) ∧ Below w.heap.size w w' := by
  have HG := Lib.hid h
  obtain ⟨A, c, rfl, _⟩ := h
  go_enter Tryz.func8, Tryz.ntmps8
  go_wp2_with fail
  refine (specUnpackWord_any _ xs _ (HG.out.up (by repeat (first | exact Below.refl _ _ | (refine Below.alloc ?_ (by first | omega | (simp; done) | (simp; omega)) _) | (refine Below.setCell ?_ (by first | exact Nat.le_refl _ | (show _ ≤ _; omega) | (simp; done) | (simp; omega)) _) | refine below_drewN ?_ _ | refine Below.drew ?_))) hsm).mono ?_
  rintro e w1 ⟨rfl, hb⟩
  go_wp2_with fail
  go_ret
  exact ⟨rfl, (Below.unalloc hb).1⟩
theorem drawnW {most : Int} {xs : List GRule} (h : DrawnOk most xs) (h1 : 1 ≤ most) (h2 : most ≤ 2000) : upV xs = wordG xs ∧ upC xs = 0 ∧ ((wordG xs).length : Int) = gramLen xs ∧ ((wordG xs).length : Int) ≤ most := by
  obtain ⟨hg, h0, hm, _⟩ := h
  obtain ⟨h4, ls, hl⟩ := gram_lens hg
  have hw := wordG_len hl
  have hgl := gramLen_of hl
  have := hm h1
  obtain ⟨k1, k2⟩ := up_ok hg (by omega)
  exact ⟨k1, k2, by omega, by omega⟩
end Go.Proofs.YtdacndamehiglaaGreatDoor
