import Derived.Test.YtoemoifeiigkoaaClone
namespace Go.Proofs.Ytoemoifeiigkoaa
open Go.RowKit

def dig1 (j : Nat) : ByteArray := ⟨#[UInt8.ofNat (48 + j % 10)]⟩
theorem dig1_size (j : Nat) : (dig1 j).size = 1 := rfl
def digs : Nat → Nat → ByteArray → ByteArray
  | 0, _, acc => acc
  | f + 1, k, acc => if k = 0 then acc else digs f (k / 10) (dig1 k ++ acc)
def mtext (k : Nat) : ByteArray := if k = 0 then ⟨#[109, 48]⟩ else ⟨#[109]⟩ ++ digs k k ⟨#[]⟩

theorem conv1 (W : World) (j : Nat) : (convert 41 9 (.slice (some ⟨W.heap.size, 0, none⟩) 1 1)).run Try.prog (W.alloc (.cells #[.int .u8 (48 + (j : Int) % 10)] 5)) = .ok (.string (dig1 j)) (W.alloc (.cells #[.int .u8 (48 + (j : Int) % 10)] 5)) := by
  rw [run_convert_bytes_arg (W.alloc (.cells #[.int .u8 (48 + (j : Int) % 10)] 5)) 41 5 Try.underlying41 Try.underlying5 W.heap.size 0 1 1 [48 + (j : Int) % 10] rfl
    (fun i hi => by
      have : i = 0 := by omega
      subst this
      simp [go_sem]) 9 Try.underlying9]
  have : strOfNums [48 + (j : Int) % 10] = dig1 j := by
    simp only [strOfNums, dig1, List.map_cons, List.map_nil]
    rw [show (48 + (j : Int) % 10).toNat = 48 + j % 10 by omega]
  rw [this]
theorem digs_zero (f : Nat) (acc : ByteArray) : digs f 0 acc = acc := by cases f <;> simp [digs]
set_option maxRecDepth 100000 in
theorem markText_any (k : Nat) (w : World) (hk : k ≤ 8796093022208) :
    Calls Try.prog 144 #[.int .i64 k] w fun e w' => e = .returned (.string (mtext k)) ∧ Below w.heap.size w w' := by
  by_cases h0 : k = 0
  · subst h0
    go_enter Try.func144, Try.ntmps144
    go_wp2
    go_ret
    exact ⟨rfl, Below.refl _ _⟩
  · go_enter Try.func144, Try.ntmps144
    go_wp2_with fail
    go_loopw [0, 3] (fun q out wr => ∃ (f j : Nat) (acc : ByteArray), j ≤ f ∧ j ≤ k ∧ q = .int .i64 j ∧ out = .string acc ∧ acc.size + f ≤ k ∧ Below w.heap.size w wr ∧ Hid (digs f j acc = digs k k ⟨#[]⟩)) (fun q _ _ => (intOf q).toNat)
    case atStart => exact ⟨k, k, _, Nat.le_refl _, Nat.le_refl _, rfl, rfl, by simp [ByteArray.size], Below.refl _ _, rfl⟩
    case round =>
      obtain ⟨f, j, acc, hj, hjk, rfl, rfl, hsz, hb, H⟩ := hrel
      by_cases hz : 0 < j
      · have hr : 0 ≤ (j : Int) % 10 ∧ (j : Int) % 10 ≤ 9 := by omega
        have hcv := conv1 wr j
        have hds := dig1_size j
        obtain ⟨f', rfl⟩ : ∃ f', f = f' + 1 := ⟨f - 1, by omega⟩
        go_wp2
        go_roundw
        case rel => exact ⟨f', j / 10, _, by omega, by omega, by go_num, rfl, by rw [ByteArray.size_append, dig1_size]; omega, hb.alloc hb.size _, by have := H.out; rw [digs, if_neg (by omega)] at this; exact this⟩
        case measure => simp [intOf]; omega
      · have hj0 : j = 0 := by omega
        subst hj0
        go_wp2
        go_ret
        exact ⟨by rw [mtext, if_neg h0, ← H.out, digs_zero]; rfl, hb⟩

theorem markText_int (m : Nat) (q : Int) (w : World) (hq : q = m) (hk : m ≤ 8796093022208) :
    Calls Try.prog 144 #[.int .i64 q] w fun e w' => e = .returned (.string (mtext m)) ∧ Below w.heap.size w w' := by
  subst hq
  exact markText_any m w hk

def mark1 (k i : Nat) : GRule := { letter := mtext (k + 3 * i), left := (k + 3 * i + 1 : Nat), right := (k + 3 * i + 2 : Nat) }
def marks (k n : Nat) : List GRule := (List.range n).map (mark1 k)
theorem marks_length (k n : Nat) : (marks k n).length = n := by simp [marks]
theorem marks_at (k n i : Nat) (h : i < n) : (marks k n)[i]? = some (mark1 k i) := by simp [marks, h]

theorem grown_below {a b c : World} {row : Option Nat} (h : a.grownBy b row) (k : Below b.heap.size b c) : a.grownBy c row :=
  ⟨k.os.trans h.os, k.tape.trans h.tape, k.output.trans h.output, Nat.le_trans h.size k.size, fun i hi hne => (k.block i (Nat.lt_of_lt_of_le hi h.size)).trans (h.block i hi hne)⟩

theorem mark_step {xs : List GRule} {k n : Nat} (h : n < xs.length) : ((marks k n) ++ xs.drop n).set n (mark1 k n) = marks k (n + 1) ++ xs.drop (n + 1) := by
  rw [List.set_append, if_neg (by rw [marks_length]; omega), marks_length, Nat.sub_self, List.drop_eq_getElem_cons h, List.set_cons_zero]
  simp [marks, List.range_succ]

set_option maxRecDepth 100000 in
theorem markRuleS_any (base : Nat) (v : Value) (xs : List GRule) (k : Nat) (w : World) (h : OwnRules w base v xs) (hn : xs.length ≤ 1099511627776) (hk : k ≤ 1099511627776) :
    Calls Try.prog 83 #[v, .int .i64 k] w fun e w' => e = .returned (.int .i64 ((k + 3 * xs.length : Nat) : Int)) ∧ OwnRules w' base v (marks k xs.length) ∧ w.grownBy w' v.ownBlock := by
  rcases Nat.eq_zero_or_pos xs.length with h0 | h0
  · have hx : xs = [] := List.eq_nil_of_length_eq_zero h0
    subst hx
    have Hown := Lib.hid h
    obtain ⟨A, cap, rfl, _⟩ := own_nil h
    clear h
    go_enter Try.func83, Try.ntmps83
    go_wp2_with fail
    go_loopw [1, 5] (fun q i wr => q = .int .i64 k ∧ i = .int .i64 0 ∧ wr = w) (fun _ _ _ => 0)
    case atStart => exact ⟨rfl, rfl, rfl⟩
    case round =>
      obtain ⟨rfl, rfl, rfl⟩ := hrel
      go_wp2
      go_ret
      exact ⟨by simp, by simpa [marks] using Hown.out, World.grownBy.refl _ _⟩
  · obtain ⟨g, cap, rfl, hgb, hgl, hcap, _⟩ := own_form h h0
    have Hown := Lib.hid h
    clear h hcap
    go_enter Try.func83, Try.ntmps83
    go_wp2_with fail
    go_loopw [1, 5] (fun q i wr => ∃ n : Nat, n ≤ xs.length ∧ q = .int .i64 ((k + 3 * n : Nat) : Int) ∧ i = .int .i64 n ∧ w.grownBy wr (some g) ∧
      wr.ownsRow base 171 3 (.slice (some ⟨g, 0, none⟩) xs.length cap) xs.length ((marks k n ++ xs.drop n).flatMap GRule.cells)) (fun _ i _ => xs.length - (intOf i).toNat)
    case atStart => exact ⟨0, Nat.zero_le _, rfl, rfl, World.grownBy.refl _ _, by have := Hown.out; unfold OwnRules at this; simpa [marks] using this⟩
    case round =>
      obtain ⟨n, hnl, rfl, rfl, hgr, hown⟩ := hrel
      by_cases hlt : n < xs.length
      · have Hown := Lib.hid hown
        clear hown
        go_wp2_with fail
        refine (markText_int (k + 3 * n) _ _ (by omega) (by omega)).mono ?_
        rintro e w2 ⟨rfl, hb2⟩
        have hown2 := ownsRow_below Hown.out hb2
        have hlen : (marks k n ++ xs.drop n).length = xs.length := by simp [marks_length]; omega
        obtain ⟨u0, hu0⟩ : ∃ u, w2.cell? ⟨g, n * 3, none⟩ = some u :=
          ⟨_, (hown2.cellAt (n * 3) (by omega)).trans (List.getElem?_eq_getElem (by rw [hown2.1]; omega))⟩
        obtain ⟨u1, hu1⟩ : ∃ u, w2.cell? ⟨g, n * 3 + 1, none⟩ = some u :=
          ⟨_, (hown2.cellAt (n * 3 + 1) (by omega)).trans (List.getElem?_eq_getElem (by rw [hown2.1]; omega))⟩
        obtain ⟨u2, hu2⟩ : ∃ u, w2.cell? ⟨g, n * 3 + 2, none⟩ = some u :=
          ⟨_, (hown2.cellAt (n * 3 + 2) (by omega)).trans (List.getElem?_eq_getElem (by rw [hown2.1]; omega))⟩
        have hf0 := hown2.frozenAt (n * 3)
        have hf1 := hown2.frozenAt (n * 3 + 1)
        have hf2 := hown2.frozenAt (n * 3 + 2)
        have hst := OwnRules.stored3 hown2 n (mark1 k n) (by omega)
        rw [mark_step hlt] at hst
        have Hst := Lib.hid hst
        have Hgr := Lib.hid (grown_below hgr hb2)
        clear hown2 hst hlen hb2 hgr
        go_wp2
        have e1 : (mark1 k n).left = (k : Int) + 3 * n + 1 := by simp [mark1]
        have e2 : (mark1 k n).right = (k : Int) + 3 * n + 1 + 1 := by simp [mark1, Int.add_assoc]
        have hst := Hst.out
        rw [e1, e2] at hst
        go_roundw
        case rel => exact ⟨n + 1, by omega, by congr 1 <;> omega, by go_num, grown_trans Hgr.out hst.2, hst.1⟩
        case measure => simp [intOf]; omega
      · have hkn : n = xs.length := by omega
        subst hkn
        have Hown := Lib.hid hown
        clear hown
        go_wp2
        go_ret
        exact ⟨rfl, by have := Hown.out; rw [List.drop_length, List.append_nil] at this; unfold OwnRules; rw [marks_length]; exact this, hgr⟩

theorem keepB {wr W W2 : World} {p : Addr} {v : Value} (h : Below wr.heap.size wr W ∧ W.cell? p = some v) (h2 : Below W.heap.size W W2) (hp : p.block < wr.heap.size) : Below wr.heap.size wr W2 ∧ W2.cell? p = some v :=
  ⟨h.1.trans (h2.mono h.1.size), (h2.cell (Nat.lt_of_lt_of_le hp h.1.size)).trans h.2⟩
set_option maxRecDepth 100000 in
theorem heldRuleS_any (v : Value) (k m : Nat) (w : World) (h : Sl RuleE w w.heap.size v (marks k m)) (hn : m ≤ 1099511627776) (hk : k ≤ 1099511627776) :
    Calls Try.prog 84 #[v, .int .i64 k] w fun e w' => e = .returned (.int .i64 ((k + 3 * m : Nat) : Int)) ∧ Below w.heap.size w w' := by
  obtain ⟨A, c, rfl, hc, hm, hrow⟩ := h
  rw [marks_length] at hc
  rw [marks_length]
  clear hm
  go_enter Try.func84, Try.ntmps84
  go_wp2_with fail
  go_loopw [1, 5] (fun q i wr => ∃ n : Nat, n ≤ m ∧ q = .int .i64 ((k + 3 * n : Nat) : Int) ∧ i = .int .i64 n ∧ Below w.heap.size w wr) (fun _ i _ => m - (intOf i).toNat)
  case atStart => exact ⟨0, Nat.zero_le _, rfl, rfl, Below.refl _ _⟩
  case round =>
    obtain ⟨n, hnl, rfl, rfl, hb⟩ := hrel
    by_cases hlt : n < m
    · obtain ⟨b, o, rfl, hbl, hcell⟩ := hrow.rule (k := n) (by rw [marks_length]; exact hlt)
      obtain ⟨g0, g1, g2⟩ := hcell n _ (marks_at k m n hlt)
      have hc0 : wr.cell? ⟨b, o + n * 3, none⟩ = some (.string (mtext (k + 3 * n))) := (hb.cell (p := ⟨b, o + n * 3, none⟩) hbl).trans g0
      have hc1 : wr.cell? ⟨b, o + n * 3 + 1, none⟩ = some (.int .i64 ((k : Int) + 3 * n + 1)) := (hb.cell (p := ⟨b, o + n * 3 + 1, none⟩) hbl).trans g1
      have hc2 : wr.cell? ⟨b, o + n * 3 + 2, none⟩ = some (.int .i64 ((k : Int) + 3 * n + 1 + 1)) := (hb.cell (p := ⟨b, o + n * 3 + 2, none⟩) hbl).trans (g2.trans (by simp [mark1, Int.add_assoc]))
      have hsz : w.heap.size ≤ wr.heap.size := hb.size
      have hi : (n : Int) < (m : Int) := by omega
      clear hcell g0 g1 g2 hrow
      have hbw : b < wr.heap.size := by omega
      go_wp2_with fail
      go_region_held3 (fun w' => Below wr.heap.size wr w' ∧ w'.cell? ⟨b, o + n * 3, none⟩ = some (.string (mtext (k + 3 * n)))) (first | exact ⟨(Below.refl _ _).drew, hc0⟩ | (exact keepB (by assumption) hb2 hbw))
        (first | (go_at_call 144; refine (markText_int (k + 3 * n) _ _ (by omega) (by omega)).mono ?_; rintro e w2 ⟨rfl, hb2⟩))
      have hbz : Below wr.heap.size wr w2 := ((Below.refl _ _).drew).trans hb2
      have hd1 := (hbz.cell (p := ⟨b, o + n * 3 + 1, none⟩) hbw).trans hc1
      have hd2 := (hbz.cell (p := ⟨b, o + n * 3 + 2, none⟩) hbw).trans hc2
      go_wp2
      go_roundw
      case rel => exact ⟨n + 1, by omega, by congr 1 <;> omega, by go_num, hb.trans (hbz.mono hsz)⟩
      case measure => simp [intOf]; omega
    · have hkn : n = m := by omega
      subst hkn
      go_wp2
      go_ret
      exact ⟨rfl, hb⟩

theorem markGrammar_any (base : Nat) (v : Value) (xs : List GRule) (k : Nat) (w : World) (h : OwnRules w base v xs) (hn : xs.length ≤ 1099511627776) (hk : k ≤ 1099511627776) :
    Calls Try.prog 18 #[.agg #[v], .int .i64 k] w fun e w' => e = .returned (.int .i64 ((k + 3 * xs.length : Nat) : Int)) ∧ OwnRules w' base v (marks k xs.length) ∧ w.grownBy w' v.ownBlock := by
  have h1 := fun o => h.alloc o
  have H1 := Lib.hid h1
  have hgr : ∀ o, w.grownBy (w.alloc o) v.ownBlock := fun o => World.grownBy_alloc w o _
  have Hgr := Lib.hid hgr
  obtain ⟨A, cap, rfl, _⟩ := own_nil h
  clear h h1 hgr
  go_enter Try.func18, Try.ntmps18
  go_wp2_with fail
  refine (markRuleS_any base _ xs k _ (H1.out _) hn hk).mono ?_
  rintro e w1 ⟨rfl, h2, h3⟩
  have H2 := Lib.hid h2
  have H3 := Lib.hid h3
  clear h2 h3
  go_wp2
  go_ret
  refine ⟨by simp, H2.out, ?_⟩
  have h3 := H3.out
  have h4 := Hgr.out (Obj.cells #[Value.slice A xs.length cap] 28)
  exact ⟨h3.os.trans h4.os, h3.tape.trans h4.tape, h3.output.trans h4.output, Nat.le_trans h4.size h3.size, fun i hi hne => (h3.block i (Nat.lt_of_lt_of_le hi h4.size) hne).trans (h4.block i hi hne)⟩

theorem heldGrammar_any (v : Value) (k m : Nat) (w : World) (h : Sl RuleE w w.heap.size v (marks k m)) (hn : m ≤ 1099511627776) (hk : k ≤ 1099511627776) :
    Calls Try.prog 19 #[.agg #[v], .int .i64 k] w fun e w' => e = .returned (.int .i64 ((k + 3 * m : Nat) : Int)) ∧ Below w.heap.size w w' := by
  have h1 := fun o => (h.below ((Below.refl w.heap.size w).alloc (Nat.le_refl _) o)).le (B' := (w.alloc o).heap.size) (by simp)
  have H1 := Lib.hid h1
  obtain ⟨A, cap, rfl, _⟩ := h
  clear h1
  go_enter Try.func19, Try.ntmps19
  go_wp2_with fail
  refine (heldRuleS_any _ k m _ (H1.out _) hn hk).mono ?_
  rintro e w1 ⟨rfl, hb⟩
  go_wp2
  go_ret
  exact ⟨by simp, ((Below.refl _ _).alloc (Nat.le_refl _) _).trans (hb.mono (by simp))⟩
end Go.Proofs.Ytoemoifeiigkoaa
