import Derived.Test.YtfapnipmgmpgaaaM1
import Derived.Deep.DeepMust
import Derived.Shelf.SlicesE.Reverse
import Derived.Lib.ConvBytes
import Derived.Lib.RowBridge
import Derived.Laws.IdiomCopy
import Derived.Lib.LazyBuf
import Derived.Shelf.Abstract
namespace Go.Proofs.Ytfapnipmgmpgaaa
open Go.RowKit

theorem set3 (rs : List GRule) (k : Nat) (r : GRule) (h : k < rs.length) :
    (((rs.flatMap GRule.cells).set (k * 3) (.string r.letter)).set (k * 3 + 1) (.int .i64 r.left)).set (k * 3 + 2) (.int .i64 r.right) = (rs.set k r).flatMap GRule.cells := by
  induction rs generalizing k with
  | nil => simp at h
  | cons x xs ih =>
    cases k with
    | zero => simp [GRule.cells]
    | succ k =>
      have := ih k (by simpa using h)
      simp only [List.flatMap_cons, List.set_cons_succ]
      have e : (GRule.cells x).length = 3 := rfl
      rw [List.set_append, if_neg (by omega), e, List.set_append, if_neg (by omega), e, List.set_append, if_neg (by omega), e]
      rw [show (k+1)*3-3 = k*3 by omega, show (k+1)*3+1-3 = k*3+1 by omega, show (k+1)*3+2-3 = k*3+2 by omega, this]

theorem grown_trans {a b c : World} {g : Nat} (h : a.grownBy b (some g)) (k : b.grownBy c (some g)) : a.grownBy c (some g) :=
  ⟨k.os.trans h.os, k.tape.trans h.tape, k.output.trans h.output, Nat.le_trans h.size k.size, fun i hi hne => (k.block i (Nat.lt_of_lt_of_le hi h.size) hne).trans (h.block i hi hne)⟩

theorem OwnRules.stored3 {w : World} {base g n cap : Nat} {rs : List GRule} (h : w.ownsRow base 160 3 (.slice (some ⟨g, 0, none⟩) n cap) n (rs.flatMap GRule.cells)) (k : Nat) (r : GRule) (hk : k < rs.length) :
    (((w.setCell ⟨g, k * 3, none⟩ (.string r.letter)).setCell ⟨g, k * 3 + 1, none⟩ (.int .i64 r.left)).setCell ⟨g, k * 3 + 2, none⟩ (.int .i64 r.right)).ownsRow base 160 3 (.slice (some ⟨g, 0, none⟩) n cap) n ((rs.set k r).flatMap GRule.cells) ∧
    w.grownBy (((w.setCell ⟨g, k * 3, none⟩ (.string r.letter)).setCell ⟨g, k * 3 + 1, none⟩ (.int .i64 r.left)).setCell ⟨g, k * 3 + 2, none⟩ (.int .i64 r.right)) (some g) := by
  obtain ⟨h1, g1⟩ := World.ownsRow.stored h (k * 3) (.string r.letter)
  obtain ⟨h2, g2⟩ := World.ownsRow.stored h1 (k * 3 + 1) (.int .i64 r.left)
  obtain ⟨h3, g3⟩ := World.ownsRow.stored h2 (k * 3 + 2) (.int .i64 r.right)
  rw [set3 rs k r hk] at h3
  exact ⟨h3, grown_trans (grown_trans g1 g2) g3⟩

set_option maxRecDepth 100000 in
theorem toRuleS_any (v : Value) (xs : List GRule) (w : World) (h : Sl RuleE w w.heap.size v xs) (hl : xs.length ≤ 1048576) :
    Calls Try.prog 97 #[v] w fun e w' => ∃ v', e = .returned v' ∧ OwnRules w' w.heap.size v' xs ∧ Below w.heap.size w w' := by
  obtain ⟨A, c, rfl, hc, hm, hrow⟩ := h
  clear hm
  obtain ⟨i0, hi0, hz0, hz1, hz2⟩ := info_parts Try.infoR
  go_enter Try.func97, Try.ntmps97
  go_wp2_with (at_make; go_must (refine wpList_make_full _ rfl _ _ 30 rfl w.heap.size 160 i0 _ 3 Try.underlying30 hi0 hz0 hz1 _ _ _ _ xs.length rfl rfl rfl rfl (by rw [hz2]; omega) (by unfold maxLen; omega) (Nat.le_refl _) ?_); intro w1 hown1 hg1; rw [madeRules] at hown1)
  have hb1 : Below w.heap.size w w1 := (Below.refl _ _).grown hg1 (Nat.le_refl _) (by simp)
  have Hown := Lib.hid hown1
  clear hown1 hg1 hi0 hz0 hz1 hz2
  go_loopw [4] (fun i wr => ∃ (k : Nat), k ≤ xs.length ∧ i = .int .i64 k ∧ Below w.heap.size w wr ∧ wr.ownsRow w.heap.size 160 3 (.slice (some ⟨w.heap.size, 0, none⟩) xs.length xs.length) xs.length ((xs.take k ++ List.replicate (xs.length - k) ({ letter := ⟨#[]⟩, left := 0, right := 0 } : GRule)).flatMap GRule.cells)) (fun i _ => xs.length - (intOf i).toNat)
  case atStart => exact ⟨0, Nat.zero_le _, rfl, hb1, by simpa using Hown.out⟩
  case round =>
    obtain ⟨k, hk, rfl, hb, hown⟩ := hrel
    by_cases hlt : k < xs.length
    · obtain ⟨b, o, rfl, hbl, hcell⟩ := hrow.rule hlt
      obtain ⟨x, hx⟩ : ∃ x, xs[k]? = some x := ⟨_, List.getElem?_eq_getElem hlt⟩
      obtain ⟨g0, g1, g2⟩ := hcell k x hx
      have hc0 := (hb.cell (p := ⟨b, o + k * 3, none⟩) hbl).trans g0
      have hc1 := (hb.cell (p := ⟨b, o + k * 3 + 1, none⟩) hbl).trans g1
      have hc2 := (hb.cell (p := ⟨b, o + k * 3 + 2, none⟩) hbl).trans g2
      have Hown := Lib.hid hown
      have Hx := Lib.hid hx
      clear hcell hown hx g0 g1 g2
      go_wp2_with fail
      refine (toRule_any _ _ _ _).mono ?_
      rintro e w2 ⟨rfl, hb2⟩
      have hown2 := ownsRow_below Hown.out hb2
      have hlen : (xs.take k ++ List.replicate (xs.length - k) ({ letter := ⟨#[]⟩, left := 0, right := 0 } : GRule)).length = xs.length := by simp; omega
      obtain ⟨u0, hu0⟩ : ∃ u, w2.cell? ⟨w.heap.size, k * 3, none⟩ = some u :=
        ⟨_, (hown2.cellAt (k * 3) (by omega)).trans (List.getElem?_eq_getElem (by rw [hown2.1]; omega))⟩
      obtain ⟨u1, hu1⟩ : ∃ u, w2.cell? ⟨w.heap.size, k * 3 + 1, none⟩ = some u :=
        ⟨_, (hown2.cellAt (k * 3 + 1) (by omega)).trans (List.getElem?_eq_getElem (by rw [hown2.1]; omega))⟩
      obtain ⟨u2, hu2⟩ : ∃ u, w2.cell? ⟨w.heap.size, k * 3 + 2, none⟩ = some u :=
        ⟨_, (hown2.cellAt (k * 3 + 2) (by omega)).trans (List.getElem?_eq_getElem (by rw [hown2.1]; omega))⟩
      have hf0 := hown2.frozenAt (k * 3)
      have hf1 := hown2.frozenAt (k * 3 + 1)
      have hf2 := hown2.frozenAt (k * 3 + 2)
      have hst := OwnRules.stored3 hown2 k x (by omega)
      rw [fill_step xs _ k _ Hx.out] at hst
      have Hst := Lib.hid hst
      have hb3 := hb.trans (hb2.mono hb.size)
      clear hown2 hst hlen hb2
      go_wp2
      go_roundw
      case rel => exact ⟨k + 1, by omega, by go_num, ((hb3.setCell (Nat.le_refl _) _).setCell (Nat.le_refl _) _).setCell (Nat.le_refl _) _, Hst.out.1⟩
      case measure => simp [intOf]; omega
    · have hkn : k = xs.length := by omega
      subst hkn
      have Hown2 := Lib.hid hown
      clear hown
      go_wp2
      go_ret
      exact ⟨_, rfl, by have := Hown2.out; simpa [OwnRules] using this, hb⟩

theorem toGrammar_any (v : Value) (xs : List GRule) (w : World) (h : Sl RuleE w w.heap.size v xs) (hl : xs.length ≤ 1048576) :
    Calls Try.prog 37 #[.agg #[v]] w fun e w' => ∃ v', e = .returned (.agg #[v']) ∧ OwnRules w' w.heap.size v' xs ∧ Below w.heap.size w w' := by
  have h1 := fun o o' o'' => (h.below ((((Below.refl w.heap.size w).alloc (Nat.le_refl _) o).alloc (by simp) o').alloc (by simp; omega) o'')).le (B' := (((w.alloc o).alloc o').alloc o'').heap.size) (by simp; omega)
  have H1 := Lib.hid h1
  clear h1
  obtain ⟨A, c, rfl, _⟩ := h
  go_enter Try.func37, Try.ntmps37
  go_wp2_with fail
  refine (toRuleS_any _ _ _ (H1.out _ _ _) hl).mono ?_
  rintro e w1 ⟨v1, rfl, hown, hb1⟩
  obtain ⟨A1, c1, rfl, _⟩ := own_nil hown
  obtain ⟨hc1, hf1⟩ := bcell hb1
  have hz1 : w.heap.size + 3 ≤ w1.heap.size := by have := hb1.size; simp at this; omega
  have Hown := Lib.hid hown
  have Hb1 := Lib.hid hb1
  clear hown hb1
  go_wp2
  refine bodyPost_ret (v := .agg #[.slice A1 xs.length c1]) (by simp [results, Try.results37, go_sem, hc1]) rfl ⟨_, rfl, ?_, ?_⟩
  · have h3 := Hown.out
    have h4 : w1.ownsRow (w.heap.size + 3) 160 3 (.slice A1 xs.length c1) xs.length (xs.flatMap GRule.cells) := ownsRow_more h3 (by simp)
    exact ownsRow_more (ownsRow_setCell_below (ownsRow_setCell_below h4 (by show w.heap.size + 1 + 1 < w.heap.size + 3; omega) _) (by show w.heap.size + 1 < w.heap.size + 3; omega) _) (by omega)
  · exact (((((Below.refl _ _).alloc (Nat.le_refl _) _).alloc (by simp) _).alloc (by simp; omega) _).trans (Hb1.out.mono (by simp; omega))).setCell (by show w.heap.size ≤ w.heap.size + 1 + 1; omega) _ |>.setCell (by show w.heap.size ≤ w.heap.size + 1; omega) _

theorem eqGrammar_any (v v' : Value) (xs : List GRule) (w : World) (h : Sl RuleE w w.heap.size v xs) (h' : Sl RuleE w w.heap.size v' xs) :
    Calls Try.prog 23 #[.agg #[v], .agg #[v']] w fun e w' => e = .returned (.bool true) ∧ Below w.heap.size w w' := by
  have h1 := fun o o' => (h.below (((Below.refl w.heap.size w).alloc (Nat.le_refl _) o).alloc (by simp) o')).le (B' := ((w.alloc o).alloc o').heap.size) (by simp; omega)
  have h2 := fun o o' => (h'.below (((Below.refl w.heap.size w).alloc (Nat.le_refl _) o).alloc (by simp) o')).le (B' := ((w.alloc o).alloc o').heap.size) (by simp; omega)
  obtain ⟨A, c, rfl, hc, hm, hrow⟩ := h
  obtain ⟨A', c', rfl, hc', hm', hrow'⟩ := h'
  have H1 := Lib.hid h1
  have H2 := Lib.hid h2
  clear h1 h2 hm hm' hrow hrow'
  go_enter Try.func23, Try.ntmps23
  go_wp2_with (first | (go_at_call 80; go_must (refine (eqRuleS_any _ _ _ _ (H1.out _ _) (H2.out _ _)).mono ?_); rintro e w2 ⟨rfl, hb2⟩))
  go_ret
  exact ⟨rfl, (((Below.refl _ _).alloc (Nat.le_refl _) _).alloc (by simp) _).trans (hb2.mono (by simp; omega))⟩
end Go.Proofs.Ytfapnipmgmpgaaa

namespace Go.Proofs.Ytfapnipmgmpgaaa
open Go.RowKit

theorem within_any (n a b : Int) (w : World) :
    Calls Try.prog 86 #[.int .i64 n, .int .i64 a, .int .i64 b] w fun e w' => e = .returned (.bool (decide (a ≤ n) && decide (n ≤ b))) ∧ w = w' := by
  by_cases h1 : a ≤ n
  · by_cases h2 : n ≤ b <;> go_enter Try.func86, Try.ntmps86 <;> go_wp2 <;> go_ret <;> exact ⟨by simp [h1,h2], rfl⟩
  · go_enter Try.func86, Try.ntmps86
    go_wp2
    go_ret
    exact ⟨by simp; omega, rfl⟩

theorem l00In_any (n a b : Int) (w : World) :
    Calls Try.prog 88 #[.int .i64 n, .int .i64 a, .int .i64 b] w fun e w' => e = .returned (.bool (decide (a ≤ n) && decide (n ≤ b))) ∧ w = w' := by
  by_cases h1 : a ≤ n
  · by_cases h2 : n ≤ b <;> go_enter Try.func88, Try.ntmps88 <;> go_wp2 <;> go_ret <;> exact ⟨by simp [h1,h2], rfl⟩
  · go_enter Try.func88, Try.ntmps88
    go_wp2
    go_ret
    exact ⟨by simp; omega, rfl⟩

theorem isPair_any (l : ByteArray) (a b : Int) (w : World) :
    Calls Try.prog 137 #[.agg #[.string l, .int .i64 a, .int .i64 b]] w fun e w' => e = .returned (.bool (l.toList.isEmpty)) ∧ w.alloc (.cells #[.string l, .int .i64 a, .int .i64 b] 160) = w' := by
  go_enter Try.func137, Try.ntmps137
  go_wp2
  go_ret
  exact ⟨by simp, rfl⟩

theorem isLetter_any (c : UInt8) (w : World) :
    Calls Try.prog 108 #[.int .u8 c.toNat] w fun e w' => e = .returned (.bool (decide (97 ≤ (c.toNat:Int)) && decide ((c.toNat:Int) ≤ 100))) ∧ w = w' := by
  by_cases h1 : 97 ≤ (c.toNat : Int)
  · by_cases h2 : (c.toNat : Int) ≤ 100 <;> go_enter Try.func108, Try.ntmps108 <;> go_wp2 <;> go_ret <;> exact ⟨by simp [h1,h2], rfl⟩
  · go_enter Try.func108, Try.ntmps108
    go_wp2
    go_ret
    exact ⟨by simp; omega, rfl⟩

def LensPost (rs : List GRule) (w : World) (e : Ending) (w' : World) : Prop :=
  Below w.heap.size w w' ∧ ((∃ ls v, lens rs = some ls ∧ e = .returned (.tuple #[v, .bool (decide (rs.length ≤ 400))]) ∧ OwnInts w' w.heap.size v ls) ∨
    (lens rs = none ∧ e = .returned (.tuple #[.slice none 0 0, .bool false])))

set_option maxRecDepth 100000 in
theorem lengths_any (v : Value) (rs : List GRule) (w : World) (h : Sl RuleE w w.heap.size v rs) (hn : rs.length ≤ 1099511627776) :
    Calls Try.prog 76 #[.agg #[v]] w (LensPost rs w) := by
  obtain ⟨A, c, rfl, hc, hm, hrow⟩ := h
  clear hm
  go_enter Try.func76, Try.ntmps76
  go_wp2_with fail
  go_loopw [4, 12] (fun out i wr => ∃ (k : Nat) (vals : List Int), k ≤ rs.length ∧ i = .int .i64 k ∧ lens (rs.take k) = some vals ∧ Below (w.heap.size+1) (w.alloc (Obj.cells #[Value.slice A rs.length c] 32)) wr ∧ OwnInts wr (w.heap.size+1) out vals) (fun _ i _ => rs.length - (intOf i).toNat)
  case atStart => exact ⟨0, [], Nat.zero_le _, rfl, by simp [lens], (Below.refl _ _).alloc (by simp) _, OwnInts.empty (by simp) (by simp)⟩
  case round =>
    obtain ⟨k, vals, hk, rfl, hlen, hb, hown⟩ := hrel
    have hB : Below w.heap.size w wr := ((Below.refl _ _).alloc (Nat.le_refl _) _).trans (hb.mono (by omega))
    by_cases hlt : k < rs.length
    · have hvk : vals.length = k := by have := lens_length hlen; rw [List.length_take] at this; omega
      obtain ⟨b, o, rfl, hbl, hcell⟩ := (hrow.keep (Keep.of_below hB)).rule hlt
      obtain ⟨r, hrk⟩ : ∃ x, rs[k]? = some x := ⟨_, List.getElem?_eq_getElem hlt⟩
      obtain ⟨hc0, hc1, hc2⟩ := hcell k r hrk
      have hsz : w.heap.size + 1 ≤ wr.heap.size := by have := hb.size; simpa using this
      have hv1 : vals.length ≤ 1099511627776 := by omega
      have hat : 0 < k → _ := fun h => hown.at_ (j := 0) (by omega)
      have Hat := Lib.hid hat
      have Hr := Lib.hid hrk
      have Hlen := Lib.hid hlen
      have Hvk := Lib.hid hvk
      clear hrk hcell hrow hlen hvk hat
      go_wp2_with (first
        | (go_at_call 137; refine (isPair_any _ _ _ _).mono ?_; rintro e w' ⟨rfl, rfl⟩)
        | (go_at_call 86; refine (within_any _ _ _ _).mono ?_; rintro e w' ⟨rfl, rfl⟩)
        | (go_at_call 108; refine (isLetter_any _ _).mono ?_; rintro e w' ⟨rfl, rfl⟩)
        | (at_builtin; go_must (refine push_ints rfl _ _ rfl rfl rfl (by simp) (by repeat (first | exact hown | apply OwnInts.alloc)) (by omega) (by simp; omega) ?_)
           intro v' w1 hown1 hgrow hbw))
      · go_ret2
        exact ⟨by repeat (first | exact hB | (refine Below.alloc ?_ (by first | omega | (simp; omega)) _)), .inr ⟨lens_bad Hlen.out Hr.out (lensStep_none (by rw [Hvk.out]; exact okp_no2 ‹_› ‹_›)), rfl⟩⟩
      · have h1 : 0 ≤ r.left ∧ r.left ≤ (k:Int) - 1 := by assumption
        have h2 : (!decide (0 ≤ r.right)) = false ∧ (!decide (r.right ≤ (k:Int) - 1)) = false := by assumption
        have Hok := Lib.hid (okp_yes (r := r) (k := k) ‹_› h1 h2)
        simp at h2
        obtain ⟨g, cap, rfl, hgb, hgl, hcap, hgc⟩ := Hat.out (by omega)
        have Hgc := Lib.hid hgc
        have hvk := Hvk.out
        have hx1 := hgc r.left.toNat (by omega)
        have hx2 := hgc r.right.toNat (by omega)
        have hi1 : r.left < (vals.length : Int) := by omega
        have hi2 : r.right < (vals.length : Int) := by omega
        have hi3 : 0 ≤ r.right := h2.1
        have hpos := lens_pos Hlen.out
        have hb1 : 1 ≤ vals.getD r.left.toNat 0 ∧ vals.getD r.left.toNat 0 ≤ 1000000000000000 := by
          rw [List.getD_eq_getElem?_getD, List.getElem?_eq_getElem (by omega)]; exact hpos _ (List.getElem_mem _)
        have hb2 : 1 ≤ vals.getD r.right.toNat 0 ∧ vals.getD r.right.toNat 0 ≤ 1000000000000000 := by
          rw [List.getD_eq_getElem?_getD, List.getElem?_eq_getElem (by omega)]; exact hpos _ (List.getElem_mem _)
        have hrl : ruleLen vals r = vals.getD r.left.toNat 0 + vals.getD r.right.toNat 0 := by simp [ruleLen, Hok.out.2]
        generalize vals.getD r.left.toNat 0 = x at *
        generalize vals.getD r.right.toNat 0 = y at *
        have hwr : IntKind.i64.wrap (x + y) = x + y := IntWalk.i64_in _ (by omega)
        have Hrl := Lib.hid hrl
        clear hgc hvk hpos hrl
        go_quiet (fail)
        clear hwr
        go_wp2_with (first
        | (at_builtin; go_must (refine push_ints rfl _ _ rfl rfl rfl (by simp) (by repeat (first | exact hown | apply OwnInts.alloc | apply OwnInts.drewN)) (by omega) (by simp; omega) ?_)
           intro v' w1 hown1 hgrow hbw))
        · go_ret2
          exact ⟨by repeat (first | exact hB | (refine Below.alloc ?_ (by first | omega | (simp; omega)) _) | refine below_drewN ?_ _), .inr ⟨lens_bad Hlen.out Hr.out (lensStep_big (by rw [Hrl.out]; unfold maxL; omega)), rfl⟩⟩
        · go_roundw
          case rel => exact ⟨k + 1, vals ++ [x + y], by omega, by go_num, by have := lens_next Hlen.out Hr.out (by rw [Hvk.out]; exact Hok.out.1) (by rw [Hrl.out]; unfold maxL; omega); rw [Hrl.out] at this; exact this, hb.trans ((below_drewN (((Below.refl _ _).alloc (by omega) _).alloc (by simp; omega) _) _).trans hbw), hown1⟩
          case measure => simp [intOf]; omega
      · go_ret2
        exact ⟨by repeat (first | exact hB | (refine Below.alloc ?_ (by first | omega | (simp; omega)) _)), .inr ⟨lens_bad Hlen.out Hr.out (lensStep_none (by rw [Hvk.out]; exact okp_no1 ‹_› ‹_›)), rfl⟩⟩
      · go_ret2
        exact ⟨by repeat (first | exact hB | (refine Below.alloc ?_ (by first | omega | (simp; omega)) _)), .inr ⟨lens_bad Hlen.out Hr.out (lensStep_none (by rw [Hvk.out]; exact okl_no4 ‹_› ‹_›)), rfl⟩⟩
      · have Hok := okl_yes (r := r) (k := k) ‹_› ‹_› _ ‹_› ‹_› ‹_›
        go_roundw
        case rel => exact ⟨k + 1, vals ++ [1], by omega, by go_num, by have := lens_next Hlen.out Hr.out (by rw [Hvk.out]; exact Hok.1) (by simp [ruleLen, Hok.2, maxL]); simpa [ruleLen, Hok.2] using this, hb.trans (((Below.refl _ _).alloc (by omega) _).alloc (by simp; omega) _ |>.trans hbw), hown1⟩
        case measure => simp [intOf]; omega
      · go_ret2
        exact ⟨by repeat (first | exact hB | (refine Below.alloc ?_ (by first | omega | (simp; omega)) _)), .inr ⟨lens_bad Hlen.out Hr.out (lensStep_none (by rw [Hvk.out]; exact okl_no3 ‹_› ‹_›)), rfl⟩⟩
      · go_ret2
        exact ⟨by repeat (first | exact hB | (refine Below.alloc ?_ (by first | omega | (simp; omega)) _)), .inr ⟨lens_bad Hlen.out Hr.out (lensStep_none (by rw [Hvk.out]; exact okl_no2 ‹_› _ ‹_›)), rfl⟩⟩
      · go_ret2
        exact ⟨by repeat (first | exact hB | (refine Below.alloc ?_ (by first | omega | (simp; omega)) _)), .inr ⟨lens_bad Hlen.out Hr.out (lensStep_none (by rw [Hvk.out]; exact okl_no1 ‹_› ‹_›)), rfl⟩⟩
    · have hkn : k = rs.length := by omega
      have hfin : lens rs = some vals := by rw [← hlen, List.take_of_length_le (by omega)]
      have hg : wr.cell? ⟨w.heap.size, 0, none⟩ = some (Value.slice A rs.length c) := by rw [hb.cell (by simp)]; simp [go_sem]
      have Hfin := Lib.hid hfin
      subst hkn
      clear hlen hrow hfin
      go_wp2_with fail
      go_quiet (fail)
      go_wp2
      go_ret2
      exact ⟨below_drewN hB _, .inl ⟨vals, _, Hfin.out, by simp; omega, ownsRow_more (hown.drewN _) (by omega)⟩⟩
end Go.Proofs.Ytfapnipmgmpgaaa

namespace Go.Proofs.Ytfapnipmgmpgaaa
open Go.RowKit

theorem l01Ok_any (s : ByteArray) (w : World) (hs : s.size ≤ maxLen) :
    Calls Try.prog 42 #[.string s] w fun e w' => e = .returned (.bool (wordOk s)) ∧ w = w' := by
  unfold maxLen at hs
  go_enter Try.func42, Try.ntmps42
  go_wp2_with fail
  · go_ret
    exact ⟨ret_bool (by symm; unfold wordOk; rw [Bool.and_eq_false_iff]; left; simp; omega), rfl⟩
  · go_loop [3] (fun i => ∃ k : Nat, k ≤ s.size ∧ i = .int .i64 k ∧ Hid ((s.data.toList.take k).all letOk = true)) (fun i => s.size - (intOf i).toNat)
    case atStart => exact ⟨0, Nat.zero_le _, rfl, by simp [Hid]⟩
    case round =>
      obtain ⟨k, hk, rfl, H⟩ := hrel
      by_cases hlt : k < s.size
      · by_cases h1 : (s[k].toNat : Int) < 97
        · go_wp2
          go_ret
          exact ⟨ret_bool (by have := all_bad hlt (by simp [letOk]; omega); simp [wordOk, this]), rfl⟩
        · by_cases h2 : 100 < (s[k].toNat : Int)
          · go_wp2
            go_ret
            exact ⟨ret_bool (by have := all_bad hlt (by simp [letOk]; omega); simp [wordOk, this]), rfl⟩
          · go_wp2
            go_round
            case rel => exact ⟨k + 1, by omega, by go_num, all_step hlt H.out (by simp [letOk]; omega)⟩
            case measure => simp [intOf]; omega
      · go_wp2
        go_ret
        exact ⟨ret_bool (by have := all_end (by omega) H.out; simp [wordOk, this]; omega), rfl⟩

theorem ValidWord_any (s : ByteArray) (w : World) (hs : s.size ≤ maxLen) :
    Calls Try.prog 52 #[.string s] w fun e w' => e = .returned (.bool (wordOk s)) ∧ w = w' := by
  unfold maxLen at hs
  go_enter Try.func52, Try.ntmps52
  go_wp2_with fail
  go_loop [6] (fun i => ∃ k : Nat, k ≤ s.size ∧ i = .int .i64 k ∧ Hid ((s.data.toList.take k).all letOk = true)) (fun i => s.size - (intOf i).toNat)
  case atStart => exact ⟨0, Nat.zero_le _, rfl, by simp [Hid]⟩
  case round =>
    obtain ⟨k, hk, rfl, H⟩ := hrel
    by_cases hlt : k < s.size
    · go_wp2_with (first | (go_at_call 108; go_must (refine (isLetter_any _ _).mono ?_); rintro e w' ⟨rfl, rfl⟩))
      · go_ret
        exact ⟨ret_bool (by have := all_bad hlt (letOk_bad ‹_›); simp [wordOk, this]), rfl⟩
      · have h1 := letOk_good (c := s[k]) ‹_›
        go_round
        case rel => exact ⟨k + 1, by omega, by go_num, all_step hlt H.out h1⟩
        case measure => simp [intOf]; omega
    · go_wp2
      go_ret
      exact ⟨ret_bool (by have := all_end (by omega) H.out; simp [wordOk, this]), rfl⟩

set_option maxHeartbeats 1000000 in
theorem l02Rule_any (b o : Nat) (r : GRule) (i : Nat) (w : World) (h0 : w.cell? ⟨b, o, none⟩ = some (.string r.letter)) (h1 : w.cell? ⟨b, o + 1, none⟩ = some (.int .i64 r.left)) (h2 : w.cell? ⟨b, o + 2, none⟩ = some (.int .i64 r.right)) (hi : i ≤ 1099511627776) (hs : r.letter.size ≤ maxLen) :
    Calls Try.prog 155 #[.pointer (some ⟨b, o, none⟩), .int .i64 i] w fun e w' => e = .returned (.bool (okRule i r)) ∧ w = w' := by
  have Hs := Lib.hid hs
  clear hs
  go_enter Try.func155, Try.ntmps155
  go_wp2_with (first
    | (go_at_call 42; go_must (refine (l01Ok_any _ _ Hs.out).mono ?_); rintro e w' ⟨rfl, rfl⟩)
    | (go_at_call 88; go_must (refine (l00In_any _ _ _ _).mono ?_); rintro e w' ⟨rfl, rfl⟩))
  · have e : okRule i r = (r.right == 0) := by
      rw [okl_eq ‹_›, ← wordOk_one (by omega), ‹wordOk r.letter = true›, ‹r.left = 0›]; simp
    go_ret
    exact ⟨ret_bool e.symm, rfl⟩
  · have e : okRule i r = false := by
      rw [okl_eq ‹_›]; simp [‹¬ r.left = 0›]
    go_ret
    exact ⟨ret_bool e.symm, rfl⟩
  · have e : okRule i r = false := by
      rw [okl_eq ‹_›, ← wordOk_one (by omega)]; simp [‹¬ wordOk r.letter = true›]
    go_ret
    exact ⟨ret_bool e.symm, rfl⟩
  · have e : okRule i r = false := by
      rw [okl_eq ‹_›, isLet_not ‹_›]; simp
    go_ret
    exact ⟨ret_bool e.symm, rfl⟩
  · have h : 0 ≤ r.left ∧ r.left ≤ (i : Int) - 1 := by assumption
    have e : okRule i r = (decide (0 ≤ r.right) && decide (r.right ≤ (i : Int) - 1)) := by
      rw [okp_eq ‹_›]; simp [h.1, h.2]
    go_ret
    exact ⟨ret_bool e.symm, rfl⟩
  · have h : ¬ (0 ≤ r.left ∧ r.left ≤ (i : Int) - 1) := by assumption
    have e : okRule i r = false := by
      rw [okp_eq ‹_›, Bool.and_eq_false_iff, Bool.and_eq_false_iff, Bool.and_eq_false_iff]; simp; omega
    go_ret
    exact ⟨ret_bool e.symm, rfl⟩

end Go.Proofs.Ytfapnipmgmpgaaa

namespace Go.Proofs
open Go.Shelf
def Ytfapnipmgmpgaaa.laysR_ren : Go.Shelf.Ren := ⟨fun | 35 => 112 | n => n, fun | 0 => 0 | 3 => 3 | 4 => 4 | 22 => 56 | 23 => 5 | n => n, fun | n => n⟩
theorem Ytfapnipmgmpgaaa.laysR : SlLaysE.n35 Try.prog Ytfapnipmgmpgaaa.laysR_ren := {
  mixed := by kernel_rfl
  f35 := ⟨"slices.Reverse[[]byte,byte]", by decide, Try.func112.trans (congrArg some (by kernel_rfl))⟩
  t0 := Try.underlying0
  a0 := Try.isAgg0
  z0 := Try.sizeOf0
  v0 := Try.zeroValue0
  t3 := Try.underlying3
  a3 := Try.isAgg3
  z3 := Try.sizeOf3
  v3 := Try.zeroValue3
  t4 := Try.underlying4
  a4 := Try.isAgg4
  z4 := Try.sizeOf4
  v4 := Try.zeroValue4
  t22 := Try.underlying56
  a22 := Try.isAgg56
  z22 := Try.sizeOf56
  v22 := Try.zeroValue56
  a23 := Try.isAgg5
  z23 := Try.sizeOf5 }
end Go.Proofs
namespace Go.Proofs.Ytfapnipmgmpgaaa
open Go.RowKit

/-- An append of a string to an own row of bytes. -/
theorem push_str {W : World} {ops : Array Oper} {rest : List Oper} {o : Oper} {a : Act} {Q : Exit → Act → World → Prop} (hgd : o.guard = none) (s x : Operand)
    (ho : o.op = .call { callee := .builtin .append, args := #[s, x], argTypes := #[56, 9] }) {t : ByteArray} {base : Nat} {v : Value} {l : List UInt8}
    (hs : a.eval s = v) (hx : a.eval x = .string t) (hown : OwnB W base v l) (hlen : l.length + t.size ≤ 1099511627776) (hbase : base ≤ W.heap.size)
    (hv : v ≠ .slice none 0 0) (h : ∀ g' c' w', OwnB w' base (.slice (some ⟨g', 0, none⟩) (l.length + t.size) c') (l ++ t.data.toList) → Below base W w' → wpList Try.prog ops Q rest (a.put o.dst (.slice (some ⟨g', 0, none⟩) (l.length + t.size) c')) w') :
    wpList Try.prog ops Q (o :: rest) a W := by
  obtain ⟨i0, hi, hz0, hz1, hz2⟩ := info_parts Try.infoBy
  refine Lib.wpList_append_own_string W hgd _ _ 56 9 ho base 5 i0 Try.underlying56 Try.underlying9 hi hz0 hz1 hz2 v l.length (Lib.byteCells l) hs hown t hx ?_ ?_ hbase ?_
  · unfold maxLen; omega
  · omega
  · intro v' w' h1 h2 h3
    have hne : v' ≠ .slice none 0 0 := fun e => hv (h3.1 e).1
    obtain ⟨g', c', rfl⟩ : ∃ g' c', v' = .slice (some ⟨g', 0, none⟩) (l.length + t.size) c' := by
      rcases h1.2 with ⟨hv', _⟩ | ⟨g', cap, cur, hv', _⟩
      · exact absurd hv' hne
      · exact ⟨g', cap, hv'⟩
    refine h g' c' w' ?_ ?_
    · unfold OwnB
      rw [show Lib.byteCells (l ++ t.data.toList) = Lib.byteCells l ++ Lib.strCells t by simp [Lib.byteCells, Lib.strCells], show (l ++ t.data.toList).length = l.length + t.size by simp]
      exact h1
    · exact (Below.refl base W).grown h2 hbase (fun k hk => (World.ownsRow.lt hown k hk).1)

set_option maxRecDepth 100000 in
set_option maxHeartbeats 2000000 in
theorem l01Turn_any (s : ByteArray) (w : World) (hs : s.size ≤ 1000000) :
    Calls Try.prog 48 #[.string s] w fun e w' => e = .returned (.string ⟨s.data.toList.reverse.toArray⟩) ∧ Below w.heap.size w w' := by
  go_enter Try.func48, Try.ntmps48
  go_wp2_with fail
  go_loopw [3, 4] (fun q a wx => ∃ (m g c : Nat) (l : List UInt8), m ≤ s.size ∧ a = .int .i64 ((m : Int) - 1) ∧ q = .slice (some ⟨g, 0, none⟩) l.length c ∧ l = (s.data.toList.drop m).reverse ∧ OwnB wx w.heap.size q l ∧ Below w.heap.size w wx) (fun _ a _ => (intOf a + 1).toNat)
  case atStart => exact ⟨s.size, _, 0, [], Nat.le_refl _, rfl, rfl, by simp, OwnB.empty rfl (Nat.le_refl _), (Below.refl _ _).alloc (Nat.le_refl _) _⟩
  case round =>
    obtain ⟨m, g, c, l, hm, rfl, rfl, hlc, hown, hb3⟩ := hrel
    have Hown := Lib.hid hown
    have HB3 := Lib.hid hb3
    have Hlc := Lib.hid hlc
    have hll : l.length ≤ 1000000 := by rw [hlc]; simp; omega
    have hcv := OwnB.string hown
    have HLL : Hid (l.length ≤ 1099511627776) := by rw [Hid]; omega
    have hs3 : w.heap.size ≤ wr.heap.size := hb3.size
    clear hown hb3 hlc
    cases m with
    | zero =>
      go_wp2_with fail
      go_ret
      refine ⟨?_, HB3.out⟩
      rw [Hlc.out, List.drop_zero]; rfl
    | succ m =>
      have hmi : ((m + 1 : Nat) : Int) - 1 = (m : Int) := by omega
      have hlt : m < s.size := by omega
      rw [hmi]
      clear hmi hcv
      go_wp2_with (first
        | (at_builtin; refine push_byte (base := w.heap.size) (v := .slice (some ⟨g, 0, none⟩) l.length c) (l := l) (y := s[m]) rfl _ _ rfl rfl rfl rfl Hown.out HLL.out hs3 ?_; intro v5 w5 own5 hg5 hb5; obtain ⟨g5, c5, rfl⟩ := own5.some_ (by simp)))
      have e5 : (l ++ [s[m]]).length = l.length + 1 := by simp
      refine ⟨⟨m, g5, c5, l ++ [s[m]], by omega, rfl, by rw [e5], ?_, by rw [← e5]; exact own5, HB3.out.trans hb5⟩, by simp [intOf]⟩
      rw [Hlc.out, List.drop_eq_getElem_cons (show m < s.data.toList.length by simpa using hlt), List.reverse_cons]
      rfl

/-- A word so many times. -/
def repL (L : List UInt8) (k : Nat) : List UInt8 := (List.replicate k L).flatten
theorem repL_succ (L : List UInt8) (k : Nat) : repL L (k + 1) = repL L k ++ L := by simp [repL, List.replicate_succ']
theorem repL_len (L : List UInt8) (k : Nat) : (repL L k).length = k * L.length := by simp [repL]
theorem repL_zero (L : List UInt8) : repL L 0 = [] := rfl

set_option maxRecDepth 100000 in
set_option maxHeartbeats 2000000 in
theorem l01Times_any (s : ByteArray) (n : Nat) (w : World) (hn : n ≤ 1000000000000000) (hs : n * s.size ≤ 1000000) (hs1 : s.size ≤ 1000000) :
    Calls Try.prog 49 #[.string s, .int .i64 n] w fun e w' => e = .returned (.string ⟨(repL s.data.toList n).toArray⟩) ∧ Below w.heap.size w w' := by
  have Hs := Lib.hid hs
  clear hs
  go_enter Try.func49, Try.ntmps49
  go_wp2_with fail
  go_loopw [5, 6] (fun q a wx => ∃ (m g c : Nat) (l : List UInt8), m ≤ n ∧ a = .int .i64 (m : Int) ∧ q = .slice (some ⟨g, 0, none⟩) l.length c ∧ l = repL s.data.toList m ∧ OwnB wx w.heap.size q l ∧ Below w.heap.size w wx) (fun _ a _ => (n - intOf a).toNat)
  case atStart => exact ⟨0, _, 0, [], Nat.zero_le _, rfl, rfl, rfl, OwnB.empty rfl (Nat.le_refl _), (Below.refl _ _).alloc (Nat.le_refl _) _⟩
  case round =>
    obtain ⟨m, g, c, l, hm, rfl, rfl, hlc, hown, hb3⟩ := hrel
    have Hown := Lib.hid hown
    have HB3 := Lib.hid hb3
    have Hlc := Lib.hid hlc
    have hcv := OwnB.string hown
    have hs3 : w.heap.size ≤ wr.heap.size := hb3.size
    have hll : l.length ≤ 1000000 := by
      rw [hlc, repL_len, show s.data.toList.length = s.size by simp]
      exact Nat.le_trans (Nat.mul_le_mul_right _ hm) Hs.out
    clear hown hb3 hlc
    by_cases hlt : m < n
    · have hlt2 : (m : Int) < (n : Int) := by omega
      have hcap : l.length + s.size ≤ 1099511627776 := by omega
      clear hcv hlt
      go_wp2_with (first
        | (at_builtin; refine push_str (base := w.heap.size) (v := .slice (some ⟨g, 0, none⟩) l.length c) (l := l) (t := s) rfl _ _ rfl rfl rfl Hown.out hcap hs3 (by simp) ?_; intro g5 c5 w5 own5 hb5))
      have e5 : (l ++ s.data.toList).length = l.length + s.size := by simp
      refine ⟨⟨m + 1, g5, c5, l ++ s.data.toList, by omega, rfl, by rw [e5], ?_, own5, HB3.out.trans hb5⟩, by simp [intOf]; omega⟩
      rw [Hlc.out, repL_succ]
    · have hmn : m = n := by omega
      subst hmn
      go_wp2_with fail
      go_ret
      refine ⟨?_, HB3.out⟩
      rw [Hlc.out]; rfl

/-- A letter under a map. -/
def mapB (by_ : ByteArray) (c : UInt8) : UInt8 := by_.data.getD (c.toNat - 97) 0
theorem mapB_step {s m : ByteArray} {k d : Nat} (hlt : k < s.size) (hd : s[k].toNat = 97 + d) (hd4 : d < m.size) : (s.data.toList.take (k + 1)).map (mapB m) = (s.data.toList.take k).map (mapB m) ++ [m[d]] := by
  have hg : s.data.toList[k]? = some s[k] := by rw [List.getElem?_eq_getElem (by simpa using hlt)]; rfl
  rw [List.take_add_one, hg, Option.toList_some, List.map_append, List.map_singleton]
  congr 2
  unfold mapB
  rw [hd, show 97 + d - 97 = d by omega]
  simp [Array.getD, hd4]
  rfl
set_option maxRecDepth 100000 in
set_option maxHeartbeats 2000000 in
theorem l07Mapped_any (s m : ByteArray) (w : World) (hs : s.size ≤ 1000000) (hm : m.size = 4) (hlet : ∀ k (h : k < s.size), 97 ≤ s[k].toNat ∧ s[k].toNat ≤ 100) :
    Calls Try.prog 50 #[.string s, .string m] w fun e w' => e = .returned (.string ⟨(s.data.toList.map (mapB m)).toArray⟩) ∧ Below w.heap.size w w' := by
  have HLet := Lib.hid hlet
  clear hlet
  go_enter Try.func50, Try.ntmps50
  go_wp2_with fail
  go_loopw [5, 6] (fun q a wx => ∃ (k g c : Nat) (l : List UInt8), k ≤ s.size ∧ a = .int .i64 (k : Int) ∧ q = .slice (some ⟨g, 0, none⟩) l.length c ∧ l = (s.data.toList.take k).map (mapB m) ∧ OwnB wx w.heap.size q l ∧ Below w.heap.size w wx) (fun _ a _ => (s.size - intOf a).toNat)
  case atStart => exact ⟨0, _, 0, [], Nat.zero_le _, rfl, rfl, by simp, OwnB.empty rfl (Nat.le_refl _), (Below.refl _ _).alloc (Nat.le_refl _) _⟩
  case round =>
    obtain ⟨k, g, c, l, hk, rfl, rfl, hlc, hown, hb3⟩ := hrel
    have Hown := Lib.hid hown
    have HB3 := Lib.hid hb3
    have Hlc := Lib.hid hlc
    have hcv := OwnB.string hown
    have hs3 : w.heap.size ≤ wr.heap.size := hb3.size
    have hll : l.length ≤ 1000000 := by rw [hlc]; simp; omega
    have HLL : Hid (l.length ≤ 1099511627776) := by rw [Hid]; omega
    clear hown hb3 hlc
    by_cases hlt : k < s.size
    · obtain ⟨h97, h100⟩ := HLet.out k hlt
      obtain ⟨d, hd⟩ : ∃ d, s[k].toNat = 97 + d := ⟨s[k].toNat - 97, by omega⟩
      have hd4 : d < m.size := by omega
      have e1 : ((s[k].toNat : Nat) : Int) - 97 = (d : Int) := by omega
      have e2 : (d : Int) < 256 := by omega
      have Hd := Lib.hid hd
      clear hcv hd h97 h100 hll
      go_wp2_with (first
        | (at_builtin; refine push_byte (base := w.heap.size) (v := .slice (some ⟨g, 0, none⟩) l.length c) (l := l) (y := m[d]) rfl _ _ rfl rfl rfl rfl Hown.out HLL.out hs3 ?_; intro v5 w5 own5 hg5 hb5; obtain ⟨g5, c5, rfl⟩ := own5.some_ (by simp)))
      have e5 : (l ++ [m[d]]).length = l.length + 1 := by simp
      refine ⟨⟨k + 1, g5, c5, l ++ [m[d]], by omega, rfl, by rw [e5], ?_, by rw [← e5]; exact own5, HB3.out.trans hb5⟩, by simp [intOf]; omega⟩
      rw [Hlc.out, mapB_step hlt Hd.out hd4]
    · have hmn : k = s.size := by omega
      have Hk := Lib.hid hmn
      clear hmn
      go_wp2_with fail
      go_ret
      refine ⟨?_, HB3.out⟩
      rw [Hlc.out, Hk.out, List.take_of_length_le (by simp)]; rfl


/-- A byte as a value. -/
def encB (x : UInt8) : Value := .int .u8 (x.toNat : Int)
theorem reverse_bytes (b n c : Nat) (l : List UInt8) (w : World) (hn : n = l.length) (hl : l.length ≤ 1000000) (h : ∀ t (ht : t < l.length), w.cell? ⟨b, t, none⟩ = some (.int .u8 (l[t].toNat : Int)) ∧ w.frozen? ⟨b, t, none⟩ = false) :
    Calls Try.prog 112 #[.slice (some ⟨b, 0, none⟩) n c] w fun e w' => e = .returned (.tuple #[]) ∧ (∀ B, B ≤ b → Below B w w') ∧ ∀ t (ht : t < l.reverse.length), w'.cell? ⟨b, 0 + t, none⟩ = some (.int .u8 (l.reverse[t].toNat : Int)) := by
  subst hn
  have hH : Sort.Holds encB w b 0 l.toArray := by
    intro j hj
    have hj' : j < l.length := by simpa using hj
    have := h j hj'
    rw [Nat.zero_add]
    refine ⟨this.1.trans ?_, this.2⟩
    rw [getElem!_pos _ j hj]; simp [encB]
  refine (AnyE.slices_Reverse Ytfapnipmgmpgaaa.laysR encB (fun _ => rfl) b 0 c l w hH (by omega)).mono ?_
  rintro e w' ⟨rfl, q, rfl⟩
  rw [Lib.putRow_eq_setCells _ w b 0 _ _ q hH (by simp)]
  refine ⟨rfl, fun B hB => ?_, fun t ht => ?_⟩
  · exact Go.below_setCells hB _ 0 _ ⟨rfl, rfl, rfl, Nat.le_refl _, fun _ _ => rfl⟩
  · have := World.cell?_setCells_in b (l.reverse.map encB) 0 (w.drewN q) (fun j hj => by
      have hj' : j < l.length := by simpa using hj
      rw [Nat.zero_add]
      show (w.cell? ⟨b, j, none⟩).isSome = true
      rw [(h j hj').1]; rfl) t (by simpa using ht)
    rw [this]; simp [encB]
set_option maxRecDepth 100000 in
set_option maxHeartbeats 2000000 in
theorem turned_any (s : ByteArray) (w : World) (hs : s.size ≤ 1000000) :
    Calls Try.prog 57 #[.string s] w fun e w' => e = .returned (.string ⟨s.data.toList.reverse.toArray⟩) ∧ Below w.heap.size w w' := by
  go_enter Try.func57, Try.ntmps57
  go_wp2_with fail
  rw [Lib.run_convert_string_bytes w _ _ 5 s Try.underlying9 Try.underlying56 Try.underlying5]
  simp only [Result.andThen]
  rw [Oper.upon_value]
  have hb1 : Below w.heap.size w (Lib.bytesWorld w 5 s) := ⟨rfl, rfl, rfl, by rw [Lib.bytesWorld_size]; omega, fun j hj => Lib.bytesWorld_at_old w 5 s j hj⟩
  have hc1 : ∀ t (ht : t < s.data.toList.length), (Lib.bytesWorld w 5 s).cell? ⟨w.heap.size, t, none⟩ = some (.int .u8 (s.data.toList[t].toNat : Int)) ∧ (Lib.bytesWorld w 5 s).frozen? ⟨w.heap.size, t, none⟩ = false := by
    intro t ht
    have ht' : t < s.size := by simpa using ht
    refine ⟨?_, ?_⟩
    · rw [Lib.bytesWorld_cell w _ s t ht', List.getD_eq_getElem?_getD, List.getElem?_eq_getElem ht]; rfl
    · have hz : t < (Lib.bytesCells w 5 s).size := by simp [Lib.bytesCells]; omega
      simp [World.frozen?, Lib.bytesWorld_at_new]
      omega
  have Rev := Lib.hid (reverse_bytes w.heap.size s.size (grownCap w s.size 0 5) s.data.toList (Lib.bytesWorld w 5 s) (by simp) (by simp; omega) hc1)
  have HB1 := Lib.hid hb1
  clear hb1 hc1
  revert Rev HB1
  generalize Lib.bytesWorld w 5 s = w1
  generalize grownCap w s.size 0 5 = cp
  intro Rev HB1
  go_wp2_with fail
  refine Rev.out.mono ?_
  rintro e w2 ⟨rfl, hb2, hc2⟩
  have hcv := convB s.data.toList.reverse w.heap.size 0 s.size cp w2 (by simp) hc2
  have B2 := Lib.hid (HB1.out.trans (hb2 _ (Nat.le_refl _)))
  clear hb2 hc2
  go_wp2_with fail
  go_ret
  exact ⟨rfl, B2.out⟩
end Go.Proofs.Ytfapnipmgmpgaaa

namespace Go.Proofs.Ytfapnipmgmpgaaa
open Go.RowKit

def SizesPost (rs : List GRule) (w : World) (e : Ending) (w' : World) : Prop :=
  Below w.heap.size w w' ∧ ((∃ ls v, lens rs = some ls ∧ e = .returned (.tuple #[v, .bool true]) ∧ OwnInts w' w.heap.size v ls) ∨
    (lens rs = none ∧ ∃ v ls, e = .returned (.tuple #[v, .bool false]) ∧ OwnInts w' w.heap.size v ls))

set_option maxRecDepth 100000 in
theorem l02Sizes_any (b o : Nat) (v : Value) (rs : List GRule) (w : World) (hp : w.cell? ⟨b, o, none⟩ = some v) (hbl : b < w.heap.size) (h : Sl RuleE w w.heap.size v rs) (hsm : SmallL rs) (hn : rs.length ≤ 1099511627776) :
    Calls Try.prog 107 #[.pointer (some ⟨b, o, none⟩)] w (SizesPost rs w) := by
  obtain ⟨A, c, rfl, hc, hm, hrow⟩ := h
  clear hm
  go_enter Try.func107, Try.ntmps107
  go_wp2_with fail
  go_loopw [4, 5] (fun out i wr => ∃ (k : Nat) (vals : List Int), k ≤ rs.length ∧ i = .int .i64 k ∧ lens (rs.take k) = some vals ∧ Below w.heap.size w wr ∧ OwnInts wr w.heap.size out vals) (fun _ i _ => rs.length - (intOf i).toNat)
  case atStart => exact ⟨0, [], Nat.zero_le _, rfl, by simp [lens], (Below.refl _ _).alloc (Nat.le_refl _) _, OwnInts.empty rfl (Nat.le_refl _)⟩
  case round =>
    obtain ⟨k, vals, hk, rfl, hlen, hB, hown⟩ := hrel
    have hpp : wr.cell? ⟨b, o, none⟩ = some (Value.slice A rs.length c) := (hB.cell hbl).trans hp
    by_cases hlt : k < rs.length
    · have hvk : vals.length = k := by have := lens_length hlen; rw [List.length_take] at this; omega
      obtain ⟨b1, o1, rfl, hbl1, hcell⟩ := hrow.rule hlt
      obtain ⟨r, hrk⟩ : ∃ x, rs[k]? = some x := ⟨_, List.getElem?_eq_getElem hlt⟩
      obtain ⟨g0, g1, g2⟩ := hcell k r hrk
      have hc0 := (hB.cell (p := ⟨b1, o1 + k * 3, none⟩) hbl1).trans g0
      have hc1 := (hB.cell (p := ⟨b1, o1 + k * 3 + 1, none⟩) hbl1).trans g1
      have hc2 := (hB.cell (p := ⟨b1, o1 + k * 3 + 2, none⟩) hbl1).trans g2
      have hsr := hsm r (List.mem_of_getElem? hrk)
      have hsz : w.heap.size ≤ wr.heap.size := hB.size
      have hv1 : vals.length ≤ 1099511627776 := by omega
      have Hr := Lib.hid hrk
      have Hlen := Lib.hid hlen
      have Hvk := Lib.hid hvk
      have Hown := Lib.hid hown
      clear hrk hlen hvk hcell g0 g1 g2 hown
      go_wp2_with (first
        | (go_at_call 155; go_must (refine (l02Rule_any _ _ r k _ hc0 hc1 hc2 (by omega) (by unfold maxLen; omega)).mono ?_); rintro e w2 ⟨rfl, rfl⟩)
        | (at_builtin; go_must (refine push_ints rfl _ _ rfl rfl rfl (by simp) (by repeat (first | exact Hown.out | apply OwnInts.alloc | apply OwnInts.drewN | apply OwnRules.alloc | apply OwnRules.drewN)) (by omega) (by first | omega | (simp; omega)) ?_); intro v' w1 hown1 hgrow hbw))
      · have hok : okRule k r = false := by simpa using ‹(!okRule k r) = true›
        go_ret2
        exact ⟨hB, .inr ⟨lens_bad Hlen.out Hr.out (lensStep_none (by rw [Hvk.out]; exact hok)), _, vals, rfl, Hown.out⟩⟩
      · have hok : okRule k r = true := by simpa using ‹(!okRule k r) = false›
        have hpr : r.pair = true := by have h := ‹r.letter.toList.isEmpty = true›; rw [isEmpty_size] at h; exact h
        have hbd : 0 ≤ r.left ∧ r.left ≤ (k : Int) - 1 ∧ 0 ≤ r.right ∧ r.right ≤ (k : Int) - 1 := by
          simp [okRule, hpr] at hok; omega
        have hvk := Hvk.out
        obtain ⟨g, cap, rfl, hgb, hgl, hcap, hgc⟩ := OwnInts.at_ Hown.out (j := 0) (by omega)
        have hx1 := hgc r.left.toNat (by omega)
        have hx2 := hgc r.right.toNat (by omega)
        have hi1 : r.left < (vals.length : Int) := by omega
        have hi2 : r.right < (vals.length : Int) := by omega
        obtain ⟨hj1, _, hj2, _⟩ := hbd
        have hpos := lens_pos Hlen.out
        have hb1 : 1 ≤ vals.getD r.left.toNat 0 ∧ vals.getD r.left.toNat 0 ≤ 1000000000000000 := by
          rw [List.getD_eq_getElem?_getD, List.getElem?_eq_getElem (by omega)]; exact hpos _ (List.getElem_mem _)
        have hb2 : 1 ≤ vals.getD r.right.toNat 0 ∧ vals.getD r.right.toNat 0 ≤ 1000000000000000 := by
          rw [List.getD_eq_getElem?_getD, List.getElem?_eq_getElem (by omega)]; exact hpos _ (List.getElem_mem _)
        have hrl : ruleLen vals r = vals.getD r.left.toNat 0 + vals.getD r.right.toNat 0 := by simp [ruleLen, hpr]
        generalize vals.getD r.left.toNat 0 = x at *
        generalize vals.getD r.right.toNat 0 = y at *
        have hwr : IntKind.i64.wrap (x + y) = x + y := IntWalk.i64_in _ (by omega)
        have Hrl := Lib.hid hrl
        have Hok := Lib.hid hok
        clear hgc hvk hpos hrl hok hpr
        go_quiet (fail)
        clear hwr
        go_wp2_with (at_builtin; go_must (refine push_ints rfl _ _ rfl rfl rfl (by simp) (by repeat (first | exact Hown.out | apply OwnInts.alloc | apply OwnInts.drewN | apply OwnRules.alloc | apply OwnRules.drewN)) (by omega) (by first | omega | (simp; omega)) ?_); intro v' w1 hown1 hgrow hbw)
        · go_ret2
          exact ⟨(by repeat (first | exact hB | (refine Below.alloc ?_ (by first | omega | (simp; done) | (simp; omega)) _) | refine below_drewN ?_ _ | refine Below.drew ?_)), .inr ⟨lens_bad Hlen.out Hr.out (lensStep_big (by rw [Hrl.out]; unfold maxL; omega)), _, vals, rfl, (by repeat (first | exact Hown.out | apply OwnInts.alloc | apply OwnInts.drewN | apply OwnRules.alloc | apply OwnRules.drewN))⟩⟩
        · go_roundw
          case rel => exact ⟨k + 1, vals ++ [x + y], by omega, by go_num, by have := lens_next Hlen.out Hr.out (by rw [Hvk.out]; exact Hok.out) (by rw [Hrl.out]; unfold maxL; omega); rw [Hrl.out] at this; exact this, (below_drewN hB _).trans hbw, hown1⟩
          case measure => simp [intOf]; omega
      · have hok : okRule k r = true := by simpa using ‹(!okRule k r) = false›
        have hpr : r.pair = false := by have h := ‹r.letter.toList.isEmpty = false›; rw [isEmpty_size] at h; exact h
        have hrl : ruleLen vals r = 1 := by simp [ruleLen, hpr]
        go_roundw
        case rel => exact ⟨k + 1, vals ++ [1], by omega, by go_num, by have := lens_next Hlen.out Hr.out (by rw [Hvk.out]; exact hok) (by rw [hrl]; unfold maxL; omega); rw [hrl] at this; exact this, hB.trans hbw, hown1⟩
        case measure => simp [intOf]; omega
    · have hkn : k = rs.length := by omega
      have hfin : lens rs = some vals := by rw [← hlen, List.take_of_length_le (by omega)]
      have Hfin := Lib.hid hfin
      have Hown := Lib.hid hown
      subst hkn
      clear hlen hfin hown
      go_wp2_with fail
      go_ret2
      exact ⟨hB, .inl ⟨vals, _, Hfin.out, rfl, Hown.out⟩⟩

def LengthsPost (rs : List GRule) (w : World) (e : Ending) (w' : World) : Prop :=
  Below w.heap.size w w' ∧ ∃ v ls, e = .returned (.tuple #[v, .bool (decide (rs.length ≤ 400) && (lens rs).isSome)]) ∧ OwnInts w' w.heap.size v ls ∧ (rs.length ≤ 400 → ∀ l, lens rs = some l → ls = l)

theorem l02Lengths_any (b o : Nat) (v : Value) (rs : List GRule) (w : World) (hp : w.cell? ⟨b, o, none⟩ = some v) (hbl : b < w.heap.size) (h : Sl RuleE w w.heap.size v rs) (hsm : SmallL rs) :
    Calls Try.prog 92 #[.pointer (some ⟨b, o, none⟩)] w (LengthsPost rs w) := by
  have h' := h
  obtain ⟨A, c, rfl, hc, hm, hrow⟩ := h'
  have Hsl := Lib.hid h
  clear h hm hrow
  by_cases hn : rs.length ≤ 400
  · go_enter Try.func92, Try.ntmps92
    go_wp2_with fail
    refine (l02Sizes_any _ _ _ _ _ hp hbl Hsl.out hsm (by omega)).mono ?_
    rintro e w1 ⟨hb, (⟨ls, v1, h1, rfl, h2⟩ | ⟨h1, v1, ls, rfl, h2⟩)⟩
    · have H1 := Lib.hid h1
      have H2 := Lib.hid h2
      clear h1 h2
      go_wp2
      go_ret2
      exact ⟨hb, _, ls, by simp [H1.out, hn], H2.out, fun _ l hl => by rw [H1.out] at hl; injection hl⟩
    · have H1 := Lib.hid h1
      have H2 := Lib.hid h2
      clear h1 h2
      go_wp2
      go_ret2
      exact ⟨hb, _, ls, by simp [H1.out], H2.out, fun _ l hl => by rw [H1.out] at hl; cases hl⟩
  · go_enter Try.func92, Try.ntmps92
    go_wp2
    go_ret2
    exact ⟨(Below.refl _ _).alloc (Nat.le_refl _) _, _, [], by simp [hn], OwnInts.empty rfl (Nat.le_refl _), fun h => absurd h hn⟩

def gramOk (rs : List GRule) : Bool := decide (rs.length ≤ 400) && (lens rs).isSome

theorem l02Ok_any (b o : Nat) (v : Value) (rs : List GRule) (w : World) (hp : w.cell? ⟨b, o, none⟩ = some v) (hbl : b < w.heap.size) (h : Sl RuleE w w.heap.size v rs) (hsm : SmallL rs) :
    Calls Try.prog 91 #[.pointer (some ⟨b, o, none⟩)] w fun e w' => e = .returned (.bool (gramOk rs)) ∧ Below w.heap.size w w' := by
  have Hsl := Lib.hid h
  clear h
  go_enter Try.func91, Try.ntmps91
  go_wp2_with fail
  refine (l02Lengths_any _ _ _ _ _ hp hbl Hsl.out hsm).mono ?_
  rintro e w1 ⟨hb, v1, ls, rfl, h2, h3⟩
  clear h2 h3
  go_wp2
  go_ret
  exact ⟨rfl, hb⟩

theorem ValidGrammar_any (v : Value) (rs : List GRule) (w : World) (h : Sl RuleE w w.heap.size v rs) (hn : rs.length ≤ 1099511627776) :
    Calls Try.prog 98 #[.agg #[v]] w fun e w' => e = .returned (.bool (gramOk rs)) ∧ Below w.heap.size w w' := by
  have h1 := fun o => (h.below ((Below.refl w.heap.size w).alloc (Nat.le_refl _) o)).le (B' := (w.alloc o).heap.size) (by simp)
  have H1 := Lib.hid h1
  clear h1 h
  go_enter Try.func98, Try.ntmps98
  go_wp2_with fail
  refine (lengths_any _ _ _ (H1.out _) hn).mono ?_
  rintro e w1 ⟨hb, (⟨ls, v1, h1, rfl, h2⟩ | ⟨h1, rfl⟩)⟩
  · have e1 : gramOk rs = decide (rs.length ≤ 400) := by simp [gramOk, h1]
    have E1 := Lib.hid e1
    clear h1 h2 e1
    go_wp2
    go_ret
    exact ⟨ret_bool (by rw [E1.out]), ((Below.refl _ _).alloc (Nat.le_refl _) _).trans (hb.mono (by simp))⟩
  · have e1 : gramOk rs = false := by simp [gramOk, h1]
    have E1 := Lib.hid e1
    clear h1 e1
    go_wp2
    go_ret
    exact ⟨ret_bool (by rw [E1.out]), ((Below.refl _ _).alloc (Nat.le_refl _) _).trans (hb.mono (by simp))⟩
end Go.Proofs.Ytfapnipmgmpgaaa

namespace Go.Proofs.Ytfapnipmgmpgaaa
open Go.RowKit

def allB (n : Nat) (c : Nat → Bool) : Bool := (List.range n).all c
theorem allB_true {n : Nat} {c : Nat → Bool} (h : ∀ i, i < n → c i = true) : allB n c = true := by
  unfold allB; rw [List.all_eq_true]; intro i hi; exact h i (by simpa using hi)
theorem allB_false {n : Nat} {c : Nat → Bool} (k : Nat) (hk : k < n) (h : c k = false) : allB n c = false := by
  unfold allB; rw [List.all_eq_false]; exact ⟨k, by simpa using hk, by simp [h]⟩
/-- The index of the first element for which p holds, or -1. -/
def idxOf {α : Type} (p : α → Bool) : List α → Int
  | [] => -1
  | x :: xs => if p x then 0 else if idxOf p xs < 0 then -1 else idxOf p xs + 1
theorem idxOf_none {α : Type} {p : α → Bool} {xs : List α} (h : ∀ x ∈ xs, p x = false) : idxOf p xs = -1 := by
  induction xs with
  | nil => rfl
  | cons x xs ih => rw [idxOf, h x (by simp), ih (fun y hy => h y (by simp [hy]))]; rfl
theorem idxOf_some {α : Type} {p : α → Bool} {xs : List α} {k : Nat} {x : α} (h : ∀ (i : Nat) y, i < k → xs[i]? = some y → p y = false) (hx : xs[k]? = some x) (hp : p x = true) : idxOf p xs = k := by
  induction xs generalizing k with
  | nil => simp at hx
  | cons y ys ih =>
    cases k with
    | zero => simp at hx; subst hx; rw [idxOf, if_pos hp]; rfl
    | succ k =>
      have h0 := h 0 y (by omega) rfl
      have := ih (k := k) (fun i z hi hz => h (i + 1) z (by omega) (by simpa using hz)) (by simpa using hx)
      rw [idxOf, if_neg (by simp [h0]), this, if_neg (by omega)]; omega
theorem idxOf_any {α : Type} (p : α → Bool) (xs : List α) : decide (0 ≤ idxOf p xs) = xs.any p := by
  induction xs with
  | nil => rfl
  | cons x xs ih =>
    rw [idxOf, List.any_cons, ← ih]
    by_cases h : p x = true
    · simp [h]
    · rw [if_neg h]
      split <;> simp [h] <;> omega

end Go.Proofs.Ytfapnipmgmpgaaa

namespace Go.Proofs.Ytfapnipmgmpgaaa
open Go.RowKit

def inR (n a b : Int) : Bool := decide (a ≤ n) && decide (n ≤ b)
def rowOk (states : Int) (row : List Int) : Bool := (row.length == 4) && !row.any fun s => !inR s 0 (states - 1)
def nextOk (states : Int) (next : List (List Int)) : Bool := ((next.length : Int) == states) && !next.any fun r => !rowOk states r
def risesOk (hi : Int) (l : List Int) : Bool := allB l.length fun i => inR (l.getD i 0) 0 hi && (i == 0 || decide (l.getD (i - 1) 0 < l.getD i 0))
structure GAuto where
  states : Int
  start : Int
  finals : List Int
  next : List (List Int)
def machOk (states start : Int) (next : List (List Int)) : Bool := inR states 1 24 && inR start 0 (states - 1) && nextOk states next
def autoOk (a : GAuto) : Bool := inR a.states 1 24 && inR a.start 0 (a.states - 1) && risesOk (a.states - 1) a.finals && nextOk a.states a.next

theorem l00In_yes (n a b : Int) (w : World) (h : inR n a b = true) : Calls Try.prog 88 #[.int .i64 n, .int .i64 a, .int .i64 b] w fun e w' => e = .returned (.bool true) ∧ w = w' :=
  (l00In_any n a b w).mono fun _ _ ⟨he, hw⟩ => ⟨by rw [he, ← h]; rfl, hw⟩
theorem l00In_no (n a b : Int) (w : World) (h : inR n a b = false) : Calls Try.prog 88 #[.int .i64 n, .int .i64 a, .int .i64 b] w fun e w' => e = .returned (.bool false) ∧ w = w' :=
  (l00In_any n a b w).mono fun _ _ ⟨he, hw⟩ => ⟨by rw [he, ← h]; rfl, hw⟩

end Go.Proofs.Ytfapnipmgmpgaaa

