import Derived.Test.YtoemoifeiigkoaaWords
namespace Go.Proofs.Ytoemoifeiigkoaa
open Go.RowKit

def SizesPost (rs : List GRule) (w : World) (e : Ending) (w' : World) : Prop :=
  Below w.heap.size w w' ∧ ((∃ ls v, lens rs = some ls ∧ e = .returned (.tuple #[v, .bool true]) ∧ OwnInts w' w.heap.size v ls) ∨
    (lens rs = none ∧ ∃ v ls, e = .returned (.tuple #[v, .bool false]) ∧ OwnInts w' w.heap.size v ls))

set_option maxRecDepth 100000 in
theorem l02Sizes_any (b o : Nat) (v : Value) (rs : List GRule) (w : World) (hp : w.cell? ⟨b, o, none⟩ = some v) (hbl : b < w.heap.size) (h : Sl RuleE w w.heap.size v rs) (hsm : SmallL rs) (hn : rs.length ≤ 1099511627776) :
    Calls Try.prog 182 #[.pointer (some ⟨b, o, none⟩)] w (SizesPost rs w) := by
  obtain ⟨A, c, rfl, hc, hm, hrow⟩ := h
  clear hm
  go_enter Try.func182, Try.ntmps182
  go_wp2_with fail
  go_loopw [4, 5] (fun out i wr => ∃ (k : Nat) (vals : List Int), k ≤ rs.length ∧ i = .int .i64 k ∧ lens (rs.take k) = some vals ∧ Below w.heap.size w wr ∧ OwnInts wr w.heap.size out vals) (fun _ i _ => rs.length - (intOf i).toNat)
  case atStart => exact ⟨0, [], Nat.zero_le _, rfl, by simp [lens], (Below.refl _ _).alloc (Nat.le_refl _) _, OwnInts.empty rfl (Nat.le_refl _)⟩
  case round =>
    obtain ⟨k, vals, hk, rfl, hlen, hB, hown⟩ := hrel
    have hpp : wr.cell? ⟨b, o, none⟩ = some (Value.slice A rs.length c) := (hB.cell hbl).trans hp
    by_cases hlt : k < rs.length
    · have hvk : vals.length = k := by have := lens_length hlen; rw [List.length_take] at this; omega
      obtain ⟨b1, o1, rfl, hbl1, hcell⟩ := hrow.rule hlt
      obtain ⟨r, hrk⟩ : ∃ x, rs[k]? = some x := ⟨_, List.getElem?_eq_getElem hlt⟩
      obtain ⟨g0, g1, g2⟩ := hcell k r hrk
      have hc0 := (hB.cell (p := ⟨b1, o1 + k * 3, none⟩) hbl1).trans g0
      have hc1 := (hB.cell (p := ⟨b1, o1 + k * 3 + 1, none⟩) hbl1).trans g1
      have hc2 := (hB.cell (p := ⟨b1, o1 + k * 3 + 2, none⟩) hbl1).trans g2
      have hsr := hsm r (List.mem_of_getElem? hrk)
      have hsz : w.heap.size ≤ wr.heap.size := hB.size
      have hv1 : vals.length ≤ 1099511627776 := by omega
      have Hr := Lib.hid hrk
      have Hlen := Lib.hid hlen
      have Hvk := Lib.hid hvk
      have Hown := Lib.hid hown
      clear hrk hlen hvk hcell g0 g1 g2 hown
      go_wp2_with (first
        | (go_at_call 243; go_must (refine (l02Rule_any _ _ r k _ hc0 hc1 hc2 (by omega) (by unfold maxLen; omega)).mono ?_); rintro e w2 ⟨rfl, rfl⟩)
        | (at_builtin; go_must (refine push_ints rfl _ _ rfl rfl rfl (by simp) (by repeat (first | exact Hown.out | apply OwnInts.alloc | apply OwnInts.drewN | apply OwnRules.alloc | apply OwnRules.drewN)) (by omega) (by first | omega | (simp; omega)) ?_); intro v' w1 hown1 hgrow hbw))
      · have hok : okRule k r = false := by simpa using ‹(!okRule k r) = true›
        go_ret2
        exact ⟨hB, .inr ⟨lens_bad Hlen.out Hr.out (lensStep_none (by rw [Hvk.out]; exact hok)), _, vals, rfl, Hown.out⟩⟩
      · have hok : okRule k r = true := by simpa using ‹(!okRule k r) = false›
        have hpr : r.pair = true := by have h := ‹r.letter.toList.isEmpty = true›; rw [isEmpty_size] at h; exact h
        have hbd : 0 ≤ r.left ∧ r.left ≤ (k : Int) - 1 ∧ 0 ≤ r.right ∧ r.right ≤ (k : Int) - 1 := by
          simp [okRule, hpr] at hok; omega
        have hvk := Hvk.out
        obtain ⟨g, cap, rfl, hgb, hgl, hcap, hgc⟩ := OwnInts.at_ Hown.out (j := 0) (by omega)
        have hx1 := hgc r.left.toNat (by omega)
        have hx2 := hgc r.right.toNat (by omega)
        have hi1 : r.left < (vals.length : Int) := by omega
        have hi2 : r.right < (vals.length : Int) := by omega
        obtain ⟨hj1, _, hj2, _⟩ := hbd
        have hpos := lens_pos Hlen.out
        have hb1 : 1 ≤ vals.getD r.left.toNat 0 ∧ vals.getD r.left.toNat 0 ≤ 1000000000000000 := by
          rw [List.getD_eq_getElem?_getD, List.getElem?_eq_getElem (by omega)]; exact hpos _ (List.getElem_mem _)
        have hb2 : 1 ≤ vals.getD r.right.toNat 0 ∧ vals.getD r.right.toNat 0 ≤ 1000000000000000 := by
          rw [List.getD_eq_getElem?_getD, List.getElem?_eq_getElem (by omega)]; exact hpos _ (List.getElem_mem _)
        have hrl : ruleLen vals r = vals.getD r.left.toNat 0 + vals.getD r.right.toNat 0 := by simp [ruleLen, hpr]
        generalize vals.getD r.left.toNat 0 = x at *
        generalize vals.getD r.right.toNat 0 = y at *
        have hwr : IntKind.i64.wrap (x + y) = x + y := IntWalk.i64_in _ (by omega)
        have Hrl := Lib.hid hrl
        have Hok := Lib.hid hok
        clear hgc hvk hpos hrl hok hpr
        go_quiet (fail)
        clear hwr
        go_wp2_with (at_builtin; go_must (refine push_ints rfl _ _ rfl rfl rfl (by simp) (by repeat (first | exact Hown.out | apply OwnInts.alloc | apply OwnInts.drewN | apply OwnRules.alloc | apply OwnRules.drewN)) (by omega) (by first | omega | (simp; omega)) ?_); intro v' w1 hown1 hgrow hbw)
        · go_ret2
          exact ⟨(by repeat (first | exact hB | (refine Below.alloc ?_ (by first | omega | (simp; done) | (simp; omega)) _) | refine below_drewN ?_ _ | refine Below.drew ?_)), .inr ⟨lens_bad Hlen.out Hr.out (lensStep_big (by rw [Hrl.out]; unfold maxL; omega)), _, vals, rfl, (by repeat (first | exact Hown.out | apply OwnInts.alloc | apply OwnInts.drewN | apply OwnRules.alloc | apply OwnRules.drewN))⟩⟩
        · go_roundw
          case rel => exact ⟨k + 1, vals ++ [x + y], by omega, by go_num, by have := lens_next Hlen.out Hr.out (by rw [Hvk.out]; exact Hok.out) (by rw [Hrl.out]; unfold maxL; omega); rw [Hrl.out] at this; exact this, (below_drewN hB _).trans hbw, hown1⟩
          case measure => simp [intOf]; omega
      · have hok : okRule k r = true := by simpa using ‹(!okRule k r) = false›
        have hpr : r.pair = false := by have h := ‹r.letter.toList.isEmpty = false›; rw [isEmpty_size] at h; exact h
        have hrl : ruleLen vals r = 1 := by simp [ruleLen, hpr]
        go_roundw
        case rel => exact ⟨k + 1, vals ++ [1], by omega, by go_num, by have := lens_next Hlen.out Hr.out (by rw [Hvk.out]; exact hok) (by rw [hrl]; unfold maxL; omega); rw [hrl] at this; exact this, hB.trans hbw, hown1⟩
        case measure => simp [intOf]; omega
    · have hkn : k = rs.length := by omega
      have hfin : lens rs = some vals := by rw [← hlen, List.take_of_length_le (by omega)]
      have Hfin := Lib.hid hfin
      have Hown := Lib.hid hown
      subst hkn
      clear hlen hfin hown
      go_wp2_with fail
      go_ret2
      exact ⟨hB, .inl ⟨vals, _, Hfin.out, rfl, Hown.out⟩⟩

def LengthsPost (rs : List GRule) (w : World) (e : Ending) (w' : World) : Prop :=
  Below w.heap.size w w' ∧ ∃ v ls, e = .returned (.tuple #[v, .bool (decide (rs.length ≤ 400) && (lens rs).isSome)]) ∧ OwnInts w' w.heap.size v ls ∧ (rs.length ≤ 400 → ∀ l, lens rs = some l → ls = l)

theorem l02Lengths_any (b o : Nat) (v : Value) (rs : List GRule) (w : World) (hp : w.cell? ⟨b, o, none⟩ = some v) (hbl : b < w.heap.size) (h : Sl RuleE w w.heap.size v rs) (hsm : SmallL rs) :
    Calls Try.prog 87 #[.pointer (some ⟨b, o, none⟩)] w (LengthsPost rs w) := by
  have h' := h
  obtain ⟨A, c, rfl, hc, hm, hrow⟩ := h'
  have Hsl := Lib.hid h
  clear h hm hrow
  by_cases hn : rs.length ≤ 400
  · go_enter Try.func87, Try.ntmps87
    go_wp2_with fail
    refine (l02Sizes_any _ _ _ _ _ hp hbl Hsl.out hsm (by omega)).mono ?_
    rintro e w1 ⟨hb, (⟨ls, v1, h1, rfl, h2⟩ | ⟨h1, v1, ls, rfl, h2⟩)⟩
    · have H1 := Lib.hid h1
      have H2 := Lib.hid h2
      clear h1 h2
      go_wp2
      go_ret2
      exact ⟨hb, _, ls, by simp [H1.out, hn], H2.out, fun _ l hl => by rw [H1.out] at hl; injection hl⟩
    · have H1 := Lib.hid h1
      have H2 := Lib.hid h2
      clear h1 h2
      go_wp2
      go_ret2
      exact ⟨hb, _, ls, by simp [H1.out], H2.out, fun _ l hl => by rw [H1.out] at hl; cases hl⟩
  · go_enter Try.func87, Try.ntmps87
    go_wp2
    go_ret2
    exact ⟨(Below.refl _ _).alloc (Nat.le_refl _) _, _, [], by simp [hn], OwnInts.empty rfl (Nat.le_refl _), fun h => absurd h hn⟩

def gramOk (rs : List GRule) : Bool := decide (rs.length ≤ 400) && (lens rs).isSome

theorem l02Ok_any (b o : Nat) (v : Value) (rs : List GRule) (w : World) (hp : w.cell? ⟨b, o, none⟩ = some v) (hbl : b < w.heap.size) (h : Sl RuleE w w.heap.size v rs) (hsm : SmallL rs) :
    Calls Try.prog 85 #[.pointer (some ⟨b, o, none⟩)] w fun e w' => e = .returned (.bool (gramOk rs)) ∧ Below w.heap.size w w' := by
  have Hsl := Lib.hid h
  clear h
  go_enter Try.func85, Try.ntmps85
  go_wp2_with fail
  refine (l02Lengths_any _ _ _ _ _ hp hbl Hsl.out hsm).mono ?_
  rintro e w1 ⟨hb, v1, ls, rfl, h2, h3⟩
  clear h2 h3
  go_wp2
  go_ret
  exact ⟨rfl, hb⟩

theorem ValidGrammar_any (v : Value) (rs : List GRule) (w : World) (h : Sl RuleE w w.heap.size v rs) (hn : rs.length ≤ 1099511627776) :
    Calls Try.prog 93 #[.agg #[v]] w fun e w' => e = .returned (.bool (gramOk rs)) ∧ Below w.heap.size w w' := by
  have h1 := fun o => (h.below ((Below.refl w.heap.size w).alloc (Nat.le_refl _) o)).le (B' := (w.alloc o).heap.size) (by simp)
  have H1 := Lib.hid h1
  clear h1 h
  go_enter Try.func93, Try.ntmps93
  go_wp2_with fail
  refine (lengths_any _ _ _ (H1.out _) hn).mono ?_
  rintro e w1 ⟨hb, (⟨ls, v1, h1, rfl, h2⟩ | ⟨h1, rfl⟩)⟩
  · have e1 : gramOk rs = decide (rs.length ≤ 400) := by simp [gramOk, h1]
    have E1 := Lib.hid e1
    clear h1 h2 e1
    go_wp2
    go_ret
    exact ⟨ret_bool (by rw [E1.out]), ((Below.refl _ _).alloc (Nat.le_refl _) _).trans (hb.mono (by simp))⟩
  · have e1 : gramOk rs = false := by simp [gramOk, h1]
    have E1 := Lib.hid e1
    clear h1 e1
    go_wp2
    go_ret
    exact ⟨ret_bool (by rw [E1.out]), ((Below.refl _ _).alloc (Nat.le_refl _) _).trans (hb.mono (by simp))⟩
end Go.Proofs.Ytoemoifeiigkoaa
