import Derived.Test.YtoemoifeiigkoaaEnc
import Derived.Deep.DeepMust
namespace Go.Proofs.Ytoemoifeiigkoaa
open Go.RowKit

theorem within_any (n a b : Int) (w : World) :
    Calls Try.prog 78 #[.int .i64 n, .int .i64 a, .int .i64 b] w fun e w' => e = .returned (.bool (decide (a ≤ n) && decide (n ≤ b))) ∧ w = w' := by
  by_cases h1 : a ≤ n
  · by_cases h2 : n ≤ b <;> go_enter Try.func78, Try.ntmps78 <;> go_wp2 <;> go_ret <;> exact ⟨by simp [h1,h2], rfl⟩
  · go_enter Try.func78, Try.ntmps78
    go_wp2
    go_ret
    exact ⟨by simp; omega, rfl⟩

theorem l00In_any (n a b : Int) (w : World) :
    Calls Try.prog 120 #[.int .i64 n, .int .i64 a, .int .i64 b] w fun e w' => e = .returned (.bool (decide (a ≤ n) && decide (n ≤ b))) ∧ w = w' := by
  by_cases h1 : a ≤ n
  · by_cases h2 : n ≤ b <;> go_enter Try.func120, Try.ntmps120 <;> go_wp2 <;> go_ret <;> exact ⟨by simp [h1,h2], rfl⟩
  · go_enter Try.func120, Try.ntmps120
    go_wp2
    go_ret
    exact ⟨by simp; omega, rfl⟩

theorem isPair_any (l : ByteArray) (a b : Int) (w : World) :
    Calls Try.prog 174 #[.agg #[.string l, .int .i64 a, .int .i64 b]] w fun e w' => e = .returned (.bool (l.toList.isEmpty)) ∧ w.alloc (.cells #[.string l, .int .i64 a, .int .i64 b] 171) = w' := by
  go_enter Try.func174, Try.ntmps174
  go_wp2
  go_ret
  exact ⟨by simp, rfl⟩

theorem isLetter_any (c : UInt8) (w : World) :
    Calls Try.prog 175 #[.int .u8 c.toNat] w fun e w' => e = .returned (.bool (decide (97 ≤ (c.toNat:Int)) && decide ((c.toNat:Int) ≤ 100))) ∧ w = w' := by
  by_cases h1 : 97 ≤ (c.toNat : Int)
  · by_cases h2 : (c.toNat : Int) ≤ 100 <;> go_enter Try.func175, Try.ntmps175 <;> go_wp2 <;> go_ret <;> exact ⟨by simp [h1,h2], rfl⟩
  · go_enter Try.func175, Try.ntmps175
    go_wp2
    go_ret
    exact ⟨by simp; omega, rfl⟩

def LensPost (rs : List GRule) (w : World) (e : Ending) (w' : World) : Prop :=
  Below w.heap.size w w' ∧ ((∃ ls v, lens rs = some ls ∧ e = .returned (.tuple #[v, .bool (decide (rs.length ≤ 400))]) ∧ OwnInts w' w.heap.size v ls) ∨
    (lens rs = none ∧ e = .returned (.tuple #[.slice none 0 0, .bool false])))

set_option maxRecDepth 100000 in
theorem lengths_any (v : Value) (rs : List GRule) (w : World) (h : Sl RuleE w w.heap.size v rs) (hn : rs.length ≤ 1099511627776) :
    Calls Try.prog 77 #[.agg #[v]] w (LensPost rs w) := by
  obtain ⟨A, c, rfl, hc, hm, hrow⟩ := h
  clear hm
  go_enter Try.func77, Try.ntmps77
  go_wp2_with fail
  go_loopw [4, 12] (fun out i wr => ∃ (k : Nat) (vals : List Int), k ≤ rs.length ∧ i = .int .i64 k ∧ lens (rs.take k) = some vals ∧ Below (w.heap.size+1) (w.alloc (Obj.cells #[Value.slice A rs.length c] 28)) wr ∧ OwnInts wr (w.heap.size+1) out vals) (fun _ i _ => rs.length - (intOf i).toNat)
  case atStart => exact ⟨0, [], Nat.zero_le _, rfl, by simp [lens], (Below.refl _ _).alloc (by simp) _, OwnInts.empty (by simp) (by simp)⟩
  case round =>
    obtain ⟨k, vals, hk, rfl, hlen, hb, hown⟩ := hrel
    have hB : Below w.heap.size w wr := ((Below.refl _ _).alloc (Nat.le_refl _) _).trans (hb.mono (by omega))
    by_cases hlt : k < rs.length
    · have hvk : vals.length = k := by have := lens_length hlen; rw [List.length_take] at this; omega
      obtain ⟨b, o, rfl, hbl, hcell⟩ := (hrow.keep (Keep.of_below hB)).rule hlt
      obtain ⟨r, hrk⟩ : ∃ x, rs[k]? = some x := ⟨_, List.getElem?_eq_getElem hlt⟩
      obtain ⟨hc0, hc1, hc2⟩ := hcell k r hrk
      have hsz : w.heap.size + 1 ≤ wr.heap.size := by have := hb.size; simpa using this
      have hv1 : vals.length ≤ 1099511627776 := by omega
      have hat : 0 < k → _ := fun h => hown.at_ (j := 0) (by omega)
      have Hat := Lib.hid hat
      have Hr := Lib.hid hrk
      have Hlen := Lib.hid hlen
      have Hvk := Lib.hid hvk
      clear hrk hcell hrow hlen hvk hat
      go_wp2_with (first
        | (go_at_call 174; refine (isPair_any _ _ _ _).mono ?_; rintro e w' ⟨rfl, rfl⟩)
        | (go_at_call 78; refine (within_any _ _ _ _).mono ?_; rintro e w' ⟨rfl, rfl⟩)
        | (go_at_call 175; refine (isLetter_any _ _).mono ?_; rintro e w' ⟨rfl, rfl⟩)
        | (at_builtin; go_must (refine push_ints rfl _ _ rfl rfl rfl (by simp) (by repeat (first | exact hown | apply OwnInts.alloc)) (by omega) (by simp; omega) ?_)
           intro v' w1 hown1 hgrow hbw))
      · go_ret2
        exact ⟨by repeat (first | exact hB | (refine Below.alloc ?_ (by first | omega | (simp; omega)) _)), .inr ⟨lens_bad Hlen.out Hr.out (lensStep_none (by rw [Hvk.out]; exact okp_no2 ‹_› ‹_›)), rfl⟩⟩
      · have h1 : 0 ≤ r.left ∧ r.left ≤ (k:Int) - 1 := by assumption
        have h2 : (!decide (0 ≤ r.right)) = false ∧ (!decide (r.right ≤ (k:Int) - 1)) = false := by assumption
        have Hok := Lib.hid (okp_yes (r := r) (k := k) ‹_› h1 h2)
        simp at h2
        obtain ⟨g, cap, rfl, hgb, hgl, hcap, hgc⟩ := Hat.out (by omega)
        have Hgc := Lib.hid hgc
        have hvk := Hvk.out
        have hx1 := hgc r.left.toNat (by omega)
        have hx2 := hgc r.right.toNat (by omega)
        have hi1 : r.left < (vals.length : Int) := by omega
        have hi2 : r.right < (vals.length : Int) := by omega
        have hi3 : 0 ≤ r.right := h2.1
        have hpos := lens_pos Hlen.out
        have hb1 : 1 ≤ vals.getD r.left.toNat 0 ∧ vals.getD r.left.toNat 0 ≤ 1000000000000000 := by
          rw [List.getD_eq_getElem?_getD, List.getElem?_eq_getElem (by omega)]; exact hpos _ (List.getElem_mem _)
        have hb2 : 1 ≤ vals.getD r.right.toNat 0 ∧ vals.getD r.right.toNat 0 ≤ 1000000000000000 := by
          rw [List.getD_eq_getElem?_getD, List.getElem?_eq_getElem (by omega)]; exact hpos _ (List.getElem_mem _)
        have hrl : ruleLen vals r = vals.getD r.left.toNat 0 + vals.getD r.right.toNat 0 := by simp [ruleLen, Hok.out.2]
        generalize vals.getD r.left.toNat 0 = x at *
        generalize vals.getD r.right.toNat 0 = y at *
        have hwr : IntKind.i64.wrap (x + y) = x + y := IntWalk.i64_in _ (by omega)
        have Hrl := Lib.hid hrl
        clear hgc hvk hpos hrl
        go_quiet (fail)
        clear hwr
        go_wp2_with (first
        | (at_builtin; go_must (refine push_ints rfl _ _ rfl rfl rfl (by simp) (by repeat (first | exact hown | apply OwnInts.alloc | apply OwnInts.drewN)) (by omega) (by simp; omega) ?_)
           intro v' w1 hown1 hgrow hbw))
        · go_ret2
          exact ⟨by repeat (first | exact hB | (refine Below.alloc ?_ (by first | omega | (simp; omega)) _) | refine below_drewN ?_ _), .inr ⟨lens_bad Hlen.out Hr.out (lensStep_big (by rw [Hrl.out]; unfold maxL; omega)), rfl⟩⟩
        · go_roundw
          case rel => exact ⟨k + 1, vals ++ [x + y], by omega, by go_num, by have := lens_next Hlen.out Hr.out (by rw [Hvk.out]; exact Hok.out.1) (by rw [Hrl.out]; unfold maxL; omega); rw [Hrl.out] at this; exact this, hb.trans ((below_drewN (((Below.refl _ _).alloc (by omega) _).alloc (by simp; omega) _) _).trans hbw), hown1⟩
          case measure => simp [intOf]; omega
      · go_ret2
        exact ⟨by repeat (first | exact hB | (refine Below.alloc ?_ (by first | omega | (simp; omega)) _)), .inr ⟨lens_bad Hlen.out Hr.out (lensStep_none (by rw [Hvk.out]; exact okp_no1 ‹_› ‹_›)), rfl⟩⟩
      · go_ret2
        exact ⟨by repeat (first | exact hB | (refine Below.alloc ?_ (by first | omega | (simp; omega)) _)), .inr ⟨lens_bad Hlen.out Hr.out (lensStep_none (by rw [Hvk.out]; exact okl_no4 ‹_› ‹_›)), rfl⟩⟩
      · have Hok := okl_yes (r := r) (k := k) ‹_› ‹_› _ ‹_› ‹_› ‹_›
        go_roundw
        case rel => exact ⟨k + 1, vals ++ [1], by omega, by go_num, by have := lens_next Hlen.out Hr.out (by rw [Hvk.out]; exact Hok.1) (by simp [ruleLen, Hok.2, maxL]); simpa [ruleLen, Hok.2] using this, hb.trans (((Below.refl _ _).alloc (by omega) _).alloc (by simp; omega) _ |>.trans hbw), hown1⟩
        case measure => simp [intOf]; omega
      · go_ret2
        exact ⟨by repeat (first | exact hB | (refine Below.alloc ?_ (by first | omega | (simp; omega)) _)), .inr ⟨lens_bad Hlen.out Hr.out (lensStep_none (by rw [Hvk.out]; exact okl_no3 ‹_› ‹_›)), rfl⟩⟩
      · go_ret2
        exact ⟨by repeat (first | exact hB | (refine Below.alloc ?_ (by first | omega | (simp; omega)) _)), .inr ⟨lens_bad Hlen.out Hr.out (lensStep_none (by rw [Hvk.out]; exact okl_no2 ‹_› _ ‹_›)), rfl⟩⟩
      · go_ret2
        exact ⟨by repeat (first | exact hB | (refine Below.alloc ?_ (by first | omega | (simp; omega)) _)), .inr ⟨lens_bad Hlen.out Hr.out (lensStep_none (by rw [Hvk.out]; exact okl_no1 ‹_› ‹_›)), rfl⟩⟩
    · have hkn : k = rs.length := by omega
      have hfin : lens rs = some vals := by rw [← hlen, List.take_of_length_le (by omega)]
      have hg : wr.cell? ⟨w.heap.size, 0, none⟩ = some (Value.slice A rs.length c) := by rw [hb.cell (by simp)]; simp [go_sem]
      have Hfin := Lib.hid hfin
      subst hkn
      clear hlen hrow hfin
      go_wp2_with fail
      go_quiet (fail)
      go_wp2
      go_ret2
      exact ⟨below_drewN hB _, .inl ⟨vals, _, Hfin.out, by simp; omega, ownsRow_more (hown.drewN _) (by omega)⟩⟩
end Go.Proofs.Ytoemoifeiigkoaa
