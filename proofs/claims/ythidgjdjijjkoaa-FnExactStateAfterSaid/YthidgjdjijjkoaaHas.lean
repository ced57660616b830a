import Derived.Test.YthidgjdjijjkoaaFunc
namespace Go.Proofs.Ythidgjdjijjkoaa
open Go.RowKit

set_option maxRecDepth 100000 in
theorem Index_any (v : Value) (xs : List Int) (n : Int) (w : World) (h : Sl IntE w w.heap.size v xs) :
    Calls Try.prog 126 #[v, .int .i64 n] w fun e w' => e = .returned (.int .i64 (idxOf (fun x => n == x) xs)) ∧ ∃ k, w' = w.drewN k := by
  obtain ⟨A, c, rfl, hc, hm, hrow⟩ := h
  unfold maxLen at hm
  go_enter Try.func126, Try.ntmps126
  go_wp2_with fail
  go_loopw [8] (fun i wr => ∃ k : Nat, k ≤ xs.length ∧ i = .int .i64 k ∧ (∃ m, wr = w.drewN m) ∧ ∀ (j : Nat) y, j < k → xs[j]? = some y → (n == y) = false) (fun i _ => xs.length - (intOf i).toNat)
  case atStart => exact ⟨0, Nat.zero_le _, rfl, ⟨0, rfl⟩, fun j y hj => absurd hj (by omega)⟩
  case round =>
    obtain ⟨k, hk, rfl, ⟨m, rfl⟩, hno⟩ := hrel
    have Hno := Lib.hid hno
    clear hno
    by_cases hlt : k < xs.length
    · obtain ⟨b, o, rfl, hbl, hcell⟩ := hrow.int hlt
      obtain ⟨x, hx⟩ : ∃ x, xs[k]? = some x := ⟨_, List.getElem?_eq_getElem hlt⟩
      have hc0 : w.cell? ⟨b, o + k, none⟩ = some (.int .i64 x) := by rw [hcell k hlt, List.getD_eq_getElem?_getD, hx]; rfl
      have Hx := Lib.hid hx
      clear hcell hx
      by_cases hp : (n == x) = true
      · have Hp := Lib.hid hp
        go_wp2
        go_ret
        exact ⟨ret_int (by rw [idxOf_some Hno.out Hx.out Hp.out]), _, rfl⟩
      · have hp2 : (n == x) = false := by simpa using hp
        have Hp := Lib.hid hp2
        clear hp
        go_wp2
        go_roundw
        case rel =>
          refine ⟨k + 1, by omega, by go_num, ⟨_, rfl⟩, fun j y hj hy => ?_⟩
          by_cases e : j = k
          · subst e
            have := Hx.out
            rw [hy] at this
            injection this with this
            rw [this]; exact Hp.out
          · exact Hno.out j y (by omega) hy
        case measure => simp [intOf]; omega
    · go_wp2
      go_ret
      exact ⟨ret_int (by
        rw [idxOf_none]
        intro x hx
        obtain ⟨j, hj, rfl⟩ := List.getElem_of_mem hx
        exact Hno.out j _ (by omega) (List.getElem?_eq_getElem hj)), _, rfl⟩

/-- n is among xs. -/
def hasB (xs : List Int) (n : Int) : Bool := xs.any (fun x => n == x)
theorem Contains_any (v : Value) (xs : List Int) (n : Int) (w : World) (h : Sl IntE w w.heap.size v xs) :
    Calls Try.prog 89 #[v, .int .i64 n] w fun e w' => e = .returned (.bool (hasB xs n)) ∧ ∃ k, w' = w.drewN k := by
  have H := Lib.hid h
  obtain ⟨A, c, rfl, _⟩ := h
  go_enter Try.func89, Try.ntmps89
  go_wp2_with fail
  refine (Index_any _ xs n _ H.out).mono ?_
  rintro e w2 ⟨rfl, k, rfl⟩
  go_wp2
  go_ret
  exact ⟨ret_bool (idxOf_any _ xs), _, rfl⟩

set_option maxRecDepth 100000 in
theorem l00Has_any (v : Value) (xs : List Int) (n : Int) (w : World) (h : Sl IntE w w.heap.size v xs) :
    Calls Try.prog 88 #[v, .int .i64 n] w fun e w' => e = .returned (.bool (hasB xs n)) ∧ ∃ k, w' = w.drewN k := by
  obtain ⟨A, c, rfl, hc, hm, hrow⟩ := h
  unfold maxLen at hm
  go_enter Try.func88, Try.ntmps88
  go_wp2_with fail
  go_loopw [5] (fun i wr => ∃ k : Nat, k ≤ xs.length ∧ i = .int .i64 k ∧ (∃ m, wr = w.drewN m) ∧ ∀ (j : Nat) y, j < k → xs[j]? = some y → (n == y) = false) (fun i _ => xs.length - (intOf i).toNat)
  case atStart => exact ⟨0, Nat.zero_le _, rfl, ⟨0, rfl⟩, fun j y hj => absurd hj (by omega)⟩
  case round =>
    obtain ⟨k, hk, rfl, ⟨m, rfl⟩, hno⟩ := hrel
    have Hno := Lib.hid hno
    clear hno
    by_cases hlt : k < xs.length
    · obtain ⟨b, o, rfl, hbl, hcell⟩ := hrow.int hlt
      obtain ⟨x, hx⟩ : ∃ x, xs[k]? = some x := ⟨_, List.getElem?_eq_getElem hlt⟩
      have hc0 : w.cell? ⟨b, o + k, none⟩ = some (.int .i64 x) := by rw [hcell k hlt, List.getD_eq_getElem?_getD, hx]; rfl
      have Hx := Lib.hid hx
      clear hcell hx
      by_cases hp : (x == n) = true
      · have Hp := Lib.hid hp
        go_wp2
        go_ret
        exact ⟨ret_bool (by
          have : x = n := by simpa using Hp.out
          subst this
          exact (List.any_eq_true.2 ⟨x, List.mem_of_getElem? Hx.out, by simp⟩).symm), _, rfl⟩
      · have hp2 : (x == n) = false := by simpa using hp
        have Hp := Lib.hid hp2
        clear hp
        go_wp2
        go_roundw
        case rel =>
          refine ⟨k + 1, by omega, by go_num, ⟨_, rfl⟩, fun j y hj hy => ?_⟩
          by_cases e : j = k
          · subst e
            have := Hx.out
            rw [hy] at this
            injection this with this
            have h2 := Hp.out
            rw [this]
            rw [beq_eq_false_iff_ne] at h2 ⊢
            exact fun e => h2 e.symm
          · exact Hno.out j y (by omega) hy
        case measure => simp [intOf]; omega
    · go_wp2
      go_ret
      exact ⟨ret_bool (by
        symm
        unfold hasB
        rw [List.any_eq_false]
        intro x hx
        obtain ⟨j, hj, rfl⟩ := List.getElem_of_mem hx
        rw [Hno.out j _ (by omega) (List.getElem?_eq_getElem hj)]; simp), _, rfl⟩
end Go.Proofs.Ythidgjdjijjkoaa
