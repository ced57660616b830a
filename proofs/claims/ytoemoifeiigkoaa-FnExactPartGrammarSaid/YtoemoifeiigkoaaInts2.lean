import Derived.Test.YtoemoifeiigkoaaInts
namespace Go.Proofs.Ytoemoifeiigkoaa
open Go.RowKit

theorem madeInts (n : Nat) : (madeCells (Value.int .i64 0).cells (n * 1)).toList = (List.replicate n (0 : Int)).map (Value.int .i64) := by
  rw [Nat.mul_one, List.map_replicate]; exact toList_madeCells_one _ n

theorem eqInt64S_any (v v' : Value) (xs : List Int) (w : World) (h : Sl IntE w w.heap.size v xs) (h' : Sl IntE w w.heap.size v' xs) :
    Calls Try.prog 22 #[v, v'] w fun e w' => e = .returned (.bool true) ∧ ∃ n, w' = w.drewN n := by
  obtain ⟨A, c, rfl, hc, hm, hrow⟩ := h
  obtain ⟨A', c', rfl, hc', hm', hrow'⟩ := h'
  unfold maxLen at hm
  have hn : xs.length ≤ 9223372036854775807 := by omega
  clear hm hm'
  go_enter Try.func22, Try.ntmps22
  go_wp2_with fail
  go_loopw [5] (fun i wr => ∃ (k : Nat), k ≤ xs.length ∧ i = .int .i64 k ∧ ∃ m, wr = w.drewN m) (fun i _ => xs.length - (intOf i).toNat)
  case atStart => exact ⟨0, Nat.zero_le _, rfl, 0, rfl⟩
  case round =>
    obtain ⟨k, hk, rfl, m, rfl⟩ := hrel
    by_cases hlt : k < xs.length
    · obtain ⟨b, o, rfl, hbl, hcell⟩ := hrow.int hlt
      obtain ⟨b', o', rfl, hbl', hcell'⟩ := hrow'.int hlt
      have hc0 := hcell k hlt
      have hc0' := hcell' k hlt
      have hi : (k : Int) < (xs.length : Int) := by omega
      clear hcell hcell'
      go_wp2_with fail
      go_quiet (fail)
      go_wp2
      go_roundw
      case rel => exact ⟨k + 1, by omega, by go_num, _, rfl⟩
      case measure => simp [intOf]; omega
    · go_wp2
      go_ret
      exact ⟨rfl, m, rfl⟩
end Go.Proofs.Ytoemoifeiigkoaa
