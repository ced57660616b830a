import Derived.Test.YtoemoifeiigkoaaFunc
import Derived.Shelf.Abstract
namespace Go.Proofs.Ytoemoifeiigkoaa
open Go.RowKit

def inR (n a b : Int) : Bool := decide (a ≤ n) && decide (n ≤ b)
def rowOk (states : Int) (row : List Int) : Bool := (row.length == 4) && !row.any fun s => !inR s 0 (states - 1)
def nextOk (states : Int) (next : List (List Int)) : Bool := ((next.length : Int) == states) && !next.any fun r => !rowOk states r
def risesOk (hi : Int) (l : List Int) : Bool := allB l.length fun i => inR (l.getD i 0) 0 hi && (i == 0 || decide (l.getD (i - 1) 0 < l.getD i 0))
structure GAuto where
  states : Int
  start : Int
  finals : List Int
  next : List (List Int)
def machOk (states start : Int) (next : List (List Int)) : Bool := inR states 1 24 && inR start 0 (states - 1) && nextOk states next
def autoOk (a : GAuto) : Bool := inR a.states 1 24 && inR a.start 0 (a.states - 1) && risesOk (a.states - 1) a.finals && nextOk a.states a.next

theorem machCl11_any (s states : Int) (b : Nat) (w : World) (hc : w.cell? ⟨b, 0, none⟩ = some (.int .i64 states)) (h1 : 1 ≤ states) (h2 : states ≤ 24) :
    Calls Try.prog 252 #[.int .i64 s, .pointer (some ⟨b, 0, none⟩)] w fun e w' => e = .returned (.bool (!inR s 0 (states - 1))) ∧ w = w' := by
  go_enter Try.func252, Try.ntmps252
  go_wp2_with (first | (go_at_call 78; go_must (refine (within_any _ _ _ _).mono ?_); rintro e w' ⟨rfl, rfl⟩))
  go_ret
  exact ⟨by simp [inR], rfl⟩

theorem machCl1_any (v : Value) (row : List Int) (states : Int) (b : Nat) (w : World) (h : Sl IntE w w.heap.size v row) (hb : b < w.heap.size) (hc : w.cell? ⟨b, 0, none⟩ = some (.int .i64 states)) (h1 : 1 ≤ states) (h2 : states ≤ 24) :
    Calls Try.prog 250 #[v, .pointer (some ⟨b, 0, none⟩)] w fun e w' => e = .returned (.bool (!rowOk states row)) ∧ Below w.heap.size w w' := by
  have H := Lib.hid h
  obtain ⟨A, c, rfl, hc', hm, _⟩ := h
  unfold maxLen at hm
  have hmf : ∀ (fn : Fn) (first cap : Array Value) (w : World), (Instr.makeFunc fn first cap).run Try.prog w = .ok (.func fn first cap) w := fun _ _ _ _ => rfl
  by_cases hl : row.length = 4
  · have hl1 : (row.length == 4) = true := by simp [hl]
    have hl2 : ((row.length : Int) != 4) = false := by simp [hl]
    have Hl := Lib.hid hl1
    clear hl hl1
    go_enter Try.func250, Try.ntmps250
    go_wp2_with fail
    refine (ContainsInts_any _ row _ _ (fun s => !inR s 0 (states - 1)) _ H.out (enters_of Try.func252 (by kernel_rfl) rfl) ?_).mono ?_
    · intro W x hW hx
      exact (machCl11_any x states b W ((hW.cell (p := ⟨b, 0, none⟩) hb).trans hc) h1 h2).mono fun e w' ⟨he, hw⟩ => ⟨he, hw ▸ Below.refl _ _⟩
    · rintro e w2 ⟨rfl, hb2⟩
      go_wp2
      go_ret
      exact ⟨ret_bool (by unfold rowOk; rw [Hl.out]; simp), hb2⟩
  · have hl1 : (row.length == 4) = false := by simp [hl]
    have hl2 : ((row.length : Int) != 4) = true := by simp; omega
    have Hl := Lib.hid hl1
    clear hl hl1
    go_enter Try.func250, Try.ntmps250
    go_wp2_with fail
    go_ret
    exact ⟨ret_bool (by unfold rowOk; rw [Hl.out]; simp), Below.refl _ _⟩

theorem l00In_yes (n a b : Int) (w : World) (h : inR n a b = true) : Calls Try.prog 120 #[.int .i64 n, .int .i64 a, .int .i64 b] w fun e w' => e = .returned (.bool true) ∧ w = w' :=
  (l00In_any n a b w).mono fun _ _ ⟨he, hw⟩ => ⟨by rw [he, ← h]; rfl, hw⟩
theorem l00In_no (n a b : Int) (w : World) (h : inR n a b = false) : Calls Try.prog 120 #[.int .i64 n, .int .i64 a, .int .i64 b] w fun e w' => e = .returned (.bool false) ∧ w = w' :=
  (l00In_any n a b w).mono fun _ _ ⟨he, hw⟩ => ⟨by rw [he, ← h]; rfl, hw⟩

theorem l00Rises_any (v : Value) (l : List Int) (hi : Int) (w : World) (h : Sl IntE w w.heap.size v l) :
    Calls Try.prog 195 #[v, .int .i64 0, .int .i64 hi] w fun e w' => e = .returned (.bool (risesOk hi l)) ∧ ∃ n, w' = w.drewN n := by
  obtain ⟨A, c, rfl, hc, hm, hrow⟩ := h
  unfold maxLen at hm
  have hn : l.length ≤ 9223372036854775807 := by omega
  clear hm
  go_enter Try.func195, Try.ntmps195
  go_wp2_with fail
  go_loopw [7] (fun i wr => ∃ (k : Nat), k ≤ l.length ∧ i = .int .i64 k ∧ (∃ m, wr = w.drewN m) ∧ Hid (∀ i, i < k → (inR (l.getD i 0) 0 hi && (i == 0 || decide (l.getD (i - 1) 0 < l.getD i 0))) = true)) (fun i _ => l.length - (intOf i).toNat)
  case atStart => exact ⟨0, Nat.zero_le _, rfl, ⟨0, rfl⟩, fun i hi => absurd hi (by omega)⟩
  case round =>
    obtain ⟨k, hk, rfl, ⟨m, rfl⟩, HA⟩ := hrel
    by_cases hlt : k < l.length
    · obtain ⟨b, o, rfl, hbl, hcell⟩ := hrow.int hlt
      have hc0 := hcell k hlt
      have hc1 : 0 < k → w.cell? ⟨b, o + (k - 1), none⟩ = some (.int .i64 (l.getD (k - 1) 0)) := fun h => hcell (k - 1) (by omega)
      have hki : (k : Int) < (l.length : Int) := by omega
      clear hcell
      generalize hx : l.getD k 0 = x at *
      have Hx := Lib.hid hx
      clear hx
      by_cases c1 : inR x 0 hi = true
      · by_cases c2 : k = 0
        · have C1 := Lib.hid c1
          have C2 := Lib.hid c2
          have g2 : decide (0 < k) = false := by simp [c2]
          clear c1 c2 hc1
          go_wp2_with fail
          go_quiet ((go_at_call 120; first | exact quiet_add_left (l00In_yes _ _ _ _ C1.out) | exact quiet_left (l00In_yes _ _ _ _ C1.out)))
          go_wp2
          go_roundw
          case rel => exact ⟨k + 1, by omega, by go_num, ⟨_, rfl⟩, fun i hi => by
            obtain rfl : i = k := by have := C2.out; omega
            rw [Hx.out, C1.out, C2.out]; rfl⟩
          case measure => simp [intOf]; omega
        · have C1 := Lib.hid c1
          have C2 := Lib.hid c2
          have g2 : decide (0 < k) = true := by simp; omega
          have hc2 := hc1 (by omega)
          have hkk : ((k : Int) - 1).toNat = k - 1 := by omega
          have hkl : 0 ≤ (k : Int) - 1 := by omega
          have hwr : IntKind.i64.wrap ((k : Int) - 1) = (k : Int) - 1 := IntWalk.i64_in _ (by omega)
          clear c1 c2 hc1
          generalize hy : l.getD (k - 1) 0 = y at *
          have Hy := Lib.hid hy
          clear hy
          by_cases c3 : y < x
          · have C3 := Lib.hid c3
            have g3 : decide (x ≤ y) = false := by simp; omega
            clear c3
            go_wp2_with fail
            go_quiet ((go_at_call 120; first | exact quiet_add_left (l00In_yes _ _ _ _ C1.out) | exact quiet_left (l00In_yes _ _ _ _ C1.out)))
            clear hwr
            go_wp2
            go_roundw
            case rel => exact ⟨k + 1, by omega, by go_num, ⟨_, rfl⟩, fun i hi => by
              rcases Nat.lt_or_ge i k with h | h
              · exact HA.out i h
              · obtain rfl : i = k := by omega
                rw [Hx.out, Hy.out, C1.out]; simp [C3.out]⟩
            case measure => simp [intOf]; omega
          · have C3 := Lib.hid c3
            have g3 : decide (x ≤ y) = true := by simp; omega
            clear c3
            go_wp2_with fail
            go_quiet ((go_at_call 120; first | exact quiet_add_left (l00In_yes _ _ _ _ C1.out) | exact quiet_left (l00In_yes _ _ _ _ C1.out)))
            clear hwr
            go_wp2
            go_ret
            exact ⟨ret_bool (by unfold risesOk; rw [allB_false k hlt (by rw [Hx.out, Hy.out]; simp [C3.out, C2.out])]), _, World.drewN_drewN ..⟩
      · have c1' : inR x 0 hi = false := by simpa using c1
        have C1 := Lib.hid c1'
        clear c1 c1' hc1
        go_wp2_with fail
        go_quiet ((go_at_call 120; first | exact quiet_add_left (l00In_no _ _ _ _ C1.out) | exact quiet_left (l00In_no _ _ _ _ C1.out)))
        go_wp2
        go_ret
        exact ⟨ret_bool (by unfold risesOk; rw [allB_false k hlt (by rw [Hx.out, C1.out]; rfl)]), _, World.drewN_drewN ..⟩
    · go_wp2
      go_ret
      exact ⟨ret_bool (by unfold risesOk; rw [allB_true fun i hi => HA.out i (by omega)]), m, rfl⟩
end Go.Proofs.Ytoemoifeiigkoaa
