import Derived.Test.YthidgjdjijjkoaaDoorDText
import Derived.WalkSmall
namespace Go.Proofs.YthidgjdjijjkoaaDoor
open Go.RowKit

/-- The binary digits of a number. -/
def binL (n : Nat) : List UInt8 := if h : n < 2 then [UInt8.ofNat (48 + n)] else binL (n / 2) ++ [UInt8.ofNat (48 + n % 2)]
termination_by n
decreasing_by omega
theorem binL_lt {n : Nat} (h : n < 2) : binL n = [UInt8.ofNat (48 + n)] := by rw [binL, dif_pos h]
theorem binL_ge {n : Nat} (h : ¬ n < 2) : binL n = binL (n / 2) ++ [UInt8.ofNat (48 + n % 2)] := by rw [binL, dif_neg h]

def deB64 : List Int := [0, 1, 56, 2, 57, 49, 28, 3, 61, 58, 42, 50, 38, 29, 17, 4, 62, 47, 59, 36, 45, 43, 51, 22, 53, 39, 33, 30, 24, 18, 12, 5, 63, 55, 48, 27, 60, 41, 37, 16, 46, 35, 44, 21, 52, 32, 23, 11, 54, 26, 40, 15, 34, 20, 31, 10, 25, 14, 19, 9, 13, 8, 7, 6]
theorem tz_two (w : World) (htab : Lib.TabIs Tryd.prog w "math/bits.deBruijn64tab" .u8 deB64) :
    Calls Tryd.prog 58 #[.int .u64 2] w fun e w' => e = .returned (.int .i64 1) ∧ w = w' := by
  have hc0 := htab.cell (g := 2) (by kernel_rfl) 1 (by decide)
  have hc : w.cell? ⟨2, 1, none⟩ = some (.int .u8 1) := hc0
  clear hc0
  have e1 : IntKind.u64.wrap (-2) = 18446744073709551614 := by decide
  have e2 : bits BinOp.and IntKind.u64 2 18446744073709551614 = 2 := by decide
  have e3 : IntKind.u64.wrap (2 * 285870213051353865) = 571740426102707730 := by decide
  clear htab
  go_enter Tryd.func58, Tryd.ntmps58
  go_wp2
  go_ret
  exact ⟨rfl, rfl⟩

theorem pow2_two (w : World) : Calls Tryd.prog 57 #[.int .i64 2] w fun e w' => e = .returned (.bool true) ∧ w = w' := by
  have e2 : bits BinOp.and IntKind.i64 2 1 = 0 := by decide
  go_enter Tryd.func57, Tryd.ntmps57
  go_wp2
  go_ret
  exact ⟨rfl, rfl⟩

theorem convL (L : List UInt8) (b p n c : Nat) (W : World) (hn : n = L.length) (h : ∀ t (ht : t < L.length), W.cell? ⟨b, p + t, none⟩ = some (.int .u8 (L[t].toNat : Int))) :
    (convert 63 9 (.slice (some ⟨b, p, none⟩) n c)).run Tryd.prog W = .ok (.string ⟨L.toArray⟩) W := by
  subst hn
  exact run_convert_bytes_back (P := Tryd.prog) W 63 9 5 ⟨b, p, none⟩ c L Tryd.underlying63 Tryd.underlying5 Tryd.underlying9 (fun j hj => by
    have e : (⟨b, p, none⟩ : Addr).add j = ⟨b, p + j, none⟩ := by unfold Addr.add; split <;> simp_all
    rw [e]; exact h j hj)
set_option maxRecDepth 100000 in
set_option maxHeartbeats 1000000 in
theorem formatBits_two (n : Nat) (hn : n < 1152921504606846976) (w : World) (htab : Lib.TabIs Tryd.prog w "math/bits.deBruijn64tab" .u8 deB64) :
    Calls Tryd.prog 52 #[.slice none 0 0, .int .u64 n, .int .i64 2, .bool false, .bool false] w fun e w' => e = .returned (.tuple #[.slice none 0 0, .string ⟨(binL n).toArray⟩]) ∧ Below w.heap.size w w' := by
  have HT := Lib.hid htab
  clear htab
  go_enter Tryd.func52, Tryd.ntmps52
  go_wp2_with fail
  refine (pow2_two _).mono ?_
  rintro e w' ⟨rfl, rfl⟩
  go_wp2_with fail
  refine (tz_two _ (tab_below HT.out ((Below.refl _ _).alloc (Nat.le_refl _) _))).mono ?_
  rintro e w' ⟨rfl, rfl⟩
  go_wp2_with fail
  go_loopw [1, 13] (fun u i wr => ∃ (m : Nat) (S : List UInt8) (arr : Array Value), u = .int .u64 m ∧ i = .int .i64 (65 - (S.length : Int)) ∧ m < 2 ^ (60 - S.length) ∧ S.length ≤ 60 ∧ Hid (binL n = binL m ++ S) ∧ arr.size = 65 ∧ Hid (∀ t (h : t < S.length), arr[65 - S.length + t]? = some (.int .u8 (S[t].toNat : Int))) ∧ wr = w.alloc (.cells arr 91)) (fun u _ _ => (intOf u).toNat)
  case atStart => exact ⟨n, [], Tryd.zeroCells91, rfl, rfl, hn, by simp, by simp [Hid], by kernel_rfl, fun t h => absurd h (by simp), rfl⟩
  case round =>
    obtain ⟨m, S, arr, rfl, rfl, hm, hS, hbin, hsz, harr, rfl⟩ := hrel
    by_cases c : 2 ≤ m
    · have c' : (2 : Int) ≤ m := by omega
      have hS58 : S.length ≤ 58 := by
        rcases Nat.lt_or_ge S.length 59 with h | h
        · omega
        · have : 60 - S.length ≤ 1 := by omega
          have := Nat.pow_le_pow_right (show 0 < 2 by omega) this
          omega
      obtain ⟨p, hp⟩ : ∃ p : Nat, 65 - (S.length : Int) - 1 = (p : Int) := ⟨64 - S.length, by omega⟩
      have hwi : IntKind.i64.wrap (65 - (S.length : Int) - 1) = (p : Int) := by rw [hp]; exact IntWalk.i64_in _ (by omega)
      have hp65 : p < 65 := by omega
      have hpa : p < arr.size := by omega
      have hpi : (p : Int) < 65 := by omega
      have HP := Lib.hid hp
      obtain ⟨d, hd⟩ : ∃ d : Nat, m % 2 = d := ⟨_, rfl⟩
      have hd2 : d = 0 ∨ d = 1 := by omega
      have hand : bits BinOp.and IntKind.u64 (m : Int) 1 = (d : Int) := by rw [and_one_u64 _ (by omega) (by have := Nat.pow_le_pow_right (show 0 < 2 by omega) (show 60 - S.length ≤ 60 by omega); omega)]; omega
      have Hd := Lib.hid hd
      clear hp hd
      have hmp : m < 2 ^ (60 - S.length - 1) * 2 := by
        have e : 60 - S.length = (60 - S.length - 1) + 1 := by omega
        rw [e, Nat.pow_succ] at hm; exact hm
      have Hmp := Lib.hid hmp
      have Hsz := Lib.hid hsz
      have HS58 := Lib.hid hS58
      clear hmp hm
      rcases hd2 with rfl | rfl
      all_goals
        go_wp2_with fail
        have hp' := HP.out
        have hL := HS58.out
        have hz := Hsz.out
        refine ⟨⟨m / 2, UInt8.ofNat (48 + m % 2) :: S, arr.setIfInBounds p (.int .u8 ((UInt8.ofNat (48 + m % 2)).toNat : Int)), ?_, ?_, ?_, ?_, ?_, ?_, ?_, ?_⟩, ?_⟩
        · rw [show ((m / 2 : Nat) : Int) = (m : Int) / 2 by omega]
        · simp only [List.length_cons]; congr 1; omega
        · have := Hmp.out
          simp only [List.length_cons]
          rw [show 60 - (S.length + 1) = 60 - S.length - 1 by omega]; omega
        · simp only [List.length_cons]; omega
        · show binL n = _
          rw [hbin.out, binL_ge (show ¬ m < 2 by omega)]; simp
        · simp [hz]
        · intro t ht
          simp only [List.length_cons] at ht ⊢
          cases t with
          | zero =>
            rw [show 65 - (S.length + 1) + 0 = p by omega, Array.getElem?_setIfInBounds_self_of_lt (by omega)]
            simp
          | succ t =>
            rw [show 65 - (S.length + 1) + (t + 1) = 65 - S.length + t by omega, Array.getElem?_setIfInBounds_ne (by omega), harr.out t (by omega)]
            simp
        · rw [Hd.out]; rfl
        · simp [intOf]; omega
    · have hbm : binL m = [UInt8.ofNat (48 + m)] := binL_lt (by omega)
      have c' : ¬ ((2 : Int) ≤ m) := by omega
      obtain ⟨p, hp⟩ : ∃ p : Nat, 65 - (S.length : Int) - 1 = (p : Int) := ⟨64 - S.length, by omega⟩
      have hwi : IntKind.i64.wrap (65 - (S.length : Int) - 1) = (p : Int) := by rw [hp]; exact IntWalk.i64_in _ (by omega)
      have hp65 : p < 65 := by omega
      have hp65' : p ≤ 65 := by omega
      have hpa : p < arr.size := by omega
      have hpi : (p : Int) < 65 := by omega
      have hpi' : (p : Int) ≤ 65 := by omega
      have HP := Lib.hid hp
      have Hsz := Lib.hid hsz
      have Hbm := Lib.hid hbm
      have hm2 : m = 0 ∨ m = 1 := by omega
      clear hp hm hbm
      rcases hm2 with rfl | rfl
      all_goals
        go_wp2_with fail
        have hp' := HP.out
        have hz := Hsz.out
      · rw [convL (UInt8.ofNat (48 + 0) :: S) w.heap.size p _ _ _ (by simp only [List.length_cons]; omega) ?_]
        · go_wp2_with fail
          go_ret2
          refine ⟨?_, (by repeat (first | exact Below.refl _ _ | (refine Below.alloc ?_ (by first | omega | (simp; done) | (simp; omega)) _) | refine below_drewN ?_ _ | refine Below.drew ?_))⟩
          rw [hbin.out, Hbm.out]; rfl
        · intro t ht
          simp only [List.length_cons] at ht
          rw [World.cell?_alloc_mark]
          cases t with
          | zero => exact Array.getElem?_setIfInBounds_self_of_lt (by omega)
          | succ t => rw [Array.getElem?_setIfInBounds_ne (by omega), show p + (t + 1) = 65 - S.length + t by omega, harr.out t (by omega)]; rfl
      · rw [convL (UInt8.ofNat (48 + 1) :: S) w.heap.size p _ _ _ (by simp only [List.length_cons]; omega) ?_]
        · go_wp2_with fail
          go_ret2
          refine ⟨?_, (by repeat (first | exact Below.refl _ _ | (refine Below.alloc ?_ (by first | omega | (simp; done) | (simp; omega)) _) | refine below_drewN ?_ _ | refine Below.drew ?_))⟩
          rw [hbin.out, Hbm.out]; rfl
        · intro t ht
          simp only [List.length_cons] at ht
          rw [World.cell?_alloc_mark]
          cases t with
          | zero => exact Array.getElem?_setIfInBounds_self_of_lt (by omega)
          | succ t => rw [Array.getElem?_setIfInBounds_ne (by omega), show p + (t + 1) = 65 - S.length + t by omega, harr.out t (by omega)]; rfl

set_option maxRecDepth 100000 in
theorem formatIntI_two (n : Nat) (hn : n < 1152921504606846976) (w : World) (htab : Lib.TabIs Tryd.prog w "math/bits.deBruijn64tab" .u8 deB64) :
    Calls Tryd.prog 44 #[.int .i64 n, .int .i64 2] w fun e w' => e = .returned (.string ⟨(binL n).toArray⟩) ∧ Below w.heap.size w w' := by
  have HT := Lib.hid htab
  have hw : IntKind.u64.wrap (n : Int) = (n : Int) := IntWalk.u64_in _ (by omega)
  have h0 : ¬ ((n : Int) < 0) := by omega
  clear htab
  go_enter Tryd.func44, Tryd.ntmps44
  go_wp2_with fail
  refine (formatBits_two n hn _ HT.out).mono ?_
  rintro e w1 ⟨rfl, hb1⟩
  go_wp2_with fail
  go_ret
  exact ⟨rfl, hb1⟩
theorem formatInt_two (n : Nat) (hn : n < 1152921504606846976) (w : World) (htab : Lib.TabIs Tryd.prog w "math/bits.deBruijn64tab" .u8 deB64) :
    Calls Tryd.prog 35 #[.int .i64 n, .int .i64 2] w fun e w' => e = .returned (.string ⟨(binL n).toArray⟩) ∧ Below w.heap.size w w' := by
  have HT := Lib.hid htab
  clear htab
  go_enter Tryd.func35, Tryd.ntmps35
  go_wp2_with fail
  refine (formatIntI_two n hn _ HT.out).mono ?_
  rintro e w1 ⟨rfl, hb1⟩
  go_wp2_with fail
  go_ret
  exact ⟨rfl, hb1⟩
end Go.Proofs.YthidgjdjijjkoaaDoor
