import Derived.Test.YtfapnipmgmpgaaaGreatDoorM7
import Derived.WalkSmall
import Derived.Test.YtfapnipmgmpgaaaGreatDoorM3
import Derived.Lib.OthersKept
import Derived.Deep.CutRange
import Derived.Deep.DeepCutAuto
import Derived.WalkArith
import Derived.Test.YtfapnipmgmpgaaaGreatDoorM6
import Derived.Test.YtfapnipmgmpgaaaGreatDoorM2
namespace Go.Proofs.YtfapnipmgmpgaaaGreatDoor
open Go.RowKit

/-- The binary digits of a number. -/
def binL (n : Nat) : List UInt8 := if h : n < 2 then [UInt8.ofNat (48 + n)] else binL (n / 2) ++ [UInt8.ofNat (48 + n % 2)]
termination_by n
decreasing_by omega
theorem binL_lt {n : Nat} (h : n < 2) : binL n = [UInt8.ofNat (48 + n)] := by rw [binL, dif_pos h]
theorem binL_ge {n : Nat} (h : ¬ n < 2) : binL n = binL (n / 2) ++ [UInt8.ofNat (48 + n % 2)] := by rw [binL, dif_neg h]

def deB64 : List Int := [0, 1, 56, 2, 57, 49, 28, 3, 61, 58, 42, 50, 38, 29, 17, 4, 62, 47, 59, 36, 45, 43, 51, 22, 53, 39, 33, 30, 24, 18, 12, 5, 63, 55, 48, 27, 60, 41, 37, 16, 46, 35, 44, 21, 52, 32, 23, 11, 54, 26, 40, 15, 34, 20, 31, 10, 25, 14, 19, 9, 13, 8, 7, 6]
theorem tz_two (w : World) (htab : Lib.TabIs Tryz.prog w "math/bits.deBruijn64tab" .u8 deB64) :
    Calls Tryz.prog 193 #[.int .u64 2] w fun e w' => e = .returned (.int .i64 1) ∧ w = w' := by
  have hc0 := htab.cell (g := 7) (by kernel_rfl) 1 (by decide)
  have hc : w.cell? ⟨7, 1, none⟩ = some (.int .u8 1) := hc0
  clear hc0
  have e1 : IntKind.u64.wrap (-2) = 18446744073709551614 := by decide
  have e2 : bits BinOp.and IntKind.u64 2 18446744073709551614 = 2 := by decide
  have e3 : IntKind.u64.wrap (2 * 285870213051353865) = 571740426102707730 := by decide
  clear htab
  go_enter Tryz.func193, Tryz.ntmps193
  go_wp2
  go_ret
  exact ⟨rfl, rfl⟩

theorem pow2_two (w : World) : Calls Tryz.prog 192 #[.int .i64 2] w fun e w' => e = .returned (.bool true) ∧ w = w' := by
  have e2 : bits BinOp.and IntKind.i64 2 1 = 0 := by decide
  go_enter Tryz.func192, Tryz.ntmps192
  go_wp2
  go_ret
  exact ⟨rfl, rfl⟩

theorem convL (L : List UInt8) (b p n c : Nat) (W : World) (hn : n = L.length) (h : ∀ t (ht : t < L.length), W.cell? ⟨b, p + t, none⟩ = some (.int .u8 (L[t].toNat : Int))) :
    (convert 139 9 (.slice (some ⟨b, p, none⟩) n c)).run Tryz.prog W = .ok (.string ⟨L.toArray⟩) W := by
  subst hn
  exact run_convert_bytes_back (P := Tryz.prog) W 139 9 5 ⟨b, p, none⟩ c L Tryz.underlying139 Tryz.underlying5 Tryz.underlying9 (fun j hj => by
    have e : (⟨b, p, none⟩ : Addr).add j = ⟨b, p + j, none⟩ := by unfold Addr.add; split <;> simp_all
    rw [e]; exact h j hj)
set_option maxRecDepth 100000 in
set_option maxHeartbeats 1000000 in
theorem formatBits_two (n : Nat) (hn : n < 1152921504606846976) (w : World) (htab : Lib.TabIs Tryz.prog w "math/bits.deBruijn64tab" .u8 deB64) :
    Calls Tryz.prog 184 #[.slice none 0 0, .int .u64 n, .int .i64 2, .bool false, .bool false] w fun e w' => e = .returned (.tuple #[.slice none 0 0, .string ⟨(binL n).toArray⟩]) ∧ Below w.heap.size w w' := by
  have HT := Lib.hid htab
  clear htab
  go_enter Tryz.func184, Tryz.ntmps184
  go_wp2_with fail
  refine (pow2_two _).mono ?_
  rintro e w' ⟨rfl, rfl⟩
  go_wp2_with fail
  refine (tz_two _ (tab_below HT.out ((Below.refl _ _).alloc (Nat.le_refl _) _))).mono ?_
  rintro e w' ⟨rfl, rfl⟩
  go_wp2_with fail
  go_loopw [1, 13] (fun u i wr => ∃ (m : Nat) (S : List UInt8) (arr : Array Value), u = .int .u64 m ∧ i = .int .i64 (65 - (S.length : Int)) ∧ m < 2 ^ (60 - S.length) ∧ S.length ≤ 60 ∧ Hid (binL n = binL m ++ S) ∧ arr.size = 65 ∧ Hid (∀ t (h : t < S.length), arr[65 - S.length + t]? = some (.int .u8 (S[t].toNat : Int))) ∧ wr = w.alloc (.cells arr 223)) (fun u _ _ => (intOf u).toNat)
  case atStart => exact ⟨n, [], Tryz.zeroCells223, rfl, rfl, hn, by simp, by simp [Hid], by kernel_rfl, fun t h => absurd h (by simp), rfl⟩
  case round =>
    obtain ⟨m, S, arr, rfl, rfl, hm, hS, hbin, hsz, harr, rfl⟩ := hrel
    by_cases c : 2 ≤ m
    · have c' : (2 : Int) ≤ m := by omega
      have hS58 : S.length ≤ 58 := by
        rcases Nat.lt_or_ge S.length 59 with h | h
        · omega
        · have : 60 - S.length ≤ 1 := by omega
          have := Nat.pow_le_pow_right (show 0 < 2 by omega) this
          omega
      obtain ⟨p, hp⟩ : ∃ p : Nat, 65 - (S.length : Int) - 1 = (p : Int) := ⟨64 - S.length, by omega⟩
      have hwi : IntKind.i64.wrap (65 - (S.length : Int) - 1) = (p : Int) := by rw [hp]; exact IntWalk.i64_in _ (by omega)
      have hp65 : p < 65 := by omega
      have hpa : p < arr.size := by omega
      have hpi : (p : Int) < 65 := by omega
      have HP := Lib.hid hp
      obtain ⟨d, hd⟩ : ∃ d : Nat, m % 2 = d := ⟨_, rfl⟩
      have hd2 : d = 0 ∨ d = 1 := by omega
      have hand : bits BinOp.and IntKind.u64 (m : Int) 1 = (d : Int) := by rw [and_one_u64 _ (by omega) (by have := Nat.pow_le_pow_right (show 0 < 2 by omega) (show 60 - S.length ≤ 60 by omega); omega)]; omega
      have Hd := Lib.hid hd
      clear hp hd
      have hmp : m < 2 ^ (60 - S.length - 1) * 2 := by
        have e : 60 - S.length = (60 - S.length - 1) + 1 := by omega
        rw [e, Nat.pow_succ] at hm; exact hm
      have Hmp := Lib.hid hmp
      have Hsz := Lib.hid hsz
      have HS58 := Lib.hid hS58
      clear hmp hm
      rcases hd2 with rfl | rfl
      all_goals
        go_wp2_with fail
        have hp' := HP.out
        have hL := HS58.out
        have hz := Hsz.out
        refine ⟨⟨m / 2, UInt8.ofNat (48 + m % 2) :: S, arr.setIfInBounds p (.int .u8 ((UInt8.ofNat (48 + m % 2)).toNat : Int)), ?_, ?_, ?_, ?_, ?_, ?_, ?_, ?_⟩, ?_⟩
        · rw [show ((m / 2 : Nat) : Int) = (m : Int) / 2 by omega]
        · simp only [List.length_cons]; congr 1; omega
        · have := Hmp.out
          simp only [List.length_cons]
          rw [show 60 - (S.length + 1) = 60 - S.length - 1 by omega]; omega
        · simp only [List.length_cons]; omega
        · show binL n = _
          rw [hbin.out, binL_ge (show ¬ m < 2 by omega)]; simp
        · simp [hz]
        · intro t ht
          simp only [List.length_cons] at ht ⊢
          cases t with
          | zero =>
            rw [show 65 - (S.length + 1) + 0 = p by omega, Array.getElem?_setIfInBounds_self_of_lt (by omega)]
            simp
          | succ t =>
            rw [show 65 - (S.length + 1) + (t + 1) = 65 - S.length + t by omega, Array.getElem?_setIfInBounds_ne (by omega), harr.out t (by omega)]
            simp
        · rw [Hd.out]; rfl
        · simp [intOf]; omega
    · have hbm : binL m = [UInt8.ofNat (48 + m)] := binL_lt (by omega)
      have c' : ¬ ((2 : Int) ≤ m) := by omega
      obtain ⟨p, hp⟩ : ∃ p : Nat, 65 - (S.length : Int) - 1 = (p : Int) := ⟨64 - S.length, by omega⟩
      have hwi : IntKind.i64.wrap (65 - (S.length : Int) - 1) = (p : Int) := by rw [hp]; exact IntWalk.i64_in _ (by omega)
      have hp65 : p < 65 := by omega
      have hp65' : p ≤ 65 := by omega
      have hpa : p < arr.size := by omega
      have hpi : (p : Int) < 65 := by omega
      have hpi' : (p : Int) ≤ 65 := by omega
      have HP := Lib.hid hp
      have Hsz := Lib.hid hsz
      have Hbm := Lib.hid hbm
      have hm2 : m = 0 ∨ m = 1 := by omega
      clear hp hm hbm
      rcases hm2 with rfl | rfl
      all_goals
        go_wp2_with fail
        have hp' := HP.out
        have hz := Hsz.out
      · rw [convL (UInt8.ofNat (48 + 0) :: S) w.heap.size p _ _ _ (by simp only [List.length_cons]; omega) ?_]
        · go_wp2_with fail
          go_ret2
          refine ⟨?_, (by repeat (first | exact Below.refl _ _ | (refine Below.alloc ?_ (by first | omega | (simp; done) | (simp; omega)) _) | refine below_drewN ?_ _ | refine Below.drew ?_))⟩
          rw [hbin.out, Hbm.out]; rfl
        · intro t ht
          simp only [List.length_cons] at ht
          rw [World.cell?_alloc_mark]
          cases t with
          | zero => exact Array.getElem?_setIfInBounds_self_of_lt (by omega)
          | succ t => rw [Array.getElem?_setIfInBounds_ne (by omega), show p + (t + 1) = 65 - S.length + t by omega, harr.out t (by omega)]; rfl
      · rw [convL (UInt8.ofNat (48 + 1) :: S) w.heap.size p _ _ _ (by simp only [List.length_cons]; omega) ?_]
        · go_wp2_with fail
          go_ret2
          refine ⟨?_, (by repeat (first | exact Below.refl _ _ | (refine Below.alloc ?_ (by first | omega | (simp; done) | (simp; omega)) _) | refine below_drewN ?_ _ | refine Below.drew ?_))⟩
          rw [hbin.out, Hbm.out]; rfl
        · intro t ht
          simp only [List.length_cons] at ht
          rw [World.cell?_alloc_mark]
          cases t with
          | zero => exact Array.getElem?_setIfInBounds_self_of_lt (by omega)
          | succ t => rw [Array.getElem?_setIfInBounds_ne (by omega), show p + (t + 1) = 65 - S.length + t by omega, harr.out t (by omega)]; rfl

set_option maxRecDepth 100000 in
theorem formatIntI_two (n : Nat) (hn : n < 1152921504606846976) (w : World) (htab : Lib.TabIs Tryz.prog w "math/bits.deBruijn64tab" .u8 deB64) :
    Calls Tryz.prog 171 #[.int .i64 n, .int .i64 2] w fun e w' => e = .returned (.string ⟨(binL n).toArray⟩) ∧ Below w.heap.size w w' := by
  have HT := Lib.hid htab
  have hw : IntKind.u64.wrap (n : Int) = (n : Int) := IntWalk.u64_in _ (by omega)
  have h0 : ¬ ((n : Int) < 0) := by omega
  clear htab
  go_enter Tryz.func171, Tryz.ntmps171
  go_wp2_with fail
  refine (formatBits_two n hn _ HT.out).mono ?_
  rintro e w1 ⟨rfl, hb1⟩
  go_wp2_with fail
  go_ret
  exact ⟨rfl, hb1⟩
theorem formatInt_two (n : Nat) (hn : n < 1152921504606846976) (w : World) (htab : Lib.TabIs Tryz.prog w "math/bits.deBruijn64tab" .u8 deB64) :
    Calls Tryz.prog 153 #[.int .i64 n, .int .i64 2] w fun e w' => e = .returned (.string ⟨(binL n).toArray⟩) ∧ Below w.heap.size w w' := by
  have HT := Lib.hid htab
  clear htab
  go_enter Tryz.func153, Tryz.ntmps153
  go_wp2_with fail
  refine (formatIntI_two n hn _ HT.out).mono ?_
  rintro e w1 ⟨rfl, hb1⟩
  go_wp2_with fail
  go_ret
  exact ⟨rfl, hb1⟩
end Go.Proofs.YtfapnipmgmpgaaaGreatDoor

namespace Go.Proofs.YtfapnipmgmpgaaaGreatDoor
open Go.RowKit

/-- An iterator over a string lies in a block. -/
def Iter (W : World) (K : Nat) (s : ByteArray) (pos : Nat) : Prop := W.heap[K]? = some (.stringIter s pos)
theorem Iter.lt {W : World} {K : Nat} {s : ByteArray} {pos : Nat} (h : Iter W K s pos) : K < W.heap.size := (Array.getElem?_eq_some_iff.1 h).1
theorem Iter.up {w w' : World} {K N : Nat} {s : ByteArray} {pos : Nat} (h : Iter w K s pos) (hb : Below N w w') (hlt : K < N) : Iter w' K s pos := (hb.block K hlt).trans h
theorem Iter.not_row {w : World} {K : Nat} {s : ByteArray} {pos : Nat} (h : Iter w K s pos) {base e sz n : Nat} {v : Value} {xs : List Value} (own : w.ownsRow base e sz v n xs) : some K ≠ v.ownBlock := by
  intro he
  rcases own.2 with ⟨hn, _⟩ | ⟨g, cap, cur, rfl, hb, hgg, rest⟩
  · rw [hn] at he; cases he
  · have : g = K := by
      have : some g = some K := he.symm ▸ rfl
      injection this
    subst this
    rw [h] at hgg; cases hgg
theorem Iter.grown {w w' : World} {K base e sz n : Nat} {s : ByteArray} {pos : Nat} {v : Value} {xs : List Value} {o : Obj} (h : Iter w K s pos) (own : w.ownsRow base e sz v n xs) (hg : (w.alloc o).grownBy w' v.ownBlock) : Iter w' K s pos := by
  have h1 : Iter (w.alloc o) K s pos := h.up ((Below.refl w.heap.size w).alloc (Nat.le_refl _) o) h.lt
  exact (hg.block K h1.lt (h.not_row own)).trans h1
theorem Iter.set {w : World} {K B : Nat} {s : ByteArray} {pos : Nat} (h : Iter w K s pos) (hne : K ≠ B) (v : Value) : Iter (w.setCell ⟨B, 0, none⟩ v) K s pos := (heap_setCell_other w ⟨B, 0, none⟩ K v hne).trans h

/-- One digit of the number of times. -/
def powStep (root : Int) (L : List GRule) (d : UInt8) : List GRule := L ++ [pairR ((L.length : Int) - 1) ((L.length : Int) - 1)] ++ (if d = 49 then [pairR (L.length : Int) root] else [])
def powG (xs : List GRule) (n : Nat) : List GRule := if n = 0 ∨ xs.length = 0 then [] else (binL n).tail.foldl (powStep ((xs.length : Int) - 1)) xs
theorem binL_len (n : Nat) : ∀ k, n < 2 ^ k → 1 ≤ k → (binL n).length ≤ k := by
  induction n using Nat.strongRecOn with
  | ind n ih =>
    intro k hk h1
    by_cases c : n < 2
    · rw [binL_lt c]; simpa using h1
    · rw [binL_ge c, List.length_append]
      have hk2 : 2 ≤ k := by
        rcases Nat.lt_or_ge k 2 with h | h
        · have : k = 1 := by omega
          subst this; simp at hk; omega
        · exact h
      obtain ⟨j, rfl⟩ : ∃ j, k = j + 1 := ⟨k - 1, by omega⟩
      rw [Nat.pow_succ] at hk
      have := ih (n / 2) (by omega) j (by omega) (by omega)
      simp; omega
theorem binL_dig (n : Nat) : ∀ d ∈ binL n, d = 48 ∨ d = 49 := by
  induction n using Nat.strongRecOn with
  | ind n ih =>
    by_cases c : n < 2
    · rw [binL_lt c]
      intro d hd
      have : d = UInt8.ofNat (48 + n) := by simpa using hd
      have h2 : n = 0 ∨ n = 1 := by omega
      rcases h2 with rfl | rfl
      · left; rw [this]; rfl
      · right; rw [this]; rfl
    · rw [binL_ge c]
      intro d hd
      rcases List.mem_append.1 hd with h | h
      · exact ih (n / 2) (by omega) d h
      · have : d = UInt8.ofNat (48 + n % 2) := by simpa using h
        have h2 : n % 2 = 0 ∨ n % 2 = 1 := by omega
        rcases h2 with e | e
        · left; rw [this, e]; rfl
        · right; rw [this, e]; rfl
theorem binL_pos (n : Nat) : 1 ≤ (binL n).length := by
  by_cases c : n < 2
  · rw [binL_lt c]; simp
  · rw [binL_ge c]; simp
theorem powStep_len (root : Int) (L : List GRule) (d : UInt8) : (powStep root L d).length ≤ L.length + 2 := by
  unfold powStep; split <;> simp
theorem powFold_len (root : Int) : ∀ (ds : List UInt8) (L : List GRule), (ds.foldl (powStep root) L).length ≤ L.length + 2 * ds.length := by
  intro ds
  induction ds with
  | nil => intro L; simp
  | cons d ds ih =>
    intro L
    have h1 := ih (powStep root L d)
    have h2 := powStep_len root L d
    simp only [List.foldl_cons, List.length_cons]
    omega

theorem SlS.drew1 {α : Type} {E : Enc α} {w : World} {v : Value} {xs : List α} (h : Sl E w w.heap.size v xs) : Sl E w.drew w.drew.heap.size v xs := h.keep fun _ _ => rfl
set_option maxRecDepth 100000 in
set_option maxHeartbeats 4000000 in
theorem power_any (v : Value) (xs : List GRule) (n : Nat) (w : World) (h : Sl RuleE w w.heap.size v xs) (hn : xs.length ≤ 1048576) (ht : n < 1152921504606846976) (htab : Lib.TabIs Tryz.prog w "math/bits.deBruijn64tab" .u8 deB64) :
    Calls Tryz.prog 125 #[.agg #[v], .int .i64 n] w (GOwn (powG xs n) w) := by
  have h1 := fun o o' => (h.below (((Below.refl w.heap.size w).alloc (Nat.le_refl _) o).alloc (by simp) o')).le (B' := ((w.alloc o).alloc o').heap.size) (by simp; omega)
  have H1 := Lib.hid h1
  have HT := Lib.hid htab
  clear h1 htab
  obtain ⟨A, c, rfl, hc, hm, hrow⟩ := h
  clear hm hrow
  by_cases h0 : n = 0 ∨ xs.length = 0
  · have hg : powG xs n = [] := by rw [powG, if_pos h0]
    have Hg := Lib.hid hg
    clear hg
    by_cases hz : n = 0
    · subst hz
      clear h0
      go_enter Tryz.func125, Tryz.ntmps125
      go_wp2_with fail
      refine bodyPost_ret (v := .agg #[.slice none 0 0]) (by simp [results, Tryz.results125, go_sem]) rfl ⟨(by repeat (first | exact Below.refl _ _ | (refine Below.alloc ?_ (by first | omega | (simp; done) | (simp; omega)) _) | refine below_drewN ?_ _ | refine Below.drew ?_)), _, by rw [Hg.out]; exact World.ownsRow_nil _ _ _ _, rfl⟩
    · have hx : xs.length = 0 := by omega
      have g0 : ((n : Int) == 0) = false := by rw [beq_eq_false_iff_ne]; omega
      have g1 : ((xs.length : Int) == 0) = true := by simp [hx]
      clear h0 hx
      go_enter Tryz.func125, Tryz.ntmps125
      go_wp2_with fail
      refine bodyPost_ret (v := .agg #[.slice none 0 0]) (by simp [results, Tryz.results125, go_sem]) rfl ⟨(by repeat (first | exact Below.refl _ _ | (refine Below.alloc ?_ (by first | omega | (simp; done) | (simp; omega)) _) | refine below_drewN ?_ _ | refine Below.drew ?_)), _, by rw [Hg.out]; exact World.ownsRow_nil _ _ _ _, rfl⟩
  · have hg : powG xs n = (binL n).tail.foldl (powStep ((xs.length : Int) - 1)) xs := by rw [powG, if_neg h0]
    have Hg := Lib.hid hg
    have g0 : ((n : Int) == 0) = false := by rw [beq_eq_false_iff_ne]; omega
    have g1 : ((xs.length : Int) == 0) = false := by rw [beq_eq_false_iff_ne]; omega
    have hwx : IntKind.i64.wrap ((xs.length : Int) - 1) = (xs.length : Int) - 1 := IntWalk.i64_in _ (by omega)
    clear hg
    go_enter Tryz.func125, Tryz.ntmps125
    have hW0 : ∃ w0, w0 = (w.alloc (Obj.cells #[Value.slice A xs.length c] 31)).alloc (Obj.cells #[Value.slice none 0 0] 31) := ⟨_, rfl⟩
    obtain ⟨w0, hw0⟩ := hW0
    have HW0 := Lib.hid hw0
    have hs0 : w0.heap.size = w.heap.size + 2 := by rw [hw0]; simp
    have hB0 : Below w.heap.size w w0 := by rw [hw0]; exact (by repeat (first | exact Below.refl _ _ | (refine Below.alloc ?_ (by first | omega | (simp; done) | (simp; omega)) _) | refine below_drewN ?_ _ | refine Below.drew ?_))
    have hS0 : Sl RuleE w0 w0.heap.size (Value.slice A xs.length c) xs := by rw [hw0]; exact H1.out _ _
    have x0 : w0.cell? ⟨w.heap.size, 0, none⟩ = some (.slice A xs.length c) := by rw [hw0]; simp [go_sem]
    have y0 : w0.cell? ⟨w.heap.size + 1, 0, none⟩ = some (.slice none 0 0) := by rw [hw0]; simp [go_sem]
    have f0 : w0.frozen? ⟨w.heap.size + 1, 0, none⟩ = false := by rw [hw0]; simp [go_sem]
    have X0 := Lib.hid x0
    have Y0 := Lib.hid y0
    have F0 := Lib.hid f0
    have HB0 := Lib.hid hB0
    have cB : Calls Tryz.prog 52 #[.agg #[.slice A xs.length c]] w0.drew fun e w' => ∃ A1 c1, e = .returned (.agg #[.slice A1 xs.length c1]) ∧ OwnRules w' w0.heap.size (.slice A1 xs.length c1) xs ∧ Below w0.heap.size w0 w' :=
      (copied_any _ xs w0.drew (hS0.up (Below.drew (Below.refl _ _))) (by omega)).mono fun e w' ⟨v', h1, h2, h3⟩ => by
        obtain ⟨A1, c1, rfl, _⟩ := own_nil h2
        exact ⟨A1, c1, h1, h2, (Below.drew (Below.refl w0.heap.size w0)).trans h3⟩
    have cA : ∀ o, Calls Tryz.prog 52 #[.agg #[.slice A xs.length c]] (w0.alloc o).drew fun e w' => (∃ A1 c1, e = .returned (.agg #[.slice A1 xs.length c1]) ∧ OwnRules w' w0.heap.size (.slice A1 xs.length c1) xs ∧ Below w0.heap.size w0 w') ∧ w'.heap[w0.heap.size]? = some o :=
      fun o => (copied_any _ xs (w0.alloc o).drew ((hS0.up ((Below.refl _ _).alloc (Nat.le_refl _) o)).drew1) (by omega)).mono fun e w' ⟨v', h1, h2, h3⟩ => by
        obtain ⟨A1, c1, rfl, _⟩ := own_nil h2
        have hsz : w0.heap.size < (w0.alloc o).drew.heap.size := by show w0.heap.size < (w0.alloc o).heap.size; simp
        exact ⟨⟨A1, c1, h1, ownsRow_more h2 (Nat.le_of_lt hsz), (Below.drew ((Below.refl w0.heap.size w0).alloc (Nat.le_refl _) o)).trans (h3.mono (Nat.le_of_lt hsz))⟩, (h3.block w0.heap.size hsz).trans (alloc_heap_last _ _)⟩
    have CA := Lib.hid cA
    have CB := Lib.hid cB
    have Hs0 := Lib.hid hs0
    clear cA cB hB0 hS0 hw0 x0 y0 f0 hs0
    go_upto_region 3 with fail
    rw [← HW0.out]
    clear HW0
    go_cut [5, 6] (fun p q wx => ∃ (K : Nat) (vo : Value), p = .pointer (some ⟨K, 0, none⟩) ∧ q = .int .i64 ((xs.length : Int) - 1) ∧ w0.heap.size ≤ K ∧ Boxed wx K 31 vo ∧ OwnRules wx w0.heap.size vo xs ∧ Below w0.heap.size w0 wx)
    case first =>
      have x0 := X0.out
      have z0 : w.heap.size < w0.heap.size := by have := Hs0.out; omega
      go_region_law (go_simp; go_at_call 52; first
          | ((with_reducible refine (CA.out _).mono ?_); rintro e w1 ⟨⟨A1, c1, rfl, own1, hb1⟩, bx1⟩; have bxB : Boxed w1 w0.heap.size 31 (.slice none 0 0) := bx1; have hcb := bxB.cell; have hfb := bxB.frozen; have hlb := bxB.lt; have xx1 := (hb1.cell (p := ⟨w.heap.size, 0, none⟩) z0).trans X0.out; have zz1 := Nat.lt_of_lt_of_le z0 hb1.size)
          | ((with_reducible refine CB.out.mono ?_); rintro e w1 ⟨A1, c1, rfl, own1, hb1⟩; have xx1 := (hb1.cell (p := ⟨w.heap.size, 0, none⟩) z0).trans X0.out; have zz1 := Nat.lt_of_lt_of_le z0 hb1.size))
      all_goals
        go_wp2_with fail
        go_meet
        first
          | exact ⟨_, _, rfl, rfl, hb1.size, Boxed.new _ _ _, own1.alloc _, hb1.alloc hb1.size _⟩
          | exact ⟨_, _, rfl, rfl, Nat.le_refl _, Boxed.set _ bxB, ownsRow_setCell_other (a := ⟨w0.heap.size, 0, none⟩) own1 (bxB.not_row (by decide) own1).symm _, hb1.setCell (Nat.le_refl _) _⟩
    case rest =>
      revert hcut
      generalize wc = w1
      intro hcut
      obtain ⟨K, vo, rfl, rfl, hK, bx1, own1, hb1⟩ := hcut
      have hKl := bx1.lt
      have hxt := binL_len n 60 ht (by omega)
      have HT1 := Lib.hid (tab_below HT.out (HB0.out.trans (hb1.mono HB0.out.size)))
      go_wp2_with fail
      refine (formatInt_two n ht _ HT1.out).mono ?_
      rintro e w2 ⟨rfl, hb2⟩
      have bx2 := Boxed.up bx1 hb2 hKl
      have own2 : OwnRules w2 w0.heap.size vo xs := OwnRules.below own1 hb2
      have B2 := Lib.hid (hb1.trans (hb2.mono hb1.size))
      clear hb1 hb2 bx1 own1
      obtain ⟨BL, hBL⟩ : ∃ BL, binL n = BL := ⟨_, rfl⟩
      have hB1 : 1 ≤ BL.length := by rw [← hBL]; exact binL_pos n
      have hB60 : BL.length ≤ 60 := by rw [← hBL]; exact hxt
      have hdig : ∀ d ∈ BL, d = 48 ∨ d = 49 := by rw [← hBL]; exact binL_dig n
      have HBL := Lib.hid hBL
      rw [hBL]
      clear hBL
      obtain ⟨d0, ds, rfl⟩ : ∃ d0 ds, BL = d0 :: ds := by
        cases BL with
        | nil => simp at hB1
        | cons a l => exact ⟨a, l, rfl⟩
      have Hdig := Lib.hid hdig
      clear hdig hxt
      go_wp2_with fail
      have hex : (⟨(d0 :: ds).toArray⟩ : ByteArray).extract 1 (ds.length + 1) = ⟨ds.toArray⟩ := by
        apply ByteArray.ext
        simp [ByteArray.data_extract]
      rw [hex]
      clear hex
      have hit : Iter (w2.iter ⟨ds.toArray⟩ 0) w2.heap.size ⟨ds.toArray⟩ 0 := World.iter_heap _ _ _
      have hb3 : Below w2.heap.size w2 (w2.iter ⟨ds.toArray⟩ 0) := (Below.refl _ _).alloc (Nat.le_refl _) _
      have bx3 := Boxed.up bx2 hb3 bx2.lt
      have own3 : OwnRules (w2.iter ⟨ds.toArray⟩ 0) w0.heap.size vo xs := OwnRules.below own2 hb3
      have hK2 : K < w2.heap.size := bx2.lt
      have B3 := Lib.hid (B2.out.trans (hb3.mono B2.out.size))
      have hw02 : w0.heap.size ≤ w2.heap.size := B2.out.size
      clear hb3 bx2 own2
      revert hit bx3 own3 B3
      generalize w2.iter ⟨ds.toArray⟩ 0 = w3
      intro hit bx3 own3 B3
      obtain ⟨I, hI⟩ : ∃ I, w2.heap.size = I := ⟨_, rfl⟩
      rw [hI] at hit hK2 hw02
      rw [hI]
      clear hI
      have hdl : ds.length ≤ 60 := by simp at hB60; omega
      go_loopw [9] (fun q wr => ∃ (k : Nat) (vo : Value), k ≤ ds.length ∧ Iter wr I ⟨ds.toArray⟩ k ∧ Boxed wr K 31 vo ∧ OwnRules wr w0.heap.size vo ((ds.take k).foldl (powStep ((xs.length : Int) - 1)) xs) ∧ Below w0.heap.size w0 wr) (fun _ wr => ds.length - (match wr.heap[I]? with | some (.stringIter _ p) => p | _ => 0))
      case atStart => exact ⟨0, vo, Nat.zero_le _, hit, bx3, by simpa using own3, B3.out⟩
      case round =>
        obtain ⟨k, vo, hk, hit, hbox, hown, hb⟩ := hrel
        have Hb := Lib.hid hb
        have Hown := Lib.hid hown
        have Hbox := Lib.hid hbox
        have Hit := Lib.hid hit
        have hll := powFold_len ((xs.length : Int) - 1) (ds.take k) xs
        obtain ⟨L, hL⟩ : ∃ L, (ds.take k).foldl (powStep ((xs.length : Int) - 1)) xs = L := ⟨_, rfl⟩
        have HL := Lib.hid hL
        have hlen : L.length ≤ 2000000 := by rw [← hL]; simp at hll; omega
        rw [hL] at Hown
        clear hb hown hbox hit hll hL
        by_cases hlt : k < ds.length
        · have Hlt := Lib.hid hlt
          have hsz : k < (⟨ds.toArray⟩ : ByteArray).size := by show k < ds.toArray.size; simpa using hlt
          have hdk : (⟨ds.toArray⟩ : ByteArray)[k]'hsz = ds[k] := rfl
          have hd := Hdig.out ds[k] (by simp)
          have hnx := fun ty => Lib.run_next_ascii_at (P := Tryz.prog) wr I ⟨ds.toArray⟩ k ty Hit.out hsz (by rw [hdk]; rcases hd with h | h <;> rw [h] <;> decide)
          rw [hdk] at hnx
          have hii := Lib.iterAt_heap wr I ⟨ds.toArray⟩ k (k + 1) Hit.out
          have hio := fun j hj => Lib.iterAt_other wr I j ⟨ds.toArray⟩ (k + 1) hj
          have his := Lib.iterAt_size wr I ⟨ds.toArray⟩ (k + 1)
          have hbi := Lib.below_iterAt Hb.out (k := I) hw02 ⟨ds.toArray⟩ (k + 1)
          obtain ⟨wi, hwi⟩ : ∃ wi, wr.iterAt I ⟨ds.toArray⟩ (k + 1) = wi := ⟨_, rfl⟩
          simp only [hwi] at hnx hii hio his hbi
          have Bi := Lib.hid hbi
          have Iti := Lib.hid (show Iter wi I ⟨ds.toArray⟩ (k + 1) from hii)
          have Bxi := Lib.hid (show Boxed wi K 31 vo from (hio K (by omega)).trans Hbox.out)
          have Owi := Lib.hid (show OwnRules wi w0.heap.size vo L from own_keep Hown.out fun g hg => hio g fun e => by
            have := Hit.out.not_row Hown.out
            rw [hg, e] at this; exact this rfl)
          obtain ⟨D, hD⟩ : ∃ D, ds[k] = D := ⟨_, rfl⟩
          rw [hD] at hnx hd
          have HD := Lib.hid hD
          obtain ⟨Ao, co, rfl, _⟩ := own_nil Owi.out
          have bxc := Bxi.out.cell
          have bxf := Bxi.out.frozen
          clear hwi hii hio his hbi hdk hD
          have hw1 : IntKind.i64.wrap ((L.length : Int) - 1) = (L.length : Int) - 1 := IntWalk.i64_in _ (by omega)
          have Hll : Hid (L.length ≤ 1099511627775) := by rw [Hid]; omega
          have Hw0 := Lib.hid (show w0.heap.size ≤ wi.heap.size from Bi.out.size)
          have HKw := Lib.hid (show K < wi.heap.size from Bxi.out.lt)
          have HIw := Lib.hid (show I < wi.heap.size from Iti.out.lt)
          have Hlen := Lib.hid hlen
          clear hlen
          go_upto_region 8 with fail
          go_cut [9] from 29 to 54 (fun q wx => q = .int .i64 L.length ∧ ∃ vo : Value, Iter wx I ⟨ds.toArray⟩ (k + 1) ∧ Boxed wx K 31 vo ∧ OwnRules wx w0.heap.size vo (L ++ [pairR ((L.length : Int) - 1) ((L.length : Int) - 1)]) ∧ Below w0.heap.size w0 wx)
          case first =>
            go_region_law (first
              | (refine step_push_rule (base := w0.heap.size) (by rfl) _ _ (by rfl) (by rfl) (by first | rfl | simp) rfl (OwnRules.below Owi.out.drew hb2) Hll hs2 ?_; intro v3 w3 own3 hg3 hb3; have bx4 : Boxed w3 K 31 _ := Boxed.grown (Boxed.up (Boxed.mk' Bxi.out) hb2 HKw.out) (by decide) (OwnRules.below Owi.out.drew hb2) hg3; have it4 : Iter w3 I ⟨ds.toArray⟩ (k + 1) := Iter.grown (Iter.up (w := wi.drew) Iti.out hb2 HIw.out) (OwnRules.below Owi.out.drew hb2) hg3; obtain ⟨A3, c3, rfl, _⟩ := own_nil own3; have hcb3 := bx4.cell; have hfb3 := bx4.frozen; have hlb3 := bx4.lt)
              | (go_simp; go_at_call 152; refine (pairInt_any _ _ _).mono ?_; rintro e w4 ⟨rfl, hb2⟩; have bx2 := Boxed.up (Boxed.mk' Bxi.out) hb2 HKw.out; have hcb2 := bx2.cell; have hfb2 := bx2.frozen; have hlb2 := bx2.lt; have hs2 : w0.heap.size ≤ w4.heap.size := Nat.le_trans Hw0.out hb2.size))
            all_goals
              go_wp2_with fail
              go_meet
              try rw [hw1] at own3
              have e9 : (L ++ [pairR ((L.length : Int) - 1) ((L.length : Int) - 1)]).length = L.length + 1 := by simp
              have own9 : OwnRules w3 w0.heap.size (.slice A3 (L.length + 1) c3) (L ++ [pairR ((L.length : Int) - 1) ((L.length : Int) - 1)]) := by rw [← e9]; exact own3
              refine ⟨rfl, _, it4.set (by omega) _, Boxed.set _ bx4, ownsRow_setCell_other (a := ⟨K, 0, none⟩) own9 (bx4.not_row (by decide) own9).symm _, ?_⟩
              exact ((((Below.drew Bi.out).trans (hb2.mono Hw0.out)).alloc hs2 _).trans hb3).setCell hK _
          case rest =>
            revert hcut
            generalize wc = w5
            intro hcut
            obtain ⟨rfl, vo5, it5, bx5, own5, b5⟩ := hcut
            have It5 := Lib.hid it5
            have Bx5 := Lib.hid bx5
            have B5 := Lib.hid b5
            obtain ⟨M, hM⟩ : ∃ M, L ++ [pairR ((L.length : Int) - 1) ((L.length : Int) - 1)] = M := ⟨_, rfl⟩
            rw [hM] at own5
            have hMl : M.length = L.length + 1 := by rw [← hM]; simp
            have HM := Lib.hid hM
            have Ow5 := Lib.hid own5
            obtain ⟨A5, c5, rfl, _⟩ := own_nil own5
            have bxc5 := bx5.cell
            have bxf5 := bx5.frozen
            clear hM it5 bx5 b5 own5
            have Hstep : Hid ((ds.take (k + 1)).foldl (powStep ((xs.length : Int) - 1)) xs = powStep ((xs.length : Int) - 1) L D) := by
              rw [Hid, List.take_add_one, List.getElem?_eq_getElem hlt, List.foldl_append, HL.out, HD.out]; rfl
            rcases hd with rfl | rfl
            · go_wp2_with fail
              have e : powStep ((xs.length : Int) - 1) L 48 = M := by rw [← HM.out]; simp [powStep]
              refine ⟨⟨k + 1, _, by omega, It5.out, Bx5.out, ?_, B5.out⟩, ?_⟩
              · rw [Hstep.out, e]; exact Ow5.out
              · have i1 : w5.heap[I]? = some (.stringIter ⟨ds.toArray⟩ (k + 1)) := It5.out
                have i2 : wr.heap[I]? = some (.stringIter ⟨ds.toArray⟩ k) := Hit.out
                rw [i1, i2]
                show ds.length - (k + 1) < ds.length - k
                have := Hlt.out; omega
            · have Hw5 := Lib.hid (show w0.heap.size ≤ w5.heap.size from B5.out.size)
              have HK5 := Lib.hid (show K < w5.heap.size from Bx5.out.lt)
              have HI5 := Lib.hid (show I < w5.heap.size from It5.out.lt)
              have Hml : Hid (M.length ≤ 1099511627775) := by rw [Hid]; have := Hlen.out; omega
              have HMl := Lib.hid hMl
              clear hMl
              go_wp2_with fail
              go_region_law (first
                | (refine step_push_rule (base := w0.heap.size) (by rfl) _ _ (by rfl) (by rfl) (by first | rfl | simp) rfl (OwnRules.below Ow5.out.drew hb6) Hml hs6 ?_; intro v7 w7 own7 hg7 hb7; have bx7 : Boxed w7 K 31 _ := Boxed.grown (Boxed.up (Boxed.mk' Bx5.out) hb6 HK5.out) (by decide) (OwnRules.below Ow5.out.drew hb6) hg7; have it7 : Iter w7 I ⟨ds.toArray⟩ (k + 1) := Iter.grown (Iter.up (w := w5.drew) It5.out hb6 HI5.out) (OwnRules.below Ow5.out.drew hb6) hg7; obtain ⟨A7, c7, rfl, _⟩ := own_nil own7; have hcb7 := bx7.cell; have hfb7 := bx7.frozen; have hlb7 := bx7.lt)
                | (go_simp; go_at_call 152; refine (pairInt_any _ _ _).mono ?_; rintro e w6 ⟨rfl, hb6⟩; have bx6 := Boxed.up (Boxed.mk' Bx5.out) hb6 HK5.out; have hcb6 := bx6.cell; have hfb6 := bx6.frozen; have hlb6 := bx6.lt; have hs6 : w0.heap.size ≤ w6.heap.size := Nat.le_trans Hw5.out hb6.size))
              all_goals
                go_wp2_with fail
                have e : powStep ((xs.length : Int) - 1) L 49 = M ++ [pairR (L.length : Int) ((xs.length : Int) - 1)] := by rw [← HM.out]; simp [powStep]
                have e9 : (M ++ [pairR (L.length : Int) ((xs.length : Int) - 1)]).length = M.length + 1 := by simp
                have own9 : OwnRules w7 w0.heap.size (.slice A7 (M.length + 1) c7) (M ++ [pairR (L.length : Int) ((xs.length : Int) - 1)]) := by rw [← e9]; exact own7
                have it9 := it7.set (B := K) (by omega) (.slice A7 (M.length + 1) c7)
                refine ⟨⟨k + 1, _, by have := Hlt.out; omega, it9, Boxed.set _ bx7, ?_, ?_⟩, ?_⟩
                · rw [Hstep.out, e]; exact ownsRow_setCell_other (a := ⟨K, 0, none⟩) own9 (bx7.not_row (by decide) own9).symm _
                · exact ((((Below.drew B5.out).trans (hb6.mono Hw5.out)).alloc hs6 _).trans hb7).setCell hK _
                · have i1 : (w7.setCell ⟨K, 0, none⟩ (.slice A7 (M.length + 1) c7)).heap[I]? = some (.stringIter ⟨ds.toArray⟩ (k + 1)) := it9
                  have i2 : wr.heap[I]? = some (.stringIter ⟨ds.toArray⟩ k) := Hit.out
                  rw [i1, i2]
                  show ds.length - (k + 1) < ds.length - k
                  have := Hlt.out; omega
        · have hkn : k = ds.length := by omega
          subst hkn
          have hsz : ¬ ds.length < (⟨ds.toArray⟩ : ByteArray).size := by show ¬ ds.length < ds.toArray.size; simp
          have hnx := fun ty => Lib.run_next_end_at (P := Tryz.prog) wr I ⟨ds.toArray⟩ ds.length ty Hit.out hsz
          obtain ⟨Ao, co, rfl, _⟩ := own_nil Hown.out
          have bxc := Hbox.out.cell
          have y0 := (Hb.out.cell (p := ⟨w.heap.size + 1, 0, none⟩) (by have := Hs0.out; show w.heap.size + 1 < _; omega)).trans Y0.out
          have f0 := (Hb.out.frozen (p := ⟨w.heap.size + 1, 0, none⟩) (by have := Hs0.out; show w.heap.size + 1 < _; omega)).trans F0.out
          have HL' : Hid (powG xs n = L) := by rw [Hid, Hg.out, HBL.out, List.tail_cons, ← HL.out, List.take_length]
          clear hlen hlt hsz
          go_wp2_with fail
          refine bodyPost_ret (v := .agg #[.slice Ao L.length co]) (by simp [results, Tryz.results125, go_sem, y0]) rfl ⟨?_, _, ?_, rfl⟩
          · exact (HB0.out.trans (Hb.out.mono HB0.out.size)).setCell (by show w.heap.size ≤ w.heap.size + 1; omega) _
          · rw [HL'.out]
            have h6 := ownsRow_setCell_below (a := ⟨w.heap.size + 1, 0, none⟩) Hown.out (by have := Hs0.out; show w.heap.size + 1 < w0.heap.size; omega) (.slice Ao L.length co)
            exact ownsRow_more h6 HB0.out.size
end Go.Proofs.YtfapnipmgmpgaaaGreatDoor

namespace Go.Proofs.YtfapnipmgmpgaaaGreatDoor
open Go.RowKit

def inB (n a b : Int) : Bool := decide (a ≤ n) && decide (n ≤ b)
theorem withinY (n a b : Int) (r : Bool) (w : World) (h : inB n a b = r) : Calls Tryz.prog 63 #[.int .i64 n, .int .i64 a, .int .i64 b] w fun e w' => e = .returned (.bool r) ∧ w = w' :=
  (within_any n a b w).mono fun _ _ ⟨he, hw⟩ => ⟨by rw [he, ← h]; rfl, hw⟩
theorem l00InY (n a b : Int) (r : Bool) (w : World) (h : inB n a b = r) : Calls Tryz.prog 62 #[.int .i64 n, .int .i64 a, .int .i64 b] w fun e w' => e = .returned (.bool r) ∧ w = w' :=
  (l00In_any n a b w).mono fun _ _ ⟨he, hw⟩ => ⟨by rw [he, ← h]; rfl, hw⟩
/-- What PowerGrammar answers. -/
def powOut (xs : List GRule) (t : Int) : List GRule := if gramOk xs && inB t 0 1000000000000000 then limOut (powG xs t.toNat) else []
def powCode (xs : List GRule) (t : Int) : Int := if gramOk xs then if inB t 0 1000000000000000 then limCode (powG xs t.toNat) else 2 else 1
theorem powG_len (xs : List GRule) (n : Nat) (h : n < 1152921504606846976) : (powG xs n).length ≤ xs.length + 120 := by
  unfold powG
  split
  · simp
  · have h1 := powFold_len ((xs.length : Int) - 1) (binL n).tail xs
    have h2 := binL_len n 60 h (by omega)
    have h3 : (binL n).tail.length ≤ 60 := by simp; omega
    omega

set_option maxRecDepth 100000 in
set_option maxHeartbeats 1000000 in
theorem implPower_any (v : Value) (xs : List GRule) (t : Int) (w : World) (h : Sl RuleE w w.heap.size v xs) (hn : xs.length ≤ 1048576) (htab : Lib.TabIs Tryz.prog w "math/bits.deBruijn64tab" .u8 deB64) :
    Calls Tryz.prog 95 #[.agg #[v], .int .i64 t] w (GRes (powOut xs t) (powCode xs t) w) := by
  have h1 := fun o o' => (h.below (((Below.refl w.heap.size w).alloc (Nat.le_refl _) o).alloc (by simp) o')).le (B' := ((w.alloc o).alloc o').heap.size) (by simp; omega)
  have H1 := Lib.hid h1
  have HT := Lib.hid htab
  clear h1 htab
  obtain ⟨A, c, rfl, hc, hm, hrow⟩ := h
  clear hm hrow
  go_enter Tryz.func95, Tryz.ntmps95
  go_wp2_with fail
  refine (ValidGrammar_any _ _ _ (H1.out _ _) (by omega)).mono ?_
  rintro e w1 ⟨rfl, hb1⟩
  obtain ⟨hc1, hf1⟩ := bcell hb1
  have hz1 : w.heap.size + 1 < w1.heap.size := by have := hb1.size; simp at this; omega
  have a1 : w1.cell? ⟨w.heap.size, 0, none⟩ = some (.slice A xs.length c) := by rw [hc1 _ _ (by first | omega | (simp; done) | (simp; omega))]; simp [go_sem]
  have c1 : w1.cell? ⟨w.heap.size + 1, 0, none⟩ = some (.slice none 0 0) := by rw [hc1 _ _ (by first | omega | (simp; done) | (simp; omega))]; simp [go_sem]
  have f1 : w1.frozen? ⟨w.heap.size + 1, 0, none⟩ = false := by rw [hf1 _ _ (by first | omega | (simp; done) | (simp; omega))]; simp [go_sem]
  have S1 := Lib.hid ((H1.out (Obj.cells #[Value.slice A xs.length c] 31) (Obj.cells #[Value.slice none 0 0] 31)).up hb1)
  have B1 := Lib.hid (((Below.refl w.heap.size w).alloc (Nat.le_refl _) (Obj.cells #[Value.slice A xs.length c] 31)).alloc (by simp) (Obj.cells #[Value.slice none 0 0] 31) |>.trans (hb1.mono (by simp; omega)))
  clear hc1 hf1 hb1
  by_cases hok : gramOk xs = true
  · have hok2 : (!gramOk xs) = false := by simp [hok]
    have Hok := Lib.hid hok
    clear hok
    go_wp2_with fail
    by_cases hin : inB t 0 1000000000000000 = true
    · have Hin := Lib.hid hin
      have ht : 0 ≤ t ∧ t ≤ 1000000000000000 := by simpa [inB] using hin
      obtain ⟨n, rfl⟩ := Int.eq_ofNat_of_zero_le ht.1
      have hn60 : n < 1152921504606846976 := by omega
      clear hin ht
      refine (withinY _ _ _ _ _ Hin.out).mono ?_
      rintro e w' ⟨rfl, rfl⟩
      go_wp2_with fail
      refine (power_any _ xs n _ S1.out hn hn60 (tab_below HT.out B1.out)).mono ?_
      rintro e w3 ⟨hb3, v3, own3, rfl⟩
      have z3 : w1.heap.size ≤ w3.heap.size := hb3.size
      have hz3 : w.heap.size + 1 < w3.heap.size := by omega
      have c3 := cell_up c1 hb3 (by omega)
      have f3 : w3.frozen? ⟨w.heap.size + 1, 0, none⟩ = false := by rw [hb3.frozen hz1, f1]
      have B3 := Lib.hid (B1.out.trans (hb3.mono (by omega)))
      have O3 := Lib.hid own3
      have hpl := powG_len xs n hn60
      clear a1 c1 f1 hb3 own3
      go_wp2_with fail
      refine (orLimit_any _ _ _ _ O3.out (by omega)).mono ?_
      rintro e w4 ⟨hb4, v4, own4, rfl⟩
      obtain ⟨A4, k4, rfl, _⟩ := own_nil own4
      have c4 := cell_up c3 hb4 (by omega)
      have f4 : w4.frozen? ⟨w.heap.size + 1, 0, none⟩ = false := by rw [hb4.frozen hz3, f3]
      have B4 := Lib.hid (B3.out.trans (hb4.mono (by omega)))
      have O4 := Lib.hid own4
      clear c3 f3 hb4 own4
      have e1 : powOut xs n = limOut (powG xs n) := by rw [powOut, Hok.out, Hin.out]; rfl
      have e2 : powCode xs n = limCode (powG xs n) := by rw [powCode, Hok.out, Hin.out]; rfl
      have E1 := Lib.hid e1
      have E2 := Lib.hid e2
      clear e1 e2
      go_wp2
      refine bodyPost_ret (v := .tuple #[.agg #[.slice A4 (limOut (powG xs n)).length k4], .int .i64 (limCode (powG xs n))]) (by simp [results, Tryz.results95, go_sem, c4]) rfl ⟨?_, _, ?_, by rw [E2.out]⟩
      · exact B4.out.setCell (by show w.heap.size ≤ w.heap.size + 1; omega) _
      · rw [E1.out]
        exact ownsRow_more (ownsRow_setCell_below O4.out (a := ⟨w.heap.size + 1, 0, none⟩) (by show w.heap.size + 1 < w1.heap.size; omega) _) (by omega)
    · have hin' : inB t 0 1000000000000000 = false := by simpa using hin
      have Hin := Lib.hid hin'
      clear hin hin'
      refine (withinY _ _ _ _ _ Hin.out).mono ?_
      rintro e w' ⟨rfl, rfl⟩
      go_wp2
      refine bodyPost_ret (v := .tuple #[.agg #[.slice none 0 0], .int .i64 2]) (by simp [results, Tryz.results95, go_sem, c1]) rfl ⟨?_, _, ?_, by rw [powCode, if_pos Hok.out, if_neg (by rw [Hin.out]; decide)]⟩
      · exact B1.out.setCell (by show w.heap.size ≤ w.heap.size + 1; omega) _
      · rw [powOut, if_neg (by simp [Hin.out])]; exact World.ownsRow_nil _ _ _ _
  · have hok2 : (!gramOk xs) = true := by simp [hok]
    have Hok := Lib.hid hok
    clear hok
    go_wp2
    refine bodyPost_ret (v := .tuple #[.agg #[.slice none 0 0], .int .i64 1]) (by simp [results, Tryz.results95, go_sem, c1]) rfl ⟨?_, _, ?_, by rw [powCode, if_neg (by simp [Hok.out])]⟩
    · exact B1.out.setCell (by show w.heap.size ≤ w.heap.size + 1; omega) _
    · rw [powOut, if_neg (by simp [Hok.out])]; exact World.ownsRow_nil _ _ _ _
end Go.Proofs.YtfapnipmgmpgaaaGreatDoor

namespace Go.Proofs.YtfapnipmgmpgaaaGreatDoor
open Go.RowKit

theorem binL_lo (n : Nat) : 0 < n → ∀ d, d < (binL n).length → 0 < n / 2 ^ d := by
  induction n using Nat.strongRecOn with
  | ind n ih =>
    intro hn d hd
    by_cases c : n < 2
    · rw [binL_lt c] at hd
      have : d = 0 := by simpa using hd
      subst this; simpa using hn
    · rw [binL_ge c, List.length_append] at hd
      cases d with
      | zero => simpa using hn
      | succ d =>
        have := ih (n / 2) (by omega) (by omega) d (by simp at hd; omega)
        rw [Nat.pow_succ, Nat.mul_comm, ← Nat.div_div_eq_div_mul]
        exact this
theorem binL_hi (n : Nat) : n / 2 ^ (binL n).length = 0 := by
  induction n using Nat.strongRecOn with
  | ind n ih =>
    by_cases c : n < 2
    · rw [binL_lt c]
      have : n / 2 = 0 := by omega
      simpa using this
    · rw [binL_ge c, List.length_append]
      have := ih (n / 2) (by omega)
      show n / 2 ^ ((binL (n / 2)).length + 1) = 0
      rw [Nat.pow_succ, Nat.mul_comm, ← Nat.div_div_eq_div_mul]
      exact this
theorem binL_get (n : Nat) : ∀ j, j < (binL n).length → (binL n)[(binL n).length - 1 - j]? = some (UInt8.ofNat (48 + n / 2 ^ j % 2)) := by
  induction n using Nat.strongRecOn with
  | ind n ih =>
    intro j hj
    by_cases c : n < 2
    · rw [binL_lt c] at hj ⊢
      have : j = 0 := by simpa using hj
      subst this
      have : n % 2 = n := by omega
      simp [this]
    · rw [binL_ge c] at hj ⊢
      rw [List.length_append] at hj ⊢
      cases j with
      | zero => simp
      | succ j =>
        have h1 := ih (n / 2) (by omega) j (by simp at hj; omega)
        have e : (binL (n / 2)).length + [UInt8.ofNat (48 + n % 2)].length - 1 - (j + 1) = (binL (n / 2)).length - 1 - j := by simp; omega
        rw [e, List.getElem?_append_left (by simp at hj; omega), h1, Nat.pow_succ, Nat.mul_comm, ← Nat.div_div_eq_div_mul]
theorem and_oneI (i : Nat) (hi : i < 9223372036854775808) : bits BinOp.and IntKind.i64 (i : Int) 1 = ((i % 2 : Nat) : Int) := by
  have e63 : (2 : Int) ^ 63 = 9223372036854775808 := by decide
  have h := bits_mask .i64 63 (by decide) (fun n h0 h1 => by rw [e63] at h1; rw [IntKind.wrap_i64]; omega) 1 (by decide) (i : Int) (by omega) (by rw [e63]; omega)
  have e : ((2 : Int) ^ 1 - 1) = 1 := by decide
  rw [e] at h
  rw [h]
  omega
theorem shr_nat (n d : Nat) : ((n : Int) / 2 ^ d) = ((n / 2 ^ d : Nat) : Int) := by
  rw [Int.natCast_ediv]; simp
theorem powStep_small {root : Int} {L : List GRule} {d : UInt8} (h : SmallL L) : SmallL (powStep root L d) := by
  unfold powStep
  split <;> intro r hr <;> simp at hr
  · rcases hr with hr | rfl | rfl
    · exact h r hr
    · exact (by decide : (0 : Nat) ≤ 9223372036854775807)
    · exact (by decide : (0 : Nat) ≤ 9223372036854775807)
  · rcases hr with hr | rfl
    · exact h r hr
    · exact (by decide : (0 : Nat) ≤ 9223372036854775807)
theorem powFold_small {root : Int} : ∀ (ds : List UInt8) {L : List GRule}, SmallL L → SmallL (ds.foldl (powStep root) L)
  | [], _, h => h
  | d :: ds, _, h => powFold_small ds (powStep_small (d := d) h)
theorem powG_small {xs : List GRule} (n : Nat) (h : SmallL xs) : SmallL (powG xs n) := by
  unfold powG
  split
  · intro r hr; simp at hr
  · exact powFold_small _ h

set_option maxRecDepth 100000 in
set_option maxHeartbeats 4000000 in
theorem specPower_any (v : Value) (xs : List GRule) (t : Int) (w : World) (h : Sl RuleE w w.heap.size v xs) (hn : xs.length ≤ 1048576) (hs : SmallL xs) :
    Calls Tryz.prog 120 #[.agg #[v], .int .i64 t] w (GRes (powOut xs t) (powCode xs t) w) := by
  have h1 := fun o o' => (h.below (((Below.refl w.heap.size w).alloc (Nat.le_refl _) o).alloc (by simp) o')).le (B' := ((w.alloc o).alloc o').heap.size) (by simp; omega)
  have H1 := Lib.hid h1
  have Hs := Lib.hid hs
  clear h1 hs
  obtain ⟨A, c, rfl, hc, hm, hrow⟩ := h
  clear hm hrow
  go_enter Tryz.func120, Tryz.ntmps120
  go_wp2_with fail
  refine (l02Ok_any _ _ _ _ _ (by simp [go_sem]) (by first | omega | (simp; done) | (simp; omega)) (H1.out _ _) Hs.out).mono ?_
  rintro e w1 ⟨rfl, hb1⟩
  obtain ⟨hc1, hf1⟩ := bcell hb1
  have hz1 : w.heap.size + 1 < w1.heap.size := by have := hb1.size; simp at this; omega
  have a1 : w1.cell? ⟨w.heap.size, 0, none⟩ = some (.slice A xs.length c) := by rw [hc1 _ _ (by first | omega | (simp; done) | (simp; omega))]; simp [go_sem]
  have c1 : w1.cell? ⟨w.heap.size + 1, 0, none⟩ = some (.slice none 0 0) := by rw [hc1 _ _ (by first | omega | (simp; done) | (simp; omega))]; simp [go_sem]
  have f1 : w1.frozen? ⟨w.heap.size + 1, 0, none⟩ = false := by rw [hf1 _ _ (by first | omega | (simp; done) | (simp; omega))]; simp [go_sem]
  have S1 := Lib.hid ((H1.out (Obj.cells #[Value.slice A xs.length c] 31) (Obj.cells #[Value.slice none 0 0] 31)).up hb1)
  have B1 := Lib.hid (((Below.refl w.heap.size w).alloc (Nat.le_refl _) (Obj.cells #[Value.slice A xs.length c] 31)).alloc (by simp) (Obj.cells #[Value.slice none 0 0] 31) |>.trans (hb1.mono (by simp; omega)))
  clear hc1 hf1 hb1
  by_cases hok : gramOk xs = true
  · have hok2 : (!gramOk xs) = false := by simp [hok]
    have Hok := Lib.hid hok
    clear hok
    go_wp2_with fail
    by_cases hin : inB t 0 1000000000000000 = true
    · have Hin := Lib.hid hin
      have ht : 0 ≤ t ∧ t ≤ 1000000000000000 := by simpa [inB] using hin
      obtain ⟨n, rfl⟩ := Int.eq_ofNat_of_zero_le ht.1
      have hn60 : n < 1152921504606846976 := by omega
      clear hin ht
      refine (l00InY _ _ _ _ _ Hin.out).mono ?_
      rintro e w' ⟨rfl, rfl⟩
      have e1 : powOut xs n = limOut (powG xs n) := by rw [powOut, Hok.out, Hin.out]; rfl
      have e2 : powCode xs n = limCode (powG xs n) := by rw [powCode, Hok.out, Hin.out]; rfl
      have E1 := Lib.hid e1
      have E2 := Lib.hid e2
      clear e1 e2
      by_cases h0 : n = 0 ∨ xs.length = 0
      · have hg : powG xs n = [] := by rw [powG, if_pos h0]
        have hlo : limOut (powG xs n) = [] := by rw [hg]; rfl
        have hlc : limCode (powG xs n) = 0 := by rw [hg]; rfl
        have Hg := Lib.hid hg
        have Ho := Lib.hid hlo
        have Hc := Lib.hid hlc
        clear hg hlo hlc
        by_cases hz : n = 0
        · subst hz
          clear h0
          go_wp2_with fail
          have e3 : powOut xs 0 = [] := by
            have e : powOut xs ((0 : Nat) : Int) = [] := by rw [E1.out, Ho.out]
            exact e
          have e4 : powCode xs 0 = 0 := by
            have e : powCode xs ((0 : Nat) : Int) = 0 := by rw [E2.out, Hc.out]
            exact e
          refine bodyPost_ret (v := .tuple #[.agg #[.slice none 0 0], .int .i64 0]) (by simp [results, Tryz.results120, go_sem, c1]) rfl ⟨?_, .slice none 0 0, ?_, by simp [e4]⟩
          · exact B1.out.setCell (by show w.heap.size ≤ w.heap.size + 1; omega) _
          · simp [e3]; exact World.ownsRow_nil _ _ _ _
        · have hx : xs.length = 0 := by omega
          have g0 : ((n : Int) == 0) = false := by rw [beq_eq_false_iff_ne]; omega
          have g1 : ((xs.length : Int) == 0) = true := by simp [hx]
          clear h0 hx
          go_wp2_with fail
          refine bodyPost_ret (v := .tuple #[.agg #[.slice none 0 0], .int .i64 0]) (by simp [results, Tryz.results120, go_sem, c1]) rfl ⟨?_, _, ?_, by rw [E2.out, Hc.out]⟩
          · exact B1.out.setCell (by show w.heap.size ≤ w.heap.size + 1; omega) _
          · rw [E1.out, Ho.out]; exact World.ownsRow_nil _ _ _ _
      · have hg : powG xs n = (binL n).tail.foldl (powStep ((xs.length : Int) - 1)) xs := by rw [powG, if_neg h0]
        have Hg := Lib.hid hg
        have g0 : ((n : Int) == 0) = false := by rw [beq_eq_false_iff_ne]; omega
        have g1 : ((xs.length : Int) == 0) = false := by rw [beq_eq_false_iff_ne]; omega
        have hwx : IntKind.i64.wrap ((xs.length : Int) - 1) = (xs.length : Int) - 1 := IntWalk.i64_in _ (by omega)
        have hn0 : 0 < n := by omega
        have hhi := binL_hi n
        have hlo := binL_lo n hn0
        have hpos := binL_pos n
        have hxt := binL_len n 60 hn60 (by omega)
        have hget := binL_get n
        obtain ⟨BL, hBL⟩ : ∃ BL, binL n = BL := ⟨_, rfl⟩
        rw [hBL] at hhi hlo hpos hxt hget
        have HBL := Lib.hid hBL
        have Hhi := Lib.hid hhi
        have Hlo := Lib.hid hlo
        have Hget := Lib.hid hget
        clear hg hBL hhi hlo hget h0
        go_wp2_with fail
        refine (l02Own_any _ _ _ _ _ a1 (by omega) S1.out (by omega)).mono ?_
        rintro e w3 ⟨v3, rfl, own3, hb3⟩
        obtain ⟨A3, k3, rfl, _⟩ := own_nil own3
        have z3 : w1.heap.size ≤ w3.heap.size := hb3.size
        have hz3 : w.heap.size + 1 < w3.heap.size := by omega
        have a3 := cell_up a1 hb3 (by omega)
        have c3 := cell_up c1 hb3 (by omega)
        have f3 : w3.frozen? ⟨w.heap.size + 1, 0, none⟩ = false := by rw [hb3.frozen hz1, f1]
        have B3 := Lib.hid (B1.out.trans (hb3.mono (by omega)))
        have O3 := Lib.hid own3
        have y3 : w.heap.size < w3.heap.size := by omega
        clear a1 c1 f1 hb3 own3
        go_wp2_with fail
        go_loopw [8] (fun q wr => ∃ d : Nat, q = .int .i64 d ∧ d ≤ BL.length ∧ wr = w3.alloc (Obj.cells #[Value.slice A3 xs.length k3] 31)) (fun q _ => BL.length - (intOf q).toNat)
        case atStart => exact ⟨0, rfl, Nat.zero_le _, rfl⟩
        case round =>
          obtain ⟨d, rfl, hd, rfl⟩ := hrel
          by_cases hdl : d < BL.length
          · have hsh : (0 : Int) < (n : Int) / 2 ^ d := by rw [shr_nat]; have := Hlo.out d hdl; omega
            have hd60 : d < 64 := by omega
            go_wp2_with fail
            exact ⟨⟨d + 1, rfl, hdl, trivial⟩, by simp [intOf]; omega⟩
          · have hdn : d = BL.length := by omega
            subst hdn
            have hsh : ¬ ((0 : Int) < (n : Int) / 2 ^ BL.length) := by rw [shr_nat, Hhi.out]; decide
            obtain ⟨K, hK⟩ : ∃ K, w3.heap.size = K := ⟨_, rfl⟩
            have bx4 : Boxed (w3.alloc (Obj.cells #[Value.slice A3 xs.length k3] 31)) K 31 (.slice A3 xs.length k3) := by rw [← hK]; exact Boxed.new _ _ _
            have own4 : OwnRules (w3.alloc (Obj.cells #[Value.slice A3 xs.length k3] 31)) w1.heap.size (.slice A3 xs.length k3) xs := O3.out.alloc _
            have b4 : Below w1.heap.size (w3.alloc (Obj.cells #[Value.slice A3 xs.length k3] 31)) (w3.alloc (Obj.cells #[Value.slice A3 xs.length k3] 31)) := Below.refl _ _
            have B4 := Lib.hid (B3.out.alloc (by omega) (Obj.cells #[Value.slice A3 xs.length k3] 31))
            have y4 : w.heap.size + 1 < (w3.alloc (Obj.cells #[Value.slice A3 xs.length k3] 31)).heap.size := by simp; omega
            have c4 : (w3.alloc (Obj.cells #[Value.slice A3 xs.length k3] 31)).cell? ⟨w.heap.size + 1, 0, none⟩ = some (.slice none 0 0) := by simp [go_sem, c3, hz3]
            have f4 : (w3.alloc (Obj.cells #[Value.slice A3 xs.length k3] 31)).frozen? ⟨w.heap.size + 1, 0, none⟩ = false := by simp [go_sem, f3, hz3]
            have hK1 : w1.heap.size ≤ K := by omega
            rw [hK]
            revert bx4 own4 b4 B4 y4 c4 f4
            generalize w3.alloc (Obj.cells #[Value.slice A3 xs.length k3] 31) = w4
            intro bx4 own4 b4 B4 y4 c4 f4
            clear a3 c3 f3 y3 hK hdl hd
            have h60 : BL.length ≤ 60 := hxt
            have hbl : BL.tail.length = BL.length - 1 := by simp
            go_wp2_with fail
            go_loopw [9, 10] (fun q u wr => ∃ (k : Nat) (vo : Value), q = .int .i64 ((BL.length : Int) - 2 - k) ∧ k ≤ BL.length - 1 ∧ Boxed wr K 31 vo ∧ OwnRules wr w1.heap.size vo ((BL.tail.take k).foldl (powStep ((xs.length : Int) - 1)) xs) ∧ Below w1.heap.size w4 wr) (fun q _ _ => (intOf q + 1).toNat)
            case atStart => exact ⟨0, _, by simp, Nat.zero_le _, bx4, by simpa using own4, b4⟩
            case round =>
              obtain ⟨k, vo, rfl, hk, hbox, hown, hb⟩ := hrel
              have Hb := Lib.hid hb
              have Hown := Lib.hid hown
              have Hbox := Lib.hid hbox
              have hll := powFold_len ((xs.length : Int) - 1) (BL.tail.take k) xs
              obtain ⟨L, hL⟩ : ∃ L, (BL.tail.take k).foldl (powStep ((xs.length : Int) - 1)) xs = L := ⟨_, rfl⟩
              have HL := Lib.hid hL
              have hlen : L.length ≤ 2000000 := by rw [← hL]; simp at hll; omega
              rw [hL] at Hown
              clear hb hown hbox hll hL
              by_cases hlt : k < BL.length - 1
              · obtain ⟨j, hj⟩ : ∃ j : Nat, (BL.length : Int) - 2 - k = j := ⟨BL.length - 2 - k, by omega⟩
                have hjl : j < BL.length := by omega
                have hgt := Hget.out j hjl
                have hgt' : BL.tail[k]? = some (UInt8.ofNat (48 + n / 2 ^ j % 2)) := by
                  rw [← hgt, List.getElem?_tail]; congr 1; omega
                have Hgt := Lib.hid hgt'
                have hand : bits BinOp.and IntKind.i64 ((n : Int) / 2 ^ j) 1 = ((n / 2 ^ j % 2 : Nat) : Int) := by
                  rw [shr_nat]; exact and_oneI _ (Nat.lt_of_le_of_lt (Nat.div_le_self _ _) (by omega))
                obtain ⟨D, hD⟩ : ∃ D, n / 2 ^ j % 2 = D := ⟨_, rfl⟩
                have hD2 : D = 0 ∨ D = 1 := by omega
                rw [hD] at hand Hgt
                obtain ⟨Ao, co, rfl, _⟩ := own_nil Hown.out
                have bxc := Hbox.out.cell
                have bxf := Hbox.out.frozen
                have hw1 : IntKind.i64.wrap ((L.length : Int) - 1) = (L.length : Int) - 1 := IntWalk.i64_in _ (by omega)
                have hw2 : IntKind.i64.wrap ((j : Int) - 1) = (j : Int) - 1 := IntWalk.i64_in _ (by omega)
                have Hll : Hid (L.length ≤ 1099511627775) := by rw [Hid]; omega
                have Hw4 := Lib.hid (show w1.heap.size ≤ w4.heap.size by have := bx4.lt; omega)
                have Hw0 := Lib.hid (show w1.heap.size ≤ wr.heap.size from Nat.le_trans (by have := bx4.lt; omega) Hb.out.size)
                have Hlen := Lib.hid hlen
                rw [hj]
                have Hj := Lib.hid hj
                have Hlt := Lib.hid hlt
                have hj60 : j < 64 := by omega
                clear hgt hgt' hD hlt hk hj
                have Hstep : Hid ((BL.tail.take (k + 1)).foldl (powStep ((xs.length : Int) - 1)) xs = powStep ((xs.length : Int) - 1) L (UInt8.ofNat (48 + D))) := by
                  rw [Hid, List.take_add_one, Hgt.out, List.foldl_append, HL.out]; rfl
                obtain ⟨M, hM⟩ : ∃ M, L ++ [pairR ((L.length : Int) - 1) ((L.length : Int) - 1)] = M := ⟨_, rfl⟩
                have hMl : M.length = L.length + 1 := by rw [← hM]; simp
                have HM := Lib.hid hM
                have HMl := Lib.hid hMl
                have Hml : Hid (M.length ≤ 1099511627775) := by rw [Hid]; have := Hlen.out; omega
                have HN := fun q : Int × Int => Lib.hid (show (M ++ [pairR q.1 q.2]).length = M.length + 1 by simp)
                have e0 : powStep ((xs.length : Int) - 1) L (UInt8.ofNat (48 + 0)) = M := by rw [← hM]; simp [powStep]
                have e1 : powStep ((xs.length : Int) - 1) L (UInt8.ofNat (48 + 1)) = M ++ [pairR (L.length : Int) ((xs.length : Int) - 1)] := by rw [← hM]; simp [powStep]
                have E3 := Lib.hid e0
                have E4 := Lib.hid e1
                have hm0 : (((j : Int) - 1) + 1).toNat < ((j : Int) + 1).toNat := by omega
                have Hm0 := Lib.hid hm0
                clear hM hMl e0 e1 hm0
                rcases hD2 with rfl | rfl
                · go_wp2_with (first
                    | (at_builtin; refine list_push_rule (base := w1.heap.size) (v := .slice Ao L.length co) rfl _ _ rfl (by rfl) (by rfl) rfl Hown.out Hll.out Hw0.out ?_; intro v5 w5 own5 hg5 hb5; go_loud (have bx5 : Boxed w5 K 31 _ := Boxed.grown Hbox.out (by decide) Hown.out hg5; obtain ⟨A5, c5, rfl, _⟩ := own_nil own5; have hcb5 := bx5.cell; have hfb5 := bx5.frozen; have hl5 := bx5.lt; have own6 := Lib.hid (own_put bx5 own5 HM.out HMl.out); have B6 : Hid (Below w1.heap.size w4 (w5.setCell ⟨K, 0, none⟩ (.slice A5 (L.length + 1) c5))) := ((Hb.out.alloc Hw0.out _).trans hb5).setCell hK1 _; have X6 : Hid (Boxed (w5.setCell ⟨K, 0, none⟩ (.slice A5 (L.length + 1) c5)) K 31 (.slice A5 (L.length + 1) c5)) := Boxed.set _ bx5; clear own5 hg5 hb5)))
                  refine ⟨⟨k + 1, _, by congr 1; have := Hj.out; omega, by have := Hlt.out; omega, X6.out, ?_, B6.out⟩, by simp only [intOf]; exact Hm0.out⟩
                  rw [Hstep.out, E3.out]; exact own6.out
                · go_wp2_with (first
                    | (at_builtin; refine list_push_rule (base := w1.heap.size) (v := .slice Ao L.length co) rfl _ _ rfl (by rfl) (by rfl) rfl Hown.out Hll.out Hw0.out ?_; intro v5 w5 own5 hg5 hb5; go_loud (have bx5 : Boxed w5 K 31 _ := Boxed.grown Hbox.out (by decide) Hown.out hg5; obtain ⟨A5, c5, rfl, _⟩ := own_nil own5; have hcb5 := bx5.cell; have hfb5 := bx5.frozen; have hl5 := bx5.lt; have own6 := Lib.hid (own_put bx5 own5 HM.out HMl.out); have B6 : Hid (Below w1.heap.size w4 (w5.setCell ⟨K, 0, none⟩ (.slice A5 (L.length + 1) c5))) := ((Hb.out.alloc Hw0.out _).trans hb5).setCell hK1 _; have X6 : Hid (Boxed (w5.setCell ⟨K, 0, none⟩ (.slice A5 (L.length + 1) c5)) K 31 (.slice A5 (L.length + 1) c5)) := Boxed.set _ bx5; clear own5 hg5 hb5))
                    | (at_builtin; go_loud (refine list_push_rule (base := w1.heap.size) (v := .slice A5 (L.length + 1) c5) rfl _ _ rfl (by rfl) (by rfl) (by simp) own6.out Hml.out (Nat.le_trans Hw4.out B6.out.size) ?_); intro v7 w7 own7 hg7 hb7; have bx7 : Boxed w7 K 31 _ := Boxed.grown X6.out (by decide) own6.out hg7; obtain ⟨A7, c7, rfl, _⟩ := own_nil own7; have hcb7 := bx7.cell; have hfb7 := bx7.frozen; have hl7 := bx7.lt; go_loud (have own8 := Lib.hid (own_put bx7 own7 rfl (HN (L.length, (xs.length : Int) - 1)).out); have B8 : Hid (Below w1.heap.size w4 (w7.setCell ⟨K, 0, none⟩ (.slice A7 (M.length + 1) c7))) := ((B6.out.alloc (Nat.le_trans Hw4.out B6.out.size) _).trans hb7).setCell hK1 _; have X8 : Hid (Boxed (w7.setCell ⟨K, 0, none⟩ (.slice A7 (M.length + 1) c7)) K 31 (.slice A7 (M.length + 1) c7)) := Boxed.set _ bx7; clear own7 hg7 hb7)))
                  refine ⟨⟨k + 1, _, by congr 1; have := Hj.out; omega, by have := Hlt.out; omega, X8.out, ?_, B8.out⟩, by simp only [intOf]; exact Hm0.out⟩
                  rw [Hstep.out, E4.out]; exact own8.out
              · have hkn : k = BL.length - 1 := by omega
                subst hkn
                have hneg : ¬ ((0 : Int) ≤ (BL.length : Int) - 2 - ((BL.length - 1 : Nat) : Int)) := by omega
                have hL' : powG xs n = L := by rw [Hg.out, HBL.out, ← HL.out, ← hbl, List.take_length]
                have HL' := Lib.hid hL'
                have z1 : w1.heap.size ≤ wr.heap.size := Nat.le_trans (by have := bx4.lt; omega) Hb.out.size
                obtain ⟨Ao, co, rfl, _⟩ := own_nil Hown.out
                have bxc := Hbox.out.cell
                have hlr := Hbox.out.lt
                have c9 : wr.cell? ⟨w.heap.size + 1, 0, none⟩ = some (.slice none 0 0) := (Hb.out.cell (p := ⟨w.heap.size + 1, 0, none⟩) (by show w.heap.size + 1 < w1.heap.size; omega)).trans c4
                have f9 : wr.frozen? ⟨w.heap.size + 1, 0, none⟩ = false := (Hb.out.frozen (p := ⟨w.heap.size + 1, 0, none⟩) (by show w.heap.size + 1 < w1.heap.size; omega)).trans f4
                have hz9 : w.heap.size + 1 < wr.heap.size := by omega
                have B9 := Lib.hid (B4.out.trans (Hb.out.mono (by omega)))
                clear hL' hlt hk hlen
                go_wp2_with fail
                refine (l02Told_any _ _ _ _ Hown.out (by rw [← HL'.out]; exact powG_small n Hs.out)).mono ?_
                rintro e w10 ⟨hb10, v10, own10, rfl⟩
                obtain ⟨A10, k10, rfl, _⟩ := own_nil own10
                have c10 := cell_up c9 hb10 (by omega)
                have f10 : w10.frozen? ⟨w.heap.size + 1, 0, none⟩ = false := by rw [hb10.frozen hz9, f9]
                have B10 := Lib.hid (B9.out.trans (hb10.mono (by omega)))
                have O10 := Lib.hid own10
                clear c9 f9 hb10 own10
                go_wp2
                refine bodyPost_ret (v := .tuple #[.agg #[.slice A10 (limOut L).length k10], .int .i64 (limCode L)]) (by simp [results, Tryz.results120, go_sem, c10]) rfl ⟨?_, _, ?_, by rw [E2.out, HL'.out]⟩
                · exact B10.out.setCell (by show w.heap.size ≤ w.heap.size + 1; omega) _
                · rw [E1.out, HL'.out]
                  exact ownsRow_more (ownsRow_setCell_below O10.out (a := ⟨w.heap.size + 1, 0, none⟩) (by show w.heap.size + 1 < w1.heap.size; omega) _) (by omega)
    · have hin' : inB t 0 1000000000000000 = false := by simpa using hin
      have Hin := Lib.hid hin'
      clear hin hin'
      refine (l00InY _ _ _ _ _ Hin.out).mono ?_
      rintro e w' ⟨rfl, rfl⟩
      go_wp2
      refine bodyPost_ret (v := .tuple #[.agg #[.slice none 0 0], .int .i64 2]) (by simp [results, Tryz.results120, go_sem, c1]) rfl ⟨?_, _, ?_, by rw [powCode, if_pos Hok.out, if_neg (by rw [Hin.out]; decide)]⟩
      · exact B1.out.setCell (by show w.heap.size ≤ w.heap.size + 1; omega) _
      · rw [powOut, if_neg (by simp [Hin.out])]; exact World.ownsRow_nil _ _ _ _
  · have hok2 : (!gramOk xs) = true := by simp [hok]
    have Hok := Lib.hid hok
    clear hok
    go_wp2
    refine bodyPost_ret (v := .tuple #[.agg #[.slice none 0 0], .int .i64 1]) (by simp [results, Tryz.results120, go_sem, c1]) rfl ⟨?_, _, ?_, by rw [powCode, if_neg (by simp [Hok.out])]⟩
    · exact B1.out.setCell (by show w.heap.size ≤ w.heap.size + 1; omega) _
    · rw [powOut, if_neg (by simp [Hok.out])]; exact World.ownsRow_nil _ _ _ _
end Go.Proofs.YtfapnipmgmpgaaaGreatDoor

namespace Go.Proofs.YtfapnipmgmpgaaaGreatDoor
open Go.RowKit

/-- The words that stand for the letters by a map. -/
def mapW (t : ByteArray) : List ByteArray := Lib.charsB t
def mapO (xs : List GRule) (ws : List ByteArray) : Option (List GRule) :=
  if 400 < (mapP xs ws).1.length then none else if xs.length = 0 ∨ lastI (mapP xs ws).2 < 0 then some [] else limO (trimG ((mapP xs ws).1.take ((lastI (mapP xs ws).2).toNat + 1)))
theorem codeIs_map (xs : List GRule) (ws : List ByteArray) : CodeIs (mapO xs ws) (mapOut xs ws) (mapCode xs ws) := by
  unfold mapO mapOut mapCode
  split
  · exact .inr ⟨rfl, rfl⟩
  · split
    · exact .inl ⟨rfl, rfl, rfl⟩
    · exact codeIs_lim _
/-- A part that is changed. -/
def chgO (e : GEdit) (p : List GRule) : Option (List GRule) := if e.kind = 5 then some (p.map turnR) else if e.kind = 6 then limO (powG p e.k.toNat) else mapO p (mapW e.map)
theorem turnR_pair (r : GRule) : (turnR r).pair = r.pair := rfl
theorem okRule_turn (i : Nat) (r : GRule) : okRule i (turnR r) = okRule i r := by
  unfold okRule
  rw [turnR_pair]
  split
  · show (decide (0 ≤ r.right) && decide (r.right ≤ (i : Int) - 1) && decide (0 ≤ r.left) && decide (r.left ≤ (i : Int) - 1)) = _
    rw [Bool.and_comm, Bool.and_left_comm, ← Bool.and_assoc]
    cases decide (0 ≤ r.right) <;> cases decide (r.right ≤ (i : Int) - 1) <;> cases decide (0 ≤ r.left) <;> cases decide (r.left ≤ (i : Int) - 1) <;> rfl
  · show (isLet r.letter && r.right == 0 && r.left == 0) = _
    cases isLet r.letter <;> cases (r.right == 0) <;> cases (r.left == 0) <;> rfl
theorem ruleLen_turn (out : List Int) (r : GRule) : ruleLen out (turnR r) = ruleLen out r := by
  unfold ruleLen
  rw [turnR_pair]
  split
  · show out.getD r.right.toNat 0 + out.getD r.left.toNat 0 = _
    omega
  · rfl
theorem lens_turn (xs : List GRule) : lens (xs.map turnR) = lens xs := by
  unfold lens
  generalize some ([] : List Int) = o
  induction xs generalizing o with
  | nil => rfl
  | cons x xs ih =>
    simp only [List.map_cons, List.foldl_cons]
    have : lensStep o (turnR x) = lensStep o x := by
      unfold lensStep
      cases o with
      | none => rfl
      | some out => simp only [Option.bind_some, okRule_turn, ruleLen_turn]
    rw [this, ih]
theorem gramOk_turn {xs : List GRule} (h : gramOk xs = true) : gramOk (xs.map turnR) = true := by
  unfold gramOk at *
  rw [lens_turn, List.length_map]; exact h
theorem map_words {t : ByteArray} (hw : wordOk t = true) (h4 : t.size = 4) : (mapW t).length = 4 ∧ ∀ s ∈ mapW t, wordOk s = true := by
  have hall : ∀ k (h : k < t.size), letOk t[k] = true := fun k h => letOk_at hw h
  refine ⟨by simp [mapW, Lib.charsB, Lib.charsUpTo_length, h4], fun s hs => ?_⟩
  unfold mapW Lib.charsB Lib.charsUpTo at hs
  obtain ⟨k, hk, rfl⟩ := List.mem_map.1 hs
  have hk4 : k < t.size := by rw [List.mem_range] at hk; exact hk
  unfold wordOk
  have hsz : (t.extract k (k + 1)).size = 1 := by simp; omega
  rw [hsz, Bool.and_eq_true]
  refine ⟨by decide, ?_⟩
  rw [List.all_eq_true]
  intro c hc
  obtain ⟨j, hj⟩ := List.mem_iff_getElem?.1 hc
  have h2 := (List.getElem?_eq_some_iff.1 hj).1
  rw [Lib.extract_data, List.getElem?_take, List.getElem?_drop] at hj
  split at hj
  · rename_i hlt
    have : j = 0 := by omega
    subst this
    rw [Nat.add_zero, toList_getElem? t k hk4] at hj
    rw [← Option.some.inj hj]; exact hall k hk4
  · cases hj
theorem mapWords_any (t : ByteArray) (w : World) (hw : wordOk t = true) (h4 : t.size = 4) :
    Calls Tryz.prog 97 #[.string t] w fun e w' => ∃ v, e = .returned v ∧ Sl StrE w' w'.heap.size v (mapW t) ∧ Below w.heap.size w w' := by
  have hm := map_words hw h4
  have hal : ∀ (j : Nat) b, t.data.toList[j]? = some b → b.toNat < 128 := fun j b hj => by
    have h1 : letOk b = true := by
      unfold wordOk at hw; simp only [Bool.and_eq_true] at hw
      exact List.all_eq_true.1 hw.2 _ (List.mem_of_getElem? hj)
    simp [letOk] at h1; omega
  have HC := Lib.hid (Tryz.strings_Split_chars t ⟨#[]⟩ w (by rfl) (by omega) hal)
  have H4 := Lib.hid h4
  have HM := Lib.hid hm
  clear hal hm h4 hw
  go_enter Tryz.func97, Tryz.ntmps97
  go_wp2_with fail
  refine HC.out.mono ?_
  rintro e w1 ⟨rfl, rfl⟩
  go_wp2
  go_ret
  have e1 : (mapW t).length = t.size := by rw [HM.out.1, H4.out]
  refine ⟨.slice (some ⟨(w.iter t t.size).heap.size, 0, none⟩) t.size t.size, rfl, ?_, ?_⟩
  · refine ⟨some ⟨(w.iter t t.size).heap.size, 0, none⟩, t.size, by rw [e1], by omega, by rw [H4.out]; decide, fun _ => ⟨_, 0, rfl, by simp, fun k x hx => ⟨[.string x], rfl, fun j u hu => ?_⟩⟩⟩
    cases j with
    | succ j => simp at hu
    | zero =>
      simp at hu; subst hu
      have hc := cell_of_row ((w.iter t t.size).alloc (.cells ((Lib.charsB t).map Value.string).toArray 9)) (w.iter t t.size).heap.size k ((Lib.charsB t).map Value.string).toArray 9 (0, 0) (heap_alloc_new _ _)
      have hx' : (Lib.charsB t)[k]? = some x := hx
      have hk : ((Lib.charsB t).map Value.string).toArray[k]? = some (Value.string x) := by rw [List.getElem?_toArray, List.getElem?_map, hx']; rfl
      rw [hk] at hc
      simpa [StrE] using hc
  · have : Below w.heap.size w (w.iter t t.size) := (Below.refl _ _).alloc (Nat.le_refl _) _
    exact this.alloc (by simp [World.iter]) _
end Go.Proofs.YtfapnipmgmpgaaaGreatDoor

namespace Go.Proofs.YtfapnipmgmpgaaaGreatDoor
open Go.RowKit

def CRes (s : Option (List GRule)) (w : World) (e : Ending) (w' : World) : Prop :=
  Below w.heap.size w w' ∧ ∃ v out c, OwnRules w' w.heap.size v out ∧ CodeIs s out c ∧ e = .returned (.tuple #[.agg #[v], .int .i64 c])
/-- The cells of an edit. -/
def editCells (e : GEdit) (vR : Value) : Array Value := #[.int .i64 e.kind, .int .i64 e.i, .int .i64 e.j, .int .i64 e.k, vR, .string e.map]
theorem tabB {P : Program} {w w' : World} {nm : String} {k : IntKind} {zs : List Int} (h : Lib.TabIs P w nm k zs) (hb : Below w.heap.size w w') : Lib.TabIs P w' nm k zs := by
  unfold Lib.TabIs World.var? at h ⊢
  obtain ⟨g, hg, h2⟩ := Option.bind_eq_some_iff.1 h
  rw [hg]
  simp only [Option.bind_some]
  have hlt : g < w.heap.size := by
    rcases Nat.lt_or_ge g w.heap.size with h' | h'
    · exact h'
    · rw [Array.getElem?_eq_none h'] at h2; cases h2
  rw [hb.block g hlt]; exact h2
theorem gram_len400 {p : List GRule} (h : gramOk p = true) : p.length ≤ 400 := (gram_lens h).1
set_option maxRecDepth 100000 in
set_option maxHeartbeats 1000000 in
theorem chg_any (E : Nat) (e : GEdit) (vR vP : Value) (p : List GRule) (w : World) (hE : Blk w E (editCells e vR) 36) (hP : Sl RuleE w w.heap.size vP p) (hg : gramOk p = true) (hk : e.kind = 5 ∨ (e.kind = 6 ∧ 0 ≤ e.k ∧ e.k ≤ 1000000000000000) ∨ (e.kind = 7 ∧ wordOk e.map = true ∧ e.map.size = 4))
    (htab : Lib.TabIs Tryz.prog w "math/bits.deBruijn64tab" .u8 deB64) :
    Calls Tryz.prog 93 #[.agg #[vP], .pointer (some ⟨E, 0, none⟩)] w (CRes (chgO e p) w) := by
  have HP := Lib.hid hP
  have HG := Lib.hid hg
  have HT := Lib.hid htab
  have hp4 := gram_len400 hg
  obtain ⟨AP, cP, rfl, _⟩ := hP
  have lE := hE.lt
  clear hg htab
  rcases hk with hk | ⟨hk, hk0, hk1⟩ | ⟨hk, hm, hm4⟩
  · have hc : chgO e p = some (p.map turnR) := by unfold chgO; rw [if_pos hk]
    have HC := Lib.hid hc
    have x0 : w.cell? ⟨E, 0, none⟩ = some (.int .i64 5) := by rw [← hk]; exact hE.cell rfl
    clear hE hc hk
    go_enter Tryz.func93, Tryz.ntmps93
    go_wp2_with fail
    refine (turnedOver_any _ p _ (HP.out.up (by repeat (first | exact Below.refl _ _ | (refine Below.alloc ?_ (by first | omega | (simp; done) | (simp; omega)) _) | (refine Below.setCell ?_ (by first | exact Nat.le_refl _ | (show _ ≤ _; omega) | (simp; done) | (simp; omega)) _) | refine below_drewN ?_ _ | refine Below.drew ?_))) (by omega)).mono ?_
    rintro e w1 ⟨v1, rfl, own1, hb_1⟩
    have KR_2 : Blk w1 (w.heap.size + 1) #[.slice none 0 0] 31 := by have := (Below.unalloc hb_1).2; simpa [Blk] using this
    replace hb_1 := (Below.unalloc hb_1).1
    have KP_3 : Blk w1 (w.heap.size) #[.slice AP p.length cP] 31 := by have := (Below.unalloc hb_1).2; simpa [Blk] using this
    replace hb_1 := (Below.unalloc hb_1).1
    have z_w1 : w.heap.size ≤ w1.heap.size := hb_1.size
    have KB_4 := Lib.hid hb_1
    have HO := Lib.hid own1
    obtain ⟨A1, c1, rfl, _⟩ := own_nil own1
    clear own1 x0
    have cR0_5 := Blk.cell (i := 0) (v := .slice none 0 0) KR_2 rfl
    have zR0_6 := Blk.frozen KR_2 0
    have lR_7 := Blk.lt KR_2
    go_wp2_with fail
    refine bodyPost_ret (v := .tuple #[.agg #[.slice A1 (p.map turnR).length c1], .int .i64 0]) (by simp [results, Tryz.results93, go_sem, cR0_5]) rfl ⟨KB_4.out.setCell (by show w.heap.size ≤ w.heap.size + 1; omega) _, _, _, _, ?_, by rw [HC.out]; exact .inl ⟨rfl, rfl, gramOk_turn HG.out⟩, rfl⟩
    exact ownsRow_more (ownsRow_setCell_below HO.out (a := ⟨w.heap.size + 1, 0, none⟩) (by simp) _) (by simp; omega)
  · have hn5 : ¬ e.kind = 5 := by omega
    have hc : chgO e p = limO (powG p e.k.toNat) := by unfold chgO; rw [if_neg hn5, if_pos hk]
    have hpc : powOut p e.k = limOut (powG p e.k.toNat) ∧ powCode p e.k = limCode (powG p e.k.toNat) := by
      have hb : inB e.k 0 1000000000000000 = true := by simp [inB]; omega
      unfold powOut powCode; simp [HG.out, hb]
    have HC := Lib.hid hc
    have HPC := Lib.hid hpc
    have x0 : w.cell? ⟨E, 0, none⟩ = some (.int .i64 6) := by rw [← hk]; exact hE.cell rfl
    have x3 := hE.cell (i := 3) (v := .int .i64 e.k) rfl
    have hEk := hE
    clear hE hc hk hn5 hpc
    go_enter Tryz.func93, Tryz.ntmps93
    go_wp2_with fail
    refine (implPower_any _ p e.k _ (HP.out.up (by repeat (first | exact Below.refl _ _ | (refine Below.alloc ?_ (by first | omega | (simp; done) | (simp; omega)) _) | (refine Below.setCell ?_ (by first | exact Nat.le_refl _ | (show _ ≤ _; omega) | (simp; done) | (simp; omega)) _) | refine below_drewN ?_ _ | refine Below.drew ?_))) (by omega) (tabB HT.out (by repeat (first | exact Below.refl _ _ | (refine Below.alloc ?_ (by first | omega | (simp; done) | (simp; omega)) _) | (refine Below.setCell ?_ (by first | exact Nat.le_refl _ | (show _ ≤ _; omega) | (simp; done) | (simp; omega)) _) | refine below_drewN ?_ _ | refine Below.drew ?_)))).mono ?_
    rintro e w1 ⟨hb_8, v1, own1, rfl⟩
    have KR_9 : Blk w1 (w.heap.size + 1) #[.slice none 0 0] 31 := by have := (Below.unalloc hb_8).2; simpa [Blk] using this
    replace hb_8 := (Below.unalloc hb_8).1
    have KP_10 : Blk w1 (w.heap.size) #[.slice AP p.length cP] 31 := by have := (Below.unalloc hb_8).2; simpa [Blk] using this
    replace hb_8 := (Below.unalloc hb_8).1
    have z_w1 : w.heap.size ≤ w1.heap.size := hb_8.size
    have KE_11 := Blk.up hEk hb_8
    have KB_12 := Lib.hid hb_8
    clear hEk
    have HO := Lib.hid own1
    obtain ⟨A1, c1, rfl, _⟩ := own_nil own1
    clear own1 x0
    have cR0_13 := Blk.cell (i := 0) (v := .slice none 0 0) KR_9 rfl
    have zR0_14 := Blk.frozen KR_9 0
    have lR_15 := Blk.lt KR_9
    go_wp2_with fail
    refine bodyPost_ret (v := .tuple #[.agg #[.slice A1 (powOut p e.k).length c1], .int .i64 (powCode p e.k)]) (by simp [results, Tryz.results93, go_sem, cR0_13]) rfl ⟨KB_12.out.setCell (by show w.heap.size ≤ w.heap.size + 1; omega) _, _, powOut p e.k, powCode p e.k, ?_, by rw [HC.out, HPC.out.1, HPC.out.2]; exact codeIs_lim _, rfl⟩
    exact ownsRow_more (ownsRow_setCell_below HO.out (a := ⟨w.heap.size + 1, 0, none⟩) (by simp) _) (by simp; omega)
  · have hn5 : ¬ e.kind = 5 := by omega
    have hn6 : ¬ e.kind = 6 := by omega
    have hc : chgO e p = mapO p (mapW e.map) := by unfold chgO; rw [if_neg hn5, if_neg hn6]
    have hwm := map_words hm hm4
    have HC := Lib.hid hc
    have HWM := Lib.hid hwm
    have HM := Lib.hid hm
    have x0 : w.cell? ⟨E, 0, none⟩ = some (.int .i64 7) := by rw [← hk]; exact hE.cell rfl
    have hEk := hE
    clear hE hc hk hn5 hn6 hm hwm
    go_enter Tryz.func93, Tryz.ntmps93
    go_wp2_with fail
    have KE1 : Blk ((w.alloc (.cells #[.slice AP p.length cP] 31)).alloc (.cells #[.slice none 0 0] 31)) E (editCells e vR) 36 := (hEk.alloc _).alloc _
    have cE5 := Blk.cell (i := 5) (v := .string e.map) KE1 rfl
    go_region_law (first
      | (go_simp; go_at_call 97; (refine (mapWords_any e.map _ HM.out hm4).mono ?_); rintro e1 w1 ⟨vW, rfl, hW, hb1⟩; obtain ⟨hb2, KR1⟩ := Below.unalloc (Below.undrew hb1); obtain ⟨hb3, KP1⟩ := Below.unalloc hb2; have cP1 := Blk.cell (i := 0) (v := .slice AP p.length cP) KP1 rfl; have KR2 : Blk w1 (w.heap.size + 1) #[.slice none 0 0] 31 := (by simpa [Blk] using KR1); have lR2 := Blk.lt KR2)
      | (go_simp; go_at_call 96; (refine (implMap_any _ _ p (mapW e.map) _ (HP.out.up hb3) hW HG.out HWM.out.2 HWM.out.1).mono ?_); rintro e2 w2 ⟨hb4, v2, own2, rfl⟩; obtain ⟨A2, k2, rfl, _⟩ := own_nil own2; have KR3 := KR2.up hb4; have cR3 := KR3.cell (i := 0) (v := .slice none 0 0) rfl; have fR3 := KR3.frozen 0; have lR3 := KR3.lt))
    all_goals
      have HO := Lib.hid own2
      have HB := Lib.hid (Below.tr hb3 hb4)
      clear hb1 hb2 hb3 hb4 own2 KR1 KR2 KP1 cP1 hW cE5 KE1 KR3
      go_wp2_with fail
      refine bodyPost_ret (v := .tuple #[.agg #[.slice A2 (mapOut p (mapW e.map)).length k2], .int .i64 (mapCode p (mapW e.map))]) (by simp [results, Tryz.results93, go_sem, cR3]) rfl ⟨HB.out.setCell (by show w.heap.size ≤ w.heap.size + 1; omega) _, _, _, _, ?_, by rw [HC.out]; exact codeIs_map _ _, rfl⟩
      exact ownsRow_more (ownsRow_setCell_below HO.out (a := ⟨w.heap.size + 1, 0, none⟩) lR2 _) (by omega)
end Go.Proofs.YtfapnipmgmpgaaaGreatDoor

namespace Go.Proofs.YtfapnipmgmpgaaaGreatDoor
open Go.RowKit

set_option maxRecDepth 100000 in
set_option maxHeartbeats 2000000 in
theorem toEditO_any (v : Value) (e : GEdit) (w : World) (h : EditV w w.heap.size v e) (hl : e.part.length ≤ 1048576) :
    Calls Tryz.prog 13 #[v] w fun r w' => ∃ vR, r = .returned (.agg #[.int .i64 e.kind, .int .i64 e.i, .int .i64 e.j, .int .i64 e.k, vR, .string e.map]) ∧ OwnRules w' w.heap.size vR e.part ∧ Below w.heap.size w w' := by
  obtain ⟨k, i, j, kk, part, map⟩ := e
  obtain ⟨vR, rfl, hR⟩ := h
  simp only at hR hl ⊢
  have hB := fun o o' o'' => (((Below.refl w.heap.size w).alloc (Nat.le_refl _) o).alloc (by simp) o').alloc (by simp; omega) o''
  have HB := Lib.hid hB
  have HR := Lib.hid hR
  clear hB
  obtain ⟨AR, cR, rfl, _⟩ := hR
  go_enter Tryz.func13, Tryz.ntmps13
  go_wp2_with fail
  refine (toGrammar_any _ part _ ((HR.out.below (HB.out _ _ _)).le (by first | omega | (simp; done) | (simp; omega))) hl).mono ?_
  rintro r w1 ⟨v1, rfl, hown1, hb1⟩
  obtain ⟨A1, c1, rfl, _⟩ := own_nil hown1
  obtain ⟨hc1, hf1⟩ := bcell hb1
  have hz1 : w.heap.size + 3 ≤ w1.heap.size := by have := hb1.size; simp at this; omega
  have Hown := Lib.hid hown1
  have HB1 := Lib.hid ((HB.out _ _ _).trans (hb1.mono (by simp; omega)))
  have hx : w.heap.size + 1 + 1 < w1.heap.size := by omega
  have hy : w.heap.size + 1 < w1.heap.size := by omega
  have hw0 : w.heap.size < w1.heap.size := by omega
  have p5 : w1.cell? ⟨w.heap.size, 5, none⟩ = some (.string map) := by rw [hc1 _ _ (by simp; omega)]; simp [go_sem]
  have e0 : w1.cell? ⟨w.heap.size + 1 + 1, 0, none⟩ = some (.int .i64 k) := by rw [hc1 _ _ (by simp)]; simp [go_sem]
  have e1 : w1.cell? ⟨w.heap.size + 1 + 1, 1, none⟩ = some (.int .i64 i) := by rw [hc1 _ _ (by simp)]; simp [go_sem]
  have e2 : w1.cell? ⟨w.heap.size + 1 + 1, 2, none⟩ = some (.int .i64 j) := by rw [hc1 _ _ (by simp)]; simp [go_sem]
  have e3 : w1.cell? ⟨w.heap.size + 1 + 1, 3, none⟩ = some (.int .i64 kk) := by rw [hc1 _ _ (by simp)]; simp [go_sem]
  have e4 : w1.cell? ⟨w.heap.size + 1 + 1, 4, none⟩ = some (.slice none 0 0) := by rw [hc1 _ _ (by simp)]; simp [go_sem]
  have e5 : w1.cell? ⟨w.heap.size + 1 + 1, 5, none⟩ = some (.string ⟨#[]⟩) := by rw [hc1 _ _ (by simp)]; simp [go_sem]
  have r0 : w1.cell? ⟨w.heap.size + 1, 0, none⟩ = some (.int .i64 0) := by rw [hc1 _ _ (by simp)]; simp [go_sem]
  have r1 : w1.cell? ⟨w.heap.size + 1, 1, none⟩ = some (.int .i64 0) := by rw [hc1 _ _ (by simp)]; simp [go_sem]
  have r2 : w1.cell? ⟨w.heap.size + 1, 2, none⟩ = some (.int .i64 0) := by rw [hc1 _ _ (by simp)]; simp [go_sem]
  have r3 : w1.cell? ⟨w.heap.size + 1, 3, none⟩ = some (.int .i64 0) := by rw [hc1 _ _ (by simp)]; simp [go_sem]
  have r4 : w1.cell? ⟨w.heap.size + 1, 4, none⟩ = some (.slice none 0 0) := by rw [hc1 _ _ (by simp)]; simp [go_sem]
  have r5 : w1.cell? ⟨w.heap.size + 1, 5, none⟩ = some (.string ⟨#[]⟩) := by rw [hc1 _ _ (by simp)]; simp [go_sem]
  have fx : ∀ o, w1.frozen? ⟨w.heap.size + 1 + 1, o, none⟩ = false := fun o => by rw [hf1 _ _ (by simp)]; simp [go_sem]
  have fy : ∀ o, w1.frozen? ⟨w.heap.size + 1, o, none⟩ = false := fun o => by rw [hf1 _ _ (by simp)]; simp [go_sem]
  clear hb1 hc1 hf1 hown1
  go_wp2
  refine bodyPost_ret (v := .agg #[.int .i64 k, .int .i64 i, .int .i64 j, .int .i64 kk, .slice A1 part.length c1, .string map]) (by simp [results, Tryz.results13, go_sem, r0, r1, r2, r3, r4, r5]) rfl ⟨_, rfl, ?_, ?_⟩
  · exact ownsRow_more (ownsRow_setCell_below (ownsRow_setCell_below (ownsRow_setCell_below (ownsRow_setCell_below (ownsRow_setCell_below (ownsRow_setCell_below (ownsRow_setCell_below (ownsRow_setCell_below (ownsRow_more Hown.out (base' := w.heap.size + 3) (by simp)) (by show w.heap.size + 1 + 1 < w.heap.size + 3; omega) _) (by show w.heap.size + 1 + 1 < w.heap.size + 3; omega) _) (by show w.heap.size + 1 < w.heap.size + 3; omega) _) (by show w.heap.size + 1 < w.heap.size + 3; omega) _) (by show w.heap.size + 1 < w.heap.size + 3; omega) _) (by show w.heap.size + 1 < w.heap.size + 3; omega) _) (by show w.heap.size + 1 < w.heap.size + 3; omega) _) (by show w.heap.size + 1 < w.heap.size + 3; omega) _) (by omega)
  · exact (Below.setCell (Below.setCell (Below.setCell (Below.setCell (Below.setCell (Below.setCell (Below.setCell (Below.setCell HB1.out (by show w.heap.size ≤ w.heap.size + 1 + 1; omega) _) (by show w.heap.size ≤ w.heap.size + 1 + 1; omega) _) (by show w.heap.size ≤ w.heap.size + 1; omega) _) (by show w.heap.size ≤ w.heap.size + 1; omega) _) (by show w.heap.size ≤ w.heap.size + 1; omega) _) (by show w.heap.size ≤ w.heap.size + 1; omega) _) (by show w.heap.size ≤ w.heap.size + 1; omega) _) (by show w.heap.size ≤ w.heap.size + 1; omega) _)
end Go.Proofs.YtfapnipmgmpgaaaGreatDoor

namespace Go.Proofs.YtfapnipmgmpgaaaGreatDoor
open Go.RowKit

def usesS (k : Int) : ByteArray := if k = 1 then ⟨#[73, 80]⟩ else if k = 2 then ⟨#[73, 74]⟩ else if k = 3 then ⟨#[73, 74, 75]⟩ else if k = 4 then ⟨#[73, 74, 75]⟩ else if k = 5 then ⟨#[73, 74]⟩ else if k = 6 then ⟨#[73, 74, 75]⟩ else ⟨#[73, 74, 77]⟩
def hasByte (s : ByteArray) (b : UInt8) : Bool := s.data.toList.any (· == b)
theorem uses_has {k : Int} (h : inR k 1 7 = true) : hasByte (usesS k) 74 = usesJ k ∧ hasByte (usesS k) 75 = usesK k ∧ hasByte (usesS k) 80 = (k == 1) ∧ hasByte (usesS k) 77 = (k == 7) ∧ (usesS k).size ≤ 3 := by
  rcases kind7 h with rfl | rfl | rfl | rfl | rfl | rfl | rfl <;> decide
set_option maxRecDepth 100000 in
set_option maxHeartbeats 4000000 in
theorem l07Uses_any (k : Int) (w : World) (h : inR k 1 7 = true) :
    Calls Tryz.prog 67 #[.int .i64 k] w fun e w' => e = .returned (.string (usesS k)) ∧ Below w.heap.size w w' := by
  rcases kind7 h with rfl | rfl | rfl | rfl | rfl | rfl | rfl <;>
  · clear h
    go_enter Tryz.func67, Tryz.ntmps67
    go_wp2
    go_ret
    exact ⟨rfl, (by repeat (first | exact Below.refl _ _ | (refine Below.alloc ?_ (by first | omega | (simp; done) | (simp; omega)) _) | refine below_drewN ?_ _ | refine Below.drew ?_))⟩

theorem has_true {s : ByteArray} {b : UInt8} {k : Nat} (h : k < s.size) (e : s[k] = b) : hasByte s b = true := by
  unfold hasByte
  rw [List.any_eq_true]
  exact ⟨s[k], by rw [Array.mem_toList_iff]; exact Array.getElem_mem h, by simp [e]⟩
theorem has_false {s : ByteArray} {b : UInt8} (h : ∀ j (hj : j < s.size), s[j] ≠ b) : hasByte s b = false := by
  unfold hasByte
  rw [List.any_eq_false]
  intro x hx
  rw [Array.mem_toList_iff] at hx
  obtain ⟨j, hj, rfl⟩ := Array.getElem_of_mem hx
  have := h j hj
  simp only [beq_iff_eq]
  exact this
set_option maxRecDepth 100000 in
theorem l07Has_any (s : ByteArray) (b : UInt8) (w : World) (hs : s.size ≤ maxLen) :
    Calls Tryz.prog 80 #[.string s, .int .u8 b.toNat] w fun e w' => e = .returned (.bool (hasByte s b)) ∧ w = w' := by
  unfold maxLen at hs
  go_enter Tryz.func80, Tryz.ntmps80
  go_wp2_with fail
  go_loop [5] (fun i => ∃ k : Nat, k ≤ s.size ∧ i = .int .i64 k ∧ ∀ j (hj : j < s.size), j < k → s[j] ≠ b) (fun i => s.size - (intOf i).toNat)
  case atStart => exact ⟨0, Nat.zero_le _, rfl, fun j hj h => absurd h (by omega)⟩
  case round =>
    obtain ⟨k, hk, rfl, hno⟩ := hrel
    have Hno := Lib.hid hno
    clear hno
    by_cases hlt : k < s.size
    · by_cases hp : s[k] = b
      · have Hp := Lib.hid hp
        have g : ((s[k].toNat : Int) == (b.toNat : Int)) = true := by rw [hp]; simp
        clear hp
        go_wp2
        go_ret
        exact ⟨ret_bool (has_true hlt Hp.out).symm, rfl⟩
      · have Hp := Lib.hid hp
        have g : ((s[k].toNat : Int) == (b.toNat : Int)) = false := by
          rw [beq_eq_false_iff_ne]; intro h
          exact hp (UInt8.toNat_inj.1 (by omega))
        clear hp
        go_wp2
        go_round
        case rel =>
          refine ⟨k + 1, by omega, by go_num, fun j hj h => ?_⟩
          by_cases e : j = k
          · subst e; exact Hp.out
          · exact Hno.out j hj (by omega)
        case measure => simp [intOf]; omega
    · go_wp2
      go_ret
      exact ⟨ret_bool (has_false (fun j hj => Hno.out j hj (by omega))).symm, rfl⟩

theorem l07Number_any (n : Int) (b : Bool) (w : World) :
    Calls Tryz.prog 79 #[.int .i64 n, .bool b] w fun r w' => r = .returned (.bool (numOk n b)) ∧ w = w' := by
  cases b
  · go_enter Tryz.func79, Tryz.ntmps79
    go_wp2_with fail
    go_ret
    exact ⟨rfl, rfl⟩
  · go_enter Tryz.func79, Tryz.ntmps79
    go_wp2_with fail
    refine (l00In_any _ _ _ _).mono ?_
    rintro r w' ⟨rfl, rfl⟩
    go_wp2_with fail
    go_ret
    exact ⟨rfl, rfl⟩

/-- An edit at an address, below B. -/
structure EditAt (w : World) (B b : Nat) (e : GEdit) (vR : Value) : Prop where
  box : Box6 w b (.int .i64 e.kind) (.int .i64 e.i) (.int .i64 e.j) (.int .i64 e.k) vR (.string e.map)
  lt : b < B
  sl : Sl RuleE w B vR e.part
theorem EditAt.up {w w' : World} {b : Nat} {e : GEdit} {vR : Value} (h : EditAt w w.heap.size b e vR) (hb : Below w.heap.size w w') : EditAt w' w'.heap.size b e vR :=
  ⟨h.box.up hb h.lt, Nat.lt_of_lt_of_le h.lt hb.size, h.sl.up hb⟩

end Go.Proofs.YtfapnipmgmpgaaaGreatDoor

