import Derived.Test.YtfkijaamfmpboaaM3
import Derived.Test.YtfkijaamfmpboaaM1
import Derived.BigQuiet
import Derived.Test.YtfkijaamfmpboaaM2
import Derived.WalkSmall
import Derived.Lib.OthersKept
import Derived.Deep.CutRange
import Derived.Deep.DeepCutAuto
import Derived.WalkArith
namespace Go.Proofs.Ytfkijaamfmpboaa
open Go.RowKit
section
variable {w1 wx w' : World} {n S bo B bO : Nat} {R : Nat → Nat} {st : List (List Nat) × List Nat}
end
def behind (a m : Int) : Int := if m < 0 then -1 else a + m
theorem Row.take {α : Type} {E : Enc α} {w : World} {S : Nat → Prop} {A : Option Addr} {xs : List α} (h : Row E w S A xs) (m : Nat) : Row E w S A (xs.take m) := fun hn => by
  obtain ⟨b, o, rfl, hlt, hc⟩ := h (by simp at hn; omega)
  refine ⟨b, o, rfl, hlt, fun k x hx => hc k x ?_⟩
  rw [List.getElem?_take] at hx
  split at hx
  · exact hx
  · cases hx
def binL (n : Nat) : List UInt8 := if h : n < 2 then [UInt8.ofNat (48 + n)] else binL (n / 2) ++ [UInt8.ofNat (48 + n % 2)]
termination_by n
decreasing_by omega
theorem binL_lt {n : Nat} (h : n < 2) : binL n = [UInt8.ofNat (48 + n)] := by rw [binL, dif_pos h]
theorem binL_ge {n : Nat} (h : ¬ n < 2) : binL n = binL (n / 2) ++ [UInt8.ofNat (48 + n % 2)] := by rw [binL, dif_neg h]
def powStep (root : Int) (L : List GRule) (d : UInt8) : List GRule := L ++ [pairR ((L.length : Int) - 1) ((L.length : Int) - 1)] ++ (if d = 49 then [pairR (L.length : Int) root] else [])
def powG (xs : List GRule) (n : Nat) : List GRule := if n = 0 ∨ xs.length = 0 then [] else (binL n).tail.foldl (powStep ((xs.length : Int) - 1)) xs
theorem binL_len (n : Nat) : ∀ k, n < 2 ^ k → 1 ≤ k → (binL n).length ≤ k := by
  induction n using Nat.strongRecOn with
  | ind n ih =>
    intro k hk h1
    by_cases c : n < 2
    · rw [binL_lt c]; simpa using h1
    · rw [binL_ge c, List.length_append]
      have hk2 : 2 ≤ k := by
        rcases Nat.lt_or_ge k 2 with h | h
        · have : k = 1 := by omega
          subst this; simp at hk; omega
        · exact h
      obtain ⟨j, rfl⟩ : ∃ j, k = j + 1 := ⟨k - 1, by omega⟩
      rw [Nat.pow_succ] at hk
      have := ih (n / 2) (by omega) j (by omega) (by omega)
      simp; omega
theorem binL_pos (n : Nat) : 1 ≤ (binL n).length := by
  by_cases c : n < 2
  · rw [binL_lt c]; simp
  · rw [binL_ge c]; simp
theorem powStep_len (root : Int) (L : List GRule) (d : UInt8) : (powStep root L d).length ≤ L.length + 2 := by
  unfold powStep; split <;> simp
theorem powFold_len (root : Int) : ∀ (ds : List UInt8) (L : List GRule), (ds.foldl (powStep root) L).length ≤ L.length + 2 * ds.length := by
  intro ds
  induction ds with
  | nil => intro L; simp
  | cons d ds ih =>
    intro L
    have h1 := ih (powStep root L d)
    have h2 := powStep_len root L d
    simp only [List.foldl_cons, List.length_cons]
    omega
def inB (n a b : Int) : Bool := decide (a ≤ n) && decide (n ≤ b)
theorem l00InY (n a b : Int) (r : Bool) (w : World) (h : inB n a b = r) : Calls Try.prog 28 #[.int .i64 n, .int .i64 a, .int .i64 b] w fun e w' => e = .returned (.bool r) ∧ w = w' :=
  (l00In_any n a b w).mono fun _ _ ⟨he, hw⟩ => ⟨by rw [he, ← h]; rfl, hw⟩
def powOut (xs : List GRule) (t : Int) : List GRule := if gramOk xs && inB t 0 1000000000000000 then limOut (powG xs t.toNat) else []
def powCode (xs : List GRule) (t : Int) : Int := if gramOk xs then if inB t 0 1000000000000000 then limCode (powG xs t.toNat) else 2 else 1
theorem binL_lo (n : Nat) : 0 < n → ∀ d, d < (binL n).length → 0 < n / 2 ^ d := by
  induction n using Nat.strongRecOn with
  | ind n ih =>
    intro hn d hd
    by_cases c : n < 2
    · rw [binL_lt c] at hd
      have : d = 0 := by simpa using hd
      subst this; simpa using hn
    · rw [binL_ge c, List.length_append] at hd
      cases d with
      | zero => simpa using hn
      | succ d =>
        have := ih (n / 2) (by omega) (by omega) d (by simp at hd; omega)
        rw [Nat.pow_succ, Nat.mul_comm, ← Nat.div_div_eq_div_mul]
        exact this
theorem binL_hi (n : Nat) : n / 2 ^ (binL n).length = 0 := by
  induction n using Nat.strongRecOn with
  | ind n ih =>
    by_cases c : n < 2
    · rw [binL_lt c]
      have : n / 2 = 0 := by omega
      simpa using this
    · rw [binL_ge c, List.length_append]
      have := ih (n / 2) (by omega)
      show n / 2 ^ ((binL (n / 2)).length + 1) = 0
      rw [Nat.pow_succ, Nat.mul_comm, ← Nat.div_div_eq_div_mul]
      exact this
theorem binL_get (n : Nat) : ∀ j, j < (binL n).length → (binL n)[(binL n).length - 1 - j]? = some (UInt8.ofNat (48 + n / 2 ^ j % 2)) := by
  induction n using Nat.strongRecOn with
  | ind n ih =>
    intro j hj
    by_cases c : n < 2
    · rw [binL_lt c] at hj ⊢
      have : j = 0 := by simpa using hj
      subst this
      have : n % 2 = n := by omega
      simp [this]
    · rw [binL_ge c] at hj ⊢
      rw [List.length_append] at hj ⊢
      cases j with
      | zero => simp
      | succ j =>
        have h1 := ih (n / 2) (by omega) j (by simp at hj; omega)
        have e : (binL (n / 2)).length + [UInt8.ofNat (48 + n % 2)].length - 1 - (j + 1) = (binL (n / 2)).length - 1 - j := by simp; omega
        rw [e, List.getElem?_append_left (by simp at hj; omega), h1, Nat.pow_succ, Nat.mul_comm, ← Nat.div_div_eq_div_mul]
theorem and_oneI (i : Nat) (hi : i < 9223372036854775808) : bits BinOp.and IntKind.i64 (i : Int) 1 = ((i % 2 : Nat) : Int) := by
  have e63 : (2 : Int) ^ 63 = 9223372036854775808 := by decide
  have h := bits_mask .i64 63 (by decide) (fun n h0 h1 => by rw [e63] at h1; rw [IntKind.wrap_i64]; omega) 1 (by decide) (i : Int) (by omega) (by rw [e63]; omega)
  have e : ((2 : Int) ^ 1 - 1) = 1 := by decide
  rw [e] at h
  rw [h]
  omega
theorem shr_nat (n d : Nat) : ((n : Int) / 2 ^ d) = ((n / 2 ^ d : Nat) : Int) := by
  rw [Int.natCast_ediv]; simp
theorem powStep_small {root : Int} {L : List GRule} {d : UInt8} (h : SmallL L) : SmallL (powStep root L d) := by
  unfold powStep
  split <;> intro r hr <;> simp at hr
  · rcases hr with hr | rfl | rfl
    · exact h r hr
    · exact (by decide : (0 : Nat) ≤ 9223372036854775807)
    · exact (by decide : (0 : Nat) ≤ 9223372036854775807)
  · rcases hr with hr | rfl
    · exact h r hr
    · exact (by decide : (0 : Nat) ≤ 9223372036854775807)
theorem powFold_small {root : Int} : ∀ (ds : List UInt8) {L : List GRule}, SmallL L → SmallL (ds.foldl (powStep root) L)
  | [], _, h => h
  | d :: ds, _, h => powFold_small ds (powStep_small (d := d) h)
theorem powG_small {xs : List GRule} (n : Nat) (h : SmallL xs) : SmallL (powG xs n) := by
  unfold powG
  split
  · intro r hr; simp at hr
  · exact powFold_small _ h
set_option maxRecDepth 100000 in
set_option maxHeartbeats 4000000 in
theorem specPower_any (v : Value) (xs : List GRule) (t : Int) (w : World) (h : Sl RuleE w w.heap.size v xs) (hn : xs.length ≤ 1048576) (hs : SmallL xs) :
    Calls Try.prog 83 #[.agg #[v], .int .i64 t] w (GRes (powOut xs t) (powCode xs t) w) := by
  have h1 := fun o o' => (h.below (((Below.refl w.heap.size w).alloc (Nat.le_refl _) o).alloc (by simp) o')).le (B' := ((w.alloc o).alloc o').heap.size) (by simp; omega)
  have H1 := Lib.hid h1
  have Hs := Lib.hid hs
  clear h1 hs
  obtain ⟨A, c, rfl, hc, hm, hrow⟩ := h
  clear hm hrow
  go_enter Try.func83, Try.ntmps83
  go_wp2_with fail
  refine (l02Ok_any _ _ _ _ _ (by simp [go_sem]) (by first | omega | (simp; done) | (simp; omega)) (H1.out _ _) Hs.out).mono ?_
  rintro e w1 ⟨rfl, hb1⟩
  obtain ⟨hc1, hf1⟩ := bcell hb1
  have hz1 : w.heap.size + 1 < w1.heap.size := by have := hb1.size; simp at this; omega
  have a1 : w1.cell? ⟨w.heap.size, 0, none⟩ = some (.slice A xs.length c) := by rw [hc1 _ _ (by first | omega | (simp; done) | (simp; omega))]; simp [go_sem]
  have c1 : w1.cell? ⟨w.heap.size + 1, 0, none⟩ = some (.slice none 0 0) := by rw [hc1 _ _ (by first | omega | (simp; done) | (simp; omega))]; simp [go_sem]
  have f1 : w1.frozen? ⟨w.heap.size + 1, 0, none⟩ = false := by rw [hf1 _ _ (by first | omega | (simp; done) | (simp; omega))]; simp [go_sem]
  have S1 := Lib.hid ((H1.out (Obj.cells #[Value.slice A xs.length c] 30) (Obj.cells #[Value.slice none 0 0] 30)).up hb1)
  have B1 := Lib.hid (((Below.refl w.heap.size w).alloc (Nat.le_refl _) (Obj.cells #[Value.slice A xs.length c] 30)).alloc (by simp) (Obj.cells #[Value.slice none 0 0] 30) |>.trans (hb1.mono (by simp; omega)))
  clear hc1 hf1 hb1
  by_cases hok : gramOk xs = true
  · have hok2 : (!gramOk xs) = false := by simp [hok]
    have Hok := Lib.hid hok
    clear hok
    go_wp2_with fail
    by_cases hin : inB t 0 1000000000000000 = true
    · have Hin := Lib.hid hin
      have ht : 0 ≤ t ∧ t ≤ 1000000000000000 := by simpa [inB] using hin
      obtain ⟨n, rfl⟩ := Int.eq_ofNat_of_zero_le ht.1
      have hn60 : n < 1152921504606846976 := by omega
      clear hin ht
      refine (l00InY _ _ _ _ _ Hin.out).mono ?_
      rintro e w' ⟨rfl, rfl⟩
      have e1 : powOut xs n = limOut (powG xs n) := by rw [powOut, Hok.out, Hin.out]; rfl
      have e2 : powCode xs n = limCode (powG xs n) := by rw [powCode, Hok.out, Hin.out]; rfl
      have E1 := Lib.hid e1
      have E2 := Lib.hid e2
      clear e1 e2
      by_cases h0 : n = 0 ∨ xs.length = 0
      · have hg : powG xs n = [] := by rw [powG, if_pos h0]
        have hlo : limOut (powG xs n) = [] := by rw [hg]; rfl
        have hlc : limCode (powG xs n) = 0 := by rw [hg]; rfl
        have Hg := Lib.hid hg
        have Ho := Lib.hid hlo
        have Hc := Lib.hid hlc
        clear hg hlo hlc
        by_cases hz : n = 0
        · subst hz
          clear h0
          go_wp2_with fail
          have e3 : powOut xs 0 = [] := by
            have e : powOut xs ((0 : Nat) : Int) = [] := by rw [E1.out, Ho.out]
            exact e
          have e4 : powCode xs 0 = 0 := by
            have e : powCode xs ((0 : Nat) : Int) = 0 := by rw [E2.out, Hc.out]
            exact e
          refine bodyPost_ret (v := .tuple #[.agg #[.slice none 0 0], .int .i64 0]) (by simp [results, Try.results83, go_sem, c1]) rfl ⟨?_, .slice none 0 0, ?_, by simp [e4]⟩
          · exact B1.out.setCell (by show w.heap.size ≤ w.heap.size + 1; omega) _
          · simp [e3]; exact World.ownsRow_nil _ _ _ _
        · have hx : xs.length = 0 := by omega
          have g0 : ((n : Int) == 0) = false := by rw [beq_eq_false_iff_ne]; omega
          have g1 : ((xs.length : Int) == 0) = true := by simp [hx]
          clear h0 hx
          go_wp2_with fail
          refine bodyPost_ret (v := .tuple #[.agg #[.slice none 0 0], .int .i64 0]) (by simp [results, Try.results83, go_sem, c1]) rfl ⟨?_, _, ?_, by rw [E2.out, Hc.out]⟩
          · exact B1.out.setCell (by show w.heap.size ≤ w.heap.size + 1; omega) _
          · rw [E1.out, Ho.out]; exact World.ownsRow_nil _ _ _ _
      · have hg : powG xs n = (binL n).tail.foldl (powStep ((xs.length : Int) - 1)) xs := by rw [powG, if_neg h0]
        have Hg := Lib.hid hg
        have g0 : ((n : Int) == 0) = false := by rw [beq_eq_false_iff_ne]; omega
        have g1 : ((xs.length : Int) == 0) = false := by rw [beq_eq_false_iff_ne]; omega
        have hwx : IntKind.i64.wrap ((xs.length : Int) - 1) = (xs.length : Int) - 1 := IntWalk.i64_in _ (by omega)
        have hn0 : 0 < n := by omega
        have hhi := binL_hi n
        have hlo := binL_lo n hn0
        have hpos := binL_pos n
        have hxt := binL_len n 60 hn60 (by omega)
        have hget := binL_get n
        obtain ⟨BL, hBL⟩ : ∃ BL, binL n = BL := ⟨_, rfl⟩
        rw [hBL] at hhi hlo hpos hxt hget
        have HBL := Lib.hid hBL
        have Hhi := Lib.hid hhi
        have Hlo := Lib.hid hlo
        have Hget := Lib.hid hget
        clear hg hBL hhi hlo hget h0
        go_wp2_with fail
        refine (l02Own_any _ _ _ _ _ a1 (by omega) S1.out (by omega)).mono ?_
        rintro e w3 ⟨v3, rfl, own3, hb3⟩
        obtain ⟨A3, k3, rfl, _⟩ := own_nil own3
        have z3 : w1.heap.size ≤ w3.heap.size := hb3.size
        have hz3 : w.heap.size + 1 < w3.heap.size := by omega
        have a3 := cell_up a1 hb3 (by omega)
        have c3 := cell_up c1 hb3 (by omega)
        have f3 : w3.frozen? ⟨w.heap.size + 1, 0, none⟩ = false := by rw [hb3.frozen hz1, f1]
        have B3 := Lib.hid (B1.out.trans (hb3.mono (by omega)))
        have O3 := Lib.hid own3
        have y3 : w.heap.size < w3.heap.size := by omega
        clear a1 c1 f1 hb3 own3
        go_wp2_with fail
        go_loopw [8] (fun q wr => ∃ d : Nat, q = .int .i64 d ∧ d ≤ BL.length ∧ wr = w3.alloc (Obj.cells #[Value.slice A3 xs.length k3] 30)) (fun q _ => BL.length - (intOf q).toNat)
        case atStart => exact ⟨0, rfl, Nat.zero_le _, rfl⟩
        case round =>
          obtain ⟨d, rfl, hd, rfl⟩ := hrel
          by_cases hdl : d < BL.length
          · have hsh : (0 : Int) < (n : Int) / 2 ^ d := by rw [shr_nat]; have := Hlo.out d hdl; omega
            have hd60 : d < 64 := by omega
            go_wp2_with fail
            exact ⟨⟨d + 1, rfl, hdl, trivial⟩, by simp [intOf]; omega⟩
          · have hdn : d = BL.length := by omega
            subst hdn
            have hsh : ¬ ((0 : Int) < (n : Int) / 2 ^ BL.length) := by rw [shr_nat, Hhi.out]; decide
            obtain ⟨K, hK⟩ : ∃ K, w3.heap.size = K := ⟨_, rfl⟩
            have bx4 : Boxed (w3.alloc (Obj.cells #[Value.slice A3 xs.length k3] 30)) K 30 (.slice A3 xs.length k3) := by rw [← hK]; exact Boxed.new _ _ _
            have own4 : OwnRules (w3.alloc (Obj.cells #[Value.slice A3 xs.length k3] 30)) w1.heap.size (.slice A3 xs.length k3) xs := O3.out.alloc _
            have b4 : Below w1.heap.size (w3.alloc (Obj.cells #[Value.slice A3 xs.length k3] 30)) (w3.alloc (Obj.cells #[Value.slice A3 xs.length k3] 30)) := Below.refl _ _
            have B4 := Lib.hid (B3.out.alloc (by omega) (Obj.cells #[Value.slice A3 xs.length k3] 30))
            have y4 : w.heap.size + 1 < (w3.alloc (Obj.cells #[Value.slice A3 xs.length k3] 30)).heap.size := by simp; omega
            have c4 : (w3.alloc (Obj.cells #[Value.slice A3 xs.length k3] 30)).cell? ⟨w.heap.size + 1, 0, none⟩ = some (.slice none 0 0) := by simp [go_sem, c3, hz3]
            have f4 : (w3.alloc (Obj.cells #[Value.slice A3 xs.length k3] 30)).frozen? ⟨w.heap.size + 1, 0, none⟩ = false := by simp [go_sem, f3, hz3]
            have hK1 : w1.heap.size ≤ K := by omega
            rw [hK]
            revert bx4 own4 b4 B4 y4 c4 f4
            generalize w3.alloc (Obj.cells #[Value.slice A3 xs.length k3] 30) = w4
            intro bx4 own4 b4 B4 y4 c4 f4
            clear a3 c3 f3 y3 hK hdl hd
            have h60 : BL.length ≤ 60 := hxt
            have hbl : BL.tail.length = BL.length - 1 := by simp
            go_wp2_with fail
            go_loopw [9, 10] (fun q u wr => ∃ (k : Nat) (vo : Value), q = .int .i64 ((BL.length : Int) - 2 - k) ∧ k ≤ BL.length - 1 ∧ Boxed wr K 30 vo ∧ OwnRules wr w1.heap.size vo ((BL.tail.take k).foldl (powStep ((xs.length : Int) - 1)) xs) ∧ Below w1.heap.size w4 wr) (fun q _ _ => (intOf q + 1).toNat)
            case atStart => exact ⟨0, _, by simp, Nat.zero_le _, bx4, by simpa using own4, b4⟩
            case round =>
              obtain ⟨k, vo, rfl, hk, hbox, hown, hb⟩ := hrel
              have Hb := Lib.hid hb
              have Hown := Lib.hid hown
              have Hbox := Lib.hid hbox
              have hll := powFold_len ((xs.length : Int) - 1) (BL.tail.take k) xs
              obtain ⟨L, hL⟩ : ∃ L, (BL.tail.take k).foldl (powStep ((xs.length : Int) - 1)) xs = L := ⟨_, rfl⟩
              have HL := Lib.hid hL
              have hlen : L.length ≤ 2000000 := by rw [← hL]; simp at hll; omega
              rw [hL] at Hown
              clear hb hown hbox hll hL
              by_cases hlt : k < BL.length - 1
              · obtain ⟨j, hj⟩ : ∃ j : Nat, (BL.length : Int) - 2 - k = j := ⟨BL.length - 2 - k, by omega⟩
                have hjl : j < BL.length := by omega
                have hgt := Hget.out j hjl
                have hgt' : BL.tail[k]? = some (UInt8.ofNat (48 + n / 2 ^ j % 2)) := by
                  rw [← hgt, List.getElem?_tail]; congr 1; omega
                have Hgt := Lib.hid hgt'
                have hand : bits BinOp.and IntKind.i64 ((n : Int) / 2 ^ j) 1 = ((n / 2 ^ j % 2 : Nat) : Int) := by
                  rw [shr_nat]; exact and_oneI _ (Nat.lt_of_le_of_lt (Nat.div_le_self _ _) (by omega))
                obtain ⟨D, hD⟩ : ∃ D, n / 2 ^ j % 2 = D := ⟨_, rfl⟩
                have hD2 : D = 0 ∨ D = 1 := by omega
                rw [hD] at hand Hgt
                obtain ⟨Ao, co, rfl, _⟩ := own_nil Hown.out
                have bxc := Hbox.out.cell
                have bxf := Hbox.out.frozen
                have hw1 : IntKind.i64.wrap ((L.length : Int) - 1) = (L.length : Int) - 1 := IntWalk.i64_in _ (by omega)
                have hw2 : IntKind.i64.wrap ((j : Int) - 1) = (j : Int) - 1 := IntWalk.i64_in _ (by omega)
                have Hll : Hid (L.length ≤ 1099511627775) := by rw [Hid]; omega
                have Hw4 := Lib.hid (show w1.heap.size ≤ w4.heap.size by have := bx4.lt; omega)
                have Hw0 := Lib.hid (show w1.heap.size ≤ wr.heap.size from Nat.le_trans (by have := bx4.lt; omega) Hb.out.size)
                have Hlen := Lib.hid hlen
                rw [hj]
                have Hj := Lib.hid hj
                have Hlt := Lib.hid hlt
                have hj60 : j < 64 := by omega
                clear hgt hgt' hD hlt hk hj
                have Hstep : Hid ((BL.tail.take (k + 1)).foldl (powStep ((xs.length : Int) - 1)) xs = powStep ((xs.length : Int) - 1) L (UInt8.ofNat (48 + D))) := by
                  rw [Hid, List.take_add_one, Hgt.out, List.foldl_append, HL.out]; rfl
                obtain ⟨M, hM⟩ : ∃ M, L ++ [pairR ((L.length : Int) - 1) ((L.length : Int) - 1)] = M := ⟨_, rfl⟩
                have hMl : M.length = L.length + 1 := by rw [← hM]; simp
                have HM := Lib.hid hM
                have HMl := Lib.hid hMl
                have Hml : Hid (M.length ≤ 1099511627775) := by rw [Hid]; have := Hlen.out; omega
                have HN := fun q : Int × Int => Lib.hid (show (M ++ [pairR q.1 q.2]).length = M.length + 1 by simp)
                have e0 : powStep ((xs.length : Int) - 1) L (UInt8.ofNat (48 + 0)) = M := by rw [← hM]; simp [powStep]
                have e1 : powStep ((xs.length : Int) - 1) L (UInt8.ofNat (48 + 1)) = M ++ [pairR (L.length : Int) ((xs.length : Int) - 1)] := by rw [← hM]; simp [powStep]
                have E3 := Lib.hid e0
                have E4 := Lib.hid e1
                have hm0 : (((j : Int) - 1) + 1).toNat < ((j : Int) + 1).toNat := by omega
                have Hm0 := Lib.hid hm0
                clear hM hMl e0 e1 hm0
                rcases hD2 with rfl | rfl
                · go_wp2_with (first
                    | (at_builtin; refine list_push_rule (base := w1.heap.size) (v := .slice Ao L.length co) rfl _ _ rfl (by rfl) (by rfl) rfl Hown.out Hll.out Hw0.out ?_; intro v5 w5 own5 hg5 hb5; go_loud (have bx5 : Boxed w5 K 30 _ := Boxed.grown Hbox.out (by decide) Hown.out hg5; obtain ⟨A5, c5, rfl, _⟩ := own_nil own5; have hcb5 := bx5.cell; have hfb5 := bx5.frozen; have hl5 := bx5.lt; have own6 := Lib.hid (own_put bx5 own5 HM.out HMl.out); have B6 : Hid (Below w1.heap.size w4 (w5.setCell ⟨K, 0, none⟩ (.slice A5 (L.length + 1) c5))) := ((Hb.out.alloc Hw0.out _).trans hb5).setCell hK1 _; have X6 : Hid (Boxed (w5.setCell ⟨K, 0, none⟩ (.slice A5 (L.length + 1) c5)) K 30 (.slice A5 (L.length + 1) c5)) := Boxed.set _ bx5; clear own5 hg5 hb5)))
                  refine ⟨⟨k + 1, _, by congr 1; have := Hj.out; omega, by have := Hlt.out; omega, X6.out, ?_, B6.out⟩, by simp only [intOf]; exact Hm0.out⟩
                  rw [Hstep.out, E3.out]; exact own6.out
                · go_wp2_with (first
                    | (at_builtin; refine list_push_rule (base := w1.heap.size) (v := .slice Ao L.length co) rfl _ _ rfl (by rfl) (by rfl) rfl Hown.out Hll.out Hw0.out ?_; intro v5 w5 own5 hg5 hb5; go_loud (have bx5 : Boxed w5 K 30 _ := Boxed.grown Hbox.out (by decide) Hown.out hg5; obtain ⟨A5, c5, rfl, _⟩ := own_nil own5; have hcb5 := bx5.cell; have hfb5 := bx5.frozen; have hl5 := bx5.lt; have own6 := Lib.hid (own_put bx5 own5 HM.out HMl.out); have B6 : Hid (Below w1.heap.size w4 (w5.setCell ⟨K, 0, none⟩ (.slice A5 (L.length + 1) c5))) := ((Hb.out.alloc Hw0.out _).trans hb5).setCell hK1 _; have X6 : Hid (Boxed (w5.setCell ⟨K, 0, none⟩ (.slice A5 (L.length + 1) c5)) K 30 (.slice A5 (L.length + 1) c5)) := Boxed.set _ bx5; clear own5 hg5 hb5))
                    | (at_builtin; go_loud (refine list_push_rule (base := w1.heap.size) (v := .slice A5 (L.length + 1) c5) rfl _ _ rfl (by rfl) (by rfl) (by simp) own6.out Hml.out (Nat.le_trans Hw4.out B6.out.size) ?_); intro v7 w7 own7 hg7 hb7; have bx7 : Boxed w7 K 30 _ := Boxed.grown X6.out (by decide) own6.out hg7; obtain ⟨A7, c7, rfl, _⟩ := own_nil own7; have hcb7 := bx7.cell; have hfb7 := bx7.frozen; have hl7 := bx7.lt; go_loud (have own8 := Lib.hid (own_put bx7 own7 rfl (HN (L.length, (xs.length : Int) - 1)).out); have B8 : Hid (Below w1.heap.size w4 (w7.setCell ⟨K, 0, none⟩ (.slice A7 (M.length + 1) c7))) := ((B6.out.alloc (Nat.le_trans Hw4.out B6.out.size) _).trans hb7).setCell hK1 _; have X8 : Hid (Boxed (w7.setCell ⟨K, 0, none⟩ (.slice A7 (M.length + 1) c7)) K 30 (.slice A7 (M.length + 1) c7)) := Boxed.set _ bx7; clear own7 hg7 hb7)))
                  refine ⟨⟨k + 1, _, by congr 1; have := Hj.out; omega, by have := Hlt.out; omega, X8.out, ?_, B8.out⟩, by simp only [intOf]; exact Hm0.out⟩
                  rw [Hstep.out, E4.out]; exact own8.out
              · have hkn : k = BL.length - 1 := by omega
                subst hkn
                have hneg : ¬ ((0 : Int) ≤ (BL.length : Int) - 2 - ((BL.length - 1 : Nat) : Int)) := by omega
                have hL' : powG xs n = L := by rw [Hg.out, HBL.out, ← HL.out, ← hbl, List.take_length]
                have HL' := Lib.hid hL'
                have z1 : w1.heap.size ≤ wr.heap.size := Nat.le_trans (by have := bx4.lt; omega) Hb.out.size
                obtain ⟨Ao, co, rfl, _⟩ := own_nil Hown.out
                have bxc := Hbox.out.cell
                have hlr := Hbox.out.lt
                have c9 : wr.cell? ⟨w.heap.size + 1, 0, none⟩ = some (.slice none 0 0) := (Hb.out.cell (p := ⟨w.heap.size + 1, 0, none⟩) (by show w.heap.size + 1 < w1.heap.size; omega)).trans c4
                have f9 : wr.frozen? ⟨w.heap.size + 1, 0, none⟩ = false := (Hb.out.frozen (p := ⟨w.heap.size + 1, 0, none⟩) (by show w.heap.size + 1 < w1.heap.size; omega)).trans f4
                have hz9 : w.heap.size + 1 < wr.heap.size := by omega
                have B9 := Lib.hid (B4.out.trans (Hb.out.mono (by omega)))
                clear hL' hlt hk hlen
                go_wp2_with fail
                refine (l02Told_any _ _ _ _ Hown.out (by rw [← HL'.out]; exact powG_small n Hs.out)).mono ?_
                rintro e w10 ⟨hb10, v10, own10, rfl⟩
                obtain ⟨A10, k10, rfl, _⟩ := own_nil own10
                have c10 := cell_up c9 hb10 (by omega)
                have f10 : w10.frozen? ⟨w.heap.size + 1, 0, none⟩ = false := by rw [hb10.frozen hz9, f9]
                have B10 := Lib.hid (B9.out.trans (hb10.mono (by omega)))
                have O10 := Lib.hid own10
                clear c9 f9 hb10 own10
                go_wp2
                refine bodyPost_ret (v := .tuple #[.agg #[.slice A10 (limOut L).length k10], .int .i64 (limCode L)]) (by simp [results, Try.results83, go_sem, c10]) rfl ⟨?_, _, ?_, by rw [E2.out, HL'.out]⟩
                · exact B10.out.setCell (by show w.heap.size ≤ w.heap.size + 1; omega) _
                · rw [E1.out, HL'.out]
                  exact ownsRow_more (ownsRow_setCell_below O10.out (a := ⟨w.heap.size + 1, 0, none⟩) (by show w.heap.size + 1 < w1.heap.size; omega) _) (by omega)
    · have hin' : inB t 0 1000000000000000 = false := by simpa using hin
      have Hin := Lib.hid hin'
      clear hin hin'
      refine (l00InY _ _ _ _ _ Hin.out).mono ?_
      rintro e w' ⟨rfl, rfl⟩
      go_wp2
      refine bodyPost_ret (v := .tuple #[.agg #[.slice none 0 0], .int .i64 2]) (by simp [results, Try.results83, go_sem, c1]) rfl ⟨?_, _, ?_, by rw [powCode, if_pos Hok.out, if_neg (by rw [Hin.out]; decide)]⟩
      · exact B1.out.setCell (by show w.heap.size ≤ w.heap.size + 1; omega) _
      · rw [powOut, if_neg (by simp [Hin.out])]; exact World.ownsRow_nil _ _ _ _
  · have hok2 : (!gramOk xs) = true := by simp [hok]
    have Hok := Lib.hid hok
    clear hok
    go_wp2
    refine bodyPost_ret (v := .tuple #[.agg #[.slice none 0 0], .int .i64 1]) (by simp [results, Try.results83, go_sem, c1]) rfl ⟨?_, _, ?_, by rw [powCode, if_neg (by simp [Hok.out])]⟩
    · exact B1.out.setCell (by show w.heap.size ≤ w.heap.size + 1; omega) _
    · rw [powOut, if_neg (by simp [Hok.out])]; exact World.ownsRow_nil _ _ _ _
theorem Src.alloc {w : World} {b N : Nat} (h : Src w b N) (o : Obj) : Src (w.alloc o) b N := h.keep ((Below.refl _ _).alloc (Nat.le_refl _) o)
theorem Src.drew {w : World} {b N : Nat} (h : Src w b N) : Src w.drew b N := h.keep (Below.drew (Below.refl _ _))
theorem hugLim_ok (xs : List GRule) : gramOk (limOut xs) = true := by
  unfold limOut
  split
  · assumption
  · decide
theorem hugPow_ok (xs : List GRule) (t : Int) : gramOk (powOut xs t) = true := by
  unfold powOut
  split
  · exact hugLim_ok _
  · decide
theorem hugJoin_ok (xs ys : List GRule) : gramOk (joinOut xs ys) = true := by
  unfold joinOut
  split
  · exact hugLim_ok _
  · decide
theorem gram_small1 {xs : List GRule} (h : gramOk xs = true) : SmallL xs := by
  obtain ⟨_, ls, hl⟩ := gram_lens h
  intro r hr
  obtain ⟨k, hk⟩ := List.mem_iff_getElem?.1 hr
  have h1 := (lens_steps hl k r hk).1
  unfold okRule at h1
  by_cases hp : r.pair = true
  · have : r.letter.size = 0 := by simpa [GRule.pair] using hp
    omega
  · rw [if_neg hp] at h1
    simp only [Bool.and_eq_true] at h1
    have := isLet_size h1.1.1; omega
structure HuSt (w : World) (b M : Nat) (wx : World) (B : Nat) (v : Value) (xs : List GRule) : Prop where
  src : Src wx b M
  but : But b w wx
  b0 : Boxed wx w.heap.size 30 (.slice none 0 0)
  hB : w.heap.size < B
  b3 : Boxed wx B 30 v
  sl : SlS RuleE wx (fun k => w.heap.size < k ∧ k < wx.heap.size) v xs
  ok : gramOk xs = true
section
variable {w wx w' : World} {b M M' B : Nat} {v : Value} {xs : List GRule}
theorem HuSt.pick (h : HuSt w b M wx B v xs) (hb : But b wx w') (hs : Src w' b M') (hlt : b < w.heap.size) : HuSt w b M' w' B v xs :=
  have hB := h.hB
  ⟨hs, h.but.trans hb, Boxed.but h.b0 hb (by omega), h.hB, Boxed.but h.b3 hb (by omega), (h.sl.keep fun k hk => hb.block k hk.2 (by omega)).more fun _ hk => ⟨hk.1, Nat.lt_of_lt_of_le hk.2 hb.size⟩, h.ok⟩
theorem HuSt.up (h : HuSt w b M wx B v xs) (hb : Below wx.heap.size wx w') : HuSt w b M w' B v xs :=
  ⟨h.src.keep hb, h.but.trans (But.of hb), Boxed.up h.b0 hb (Array.getElem?_eq_some_iff.1 h.b0).1, h.hB, Boxed.up h.b3 hb (Array.getElem?_eq_some_iff.1 h.b3).1, (h.sl.keep fun k hk => hb.block k hk.2).more fun _ hk => ⟨hk.1, Nat.lt_of_lt_of_le hk.2 hb.size⟩, h.ok⟩
theorem HuSt.alloc (h : HuSt w b M wx B v xs) (o : Obj) : HuSt w b M (wx.alloc o) B v xs := h.up ((Below.refl _ _).alloc (Nat.le_refl _) o)
theorem HuSt.drew (h : HuSt w b M wx B v xs) : HuSt w b M wx.drew B v xs := h.up (Below.drew (Below.refl _ _))
theorem HuSt.slW (h : HuSt w b M wx B v xs) : Sl RuleE wx wx.heap.size v xs := h.sl.more fun _ hk => hk.2
theorem HuSt.more (h : HuSt w b M wx B v xs) (hM : M ≤ M') : HuSt w b M' wx B v xs := ⟨h.src.more hM, h.but, h.b0, h.hB, h.b3, h.sl, h.ok⟩
theorem HuSt.lt (h : HuSt w b M wx B v xs) : w.heap.size < wx.heap.size ∧ B < wx.heap.size := ⟨(Array.getElem?_eq_some_iff.1 h.b0).1, (Array.getElem?_eq_some_iff.1 h.b3).1⟩
def HugePost (b M : Nat) (w : World) (r : Ending) (w' : World) : Prop :=
  ∃ v xs, r = .returned (.agg #[v]) ∧ SlS RuleE w' (fun k => w.heap.size < k ∧ k < w'.heap.size) v xs ∧ gramOk xs = true ∧ Src w' b M ∧ But b w w'
theorem HuSt.done (h : HuSt w b M wx B v xs) (hlt : b < w.heap.size) (hM : M ≤ M') : HugePost b M' w (.returned (.agg #[v])) (wx.setCell ⟨w.heap.size, 0, none⟩ v) := by
  have hW : Below w.heap.size wx (wx.setCell ⟨w.heap.size, 0, none⟩ v) := (Below.refl _ _).setCell (p := ⟨w.heap.size, 0, none⟩) (Nat.le_refl _) _
  exact ⟨v, xs, rfl, (h.sl.keep fun k hk => Below.heap_setCell wx ⟨w.heap.size, 0, none⟩ v k (by show k ≠ w.heap.size; omega)).more fun k hk => by simpa [World.setCell] using hk, h.ok, (h.src.keepB hW hlt).more hM, h.but.up hW (Nat.le_refl _)⟩
theorem HuSt.put {ys : List GRule} {u : Value} (h : HuSt w b M wx B v xs) (hlt : b < w.heap.size) (hu : SlS RuleE wx (fun k => w.heap.size < k ∧ k ≠ B ∧ k < wx.heap.size) u ys) (hok : gramOk ys = true) : HuSt w b M (wx.setCell ⟨B, 0, none⟩ u) B u ys := by
  have hB := h.hB
  have hW : Below w.heap.size wx (wx.setCell ⟨B, 0, none⟩ u) := (Below.refl _ _).setCell (p := ⟨B, 0, none⟩) (by show w.heap.size ≤ B; omega) _
  refine ⟨h.src.keepB hW hlt, h.but.up hW (Nat.le_refl _), boxed_other h.b0 (by omega) _, hB, Boxed.set _ h.b3, ?_, hok⟩
  exact (hu.keep fun k hk => Below.heap_setCell wx ⟨B, 0, none⟩ u k (by show k ≠ B; omega)).more fun k hk => ⟨by omega, by simpa [World.setCell] using hk.2.2⟩
end
def HuEnd (w : World) (b M B : Nat) (v : Value) (xs : List GRule) (p q : Value) (wx : World) : Prop := ∃ (B4 : Nat) (u : Value) (ys : List GRule) (c : Int), p = .pointer (some ⟨B4, 0, none⟩) ∧ q = .int .i64 c ∧ B ≠ B4 ∧ HuSt w b M wx B v xs ∧ HuSt w b M wx B4 u ys ∧ SlS RuleE wx (fun j => w.heap.size < j ∧ j < wx.heap.size ∧ j ≠ B4) v xs
theorem HuSt.endA {w w7 : World} {b M B base : Nat} {v u : Value} {xs ys : List GRule} (h : HuSt w b M w7 B v xs) (own : OwnRules w7 base u ys) (hb : w.heap.size < base) (hok : gramOk ys = true) (c : Int) :
    HuEnd w b M B v xs (.pointer (some ⟨w7.heap.size, 0, none⟩)) (.int .i64 c) (w7.alloc (.cells #[u] 30)) := by
  have hl := h.lt
  have kc := (Below.refl _ w7).alloc (Nat.le_refl _) (.cells #[u] 30)
  refine ⟨_, u, ys, c, rfl, rfl, by omega, h.alloc _, ⟨h.src.alloc _, h.but.trans (But.of kc), Boxed.up h.b0 kc hl.1, hl.1, heap_alloc_new w7 _, ?_, hok⟩, (h.sl.keep fun k hk => kc.block k hk.2).more fun k hk => ⟨hk.1, Nat.lt_of_lt_of_le hk.2 kc.size, by omega⟩⟩
  have := own.slS (S := fun k => w.heap.size < k ∧ k < w7.heap.size) fun g hg => by have := World.ownsRow.lt own g hg; omega
  exact (this.keep fun k hk => kc.block k hk.2).more fun k hk => ⟨hk.1, Nat.lt_of_lt_of_le hk.2 kc.size⟩
theorem HuSt.endS {w w7 : World} {b M B base k : Nat} {v u u0 : Value} {xs ys : List GRule} (h : HuSt w b M w7 B v xs) (hlt : b < w.heap.size) (bq : Boxed w7 k 30 u0) (own : OwnRules w7 base u ys) (hk : k < base) (hwk : w.heap.size < k) (hB : B ≠ k) (hok : gramOk ys = true)
    (hsl : SlS RuleE w7 (fun j => w.heap.size < j ∧ j < w7.heap.size ∧ j ≠ k) v xs) (c : Int) :
    HuEnd w b M B v xs (.pointer (some ⟨k, 0, none⟩)) (.int .i64 c) (w7.setCell ⟨k, 0, none⟩ u) := by
  have hl := h.lt
  have hW : Below w.heap.size w7 (w7.setCell ⟨k, 0, none⟩ u) := (Below.refl _ _).setCell (p := ⟨k, 0, none⟩) (by show w.heap.size ≤ k; omega) _
  have hs : (w7.setCell ⟨k, 0, none⟩ u).heap.size = w7.heap.size := by simp
  refine ⟨k, u, ys, c, rfl, rfl, hB, ⟨h.src.keepB hW hlt, h.but.up hW (Nat.le_refl _), boxed_other h.b0 (by omega) _, h.hB, boxed_other h.b3 hB _, ?_, h.ok⟩, ⟨h.src.keepB hW hlt, h.but.up hW (Nat.le_refl _), boxed_other h.b0 (by omega) _, hwk, Boxed.set _ bq, ?_, hok⟩, ?_⟩
  · exact (hsl.keep fun j hj => Below.heap_setCell w7 ⟨k, 0, none⟩ u j hj.2.2).more fun j hj => ⟨hj.1, by rw [hs]; exact hj.2.1⟩
  · have := own.slS (S := fun j => w.heap.size < j ∧ j < w7.heap.size ∧ j ≠ k) fun g hg => by have := World.ownsRow.lt own g hg; omega
    exact (this.keep fun j hj => Below.heap_setCell w7 ⟨k, 0, none⟩ u j hj.2.2).more fun j hj => ⟨hj.1, by rw [hs]; exact hj.2.1⟩
  · exact (hsl.keep fun j hj => Below.heap_setCell w7 ⟨k, 0, none⟩ u j hj.2.2).more fun j hj => ⟨hj.1, by rw [hs]; exact hj.2.1, hj.2.2⟩
theorem HuSt.other {w wx : World} {b M B k : Nat} {v : Value} {xs : List GRule} (h : HuSt w b M wx B v xs) (hlt : b < w.heap.size) (hwk : w.heap.size < k) (hB : B ≠ k) (hsl : SlS RuleE wx (fun j => w.heap.size < j ∧ j < wx.heap.size ∧ j ≠ k) v xs) (u : Value) : HuSt w b M (wx.setCell ⟨k, 0, none⟩ u) B v xs := by
  have hW : Below w.heap.size wx (wx.setCell ⟨k, 0, none⟩ u) := (Below.refl _ _).setCell (p := ⟨k, 0, none⟩) (by show w.heap.size ≤ k; omega) _
  have hs : (wx.setCell ⟨k, 0, none⟩ u).heap.size = wx.heap.size := by simp
  exact ⟨h.src.keepB hW hlt, h.but.up hW (Nat.le_refl _), boxed_other h.b0 (by omega) _, h.hB, boxed_other h.b3 hB _, (hsl.keep fun j hj => Below.heap_setCell wx ⟨k, 0, none⟩ u j hj.2.2).more fun j hj => ⟨hj.1, by rw [hs]; exact hj.2.1⟩, h.ok⟩
theorem mul_small {x y : Nat} (hx : x ≤ 65535) (hy : y ≤ 65535) : IntKind.i64.wrap ((x : Int) * (y : Int)) = (x : Int) * (y : Int) ∧ IntKind.i64.wrap (1 + (x : Int) * (y : Int)) = 1 + (x : Int) * (y : Int) := by
  have h := Nat.mul_le_mul hx hy
  rw [← Int.natCast_mul]
  generalize x * y = z at h
  exact ⟨IntWalk.i64_in _ (by omega), IntWalk.i64_in _ (by omega)⟩
set_option maxRecDepth 100000 in
set_option maxHeartbeats 8000000 in
theorem l02Huge_any (b N : Nat) (w : World) (h : Src w b N) (hN : N ≤ 700000) :
    Calls Try.prog 57 #[.pointer (some ⟨b, 0, none⟩)] w (HugePost b (N + 500) w) := by
  have hlt := h.lt
  have HS := Lib.hid h
  clear h
  go_enter Try.func57, Try.ntmps57
  go_wp2_with fail
  have ka := (Below.refl _ w).alloc (Nat.le_refl _) (.cells #[.slice none 0 0] 30)
  have KR := Lib.hid (show Boxed (w.alloc (.cells #[.slice none 0 0] 30)) w.heap.size 30 (.slice none 0 0) from heap_alloc_new w _)
  refine (l02Drawn_any b N 1000 _ (HS.out.keep ka) (by omega)).mono ?_
  rintro r w2 ⟨v, xs, rfl, hsl, hok, h14, hs2, hb2⟩
  have KR2 := Lib.hid (Boxed.but KR.out hb2 (by omega))
  have z2 : w.heap.size < w2.heap.size := (Array.getElem?_eq_some_iff.1 KR2.out).1
  have HB2 := Lib.hid ((But.of ka).trans hb2)
  have HS2 := Lib.hid hs2
  have HSL := Lib.hid hsl
  have HOK := Lib.hid hok.1
  obtain ⟨AX, cX, rfl, _⟩ := hsl
  clear ka hs2 hb2 hok
  go_upto_region 2 with fail
  have kc := (Below.refl _ w2).alloc (Nat.le_refl _) (.cells #[.slice AX xs.length cX] 30)
  have H3 : HuSt w b (N + 200) (w2.alloc (.cells #[.slice AX xs.length cX] 30)) w2.heap.size (.slice AX xs.length cX) xs :=
    ⟨HS2.out.keep kc, HB2.out.trans (But.of kc), Boxed.up KR2.out kc z2, z2, heap_alloc_new w2 _, (HSL.out.keep fun k hk => kc.block k hk.2).more fun k hk => ⟨by have := hk.1; simp at this; omega, Nat.lt_of_lt_of_le hk.2 kc.size⟩, HOK.out⟩
  obtain ⟨B, hB⟩ : ∃ B, w2.heap.size = B := ⟨_, rfl⟩
  rw [hB] at H3 z2
  rw [hB]
  have H3h := Lib.hid H3
  clear kc H3 KR2 HB2 HS2 HSL HOK hB
  generalize w2.alloc (.cells #[.slice AX xs.length cX] 30) = w3 at *
  have c3 := Boxed.cell H3h.out.b3
  obtain ⟨z3, zB3⟩ := H3h.out.lt
  have hx9 : xs.length ≤ 1048576 := by omega
  have hsm := gram_small1 H3h.out.ok
  have Hsm := Lib.hid hsm
  have HX9 := Lib.hid hx9
  clear hsm hx9
  go_cut [4, 5] (fun p q wx => HuEnd w b (N + 204) B (.slice AX xs.length cX) xs p q wx)
  case first =>
    go_region_law (first
      | ((fail_if_success (have hx5 := hs5)); (fail_if_success (have hx6 := hs6)); go_simp; go_at_call 59; refine (pick_any b (N + 200) 1000000 _ (by (repeat (first | exact H3h.out.src | apply Src.alloc | apply Src.drew))) (by omega)).mono ?_; rintro r w5 ⟨x, rfl, _, hx2, hs5, hb5⟩; have st5 : HuSt w b (N + 202) w5 B (.slice AX xs.length cX) xs := HuSt.pick (by (repeat (first | exact H3h.out | apply HuSt.alloc | apply HuSt.drew))) hb5 hs5 hlt; have bt5 : But b w3 w5 := But.trans (by (repeat (first | exact But.refl b w3 | apply But.drew | apply But.alloc))) hb5; have c5 := Boxed.cell st5.b3; have z5 := st5.lt.2; (try (have bq : Boxed w5 w3.heap.size 30 (.slice none 0 0) := Boxed.but (w := (w3.alloc (.cells #[.slice none 0 0] 30)).drew) (heap_alloc_new w3 _) hb5 (by omega))))
      | ((fail_if_success (have hx6 := hs6)); go_simp; go_at_call 59; refine (pick_any b (N + 202) 100000 _ (by (repeat (first | exact hs5 | apply Src.alloc | apply Src.drew))) (by omega)).mono ?_; rintro r w6 ⟨y, rfl, _, hy2, hs6, hb6⟩; have st6 : HuSt w b (N + 204) w6 B (.slice AX xs.length cX) xs := HuSt.pick (by (repeat (first | exact st5 | apply HuSt.alloc | apply HuSt.drew))) hb6 hs6 hlt; have bt6 : But b w3 w6 := But.trans (by (repeat (first | exact bt5 | apply But.drew | apply But.alloc))) hb6; have c6 := Boxed.cell st6.b3; have z6 := st6.lt.2; (try (have bq2 : Boxed w6 w3.heap.size 30 (.slice none 0 0) := Boxed.but bq hb6 (by omega))); (try (have bq2 : Boxed w6 w5.heap.size 30 (.slice none 0 0) := Boxed.but (w := w5.alloc (.cells #[.slice none 0 0] 30)) (heap_alloc_new w5 _) hb6 (by have := st5.lt; omega))); have hxy := mul_small hx2 hy2; have hw1 := hxy.1; have hw2 := hxy.2; clear hxy)
      | (go_simp; go_at_call 83; refine (specPower_any _ xs _ _ (HuSt.slW (w := w) (b := b) (M := N + 204) (B := B) (by (repeat (first | exact st6 | apply HuSt.alloc | apply HuSt.drew)))) HX9.out Hsm.out).mono ?_; rintro e w7 ⟨hb7, v7, own7, rfl⟩; obtain ⟨A7, c7, rfl, _⟩ := own_nil own7; have st7 : HuSt w b (N + 204) w7 B (.slice AX xs.length cX) xs := HuSt.up (by (repeat (first | exact st6 | apply HuSt.alloc | apply HuSt.drew))) hb7; have bt7 : But b w3 w7 := But.trans (by (repeat (first | exact bt6 | apply But.drew | apply But.alloc))) (But.of hb7); have c7' := Boxed.cell st7.b3; have z7 := st7.lt.2; (try (have bq3 : Boxed w7 w3.heap.size 30 (.slice none 0 0) := Boxed.up bq2 hb7 (Array.getElem?_eq_some_iff.1 bq2).1)); (try (have bq3 : Boxed w7 w5.heap.size 30 (.slice none 0 0) := Boxed.up bq2 hb7 (Array.getElem?_eq_some_iff.1 bq2).1)); (try (have bq3 : Boxed w7 w6.heap.size 30 (.slice none 0 0) := Boxed.up (w := w6.alloc (.cells #[.slice none 0 0] 30)) (heap_alloc_new w6 _) hb7 (by simp))); (try (have cq := Boxed.cell bq3; have fq := Boxed.frozen bq3; have zq := (Array.getElem?_eq_some_iff.1 bq3).1))))
    all_goals
      go_wp2_with fail
      go_meet
      have hX7 : ∀ k, w3.heap.size ≤ k → SlS RuleE w7 (fun j => w.heap.size < j ∧ j < w7.heap.size ∧ j ≠ k) (.slice AX xs.length cX) xs := fun k hk => by
        have hz := bt7.size
        exact (H3h.out.sl.keep fun j hj => bt7.block j hj.2 (by omega)).more fun j hj => ⟨hj.1, by omega, by omega⟩
      first
        | exact st7.endA own7 (by first | exact st6.lt.1 | (have := st6.lt; simp; omega)) (hugPow_ok _ _) _
        | exact st7.endS hlt bq3 own7 (by first | exact (Array.getElem?_eq_some_iff.1 bq2).1 | simp) (by first | exact z3 | exact st5.lt.1 | exact st6.lt.1) (by omega) (hugPow_ok _ _) (hX7 _ (by first | exact Nat.le_refl _ | exact bt5.size | exact bt6.size)) _
  case rest =>
    revert hcut
    generalize wc = w4
    intro hcut
    obtain ⟨B4, u, ys, c, rfl, rfl, hBB, h1, h2, h3⟩ := hcut
    have HX4 := Lib.hid h3
    clear h3
    have HX := Lib.hid h1
    have HY := Lib.hid h2
    obtain ⟨AY, cY, rfl, _⟩ := h2.sl
    have cX9 := Boxed.cell h1.b3
    have cY' := Boxed.cell h2.b3
    have cR := Boxed.cell h1.b0
    have fR := Boxed.frozen h1.b0
    obtain ⟨zR, zX⟩ := h1.lt
    have zY := h2.lt.2
    clear h1 h2 H3h c3 z3 zB3
    by_cases hc0 : c = 0
    · subst hc0
      clear fR
      go_wp2_with fail
      refine (one_any b (N + 204) 2 _ HX.out.src (by omega)).mono ?_
      rintro r w5 ⟨t, rfl, hs5, hb5⟩
      have HX5 := Lib.hid (HX.out.pick hb5 hs5 hlt)
      have HY5 := Lib.hid (HY.out.pick hb5 hs5 hlt)
      have HX45 : Hid (SlS RuleE w5 (fun j => w.heap.size < j ∧ j < w5.heap.size ∧ j ≠ B4) (.slice AX xs.length cX) xs) := (HX4.out.keep fun j hj => hb5.block j hj.2.1 (by omega)).more fun j hj => ⟨hj.1, Nat.lt_of_lt_of_le hj.2.1 hb5.size, hj.2.2⟩
      clear cX9 cY' cR zR zX zY hs5 hb5 HX HY
      have cX9 := Boxed.cell HX5.out.b3
      have cY' := Boxed.cell HY5.out.b3
      have cR := Boxed.cell HX5.out.b0
      have fR := Boxed.frozen HX5.out.b0
      obtain ⟨zR, zX⟩ := HX5.out.lt
      have zY := HY5.out.lt.2
      cases t with
      | false =>
        go_wp2_with fail
        refine bodyPost_ret (v := .agg #[.slice AY ys.length cY]) (by simp [results, Try.results57, go_sem, cR]) rfl ?_
        exact HY5.out.done hlt (by omega)
      | true =>
        have hsy := gram_small1 HY5.out.ok
        have Hsy := Lib.hid hsy
        have hly : ys.length ≤ 1048576 := by have := (gram_lens HY5.out.ok).1; omega
        have Hly := Lib.hid hly
        clear hsy hly cR fR
        go_upto_region 6 with fail
        go_cut [5] (fun q wx => ∃ (u : Value) (zs : List GRule) (c : Int), q = .int .i64 c ∧ HuSt w b (N + 406) wx B (.slice AX xs.length cX) xs ∧ HuSt w b (N + 406) wx B4 u zs)
        case first =>
          go_region_law (first
            | (go_simp; go_at_call 58; refine (l02Drawn_any b (N + 206) 100 _ (by (repeat (first | exact HX5.out.src | apply Src.alloc | apply Src.drew))) (by omega)).mono ?_; rintro r w6 ⟨v6, zs, rfl, hsl6, hok6, h146, hs6, hb6⟩; have stX : HuSt w b (N + 406) w6 B (.slice AX xs.length cX) xs := HuSt.pick (by (repeat (first | exact HX5.out | apply HuSt.alloc | apply HuSt.drew))) hb6 hs6 hlt; have stY : HuSt w b (N + 406) w6 B4 (.slice AY ys.length cY) ys := HuSt.pick (by (repeat (first | exact HY5.out | apply HuSt.alloc | apply HuSt.drew))) hb6 hs6 hlt; have bt6 : But b w5 w6 := But.trans (by (repeat (first | exact But.refl b w5 | apply But.drew | apply But.alloc))) hb6; have c6 := Boxed.cell stY.b3; have z6 := stY.lt.2)
            | (go_simp; go_at_call 84; refine (specJoin_any _ _ ys zs _ stY.slW (hsl6.more fun _ hk => hk.2) Hly.out (by omega) Hsy.out hok6.2.2.2).mono ?_; rintro e w7 ⟨hb7, v7, own7, rfl⟩; obtain ⟨A7, c7, rfl, _⟩ := own_nil own7; have bt7 : But b w5 w7 := But.trans bt6 (But.of hb7); have sX7 := stX.up hb7; have sY7 := stY.up hb7; have cc7 := Boxed.cell sY7.b3; have f7 := Boxed.frozen sY7.b3; have z7 := sY7.lt.2))
          all_goals
            go_wp2_with fail
            go_meet
            have hz6 := stX.lt
            have hu7 : SlS RuleE w7 (fun k => w.heap.size < k ∧ k ≠ B4 ∧ k < w7.heap.size) (.slice A7 (joinOut ys zs).length c7) (joinOut ys zs) := own7.slS fun g hg => by have := World.ownsRow.lt own7 g hg; omega
            have hX7 : SlS RuleE w7 (fun j => w.heap.size < j ∧ j < w7.heap.size ∧ j ≠ B4) (.slice AX xs.length cX) xs := (HX45.out.keep fun j hj => bt7.block j hj.2.1 (by omega)).more fun j hj => ⟨hj.1, Nat.lt_of_lt_of_le hj.2.1 bt7.size, hj.2.2⟩
            exact ⟨_, _, _, rfl, sX7.other hlt HY5.out.hB hBB hX7 _, sY7.put hlt hu7 (hugJoin_ok _ _)⟩
        case rest =>
          revert hcut
          generalize wc = w8
          intro hcut
          obtain ⟨u, zs, c, rfl, h1, h2⟩ := hcut
          have HX8 := Lib.hid h1
          have HY8 := Lib.hid h2
          obtain ⟨AZ, cZ, rfl, _⟩ := h2.sl
          clear cX9 cY' zX zY zR HX5 HY5
          have cX9 := Boxed.cell h1.b3
          have cY' := Boxed.cell h2.b3
          have cR := Boxed.cell h1.b0
          have fR := Boxed.frozen h1.b0
          obtain ⟨zR, zX⟩ := h1.lt
          have zY := h2.lt.2
          clear h1 h2
          by_cases hc0 : c = 0
          · subst hc0
            go_wp2_with fail
            refine bodyPost_ret (v := .agg #[.slice AZ zs.length cZ]) (by simp [results, Try.results57, go_sem, cR]) rfl ?_
            exact HY8.out.done hlt (by omega)
          · have hc1 : (c == 0) = false := by rw [beq_eq_false_iff_ne]; exact hc0
            go_wp2_with fail
            refine bodyPost_ret (v := .agg #[.slice AX xs.length cX]) (by simp [results, Try.results57, go_sem, cR]) rfl ?_
            exact HX8.out.done hlt (by omega)
    · have hc1 : (c == 0) = false := by rw [beq_eq_false_iff_ne]; exact hc0
      go_wp2_with fail
      refine bodyPost_ret (v := .agg #[.slice AX xs.length cX]) (by simp [results, Try.results57, go_sem, cR]) rfl ?_
      exact HX.out.done hlt (by omega)
theorem four {wx : World} {R : Nat} {a0 a1 a2 a3 : Value} {t : TypeId} (h : Blk wx R #[a0, a1, a2, a3] t) (v0 v1 v2 v3 : Value) :
    let W := (((wx.setCell ⟨R, 0, none⟩ v0).setCell ⟨R, 1, none⟩ v1).setCell ⟨R, 2, none⟩ v2).setCell ⟨R, 3, none⟩ v3
    Blk W R #[v0, v1, v2, v3] t ∧ (∀ k, k ≠ R → W.heap[k]? = wx.heap[k]?) ∧ Below R wx W := by
  intro W
  exact ⟨(((h.set 0 v0).set 1 v1).set 2 v2).set 3 v3,
    fun k hk => (Below.heap_setCell _ ⟨R, 3, none⟩ v3 k hk).trans ((Below.heap_setCell _ ⟨R, 2, none⟩ v2 k hk).trans ((Below.heap_setCell _ ⟨R, 1, none⟩ v1 k hk).trans (Below.heap_setCell _ ⟨R, 0, none⟩ v0 k hk))),
    ((((Below.refl _ wx).setCell (p := ⟨R, 0, none⟩) (Nat.le_refl _) v0).setCell (p := ⟨R, 1, none⟩) (Nat.le_refl _) v1).setCell (p := ⟨R, 2, none⟩) (Nat.le_refl _) v2).setCell (p := ⟨R, 3, none⟩) (Nat.le_refl _) v3⟩
set_option maxRecDepth 100000 in
set_option maxHeartbeats 4000000 in
theorem P6Huge_any (v : Value) (l : List UInt8) (w : World) (h : Sl ByteE w w.heap.size v l) :
    Calls Try.prog 18 #[v] w fun e w' => ∃ u xs, e = .returned (.agg #[u]) ∧ Sl RuleE w' w'.heap.size u xs ∧ gramOk xs = true ∧ Below w.heap.size w w' := by
  have HL := Lib.hid h
  obtain ⟨A, c, rfl, _⟩ := h
  go_enter Try.func18, Try.ntmps18
  go_wp2_with fail
  have ba := (Below.refl _ w).alloc (Nat.le_refl _) (.cells #[.slice none 0 0] 30)
  refine (from_any _ l _ (HL.out.up ba)).mono ?_
  rintro r w1 ⟨b, rfl, hb, hs, hb1⟩
  have KR1 := Lib.hid (show Boxed w1 w.heap.size 30 (.slice none 0 0) from Blk.up (Blk.new w #[.slice none 0 0] 30) hb1)
  have hbz : w.heap.size < b := by simp at hb; omega
  have HS := Lib.hid hs
  have HB := Lib.hid (ba.trans (hb1.mono ba.size))
  clear hs hb1 ba hb
  go_wp2_with fail
  go_loopw [4] (fun i wx => ∃ k : Nat, k ≤ 3 ∧ i = .int .i64 k ∧ Src wx b (500 * k) ∧ Boxed wx w.heap.size 30 (.slice none 0 0) ∧ Below w.heap.size w wx) (fun i _ => 3 - (intOf i).toNat)
  case atStart => exact ⟨0, by omega, rfl, HS.out, KR1.out, HB.out⟩
  case round =>
    obtain ⟨k, hk, rfl, hs, hbx, hb⟩ := hrel
    have HS2 := Lib.hid hs
    have HX := Lib.hid hbx
    have HBB := Lib.hid hb
    have cR := Boxed.cell hbx
    have fR := Boxed.frozen hbx
    have zR := (Array.getElem?_eq_some_iff.1 hbx).1
    clear hs hbx hb
    by_cases hk3 : k < 3
    · have hk32 : (k : Int) < 3 := by omega
      go_wp2_with fail
      refine (l02Huge_any b (500 * k) _ HS2.out (by omega)).mono ?_
      rintro r w2 ⟨v2, xs, rfl, hsl, hok, hs2, hb2⟩
      have hbx2 := Boxed.but HX.out hb2 (by omega)
      have HX2 := Lib.hid hbx2
      have HS3 := Lib.hid hs2
      have HB3 := Lib.hid (HBB.out.trans (hb2.below (B := w.heap.size) (by omega) (by omega)))
      obtain ⟨_, ls, hl⟩ := gram_lens hok
      have Hl := Lib.hid hl
      have HOK := Lib.hid hok
      have hsm := gram_small1 hok
      have Hsm := Lib.hid hsm
      have hx9 : xs.length ≤ 1099511627776 := by have := (gram_lens hok).1; omega
      have HSL := Lib.hid hsl
      have zz := hb2.size
      obtain ⟨AX, cX, rfl, _⟩ := hsl
      clear cR fR hbx2 hs2 hl hsm
      have kc := (Below.refl _ w2).alloc (Nat.le_refl _) (.cells #[.slice AX xs.length cX] 30)
      have kx : (w2.alloc (.cells #[.slice AX xs.length cX] 30)).cell? ⟨w2.heap.size, 0, none⟩ = some (.slice AX xs.length cX) := by simp [go_sem]
      have kz : w2.heap.size < (w2.alloc (.cells #[.slice AX xs.length cX] 30)).heap.size := by simp
      have HS4 := Lib.hid (HS3.out.keep kc)
      have HX4 := Lib.hid (Boxed.up HX2.out kc (by omega))
      have HB4 := Lib.hid (HB3.out.trans (kc.mono (by omega)))
      have HSL4 : Hid (SlS RuleE (w2.alloc (.cells #[.slice AX xs.length cX] 30)) (fun j => wr.heap.size < j ∧ j < w2.heap.size) (.slice AX xs.length cX) xs) := HSL.out.keep fun j hj => kc.block j hj.2
      go_wp2_with fail
      clear kc
      generalize w2.alloc (.cells #[.slice AX xs.length cX] 30) = w4 at *
      refine (l02Ok_any _ _ _ xs _ kx kz (HSL4.out.more fun j hj => by omega) Hsm.out).mono ?_
      rintro e w5 ⟨rfl, hb5⟩
      have kx5 := (hb5.cell (p := ⟨w2.heap.size, 0, none⟩) kz).trans kx
      have kz5 : w2.heap.size < w5.heap.size := Nat.lt_of_lt_of_le kz hb5.size
      have HS5 := Lib.hid (HS4.out.keep hb5)
      have HX5 := Lib.hid (Boxed.up HX4.out hb5 (by omega))
      have HB5 := Lib.hid (HB4.out.trans (hb5.mono (by omega)))
      have HSL5 : Hid (SlS RuleE w5 (fun j => wr.heap.size < j ∧ j < w2.heap.size) (.slice AX xs.length cX) xs) := HSL4.out.keep fun j hj => hb5.block j (by omega)
      clear hb5 kx
      rw [hok]
      go_wp2_with fail
      refine (l02Length_any _ _ _ xs ls _ Hl.out kx5 kz5 (HSL5.out.more fun j hj => by omega) Hsm.out hx9).mono ?_
      rintro e w6 ⟨rfl, hb6⟩
      have kx6 := (hb6.cell (p := ⟨w2.heap.size, 0, none⟩) kz5).trans kx5
      have kz6 : w2.heap.size < w6.heap.size := Nat.lt_of_lt_of_le kz5 hb6.size
      have HS6 := Lib.hid (HS5.out.keep hb6)
      have hX6 := Boxed.up HX5.out hb6 (by omega)
      have HX6 := Lib.hid hX6
      have HB6 := Lib.hid (HB5.out.trans (hb6.mono (by omega)))
      have HSL6 : Hid (SlS RuleE w6 (fun j => wr.heap.size < j ∧ j < w2.heap.size) (.slice AX xs.length cX) xs) := HSL5.out.keep fun j hj => hb6.block j (by omega)
      have cR := Boxed.cell hX6
      have fR := Boxed.frozen hX6
      have zR6 := (Array.getElem?_eq_some_iff.1 hX6).1
      clear hb6 kx5 hX6
      by_cases hle : lastI ls ≤ 250000000000000
      · go_wp2_with fail
        exact bodyPost_ret (v := .agg #[.slice AX xs.length cX]) (by simp [results, Try.results18, go_sem, cR]) rfl
          ⟨_, xs, rfl, (HSL6.out.keep fun k hk => Below.heap_setCell w6 ⟨w.heap.size, 0, none⟩ _ k (by show k ≠ w.heap.size; omega)).more fun k hk => by simp [World.setCell]; omega, HOK.out, HB6.out.setCell (p := ⟨w.heap.size, 0, none⟩) (Nat.le_refl _) _⟩
      · have hle2 : decide (lastI ls ≤ 250000000000000) = false := decide_eq_false hle
        go_wp2_with fail
        go_roundw
        case rel => exact ⟨k + 1, by omega, by go_num, HS6.out.more (by omega), HX6.out, HB6.out⟩
        case measure => simp [intOf]; omega
    · have hk9 : k = 3 := by omega
      subst hk9
      clear cR fR
      go_wp2_with fail
      refine (l02Drawn_any b (500 * 3) 8 _ HS2.out (by omega)).mono ?_
      rintro r w2 ⟨v2, xs, rfl, hsl, hok, h14, hs2, hb2⟩
      have hbx2 := Boxed.but HX.out hb2 (by omega)
      have cR := Boxed.cell hbx2
      have fR := Boxed.frozen hbx2
      have zR2 := (Array.getElem?_eq_some_iff.1 hbx2).1
      have HB3 := Lib.hid (HBB.out.trans (hb2.below (B := w.heap.size) (by omega) (by omega)))
      have HOK := Lib.hid hok.1
      have HSL := Lib.hid hsl
      obtain ⟨AX, cX, rfl, _⟩ := hsl
      clear hok hs2 hb2
      go_wp2_with fail
      exact bodyPost_ret (v := .agg #[.slice AX xs.length cX]) (by simp [results, Try.results18, go_sem, cR]) rfl
        ⟨_, xs, rfl, (HSL.out.keep fun k hk => Below.heap_setCell w2 ⟨w.heap.size, 0, none⟩ _ k (by show k ≠ w.heap.size; omega)).more fun k hk => by simp [World.setCell]; omega, HOK.out, HB3.out.setCell (p := ⟨w.heap.size, 0, none⟩) (Nat.le_refl _) _⟩
set_option maxRecDepth 100000 in
set_option maxHeartbeats 1000000 in
theorem f6ints_any (v v' : Value) (l : List Int) (w : World) (h : Sl IntE w w.heap.size v l) (h' : Sl IntE w w.heap.size v' l) :
    Calls Try.prog 24 #[v, v'] w fun e w' => e = .returned (.bool true) ∧ ∃ n, w' = w.drewN n := by
  obtain ⟨A, c, rfl, hq, hm, hrow⟩ := h
  obtain ⟨A', c', rfl, _, hm', hrow'⟩ := h'
  unfold maxLen at hm hm'
  have hlm : l.length ≤ 9223372036854775807 := by omega
  go_enter Try.func24, Try.ntmps24
  go_wp2_with fail
  go_loopw [5] (fun i wr => ∃ k : Nat, k ≤ l.length ∧ i = .int .i64 k ∧ ∃ m, wr = w.drewN m) (fun i _ => l.length - (intOf i).toNat)
  case atStart => exact ⟨0, Nat.zero_le _, rfl, 0, rfl⟩
  case round =>
    obtain ⟨k, hk, rfl, m, rfl⟩ := hrel
    by_cases hlt : k < l.length
    · have i1 : (k : Int) < (l.length : Int) := by omega
      obtain ⟨b, o, rfl, hb, hc⟩ := hrow.int hlt
      obtain ⟨b', o', rfl, hb', hc'⟩ := hrow'.int hlt
      have d := hc k hlt
      have d' := hc' k hlt
      generalize l.getD k 0 = x at *
      clear hc hc' hm hm' hq
      go_wp2_with fail
      go_quiet (fail)
      go_wp2_with fail
      go_roundw
      case rel => exact ⟨k + 1, by omega, by go_num, _, rfl⟩
      case measure => simp [intOf]; omega
    · have hkk : k = l.length := by omega
      subst hkk
      go_wp2_with fail
      go_ret
      exact ⟨rfl, m, rfl⟩
section
variable {w w' : World} {b : Nat} {l : List Int}
end
theorem tab_cell {w : World} {S : Nat → Prop} {A : Option Addr} {l : List (List Int)} {n c : Nat} (h : SlS (SliceE IntE) w S (.slice A n c) l) (hl : 0 < l.length) :
    ∃ b o, A = some ⟨b, o, none⟩ ∧ S b ∧ ∀ (t d m : Nat) (x : Int), t < l.length → (l.getD t []).length = m → d < m → (l.getD t []).getD d 0 = x → ∃ b' o' c', w.cell? ⟨b, o + t, none⟩ = some (.slice (some ⟨b', o', none⟩) m c') ∧ S b' ∧ w.cell? ⟨b', o' + d, none⟩ = some (.int .i64 x) := by
  obtain ⟨A2, c2, hv, _, _, hr⟩ := h
  obtain ⟨b, o, e, hb, hc⟩ := cells2 hr hl
  have ea : A = A2 := by injection hv
  subst ea
  refine ⟨b, o, e, hb, fun t d m x ht hm hd hx => ?_⟩
  obtain ⟨b', o', c', h1, h2, h3⟩ := hc t d ht (by omega)
  rw [hm] at h1
  rw [hx] at h3
  exact ⟨b', o', c', h1, h2, h3⟩
theorem row_cell {w : World} {S : Nat → Prop} {A : Option Addr} {l : List Int} {n c : Nat} (h : SlS IntE w S (.slice A n c) l) (hl : 0 < l.length) :
    ∃ b o, A = some ⟨b, o, none⟩ ∧ S b ∧ ∀ (d : Nat) (x : Int), d < l.length → l.getD d 0 = x → w.cell? ⟨b, o + d, none⟩ = some (.int .i64 x) := by
  obtain ⟨A2, c2, hv, _, _, hr⟩ := h
  obtain ⟨b, o, e, hb, hc⟩ := hr.int (k := 0) hl
  have ea : A = A2 := by injection hv
  subst ea
  refine ⟨b, o, e, hb, fun d x hd hx => ?_⟩
  have := hc d hd
  rw [hx] at this
  exact this
theorem rule_cell {w : World} {S : Nat → Prop} {A : Option Addr} {l : List GRule} {n c : Nat} (h : SlS RuleE w S (.slice A n c) l) {k : Nat} (hk : k < l.length) :
    ∃ b o, A = some ⟨b, o, none⟩ ∧ S b ∧ w.cell? ⟨b, o + k * 3, none⟩ = some (.string (getR l k).letter) ∧ w.cell? ⟨b, o + k * 3 + 1, none⟩ = some (.int .i64 (getR l k).left) ∧ w.cell? ⟨b, o + k * 3 + 2, none⟩ = some (.int .i64 (getR l k).right) := by
  obtain ⟨A2, c2, hv, _, _, hr⟩ := h
  obtain ⟨b, o, e, hb, hc⟩ := hr.rule (k := k) hk
  have ea : A = A2 := by injection hv
  subst ea
  obtain ⟨h0, h1, h2⟩ := hc k _ (getR_at hk)
  exact ⟨b, o, e, hb, h0, h1, h2⟩
def mixC (R : List Int) (l : Nat) : List Int := R.take l ++ List.replicate (4 - l) 0
theorem mixC_len {R : List Int} (h : R.length = 4) {l : Nat} (hl : l ≤ 4) : (mixC R l).length = 4 := by unfold mixC; simp; omega
theorem mixC_all {R : List Int} (h : R.length = 4) : mixC R 4 = R := by
  unfold mixC; rw [List.take_of_length_le (by omega)]; simp
theorem mixC_set {R : List Int} (h : R.length = 4) {l : Nat} (hl : l < 4) {x : Int} (hx : R.getD l 0 = x) : (mixC R l).set l x = mixC R (l + 1) := by
  subst hx
  match R, h with
  | [a, b, c, d], _ =>
    match l, hl with
    | 0, _ => rfl
    | 1, _ => rfl
    | 2, _ => rfl
    | 3, _ => rfl
theorem mixC_zero {R : List Int} (h : R.length = 4) {l : Nat} (hl : l < 4) (hx : R.getD l 0 = 0) : mixC R l = mixC R (l + 1) := by
  match R, h with
  | [a, b, c, d], _ =>
    match l, hl with
    | 0, _ => simp [List.getD] at hx; subst hx; rfl
    | 1, _ => simp [List.getD] at hx; subst hx; rfl
    | 2, _ => simp [List.getD] at hx; subst hx; rfl
    | 3, _ => simp [List.getD] at hx; subst hx; rfl
theorem OwnInts.stored {w : World} {base g n c : Nat} {L : List Int} (h : OwnInts w base (.slice (some ⟨g, 0, none⟩) n c) L) (hn : L.length = n) (j : Nat) (x : Int) :
    OwnInts (w.setCell ⟨g, j, none⟩ (.int .i64 x)) base (.slice (some ⟨g, 0, none⟩) n c) (L.set j x) := by
  subst hn
  have h1 := (World.ownsRow.stored h j (.int .i64 x)).1
  unfold OwnInts
  rw [List.length_set, List.map_set]
  exact h1
set_option maxRecDepth 100000 in
set_option maxHeartbeats 8000000 in
theorem l05Counts_any (vR : Value) (bg : Nat) (xs : List GRule) (ls : List Int) (w : World) (hR : Sl RuleE w w.heap.size vR xs) (hl : lens xs = some ls) (hn : xs.length ≤ 1099511627776) (hp : w.cell? ⟨bg, 0, none⟩ = some vR) (hbg : bg < w.heap.size) :
    Calls Try.prog 45 #[.pointer (some ⟨bg, 0, none⟩)] w (MapsPost w (cntsL xs xs.length)) := by
  obtain ⟨AR, cR, rfl, _, _, hrowR⟩ := hR
  have Hl := Lib.hid hl
  have HR := Lib.hid hrowR
  have Hp := Lib.hid hp
  have hmk : ∀ W : World, (Instr.makeSlice 34 (.int .i64 4) (.int .i64 4)).run Try.prog W = .ok (.slice (some ⟨W.heap.size, 0, none⟩) 4 4) (W.alloc (.cells (madeCells #[.int .i64 0] 4) 2)) :=
    fun W => run_make_row' _ _ _ 8 Try.underlying34 Try.infoI rfl .i64 .i64 4 (by omega) (by omega) W
  have hmk4 : madeCells #[Value.int .i64 0] 4 = #[.int .i64 0, .int .i64 0, .int .i64 0, .int .i64 0] := Array.toList_inj.1 (by rw [toList_madeCells_one]; rfl)
  rw [hmk4] at hmk
  clear hl hrowR hp hmk4
  go_enter Try.func45, Try.ntmps45
  go_wp2_with fail
  go_loopw [3, 4] (fun out i wr => ∃ (k : Nat) (vs : List Value), k ≤ xs.length ∧ i = .int .i64 k ∧ Below w.heap.size w wr ∧ wr.ownsRow (w.heap.size) 34 1 out k vs ∧
    Each IntE wr (fun b => w.heap.size ≤ b ∧ b < wr.heap.size ∧ some b ≠ out.ownBlock) vs (cntsL xs k)) (fun _ i _ => xs.length - (intOf i).toNat)
  case atStart => exact ⟨0, [], Nat.zero_le _, rfl, (Below.refl _ _).alloc (Nat.le_refl _) _, ownSl_empty rfl (Nat.le_refl _), Each.nil⟩
  case round =>
    obtain ⟨k, vs, hk, rfl, hb, hown, hea⟩ := hrel
    obtain ⟨wo, rfl⟩ : ∃ wo : World, wo = wr := ⟨_, rfl⟩
    have hsz : w.heap.size ≤ wo.heap.size := hb.size
    have hpg := (hb.cell (p := ⟨bg, 0, none⟩) hbg).trans Hp.out
    have hbg2 : bg < wo.heap.size := by omega
    have HB := Lib.hid hb
    have Hown := Lib.hid hown
    have Hea := Lib.hid hea
    clear hb hown hea
    by_cases hlt : k < xs.length
    · obtain ⟨b2, o2, rfl, hb2, hcellR⟩ := HR.out.rule (k := k) hlt
      have hrk := getR_at hlt
      obtain ⟨k0, k1, k2⟩ := hcellR k _ hrk
      have hc0 := (HB.out.cell (p := ⟨b2, o2 + k * 3, none⟩) hb2).trans k0
      have hc1 := (HB.out.cell (p := ⟨b2, o2 + k * 3 + 1, none⟩) hb2).trans k1
      have hc2 := (HB.out.cell (p := ⟨b2, o2 + k * 3 + 2, none⟩) hb2).trans k2
      have hki : (k : Int) < (xs.length : Int) := by omega
      have hsl : SlS (SliceE IntE) wo (fun b => b < wo.heap.size) u3 (cntsL xs k) :=
        (Hea.out.more (S' := fun b => b < wo.heap.size) fun b h => h.2.1).sl (by rw [cntsL_len]; exact Hown.out) fun g hg => (World.ownsRow.lt Hown.out g hg).2
      have Hsl := Lib.hid hsl
      obtain ⟨Ao, co, hvo, _⟩ := hsl
      rw [cntsL_len] at hvo
      subst hvo
      have Hpair := Lib.hid (fun hp => lens_pair Hl.out hlt hp)
      have Hcp := Lib.hid (fun hp c => cnt_pair Hl.out hlt hp c)
      have Hlet := Lib.hid (fun hp => let_one Hl.out hlt hp)
      have hcle := fun (c : UInt8) => cnt_le Hl.out hlt c
      have Hcle := Lib.hid hcle
      clear hrk k0 k1 k2 hcellR hcle
      obtain ⟨R, hR⟩ : ∃ R, getR xs k = R := ⟨_, rfl⟩
      rw [hR] at hc0 hc1 hc2 Hpair Hlet Hcp
      clear hR
      have Hsn : Hid (cntsL xs (k + 1) = cntsL xs k ++ [cntR xs k]) := cntsL_succ _ _
      obtain ⟨rs, rl, rr⟩ := R
      simp only at hc0 hc1 hc2
      go_upto_region 7 with fail
      have kB := ((Below.refl wo.heap.size wo).alloc (Nat.le_refl _) (Obj.cells #[.string rs, .int .i64 rl, .int .i64 rr] 111)).alloc (by simp) (Obj.cells #[.int .i64 0, .int .i64 0, .int .i64 0, .int .i64 0] 2)
      have kX := (Blk.new wo #[.string rs, .int .i64 rl, .int .i64 rr] 111).alloc (Obj.cells #[.int .i64 0, .int .i64 0, .int .i64 0, .int .i64 0] 2)
      have kL : OwnInts ((wo.alloc (Obj.cells #[.string rs, .int .i64 rl, .int .i64 rr] 111)).alloc (Obj.cells #[.int .i64 0, .int .i64 0, .int .i64 0, .int .i64 0] 2)) (wo.heap.size + 1) (.slice (some ⟨wo.heap.size + 1, 0, none⟩) 4 4) (mixC (cntR xs k) 0) := by
        have := World.ownsRow_lit (base := wo.heap.size + 1) (e := 2) (size := 1) (wo.alloc (Obj.cells #[.string rs, .int .i64 rl, .int .i64 rr] 111)) #[.int .i64 0, .int .i64 0, .int .i64 0, .int .i64 0] 4 (by simp) (by decide) rfl
        rw [show mixC (cntR xs k) 0 = [0, 0, 0, 0] from rfl]
        unfold OwnInts
        simpa using this
      have kz : ((wo.alloc (Obj.cells #[.string rs, .int .i64 rl, .int .i64 rr] 111)).alloc (Obj.cells #[.int .i64 0, .int .i64 0, .int .i64 0, .int .i64 0] 2)).heap.size = wo.heap.size + 2 := by simp
      generalize ((wo.alloc (Obj.cells #[.string rs, .int .i64 rl, .int .i64 rr] 111)).alloc (Obj.cells #[.int .i64 0, .int .i64 0, .int .i64 0, .int .i64 0] 2)) = w2 at *
      have KX := Lib.hid kX
      have KB := Lib.hid kB
      have KL := Lib.hid kL
      have kz2 : wo.heap.size + 1 < w2.heap.size := by omega
      clear kB kX kL kz hc0 hc1 hc2
      go_wp2_with fail
      go_loopw [7] (fun i wi => ∃ j : Nat, j ≤ 4 ∧ i = .int .i64 j ∧ Below (wo.heap.size + 1) w2 wi ∧ OwnInts wi (wo.heap.size + 1) (.slice (some ⟨wo.heap.size + 1, 0, none⟩) 4 4) (mixC (cntR xs k) j)) (fun i _ => 4 - (intOf i).toNat)
      case atStart => exact ⟨0, Nat.zero_le _, rfl, Below.refl _ _, KL.out⟩
      case round =>
        obtain ⟨j, hj, rfl, hbi, howni⟩ := hrel
        have Hbi := Lib.hid hbi
        have zi := hbi.size
        have Howni := Lib.hid howni
        have KXi := Lib.hid (KX.out.upB hbi (by omega))
        have d0 := Blk.cell (i := 0) (v := .string rs) KXi.out rfl
        have d1 := Blk.cell (i := 1) (v := .int .i64 rl) KXi.out rfl
        have d2 := Blk.cell (i := 2) (v := .int .i64 rr) KXi.out rfl
        have lX := Blk.lt KXi.out
        have hlR : (mixC (cntR xs k) j).length = 4 := mixC_len rfl hj
        have HlR := Lib.hid hlR
        clear hbi howni hlR
        by_cases hjl : j < 4
        · have i3 : (j : Int) < 4 := by omega
          have fz : wr.frozen? ⟨wo.heap.size + 1, j, none⟩ = false := by
            have := World.ownsRow.frozenAt (by have h := Howni.out; unfold OwnInts at h; rw [HlR.out] at h; exact h) j
            exact this
          have ce : ∃ u, wr.cell? ⟨wo.heap.size + 1, j, none⟩ = some u := by
            have h := Howni.out
            unfold OwnInts at h
            rw [HlR.out] at h
            have h2 := World.ownsRow.cellAt h j (by omega)
            rw [List.getElem?_eq_getElem (by simp; rw [HlR.out]; exact hjl)] at h2
            exact ⟨_, h2⟩
          obtain ⟨u0, ce⟩ := ce
          have lL : wo.heap.size + 1 < wr.heap.size := by omega
          have hset := Lib.hid (fun x hx => mixC_set (R := cntR xs k) rfl hjl (x := x) hx)
          have hzer := Lib.hid (fun hx => mixC_zero (R := cntR xs k) rfl hjl hx)
          have hget := Lib.hid (cntR_get xs k hjl)
          by_cases hp : (⟨rs, rl, rr⟩ : GRule).pair = true
          · obtain ⟨p1, p2, p3, p4, p5⟩ := Hpair.out hp
            have hemp : rs.toList.isEmpty = true := by rw [isEmpty_size]; exact hp
            have hval := Hcp.out hp (ltr j)
            have hle := Hcle.out (ltr j)
            obtain ⟨l, hl⟩ := Int.eq_ofNat_of_zero_le p1
            obtain ⟨q, hq⟩ := Int.eq_ofNat_of_zero_le p3
            (try simp only at hl hq p2 p4 hval)
            rw [hl, Int.toNat_natCast] at p2
            rw [hq, Int.toNat_natCast] at p4
            rw [hl, hq, Int.toNat_natCast, Int.toNat_natCast] at hval
            rw [hl] at d1
            rw [hq] at d2
            obtain ⟨b, o, hA, hbb, hcells⟩ := tab_cell (Hsl.out.keep (Keep.of_below (KB.out.trans (Hbi.out.mono (by omega))))) (by rw [cntsL_len]; omega)
            obtain ⟨b1, o1, c1, e1, e2, e3⟩ := hcells l j 4 _ (by rw [cntsL_len]; omega) (by rw [cntsL_get _ p2, cntR_len]) hjl (by rw [cntsL_get _ p2, cntR_get _ _ hjl])
            obtain ⟨b3, o3, c3, f1, f2, f3⟩ := hcells q j 4 _ (by rw [cntsL_len]; omega) (by rw [cntsL_get _ p4, cntR_len]) hjl (by rw [cntsL_get _ p4, cntR_get _ _ hjl])
            subst hA
            have i1 : (l : Int) < (k : Int) := by omega
            have i2 : (q : Int) < (k : Int) := by omega
            obtain ⟨x, hx⟩ : ∃ x, cntW (ltr j) (W1 xs l) = x := ⟨_, rfl⟩
            obtain ⟨y, hy⟩ : ∃ y, cntW (ltr j) (W1 xs q) = y := ⟨_, rfl⟩
            rw [hx] at e3 hval
            rw [hy] at f3 hval
            have hwr : IntKind.i64.wrap ((x : Int) + (y : Int)) = (x : Int) + (y : Int) := IntWalk.i64_in _ (by omega)
            have hv2 : (cntR xs k).getD j 0 = (x : Int) + (y : Int) := by rw [hget.out]; omega
            have Hv2 := Lib.hid (hset.out _ hv2)
            have e2' : b1 < wo.heap.size := e2
            have f2' : b3 < wo.heap.size := f2
            have hbb' : b < wo.heap.size := hbb
            clear hcells hval hle hx hy hl hq hv2
            go_wp2_with fail
            -- @V p
            go_region
            go_wp2_with fail
            go_roundw
            case rel => exact ⟨j + 1, by omega, by go_num, (by repeat (first | exact Hbi.out | (refine Below.alloc ?_ (by first | omega | (simp; done) | (simp; omega)) _) | (refine Below.setCell ?_ (by first | exact Nat.le_refl _ | (show _ ≤ _; omega) | (simp; done) | (simp; omega)) _) | refine below_drewN ?_ _ | refine Below.drew ?_)), by rw [← Hv2.out]; exact OwnInts.stored (by first | exact Howni.out | exact Howni.out.drew | exact Howni.out.drewN _) HlR.out j _⟩
            case measure => simp [intOf]; omega
          · -- @V l
            have hp' : (⟨rs, rl, rr⟩ : GRule).pair = false := by simpa using hp
            have hemp : rs.toList.isEmpty = false := by rw [isEmpty_size]; simpa [GRule.pair] using hp'
            obtain ⟨m, hm4, hrs, hW⟩ := Hlet.out hp'
            (try simp only at hrs)
            have hs1 : rs.size = 1 := by rw [hrs]; rfl
            have hs0 : 0 < rs.size := by omega
            have hd : rs[0].toNat = 97 + m := by
              have : rs[0] = ltr m := by subst hrs; rfl
              rw [this, ltr_nat hm4]
            have hv2 : (cntR xs k).getD j 0 = if m = j then 1 else 0 := by rw [hget.out, hW, cnt_let hm4 hjl]; split <;> rfl
            have his : (0 : Int) < (rs.size : Int) := by omega
            have hlet : ∀ W, Calls Try.prog 46 #[.int .u8 rs[0].toNat] W fun e w' => e = .returned (.int .i64 (m : Int)) ∧ W = w' := fun W => by
              have := l04Letter_any rs[0] W (by omega) (by omega)
              rwa [show rs[0].toNat - 97 = m by omega] at this
            have HlE := Lib.hid hlet
            clear hrs hs1 hd hlet hp hp' hW
            by_cases hmj : m = j
            · rw [if_pos hmj] at hv2
              have Hv2 := Lib.hid (hset.out _ hv2)
              have hb2 : ((j : Int) == (m : Int)) = true := by simp; omega
              clear hmj hv2
              go_wp2_with fail
              refine (HlE.out _).mono ?_
              rintro e w9 ⟨rfl, rfl⟩
              go_wp2_with fail
              go_roundw
              case rel => exact ⟨j + 1, by omega, by go_num, (by repeat (first | exact Hbi.out | (refine Below.alloc ?_ (by first | omega | (simp; done) | (simp; omega)) _) | (refine Below.setCell ?_ (by first | exact Nat.le_refl _ | (show _ ≤ _; omega) | (simp; done) | (simp; omega)) _) | refine below_drewN ?_ _ | refine Below.drew ?_)), by rw [← Hv2.out]; exact OwnInts.stored (by first | exact Howni.out | exact Howni.out.drew | exact Howni.out.drewN _) HlR.out j _⟩
              case measure => simp [intOf]; omega
            · rw [if_neg hmj] at hv2
              have Hv2 := Lib.hid (hzer.out hv2)
              have hb2 : ((j : Int) == (m : Int)) = false := by simp; omega
              clear hmj hv2
              go_wp2_with fail
              refine (HlE.out _).mono ?_
              rintro e w9 ⟨rfl, rfl⟩
              go_wp2_with fail
              go_roundw
              case rel => exact ⟨j + 1, by omega, by go_num, (by repeat (first | exact Hbi.out | (refine Below.alloc ?_ (by first | omega | (simp; done) | (simp; omega)) _) | (refine Below.setCell ?_ (by first | exact Nat.le_refl _ | (show _ ≤ _; omega) | (simp; done) | (simp; omega)) _) | refine below_drewN ?_ _ | refine Below.drew ?_)), by rw [← Hv2.out]; exact Howni.out⟩
              case measure => simp [intOf]; omega
        · -- @V f
          have hjn : j = 4 := by omega
          subst hjn
          have hown4 := Howni.out
          rw [mixC_all rfl] at hown4
          have Hown4 := Lib.hid hown4
          have hB2 : Below wo.heap.size wo wr := KB.out.trans (Hbi.out.mono (by omega))
          have HB2 := Lib.hid hB2
          have Hown3 := Lib.hid (ownsRow_below Hown.out hB2)
          have hzz : w.heap.size ≤ wr.heap.size := by omega
          have hk9 : k ≤ 1099511627776 := by omega
          clear hB2 hown4
          go_wp2_with (at_builtin; go_must (refine push_sl (W := wr) (N := wr.heap.size) (base := w.heap.size) rfl _ _ rfl rfl rfl rfl rfl (by exact Hown3.out) hk9 hzz ?_); intro v' w3 hown2 hgrow hblk)
          have Hea2 := Lib.hid (maps_push (B := wo.heap.size + 1) (row := cntR xs k) hsz (by omega) Hown.out Hea.out HB2.out Hown4.out hgrow hblk)
          have Hown2 := Lib.hid hown2
          have B2 := Lib.hid (HB.out.trans (((HB2.out.mono hsz).alloc hzz _).grown hgrow (by simp; omega) (fun g hg => (World.ownsRow.lt Hown.out g hg).1)))
          clear hown2 hgrow hblk
          go_roundw
          case rel => exact ⟨k + 1, _, by omega, by go_num, B2.out, Hown2.out, by rw [Hsn.out]; exact Hea2.out⟩
          case measure => simp [intOf]; omega
    · -- @V g
      have hkn : k = xs.length := by omega
      subst hkn
      have Hsl : Hid (SlS (SliceE IntE) wo (fun b => w.heap.size ≤ b ∧ b < wo.heap.size) u3 (cntsL xs xs.length)) :=
        (Hea.out.more (S' := fun b => w.heap.size ≤ b ∧ b < wo.heap.size) fun b h => ⟨by have := h.1; omega, h.2.1⟩).sl (by rw [cntsL_len]; exact Hown.out) fun g hg => by have := World.ownsRow.lt Hown.out g hg; omega
      go_wp2_with fail
      go_ret
      exact ⟨_, rfl, Hsl.out, HB.out⟩
end Go.Proofs.Ytfkijaamfmpboaa
