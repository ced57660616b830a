import Derived.Test.YtagpjommhoedlaaDoorM5
import Derived.Test.YtagpjommhoedlaaDoorM3
import Derived.WalkArith
import Derived.Test.YtagpjommhoedlaaDoorM1
import Derived.Test.YtagpjommhoedlaaDoorM2
namespace Go.Proofs.YtagpjommhoedlaaDoor
open Go.RowKit

theorem binL_lo (n : Nat) : 0 < n → ∀ d, d < (binL n).length → 0 < n / 2 ^ d := by
  induction n using Nat.strongRecOn with
  | ind n ih =>
    intro hn d hd
    by_cases c : n < 2
    · rw [binL_lt c] at hd
      have : d = 0 := by simpa using hd
      subst this; simpa using hn
    · rw [binL_ge c, List.length_append] at hd
      cases d with
      | zero => simpa using hn
      | succ d =>
        have := ih (n / 2) (by omega) (by omega) d (by simp at hd; omega)
        rw [Nat.pow_succ, Nat.mul_comm, ← Nat.div_div_eq_div_mul]
        exact this
theorem binL_hi (n : Nat) : n / 2 ^ (binL n).length = 0 := by
  induction n using Nat.strongRecOn with
  | ind n ih =>
    by_cases c : n < 2
    · rw [binL_lt c]
      have : n / 2 = 0 := by omega
      simpa using this
    · rw [binL_ge c, List.length_append]
      have := ih (n / 2) (by omega)
      show n / 2 ^ ((binL (n / 2)).length + 1) = 0
      rw [Nat.pow_succ, Nat.mul_comm, ← Nat.div_div_eq_div_mul]
      exact this
theorem binL_get (n : Nat) : ∀ j, j < (binL n).length → (binL n)[(binL n).length - 1 - j]? = some (UInt8.ofNat (48 + n / 2 ^ j % 2)) := by
  induction n using Nat.strongRecOn with
  | ind n ih =>
    intro j hj
    by_cases c : n < 2
    · rw [binL_lt c] at hj ⊢
      have : j = 0 := by simpa using hj
      subst this
      have : n % 2 = n := by omega
      simp [this]
    · rw [binL_ge c] at hj ⊢
      rw [List.length_append] at hj ⊢
      cases j with
      | zero => simp
      | succ j =>
        have h1 := ih (n / 2) (by omega) j (by simp at hj; omega)
        have e : (binL (n / 2)).length + [UInt8.ofNat (48 + n % 2)].length - 1 - (j + 1) = (binL (n / 2)).length - 1 - j := by simp; omega
        rw [e, List.getElem?_append_left (by simp at hj; omega), h1, Nat.pow_succ, Nat.mul_comm, ← Nat.div_div_eq_div_mul]
theorem and_oneI (i : Nat) (hi : i < 9223372036854775808) : bits BinOp.and IntKind.i64 (i : Int) 1 = ((i % 2 : Nat) : Int) := by
  have e63 : (2 : Int) ^ 63 = 9223372036854775808 := by decide
  have h := bits_mask .i64 63 (by decide) (fun n h0 h1 => by rw [e63] at h1; rw [IntKind.wrap_i64]; omega) 1 (by decide) (i : Int) (by omega) (by rw [e63]; omega)
  have e : ((2 : Int) ^ 1 - 1) = 1 := by decide
  rw [e] at h
  rw [h]
  omega
theorem shr_nat (n d : Nat) : ((n : Int) / 2 ^ d) = ((n / 2 ^ d : Nat) : Int) := by
  rw [Int.natCast_ediv]; simp
theorem powStep_small {root : Int} {L : List GRule} {d : UInt8} (h : SmallL L) : SmallL (powStep root L d) := by
  unfold powStep
  split <;> intro r hr <;> simp at hr
  · rcases hr with hr | rfl | rfl
    · exact h r hr
    · exact (by decide : (0 : Nat) ≤ 9223372036854775807)
    · exact (by decide : (0 : Nat) ≤ 9223372036854775807)
  · rcases hr with hr | rfl
    · exact h r hr
    · exact (by decide : (0 : Nat) ≤ 9223372036854775807)
theorem powFold_small {root : Int} : ∀ (ds : List UInt8) {L : List GRule}, SmallL L → SmallL (ds.foldl (powStep root) L)
  | [], _, h => h
  | d :: ds, _, h => powFold_small ds (powStep_small (d := d) h)
theorem powG_small {xs : List GRule} (n : Nat) (h : SmallL xs) : SmallL (powG xs n) := by
  unfold powG
  split
  · intro r hr; simp at hr
  · exact powFold_small _ h

set_option maxRecDepth 100000 in
set_option maxHeartbeats 4000000 in
theorem specPower_any (v : Value) (xs : List GRule) (t : Int) (w : World) (h : Sl RuleE w w.heap.size v xs) (hn : xs.length ≤ 1048576) (hs : SmallL xs) :
    Calls Tryd.prog 36 #[.agg #[v], .int .i64 t] w (GRes (powOut xs t) (powCode xs t) w) := by
  have h1 := fun o o' => (h.below (((Below.refl w.heap.size w).alloc (Nat.le_refl _) o).alloc (by simp) o')).le (B' := ((w.alloc o).alloc o').heap.size) (by simp; omega)
  have H1 := Lib.hid h1
  have Hs := Lib.hid hs
  clear h1 hs
  obtain ⟨A, c, rfl, hc, hm, hrow⟩ := h
  clear hm hrow
  go_enter Tryd.func36, Tryd.ntmps36
  go_wp2_with fail
  refine (l02Ok_any _ _ _ _ _ (by simp [go_sem]) (by first | omega | (simp; done) | (simp; omega)) (H1.out _ _) Hs.out).mono ?_
  rintro e w1 ⟨rfl, hb1⟩
  obtain ⟨hc1, hf1⟩ := bcell hb1
  have hz1 : w.heap.size + 1 < w1.heap.size := by have := hb1.size; simp at this; omega
  have a1 : w1.cell? ⟨w.heap.size, 0, none⟩ = some (.slice A xs.length c) := by rw [hc1 _ _ (by first | omega | (simp; done) | (simp; omega))]; simp [go_sem]
  have c1 : w1.cell? ⟨w.heap.size + 1, 0, none⟩ = some (.slice none 0 0) := by rw [hc1 _ _ (by first | omega | (simp; done) | (simp; omega))]; simp [go_sem]
  have f1 : w1.frozen? ⟨w.heap.size + 1, 0, none⟩ = false := by rw [hf1 _ _ (by first | omega | (simp; done) | (simp; omega))]; simp [go_sem]
  have S1 := Lib.hid ((H1.out (Obj.cells #[Value.slice A xs.length c] 26) (Obj.cells #[Value.slice none 0 0] 26)).up hb1)
  have B1 := Lib.hid (((Below.refl w.heap.size w).alloc (Nat.le_refl _) (Obj.cells #[Value.slice A xs.length c] 26)).alloc (by simp) (Obj.cells #[Value.slice none 0 0] 26) |>.trans (hb1.mono (by simp; omega)))
  clear hc1 hf1 hb1
  by_cases hok : gramOk xs = true
  · have hok2 : (!gramOk xs) = false := by simp [hok]
    have Hok := Lib.hid hok
    clear hok
    go_wp2_with fail
    by_cases hin : inB t 0 1000000000000000 = true
    · have Hin := Lib.hid hin
      have ht : 0 ≤ t ∧ t ≤ 1000000000000000 := by simpa [inB] using hin
      obtain ⟨n, rfl⟩ := Int.eq_ofNat_of_zero_le ht.1
      have hn60 : n < 1152921504606846976 := by omega
      clear hin ht
      refine (l00InY _ _ _ _ _ Hin.out).mono ?_
      rintro e w' ⟨rfl, rfl⟩
      have e1 : powOut xs n = limOut (powG xs n) := by rw [powOut, Hok.out, Hin.out]; rfl
      have e2 : powCode xs n = limCode (powG xs n) := by rw [powCode, Hok.out, Hin.out]; rfl
      have E1 := Lib.hid e1
      have E2 := Lib.hid e2
      clear e1 e2
      by_cases h0 : n = 0 ∨ xs.length = 0
      · have hg : powG xs n = [] := by rw [powG, if_pos h0]
        have hlo : limOut (powG xs n) = [] := by rw [hg]; rfl
        have hlc : limCode (powG xs n) = 0 := by rw [hg]; rfl
        have Hg := Lib.hid hg
        have Ho := Lib.hid hlo
        have Hc := Lib.hid hlc
        clear hg hlo hlc
        by_cases hz : n = 0
        · subst hz
          clear h0
          go_wp2_with fail
          have e3 : powOut xs 0 = [] := by
            have e : powOut xs ((0 : Nat) : Int) = [] := by rw [E1.out, Ho.out]
            exact e
          have e4 : powCode xs 0 = 0 := by
            have e : powCode xs ((0 : Nat) : Int) = 0 := by rw [E2.out, Hc.out]
            exact e
          refine bodyPost_ret (v := .tuple #[.agg #[.slice none 0 0], .int .i64 0]) (by simp [results, Tryd.results36, go_sem, c1]) rfl ⟨?_, .slice none 0 0, ?_, by simp [e4]⟩
          · exact B1.out.setCell (by show w.heap.size ≤ w.heap.size + 1; omega) _
          · simp [e3]; exact World.ownsRow_nil _ _ _ _
        · have hx : xs.length = 0 := by omega
          have g0 : ((n : Int) == 0) = false := by rw [beq_eq_false_iff_ne]; omega
          have g1 : ((xs.length : Int) == 0) = true := by simp [hx]
          clear h0 hx
          go_wp2_with fail
          refine bodyPost_ret (v := .tuple #[.agg #[.slice none 0 0], .int .i64 0]) (by simp [results, Tryd.results36, go_sem, c1]) rfl ⟨?_, _, ?_, by rw [E2.out, Hc.out]⟩
          · exact B1.out.setCell (by show w.heap.size ≤ w.heap.size + 1; omega) _
          · rw [E1.out, Ho.out]; exact World.ownsRow_nil _ _ _ _
      · have hg : powG xs n = (binL n).tail.foldl (powStep ((xs.length : Int) - 1)) xs := by rw [powG, if_neg h0]
        have Hg := Lib.hid hg
        have g0 : ((n : Int) == 0) = false := by rw [beq_eq_false_iff_ne]; omega
        have g1 : ((xs.length : Int) == 0) = false := by rw [beq_eq_false_iff_ne]; omega
        have hwx : IntKind.i64.wrap ((xs.length : Int) - 1) = (xs.length : Int) - 1 := IntWalk.i64_in _ (by omega)
        have hn0 : 0 < n := by omega
        have hhi := binL_hi n
        have hlo := binL_lo n hn0
        have hpos := binL_pos n
        have hxt := binL_len n 60 hn60 (by omega)
        have hget := binL_get n
        obtain ⟨BL, hBL⟩ : ∃ BL, binL n = BL := ⟨_, rfl⟩
        rw [hBL] at hhi hlo hpos hxt hget
        have HBL := Lib.hid hBL
        have Hhi := Lib.hid hhi
        have Hlo := Lib.hid hlo
        have Hget := Lib.hid hget
        clear hg hBL hhi hlo hget h0
        go_wp2_with fail
        refine (l02Own_any _ _ _ _ _ a1 (by omega) S1.out (by omega)).mono ?_
        rintro e w3 ⟨v3, rfl, own3, hb3⟩
        obtain ⟨A3, k3, rfl, _⟩ := own_nil own3
        have z3 : w1.heap.size ≤ w3.heap.size := hb3.size
        have hz3 : w.heap.size + 1 < w3.heap.size := by omega
        have a3 := cell_up a1 hb3 (by omega)
        have c3 := cell_up c1 hb3 (by omega)
        have f3 : w3.frozen? ⟨w.heap.size + 1, 0, none⟩ = false := by rw [hb3.frozen hz1, f1]
        have B3 := Lib.hid (B1.out.trans (hb3.mono (by omega)))
        have O3 := Lib.hid own3
        have y3 : w.heap.size < w3.heap.size := by omega
        clear a1 c1 f1 hb3 own3
        go_wp2_with fail
        go_loopw [8] (fun q wr => ∃ d : Nat, q = .int .i64 d ∧ d ≤ BL.length ∧ wr = w3.alloc (Obj.cells #[Value.slice A3 xs.length k3] 26)) (fun q _ => BL.length - (intOf q).toNat)
        case atStart => exact ⟨0, rfl, Nat.zero_le _, rfl⟩
        case round =>
          obtain ⟨d, rfl, hd, rfl⟩ := hrel
          by_cases hdl : d < BL.length
          · have hsh : (0 : Int) < (n : Int) / 2 ^ d := by rw [shr_nat]; have := Hlo.out d hdl; omega
            have hd60 : d < 64 := by omega
            go_wp2_with fail
            exact ⟨⟨d + 1, rfl, hdl, trivial⟩, by simp [intOf]; omega⟩
          · have hdn : d = BL.length := by omega
            subst hdn
            have hsh : ¬ ((0 : Int) < (n : Int) / 2 ^ BL.length) := by rw [shr_nat, Hhi.out]; decide
            obtain ⟨K, hK⟩ : ∃ K, w3.heap.size = K := ⟨_, rfl⟩
            have bx4 : Boxed (w3.alloc (Obj.cells #[Value.slice A3 xs.length k3] 26)) K 26 (.slice A3 xs.length k3) := by rw [← hK]; exact Boxed.new _ _ _
            have own4 : OwnRules (w3.alloc (Obj.cells #[Value.slice A3 xs.length k3] 26)) w1.heap.size (.slice A3 xs.length k3) xs := O3.out.alloc _
            have b4 : Below w1.heap.size (w3.alloc (Obj.cells #[Value.slice A3 xs.length k3] 26)) (w3.alloc (Obj.cells #[Value.slice A3 xs.length k3] 26)) := Below.refl _ _
            have B4 := Lib.hid (B3.out.alloc (by omega) (Obj.cells #[Value.slice A3 xs.length k3] 26))
            have y4 : w.heap.size + 1 < (w3.alloc (Obj.cells #[Value.slice A3 xs.length k3] 26)).heap.size := by simp; omega
            have c4 : (w3.alloc (Obj.cells #[Value.slice A3 xs.length k3] 26)).cell? ⟨w.heap.size + 1, 0, none⟩ = some (.slice none 0 0) := by simp [go_sem, c3, hz3]
            have f4 : (w3.alloc (Obj.cells #[Value.slice A3 xs.length k3] 26)).frozen? ⟨w.heap.size + 1, 0, none⟩ = false := by simp [go_sem, f3, hz3]
            have hK1 : w1.heap.size ≤ K := by omega
            rw [hK]
            revert bx4 own4 b4 B4 y4 c4 f4
            generalize w3.alloc (Obj.cells #[Value.slice A3 xs.length k3] 26) = w4
            intro bx4 own4 b4 B4 y4 c4 f4
            clear a3 c3 f3 y3 hK hdl hd
            have h60 : BL.length ≤ 60 := hxt
            have hbl : BL.tail.length = BL.length - 1 := by simp
            go_wp2_with fail
            go_loopw [9, 10] (fun q u wr => ∃ (k : Nat) (vo : Value), q = .int .i64 ((BL.length : Int) - 2 - k) ∧ k ≤ BL.length - 1 ∧ Boxed wr K 26 vo ∧ OwnRules wr w1.heap.size vo ((BL.tail.take k).foldl (powStep ((xs.length : Int) - 1)) xs) ∧ Below w1.heap.size w4 wr) (fun q _ _ => (intOf q + 1).toNat)
            case atStart => exact ⟨0, _, by simp, Nat.zero_le _, bx4, by simpa using own4, b4⟩
            case round =>
              obtain ⟨k, vo, rfl, hk, hbox, hown, hb⟩ := hrel
              have Hb := Lib.hid hb
              have Hown := Lib.hid hown
              have Hbox := Lib.hid hbox
              have hll := powFold_len ((xs.length : Int) - 1) (BL.tail.take k) xs
              obtain ⟨L, hL⟩ : ∃ L, (BL.tail.take k).foldl (powStep ((xs.length : Int) - 1)) xs = L := ⟨_, rfl⟩
              have HL := Lib.hid hL
              have hlen : L.length ≤ 2000000 := by rw [← hL]; simp at hll; omega
              rw [hL] at Hown
              clear hb hown hbox hll hL
              by_cases hlt : k < BL.length - 1
              · obtain ⟨j, hj⟩ : ∃ j : Nat, (BL.length : Int) - 2 - k = j := ⟨BL.length - 2 - k, by omega⟩
                have hjl : j < BL.length := by omega
                have hgt := Hget.out j hjl
                have hgt' : BL.tail[k]? = some (UInt8.ofNat (48 + n / 2 ^ j % 2)) := by
                  rw [← hgt, List.getElem?_tail]; congr 1; omega
                have Hgt := Lib.hid hgt'
                have hand : bits BinOp.and IntKind.i64 ((n : Int) / 2 ^ j) 1 = ((n / 2 ^ j % 2 : Nat) : Int) := by
                  rw [shr_nat]; exact and_oneI _ (Nat.lt_of_le_of_lt (Nat.div_le_self _ _) (by omega))
                obtain ⟨D, hD⟩ : ∃ D, n / 2 ^ j % 2 = D := ⟨_, rfl⟩
                have hD2 : D = 0 ∨ D = 1 := by omega
                rw [hD] at hand Hgt
                obtain ⟨Ao, co, rfl, _⟩ := own_nil Hown.out
                have bxc := Hbox.out.cell
                have bxf := Hbox.out.frozen
                have hw1 : IntKind.i64.wrap ((L.length : Int) - 1) = (L.length : Int) - 1 := IntWalk.i64_in _ (by omega)
                have hw2 : IntKind.i64.wrap ((j : Int) - 1) = (j : Int) - 1 := IntWalk.i64_in _ (by omega)
                have Hll : Hid (L.length ≤ 1099511627775) := by rw [Hid]; omega
                have Hw4 := Lib.hid (show w1.heap.size ≤ w4.heap.size by have := bx4.lt; omega)
                have Hw0 := Lib.hid (show w1.heap.size ≤ wr.heap.size from Nat.le_trans (by have := bx4.lt; omega) Hb.out.size)
                have Hlen := Lib.hid hlen
                rw [hj]
                have Hj := Lib.hid hj
                have Hlt := Lib.hid hlt
                have hj60 : j < 64 := by omega
                clear hgt hgt' hD hlt hk hj
                have Hstep : Hid ((BL.tail.take (k + 1)).foldl (powStep ((xs.length : Int) - 1)) xs = powStep ((xs.length : Int) - 1) L (UInt8.ofNat (48 + D))) := by
                  rw [Hid, List.take_add_one, Hgt.out, List.foldl_append, HL.out]; rfl
                obtain ⟨M, hM⟩ : ∃ M, L ++ [pairR ((L.length : Int) - 1) ((L.length : Int) - 1)] = M := ⟨_, rfl⟩
                have hMl : M.length = L.length + 1 := by rw [← hM]; simp
                have HM := Lib.hid hM
                have HMl := Lib.hid hMl
                have Hml : Hid (M.length ≤ 1099511627775) := by rw [Hid]; have := Hlen.out; omega
                have HN := fun q : Int × Int => Lib.hid (show (M ++ [pairR q.1 q.2]).length = M.length + 1 by simp)
                have e0 : powStep ((xs.length : Int) - 1) L (UInt8.ofNat (48 + 0)) = M := by rw [← hM]; simp [powStep]
                have e1 : powStep ((xs.length : Int) - 1) L (UInt8.ofNat (48 + 1)) = M ++ [pairR (L.length : Int) ((xs.length : Int) - 1)] := by rw [← hM]; simp [powStep]
                have E3 := Lib.hid e0
                have E4 := Lib.hid e1
                have hm0 : (((j : Int) - 1) + 1).toNat < ((j : Int) + 1).toNat := by omega
                have Hm0 := Lib.hid hm0
                clear hM hMl e0 e1 hm0
                rcases hD2 with rfl | rfl
                · go_wp2_with (first
                    | (at_builtin; refine list_push_rule (base := w1.heap.size) (v := .slice Ao L.length co) rfl _ _ rfl (by rfl) (by rfl) rfl Hown.out Hll.out Hw0.out ?_; intro v5 w5 own5 hg5 hb5; go_loud (have bx5 : Boxed w5 K 26 _ := Boxed.grown Hbox.out (by decide) Hown.out hg5; obtain ⟨A5, c5, rfl, _⟩ := own_nil own5; have hcb5 := bx5.cell; have hfb5 := bx5.frozen; have hl5 := bx5.lt; have own6 := Lib.hid (own_put bx5 own5 HM.out HMl.out); have B6 : Hid (Below w1.heap.size w4 (w5.setCell ⟨K, 0, none⟩ (.slice A5 (L.length + 1) c5))) := ((Hb.out.alloc Hw0.out _).trans hb5).setCell hK1 _; have X6 : Hid (Boxed (w5.setCell ⟨K, 0, none⟩ (.slice A5 (L.length + 1) c5)) K 26 (.slice A5 (L.length + 1) c5)) := Boxed.set _ bx5; clear own5 hg5 hb5)))
                  refine ⟨⟨k + 1, _, by congr 1; have := Hj.out; omega, by have := Hlt.out; omega, X6.out, ?_, B6.out⟩, by simp only [intOf]; exact Hm0.out⟩
                  rw [Hstep.out, E3.out]; exact own6.out
                · go_wp2_with (first
                    | (at_builtin; refine list_push_rule (base := w1.heap.size) (v := .slice Ao L.length co) rfl _ _ rfl (by rfl) (by rfl) rfl Hown.out Hll.out Hw0.out ?_; intro v5 w5 own5 hg5 hb5; go_loud (have bx5 : Boxed w5 K 26 _ := Boxed.grown Hbox.out (by decide) Hown.out hg5; obtain ⟨A5, c5, rfl, _⟩ := own_nil own5; have hcb5 := bx5.cell; have hfb5 := bx5.frozen; have hl5 := bx5.lt; have own6 := Lib.hid (own_put bx5 own5 HM.out HMl.out); have B6 : Hid (Below w1.heap.size w4 (w5.setCell ⟨K, 0, none⟩ (.slice A5 (L.length + 1) c5))) := ((Hb.out.alloc Hw0.out _).trans hb5).setCell hK1 _; have X6 : Hid (Boxed (w5.setCell ⟨K, 0, none⟩ (.slice A5 (L.length + 1) c5)) K 26 (.slice A5 (L.length + 1) c5)) := Boxed.set _ bx5; clear own5 hg5 hb5))
                    | (at_builtin; go_loud (refine list_push_rule (base := w1.heap.size) (v := .slice A5 (L.length + 1) c5) rfl _ _ rfl (by rfl) (by rfl) (by simp) own6.out Hml.out (Nat.le_trans Hw4.out B6.out.size) ?_); intro v7 w7 own7 hg7 hb7; have bx7 : Boxed w7 K 26 _ := Boxed.grown X6.out (by decide) own6.out hg7; obtain ⟨A7, c7, rfl, _⟩ := own_nil own7; have hcb7 := bx7.cell; have hfb7 := bx7.frozen; have hl7 := bx7.lt; go_loud (have own8 := Lib.hid (own_put bx7 own7 rfl (HN (L.length, (xs.length : Int) - 1)).out); have B8 : Hid (Below w1.heap.size w4 (w7.setCell ⟨K, 0, none⟩ (.slice A7 (M.length + 1) c7))) := ((B6.out.alloc (Nat.le_trans Hw4.out B6.out.size) _).trans hb7).setCell hK1 _; have X8 : Hid (Boxed (w7.setCell ⟨K, 0, none⟩ (.slice A7 (M.length + 1) c7)) K 26 (.slice A7 (M.length + 1) c7)) := Boxed.set _ bx7; clear own7 hg7 hb7)))
                  refine ⟨⟨k + 1, _, by congr 1; have := Hj.out; omega, by have := Hlt.out; omega, X8.out, ?_, B8.out⟩, by simp only [intOf]; exact Hm0.out⟩
                  rw [Hstep.out, E4.out]; exact own8.out
              · have hkn : k = BL.length - 1 := by omega
                subst hkn
                have hneg : ¬ ((0 : Int) ≤ (BL.length : Int) - 2 - ((BL.length - 1 : Nat) : Int)) := by omega
                have hL' : powG xs n = L := by rw [Hg.out, HBL.out, ← HL.out, ← hbl, List.take_length]
                have HL' := Lib.hid hL'
                have z1 : w1.heap.size ≤ wr.heap.size := Nat.le_trans (by have := bx4.lt; omega) Hb.out.size
                obtain ⟨Ao, co, rfl, _⟩ := own_nil Hown.out
                have bxc := Hbox.out.cell
                have hlr := Hbox.out.lt
                have c9 : wr.cell? ⟨w.heap.size + 1, 0, none⟩ = some (.slice none 0 0) := (Hb.out.cell (p := ⟨w.heap.size + 1, 0, none⟩) (by show w.heap.size + 1 < w1.heap.size; omega)).trans c4
                have f9 : wr.frozen? ⟨w.heap.size + 1, 0, none⟩ = false := (Hb.out.frozen (p := ⟨w.heap.size + 1, 0, none⟩) (by show w.heap.size + 1 < w1.heap.size; omega)).trans f4
                have hz9 : w.heap.size + 1 < wr.heap.size := by omega
                have B9 := Lib.hid (B4.out.trans (Hb.out.mono (by omega)))
                clear hL' hlt hk hlen
                go_wp2_with fail
                refine (l02Told_any _ _ _ _ Hown.out (by rw [← HL'.out]; exact powG_small n Hs.out)).mono ?_
                rintro e w10 ⟨hb10, v10, own10, rfl⟩
                obtain ⟨A10, k10, rfl, _⟩ := own_nil own10
                have c10 := cell_up c9 hb10 (by omega)
                have f10 : w10.frozen? ⟨w.heap.size + 1, 0, none⟩ = false := by rw [hb10.frozen hz9, f9]
                have B10 := Lib.hid (B9.out.trans (hb10.mono (by omega)))
                have O10 := Lib.hid own10
                clear c9 f9 hb10 own10
                go_wp2
                refine bodyPost_ret (v := .tuple #[.agg #[.slice A10 (limOut L).length k10], .int .i64 (limCode L)]) (by simp [results, Tryd.results36, go_sem, c10]) rfl ⟨?_, _, ?_, by rw [E2.out, HL'.out]⟩
                · exact B10.out.setCell (by show w.heap.size ≤ w.heap.size + 1; omega) _
                · rw [E1.out, HL'.out]
                  exact ownsRow_more (ownsRow_setCell_below O10.out (a := ⟨w.heap.size + 1, 0, none⟩) (by show w.heap.size + 1 < w1.heap.size; omega) _) (by omega)
    · have hin' : inB t 0 1000000000000000 = false := by simpa using hin
      have Hin := Lib.hid hin'
      clear hin hin'
      refine (l00InY _ _ _ _ _ Hin.out).mono ?_
      rintro e w' ⟨rfl, rfl⟩
      go_wp2
      refine bodyPost_ret (v := .tuple #[.agg #[.slice none 0 0], .int .i64 2]) (by simp [results, Tryd.results36, go_sem, c1]) rfl ⟨?_, _, ?_, by rw [powCode, if_pos Hok.out, if_neg (by rw [Hin.out]; decide)]⟩
      · exact B1.out.setCell (by show w.heap.size ≤ w.heap.size + 1; omega) _
      · rw [powOut, if_neg (by simp [Hin.out])]; exact World.ownsRow_nil _ _ _ _
  · have hok2 : (!gramOk xs) = true := by simp [hok]
    have Hok := Lib.hid hok
    clear hok
    go_wp2
    refine bodyPost_ret (v := .tuple #[.agg #[.slice none 0 0], .int .i64 1]) (by simp [results, Tryd.results36, go_sem, c1]) rfl ⟨?_, _, ?_, by rw [powCode, if_neg (by simp [Hok.out])]⟩
    · exact B1.out.setCell (by show w.heap.size ≤ w.heap.size + 1; omega) _
    · rw [powOut, if_neg (by simp [Hok.out])]; exact World.ownsRow_nil _ _ _ _
end Go.Proofs.YtagpjommhoedlaaDoor

namespace Go.Proofs.YtagpjommhoedlaaDoor
open Go.RowKit

end Go.Proofs.YtagpjommhoedlaaDoor

namespace Go.Proofs.YtagpjommhoedlaaDoor
open Go.RowKit

theorem tabB {P : Program} {w w' : World} {nm : String} {k : IntKind} {zs : List Int} (h : Lib.TabIs P w nm k zs) (hb : Below w.heap.size w w') : Lib.TabIs P w' nm k zs := by
  unfold Lib.TabIs World.var? at h ⊢
  obtain ⟨g, hg, h2⟩ := Option.bind_eq_some_iff.1 h
  rw [hg]
  simp only [Option.bind_some]
  have hlt : g < w.heap.size := by
    rcases Nat.lt_or_ge g w.heap.size with h' | h'
    · exact h'
    · rw [Array.getElem?_eq_none h'] at h2; cases h2
  rw [hb.block g hlt]; exact h2
theorem gram_len400 {p : List GRule} (h : gramOk p = true) : p.length ≤ 400 := (gram_lens h).1
end Go.Proofs.YtagpjommhoedlaaDoor

namespace Go.Proofs.YtagpjommhoedlaaDoor
open Go.RowKit

end Go.Proofs.YtagpjommhoedlaaDoor

namespace Go.Proofs.YtagpjommhoedlaaDoor
open Go.RowKit

end Go.Proofs.YtagpjommhoedlaaDoor

namespace Go.Proofs.YtagpjommhoedlaaDoor
open Go.RowKit

end Go.Proofs.YtagpjommhoedlaaDoor

namespace Go.Proofs.YtagpjommhoedlaaDoor
open Go.RowKit

end Go.Proofs.YtagpjommhoedlaaDoor

namespace Go.Proofs.YtagpjommhoedlaaDoor
open Go.RowKit

/-- An edit in the cells of block E behind the place o. -/
structure EC (w : World) (E o : Nat) (e : GEdit) (vR : Value) : Prop where
  c0 : w.cell? ⟨E, o, none⟩ = some (.int .i64 e.kind)
  c1 : w.cell? ⟨E, o + 1, none⟩ = some (.int .i64 e.i)
  c2 : w.cell? ⟨E, o + 2, none⟩ = some (.int .i64 e.j)
  c3 : w.cell? ⟨E, o + 3, none⟩ = some (.int .i64 e.k)
  c4 : w.cell? ⟨E, o + 4, none⟩ = some vR
  c5 : w.cell? ⟨E, o + 5, none⟩ = some (.string e.map)
  lt : E < w.heap.size
section
variable {w w' : World} {E o b : Nat} {e : GEdit} {vR : Value}
theorem EC.same (h : EC w E o e vR) (hs : w'.heap[E]? = w.heap[E]?) : EC w' E o e vR := by
  have k : ∀ {j : Nat} {v : Value}, w.cell? ⟨E, j, none⟩ = some v → w'.cell? ⟨E, j, none⟩ = some v := fun {j v} hc => (World.cell?_of_block (a := ⟨E, j, none⟩) hs).trans hc
  refine ⟨k h.c0, k h.c1, k h.c2, k h.c3, k h.c4, k h.c5, ?_⟩
  have h1 : w.heap[E]? = some (w.heap[E]'h.lt) := Array.getElem?_eq_getElem h.lt
  exact (Array.getElem?_eq_some_iff.1 (hs.trans h1)).1
theorem EC.up (h : EC w E o e vR) (hb : Below w.heap.size w w') : EC w' E o e vR := h.same (hb.block E h.lt)
theorem EC.but (h : EC w E o e vR) (hb : But b w w') (hne : E ≠ b) : EC w' E o e vR := h.same (hb.block E h.lt hne)
end
/-- One cell, in a world that has it and in the later ones. -/
structure C1 (w : World) (p : Addr) (v : Value) : Prop where
  c : w.cell? p = some v
  lt : p.block < w.heap.size
theorem C1.same {w w' : World} {p : Addr} {v : Value} (h : C1 w p v) (hs : w'.heap[p.block]? = w.heap[p.block]?) : C1 w' p v := by
  refine ⟨(World.cell?_of_block hs).trans h.c, ?_⟩
  have h1 : w.heap[p.block]? = some (w.heap[p.block]'h.lt) := Array.getElem?_eq_getElem h.lt
  exact (Array.getElem?_eq_some_iff.1 (hs.trans h1)).1
theorem C1.up {w w' : World} {p : Addr} {v : Value} (h : C1 w p v) (hb : Below w.heap.size w w') : C1 w' p v := h.same (hb.block _ h.lt)
theorem C1.but {w w' : World} {b : Nat} {p : Addr} {v : Value} (h : C1 w p v) (hb : But b w w') (hne : p.block ≠ b) : C1 w' p v := h.same (hb.block _ h.lt hne)
end Go.Proofs.YtagpjommhoedlaaDoor

namespace Go.Proofs.YtagpjommhoedlaaDoor
open Go.RowKit

end Go.Proofs.YtagpjommhoedlaaDoor

namespace Go.Proofs.YtagpjommhoedlaaDoor
open Go.RowKit

end Go.Proofs.YtagpjommhoedlaaDoor

namespace Go.Proofs.YtagpjommhoedlaaDoor
open Go.RowKit

end Go.Proofs.YtagpjommhoedlaaDoor

namespace Go.Proofs.YtagpjommhoedlaaDoor
open Go.RowKit

/-- An edit at an address, below B. -/
structure EditAt (w : World) (B b : Nat) (e : GEdit) (vR : Value) : Prop where
  box : Box6 w b (.int .i64 e.kind) (.int .i64 e.i) (.int .i64 e.j) (.int .i64 e.k) vR (.string e.map)
  lt : b < B
  sl : Sl RuleE w B vR e.part
theorem EditAt.up {w w' : World} {b : Nat} {e : GEdit} {vR : Value} (h : EditAt w w.heap.size b e vR) (hb : Below w.heap.size w w') : EditAt w' w'.heap.size b e vR :=
  ⟨h.box.up hb h.lt, Nat.lt_of_lt_of_le h.lt hb.size, h.sl.up hb⟩

end Go.Proofs.YtagpjommhoedlaaDoor

namespace Go.Proofs.YtagpjommhoedlaaDoor
open Go.RowKit

end Go.Proofs.YtagpjommhoedlaaDoor

namespace Go.Proofs.YtagpjommhoedlaaDoor
open Go.RowKit

end Go.Proofs.YtagpjommhoedlaaDoor

namespace Go.Proofs.YtagpjommhoedlaaDoor
open Go.RowKit

end Go.Proofs.YtagpjommhoedlaaDoor

namespace Go.Proofs.YtagpjommhoedlaaDoor
open Go.RowKit

end Go.Proofs.YtagpjommhoedlaaDoor

namespace Go.Proofs.YtagpjommhoedlaaDoor
open Go.RowKit

end Go.Proofs.YtagpjommhoedlaaDoor

namespace Go.Proofs.YtagpjommhoedlaaDoor
open Go.RowKit

end Go.Proofs.YtagpjommhoedlaaDoor

namespace Go.Proofs.YtagpjommhoedlaaDoor
open Go.RowKit

end Go.Proofs.YtagpjommhoedlaaDoor

namespace Go.Proofs
end Go.Proofs
namespace Go.Proofs.YtagpjommhoedlaaDoor
open Go.RowKit

end Go.Proofs.YtagpjommhoedlaaDoor

namespace Go.Proofs.YtagpjommhoedlaaDoor
open Go.RowKit

/-- The rules of one edit of a row: nothing, or a row of its own between two numbers, apart from the row of edits v. -/
def PartAt (w : World) (v : Value) (a b : Nat) (p : GEdit × Value) : Prop :=
  ((p.1.part = [] ∧ ∃ A c, p.2 = .slice A 0 c ∧ c ≤ maxLen) ∨ OwnR w a b p.2 p.1.part) ∧ ∀ g, v.ownBlock = some g → g < a ∨ b ≤ g
theorem PartAt.keep {w w' : World} {v : Value} {a b : Nat} {p : GEdit × Value} (h : PartAt w v a b p) (hk : ∀ g, a ≤ g → g < b → w'.heap[g]? = w.heap[g]?) (hs : w.heap.size ≤ w'.heap.size) : PartAt w' v a b p := by
  refine ⟨?_, h.2⟩
  rcases h.1 with h | h1
  · exact .inl h
  · exact .inr ⟨own_keep h1.1 fun g hg => hk g (h1.rng g hg).1 (h1.rng g hg).2, h1.2.1, Nat.le_trans h1.2.2 hs⟩
theorem PartAt.row {w w' : World} {v : Value} {a b g : Nat} {p : GEdit × Value} (h : PartAt w v a b p) (hv : v.ownBlock = some g) (hb : b ≤ w.heap.size) (hg : w.grownBy w' (some g)) : PartAt w' v a b p :=
  h.keep (fun g' h1 h2 => hg.block g' (by omega) (fun e => by have := h.2 g hv; simp at e; omega)) hg.size
theorem PartAt.sl {w : World} {v : Value} {a b : Nat} {p : GEdit × Value} (h : PartAt w v a b p) : Sl RuleE w w.heap.size p.2 p.1.part := by
  rcases h.1 with ⟨h1, A, c, h2, h3⟩ | h1
  · rw [h1, h2]; exact ⟨A, c, rfl, Nat.zero_le _, h3, fun h => absurd h (by simp)⟩
  · exact h1.sl
structure PartsR (w : World) (v : Value) (lo hi : Nat) (r : Nat → Nat) (ps : List (GEdit × Value)) : Prop where
  low : lo ≤ r 0
  mono : ∀ i j, i ≤ j → r i ≤ r j
  high : ∀ i, r i ≤ hi
  at_ : ∀ i p, ps[i]? = some p → PartAt w v (r (2 * i)) (r (2 * i + 1)) p
theorem PartsR.keep {w w' : World} {v : Value} {lo hi : Nat} {r : Nat → Nat} {ps : List (GEdit × Value)} (h : PartsR w v lo hi r ps) (hk : ∀ g, lo ≤ g → g < hi → v.ownBlock ≠ some g → w'.heap[g]? = w.heap[g]?) (hs : w.heap.size ≤ w'.heap.size) : PartsR w' v lo hi r ps := by
  refine ⟨h.low, h.mono, h.high, fun i p hp => ?_⟩
  obtain ⟨h0, h2⟩ := h.at_ i p hp
  refine ⟨?_, h2⟩
  rcases h0 with h1 | h1
  · exact .inl h1
  · refine .inr ⟨own_keep h1.1 fun g hg => ?_, h1.2.1, Nat.le_trans h1.2.2 hs⟩
    have hr := h1.rng g hg
    have a1 := h.mono 0 (2 * i) (Nat.zero_le _)
    have a2 := h.high (2 * i + 1)
    have a3 := h.low
    refine hk g (by omega) (by omega) fun e => ?_
    have := h2 g e
    omega
theorem PartsR.snoc {w : World} {v : Value} {lo hi hi' : Nat} {r : Nat → Nat} {ps : List (GEdit × Value)} {q : GEdit × Value} (h : PartsR w v lo hi r ps) (hq : PartAt w v hi hi' q) (hh : hi ≤ hi') (hl : lo ≤ hi) : ∃ r', PartsR w v lo hi' r' (ps ++ [q]) := by
  refine ⟨fun j => if j < 2 * ps.length then r j else if j = 2 * ps.length then hi else hi', ?_, ?_, ?_, ?_⟩
  · have := h.low
    split
    · omega
    · split <;> omega
  · intro i j hij
    have h1 := h.mono i j hij
    have h2 := h.high i
    repeat' split
    all_goals omega
  · intro i
    have h2 := h.high i
    repeat' split
    all_goals omega
  · intro i p hp
    rcases Nat.lt_or_ge i ps.length with hlt | hge
    · rw [List.getElem?_append_left hlt] at hp
      have := h.at_ i p hp
      simp only [show 2 * i < 2 * ps.length by omega, show 2 * i + 1 < 2 * ps.length by omega, if_true]
      exact this
    · rw [List.getElem?_append_right hge] at hp
      have hi0 : i = ps.length := by
        have := (List.getElem?_eq_some_iff.1 hp).1
        simp at this; omega
      subst hi0
      simp at hp
      subst hp
      simp only [Nat.lt_irrefl, if_false, if_true, show ¬ (2 * ps.length + 1 < 2 * ps.length) by omega, show ¬ (2 * ps.length + 1 = 2 * ps.length) by omega]
      exact hq
theorem PartsR.nil {w : World} {v : Value} {lo hi : Nat} (h : lo ≤ hi) : PartsR w v lo hi (fun _ => hi) [] := ⟨h, fun _ _ _ => Nat.le_refl _, fun _ => Nat.le_refl _, fun i p hp => by simp at hp⟩
theorem PartsR.le {w : World} {v : Value} {lo lo' hi hi' : Nat} {r : Nat → Nat} {ps : List (GEdit × Value)} (h : PartsR w v lo hi r ps) (h1 : lo' ≤ lo) (h2 : hi ≤ hi') : PartsR w v lo' hi' r ps := ⟨Nat.le_trans h1 h.low, h.mono, fun i => Nat.le_trans (h.high i) h2, h.at_⟩
section
variable {w w' : World} {lo hi : Nat} {v : Value} {es : List GEdit}
end
end Go.Proofs.YtagpjommhoedlaaDoor

namespace Go.Proofs.YtagpjommhoedlaaDoor
open Go.RowKit

end Go.Proofs.YtagpjommhoedlaaDoor

namespace Go.Proofs.YtagpjommhoedlaaDoor
open Go.RowKit

end Go.Proofs.YtagpjommhoedlaaDoor

namespace Go.Proofs.YtagpjommhoedlaaDoor
open Go.RowKit

end Go.Proofs.YtagpjommhoedlaaDoor

namespace Go.Proofs.YtagpjommhoedlaaDoor
open Go.RowKit

end Go.Proofs.YtagpjommhoedlaaDoor

namespace Go.Proofs.YtagpjommhoedlaaDoor
open Go.RowKit

end Go.Proofs.YtagpjommhoedlaaDoor

namespace Go.Proofs.YtagpjommhoedlaaDoor
open Go.RowKit

def foundK (s : ByteArray) (c : UInt8) (k : Nat) : List Int := ((List.range k).filter (fun j => s.data.getD j 0 == c)).map fun (j : Nat) => (j : Int)
theorem foundK_succ (s : ByteArray) (c : UInt8) (k : Nat) : foundK s c (k + 1) = if s.data.getD k 0 = c then foundK s c k ++ [(k : Int)] else foundK s c k := by
  unfold foundK
  rw [List.range_succ, List.filter_append, List.map_append]
  by_cases h : s.data.getD k 0 = c
  · rw [if_pos h]; simp at h; simp [h]
  · rw [if_neg h]; simp at h; simp [h]
theorem foundK_len (s : ByteArray) (c : UInt8) (k : Nat) : (foundK s c k).length ≤ k := by
  unfold foundK
  rw [List.length_map]
  exact Nat.le_trans (List.length_filter_le _ _) (by simp)
theorem foundK_pos (s : ByteArray) (c : UInt8) : 0 < (foundK s c s.size).length ↔ hasC s c = true := by
  unfold foundK hasC
  rw [List.length_map, List.length_pos_iff_exists_mem, List.contains_iff_mem]
  constructor
  · rintro ⟨j, hj⟩
    obtain ⟨h1, h2⟩ := List.mem_filter.1 hj
    have h3 := List.mem_range.1 h1
    rw [getD_data h3] at h2
    have : s[j] = c := by simpa using h2
    rw [← this]
    exact List.mem_of_getElem? (toList_getElem? s j h3)
  · intro h
    obtain ⟨j, hj⟩ := List.mem_iff_getElem?.1 h
    have hlt : j < s.size := by have := (List.getElem?_eq_some_iff.1 hj).1; simpa using this
    refine ⟨j, List.mem_filter.2 ⟨List.mem_range.2 hlt, ?_⟩⟩
    rw [toList_getElem? s j hlt] at hj
    rw [getD_data hlt]
    simpa using hj
theorem ext_one (s : ByteArray) (i : Nat) (h : i < s.size) : s.extract i (i + 1) = ⟨#[s.data.getD i 0]⟩ := by
  rw [getD_data h]
  apply ByteArray.ext
  apply Array.ext'
  show (s.extract i (i + 1)).data.toList = [s[i]]
  rw [Lib.extract_data, show i + 1 - i = 1 by omega]
  have h1 := toList_getElem? s i h
  have hl : i < s.data.toList.length := (List.getElem?_eq_some_iff.1 h1).1
  rw [List.drop_eq_getElem_cons hl]
  have h2 : s.data.toList[i] = s[i] := by
    have := List.getElem?_eq_getElem hl
    rw [h1] at this
    exact (Option.some.inj this).symm
  rw [h2]; rfl
set_option maxRecDepth 100000 in
set_option maxHeartbeats 1000000 in
theorem l01Found_any (s : ByteArray) (c : UInt8) (w : World) (hs : s.size ≤ 1048576) :
    Calls Tryd.prog 65 #[.string ⟨#[c]⟩, .string s] w fun e w' => ∃ v, e = .returned v ∧ OwnInts w' w.heap.size v (foundK s c s.size) ∧ Below w.heap.size w w' := by
  go_enter Tryd.func65, Tryd.ntmps65
  go_wp2_with fail
  go_loopw [5, 6] (fun out q wr => ∃ (i : Nat), i ≤ s.size ∧ q = .int .i64 (i : Int) ∧ Below w.heap.size w wr ∧ OwnInts wr w.heap.size out (foundK s c i)) (fun _ q _ => s.size - (intOf q).toNat)
  case atStart => exact ⟨0, by omega, rfl, (by repeat (first | exact Below.refl _ _ | (refine Below.alloc ?_ (by first | omega | (simp; done) | (simp; omega)) _) | (refine Below.setCell ?_ (by first | exact Nat.le_refl _ | (show _ ≤ _; omega) | (simp; done) | (simp; omega)) _) | refine below_drewN ?_ _ | refine Below.drew ?_)), OwnInts.empty (by simp) (by simp)⟩
  case round =>
    obtain ⟨i, hi, rfl, hb, hown⟩ := hrel
    have HB := Lib.hid hb
    have HO := Lib.hid hown
    have hsz : w.heap.size ≤ wr.heap.size := hb.size
    have hfl := foundK_len s c i
    clear hb
    by_cases hlt : i < s.size
    · have hE := ext_one s i hlt
      have HF := Lib.hid (foundK_succ s c i)
      by_cases hc : s.data.getD i 0 = c
      · have HC := Lib.hid hc
        rw [hc] at hE
        clear hc
        go_wp2_with (first
          | (at_builtin; go_must (refine push_ints rfl _ _ rfl rfl rfl (by simp) (by repeat (first | exact hown | apply OwnInts.alloc)) (by omega) (by first | omega | (simp; omega)) ?_)
             intro v' w1 hown1 hgrow hbw))
        go_roundw
        case rel => exact ⟨i + 1, by omega, by go_num, HB.out.trans hbw, by rw [HF.out, if_pos HC.out]; exact hown1⟩
        case measure => simp [intOf]; omega
      · have HC := Lib.hid hc
        have hne : ¬ (⟨#[s.data.getD i 0]⟩ : ByteArray) = ⟨#[c]⟩ := fun h => hc (by
          have h2 := congrArg ByteArray.data h
          simpa using h2)
        obtain ⟨d, hd⟩ : ∃ d, s.data.getD i 0 = d := ⟨_, rfl⟩
        rw [hd] at hne hE hc
        have hbq : (d == c) = false := by simpa using hc
        clear hd
        go_wp2_with fail
        go_roundw
        case rel => exact ⟨i + 1, by omega, by go_num, HB.out, by rw [HF.out, if_neg HC.out]; exact HO.out⟩
        case measure => simp [intOf]; omega
    · have hi2 : i = s.size := by omega
      subst hi2
      go_wp2_with fail
      go_ret
      exact ⟨_, rfl, HO.out, HB.out⟩
end Go.Proofs.YtagpjommhoedlaaDoor

namespace Go.Proofs.YtagpjommhoedlaaDoor
open Go.RowKit

theorem idx_at (s : ByteArray) {k : Nat} (hk : k < 4) (h : hasC s (ltr k) = true) : idxG s (ltr k) = (letsG s k).length := by
  have : k = 0 ∨ k = 1 ∨ k = 2 ∨ k = 3 := by omega
  have e01 : letR (ltr 0) ≠ letR (ltr 1) := by decide
  unfold idxG letsG
  rcases this with rfl | rfl | rfl | rfl <;> simp only [List.range_succ, List.range_zero, List.nil_append, List.cons_append, List.filter_cons, h] <;> (repeat' split) <;> first | rfl | decide | (simp_all; done)
/-- The places of the letters. -/
def TabI (s : ByteArray) (T : List Int) (k : Nat) : Prop := T.length = 4 ∧ ∀ j, j < k → hasC s (ltr j) = true → T.getD j 0 = (idxG s (ltr j) : Nat)
theorem TabI.next {s : ByteArray} {T : List Int} {k : Nat} (h : TabI s T k) (hn : ¬ hasC s (ltr k) = true) : TabI s T (k + 1) :=
  ⟨h.1, fun j hj hc => by
    rcases Nat.lt_succ_iff_lt_or_eq.1 hj with h1 | rfl
    · exact h.2 j h1 hc
    · exact absurd hc hn⟩
theorem TabI.put {s : ByteArray} {T : List Int} {k : Nat} (h : TabI s T k) (hk : k < 4) (hc : hasC s (ltr k) = true) : TabI s (T.set k ((letsG s k).length : Nat)) (k + 1) :=
  ⟨by rw [List.length_set]; exact h.1, fun j hj hcj => by
    rw [getD_set (by rw [h.1]; exact hk)]
    split
    · rename_i e; subst e; rw [idx_at s hk hc]
    · exact h.2 j (by omega) hcj⟩
theorem step_push_ruleW (W : World) {W' : World} {ops : Array Oper} {o : Oper} {a : Act} {K : Act → World → Prop} {Q : Exit → Act → World → Prop} {E : Prop} {t : ByteArray} {p q : Int} (hW : W' = W.alloc (.cells #[.string t, .int .i64 p, .int .i64 q] 70)) (hgd : o.guard = none) (s x : Operand)
    (ho : o.op = .call { callee := .builtin .append, args := #[s, x], argTypes := #[24, 24] }) {base : Nat} {v : Value} {l : List GRule}
    (hs : a.eval s = v) {N : Nat} (hx : a.eval x = .slice (some ⟨N, 0, none⟩) 1 1) (hN : N = W.heap.size) (hown : OwnRules W base v l) (hlen : l.length ≤ 1099511627775) (hbase : base ≤ W.heap.size)
    (h : ∀ v' w', OwnRules w' base v' (l ++ [⟨t, p, q⟩]) → (W.alloc (.cells #[.string t, .int .i64 p, .int .i64 q] 70)).grownBy w' v.ownBlock → Below base (W.alloc (.cells #[.string t, .int .i64 p, .int .i64 q] 70)) w' → K (a.put o.dst v') w') :
    if Region.wanted o (yielded ops a.tmps) = true then Oper.wp Tryd.prog o a W' K Q else E := by
  subst hW
  exact step_push_rule hgd s x ho hs hx hN hown hlen hbase h
theorem let_place {s : ByteArray} {T : List Int} (hw : wordOk s = true) (hT : TabI s T 4) {i : Nat} (h : i < s.size) : ∃ j : Nat, j < 4 ∧ ((s[i].toNat : Int) - 97) % 256 = (j : Int) ∧ IntKind.u8.wrap ((s[i].toNat : Int) - 97) = (j : Int) ∧ T.getD j 0 = ((idxG s (s.data.getD i 0) : Nat) : Int) := by
  obtain ⟨j, hj, e⟩ := let_ltr (letOk_at hw h)
  have hc := hasC_at h
  rw [getD_data h]
  rw [e] at hc ⊢
  have h1 : (((ltr j).toNat : Int) - 97) % 256 = (j : Int) := by
    rw [← ltr_nat hj]
    omega
  exact ⟨j, hj, h1, h1, hT.2 j hj hc⟩
set_option maxRecDepth 100000 in
set_option maxHeartbeats 4000000 in
theorem l02Plain_any (s : ByteArray) (w : World) (hs : wordOk s = true) :
    Calls Tryd.prog 37 #[.string s] w (GOwn (plainG s) w) := by
  have hsz : s.size ≤ 2000 := by unfold wordOk at hs; simp only [Bool.and_eq_true, decide_eq_true_eq] at hs; omega
  have HS := Lib.hid hs
  clear hs
  have hmk : ∀ W : World, (Instr.makeSlice 51 (.int .i64 4) (.int .i64 4)).run Tryd.prog W = .ok (.slice (some ⟨W.heap.size, 0, none⟩) 4 4) (W.alloc (.cells #[.int .i64 0, .int .i64 0, .int .i64 0, .int .i64 0] 2)) :=
    fun W => by
      have h := run_make_row' (P := Tryd.prog) 51 2 (.int .i64 0) 8 Tryd.underlying51 Tryd.infoI rfl .i64 .i64 4 (by omega) (by omega) W
      have e : madeCells #[Value.int .i64 0] 4 = #[.int .i64 0, .int .i64 0, .int .i64 0, .int .i64 0] := by
        have hr : Array.range 4 = #[0, 1, 2, 3] := by decide
        simp [madeCells, hr]
      rw [e] at h
      exact h
  go_enter Tryd.func37, Tryd.ntmps37
  go_wp2_with fail
  go_loopw [5, 6] (fun q u6 wr => ∃ (k : Nat) (vo : Value) (T : List Int), k ≤ 4 ∧ q = .int .i64 (k : Int) ∧ Below w.heap.size w wr ∧ Blk wr w.heap.size #[.slice none 0 0] 26 ∧ Boxed wr (w.heap.size + 1) 26 vo ∧ OwnRules wr (w.heap.size + 3) vo (letsG s k) ∧ Blk wr (w.heap.size + 2) ((T.map (Value.int .i64)).toArray) 2 ∧ TabI s T k) (fun q _ _ => 4 - (intOf q).toNat)
  case atStart =>
    refine ⟨0, .slice none 0 0, [0, 0, 0, 0], by omega, rfl, (by repeat (first | exact Below.refl _ _ | (refine Below.alloc ?_ (by first | omega | (simp; done) | (simp; omega)) _) | (refine Below.setCell ?_ (by first | exact Nat.le_refl _ | (show _ ≤ _; omega) | (simp; done) | (simp; omega)) _) | refine below_drewN ?_ _ | refine Below.drew ?_)), ?_, ?_, World.ownsRow_nil _ _ _ _, ?_, rfl, fun j hj => by omega⟩
    · repeat (first | (apply Blk.new'; simp; done) | apply Blk.alloc | apply Blk.drew)
    · show Blk _ _ #[.slice none 0 0] _
      repeat (first | (apply Blk.new'; simp; done) | apply Blk.alloc | apply Blk.drew)
    · show Blk _ _ #[.int .i64 0, .int .i64 0, .int .i64 0, .int .i64 0] _
      repeat (first | (apply Blk.new'; simp; done) | apply Blk.alloc | apply Blk.drew)
  case round =>
    obtain ⟨k, vo, T, hk, rfl, hb, h0, hbox, hown, hT, htab⟩ := hrel
    have HB := Lib.hid hb
    have H0 := Lib.hid h0
    have Hbox := Lib.hid hbox
    have Hown := Lib.hid hown
    have HT := Lib.hid hT
    have HTab := Lib.hid htab
    obtain ⟨Ao, co, rfl, _⟩ := own_nil hown
    clear hb h0 hbox hown hT htab
    by_cases hlt : k < 4
    · have hcv : (convert 22 9 (.slice (some ⟨wr.heap.size, 0, none⟩) 1 1)).run Tryd.prog (wr.alloc (.cells #[.int .u8 (97 + (k : Int))] 5)) = .ok (.string (letR (ltr k)).letter) (wr.alloc (.cells #[.int .u8 (97 + (k : Int))] 5)) := by
        have := convC wr _ rfl (ltr k)
        rw [← ltr_nat hlt, show ((97 + k : Nat) : Int) = 97 + (k : Int) by omega] at this
        exact this
      have HSu := Lib.hid (letsG_succ s k)
      have hTl := HTab.out.1
      have cT := HT.out.cell (i := k) (ints_cell (by omega))
      have fT := HT.out.frozen k
      have lT := HT.out.lt
      have cb := Hbox.out.cell
      have fb := Hbox.out.frozen
      have lb := Hbox.out.lt
      have hll := letsG_len s k
      go_wp2_with fail
      refine (l01Found_any s (ltr k) _ (by omega)).mono ?_
      rintro e w2 ⟨v2, rfl, own2, hb2⟩
      obtain ⟨A2, c2, rfl, _⟩ := OwnInts.sl own2
      obtain ⟨hb3, _⟩ := Below.unalloc hb2
      have z2 : wr.heap.size ≤ w2.heap.size := hb3.size
      have HB2 := Lib.hid (HB.out.trans (hb3.mono HB.out.size))
      have H02 := Lib.hid (H0.out.up hb3)
      have Hbox2 := Lib.hid (Boxed.up Hbox.out hb3 Hbox.out.lt)
      have Hown2 := Lib.hid (OwnRules.below Hown.out hb3)
      have HT2 := Lib.hid (HT.out.up hb3)
      have cT2 := HT2.out.cell (i := k) (ints_cell (by omega))
      have fT2 := HT2.out.frozen k
      have lT2 := HT2.out.lt
      have cb2 := Hbox2.out.cell
      have fb2 := Hbox2.out.frozen
      have lb2 := Hbox2.out.lt
      have hpos := foundK_pos s (ltr k)
      generalize (foundK s (ltr k) s.size).length = M at *
      clear hb2 own2 cT fT lT cb fb lb HB H0 Hbox Hown HT hb3
      by_cases hc : hasC s (ltr k) = true
      · have hM : 0 < M := hpos.2 hc
        have HC := Lib.hid hc
        clear hpos hc
        have KX : ∀ v, Boxed (w2.setCell ⟨w.heap.size + 2, k, none⟩ v) (w.heap.size + 1) 26 (.slice Ao (letsG s k).length co) := fun v => Blk.other Hbox2.out (by show w.heap.size + 1 ≠ w.heap.size + 2; omega) v
        have HKX := Lib.hid KX
        have HOX := Lib.hid (fun v => ownsRow_setCell_below Hown2.out (a := ⟨w.heap.size + 2, k, none⟩) (by show w.heap.size + 2 < w.heap.size + 3; omega) v)
        clear KX
        go_wp2_with (first
          | (at_builtin; refine list_push_rule (base := w.heap.size + 3) (t := ⟨#[ltr k]⟩) (p := 0) (q := 0) rfl _ _ rfl rfl rfl (by simp) (HOX.out _) (by omega) (by simp; omega) ?_; intro v3 w3 own3 hg3 hb3; have bx3 : Boxed w3 (w.heap.size + 1) 26 _ := Boxed.grown (HKX.out _) (by decide) (HOX.out _) hg3; obtain ⟨A3, c3, rfl, _⟩ := own_nil own3; have hcb3 := bx3.cell; have hfb3 := bx3.frozen; have hlb3 := bx3.lt))
        have hbz : Below (w.heap.size + 3) (w2.setCell ⟨w.heap.size + 2, k, none⟩ (.int .i64 ((letsG s k).length : Nat))) w3 := ((Below.refl _ _).alloc (by simp; omega) _).trans hb3
        have hby : Below w.heap.size w w3 := (HB2.out.setCell (by show w.heap.size ≤ w.heap.size + 2; omega) _).trans (hbz.mono (by omega))
        go_roundw
        case rel =>
          refine ⟨k + 1, _, T.set k ((letsG s k).length : Nat), by omega, by go_num, hby.setCell (by show w.heap.size ≤ w.heap.size + 1; omega) _, ((H02.out.other (by show w.heap.size ≠ w.heap.size + 2; omega) _).upB hbz (by omega)).other (by show w.heap.size ≠ w.heap.size + 1; omega) _, Boxed.set _ bx3, ?_, ?_, HTab.out.put hlt HC.out⟩
          · rw [HSu.out, if_pos HC.out]
            exact own_put bx3 own3 rfl (by simp)
          · rw [← ints_set]
            exact ((HT2.out.set k _).upB hbz (by omega)).other (by show w.heap.size + 2 ≠ w.heap.size + 1; omega) _
        case measure => simp [intOf]; omega
      · have hM : M = 0 := by
          rcases Nat.eq_zero_or_pos M with h | h
          · exact h
          · exact absurd (hpos.1 h) hc
        subst hM
        have HC := Lib.hid hc
        clear hpos hc
        go_wp2_with fail
        go_roundw
        case rel => exact ⟨k + 1, _, T, by omega, by go_num, HB2.out, H02.out, Hbox2.out, by rw [HSu.out, if_neg HC.out]; exact Hown2.out, HT2.out, HTab.out.next HC.out⟩
        case measure => simp [intOf]; omega
    · have hk4 : k = 4 := by omega
      subst hk4
      rw [show ((4 : Nat) : Int) = 4 from rfl]
      have hlen4 := letsG_len s 4
      obtain ⟨wo, rfl⟩ : ∃ wo : World, wo = wr := ⟨_, rfl⟩
      have hTl := HTab.out.1
      go_wp2_with fail
      go_loopw [7, 8] (fun q u8 wx => ∃ (i : Nat) (vo : Value), 1 ≤ i ∧ (i ≤ s.size ∨ i = 1) ∧ q = .int .i64 (i : Int) ∧ Below w.heap.size w wx ∧ Blk wx w.heap.size #[.slice none 0 0] 26 ∧ Boxed wx (w.heap.size + 1) 26 vo ∧
        OwnRules wx (w.heap.size + 3) vo (plainK s (i - 1)) ∧ Blk wx (w.heap.size + 2) ((T.map (Value.int .i64)).toArray) 2) (fun q _ _ => s.size + 1 - (intOf q).toNat)
      case atStart =>
        refine ⟨1, _, Nat.le_refl _, .inr rfl, rfl, HB.out, H0.out, Hbox.out, ?_, HT.out⟩
        rw [show 1 - 1 = 0 from rfl, plainK_zero]
        exact Hown.out
      case round =>
        obtain ⟨i, vo, hi1, hi2, rfl, hb, h0, hbox, hown, hT⟩ := hrel
        have HB2 := Lib.hid hb
        have HK0 := Lib.hid h0
        have HX := Lib.hid hbox
        have HO := Lib.hid hown
        have HT2 := Lib.hid hT
        have cb' := hbox.cell
        have fb' := hbox.frozen
        have lb' := hbox.lt
        have lT' := hT.lt
        have hlp := Lib.hid (plainK_len s (i - 1))
        obtain ⟨A2, c2, rfl, _⟩ := own_nil hown
        clear hb h0 hbox hown hT HB H0 Hbox Hown HT
        by_cases hlt2 : i < s.size
        · have HP := Lib.hid (plainK_succ s (i - 1))
          have HLn := Lib.hid (show (plainK s (i - 1)).length ≤ 1099511627775 by rw [hlp.out]; omega)
          have hpos : 0 < s.size := by omega
          have hpl1 : 1 ≤ (plainK s (i - 1)).length := by have := idxG_lt HS.out hpos; rw [hlp.out]; omega
          have hpl2 : (plainK s (i - 1)).length ≤ 4000 := by rw [hlp.out]; omega
          obtain ⟨j1, hj1, hn1, hw1, ht1⟩ := let_place HS.out HTab.out hlt2
          have hj1' : (j1 : Int) < 4 := by omega
          have cT1 := HT2.out.cell (i := j1) (ints_cell (by omega))
          obtain ⟨I, hI⟩ : ∃ I : Nat, I = idxG s (s.data.getD i 0) := ⟨_, rfl⟩
          rw [ht1, ← hI] at cT1
          obtain ⟨B, hB⟩ : ∃ B : Nat, (if i - 1 = 0 then (idxG s (s.data.getD 0 0) : Nat) else (letsG s 4).length + (i - 1) - 1) = B := ⟨_, rfl⟩
          have hBp : pairAt s (i - 1) = pairR (B : Int) (I : Int) := by
            unfold pairAt
            rw [show i - 1 + 1 = i by omega, ← hB, ← hI]
            split <;> rfl
          have HBp := Lib.hid hBp
          have HBq := Lib.hid hB
          clear hBp hB hI ht1
          go_upto_if 49 with fail
          go_cut [8] (fun u8 wx => u8 = .int .i64 (B : Int) ∧ wx = wr)
          case first =>
            by_cases h1i : i = 1
            · subst h1i
              obtain ⟨j0, hj0, hn0, hw0, ht0⟩ := let_place HS.out HTab.out hpos
              have cT0 := HT2.out.cell (i := j0) (ints_cell (by omega))
              rw [ht0] at cT0
              go_wp2_with fail
              go_meet
              exact ⟨by rw [← HBq.out, if_pos trivial, getD_data hpos]; rfl, rfl⟩
            · have hb1 : ((i : Int) == 1) = false := by rw [beq_eq_false_iff_ne]; omega
              go_wp2
              go_meet
              refine ⟨?_, rfl⟩
              rw [← HBq.out, if_neg (by omega), hlp.out]
              congr 1; omega
          case rest => 
            obtain ⟨rfl, rfl⟩ := hcut
            go_wp2_with fail
            go_region_law (refine step_push_ruleW wc.drew (base := w.heap.size + 3) (by rfl) (by rfl) _ _ (by rfl) (by rfl) (by first | rfl | simp) rfl HO.out.drew HLn.out (by show w.heap.size + 3 ≤ wc.heap.size; omega) ?_; intro v3 w3 own3 hg3 hb3; have bx3 : Boxed w3 (w.heap.size + 1) 26 _ := Boxed.grown (show Boxed wc.drew (w.heap.size + 1) 26 _ from HX.out) (by decide) HO.out.drew hg3; obtain ⟨A3, c3, rfl, _⟩ := own_nil own3; have hcb3 := bx3.cell; have hfb3 := bx3.frozen; have hlb3 := bx3.lt)
            all_goals
              have hbz : Below (w.heap.size + 3) wc w3 := (Below.drew (Below.refl _ _)).trans (((Below.refl _ _).alloc (by show w.heap.size + 3 ≤ wc.heap.size; omega) _).trans hb3)
              have HBZ := Lib.hid hbz
              have HO3 := Lib.hid own3
              have HX3 := Lib.hid bx3
              clear hbz own3 bx3 hb3 hg3
              go_wp2
              go_roundw
              case rel =>
                refine ⟨i + 1, _, by omega, .inl (by omega), by go_num, (HB2.out.trans (HBZ.out.mono (by omega))).setCell (by show w.heap.size ≤ w.heap.size + 1; omega) _, (HK0.out.upB HBZ.out (by omega)).other (by show w.heap.size ≠ w.heap.size + 1; omega) _, Boxed.set _ HX3.out, ?_, (HT2.out.upB HBZ.out (by omega)).other (by show w.heap.size + 2 ≠ w.heap.size + 1; omega) _⟩
                rw [show i + 1 - 1 = (i - 1) + 1 by omega, HP.out, HBp.out]
                exact own_put HX3.out HO3.out rfl (by simp)
              case measure => simp [intOf]; omega
        · have HE := Lib.hid (show plainK s (i - 1) = plainG s by rw [plainG]; congr 1; omega)
          have r1 := HK0.out.cell (i := 0) (v := .slice none 0 0) rfl
          have r2 := HK0.out.frozen 0
          have r3 := HK0.out.lt
          go_wp2
          rw [HE.out] at HO HX
          refine bodyPost_ret (v := .agg #[.slice A2 (plainG s).length c2]) (by simp [results, Tryd.results37, go_sem, r1, HE.out]) rfl ⟨HB2.out.setCell (by show w.heap.size ≤ w.heap.size; omega) _, _, ?_, rfl⟩
          exact ownsRow_more (ownsRow_setCell_below HO.out (a := ⟨w.heap.size, 0, none⟩) (by show w.heap.size < w.heap.size + 3; omega) _) (by omega)
end Go.Proofs.YtagpjommhoedlaaDoor

namespace Go.Proofs.YtagpjommhoedlaaDoor
open Go.RowKit

end Go.Proofs.YtagpjommhoedlaaDoor

namespace Go.Proofs.YtagpjommhoedlaaDoor
open Go.RowKit

end Go.Proofs.YtagpjommhoedlaaDoor

namespace Go.Proofs.YtagpjommhoedlaaDoor
open Go.RowKit

end Go.Proofs.YtagpjommhoedlaaDoor

namespace Go.Proofs
end Go.Proofs
namespace Go.Proofs.YtagpjommhoedlaaDoor
open Go.RowKit

/-- The words of a row of the call's own. -/
def OwnW (w : World) (base : Nat) (v : Value) (l : List ByteArray) : Prop := w.ownsRow base 9 1 v l.length (l.map Value.string)
theorem OwnW.empty {w : World} {base N : Nat} (hN : N = w.heap.size) (hb : base ≤ w.heap.size) : OwnW (w.alloc (Obj.cells #[] 9)) base (Value.slice (some ⟨N, 0, none⟩) 0 0) [] := by
  subst hN
  exact World.ownsRow_lit w #[] 0 hb (Nat.zero_le _) rfl
theorem OwnW.sl {w : World} {base : Nat} {v : Value} {l : List ByteArray} (h : OwnW w base v l) : Sl StrE w w.heap.size v l := by
  have hh : w.ownsRow base 9 1 v l.length (l.map Value.string) := h
  obtain ⟨A, cap, rfl, h1, h2⟩ := own_nil hh
  refine ⟨A, cap, rfl, h1, h2, Row.of_own (E := StrE) hh rfl (fun g hg => (World.ownsRow.lt hh g hg).2) fun k x hx => ⟨[.string x], rfl, fun j u hu => ?_⟩⟩
  cases j with
  | zero => simp at hu; subst hu; simp [StrE, hx]
  | succ j => simp at hu
end Go.Proofs.YtagpjommhoedlaaDoor

namespace Go.Proofs.YtagpjommhoedlaaDoor
open Go.RowKit

end Go.Proofs.YtagpjommhoedlaaDoor

namespace Go.Proofs.YtagpjommhoedlaaDoor
open Go.RowKit

end Go.Proofs.YtagpjommhoedlaaDoor

namespace Go.Proofs.YtagpjommhoedlaaDoor
open Go.RowKit

end Go.Proofs.YtagpjommhoedlaaDoor

namespace Go.Proofs.YtagpjommhoedlaaDoor
open Go.RowKit

end Go.Proofs.YtagpjommhoedlaaDoor

namespace Go.Proofs.YtagpjommhoedlaaDoor

theorem raise_len {n : Nat} {lx a : List Int} {r : GRule} (hn : lx.length = n) (h : okRule a.length r = true) : ruleLen (lx ++ a) (raiseR n r) = ruleLen a r := by
  unfold raiseR
  cases hp : r.pair with
  | false => simp [ruleLen, hp]
  | true =>
    have h2 := okRule_at h hp
    have hp2 : ({ letter := r.letter, left := r.left + n, right := r.right + n } : GRule).pair = true := hp
    simp only [if_true]
    unfold ruleLen
    rw [if_pos hp2, if_pos hp]
    have e1 : (r.left + (n : Int)).toNat = n + r.left.toNat := by omega
    have e2 : (r.right + (n : Int)).toNat = n + r.right.toNat := by omega
    show (lx ++ a).getD (r.left + n).toNat 0 + (lx ++ a).getD (r.right + n).toNat 0 = _
    rw [e1, e2, List.getD_eq_getElem?_getD, List.getD_eq_getElem?_getD, List.getElem?_append_right (by omega), List.getElem?_append_right (by omega), hn, Nat.add_sub_cancel_left, Nat.add_sub_cancel_left]
    rw [← List.getD_eq_getElem?_getD, ← List.getD_eq_getElem?_getD]
theorem lens_raise {xs ys : List GRule} {lx ly : List Int} (hx : lens xs = some lx) (hy : lens ys = some ly) : lens (xs ++ ys.map (raiseR xs.length)) = some (lx ++ ly) := by
  rw [lens_app, hx]
  have hn : lx.length = xs.length := lens_length hx
  suffices H : ∀ (l : List GRule) (a o : List Int), l.foldl lensStep (some a) = some o → (l.map (raiseR xs.length)).foldl lensStep (some (lx ++ a)) = some (lx ++ o) by simpa using H ys [] ly hy
  intro l
  induction l with
  | nil => intro a o h; simp at h; simp [h]
  | cons y l ih =>
    intro a o h
    rw [List.map_cons, List.foldl_cons]
    rw [List.foldl_cons] at h
    cases hs : lensStep (some a) y with
    | none => rw [hs, lens_none] at h; cases h
    | some b =>
      rw [hs] at h
      simp only [lensStep, Option.bind_some] at hs
      split at hs
      · rename_i hok
        cases hs
        have e1 : okRule (lx ++ a).length (raiseR xs.length y) = true := by rw [List.length_append, hn]; exact raiseR_ok hok.1
        have e2 : ruleLen (lx ++ a) (raiseR xs.length y) = ruleLen a y := raise_len hn hok.1
        have e3 : lensStep (some (lx ++ a)) (raiseR xs.length y) = some (lx ++ (a ++ [ruleLen a y])) := by
          simp only [lensStep, Option.bind_some]
          rw [e2, if_pos ⟨e1, hok.2⟩, List.append_assoc]
        rw [e3]
        exact ih _ _ h
      · cases hs
end Go.Proofs.YtagpjommhoedlaaDoor

namespace Go.Proofs.YtagpjommhoedlaaDoor
open Go.RowKit

end Go.Proofs.YtagpjommhoedlaaDoor

namespace Go.Proofs.YtagpjommhoedlaaDoor
open Go.RowKit

end Go.Proofs.YtagpjommhoedlaaDoor

namespace Go.Proofs.YtagpjommhoedlaaDoor
open Go.RowKit

end Go.Proofs.YtagpjommhoedlaaDoor

namespace Go.Proofs.YtagpjommhoedlaaDoor

/-- Two right grammars, of any number of rules, joined. -/
theorem joinG_lens {xs ys : List GRule} {lx ly : List Int} (h1 : lens xs = some lx) (h2 : lens ys = some ly) (hm : lastI lx + lastI ly ≤ maxL) : ∃ l, lens (joinG xs ys) = some l ∧ lastI l = lastI lx + lastI ly := by
  have hxl := lens_length h1
  have hyl := lens_length h2
  unfold joinG
  by_cases c1 : xs.length = 0
  · rw [if_pos c1]
    have : lx = [] := List.eq_nil_of_length_eq_zero (by omega)
    exact ⟨ly, h2, by rw [this]; simp [lastI]⟩
  · rw [if_neg c1]
    by_cases c2 : ys.length = 0
    · rw [if_pos c2]
      have : ly = [] := List.eq_nil_of_length_eq_zero (by omega)
      exact ⟨lx, h1, by rw [this]; simp [lastI]⟩
    · rw [if_neg c2]
      have hr := lens_raise h1 h2
      have hlen : (xs ++ ys.map (raiseR xs.length)).length = xs.length + ys.length := by simp
      have e1 : ((xs.length : Int) - 1) = ((xs.length - 1 : Nat) : Int) := by omega
      have e2 : ((xs.length : Int) + ys.length - 1) = ((xs.length + ys.length - 1 : Nat) : Int) := by omega
      have g2 : (lx ++ ly).getD (xs.length - 1) 0 = lastI lx := by
        rw [lastI, List.getD_eq_getElem?_getD, List.getElem?_append_left (by omega), ← List.getD_eq_getElem?_getD, hxl]
      have g3 : (lx ++ ly).getD (xs.length + ys.length - 1) 0 = lastI ly := by
        rw [lastI, List.getD_eq_getElem?_getD, List.getElem?_append_right (by omega), ← List.getD_eq_getElem?_getD, hxl, hyl]
        congr 1; omega
      rw [e1, e2]
      have h3 := lens_snoc (a := xs.length - 1) (b := xs.length + ys.length - 1) hr (by omega) (by omega) (by rw [g2, g3]; exact hm)
      rw [g2, g3] at h3
      exact ⟨_, h3, by simp [lastI]⟩
theorem plain_one {s : ByteArray} (h : isLet s = true) : lens (plainG s) = some [1] := by
  have h1 := isLet_size h
  have hw : wordOk s = true := by rw [wordOk_one h1]; exact h
  have hok := okAll_plainG hw
  have hc : hasC s s[0] = true := hasC_at (by omega)
  have hlo : letOk s[0] = true := letOk_at hw (by omega)
  have hmem := mem_letsG hlo hc
  have hpl : plainG s = letsG s 4 := by
    have e : s.size - 1 = 0 := by omega
    unfold plainG; rw [e, plainK_zero]
  obtain ⟨k, hk, hk2⟩ := let_ltr hlo
  -- only one letter is there
  have huniq : ∀ c, hasC s c = true → c = s[0] := by
    intro c hcc
    have : s.data.toList = [s[0]] := by
      have hs1 : s.data.toList.length = 1 := by simpa using h1
      obtain ⟨a, ha⟩ := List.length_eq_one_iff.1 hs1
      have h0 := toList_getElem? s 0 (by omega)
      rw [ha] at h0 ⊢
      simp at h0
      rw [h0]
    unfold hasC at hcc
    rw [this] at hcc
    simpa using hcc
  have hl : letsG s 4 = [letR s[0]] := by
    have hall : ∀ r ∈ letsG s 4, r = letR s[0] := by
      intro r hr
      unfold letsG at hr
      obtain ⟨j, hj, rfl⟩ := List.mem_map.1 hr
      have := (List.mem_filter.1 hj).2
      have hu := huniq (ltr j) (by simpa using this)
      rw [hu]
    have hnd : (letsG s 4).length ≤ 1 := by
      unfold letsG
      rw [List.length_map]
      have hf : ∀ j ∈ (List.range 4).filter (fun j => hasC s (ltr j)), j = k := by
        intro j hj
        obtain ⟨hj1, hj2⟩ := List.mem_filter.1 hj
        have h1 := huniq _ hj2
        rw [hk2] at h1
        have hj4 : j < 4 := by simpa using hj1
        have h2 := congrArg UInt8.toNat h1
        unfold ltr at h2
        rw [UInt8.toNat_ofNat', UInt8.toNat_ofNat'] at h2
        omega
      have hnod : ((List.range 4).filter (fun j => hasC s (ltr j))).Nodup := List.nodup_range.filter _
      generalize (List.range 4).filter (fun j => hasC s (ltr j)) = l at hf hnod
      match l, hf, hnod with
      | [], _, _ => simp
      | [_], _, _ => simp
      | a :: b :: t, hf, hnod =>
        exfalso
        have ha := hf a (by simp)
        have hb := hf b (by simp)
        rw [ha, hb] at hnod
        simp at hnod
    cases hL : letsG s 4 with
    | nil => rw [hL] at hmem; cases hmem
    | cons a t =>
      rw [hL] at hnd hall
      have : t = [] := by simpa using hnd
      rw [this, hall a (by simp)]
  rw [hpl, hl]
  have h2 : okRule 0 (letR s[0]) = true := by
    have := hok 0 (letR s[0]) (by rw [hpl, hl]; rfl)
    exact this
  have h3 : (letR s[0]).pair = false := rfl
  simp [lens, lensStep, h2, ruleLen, h3, maxL]
/-- What trimOrLimit answers. -/
def tolOut (xs : List GRule) : List GRule := if 400 < xs.length then [] else limOut (trimG xs)
def tolCode (xs : List GRule) : Int := if 400 < xs.length then 3 else limCode (trimG xs)
theorem joinG_len2 (xs ys : List GRule) : (joinG xs ys).length ≤ xs.length + ys.length + 1 := by
  unfold joinG
  split
  · omega
  · split
    · omega
    · simp; omega
end Go.Proofs.YtagpjommhoedlaaDoor

namespace Go.Proofs.YtagpjommhoedlaaDoor

theorem digV_ge (m : Nat) (d : UInt8) : 2 * m ≤ digV m d := by unfold digV; omega
theorem digF_ge : ∀ (ds : List UInt8) (m : Nat), m ≤ ds.foldl digV m := by
  intro ds
  induction ds with
  | nil => intro m; exact Nat.le_refl _
  | cons d ds ih => intro m; rw [List.foldl_cons]; have h1 := ih (digV m d); have h2 := digV_ge m d; omega
/-- A power has lengths. -/
theorem powFold_lens {root : Nat} {c : Int} (hc : 0 ≤ c) : ∀ (ds : List UInt8) (L : List GRule) (l : List Int) (m : Nat), lens L = some l → 0 < L.length → root < L.length → l.getD root 0 = c → lastI l = m * c →
    ((ds.foldl digV m : Nat) : Int) * c ≤ maxL → ∃ l', lens (ds.foldl (powStep (root : Int)) L) = some l' := by
  intro ds
  induction ds with
  | nil => intro L l m h _ _ _ _ _; exact ⟨l, h⟩
  | cons d ds ih =>
    intro L l m hl h0 hr hroot hlast hb
    rw [List.foldl_cons] at hb ⊢
    have hlen := lens_length hl
    have hla := lastI_at hl h0
    have hge := digF_ge ds (digV m d)
    have hb1 : ((digV m d : Nat) : Int) * c ≤ maxL := Int.le_trans (Int.mul_le_mul_of_nonneg_right (by omega) hc) hb
    have hb2 : ((2 * m : Nat) : Int) * c ≤ maxL := Int.le_trans (Int.mul_le_mul_of_nonneg_right (by have := digV_ge m d; omega) hc) hb1
    have e2 : ((2 * m : Nat) : Int) * c = m * c + m * c := by rw [show ((2 * m : Nat) : Int) = (m : Int) + m by omega, Int.add_mul]
    have e0 : ((L.length : Int) - 1) = ((L.length - 1 : Nat) : Int) := by omega
    have hS : powStep root L d = (L ++ [pairR ((L.length - 1 : Nat) : Int) ((L.length - 1 : Nat) : Int)]) ++ (if d = 49 then [pairR (L.length : Int) root] else []) := by
      unfold powStep; rw [e0]
    have h2 := lens_snoc (a := L.length - 1) (b := L.length - 1) hl (by omega) (by omega) (by rw [← hla, hlast, ← e2]; exact hb2)
    rw [← hla, hlast] at h2
    have gA : ∀ x : Int, (l ++ [x]).getD L.length 0 = x := fun x => by rw [← hlen, List.getD_eq_getElem?_getD, List.getElem?_append_right (Nat.le_refl _)]; simp
    have gB : ∀ x : Int, (l ++ [x]).getD root 0 = c := fun x => by rw [List.getD_eq_getElem?_getD, List.getElem?_append_left (by omega), ← List.getD_eq_getElem?_getD]; exact hroot
    have gC : ∀ (u : List Int) (x : Int), lastI (u ++ [x]) = x := fun u x => by simp [lastI]
    by_cases hd : d = 49
    · have e3 : ((digV m d : Nat) : Int) * c = (m * c + m * c) + c := by
        rw [show ((digV m d : Nat) : Int) = ((2 * m : Nat) : Int) + 1 by unfold digV; rw [if_pos hd]; omega, Int.add_mul, e2, Int.one_mul]
      have h3 := lens_snoc (a := L.length) (b := root) h2 (by simp) (by simp; omega) (by rw [gA, gB, ← e3]; exact hb1)
      rw [gA, gB, ← e3] at h3
      rw [hS, if_pos hd]
      refine ih _ _ (digV m d) h3 (by simp) (by simp; omega) ?_ (gC _ _) hb
      rw [List.getD_eq_getElem?_getD, List.getElem?_append_left (by simp; omega), ← List.getD_eq_getElem?_getD]
      exact gB _
    · have e3 : ((digV m d : Nat) : Int) * c = m * c + m * c := by
        rw [show digV m d = 2 * m by unfold digV; rw [if_neg hd]; omega, e2]
      rw [hS, if_neg hd, List.append_nil]
      exact ih _ _ (digV m d) h2 (by simp) (by simp; omega) (gB _) (by rw [gC, e3]) hb
end Go.Proofs.YtagpjommhoedlaaDoor

namespace Go.Proofs.YtagpjommhoedlaaDoor
open Go.RowKit

/-- A run: its letter, and how often it stands there. -/
structure GRun where
  letter : ByteArray
  count : Int
instance : Inhabited GRun := ⟨⟨⟨#[]⟩, 0⟩⟩
def GRun.cells (r : GRun) : List Value := [.string r.letter, .int .i64 r.count]
/-- The last run, once more. -/
def bumpR (rs : List GRun) : List GRun :=
  match rs.getLast? with
  | none => []
  | some r => rs.dropLast ++ [⟨r.letter, r.count + 1⟩]
theorem bumpR_snoc (rs : List GRun) (r : GRun) : bumpR (rs ++ [r]) = rs ++ [⟨r.letter, r.count + 1⟩] := by simp [bumpR]
def sameAt (s : ByteArray) (k : Nat) : Bool := decide (0 < k) && (s.data.getD k 0 == s.data.getD (k - 1) 0)
/-- The runs of the first letters. -/
def runsTo (s : ByteArray) : Nat → List GRun
  | 0 => []
  | k + 1 => if sameAt s k then bumpR (runsTo s k) else runsTo s k ++ [⟨s.extract k (k + 1), 1⟩]
def runSum : List GRun → Int
  | [] => 0
  | r :: t => r.count + runSum t
theorem runSum_app (a b : List GRun) : runSum (a ++ b) = runSum a + runSum b := by
  induction a with
  | nil => simp [runSum]
  | cons x t ih => simp only [List.cons_append, runSum, ih]; omega
def RunOk (r : GRun) : Prop := isLet r.letter = true ∧ 1 ≤ r.count
theorem runSum_ge {rs : List GRun} (h : ∀ r ∈ rs, RunOk r) : ∀ r ∈ rs, r.count ≤ runSum rs := by
  induction rs with
  | nil => simp
  | cons x t ih =>
    have h0 : ∀ (l : List GRun), (∀ r ∈ l, RunOk r) → 0 ≤ runSum l := by
      intro l hl
      induction l with
      | nil => simp [runSum]
      | cons y u ih2 => have := (hl y (by simp)).2; have := ih2 (fun r hr => hl r (by simp [hr])); simp only [runSum]; omega
    intro r hr
    have h1 := h0 t (fun r hr => h r (by simp [hr]))
    have h2 := (h x (by simp)).2
    rcases List.mem_cons.1 hr with rfl | hr
    · simp only [runSum]; omega
    · have := ih (fun r hr => h r (by simp [hr])) r hr
      simp only [runSum]; omega
theorem runsTo_snoc (s : ByteArray) (k : Nat) : ∃ rs r, runsTo s (k + 1) = rs ++ [r] := by
  induction k with
  | zero => exact ⟨[], ⟨s.extract 0 1, 1⟩, by simp [runsTo, sameAt]⟩
  | succ k ih =>
    obtain ⟨rs, r, h⟩ := ih
    rw [runsTo]
    split
    · exact ⟨rs, ⟨r.letter, r.count + 1⟩, by rw [h, bumpR_snoc]⟩
    · exact ⟨_, _, rfl⟩
/-- The runs of a word are right. -/
theorem runsTo_ok {s : ByteArray} (h : ∀ k, k < s.size → isLet (s.extract k (k + 1)) = true) : ∀ k, k ≤ s.size → (∀ r ∈ runsTo s k, RunOk r) ∧ runSum (runsTo s k) = k ∧ (runsTo s k).length ≤ k := by
  intro k
  induction k with
  | zero => intro _; exact ⟨by simp [runsTo], rfl, Nat.le_refl _⟩
  | succ k ih =>
    intro hk
    obtain ⟨h1, h2, h3⟩ := ih (by omega)
    rw [runsTo]
    split
    · rename_i hs
      have hk0 : 0 < k := by simp [sameAt] at hs; exact hs.1
      obtain ⟨j, rfl⟩ : ∃ j, k = j + 1 := ⟨k - 1, by omega⟩
      obtain ⟨rs, r, hr⟩ := runsTo_snoc s j
      rw [hr] at h1 h2 h3 ⊢
      rw [bumpR_snoc]
      have hr1 := h1 r (by simp)
      refine ⟨?_, ?_, ?_⟩
      · intro x hx
        rcases List.mem_append.1 hx with hx | hx
        · exact h1 x (by simp [hx])
        · simp at hx; subst hx; exact ⟨hr1.1, by have := hr1.2; show 1 ≤ r.count + 1; omega⟩
      · rw [runSum_app] at h2 ⊢
        simp only [runSum] at h2 ⊢
        omega
      · simp at h3 ⊢; omega
    · refine ⟨?_, ?_, ?_⟩
      · intro x hx
        rcases List.mem_append.1 hx with hx | hx
        · exact h1 x hx
        · simp at hx; subst hx; exact ⟨h k (by omega), by show (1 : Int) ≤ 1; omega⟩
      · rw [runSum_app, h2]; simp [runSum]
      · simp; omega
/-- What is joined for a run. -/
def runPart (r : GRun) : List GRule := powG (plainG r.letter) r.count.toNat
def runAdd (g : List GRule) (r : GRun) : Option (List GRule) := if 400 < (joinG g (runPart r)).length then none else some (trimG (joinG g (runPart r)))
def runRun : List GRule → List GRun → Option (List GRule)
  | g, [] => some g
  | g, r :: t => match runAdd g r with | some h => runRun h t | none => none
def runOut (s : ByteArray) : List GRule := if wordOk s then (runRun [] (runsTo s s.size)).getD [] else []
def runCode (s : ByteArray) : Int := if wordOk s then (if (runRun [] (runsTo s s.size)).isSome then 0 else 3) else 1
theorem runOut_bad {s : ByteArray} (h : wordOk s = false) : runOut s = [] ∧ runCode s = 1 := by simp [runOut, runCode, h]
theorem runOut_none {s : ByteArray} (h : wordOk s = true) (hr : runRun [] (runsTo s s.size) = none) : runOut s = [] ∧ runCode s = 3 := by simp [runOut, runCode, h, hr]
theorem runOut_some {s : ByteArray} {g : List GRule} (h : wordOk s = true) (hr : runRun [] (runsTo s s.size) = some g) : runOut s = g ∧ runCode s = 0 := by simp [runOut, runCode, h, hr]
theorem pow_lens {xs : List GRule} {a : List Int} {n : Nat} (ha : lens xs = some a) (h0 : 0 < xs.length) (hnn : 0 ≤ lastI a) (hb : (n : Int) * lastI a ≤ maxL) : ∃ l, lens (powG xs n) = some l ∧ lastI l = n * lastI a := by
  have hl : ∃ l, lens (powG xs n) = some l := by
    unfold powG
    by_cases c : n = 0 ∨ xs.length = 0
    · rw [if_pos c]; exact ⟨[], rfl⟩
    · rw [if_neg c]
      obtain ⟨t, ht⟩ := binL_head n (by omega)
      have hv := binL_val n
      rw [ht, List.foldl_cons] at hv
      have h1 : digV 0 49 = 1 := by decide
      rw [h1] at hv
      rw [ht]
      have e0 : ((xs.length : Int) - 1) = ((xs.length - 1 : Nat) : Int) := by omega
      rw [e0]
      refine powFold_lens (c := lastI a) hnn t xs a 1 ha h0 (by omega) (lastI_at ha h0).symm (by omega) ?_
      rw [hv]; exact hb
  obtain ⟨l, hl⟩ := hl
  have h2 := wordG_len hl
  have h3 := wordG_len ha
  rw [powG_word ha hl, repW_len, Int.natCast_mul, h3] at h2
  exact ⟨l, hl, h2.symm⟩
/-- What is joined is right, and has the length of the run. -/
theorem runPart_lens {r : GRun} (h : RunOk r) (hm : r.count ≤ 2000) : (∃ l, lens (runPart r) = some l ∧ lastI l = r.count) ∧ (runPart r).length ≤ 121 := by
  obtain ⟨h1, h2⟩ := h
  have hp := plain_one h1
  have h3 := isLet_size h1
  have h4 := plainG_len r.letter
  have h5 : (plainG r.letter).length = 1 := by have := lens_length hp; simpa using this.symm
  obtain ⟨l, k1, k2⟩ := pow_lens (n := r.count.toNat) hp (by omega) (by simp [lastI]) (by simp [lastI, maxL]; omega)
  refine ⟨⟨l, k1, by rw [k2]; simp [lastI]; omega⟩, ?_⟩
  have := powG_len (plainG r.letter) r.count.toNat (by omega)
  unfold runPart
  omega
theorem run_tol {g : List GRule} {n : Int} {r : GRun} (hg : gramOk g = true) (hn : gramLen g = n) (hr : RunOk r) (hm : n + r.count ≤ 2000) (h0 : 0 ≤ n) :
    SmallP (runPart r) ∧ OkAll (joinG g (runPart r)) ∧ (joinG g (runPart r)).length ≤ 600 ∧
    ((runAdd g r = none ∧ tolOut (joinG g (runPart r)) = [] ∧ tolCode (joinG g (runPart r)) = 3) ∨
     (runAdd g r = some (trimG (joinG g (runPart r))) ∧ tolOut (joinG g (runPart r)) = trimG (joinG g (runPart r)) ∧ tolCode (joinG g (runPart r)) = 0 ∧ gramOk (trimG (joinG g (runPart r))) = true ∧ gramLen (trimG (joinG g (runPart r))) = n + r.count)) := by
  obtain ⟨⟨l, h1, h2⟩, hp⟩ := runPart_lens hr (by omega)
  obtain ⟨h4, ls, hl⟩ := gram_lens hg
  have hgl := gramLen_of hl
  obtain ⟨l3, h5, h6⟩ := joinG_lens hl h1 (by unfold maxL; omega)
  have hj := joinG_len2 g (runPart r)
  refine ⟨okAll_smallP (okAll_lens h1) (by omega), okAll_lens h5, by omega, ?_⟩
  by_cases hc : 400 < (joinG g (runPart r)).length
  · left
    exact ⟨by unfold runAdd; rw [if_pos hc], by unfold tolOut; rw [if_pos hc], by unfold tolCode; rw [if_pos hc]⟩
  · right
    obtain ⟨l4, h7, h8, _⟩ := trimG_sem h5
    have h9 := trimG_len (joinG g (runPart r))
    have hok : gramOk (trimG (joinG g (runPart r))) = true := by
      simp only [gramOk, Bool.and_eq_true, decide_eq_true_eq]
      exact ⟨by omega, by rw [h7]; rfl⟩
    refine ⟨by unfold runAdd; rw [if_neg hc], by unfold tolOut limOut; rw [if_neg hc, if_pos hok], by unfold tolCode limCode; rw [if_neg hc, if_pos hok], hok, ?_⟩
    rw [gramLen_of h7, ← wordG_len h7, h8, wordG_len h5, h6]; omega
theorem runRun_step {rs : List GRun} {g : List GRule} {k : Nat} {r : GRun} (h : rs[k]? = some r) : runRun g (rs.drop k) = (match runAdd g r with | some h => runRun h (rs.drop (k + 1)) | none => none) := by
  obtain ⟨hk, rfl⟩ := List.getElem?_eq_some_iff.1 h
  rw [List.drop_eq_getElem_cons hk]; rfl
theorem runSum_step {rs : List GRun} {k : Nat} {r : GRun} (h : rs[k]? = some r) : runSum (rs.take (k + 1)) = runSum (rs.take k) + r.count := by
  obtain ⟨hk, rfl⟩ := List.getElem?_eq_some_iff.1 h
  rw [List.take_add_one, runSum_app, List.getElem?_eq_getElem hk]
  simp [runSum]
theorem runSum_take {rs : List GRun} (h : ∀ r ∈ rs, RunOk r) (k : Nat) : 0 ≤ runSum (rs.take k) ∧ runSum (rs.take k) ≤ runSum rs := by
  have h0 : ∀ (l : List GRun), (∀ r ∈ l, RunOk r) → 0 ≤ runSum l := by
    intro l hl
    induction l with
    | nil => simp [runSum]
    | cons y u ih2 => have := (hl y (by simp)).2; have := ih2 (fun r hr => hl r (by simp [hr])); simp only [runSum]; omega
  have h1 := h0 (rs.take k) (fun r hr => h r (List.mem_of_mem_take hr))
  have h2 := h0 (rs.drop k) (fun r hr => h r (List.mem_of_mem_drop hr))
  have h3 := runSum_app (rs.take k) (rs.drop k)
  rw [List.take_append_drop] at h3
  omega
theorem runRun_ok {rs : List GRun} (hr : ∀ r ∈ rs, RunOk r) {g o : List GRule} {n : Int} (hg : gramOk g = true) (hn : gramLen g = n) (h0 : 0 ≤ n) (hs : n + runSum rs ≤ 2000) (h : runRun g rs = some o) : gramOk o = true := by
  induction rs generalizing g n with
  | nil => simp [runRun] at h; rw [← h]; exact hg
  | cons r t ih =>
    have hr1 := hr r (by simp)
    have hst := (runSum_take (rs := t) (fun x hx => hr x (by simp [hx])) 0)
    have hr2 := hr1.2
    simp only [runSum] at hs
    have hts : 0 ≤ runSum t := by have := hst.1; have := hst.2; omega
    simp only [runRun] at h
    obtain ⟨_, _, _, hh | hh⟩ := run_tol hg hn hr1 (by omega) h0
    · rw [hh.1] at h; cases h
    · rw [hh.1] at h
      exact ih (fun x hx => hr x (by simp [hx])) hh.2.2.2.1 hh.2.2.2.2 (by omega) (by omega) h
end Go.Proofs.YtagpjommhoedlaaDoor

