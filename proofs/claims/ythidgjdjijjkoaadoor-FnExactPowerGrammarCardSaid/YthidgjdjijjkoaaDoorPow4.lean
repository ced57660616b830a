import Derived.Test.YthidgjdjijjkoaaDoorPow3
import Derived.WalkArith
namespace Go.Proofs.YthidgjdjijjkoaaDoor
open Go.RowKit

theorem binL_lo (n : Nat) : 0 < n → ∀ d, d < (binL n).length → 0 < n / 2 ^ d := by
  induction n using Nat.strongRecOn with
  | ind n ih =>
    intro hn d hd
    by_cases c : n < 2
    · rw [binL_lt c] at hd
      have : d = 0 := by simpa using hd
      subst this; simpa using hn
    · rw [binL_ge c, List.length_append] at hd
      cases d with
      | zero => simpa using hn
      | succ d =>
        have := ih (n / 2) (by omega) (by omega) d (by simp at hd; omega)
        rw [Nat.pow_succ, Nat.mul_comm, ← Nat.div_div_eq_div_mul]
        exact this
theorem binL_hi (n : Nat) : n / 2 ^ (binL n).length = 0 := by
  induction n using Nat.strongRecOn with
  | ind n ih =>
    by_cases c : n < 2
    · rw [binL_lt c]
      have : n / 2 = 0 := by omega
      simpa using this
    · rw [binL_ge c, List.length_append]
      have := ih (n / 2) (by omega)
      show n / 2 ^ ((binL (n / 2)).length + 1) = 0
      rw [Nat.pow_succ, Nat.mul_comm, ← Nat.div_div_eq_div_mul]
      exact this
theorem binL_get (n : Nat) : ∀ j, j < (binL n).length → (binL n)[(binL n).length - 1 - j]? = some (UInt8.ofNat (48 + n / 2 ^ j % 2)) := by
  induction n using Nat.strongRecOn with
  | ind n ih =>
    intro j hj
    by_cases c : n < 2
    · rw [binL_lt c] at hj ⊢
      have : j = 0 := by simpa using hj
      subst this
      have : n % 2 = n := by omega
      simp [this]
    · rw [binL_ge c] at hj ⊢
      rw [List.length_append] at hj ⊢
      cases j with
      | zero => simp
      | succ j =>
        have h1 := ih (n / 2) (by omega) j (by simp at hj; omega)
        have e : (binL (n / 2)).length + [UInt8.ofNat (48 + n % 2)].length - 1 - (j + 1) = (binL (n / 2)).length - 1 - j := by simp; omega
        rw [e, List.getElem?_append_left (by simp at hj; omega), h1, Nat.pow_succ, Nat.mul_comm, ← Nat.div_div_eq_div_mul]
theorem and_oneI (i : Nat) (hi : i < 9223372036854775808) : bits BinOp.and IntKind.i64 (i : Int) 1 = ((i % 2 : Nat) : Int) := by
  have e63 : (2 : Int) ^ 63 = 9223372036854775808 := by decide
  have h := bits_mask .i64 63 (by decide) (fun n h0 h1 => by rw [e63] at h1; rw [IntKind.wrap_i64]; omega) 1 (by decide) (i : Int) (by omega) (by rw [e63]; omega)
  have e : ((2 : Int) ^ 1 - 1) = 1 := by decide
  rw [e] at h
  rw [h]
  omega
theorem shr_nat (n d : Nat) : ((n : Int) / 2 ^ d) = ((n / 2 ^ d : Nat) : Int) := by
  rw [Int.natCast_ediv]; simp
theorem powStep_small {root : Int} {L : List GRule} {d : UInt8} (h : SmallL L) : SmallL (powStep root L d) := by
  unfold powStep
  split <;> intro r hr <;> simp at hr
  · rcases hr with hr | rfl | rfl
    · exact h r hr
    · exact (by decide : (0 : Nat) ≤ 9223372036854775807)
    · exact (by decide : (0 : Nat) ≤ 9223372036854775807)
  · rcases hr with hr | rfl
    · exact h r hr
    · exact (by decide : (0 : Nat) ≤ 9223372036854775807)
theorem powFold_small {root : Int} : ∀ (ds : List UInt8) {L : List GRule}, SmallL L → SmallL (ds.foldl (powStep root) L)
  | [], _, h => h
  | d :: ds, _, h => powFold_small ds (powStep_small (d := d) h)
theorem powG_small {xs : List GRule} (n : Nat) (h : SmallL xs) : SmallL (powG xs n) := by
  unfold powG
  split
  · intro r hr; simp at hr
  · exact powFold_small _ h

/-- One rule appended in a region that does not draw. -/
theorem list_push_rule {W : World} {ops : Array Oper} {rest : List Oper} {o : Oper} {a : Act} {Q : Exit → Act → World → Prop} (hgd : o.guard = none) (s x : Operand)
    (ho : o.op = .call { callee := .builtin .append, args := #[s, x], argTypes := #[32, 32] }) {t : ByteArray} {p q : Int} {base : Nat} {v : Value} {l : List GRule}
    (hs : a.eval s = v) {N : Nat} (hx : a.eval x = .slice (some ⟨N, 0, none⟩) 1 1) (hN : N = W.heap.size) (hown : OwnRules W base v l) (hlen : l.length ≤ 1099511627775) (hbase : base ≤ W.heap.size)
    (h : ∀ v' w', OwnRules w' base v' (l ++ [⟨t, p, q⟩]) → (W.alloc (.cells #[.string t, .int .i64 p, .int .i64 q] 56)).grownBy w' v.ownBlock → Below base (W.alloc (.cells #[.string t, .int .i64 p, .int .i64 q] 56)) w' → wpList Tryd.prog ops Q rest (a.put o.dst v') w') :
    wpList Tryd.prog ops Q (o :: rest) a (W.alloc (.cells #[.string t, .int .i64 p, .int .i64 q] 56)) :=
  wpList_plain hgd fun K hK => by
    have := step_push_rule (E := True) (K := K) (ops := ops) (Q := Q) hgd s x ho hs hx hN hown hlen hbase (fun v' w' h1 h2 h3 => hK _ _ (h v' w' h1 h2 h3))
    rwa [if_pos (by simp [Region.wanted, hgd])] at this

theorem own_put {w5 : World} {K base n c5 : Nat} {A5 : Option Addr} {L M : List GRule} {vo : Value} (bx : Boxed w5 K 34 vo) (own : OwnRules w5 base (.slice A5 L.length c5) L) (hM : L = M) (hn : M.length = n) :
    OwnRules (w5.setCell ⟨K, 0, none⟩ (.slice A5 n c5)) base (.slice A5 n c5) M := by
  subst hM; subst hn; exact ownsRow_setCell_other (a := ⟨K, 0, none⟩) own (bx.not_row (by decide) own).symm _

set_option maxRecDepth 100000 in
set_option maxHeartbeats 4000000 in
theorem specPower_any (v : Value) (xs : List GRule) (t : Int) (w : World) (h : Sl RuleE w w.heap.size v xs) (hn : xs.length ≤ 1048576) (hs : SmallL xs) :
    Calls Tryd.prog 9 #[.agg #[v], .int .i64 t] w (GRes (powOut xs t) (powCode xs t) w) := by
  have h1 := fun o o' => (h.below (((Below.refl w.heap.size w).alloc (Nat.le_refl _) o).alloc (by simp) o')).le (B' := ((w.alloc o).alloc o').heap.size) (by simp; omega)
  have H1 := Lib.hid h1
  have Hs := Lib.hid hs
  clear h1 hs
  obtain ⟨A, c, rfl, hc, hm, hrow⟩ := h
  clear hm hrow
  go_enter Tryd.func9, Tryd.ntmps9
  go_wp2_with fail
  refine (l02Ok_any _ _ _ _ _ (by simp [go_sem]) (by first | omega | (simp; done) | (simp; omega)) (H1.out _ _) Hs.out).mono ?_
  rintro e w1 ⟨rfl, hb1⟩
  obtain ⟨hc1, hf1⟩ := bcell hb1
  have hz1 : w.heap.size + 1 < w1.heap.size := by have := hb1.size; simp at this; omega
  have a1 : w1.cell? ⟨w.heap.size, 0, none⟩ = some (.slice A xs.length c) := by rw [hc1 _ _ (by first | omega | (simp; done) | (simp; omega))]; simp [go_sem]
  have c1 : w1.cell? ⟨w.heap.size + 1, 0, none⟩ = some (.slice none 0 0) := by rw [hc1 _ _ (by first | omega | (simp; done) | (simp; omega))]; simp [go_sem]
  have f1 : w1.frozen? ⟨w.heap.size + 1, 0, none⟩ = false := by rw [hf1 _ _ (by first | omega | (simp; done) | (simp; omega))]; simp [go_sem]
  have S1 := Lib.hid ((H1.out (Obj.cells #[Value.slice A xs.length c] 34) (Obj.cells #[Value.slice none 0 0] 34)).up hb1)
  have B1 := Lib.hid (((Below.refl w.heap.size w).alloc (Nat.le_refl _) (Obj.cells #[Value.slice A xs.length c] 34)).alloc (by simp) (Obj.cells #[Value.slice none 0 0] 34) |>.trans (hb1.mono (by simp; omega)))
  clear hc1 hf1 hb1
  by_cases hok : gramOk xs = true
  · have hok2 : (!gramOk xs) = false := by simp [hok]
    have Hok := Lib.hid hok
    clear hok
    go_wp2_with fail
    by_cases hin : inB t 0 1000000000000000 = true
    · have Hin := Lib.hid hin
      have ht : 0 ≤ t ∧ t ≤ 1000000000000000 := by simpa [inB] using hin
      obtain ⟨n, rfl⟩ := Int.eq_ofNat_of_zero_le ht.1
      have hn60 : n < 1152921504606846976 := by omega
      clear hin ht
      refine (l00InY _ _ _ _ _ Hin.out).mono ?_
      rintro e w' ⟨rfl, rfl⟩
      have e1 : powOut xs n = limOut (powG xs n) := by rw [powOut, Hok.out, Hin.out]; rfl
      have e2 : powCode xs n = limCode (powG xs n) := by rw [powCode, Hok.out, Hin.out]; rfl
      have E1 := Lib.hid e1
      have E2 := Lib.hid e2
      clear e1 e2
      by_cases h0 : n = 0 ∨ xs.length = 0
      · have hg : powG xs n = [] := by rw [powG, if_pos h0]
        have hlo : limOut (powG xs n) = [] := by rw [hg]; rfl
        have hlc : limCode (powG xs n) = 0 := by rw [hg]; rfl
        have Hg := Lib.hid hg
        have Ho := Lib.hid hlo
        have Hc := Lib.hid hlc
        clear hg hlo hlc
        by_cases hz : n = 0
        · subst hz
          clear h0
          go_wp2_with fail
          have e3 : powOut xs 0 = [] := by
            have e : powOut xs ((0 : Nat) : Int) = [] := by rw [E1.out, Ho.out]
            exact e
          have e4 : powCode xs 0 = 0 := by
            have e : powCode xs ((0 : Nat) : Int) = 0 := by rw [E2.out, Hc.out]
            exact e
          refine bodyPost_ret (v := .tuple #[.agg #[.slice none 0 0], .int .i64 0]) (by simp [results, Tryd.results9, go_sem, c1]) rfl ⟨?_, .slice none 0 0, ?_, by simp [e4]⟩
          · exact B1.out.setCell (by show w.heap.size ≤ w.heap.size + 1; omega) _
          · simp [e3]; exact World.ownsRow_nil _ _ _ _
        · have hx : xs.length = 0 := by omega
          have g0 : ((n : Int) == 0) = false := by rw [beq_eq_false_iff_ne]; omega
          have g1 : ((xs.length : Int) == 0) = true := by simp [hx]
          clear h0 hx
          go_wp2_with fail
          refine bodyPost_ret (v := .tuple #[.agg #[.slice none 0 0], .int .i64 0]) (by simp [results, Tryd.results9, go_sem, c1]) rfl ⟨?_, _, ?_, by rw [E2.out, Hc.out]⟩
          · exact B1.out.setCell (by show w.heap.size ≤ w.heap.size + 1; omega) _
          · rw [E1.out, Ho.out]; exact World.ownsRow_nil _ _ _ _
      · have hg : powG xs n = (binL n).tail.foldl (powStep ((xs.length : Int) - 1)) xs := by rw [powG, if_neg h0]
        have Hg := Lib.hid hg
        have g0 : ((n : Int) == 0) = false := by rw [beq_eq_false_iff_ne]; omega
        have g1 : ((xs.length : Int) == 0) = false := by rw [beq_eq_false_iff_ne]; omega
        have hwx : IntKind.i64.wrap ((xs.length : Int) - 1) = (xs.length : Int) - 1 := IntWalk.i64_in _ (by omega)
        have hn0 : 0 < n := by omega
        have hhi := binL_hi n
        have hlo := binL_lo n hn0
        have hpos := binL_pos n
        have hxt := binL_len n 60 hn60 (by omega)
        have hget := binL_get n
        obtain ⟨BL, hBL⟩ : ∃ BL, binL n = BL := ⟨_, rfl⟩
        rw [hBL] at hhi hlo hpos hxt hget
        have HBL := Lib.hid hBL
        have Hhi := Lib.hid hhi
        have Hlo := Lib.hid hlo
        have Hget := Lib.hid hget
        clear hg hBL hhi hlo hget h0
        go_wp2_with fail
        refine (l02Own_any _ _ _ _ _ a1 (by omega) S1.out (by omega)).mono ?_
        rintro e w3 ⟨v3, rfl, own3, hb3⟩
        obtain ⟨A3, k3, rfl, _⟩ := own_nil own3
        have z3 : w1.heap.size ≤ w3.heap.size := hb3.size
        have hz3 : w.heap.size + 1 < w3.heap.size := by omega
        have a3 := cell_up a1 hb3 (by omega)
        have c3 := cell_up c1 hb3 (by omega)
        have f3 : w3.frozen? ⟨w.heap.size + 1, 0, none⟩ = false := by rw [hb3.frozen hz1, f1]
        have B3 := Lib.hid (B1.out.trans (hb3.mono (by omega)))
        have O3 := Lib.hid own3
        have y3 : w.heap.size < w3.heap.size := by omega
        clear a1 c1 f1 hb3 own3
        go_wp2_with fail
        go_loopw [8] (fun q wr => ∃ d : Nat, q = .int .i64 d ∧ d ≤ BL.length ∧ wr = w3.alloc (Obj.cells #[Value.slice A3 xs.length k3] 34)) (fun q _ => BL.length - (intOf q).toNat)
        case atStart => exact ⟨0, rfl, Nat.zero_le _, rfl⟩
        case round =>
          obtain ⟨d, rfl, hd, rfl⟩ := hrel
          by_cases hdl : d < BL.length
          · have hsh : (0 : Int) < (n : Int) / 2 ^ d := by rw [shr_nat]; have := Hlo.out d hdl; omega
            have hd60 : d < 64 := by omega
            go_wp2_with fail
            exact ⟨⟨d + 1, rfl, hdl, trivial⟩, by simp [intOf]; omega⟩
          · have hdn : d = BL.length := by omega
            subst hdn
            have hsh : ¬ ((0 : Int) < (n : Int) / 2 ^ BL.length) := by rw [shr_nat, Hhi.out]; decide
            obtain ⟨K, hK⟩ : ∃ K, w3.heap.size = K := ⟨_, rfl⟩
            have bx4 : Boxed (w3.alloc (Obj.cells #[Value.slice A3 xs.length k3] 34)) K 34 (.slice A3 xs.length k3) := by rw [← hK]; exact Boxed.new _ _ _
            have own4 : OwnRules (w3.alloc (Obj.cells #[Value.slice A3 xs.length k3] 34)) w1.heap.size (.slice A3 xs.length k3) xs := O3.out.alloc _
            have b4 : Below w1.heap.size (w3.alloc (Obj.cells #[Value.slice A3 xs.length k3] 34)) (w3.alloc (Obj.cells #[Value.slice A3 xs.length k3] 34)) := Below.refl _ _
            have B4 := Lib.hid (B3.out.alloc (by omega) (Obj.cells #[Value.slice A3 xs.length k3] 34))
            have y4 : w.heap.size + 1 < (w3.alloc (Obj.cells #[Value.slice A3 xs.length k3] 34)).heap.size := by simp; omega
            have c4 : (w3.alloc (Obj.cells #[Value.slice A3 xs.length k3] 34)).cell? ⟨w.heap.size + 1, 0, none⟩ = some (.slice none 0 0) := by simp [go_sem, c3, hz3]
            have f4 : (w3.alloc (Obj.cells #[Value.slice A3 xs.length k3] 34)).frozen? ⟨w.heap.size + 1, 0, none⟩ = false := by simp [go_sem, f3, hz3]
            have hK1 : w1.heap.size ≤ K := by omega
            rw [hK]
            revert bx4 own4 b4 B4 y4 c4 f4
            generalize w3.alloc (Obj.cells #[Value.slice A3 xs.length k3] 34) = w4
            intro bx4 own4 b4 B4 y4 c4 f4
            clear a3 c3 f3 y3 hK hdl hd
            have h60 : BL.length ≤ 60 := hxt
            have hbl : BL.tail.length = BL.length - 1 := by simp
            go_wp2_with fail
            go_loopw [9, 10] (fun q u wr => ∃ (k : Nat) (vo : Value), q = .int .i64 ((BL.length : Int) - 2 - k) ∧ k ≤ BL.length - 1 ∧ Boxed wr K 34 vo ∧ OwnRules wr w1.heap.size vo ((BL.tail.take k).foldl (powStep ((xs.length : Int) - 1)) xs) ∧ Below w1.heap.size w4 wr) (fun q _ _ => (intOf q + 1).toNat)
            case atStart => exact ⟨0, _, by simp, Nat.zero_le _, bx4, by simpa using own4, b4⟩
            case round =>
              obtain ⟨k, vo, rfl, hk, hbox, hown, hb⟩ := hrel
              have Hb := Lib.hid hb
              have Hown := Lib.hid hown
              have Hbox := Lib.hid hbox
              have hll := powFold_len ((xs.length : Int) - 1) (BL.tail.take k) xs
              obtain ⟨L, hL⟩ : ∃ L, (BL.tail.take k).foldl (powStep ((xs.length : Int) - 1)) xs = L := ⟨_, rfl⟩
              have HL := Lib.hid hL
              have hlen : L.length ≤ 2000000 := by rw [← hL]; simp at hll; omega
              rw [hL] at Hown
              clear hb hown hbox hll hL
              by_cases hlt : k < BL.length - 1
              · obtain ⟨j, hj⟩ : ∃ j : Nat, (BL.length : Int) - 2 - k = j := ⟨BL.length - 2 - k, by omega⟩
                have hjl : j < BL.length := by omega
                have hgt := Hget.out j hjl
                have hgt' : BL.tail[k]? = some (UInt8.ofNat (48 + n / 2 ^ j % 2)) := by
                  rw [← hgt, List.getElem?_tail]; congr 1; omega
                have Hgt := Lib.hid hgt'
                have hand : bits BinOp.and IntKind.i64 ((n : Int) / 2 ^ j) 1 = ((n / 2 ^ j % 2 : Nat) : Int) := by
                  rw [shr_nat]; exact and_oneI _ (Nat.lt_of_le_of_lt (Nat.div_le_self _ _) (by omega))
                obtain ⟨D, hD⟩ : ∃ D, n / 2 ^ j % 2 = D := ⟨_, rfl⟩
                have hD2 : D = 0 ∨ D = 1 := by omega
                rw [hD] at hand Hgt
                obtain ⟨Ao, co, rfl, _⟩ := own_nil Hown.out
                have bxc := Hbox.out.cell
                have bxf := Hbox.out.frozen
                have hw1 : IntKind.i64.wrap ((L.length : Int) - 1) = (L.length : Int) - 1 := IntWalk.i64_in _ (by omega)
                have hw2 : IntKind.i64.wrap ((j : Int) - 1) = (j : Int) - 1 := IntWalk.i64_in _ (by omega)
                have Hll : Hid (L.length ≤ 1099511627775) := by rw [Hid]; omega
                have Hw4 := Lib.hid (show w1.heap.size ≤ w4.heap.size by have := bx4.lt; omega)
                have Hw0 := Lib.hid (show w1.heap.size ≤ wr.heap.size from Nat.le_trans (by have := bx4.lt; omega) Hb.out.size)
                have Hlen := Lib.hid hlen
                rw [hj]
                have Hj := Lib.hid hj
                have Hlt := Lib.hid hlt
                have hj60 : j < 64 := by omega
                clear hgt hgt' hD hlt hk hj
                have Hstep : Hid ((BL.tail.take (k + 1)).foldl (powStep ((xs.length : Int) - 1)) xs = powStep ((xs.length : Int) - 1) L (UInt8.ofNat (48 + D))) := by
                  rw [Hid, List.take_add_one, Hgt.out, List.foldl_append, HL.out]; rfl
                obtain ⟨M, hM⟩ : ∃ M, L ++ [pairR ((L.length : Int) - 1) ((L.length : Int) - 1)] = M := ⟨_, rfl⟩
                have hMl : M.length = L.length + 1 := by rw [← hM]; simp
                have HM := Lib.hid hM
                have HMl := Lib.hid hMl
                have Hml : Hid (M.length ≤ 1099511627775) := by rw [Hid]; have := Hlen.out; omega
                have HN := fun q : Int × Int => Lib.hid (show (M ++ [pairR q.1 q.2]).length = M.length + 1 by simp)
                have e0 : powStep ((xs.length : Int) - 1) L (UInt8.ofNat (48 + 0)) = M := by rw [← hM]; simp [powStep]
                have e1 : powStep ((xs.length : Int) - 1) L (UInt8.ofNat (48 + 1)) = M ++ [pairR (L.length : Int) ((xs.length : Int) - 1)] := by rw [← hM]; simp [powStep]
                have E3 := Lib.hid e0
                have E4 := Lib.hid e1
                have hm0 : (((j : Int) - 1) + 1).toNat < ((j : Int) + 1).toNat := by omega
                have Hm0 := Lib.hid hm0
                clear hM hMl e0 e1 hm0
                rcases hD2 with rfl | rfl
                · go_wp2_with (first
                    | (at_builtin; refine list_push_rule (base := w1.heap.size) (v := .slice Ao L.length co) rfl _ _ rfl (by rfl) (by rfl) rfl Hown.out Hll.out Hw0.out ?_; intro v5 w5 own5 hg5 hb5; go_loud (have bx5 : Boxed w5 K 34 _ := Boxed.grown Hbox.out (by decide) Hown.out hg5; obtain ⟨A5, c5, rfl, _⟩ := own_nil own5; have hcb5 := bx5.cell; have hfb5 := bx5.frozen; have hl5 := bx5.lt; have own6 := Lib.hid (own_put bx5 own5 HM.out HMl.out); have B6 : Hid (Below w1.heap.size w4 (w5.setCell ⟨K, 0, none⟩ (.slice A5 (L.length + 1) c5))) := ((Hb.out.alloc Hw0.out _).trans hb5).setCell hK1 _; have X6 : Hid (Boxed (w5.setCell ⟨K, 0, none⟩ (.slice A5 (L.length + 1) c5)) K 34 (.slice A5 (L.length + 1) c5)) := Boxed.set _ bx5; clear own5 hg5 hb5)))
                  refine ⟨⟨k + 1, _, by congr 1; have := Hj.out; omega, by have := Hlt.out; omega, X6.out, ?_, B6.out⟩, by simp only [intOf]; exact Hm0.out⟩
                  rw [Hstep.out, E3.out]; exact own6.out
                · go_wp2_with (first
                    | (at_builtin; refine list_push_rule (base := w1.heap.size) (v := .slice Ao L.length co) rfl _ _ rfl (by rfl) (by rfl) rfl Hown.out Hll.out Hw0.out ?_; intro v5 w5 own5 hg5 hb5; go_loud (have bx5 : Boxed w5 K 34 _ := Boxed.grown Hbox.out (by decide) Hown.out hg5; obtain ⟨A5, c5, rfl, _⟩ := own_nil own5; have hcb5 := bx5.cell; have hfb5 := bx5.frozen; have hl5 := bx5.lt; have own6 := Lib.hid (own_put bx5 own5 HM.out HMl.out); have B6 : Hid (Below w1.heap.size w4 (w5.setCell ⟨K, 0, none⟩ (.slice A5 (L.length + 1) c5))) := ((Hb.out.alloc Hw0.out _).trans hb5).setCell hK1 _; have X6 : Hid (Boxed (w5.setCell ⟨K, 0, none⟩ (.slice A5 (L.length + 1) c5)) K 34 (.slice A5 (L.length + 1) c5)) := Boxed.set _ bx5; clear own5 hg5 hb5))
                    | (at_builtin; go_loud (refine list_push_rule (base := w1.heap.size) (v := .slice A5 (L.length + 1) c5) rfl _ _ rfl (by rfl) (by rfl) (by simp) own6.out Hml.out (Nat.le_trans Hw4.out B6.out.size) ?_); intro v7 w7 own7 hg7 hb7; have bx7 : Boxed w7 K 34 _ := Boxed.grown X6.out (by decide) own6.out hg7; obtain ⟨A7, c7, rfl, _⟩ := own_nil own7; have hcb7 := bx7.cell; have hfb7 := bx7.frozen; have hl7 := bx7.lt; go_loud (have own8 := Lib.hid (own_put bx7 own7 rfl (HN (L.length, (xs.length : Int) - 1)).out); have B8 : Hid (Below w1.heap.size w4 (w7.setCell ⟨K, 0, none⟩ (.slice A7 (M.length + 1) c7))) := ((B6.out.alloc (Nat.le_trans Hw4.out B6.out.size) _).trans hb7).setCell hK1 _; have X8 : Hid (Boxed (w7.setCell ⟨K, 0, none⟩ (.slice A7 (M.length + 1) c7)) K 34 (.slice A7 (M.length + 1) c7)) := Boxed.set _ bx7; clear own7 hg7 hb7)))
                  refine ⟨⟨k + 1, _, by congr 1; have := Hj.out; omega, by have := Hlt.out; omega, X8.out, ?_, B8.out⟩, by simp only [intOf]; exact Hm0.out⟩
                  rw [Hstep.out, E4.out]; exact own8.out
              · have hkn : k = BL.length - 1 := by omega
                subst hkn
                have hneg : ¬ ((0 : Int) ≤ (BL.length : Int) - 2 - ((BL.length - 1 : Nat) : Int)) := by omega
                have hL' : powG xs n = L := by rw [Hg.out, HBL.out, ← HL.out, ← hbl, List.take_length]
                have HL' := Lib.hid hL'
                have z1 : w1.heap.size ≤ wr.heap.size := Nat.le_trans (by have := bx4.lt; omega) Hb.out.size
                obtain ⟨Ao, co, rfl, _⟩ := own_nil Hown.out
                have bxc := Hbox.out.cell
                have hlr := Hbox.out.lt
                have c9 : wr.cell? ⟨w.heap.size + 1, 0, none⟩ = some (.slice none 0 0) := (Hb.out.cell (p := ⟨w.heap.size + 1, 0, none⟩) (by show w.heap.size + 1 < w1.heap.size; omega)).trans c4
                have f9 : wr.frozen? ⟨w.heap.size + 1, 0, none⟩ = false := (Hb.out.frozen (p := ⟨w.heap.size + 1, 0, none⟩) (by show w.heap.size + 1 < w1.heap.size; omega)).trans f4
                have hz9 : w.heap.size + 1 < wr.heap.size := by omega
                have B9 := Lib.hid (B4.out.trans (Hb.out.mono (by omega)))
                clear hL' hlt hk hlen
                go_wp2_with fail
                refine (l02Told_any _ _ _ _ Hown.out (by rw [← HL'.out]; exact powG_small n Hs.out)).mono ?_
                rintro e w10 ⟨hb10, v10, own10, rfl⟩
                obtain ⟨A10, k10, rfl, _⟩ := own_nil own10
                have c10 := cell_up c9 hb10 (by omega)
                have f10 : w10.frozen? ⟨w.heap.size + 1, 0, none⟩ = false := by rw [hb10.frozen hz9, f9]
                have B10 := Lib.hid (B9.out.trans (hb10.mono (by omega)))
                have O10 := Lib.hid own10
                clear c9 f9 hb10 own10
                go_wp2
                refine bodyPost_ret (v := .tuple #[.agg #[.slice A10 (limOut L).length k10], .int .i64 (limCode L)]) (by simp [results, Tryd.results9, go_sem, c10]) rfl ⟨?_, _, ?_, by rw [E2.out, HL'.out]⟩
                · exact B10.out.setCell (by show w.heap.size ≤ w.heap.size + 1; omega) _
                · rw [E1.out, HL'.out]
                  exact ownsRow_more (ownsRow_setCell_below O10.out (a := ⟨w.heap.size + 1, 0, none⟩) (by show w.heap.size + 1 < w1.heap.size; omega) _) (by omega)
    · have hin' : inB t 0 1000000000000000 = false := by simpa using hin
      have Hin := Lib.hid hin'
      clear hin hin'
      refine (l00InY _ _ _ _ _ Hin.out).mono ?_
      rintro e w' ⟨rfl, rfl⟩
      go_wp2
      refine bodyPost_ret (v := .tuple #[.agg #[.slice none 0 0], .int .i64 2]) (by simp [results, Tryd.results9, go_sem, c1]) rfl ⟨?_, _, ?_, by rw [powCode, if_pos Hok.out, if_neg (by rw [Hin.out]; decide)]⟩
      · exact B1.out.setCell (by show w.heap.size ≤ w.heap.size + 1; omega) _
      · rw [powOut, if_neg (by simp [Hin.out])]; exact World.ownsRow_nil _ _ _ _
  · have hok2 : (!gramOk xs) = true := by simp [hok]
    have Hok := Lib.hid hok
    clear hok
    go_wp2
    refine bodyPost_ret (v := .tuple #[.agg #[.slice none 0 0], .int .i64 1]) (by simp [results, Tryd.results9, go_sem, c1]) rfl ⟨?_, _, ?_, by rw [powCode, if_neg (by simp [Hok.out])]⟩
    · exact B1.out.setCell (by show w.heap.size ≤ w.heap.size + 1; omega) _
    · rw [powOut, if_neg (by simp [Hok.out])]; exact World.ownsRow_nil _ _ _ _
end Go.Proofs.YthidgjdjijjkoaaDoor
