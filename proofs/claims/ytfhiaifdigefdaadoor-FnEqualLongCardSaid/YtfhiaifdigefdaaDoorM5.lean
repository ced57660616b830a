import Derived.Test.YtfhiaifdigefdaaDoorM4
import Derived.ChangeKeysEq
import Derived.Test.YtfhiaifdigefdaaDoorM2
import Derived.Test.YtfhiaifdigefdaaDoorM3
import Derived.Test.YtfhiaifdigefdaaDoorM1
import Derived.Maps.Keyed
import Derived.DeepKeys4
import Derived.Deep.CutRange
import Derived.Deep.DeepCutAuto
import Derived.WalkArith
import Derived.Deep.OwnRows
import Derived.IntWalk
namespace Go.Proofs.YtfhiaifdigefdaaDoor
open Go.RowKit
def prG (xs : List GRule) : Nat × Nat := (polP bA (wordG xs), polP bB (wordG xs))
theorem print_all {xs : List GRule} {ls : List Int} (hl : lens xs = some ls) : (piecesL xs ls 0 (lastI ls)).foldl (stepP xs) (0, 0) = prG xs := by
  rw [pieces_all hl]
  by_cases h0 : xs.length = 0
  · have : xs = [] := List.eq_nil_of_length_eq_zero h0
    subst this
    rfl
  · rw [if_neg h0]
    show stepP xs (0, 0) (xs.length - 1) = _
    unfold stepP prG
    rw [wordG_pos (by omega)]
    simp only [Nat.zero_mul, Nat.zero_mod, Nat.zero_add]
    rw [Nat.mod_eq_of_lt (mk_lt xs _).1, Nat.mod_eq_of_lt (mk_lt xs _).2]
    rfl
def eqG (xs ys : List GRule) : Bool := decide (gramLen xs = gramLen ys) && decide (prG xs = prG ys)
theorem eqG_of {xs ys : List GRule} (hx : gramOk xs = true) (hy : gramOk ys = true) (h : wordG xs = wordG ys) : eqG xs ys = true := by
  obtain ⟨_, lx, h1⟩ := gram_lens hx
  obtain ⟨_, ly, h2⟩ := gram_lens hy
  unfold eqG prG
  rw [gramLen_of h1, gramLen_of h2, ← wordG_len h1, ← wordG_len h2, h]
  simp
def WvP (w : World) (P : Nat) (xs : List GRule) : Prop := ∃ ls vR vL AM cM AS cS, lens xs = some ls ∧ xs.length ≤ 400 ∧ Wv w P xs ls vR vL AM cM AS cS
theorem WvP.up {w w' : World} {P : Nat} {xs : List GRule} (h : WvP w P xs) (hb : Below w.heap.size w w') : WvP w' P xs := by
  obtain ⟨ls, vR, vL, AM, cM, AS, cS, h1, h2, h3⟩ := h
  exact ⟨ls, vR, vL, AM, cM, AS, cS, h1, h2, h3.up hb⟩
theorem WvP.drew {w : World} {P : Nat} {xs : List GRule} (h : WvP w P xs) : WvP w.drew P xs := h.up (Below.drew (Below.refl _ _))
theorem newWeave_wvp (v : Value) (xs : List GRule) (w : World) (h : Sl RuleE w w.heap.size v xs) (hg : gramOk xs = true) :
    Calls Tryd.prog 39 #[.agg #[v]] w fun e w' => ∃ P, e = .returned (.tuple #[.pointer (some ⟨P, 0, none⟩), .bool true]) ∧ WvP w' P xs ∧ Below w.heap.size w w' := by
  refine (newWeave_any v xs w h hg).mono ?_
  rintro e w' ⟨P, ls, vL, AM, cM, AS, cS, rfl, hl, hP, S⟩
  refine ⟨P, rfl, ⟨ls, v, vL, AM, cM, AS, cS, hl, (gram_lens hg).1, S.box, ?_, h.up S.bel, ownsRow_more S.mrk (by omega), ownsRow_more S.stp (by omega)⟩, S.bel⟩
  exact OwnInts.sl S.len
theorem wvLength_any (P : Nat) (xs : List GRule) (w : World) (h : WvP w P xs) :
    Calls Tryd.prog 40 #[.pointer (some ⟨P, 0, none⟩)] w fun e w' => e = .returned (.int .i64 (gramLen xs)) ∧ Below w.heap.size w w' := by
  obtain ⟨ls, vR, vL, AM, cM, AS, cS, h1, h2, h3⟩ := h
  have HL := Lib.hid h3.len
  have c1 := Blk.cell (i := 1) (v := vL) h3.box rfl
  have l1 := h3.box.lt
  obtain ⟨AL, cL, rfl, _⟩ := h3.len
  have hgl := Lib.hid (gramLen_of h1)
  clear h3 h1
  go_enter Tryd.func40, Tryd.ntmps40
  go_wp2_with fail
  refine (last_any _ ls _ HL.out).mono ?_
  rintro e w' ⟨rfl, rfl⟩
  go_wp2_with fail
  go_ret
  exact ⟨ret_int (by rw [hgl.out]), Below.refl _ _⟩
theorem wvPrint_any (P : Nat) (xs : List GRule) (n : Int) (w : World) (h : WvP w P xs) (hn : n = gramLen xs) :
    Calls Tryd.prog 69 #[.pointer (some ⟨P, 0, none⟩), .int .i64 0, .int .i64 n] w fun e w' => Below w.heap.size w w' ∧ e = .returned (prV (prG xs).1 (prG xs).2) := by
  obtain ⟨ls, vR, vL, AM, cM, AS, cS, h1, h2, h3⟩ := h
  have := print_any P xs ls vR vL AM AS cM cS 0 n w h3 h1 (by omega)
  rw [hn, gramLen_of h1, print_all h1] at this
  rw [hn, gramLen_of h1]
  exact this
theorem gram_len_bd (xs : List GRule) : 0 ≤ gramLen xs ∧ gramLen xs ≤ 1000000000000000 := gramLen_bounds xs
theorem eq_print (a1 a2 b1 b2 : Nat) (w : World) : (Op.equalIn 10000 103 (.agg #[.int .u64 (a1 : Int), .int .u64 (a2 : Int)]) (.agg #[.int .u64 (b1 : Int), .int .u64 (b2 : Int)])).run Tryd.prog w = .ok (decide (a1 = b1) && decide (a2 = b2)) w := by
  obtain ⟨i, hi⟩ : ∃ i, Tryd.prog.info? 76 = some i := Option.isSome_iff_exists.1 (by kernel_rfl)
  have hp : Tryd.prog.plainKey 76 = true := by kernel_rfl
  have hc : Tryd.prog.cellsOf 76 = 1 := by kernel_rfl
  have pA0 := fun w => run_part_plain w hp (xs := #[.int .u64 (a1 : Int), .int .u64 (a2 : Int)]) (off := 0) (v := .int .u64 (a1 : Int)) rfl
  have pA1 := fun w => run_part_plain w hp (xs := #[.int .u64 (a1 : Int), .int .u64 (a2 : Int)]) (off := 1) (v := .int .u64 (a2 : Int)) rfl
  have pB0 := fun w => run_part_plain w hp (xs := #[.int .u64 (b1 : Int), .int .u64 (b2 : Int)]) (off := 0) (v := .int .u64 (b1 : Int)) rfl
  have pB1 := fun w => run_part_plain w hp (xs := #[.int .u64 (b1 : Int), .int .u64 (b2 : Int)]) (off := 1) (v := .int .u64 (b2 : Int)) rfl
  have e0 : ∀ (x y : Nat), ((x : Int) == (y : Int)) = decide (x = y) := fun x y => by
    by_cases h : x = y
    · subst h; simp
    · rw [decide_eq_false h, beq_eq_false_iff_ne]; omega
  rw [run_equalIn_array w 9999 _ _ Tryd.underlying103 hi, hc, show List.range 2 = [0, 1] from rfl]
  have q0 := fun w => run_equalIn_int w 9998 76 .u64 .u64 (a1 : Int) (b1 : Int) Tryd.underlying76
  have q1 := fun w => run_equalIn_int w 9998 76 .u64 .u64 (a2 : Int) (b2 : Int) Tryd.underlying76
  simp only [Op.eqItems, Sem.run_bind, Nat.zero_mul, pA0, pB0, Result.andThen_ok, q0, e0]
  generalize decide (a1 = b1) = x
  cases x with
  | false => rfl
  | true =>
    simp only [Sem.run_bind, Nat.one_mul, pA1, pB1, Result.andThen_ok, q1, e0, Bool.not_true, Bool.false_eq_true, if_false]
    generalize decide (a2 = b2) = y
    cases y <;> rfl
set_option maxRecDepth 100000 in
theorem wvEqual_any (P Q : Nat) (xs ys : List GRule) (n : Int) (w : World) (h : WvP w P xs) (h' : WvP w Q ys) (hn : n = gramLen xs) (hn' : n = gramLen ys) :
    Calls Tryd.prog 49 #[.pointer (some ⟨P, 0, none⟩), .int .i64 0, .pointer (some ⟨Q, 0, none⟩), .int .i64 0, .int .i64 n] w fun e w' => e = .returned (.bool (decide (prG xs = prG ys))) ∧ Below w.heap.size w w' := by
  have HP := Lib.hid h
  have HQ := Lib.hid h'
  have HN := Lib.hid hn
  have HN' := Lib.hid hn'
  have hb := gram_len_bd xs
  rw [← hn] at hb
  obtain ⟨hb1, hb2⟩ := hb
  clear h h' hn hn'
  go_enter Tryd.func49, Tryd.ntmps49
  go_wp2_with fail
  refine (wvPrint_any P xs n _ HP.out HN.out).mono ?_
  rintro e w1 ⟨hb1, rfl⟩
  have HB1 := Lib.hid hb1
  clear hb1
  go_wp2_with fail
  refine (wvPrint_any Q ys n _ (HQ.out.up HB1.out) HN'.out).mono ?_
  rintro e w2 ⟨hb2, rfl⟩
  have HB2 := Lib.hid (Below.tr HB1.out hb2)
  clear hb2
  have HE := Lib.hid (show decide (prG xs = prG ys) = (decide ((prG xs).1 = (prG ys).1) && decide ((prG xs).2 = (prG ys).2)) from by
    rw [← Bool.decide_and]; congr 1; exact propext Prod.ext_iff)
  obtain ⟨a1, h1⟩ : ∃ a, (prG xs).1 = a := ⟨_, rfl⟩
  obtain ⟨a2, h2⟩ : ∃ a, (prG xs).2 = a := ⟨_, rfl⟩
  obtain ⟨b1, h3⟩ : ∃ a, (prG ys).1 = a := ⟨_, rfl⟩
  obtain ⟨b2, h4⟩ : ∃ a, (prG ys).2 = a := ⟨_, rfl⟩
  rw [h1, h2, h3, h4] at HE
  rw [h1, h2, h3, h4]
  unfold prV
  have hEQ := eq_print a1 a2 b1 b2 w2
  generalize (decide (a1 = b1) && decide (a2 = b2)) = bb at *
  clear h1 h2 h3 h4
  go_wp2_with fail
  go_ret
  exact ⟨ret_bool (by rw [HE.out]), HB2.out⟩
set_option maxRecDepth 100000 in
theorem wvSame_any (P Q : Nat) (xs ys : List GRule) (w : World) (h : WvP w P xs) (h' : WvP w Q ys) :
    Calls Tryd.prog 29 #[.pointer (some ⟨P, 0, none⟩), .pointer (some ⟨Q, 0, none⟩)] w fun e w' => e = .returned (.bool (eqG xs ys)) ∧ Below w.heap.size w w' := by
  have HP := Lib.hid h
  have HQ := Lib.hid h'
  clear h h'
  have HE := Lib.hid (show eqG xs ys = (decide (gramLen xs = gramLen ys) && decide (prG xs = prG ys)) from rfl)
  obtain ⟨n, hn⟩ : ∃ n, gramLen xs = n := ⟨_, rfl⟩
  obtain ⟨m, hm⟩ : ∃ m, gramLen ys = m := ⟨_, rfl⟩
  rw [hn, hm] at HE
  have HN := Lib.hid hn
  have HM := Lib.hid hm
  clear hn hm
  go_enter Tryd.func29, Tryd.ntmps29
  go_wp2_with fail
  refine (wvLength_any P xs _ HP.out).mono ?_
  rintro e w1 ⟨rfl, hb1⟩
  rw [HN.out]
  have HB1 := Lib.hid hb1
  clear hb1
  go_wp2_with fail
  refine (wvLength_any Q ys _ (HQ.out.up HB1.out)).mono ?_
  rintro e w2 ⟨rfl, hb2⟩
  rw [HM.out]
  have HB2 := Lib.hid (Below.tr HB1.out hb2)
  clear hb2
  by_cases e1 : n = m
  · subst e1
    go_wp2_with fail
    refine (wvLength_any P xs _ (HP.out.up HB2.out)).mono ?_
    rintro e w3 ⟨rfl, hb3⟩
    rw [HN.out]
    have HB3 := Lib.hid (Below.tr HB2.out hb3)
    clear hb3
    go_wp2_with fail
    refine (wvEqual_any P Q xs ys n _ (HP.out.up HB3.out) (HQ.out.up HB3.out) HN.out.symm HM.out.symm).mono ?_
    rintro e w4 ⟨rfl, hb4⟩
    have HB4 := Lib.hid (Below.tr HB3.out hb4)
    clear hb4
    go_wp2_with fail
    go_ret
    exact ⟨ret_bool (by rw [HE.out]; simp), HB4.out⟩
  · have f1 : (n == m) = false := by rw [beq_eq_false_iff_ne]; exact e1
    have E1 := Lib.hid e1
    clear e1
    go_wp2_with fail
    go_ret
    exact ⟨ret_bool (by rw [HE.out]; simp [E1.out]), HB2.out⟩
set_option maxRecDepth 100000 in
theorem weaves_any (v u : Value) (xs ys : List GRule) (w : World) (h : Sl RuleE w w.heap.size v xs) (h' : Sl RuleE w w.heap.size u ys) (hx : gramOk xs = true) (hy : gramOk ys = true) :
    Calls Tryd.prog 28 #[.agg #[v], .agg #[u]] w fun e w' => ∃ P Q, e = .returned (.tuple #[.pointer (some ⟨P, 0, none⟩), .pointer (some ⟨Q, 0, none⟩), .bool true]) ∧ WvP w' P xs ∧ WvP w' Q ys ∧ Below w.heap.size w w' := by
  have H := Lib.hid h
  have H' := Lib.hid h'
  obtain ⟨A, c, rfl, _⟩ := h
  obtain ⟨A', c', rfl, _⟩ := h'
  have hX := Lib.hid hx
  have hY := Lib.hid hy
  clear hx hy
  have HB := Lib.hid (fun o o' => ((Below.refl w.heap.size w).alloc (Nat.le_refl _) o).alloc (by simp) o')
  have k1 := (Blk.new w #[.slice A xs.length c] 26).alloc (Obj.cells #[.slice A' ys.length c'] 26)
  have k2 := Blk.new (w.alloc (Obj.cells #[.slice A xs.length c] 26)) #[.slice A' ys.length c'] 26
  rw [show (w.alloc (Obj.cells #[.slice A xs.length c] 26)).heap.size = w.heap.size + 1 by simp] at k2
  have K2 := Lib.hid k2
  have K1 := Lib.hid k1
  clear k1 k2
  go_enter Tryd.func28, Tryd.ntmps28
  go_wp2_with fail
  refine (newWeave_wvp _ xs _ (H.out.up (HB.out _ _)) hX.out).mono ?_
  rintro e w1 ⟨P, rfl, hP, hb1⟩
  have HP := Lib.hid hP
  have HB1 := Lib.hid (Below.tr (HB.out _ _) hb1)
  have k2 := K2.out.up hb1
  have c2 := Blk.cell (i := 0) (v := .slice A' ys.length c') k2 rfl
  have l2 := Blk.lt k2
  clear hb1 hP k2
  go_wp2_with fail
  refine (newWeave_wvp _ ys _ (H'.out.up HB1.out) hY.out).mono ?_
  rintro e w2 ⟨Q, rfl, hQ, hb2⟩
  have HQ := Lib.hid hQ
  have HP2 := Lib.hid (HP.out.up hb2)
  have HB2 := Lib.hid (Below.tr HB1.out hb2)
  clear hb2 hQ c2 l2
  go_wp2_with fail
  go_ret3
  exact ⟨P, Q, rfl, HP2.out, HQ.out, HB2.out⟩
set_option maxRecDepth 100000 in
theorem equalWords_any (v u : Value) (xs ys : List GRule) (w : World) (h : Sl RuleE w w.heap.size v xs) (h' : Sl RuleE w w.heap.size u ys) (hx : gramOk xs = true) (hy : gramOk ys = true) :
    Calls Tryd.prog 9 #[.agg #[v], .agg #[u]] w fun e w' => e = .returned (.tuple #[.bool (eqG xs ys), .int .i64 0]) ∧ Below w.heap.size w w' := by
  have H := Lib.hid h
  have H' := Lib.hid h'
  obtain ⟨A, c, rfl, _⟩ := h
  obtain ⟨A', c', rfl, _⟩ := h'
  have hX := Lib.hid hx
  have hY := Lib.hid hy
  clear hx hy
  have HB := Lib.hid (fun o o' => ((Below.refl w.heap.size w).alloc (Nat.le_refl _) o).alloc (by simp) o')
  go_enter Tryd.func9, Tryd.ntmps9
  go_wp2_with fail
  refine (weaves_any _ _ xs ys _ (H.out.up (HB.out _ _)) (H'.out.up (HB.out _ _)) hX.out hY.out).mono ?_
  rintro e w1 ⟨P, Q, rfl, hP, hQ, hb1⟩
  have HP := Lib.hid hP
  have HQ := Lib.hid hQ
  have HB1 := Lib.hid (Below.tr (HB.out _ _) hb1)
  clear hb1 hP hQ
  go_wp2_with fail
  refine (wvSame_any P Q xs ys _ HP.out HQ.out).mono ?_
  rintro e w2 ⟨rfl, hb2⟩
  have HB2 := Lib.hid (Below.tr HB1.out hb2)
  clear hb2
  go_wp2_with fail
  go_ret2
  exact ⟨rfl, HB2.out⟩
def bAi : Nat := 2179019607881955056
theorem bA_inv : bA * bAi % pF = 1 := by decide
theorem pow_inv {b c : Nat} (h : b * c % pF = 1) (n : Nat) : powP b n * powP c n % pF = 1 := by
  unfold powP
  rw [← Nat.mul_mod, ← Nat.mul_pow, Nat.pow_mod, h, Nat.one_pow]; decide
theorem mul_out {x y P Q : Nat} (hx : x < pF) (hy : y < pF) (h : P * Q % pF = 1) (e : x * P % pF = y * P % pF) : x = y := by
  have g : ∀ z, z < pF → z * P % pF * Q % pF = z := fun z hz => by
    rw [Nat.mul_mod, Nat.mod_mod, ← Nat.mul_mod, Nat.mul_assoc, Nat.mul_mod, h, Nat.mul_one, Nat.mod_mod, Nat.mod_eq_of_lt hz]
  rw [← g x hx, ← g y hy, e]
theorem add_out {x y q : Nat} (hx : x < pF) (hy : y < pF) (e : (x + q) % pF = (y + q) % pF) : x = y := by
  have hp := pF_pos
  have h1 := Nat.div_add_mod (x + q) pF
  have h2 := Nat.div_add_mod (y + q) pF
  rw [e] at h1
  generalize (x + q) / pF = m at h1
  generalize (y + q) / pF = n at h2
  generalize (y + q) % pF = r at h1 h2
  rcases Nat.lt_trichotomy m n with g | g | g
  · have := Nat.mul_le_mul_left pF (show m + 1 ≤ n from g)
    rw [Nat.mul_add, Nat.mul_one] at this; omega
  · subst g; omega
  · have := Nat.mul_le_mul_left pF (show n + 1 ≤ m from g)
    rw [Nat.mul_add, Nat.mul_one] at this; omega
theorem polP_diff {b c : Nat} (h : b * c % pF = 1) (A B : List UInt8) {x y : UInt8} (e : polP b (A ++ x :: B) = polP b (A ++ y :: B)) : x = y := by
  have e1 : ∀ z : UInt8, A ++ z :: B = (A ++ [z]) ++ B := fun z => by simp
  rw [e1 x, e1 y, polP_app b (A ++ [x]) B, polP_app b (A ++ [y]) B] at e
  have e2 := add_out (Nat.mod_lt _ pF_pos) (Nat.mod_lt _ pF_pos) e
  have e3 := mul_out (polP_lt _ _) (polP_lt _ _) (pow_inv h B.length) e2
  rw [polP_app b A [x], polP_app b A [y], polP_one, polP_one, Nat.add_comm _ x.toNat, Nat.add_comm _ y.toNat] at e3
  simp only [List.length_cons, List.length_nil] at e3
  have l : ∀ z : UInt8, z.toNat < pF := fun z => by have := z.toNat_lt; unfold pF; omega
  have e4 := add_out (l x) (l y) e3
  exact UInt8.toNat_inj.1 e4
def prC (xs : List GRule) (i j : Int) : Nat × Nat := (polP bA (cutL (wordG xs) i j), polP bB (cutL (wordG xs) i j))
theorem fold_print (xs : List GRule) : ∀ (L : List Nat) (U : List UInt8), L.foldl (stepP xs) (polP bA U, polP bB U) = (polP bA (U ++ L.flatMap (W1 xs)), polP bB (U ++ L.flatMap (W1 xs))) := by
  intro L
  induction L with
  | nil => intro U; simp
  | cons r L ih =>
    intro U
    have e : stepP xs (polP bA U, polP bB U) r = (polP bA (U ++ W1 xs r), polP bB (U ++ W1 xs r)) := by
      unfold stepP mkOf stOf
      rw [polP_app bA U, polP_app bB U]
    rw [List.foldl_cons, e, ih (U ++ W1 xs r), List.flatMap_cons, List.append_assoc]
theorem print_cut {xs : List GRule} {ls : List Int} (hl : lens xs = some ls) (i j : Int) : (piecesL xs ls i j).foldl (stepP xs) (0, 0) = prC xs i j := by
  have h := fold_print xs (piecesL xs ls i j) []
  rw [List.nil_append, pieces_word hl] at h
  exact h
theorem prC_pre {xs ys : List GRule} {A B : List UInt8} {x y : UInt8} (hx : wordG xs = A ++ x :: B) (hy : wordG ys = A ++ y :: B) (hne : x ≠ y) {m : Int} (h0 : 0 ≤ m) : (prC xs 0 m = prC ys 0 m) ↔ m ≤ (A.length : Nat) := by
  have c0 : ∀ l : List UInt8, cutL l 0 m = l.take m.toNat := fun l => by simp [cutL]
  unfold prC
  rw [c0, c0, hx, hy]
  constructor
  · intro h
    rcases Int.lt_or_le (A.length : Nat) m with g | g
    · exfalso
      have t : ∀ z : UInt8, (A ++ z :: B).take m.toNat = A ++ z :: B.take (m.toNat - A.length - 1) := fun z => by
        rw [List.take_append, List.take_of_length_le (by omega), show m.toNat - A.length = (m.toNat - A.length - 1) + 1 by omega, List.take_succ_cons, Nat.add_sub_cancel]
      rw [t x, t y] at h
      exact hne (polP_diff bA_inv A _ (Prod.ext_iff.1 h).1)
    · exact g
  · intro h
    rw [List.take_append_of_le_length (by omega), List.take_append_of_le_length (by omega)]
def commonB (of : Nat → Bool) : Nat → Nat → Nat → Nat
  | 0, low, _ => low
  | f + 1, low, high => if low < high then (if of ((low + high + 1) / 2) then commonB of f ((low + high + 1) / 2) high else commonB of f low ((low + high + 1) / 2 - 1)) else low
theorem commonB_spec (of : Nat → Bool) (k n : Nat) (h : ∀ m, m ≤ n → (of m = true ↔ m ≤ k)) : ∀ (f low high : Nat), high - low ≤ f → low ≤ k → low ≤ high → high ≤ n → (k ≤ high ∨ high = n) → commonB of f low high = min k n := by
  intro f
  induction f with
  | zero => intro low high h1 h2 h3 h4 h5; rw [commonB]; omega
  | succ f ih =>
    intro low high h1 h2 h3 h4 h5
    rw [commonB]
    by_cases g : low < high
    · rw [if_pos g]
      have hm := h ((low + high + 1) / 2) (by omega)
      by_cases e : of ((low + high + 1) / 2) = true
      · have := hm.1 e
        rw [if_pos e]
        exact ih _ _ (by omega) this (by omega) h4 h5
      · have : ¬ ((low + high + 1) / 2 ≤ k) := fun q => e (hm.2 q)
        rw [if_neg e]
        exact ih _ _ (by omega) h2 (by omega) (by omega) (Or.inl (by omega))
    · rw [if_neg g]; omega
theorem eqG_not {xs ys : List GRule} {A B : List UInt8} {x y : UInt8} (hx : wordG xs = A ++ x :: B) (hy : wordG ys = A ++ y :: B) (hne : x ≠ y) : eqG xs ys = false := by
  unfold eqG prG
  rw [Bool.and_eq_false_iff]
  refine Or.inr ?_
  rw [decide_eq_false_iff_not, hx, hy]
  exact fun h => hne (polP_diff bA_inv A B (Prod.ext_iff.1 h).1)
theorem wvPrintC_any (P : Nat) (xs : List GRule) (i j : Int) (w : World) (h : WvP w P xs) :
    Calls Tryd.prog 69 #[.pointer (some ⟨P, 0, none⟩), .int .i64 i, .int .i64 j] w fun e w' => Below w.heap.size w w' ∧ e = .returned (prV (prC xs i j).1 (prC xs i j).2) := by
  obtain ⟨ls, vR, vL, AM, cM, AS, cS, h1, h2, h3⟩ := h
  have := print_any P xs ls vR vL AM AS cM cS i j w h3 h1 (by omega)
  rw [print_cut h1] at this
  exact this
set_option maxRecDepth 100000 in
theorem wvEqualP_any (P Q : Nat) (xs ys : List GRule) (i j n : Int) (w : World) (h : WvP w P xs) (h' : WvP w Q ys) (hi : 0 ≤ i) (hi9 : i ≤ 1000000000000000) (hj : 0 ≤ j) (hj9 : j ≤ 1000000000000000) (h0 : 0 ≤ n) (h9 : n ≤ 1000000000000000) :
    Calls Tryd.prog 49 #[.pointer (some ⟨P, 0, none⟩), .int .i64 i, .pointer (some ⟨Q, 0, none⟩), .int .i64 j, .int .i64 n] w fun e w' => e = .returned (.bool (decide (prC xs i (i + n) = prC ys j (j + n)))) ∧ Below w.heap.size w w' := by
  have HP := Lib.hid h
  have HQ := Lib.hid h'
  clear h h'
  go_enter Tryd.func49, Tryd.ntmps49
  go_wp2_with fail
  refine (wvPrintC_any P xs i (i + n) _ HP.out).mono ?_
  rintro e w1 ⟨hb1, rfl⟩
  have HB1 := Lib.hid hb1
  clear hb1
  go_wp2_with fail
  refine (wvPrintC_any Q ys j (j + n) _ (HQ.out.up HB1.out)).mono ?_
  rintro e w2 ⟨hb2, rfl⟩
  have HB2 := Lib.hid (Below.tr HB1.out hb2)
  clear hb2
  have HE := Lib.hid (show decide (prC xs i (i + n) = prC ys j (j + n)) = (decide ((prC xs i (i + n)).1 = (prC ys j (j + n)).1) && decide ((prC xs i (i + n)).2 = (prC ys j (j + n)).2)) from by
    rw [← Bool.decide_and]; congr 1; exact propext Prod.ext_iff)
  obtain ⟨a1, h1⟩ : ∃ a, (prC xs i (i + n)).1 = a := ⟨_, rfl⟩
  obtain ⟨a2, h2⟩ : ∃ a, (prC xs i (i + n)).2 = a := ⟨_, rfl⟩
  obtain ⟨b1, h3⟩ : ∃ a, (prC ys j (j + n)).1 = a := ⟨_, rfl⟩
  obtain ⟨b2, h4⟩ : ∃ a, (prC ys j (j + n)).2 = a := ⟨_, rfl⟩
  rw [h1, h2, h3, h4] at HE
  rw [h1, h2, h3, h4]
  unfold prV
  have hEQ := eq_print a1 a2 b1 b2 w2
  generalize (decide (a1 = b1) && decide (a2 = b2)) = bb at *
  clear h1 h2 h3 h4
  go_wp2_with fail
  go_ret
  exact ⟨ret_bool (by rw [HE.out]), HB2.out⟩
theorem raiseR_ok {n k : Nat} {r : GRule} (h : okRule k r = true) : okRule (n + k) (raiseR n r) = true := by
  unfold raiseR
  cases hp : r.pair with
  | true =>
    obtain ⟨q1, q2, q3, q4⟩ := okRule_at h hp
    rw [if_pos rfl]
    have hl : r.letter.size = 0 := by simpa [GRule.pair] using hp
    unfold okRule
    rw [if_pos (show (GRule.pair ⟨r.letter, r.left + n, r.right + n⟩) = true by simpa [GRule.pair] using hl)]
    show (decide (0 ≤ r.left + n) && decide (r.left + n ≤ ((n + k : Nat) : Int) - 1) && decide (0 ≤ r.right + n) && decide (r.right + n ≤ ((n + k : Nat) : Int) - 1)) = true
    rw [decide_eq_true (by omega), decide_eq_true (by omega), decide_eq_true (by omega), decide_eq_true (by omega)]; rfl
  | false =>
    rw [if_neg (by simp)]
    unfold okRule at h ⊢
    rw [if_neg (by simp [hp])] at h ⊢
    exact h
def keyV (r : GRule) : Value := .agg #[.string r.letter, .int .i64 r.left, .int .i64 r.right]
def KeyOk (r : GRule) : Prop := r.letter.size ≤ 1 ∧ (-9223372036854775808 ≤ r.left ∧ r.left ≤ 9223372036854775807) ∧ (-9223372036854775808 ≤ r.right ∧ r.right ≤ 9223372036854775807)
theorem keyV_inj {r s : GRule} (h : keyV r = keyV s) : r = s := by
  cases r; cases s
  simp [keyV] at h
  obtain ⟨h1, h2, h3⟩ := h
  subst h1 h2 h3; rfl
theorem laidOutP : laidOutB Tryd.prog = true := by kernel_rfl
theorem rowRule : (42 : TypeId) < Tryd.prog.types.size := of_decide_eq_true (by kernel_rfl)
theorem keyTypeRule : Tryd.prog.keyTypeAt 2 42 = true := by kernel_rfl
theorem ruleKey : WideMaps.KeyLaw Tryd.prog 42 := deep_law_laid laidOutP (m := 2) (by omega) rowRule keyTypeRule (by rw [Tryd.underlying42])
theorem cellsRule : Tryd.prog.cellsOf 42 = 3 := by kernel_rfl
theorem formedRule (l : ByteArray) (a b : Int) : (Value.agg #[.string l, .int .i64 a, .int .i64 b]).formed Tryd.prog 42 = true := by simp [Value.formed, Tryd.underlying42, cellsRule]
theorem litsRule (D : Nat) (l : ByteArray) (a b : Int) (hl : l.size ≤ 1) (ha : (Lit.int .i64 a).wf = true) (hb : (Lit.int .i64 b).wf = true) :
    Tryd.prog.keyLits (D + 2) 42 [.string l, .int .i64 a, .int .i64 b] = some [.string l.data.toList, .int .i64 a, .int .i64 b] := by
  have hm : l.size ≤ maxLen := Nat.le_trans hl (by decide)
  have c9 : Tryd.prog.cellsOf 9 = 1 := by kernel_rfl
  have c2 : Tryd.prog.cellsOf 2 = 1 := by kernel_rfl
  simp [cellsRule, Tryd.underlying42, c9, c2, Program.keyLits, Tryd.underlying9, Tryd.underlying2, hm, ha, hb, List.mapM_cons]
theorem keyOf_rule {r : GRule} (h : KeyOk r) : ∃ l, keyOf Tryd.prog 42 (keyV r) = some l := by
  obtain ⟨h1, h2, h3⟩ := h
  have hw1 : (Lit.int .i64 r.left).wf = true := WalkArith.wf_i64 h2
  have hw2 : (Lit.int .i64 r.right).wf = true := WalkArith.wf_i64 h3
  obtain ⟨D, hD⟩ : ∃ D, Tryd.prog.types.size + 1 = D + 2 := ⟨Tryd.prog.types.size - 1, by have h9 : 1 < Tryd.prog.types.size := Nat.lt_of_le_of_lt (by decide) rowRule; omega⟩
  have hk : Tryd.prog.keyType 42 = true := by kernel_rfl
  have hlits := litsRule D r.letter r.left r.right h1 hw1 hw2
  rw [← hD] at hlits
  refine ⟨.string (keyBytes [.string r.letter.data.toList, .int .i64 r.left, .int .i64 r.right]), ?_⟩
  unfold keyOf keyV
  rw [Tryd.underlying42]
  have hc : (Value.agg #[.string r.letter, .int .i64 r.left, .int .i64 r.right]).cells.toList = [.string r.letter, .int .i64 r.left, .int .i64 r.right] := rfl
  show (if (Tryd.prog.keyType 42 && (Value.agg #[.string r.letter, .int .i64 r.left, .int .i64 r.right]).formed Tryd.prog 42) = true then
    (Tryd.prog.keyLits (Tryd.prog.types.size + 1) 42 (Value.agg #[.string r.letter, .int .i64 r.left, .int .i64 r.right]).cells.toList).map fun ls => Lit.string (keyBytes ls) else none) = _
  rw [hk, formedRule, hc, if_pos (show (true && true) = true from rfl), hlits]
  rfl
def RMap (w : World) (b : Nat) (ks : List GRule) : Prop :=
  ∃ es clock, w.heap[b]? = some (.map es clock) ∧ (∀ e ∈ es.toList, ∃ r, KeyOk r ∧ e.key = keyV r ∧ r ∈ ks ∧ e.val = .int .i64 (ks.idxOf r : Nat)) ∧ ∀ r ∈ ks, ∃ e ∈ es.toList, e.key = keyV r
section
variable {w w' : World} {b : Nat} {ks : List GRule} {r : GRule}
theorem RMap.made (w : World) : RMap (w.alloc (.map #[] 0)) w.heap.size [] := ⟨#[], 0, (MapKept.heap_alloc w _).1, by simp, by simp⟩
theorem RMap.lt (h : RMap w b ks) : b < w.heap.size := by
  obtain ⟨es, clock, hb, _⟩ := h
  exact (Array.getElem?_eq_some_iff.1 hb).1
theorem RMap.of_block (h : RMap w b ks) (hb : w'.heap[b]? = w.heap[b]?) : RMap w' b ks := by
  obtain ⟨es, clock, h0, h1, h2⟩ := h
  exact ⟨es, clock, hb.trans h0, h1, h2⟩
theorem RMap.kept {row : Option Nat} (h : RMap w b ks) (hg : w.grownBy w' row) (hne : some b ≠ row) : RMap w' b ks := h.of_block (hg.block b h.lt hne)
theorem RMap.alloc (h : RMap w b ks) (o : Obj) : RMap (w.alloc o) b ks := h.kept (World.grownBy_alloc w o none) (by simp)
theorem RMap.drew (h : RMap w b ks) : RMap w.drew b ks := h
theorem RMap.below {N : Nat} (h : RMap w b ks) (hb : Below N w w') (hlt : b < N) : RMap w' b ks := h.of_block (hb.block b hlt)
theorem RMap.same (h : RMap w b ks) (hr : r ∈ ks) : RMap w b (ks ++ [r]) := by
  obtain ⟨es, clock, h0, h1, h2⟩ := h
  refine ⟨es, clock, h0, fun e he => ?_, fun s hs => ?_⟩
  · obtain ⟨s, a1, a2, a3, a4⟩ := h1 e he
    exact ⟨s, a1, a2, by simp [a3], by rw [List.idxOf_append, if_pos a3]; exact a4⟩
  · rcases List.mem_append.1 hs with hs | hs
    · exact h2 s hs
    · rw [List.mem_singleton] at hs; subst hs; exact h2 s hr
theorem RMap.find (h : RMap w b ks) (hk : KeyOk r) : ∃ es clock, w.heap[b]? = some (.map es clock) ∧ (∀ e ∈ es.toList, ∃ r, KeyOk r ∧ e.key = keyV r ∧ r ∈ ks ∧ e.val = .int .i64 (ks.idxOf r : Nat)) ∧
    ((r ∉ ks ∧ (Instr.findKey 42 (keyV r) es.toList).run Tryd.prog w = .ok none w) ∨ (r ∈ ks ∧ ∃ j, (Instr.findKey 42 (keyV r) es.toList).run Tryd.prog w = .ok (some (j, .int .i64 (ks.idxOf r : Nat))) w)) := by
  obtain ⟨es, clock, h0, h1, h2⟩ := h
  obtain ⟨l, hl⟩ := keyOf_rule hk
  refine ⟨es, clock, h0, h1, ?_⟩
  rcases ruleKey.find w hl es.toList (fun e he => by
    obtain ⟨s, a1, a2, _⟩ := h1 e he
    rw [a2]; exact keyOf_rule a1) with ⟨f1, f2⟩ | ⟨j, e, f1, f2, f3⟩
  · refine .inl ⟨fun hr => ?_, f1⟩
    obtain ⟨e, he, hek⟩ := h2 r hr
    exact f2 e he hek
  · obtain ⟨s, a1, a2, a3, a4⟩ := h1 e (List.mem_of_getElem? f2)
    have : s = r := keyV_inj (a2.symm.trans f3)
    subst this
    exact .inr ⟨a3, j, by rw [← a4]; exact f1⟩
theorem RMap.yes (h : RMap w b ks) (hk : KeyOk r) (hr : r ∈ ks) (c : Bool) :
    (Instr.lookup 109 (.map (some b)) (keyV r) c).run Tryd.prog w = .ok (if c then .tuple #[.int .i64 (ks.idxOf r : Nat), .bool true] else .int .i64 (ks.idxOf r : Nat)) w := by
  obtain ⟨es, clock, h0, h1, h2⟩ := h.find hk
  obtain ⟨l, hl⟩ := keyOf_rule hk
  rcases h2 with ⟨hn, _⟩ | ⟨_, j, hj⟩
  · exact absurd hr hn
  · simp [Instr.lookup, run_underlying Tryd.underlying109, MapKept.run_getObj_map h0, ruleKey.check w _ hl, hj, Result.andThen]
theorem RMap.no (h : RMap w b ks) (hk : KeyOk r) (hr : r ∉ ks) (c : Bool) :
    (Instr.lookup 109 (.map (some b)) (keyV r) c).run Tryd.prog w = .ok (if c then .tuple #[.int .i64 0, .bool false] else .int .i64 0) w := by
  obtain ⟨es, clock, h0, h1, h2⟩ := h.find hk
  obtain ⟨l, hl⟩ := keyOf_rule hk
  have hz : (zeroValue 2).run Tryd.prog w = .ok (.int .i64 0) w := by kernel_rfl
  rcases h2 with ⟨_, hj⟩ | ⟨hy, _⟩
  · simp [Instr.lookup, run_underlying Tryd.underlying109, MapKept.run_getObj_map h0, ruleKey.check w _ hl, hj, hz, Result.andThen]
  · exact absurd hy hr
open Go.ChangeMaps in
theorem RMap.put (h : RMap w b ks) (hk : KeyOk r) (hr : r ∉ ks) :
    ∃ w', (Instr.mapUpdate 109 (.map (some b)) (keyV r) (.int .i64 (ks.length : Nat))).run Tryd.prog w = .ok () w' ∧ RMap w' b (ks ++ [r]) ∧ w.grownBy w' (some b) := by
  have h' := h
  obtain ⟨es0, clock0, g0, g1, g2⟩ := h'
  obtain ⟨es, clock, h0, h1, h2⟩ := h.find hk
  obtain ⟨l, hl⟩ := keyOf_rule hk
  have he : es0 = es ∧ clock0 = clock := by
    rw [g0] at h0
    have := Option.some.inj h0
    exact ⟨by injection this, by injection this⟩
  obtain ⟨rfl, rfl⟩ := he
  rcases h2 with ⟨_, hj⟩ | ⟨hy, _⟩
  · refine ⟨setBlock w b (.map (es0.push ⟨keyV r, .int .i64 (ks.length : Nat), clock0⟩) (clock0 + 1)), ?_, ⟨_, _, heap_setBlock_same g0 _, ?_, ?_⟩, ⟨rfl, rfl, rfl, by simp [setBlock], fun i _ hi => heap_setBlock_other g0 _ (fun e => hi (by rw [e]))⟩⟩
    · simp [Instr.mapUpdate, run_underlying Tryd.underlying109, MapKept.run_getObj_map g0, ruleKey.check w false hl, hj, MapKept.run_setObj_map _ g0, Result.andThen, setBlock]
    · intro e he
      simp only [Array.toList_push, List.mem_append, List.mem_singleton] at he
      rcases he with he | rfl
      · obtain ⟨s, a1, a2, a3, a4⟩ := g1 e he
        exact ⟨s, a1, a2, by simp [a3], by rw [List.idxOf_append, if_pos a3]; exact a4⟩
      · exact ⟨r, hk, rfl, by simp, by rw [List.idxOf_append, if_neg hr]; simp⟩
    · intro s hs
      simp only [Array.toList_push, List.mem_append, List.mem_singleton]
      rcases List.mem_append.1 hs with hs | hs
      · obtain ⟨e, he, hek⟩ := g2 s hs
        exact ⟨e, .inl he, hek⟩
      · rw [List.mem_singleton] at hs; subst hs; exact ⟨_, .inr rfl, rfl⟩
  · exact absurd hy hr
end
theorem list_push_rule {W : World} {ops : Array Oper} {rest : List Oper} {o : Oper} {a : Act} {Q : Exit → Act → World → Prop} (hgd : o.guard = none) (s x : Operand)
    (ho : o.op = .call { callee := .builtin .append, args := #[s, x], argTypes := #[24, 24] }) {t : ByteArray} {p q : Int} {base : Nat} {v : Value} {l : List GRule}
    (hs : a.eval s = v) {N : Nat} (hx : a.eval x = .slice (some ⟨N, 0, none⟩) 1 1) (hN : N = W.heap.size) (hown : OwnRules W base v l) (hlen : l.length ≤ 1099511627775) (hbase : base ≤ W.heap.size)
    (h : ∀ v' w', OwnRules w' base v' (l ++ [⟨t, p, q⟩]) → (W.alloc (.cells #[.string t, .int .i64 p, .int .i64 q] 42)).grownBy w' v.ownBlock → Below base (W.alloc (.cells #[.string t, .int .i64 p, .int .i64 q] 42)) w' → wpList Tryd.prog ops Q rest (a.put o.dst v') w') :
    wpList Tryd.prog ops Q (o :: rest) a (W.alloc (.cells #[.string t, .int .i64 p, .int .i64 q] 42)) :=
  wpList_plain hgd fun K hK => by
    have := step_push_rule (E := True) (K := K) (ops := ops) (Q := Q) hgd s x ho hs hx hN hown hlen hbase (fun v' w' h1 h2 h3 => hK _ _ (h v' w' h1 h2 h3))
    rwa [if_pos (by simp [Region.wanted, hgd])] at this
theorem own_put {w5 : World} {K base n c5 : Nat} {A5 : Option Addr} {L M : List GRule} {vo : Value} (bx : Boxed w5 K 26 vo) (own : OwnRules w5 base (.slice A5 L.length c5) L) (hM : L = M) (hn : M.length = n) :
    OwnRules (w5.setCell ⟨K, 0, none⟩ (.slice A5 n c5)) base (.slice A5 n c5) M := by
  subst hM; subst hn; exact ownsRow_setCell_other (a := ⟨K, 0, none⟩) own (bx.not_row (by decide) own).symm _
theorem pairI64_any (a b : Int) (w : World) :
    Calls Tryd.prog 57 #[.int .i64 a, .int .i64 b] w fun e w' => e = .returned (.agg #[.string ⟨#[]⟩, .int .i64 a, .int .i64 b]) ∧ Below w.heap.size w w' := by
  go_enter Tryd.func57, Tryd.ntmps57
  go_wp2
  exact bodyPost_ret (v := .agg #[.string ⟨#[]⟩, .int .i64 a, .int .i64 b]) (by simp [results, Tryd.results57, go_sem]) rfl ⟨rfl, (by repeat (first | exact (Below.refl _ _) | (refine Below.alloc ?_ (by first | omega | (simp; done) | (simp; omega)) _) | refine below_drewN ?_ _ | refine Below.drew ?_))⟩
def Cells3 (w : World) (B : Nat) (r : GRule) : Prop := w.cell? ⟨B, 0, none⟩ = some (.string r.letter) ∧ w.cell? ⟨B, 1, none⟩ = some (.int .i64 r.left) ∧ w.cell? ⟨B, 2, none⟩ = some (.int .i64 r.right) ∧ B < w.heap.size
theorem Cells3.below {w w' : World} {B N : Nat} {r : GRule} (h : Cells3 w B r) (hb : Below N w w') (hlt : B < N) : Cells3 w' B r :=
  ⟨(hb.cell (p := ⟨B, 0, none⟩) hlt).trans h.1, (hb.cell (p := ⟨B, 1, none⟩) hlt).trans h.2.1, (hb.cell (p := ⟨B, 2, none⟩) hlt).trans h.2.2.1, Nat.lt_of_lt_of_le h.2.2.2 hb.size⟩
theorem Cells3.kept {w w' : World} {B : Nat} {r : GRule} {row : Option Nat} (h : Cells3 w B r) (hg : w.grownBy w' row) (hne : some B ≠ row) : Cells3 w' B r :=
  ⟨(World.cell?_of_block (a := ⟨B, 0, none⟩) (hg.block B h.2.2.2 hne)).trans h.1, (World.cell?_of_block (a := ⟨B, 1, none⟩) (hg.block B h.2.2.2 hne)).trans h.2.1, (World.cell?_of_block (a := ⟨B, 2, none⟩) (hg.block B h.2.2.2 hne)).trans h.2.2.1, Nat.lt_of_lt_of_le h.2.2.2 hg.size⟩
theorem okRule_key {k : Nat} {r : GRule} (h : okRule k r = true) (hk : k ≤ 1099511627776) : KeyOk r := by
  cases hp : r.pair with
  | true =>
    have := okRule_at h hp
    exact ⟨okRule_small h, by omega, by omega⟩
  | false =>
    obtain ⟨h1, h2, h3⟩ := okRule_let h hp
    exact ⟨okRule_small h, by omega, by omega⟩
theorem step_push_ruleC {W : World} {ops : Array Oper} {o : Oper} {a : Act} {K : Act → World → Prop} {Q : Exit → Act → World → Prop} {E : Prop} (hgd : o.guard = none) (s x : Operand)
    (ho : o.op = .call { callee := .builtin .append, args := #[s, x], argTypes := #[24, 24] }) {r : GRule} {base : Nat} {v : Value} {l : List GRule}
    (hs : a.eval s = v) {N : Nat} (hx : a.eval x = .slice (some ⟨N, 0, none⟩) 1 1) (hc : Cells3 W N r) (hown : OwnRules W base v l) (hlen : l.length ≤ 1099511627775) (hbase : base ≤ W.heap.size)
    (h : ∀ v' w', OwnRules w' base v' (l ++ [r]) → W.grownBy w' v.ownBlock → (v'.ownBlock = v.ownBlock ∨ v'.ownBlock = some W.heap.size) → K (a.put o.dst v') w') :
    if Region.wanted o (yielded ops a.tmps) = true then Oper.wp Tryd.prog o a W K Q else E := by
  have hw : Region.wanted o (yielded ops a.tmps) = true := by simp [Region.wanted, hgd]
  rw [if_pos hw]
  obtain ⟨i0, hi0, hz0, hz1, hz2⟩ := info_parts Tryd.infoR
  obtain ⟨v', w', hrun, h2, h3, _, h5⟩ := run_append_own_at (P := Tryd.prog) W base 24 o.type 42 i0 _ 3 32 Tryd.underlying24 hi0 hz0 hz1 hz2 rfl (by decide) v _ _ hown ⟨N, 0, none⟩ 1 1 r.cells rfl
    (fun j u hu => by
      obtain ⟨c0, c1, c2, _⟩ := hc
      match j, hu with
      | 0, hu => simp [GRule.cells] at hu; subst hu; simpa [Addr.add] using c0
      | 1, hu => simp [GRule.cells] at hu; subst hu; simpa [Addr.add] using c1
      | 2, hu => simp [GRule.cells] at hu; subst hu; simpa [Addr.add] using c2
      | j + 3, hu => simp [GRule.cells] at hu) (by simp [GRule.cells, Value.oneCell']) (by simp only [maxLen]; omega) (by omega) hbase
  unfold Oper.wp execOp
  simp only [ho, resolve, invoke, builtin, Sem.run_bind, Sem.run_pure, Result.andThen_ok, List.map_toArray, List.map_cons, List.map_nil, hs, hx, hrun]
  exact h v' w' (by unfold OwnRules; simpa using h2) h3 h5
theorem keptc {W w' : World} {row : Option Nat} {N o : Nat} {u : Value} (hg : W.grownBy w' row) (hc : W.cell? ⟨N, o, none⟩ = some u) (hlt : N < W.heap.size) (hne : some N ≠ row) : w'.cell? ⟨N, o, none⟩ = some u :=
  (World.cell?_of_block (a := ⟨N, o, none⟩) (hg.block N hlt hne)).trans hc
theorem own_block {w : World} {base e s n : Nat} {v : Value} {xs : List Value} (h : w.ownsRow base e s v n xs) {g : Nat} (hg : v.ownBlock = some g) : ∃ cur, w.heap[g]? = some (.cells cur e (0, 0)) := by
  rcases h.2 with ⟨rfl, _⟩ | ⟨g', cap, cur, rfl, _, hb, _⟩
  · cases hg
  · have : g' = g := by simpa [Value.ownBlock] using hg
    subst this; exact ⟨cur, hb⟩
theorem own_apart {w : World} {base base' e e' s s' n n' : Nat} {v v' : Value} {xs xs' : List Value} (h : w.ownsRow base e s v n xs) (h' : w.ownsRow base' e' s' v' n' xs') (hne : e ≠ e') : ∀ g, v.ownBlock = some g → some g ≠ v'.ownBlock := fun g hg hg' => by
  obtain ⟨c1, h1⟩ := own_block h hg
  obtain ⟨c2, h2⟩ := own_block h' hg'.symm
  rw [h1] at h2
  have := Option.some.inj h2
  injection this with _ h3; exact hne h3
theorem rmap_apart {w : World} {b base e s n : Nat} {v : Value} {xs : List Value} {ks : List GRule} (h : RMap w b ks) (h' : w.ownsRow base e s v n xs) : some b ≠ v.ownBlock := fun hb => by
  obtain ⟨c, h1⟩ := own_block h' hb.symm
  obtain ⟨es, clock, h2, _⟩ := h
  rw [h1] at h2; cases h2
structure T3 (w0 : World) (base bm bx : Nat) (X : GRule) (ks : List GRule) (W : World) (v4 : Value) (K : List GRule) (v6 : Value) (S : List Int) : Prop where
  below : Below base w0 W
  rows : OwnRules W base v4 K
  ints : OwnInts W base v6 S
  mp : RMap W bm ks
  box : Cells3 W bx X
  bxR : some bx ≠ v4.ownBlock
  bxI : some bx ≠ v6.ownBlock
  lb : base ≤ W.heap.size
section
variable {w0 W : World} {base bm bx : Nat} {X : GRule} {ks K : List GRule} {v4 v6 : Value} {S : List Int}
theorem T3.alloc (h : T3 w0 base bm bx X ks W v4 K v6 S) (o : Obj) : T3 w0 base bm bx X ks (W.alloc o) v4 K v6 S :=
  ⟨h.below.alloc h.lb _, h.rows.alloc _, h.ints.alloc _, h.mp.alloc _, h.box.below ((Below.refl W.heap.size W).alloc (Nat.le_refl _) o) h.box.2.2.2, h.bxR, h.bxI, by have := h.lb; simp; omega⟩
theorem T3.drew (h : T3 w0 base bm bx X ks W v4 K v6 S) : T3 w0 base bm bx X ks W.drew v4 K v6 S :=
  ⟨Below.drew h.below, h.rows, h.ints, h.mp, h.box, h.bxR, h.bxI, h.lb⟩
theorem T3.pushR (h : T3 w0 base bm bx X ks W v4 K v6 S) {w' : World} {v' : Value} {L : List GRule} (h1 : OwnRules w' base v' L) (hg : W.grownBy w' v4.ownBlock) (hv : v'.ownBlock = v4.ownBlock ∨ v'.ownBlock = some W.heap.size) : T3 w0 base bm bx X ks w' v' L v6 S :=
  ⟨h.below.grown hg h.lb (fun g hgg => (World.ownsRow.lt h.rows g hgg).1), h1, own_keep h.ints fun g hgg => hg.block g (World.ownsRow.lt h.ints g hgg).2 (own_apart h.ints h.rows (by decide) g hgg), h.mp.kept hg (rmap_apart h.mp h.rows), h.box.kept hg h.bxR,
    by rcases hv with e | e
       · rw [e]; exact h.bxR
       · rw [e]; intro e'; have := h.box.2.2.2; have : bx = W.heap.size := Option.some.inj e'; omega, h.bxI, Nat.le_trans h.lb hg.size⟩
theorem T3.pushI (h : T3 w0 base bm bx X ks W v4 K v6 S) {w' : World} {v' : Value} {L : List Int} (h1 : OwnInts w' base v' L) (hg : W.grownBy w' v6.ownBlock) (hv : v'.ownBlock = v6.ownBlock ∨ v'.ownBlock = some W.heap.size) : T3 w0 base bm bx X ks w' v4 K v' L :=
  ⟨h.below.grown hg h.lb (fun g hgg => (World.ownsRow.lt h.ints g hgg).1), own_keep h.rows fun g hgg => hg.block g (World.ownsRow.lt h.rows g hgg).2 (own_apart h.rows h.ints (by decide) g hgg), h1, h.mp.kept hg (rmap_apart h.mp h.ints), h.box.kept hg h.bxI, h.bxR,
    by rcases hv with e | e
       · rw [e]; exact h.bxI
       · rw [e]; intro e'; have := h.box.2.2.2; have : bx = W.heap.size := Option.some.inj e'; omega, Nat.le_trans h.lb hg.size⟩
theorem step_T3R {ops : Array Oper} {o : Oper} {a : Act} {KK : Act → World → Prop} {Q : Exit → Act → World → Prop} {E : Prop} (hgd : o.guard = none) (s x : Operand)
    (ho : o.op = .call { callee := .builtin .append, args := #[s, x], argTypes := #[24, 24] }) {r : GRule} {N : Nat}
    (hs : a.eval s = v4) (hx : a.eval x = .slice (some ⟨N, 0, none⟩) 1 1) (T : T3 w0 base bm bx X ks W v4 K v6 S) (hc : Cells3 W N r) (hlen : K.length ≤ 1099511627775)
    (h : ∀ v' w', T3 w0 base bm bx X ks w' v' (K ++ [r]) v6 S → W.grownBy w' v4.ownBlock → KK (a.put o.dst v') w') :
    if Region.wanted o (yielded ops a.tmps) = true then Oper.wp Tryd.prog o a W KK Q else E :=
  step_push_ruleC hgd s x ho hs hx hc T.rows hlen T.lb fun v' w' h1 h2 h3 => h v' w' (T.pushR h1 h2 h3) h2
theorem step_T3I {ops : Array Oper} {o : Oper} {a : Act} {KK : Act → World → Prop} {Q : Exit → Act → World → Prop} {E : Prop} (hgd : o.guard = none) (s x : Operand)
    (ho : o.op = .call { callee := .builtin .append, args := #[s, x], argTypes := #[58, 58] }) {y : Int} {N : Nat}
    (hs : a.eval s = v6) (hx : a.eval x = .slice (some ⟨N, 0, none⟩) 1 1) (T : T3 w0 base bm bx X ks W v4 K v6 S) (hc : W.cell? ⟨N, 0, none⟩ = some (.int .i64 y)) (hlen : S.length ≤ 1099511627775)
    (h : ∀ v' w', T3 w0 base bm bx X ks w' v4 K v' (S ++ [y]) → W.grownBy w' v6.ownBlock → KK (a.put o.dst v') w') :
    if Region.wanted o (yielded ops a.tmps) = true then Oper.wp Tryd.prog o a W KK Q else E :=
  step_push_int hgd s x ho hs hx hc T.ints (by omega) T.lb fun v' w' h1 h2 h3 => h v' w' (T.pushI h1 h2 h3) h2
end
theorem Cells3.new {W : World} {N : Nat} {r : GRule} (hN : N = W.heap.size) : Cells3 (W.alloc (.cells #[.string r.letter, .int .i64 r.left, .int .i64 r.right] 42)) N r := by
  subst hN
  refine ⟨?_, ?_, ?_, by simp⟩ <;> simp [go_sem]
theorem Cells3.alloc {W : World} {N : Nat} {r : GRule} (h : Cells3 W N r) (o : Obj) : Cells3 (W.alloc o) N r := h.below ((Below.refl W.heap.size W).alloc (Nat.le_refl _) o) h.2.2.2
theorem Cells3.drew {W : World} {N : Nat} {r : GRule} (h : Cells3 W N r) : Cells3 W.drew N r := h
def Cell1 (w : World) (B : Nat) (q : Int) : Prop := w.cell? ⟨B, 0, none⟩ = some (.int .i64 q) ∧ B < w.heap.size
theorem Cell1.new {W : World} {N : Nat} {q : Int} (hN : N = W.heap.size) : Cell1 (W.alloc (.cells #[.int .i64 q] 2)) N q := by
  subst hN
  exact ⟨by simp [go_sem], by simp⟩
theorem Cell1.alloc {W : World} {N : Nat} {q : Int} (h : Cell1 W N q) (o : Obj) : Cell1 (W.alloc o) N q :=
  ⟨(((Below.refl W.heap.size W).alloc (Nat.le_refl _) o).cell (p := ⟨N, 0, none⟩) h.2).trans h.1, by have := h.2; simp; omega⟩
theorem Cell1.drew {W : World} {N : Nat} {q : Int} (h : Cell1 W N q) : Cell1 W.drew N q := h
theorem Cell1.kept {w w' : World} {B : Nat} {q : Int} {row : Option Nat} (h : Cell1 w B q) (hg : w.grownBy w' row) (hne : some B ≠ row) : Cell1 w' B q := ⟨keptc hg h.1 h.2 hne, Nat.lt_of_lt_of_le h.2 hg.size⟩
theorem own_far {w : World} {base e s n : Nat} {v : Value} {xs : List Value} (h : w.ownsRow base e s v n xs) {N : Nat} (hN : w.heap.size ≤ N) : some N ≠ v.ownBlock := fun e => by
  have := (World.ownsRow.lt h N e.symm).2; omega
theorem T3.look {w0 W : World} {base bm bx : Nat} {X : GRule} {ks K : List GRule} {v4 v6 : Value} {S : List Int} (h : T3 w0 base bm bx X ks W v4 K v6 S) {r : GRule} (hk : KeyOk r) (hr : r ∈ ks) :
    (Instr.lookup 109 (.map (some bm)) (.agg #[.string r.letter, .int .i64 r.left, .int .i64 r.right]) false).run Tryd.prog W = .ok (.int .i64 (ks.idxOf r : Nat)) W := h.mp.yes hk hr false
def RowB (w : World) (b : Nat) (N : List Bool) : Prop := w.rowIs b 4 N.length fun i => .bool (N.getD i false)
def RowI (w : World) (b : Nat) (l : List Int) : Prop := w.rowIs b 2 l.length fun i => .int .i64 (l.getD i 0)
theorem RowB.made (w : World) (n : Nat) : RowB (w.alloc (.cells (madeCells #[.bool false] n) 4)) w.heap.size (List.replicate n false) := by
  have h := World.rowIs_made w (.bool false) n 4
  unfold RowB; rw [List.length_replicate]
  exact h.congr fun i hi => by simp [hi]
theorem RowI.made (w : World) (n : Nat) : RowI (w.alloc (.cells (madeCells #[.int .i64 0] n) 2)) w.heap.size (List.replicate n 0) := by
  have h := World.rowIs_made w (.int .i64 0) n 2
  unfold RowI; rw [List.length_replicate]
  exact h.congr fun i hi => by simp [hi]
section
variable {w w' : World} {b : Nat} {N : List Bool} {l : List Int}
theorem RowB.set (h : RowB w b N) (i : Nat) (x : Bool) : RowB (w.setCell ⟨b, i, none⟩ (.bool x)) b (N.set i x) := by
  have h2 := World.rowIs.set h i (.bool x)
  unfold RowB; rw [List.length_set]
  exact h2.congr fun j hj => by
    by_cases e : j = i
    · subst e; simp [hj]
    · simp [e, Ne.symm e]
theorem RowI.set (h : RowI w b l) (i : Nat) (x : Int) : RowI (w.setCell ⟨b, i, none⟩ (.int .i64 x)) b (l.set i x) := by
  have h2 := World.rowIs.set h i (.int .i64 x)
  unfold RowI; rw [List.length_set]
  exact h2.congr fun j hj => by
    by_cases e : j = i
    · subst e; simp [hj]
    · simp [e, Ne.symm e]
theorem RowB.lt (h : RowB w b N) : b < w.heap.size := World.rowIs.lt h
theorem RowI.lt (h : RowI w b l) : b < w.heap.size := World.rowIs.lt h
theorem RowB.cell (h : RowB w b N) {i : Nat} (hi : i < N.length) : w.cell? ⟨b, i, none⟩ = some (.bool (N.getD i false)) := World.rowIs.cell h hi
theorem RowI.cell (h : RowI w b l) {i : Nat} (hi : i < l.length) : w.cell? ⟨b, i, none⟩ = some (.int .i64 (l.getD i 0)) := World.rowIs.cell h hi
theorem RowB.frozen (h : RowB w b N) (i : Nat) : w.frozen? ⟨b, i, none⟩ = false := World.rowIs.frozen h i
theorem RowI.frozen (h : RowI w b l) (i : Nat) : w.frozen? ⟨b, i, none⟩ = false := World.rowIs.frozen h i
theorem RowB.alloc (h : RowB w b N) (o : Obj) : RowB (w.alloc o) b N := World.rowIs.alloc h o
theorem RowI.alloc (h : RowI w b l) (o : Obj) : RowI (w.alloc o) b l := World.rowIs.alloc h o
theorem RowB.drew (h : RowB w b N) : RowB w.drew b N := h
theorem RowI.drew (h : RowI w b l) : RowI w.drew b l := h
theorem RowB.below {M : Nat} (h : RowB w b N) (hb : Below M w w') (hlt : b < M) : RowB w' b N := World.rowIs.of_block h (hb.block b hlt)
theorem RowI.below {M : Nat} (h : RowI w b l) (hb : Below M w w') (hlt : b < M) : RowI w' b l := World.rowIs.of_block h (hb.block b hlt)
theorem RowI.kept {row : Option Nat} (h : RowI w b l) (hg : w.grownBy w' row) (hne : some b ≠ row) : RowI w' b l := World.rowIs.of_block h (hg.block b h.lt hne)
theorem RowI.other (h : RowI w b l) {c o : Nat} (hne : b ≠ c) (u : Value) : RowI (w.setCell ⟨c, o, none⟩ u) b l := World.rowIs.setOther h hne u
theorem RowI.not_row {base e s n : Nat} {v : Value} {xs : List Value} (h : RowI w b l) (h' : w.ownsRow base e s v n xs) (hne : 2 ≠ e) : some b ≠ v.ownBlock := fun hb => by
  obtain ⟨c, h1⟩ := own_block h' hb.symm
  obtain ⟨c2, h2, _⟩ := h
  rw [h1] at h2
  have := Option.some.inj h2
  injection this with _ h3; exact hne h3.symm
end
theorem boxed_other {W : World} {B B' o : Nat} {t : TypeId} {v : Value} (h : Boxed W B t v) (hne : B ≠ B') (u : Value) : Boxed (W.setCell ⟨B', o, none⟩ u) B t v := (Below.heap_setCell _ _ _ _ hne).trans h
theorem Boxed.of1 (w : World) (o : Obj) (t : TypeId) (v : Value) : Boxed ((w.alloc o).alloc (.cells #[v] t)).drew (w.heap.size + 1) t v := by
  have := Boxed.new (w.alloc o) t v
  rw [show (w.alloc o).heap.size = w.heap.size + 1 by simp] at this
  exact this
theorem RowI.of1 (w : World) (o : Obj) (n : Nat) : RowI ((w.alloc o).alloc (.cells (madeCells #[.int .i64 0] n) 2)).drew (w.heap.size + 1) (List.replicate n 0) := by
  have := RowI.made (w.alloc o) n
  rw [show (w.alloc o).heap.size = w.heap.size + 1 by simp] at this
  exact this
def nI (l : List Nat) : List Int := l.map Int.ofNat
theorem nI_append (a b : List Nat) : nI (a ++ b) = nI a ++ nI b := by simp [nI]
theorem nI_len (a : List Nat) : (nI a).length = a.length := by simp [nI]
def CJ (bc base : Nat) (C : Nat → Prop) (s : List Nat) (w : World) : Prop :=
  ∃ v, Boxed w bc 58 v ∧ OwnInts w base v (nI s) ∧ base ≤ w.heap.size ∧ ¬ C bc ∧ ∀ g, v.ownBlock = some g → ¬ C g
theorem CJ.ext {bc base : Nat} : ∀ (C : Nat → Prop) (s : List Nat) (w w' : World), CJ bc base C s w → Below w.heap.size w w' → (∀ b, C b → b < w.heap.size) → CJ bc base (ext C w.heap.size w'.heap.size) s w' := by
  rintro C s w w' ⟨v, hb, ho, hn, h1, h2⟩ hbl hC
  refine ⟨v, Boxed.up hb hbl hb.lt, ownsRow_below ho hbl, Nat.le_trans hn hbl.size, ?_, fun g hg => ?_⟩
  · rintro (h | h)
    · exact h1 h
    · have := hb.lt; omega
  · have := (World.ownsRow.lt ho g hg).2
    rintro (h | h)
    · exact h2 g hg h
    · omega
theorem list_push_int {W : World} {ops : Array Oper} {rest : List Oper} {o : Oper} {a : Act} {Q : Exit → Act → World → Prop} (hgd : o.guard = none) (s x : Operand)
    (ho : o.op = .call { callee := .builtin .append, args := #[s, x], argTypes := #[58, 58] }) {y : Int} {base : Nat} {v : Value} {l : List Int}
    (hs : a.eval s = v) {N : Nat} (hx : a.eval x = .slice (some ⟨N, 0, none⟩) 1 1) (hN : N = W.heap.size) (hown : OwnInts W base v l) (hlen : l.length ≤ 1099511627775) (hbase : base ≤ W.heap.size)
    (h : ∀ v' w', OwnInts w' base v' (l ++ [y]) → (W.alloc (.cells #[.int .i64 y] 2)).grownBy w' v.ownBlock → (v'.ownBlock = v.ownBlock ∨ v'.ownBlock = some (W.heap.size + 1)) → wpList Tryd.prog ops Q rest (a.put o.dst v') w') :
    wpList Tryd.prog ops Q (o :: rest) a (W.alloc (.cells #[.int .i64 y] 2)) :=
  wpList_plain hgd fun K hK => by
    subst hN
    have := step_push_int (E := True) (K := K) (ops := ops) (Q := Q) hgd s x ho hs hx (Cell1.new rfl).1 (hown.alloc _) (by omega) (by simp; omega) (fun v' w' h1 h2 h3 => hK _ _ (h v' w' h1 h2 (by simpa using h3)))
    rwa [if_pos (by simp [Region.wanted, hgd])] at this
theorem coverCl_any (bc base : Nat) (C : Nat → Prop) (s : List Nat) (r : Nat) (w : World) (hJ : CJ bc base C s w) (hs : s.length ≤ 1099511627775) (hC : ∀ b, C b → b < w.heap.size) :
    Calls Tryd.prog 55 #[.int .i64 r, .pointer (some ⟨bc, 0, none⟩)] w (TakePost (CJ bc base) C (s ++ [r]) w) := by
  obtain ⟨v, hb, ho, hn, h1, h2⟩ := hJ
  obtain ⟨A, c, rfl, _⟩ := own_nil ho
  have hcb := hb.cell
  have hlb := hb.lt
  have Hb := Lib.hid hb
  have Ho := Lib.hid ho
  have HL : Hid ((nI s).length ≤ 1099511627775) := by rw [Hid, nI_len]; exact hs
  have H1 := Lib.hid h1
  have H2 := Lib.hid h2
  have HC := Lib.hid hC
  clear hb ho h1 h2 hC hs
  go_enter Tryd.func55, Tryd.ntmps55
  go_wp2_with (first
    | (at_builtin; go_must (refine list_push_int (base := base) (v := .slice A (nI s).length c) (l := nI s) rfl _ _ rfl rfl rfl rfl Ho.out HL.out hn ?_); intro v2 w2 own2 hg2 hv2; obtain ⟨A2, c2, rfl, _⟩ := own_nil own2; have bx2 : Boxed w2 bc 58 _ := Boxed.grown Hb.out (by decide) Ho.out hg2; have hcb2 := bx2.cell; have hfb2 := bx2.frozen))
  go_end0
  have hsz : w.heap.size + 1 ≤ w2.heap.size := by have := hg2.size; simpa using this
  have hne : ∀ b, C b → some b ≠ (Value.slice A (nI s).length c).ownBlock := fun b hb e => H2.out b e.symm hb
  have el : (nI s).length + 1 = (nI s ++ [(r : Int)]).length := by simp
  rw [el]
  refine ⟨rfl, C, fun _ h => h, fun b hb => ?_, ⟨_, Boxed.set _ bx2, ?_, ?_, H1.out, fun g hg hCg => ?_⟩, ?_⟩
  · have := HC.out b hb; simp; omega
  · rw [nI_append]
    exact ownsRow_setCell_other (a := ⟨bc, 0, none⟩) own2 (bx2.not_row (by decide) own2).symm _
  · simp; omega
  · rcases hv2 with e | e
    · rw [e] at hg; exact H2.out g hg hCg
    · rw [e] at hg
      have := Option.some.inj hg
      have := HC.out g hCg
      omega
  · refine ⟨hg2.os, hg2.tape, hg2.output, by simp; omega, fun b hb => ?_⟩
    have hbl := HC.out b hb
    have hbc : b ≠ bc := fun e => H1.out (e ▸ hb)
    rw [Below.heap_setCell _ _ _ _ hbc]
    have := hg2.block b (by simp; omega) (hne b hb)
    rw [this]
    exact Below.heap_alloc _ _ _ hbl
end Go.Proofs.YtfhiaifdigefdaaDoor
