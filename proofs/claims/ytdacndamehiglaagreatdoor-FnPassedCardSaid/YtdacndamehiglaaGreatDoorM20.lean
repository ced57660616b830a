import Derived.Test.YtdacndamehiglaaGreatDoorM19
import Derived.ChangeKeysEq
import Derived.Test.YtdacndamehiglaaGreatDoorM14
import Derived.Test.YtdacndamehiglaaGreatDoorM13
namespace Go.Proofs.YtdacndamehiglaaGreatDoor
open Go.RowKit
def prG (xs : List GRule) : Nat × Nat := (polP bA (wordG xs), polP bB (wordG xs))
theorem print_all {xs : List GRule} {ls : List Int} (hl : lens xs = some ls) : (piecesL xs ls 0 (lastI ls)).foldl (stepP xs) (0, 0) = prG xs := by
  rw [pieces_all hl]
  by_cases h0 : xs.length = 0
  · have : xs = [] := List.eq_nil_of_length_eq_zero h0
    subst this
    rfl
  · rw [if_neg h0]
    show stepP xs (0, 0) (xs.length - 1) = _
    unfold stepP prG
    rw [wordG_pos (by omega)]
    simp only [Nat.zero_mul, Nat.zero_mod, Nat.zero_add]
    rw [Nat.mod_eq_of_lt (mk_lt xs _).1, Nat.mod_eq_of_lt (mk_lt xs _).2]
    rfl
def eqG (xs ys : List GRule) : Bool := decide (gramLen xs = gramLen ys) && decide (prG xs = prG ys)
theorem eqG_of {xs ys : List GRule} (hx : gramOk xs = true) (hy : gramOk ys = true) (h : wordG xs = wordG ys) : eqG xs ys = true := by
  obtain ⟨_, lx, h1⟩ := gram_lens hx
  obtain ⟨_, ly, h2⟩ := gram_lens hy
  unfold eqG prG
  rw [gramLen_of h1, gramLen_of h2, ← wordG_len h1, ← wordG_len h2, h]
  simp
def WvP (w : World) (P : Nat) (xs : List GRule) : Prop := ∃ ls vR vL AM cM AS cS, lens xs = some ls ∧ xs.length ≤ 400 ∧ Wv w P xs ls vR vL AM cM AS cS
theorem WvP.up {w w' : World} {P : Nat} {xs : List GRule} (h : WvP w P xs) (hb : Below w.heap.size w w') : WvP w' P xs := by
  obtain ⟨ls, vR, vL, AM, cM, AS, cS, h1, h2, h3⟩ := h
  exact ⟨ls, vR, vL, AM, cM, AS, cS, h1, h2, h3.up hb⟩
theorem WvP.drew {w : World} {P : Nat} {xs : List GRule} (h : WvP w P xs) : WvP w.drew P xs := h.up (Below.drew (Below.refl _ _))
theorem newWeave_wvp (v : Value) (xs : List GRule) (w : World) (h : Sl RuleE w w.heap.size v xs) (hg : gramOk xs = true) :
    Calls Tryz.prog 120 #[.agg #[v]] w fun e w' => ∃ P, e = .returned (.tuple #[.pointer (some ⟨P, 0, none⟩), .bool true]) ∧ WvP w' P xs ∧ Below w.heap.size w w' := by
  refine (newWeave_any v xs w h hg).mono ?_
  rintro e w' ⟨P, ls, vL, AM, cM, AS, cS, rfl, hl, hP, S⟩
  refine ⟨P, rfl, ⟨ls, v, vL, AM, cM, AS, cS, hl, (gram_lens hg).1, S.box, ?_, h.up S.bel, ownsRow_more S.mrk (by omega), ownsRow_more S.stp (by omega)⟩, S.bel⟩
  exact OwnInts.sl S.len
theorem wvLength_any (P : Nat) (xs : List GRule) (w : World) (h : WvP w P xs) :
    Calls Tryz.prog 121 #[.pointer (some ⟨P, 0, none⟩)] w fun e w' => e = .returned (.int .i64 (gramLen xs)) ∧ Below w.heap.size w w' := by
  obtain ⟨ls, vR, vL, AM, cM, AS, cS, h1, h2, h3⟩ := h
  have HL := Lib.hid h3.len
  have c1 := Blk.cell (i := 1) (v := vL) h3.box rfl
  have l1 := h3.box.lt
  obtain ⟨AL, cL, rfl, _⟩ := h3.len
  have hgl := Lib.hid (gramLen_of h1)
  clear h3 h1
  go_enter Tryz.func121, Tryz.ntmps121
  go_wp2_with fail
  refine (last_any _ ls _ HL.out).mono ?_
  rintro e w' ⟨rfl, rfl⟩
  go_wp2_with fail
  go_ret
  exact ⟨ret_int (by rw [hgl.out]), Below.refl _ _⟩
theorem wvPrint_any (P : Nat) (xs : List GRule) (n : Int) (w : World) (h : WvP w P xs) (hn : n = gramLen xs) :
    Calls Tryz.prog 157 #[.pointer (some ⟨P, 0, none⟩), .int .i64 0, .int .i64 n] w fun e w' => Below w.heap.size w w' ∧ e = .returned (prV (prG xs).1 (prG xs).2) := by
  obtain ⟨ls, vR, vL, AM, cM, AS, cS, h1, h2, h3⟩ := h
  have := print_any P xs ls vR vL AM AS cM cS 0 n w h3 h1 (by omega)
  rw [hn, gramLen_of h1, print_all h1] at this
  rw [hn, gramLen_of h1]
  exact this
theorem gram_len_bd (xs : List GRule) : 0 ≤ gramLen xs ∧ gramLen xs ≤ 1000000000000000 := gramLen_bounds xs
theorem eq_print (a1 a2 b1 b2 : Nat) (w : World) : (Op.equalIn 10000 191 (.agg #[.int .u64 (a1 : Int), .int .u64 (a2 : Int)]) (.agg #[.int .u64 (b1 : Int), .int .u64 (b2 : Int)])).run Tryz.prog w = .ok (decide (a1 = b1) && decide (a2 = b2)) w := by
  obtain ⟨i, hi⟩ : ∃ i, Tryz.prog.info? 113 = some i := Option.isSome_iff_exists.1 (by kernel_rfl)
  have hp : Tryz.prog.plainKey 113 = true := by kernel_rfl
  have hc : Tryz.prog.cellsOf 113 = 1 := by kernel_rfl
  have pA0 := fun w => run_part_plain w hp (xs := #[.int .u64 (a1 : Int), .int .u64 (a2 : Int)]) (off := 0) (v := .int .u64 (a1 : Int)) rfl
  have pA1 := fun w => run_part_plain w hp (xs := #[.int .u64 (a1 : Int), .int .u64 (a2 : Int)]) (off := 1) (v := .int .u64 (a2 : Int)) rfl
  have pB0 := fun w => run_part_plain w hp (xs := #[.int .u64 (b1 : Int), .int .u64 (b2 : Int)]) (off := 0) (v := .int .u64 (b1 : Int)) rfl
  have pB1 := fun w => run_part_plain w hp (xs := #[.int .u64 (b1 : Int), .int .u64 (b2 : Int)]) (off := 1) (v := .int .u64 (b2 : Int)) rfl
  have e0 : ∀ (x y : Nat), ((x : Int) == (y : Int)) = decide (x = y) := fun x y => by
    by_cases h : x = y
    · subst h; simp
    · rw [decide_eq_false h, beq_eq_false_iff_ne]; omega
  rw [run_equalIn_array w 9999 _ _ Tryz.underlying191 hi, hc, show List.range 2 = [0, 1] from rfl]
  have q0 := fun w => run_equalIn_int w 9998 113 .u64 .u64 (a1 : Int) (b1 : Int) Tryz.underlying113
  have q1 := fun w => run_equalIn_int w 9998 113 .u64 .u64 (a2 : Int) (b2 : Int) Tryz.underlying113
  simp only [Op.eqItems, Sem.run_bind, Nat.zero_mul, pA0, pB0, Result.andThen_ok, q0, e0]
  generalize decide (a1 = b1) = x
  cases x with
  | false => rfl
  | true =>
    simp only [Sem.run_bind, Nat.one_mul, pA1, pB1, Result.andThen_ok, q1, e0, Bool.not_true, Bool.false_eq_true, if_false]
    generalize decide (a2 = b2) = y
    cases y <;> rfl
set_option maxRecDepth 100000 in
theorem wvEqual_any (P Q : Nat) (xs ys : List GRule) (n : Int) (w : World) (h : WvP w P xs) (h' : WvP w Q ys) (hn : n = gramLen xs) (hn' : n = gramLen ys) :
    Calls Tryz.prog 122 #[.pointer (some ⟨P, 0, none⟩), .int .i64 0, .pointer (some ⟨Q, 0, none⟩), .int .i64 0, .int .i64 n] w fun e w' => e = .returned (.bool (decide (prG xs = prG ys))) ∧ Below w.heap.size w w' := by
  have HP := Lib.hid h
  have HQ := Lib.hid h'
  have HN := Lib.hid hn
  have HN' := Lib.hid hn'
  have hb := gram_len_bd xs
  rw [← hn] at hb
  obtain ⟨hb1, hb2⟩ := hb
  clear h h' hn hn'
  go_enter Tryz.func122, Tryz.ntmps122
  go_wp2_with fail
  refine (wvPrint_any P xs n _ HP.out HN.out).mono ?_
  rintro e w1 ⟨hb1, rfl⟩
  have HB1 := Lib.hid hb1
  clear hb1
  go_wp2_with fail
  refine (wvPrint_any Q ys n _ (HQ.out.up HB1.out) HN'.out).mono ?_
  rintro e w2 ⟨hb2, rfl⟩
  have HB2 := Lib.hid (Below.tr HB1.out hb2)
  clear hb2
  have HE := Lib.hid (show decide (prG xs = prG ys) = (decide ((prG xs).1 = (prG ys).1) && decide ((prG xs).2 = (prG ys).2)) from by
    rw [← Bool.decide_and]; congr 1; exact propext Prod.ext_iff)
  obtain ⟨a1, h1⟩ : ∃ a, (prG xs).1 = a := ⟨_, rfl⟩
  obtain ⟨a2, h2⟩ : ∃ a, (prG xs).2 = a := ⟨_, rfl⟩
  obtain ⟨b1, h3⟩ : ∃ a, (prG ys).1 = a := ⟨_, rfl⟩
  obtain ⟨b2, h4⟩ : ∃ a, (prG ys).2 = a := ⟨_, rfl⟩
  rw [h1, h2, h3, h4] at HE
  rw [h1, h2, h3, h4]
  unfold prV
  have hEQ := eq_print a1 a2 b1 b2 w2
  generalize (decide (a1 = b1) && decide (a2 = b2)) = bb at *
  clear h1 h2 h3 h4
  go_wp2_with fail
  go_ret
  exact ⟨ret_bool (by rw [HE.out]), HB2.out⟩
set_option maxRecDepth 100000 in
theorem wvSame_any (P Q : Nat) (xs ys : List GRule) (w : World) (h : WvP w P xs) (h' : WvP w Q ys) :
    Calls Tryz.prog 63 #[.pointer (some ⟨P, 0, none⟩), .pointer (some ⟨Q, 0, none⟩)] w fun e w' => e = .returned (.bool (eqG xs ys)) ∧ Below w.heap.size w w' := by
  have HP := Lib.hid h
  have HQ := Lib.hid h'
  clear h h'
  have HE := Lib.hid (show eqG xs ys = (decide (gramLen xs = gramLen ys) && decide (prG xs = prG ys)) from rfl)
  obtain ⟨n, hn⟩ : ∃ n, gramLen xs = n := ⟨_, rfl⟩
  obtain ⟨m, hm⟩ : ∃ m, gramLen ys = m := ⟨_, rfl⟩
  rw [hn, hm] at HE
  have HN := Lib.hid hn
  have HM := Lib.hid hm
  clear hn hm
  go_enter Tryz.func63, Tryz.ntmps63
  go_wp2_with fail
  refine (wvLength_any P xs _ HP.out).mono ?_
  rintro e w1 ⟨rfl, hb1⟩
  rw [HN.out]
  have HB1 := Lib.hid hb1
  clear hb1
  go_wp2_with fail
  refine (wvLength_any Q ys _ (HQ.out.up HB1.out)).mono ?_
  rintro e w2 ⟨rfl, hb2⟩
  rw [HM.out]
  have HB2 := Lib.hid (Below.tr HB1.out hb2)
  clear hb2
  by_cases e1 : n = m
  · subst e1
    go_wp2_with fail
    refine (wvLength_any P xs _ (HP.out.up HB2.out)).mono ?_
    rintro e w3 ⟨rfl, hb3⟩
    rw [HN.out]
    have HB3 := Lib.hid (Below.tr HB2.out hb3)
    clear hb3
    go_wp2_with fail
    refine (wvEqual_any P Q xs ys n _ (HP.out.up HB3.out) (HQ.out.up HB3.out) HN.out.symm HM.out.symm).mono ?_
    rintro e w4 ⟨rfl, hb4⟩
    have HB4 := Lib.hid (Below.tr HB3.out hb4)
    clear hb4
    go_wp2_with fail
    go_ret
    exact ⟨ret_bool (by rw [HE.out]; simp), HB4.out⟩
  · have f1 : (n == m) = false := by rw [beq_eq_false_iff_ne]; exact e1
    have E1 := Lib.hid e1
    clear e1
    go_wp2_with fail
    go_ret
    exact ⟨ret_bool (by rw [HE.out]; simp [E1.out]), HB2.out⟩
set_option maxRecDepth 100000 in
theorem weaves_any (v u : Value) (xs ys : List GRule) (w : World) (h : Sl RuleE w w.heap.size v xs) (h' : Sl RuleE w w.heap.size u ys) (hx : gramOk xs = true) (hy : gramOk ys = true) :
    Calls Tryz.prog 62 #[.agg #[v], .agg #[u]] w fun e w' => ∃ P Q, e = .returned (.tuple #[.pointer (some ⟨P, 0, none⟩), .pointer (some ⟨Q, 0, none⟩), .bool true]) ∧ WvP w' P xs ∧ WvP w' Q ys ∧ Below w.heap.size w w' := by
  have H := Lib.hid h
  have H' := Lib.hid h'
  obtain ⟨A, c, rfl, _⟩ := h
  obtain ⟨A', c', rfl, _⟩ := h'
  have hX := Lib.hid hx
  have hY := Lib.hid hy
  clear hx hy
  have HB := Lib.hid (fun o o' => ((Below.refl w.heap.size w).alloc (Nat.le_refl _) o).alloc (by simp) o')
  have k1 := (Blk.new w #[.slice A xs.length c] 26).alloc (Obj.cells #[.slice A' ys.length c'] 26)
  have k2 := Blk.new (w.alloc (Obj.cells #[.slice A xs.length c] 26)) #[.slice A' ys.length c'] 26
  rw [show (w.alloc (Obj.cells #[.slice A xs.length c] 26)).heap.size = w.heap.size + 1 by simp] at k2
  have K2 := Lib.hid k2
  have K1 := Lib.hid k1
  clear k1 k2
  go_enter Tryz.func62, Tryz.ntmps62
  go_wp2_with fail
  refine (newWeave_wvp _ xs _ (H.out.up (HB.out _ _)) hX.out).mono ?_
  rintro e w1 ⟨P, rfl, hP, hb1⟩
  have HP := Lib.hid hP
  have HB1 := Lib.hid (Below.tr (HB.out _ _) hb1)
  have k2 := K2.out.up hb1
  have c2 := Blk.cell (i := 0) (v := .slice A' ys.length c') k2 rfl
  have l2 := Blk.lt k2
  clear hb1 hP k2
  go_wp2_with fail
  refine (newWeave_wvp _ ys _ (H'.out.up HB1.out) hY.out).mono ?_
  rintro e w2 ⟨Q, rfl, hQ, hb2⟩
  have HQ := Lib.hid hQ
  have HP2 := Lib.hid (HP.out.up hb2)
  have HB2 := Lib.hid (Below.tr HB1.out hb2)
  clear hb2 hQ c2 l2
  go_wp2_with fail
  go_ret3
  exact ⟨P, Q, rfl, HP2.out, HQ.out, HB2.out⟩
set_option maxRecDepth 100000 in
theorem equalWords_any (v u : Value) (xs ys : List GRule) (w : World) (h : Sl RuleE w w.heap.size v xs) (h' : Sl RuleE w w.heap.size u ys) (hx : gramOk xs = true) (hy : gramOk ys = true) :
    Calls Tryz.prog 19 #[.agg #[v], .agg #[u]] w fun e w' => e = .returned (.tuple #[.bool (eqG xs ys), .int .i64 0]) ∧ Below w.heap.size w w' := by
  have H := Lib.hid h
  have H' := Lib.hid h'
  obtain ⟨A, c, rfl, _⟩ := h
  obtain ⟨A', c', rfl, _⟩ := h'
  have hX := Lib.hid hx
  have hY := Lib.hid hy
  clear hx hy
  have HB := Lib.hid (fun o o' => ((Below.refl w.heap.size w).alloc (Nat.le_refl _) o).alloc (by simp) o')
  go_enter Tryz.func19, Tryz.ntmps19
  go_wp2_with fail
  refine (weaves_any _ _ xs ys _ (H.out.up (HB.out _ _)) (H'.out.up (HB.out _ _)) hX.out hY.out).mono ?_
  rintro e w1 ⟨P, Q, rfl, hP, hQ, hb1⟩
  have HP := Lib.hid hP
  have HQ := Lib.hid hQ
  have HB1 := Lib.hid (Below.tr (HB.out _ _) hb1)
  clear hb1 hP hQ
  go_wp2_with fail
  refine (wvSame_any P Q xs ys _ HP.out HQ.out).mono ?_
  rintro e w2 ⟨rfl, hb2⟩
  have HB2 := Lib.hid (Below.tr HB1.out hb2)
  clear hb2
  go_wp2_with fail
  go_ret2
  exact ⟨rfl, HB2.out⟩
set_option maxRecDepth 100000 in
set_option maxHeartbeats 4000000 in
theorem implApplyEdits_any (vG vE : Value) (xs : List GRule) (es : List GEdit) (w : World) (hG : Sl RuleE w w.heap.size vG xs) (hE : Sl EditE w w.heap.size vE es) (hn : xs.length ≤ 1048576) (hs : ∀ e ∈ es, e.part.length ≤ 1048576 ∧ e.map.size ≤ maxLen) (htab : Lib.TabIs Tryz.prog w "math/bits.deBruijn64tab" .u8 deB64) :
    Calls Tryz.prog 18 #[.agg #[vG], vE] w (ARes (aesOut xs es) (aesN xs es) (aesCode xs es) w) := by
  have HG := Lib.hid hG
  have HE := Lib.hid hE
  have HS := Lib.hid hs
  have HT := Lib.hid htab
  clear htab
  obtain ⟨AG, cG, rfl, _⟩ := hG
  obtain ⟨AE, cE, rfl, hcE, hmE, _⟩ := hE
  unfold maxLen at hmE
  clear hs
  have b1 := (Below.refl w.heap.size w).alloc (Nat.le_refl _) (Obj.cells #[.slice AG xs.length cG] 26)
  have b2 := b1.alloc b1.size (Obj.cells #[.slice none 0 0] 26)
  have KP : Blk ((w.alloc (Obj.cells #[.slice AG xs.length cG] 26)).alloc (Obj.cells #[.slice none 0 0] 26)) w.heap.size #[.slice AG xs.length cG] 26 := (Blk.new w _ _).alloc _
  have KR : Blk ((w.alloc (Obj.cells #[.slice AG xs.length cG] 26)).alloc (Obj.cells #[.slice none 0 0] 26)) (w.heap.size + 1) #[.slice none 0 0] 26 := by
    have := (Blk.new (w.alloc (Obj.cells #[.slice AG xs.length cG] 26)) #[.slice none 0 0] 26)
    simpa [Blk] using this
  go_enter Tryz.func18, Tryz.ntmps18
  go_upto_region 1 with fail
  generalize ((w.alloc (Obj.cells #[.slice AG xs.length cG] 26)).alloc (Obj.cells #[.slice none 0 0] 26)) = w0 at *
  have KB := Lib.hid b2
  clear b1 b2
  have cP0_1 := Blk.cell (i := 0) (v := .slice AG xs.length cG) KP rfl
  have lP_2 := Blk.lt KP
  go_wp2_with fail
  refine (ValidGrammar_any _ xs _ (HG.out.up KB.out) (by omega)).mono ?_
  rintro e w1 ⟨rfl, hb_3⟩
  have z_w1 : w0.heap.size ≤ w1.heap.size := hb_3.size
  have KB_4 := Lib.hid (Below.tr KB.out hb_3)
  have KP_5 := Blk.up KP hb_3
  have KR_6 := Blk.up KR hb_3
  clear cP0_1 lP_2 KB KP KR
  cases hg : gramOk xs with
  | false =>
    have hc : aesCode xs es = 1 := by simp [aesCode, hg]
    have HQ := Lib.hid (show aesOut xs es = [] ∧ aesN xs es = 0 ∧ aesCode xs es = 1 by unfold aesOut aesN; rw [hc]; exact ⟨rfl, rfl, rfl⟩)
    clear hg hc
    have cR0_7 := Blk.cell (i := 0) (v := .slice none 0 0) KR_6 rfl
    have zR0_8 := Blk.frozen KR_6 0
    have lR_9 := Blk.lt KR_6
    go_wp2_with fail
    refine bodyPost_ret (v := .tuple #[.agg #[.slice none 0 0], .int .i64 0, .int .i64 1]) (by simp [results, Tryz.results18, go_sem, cR0_7]) rfl ⟨Below.setCell KB_4.out (show w.heap.size ≤ w.heap.size + 1 by omega) _, .slice none 0 0, by rw [HQ.out.1]; exact World.ownsRow_nil _ _ _ _, by rw [HQ.out.2.1, HQ.out.2.2]⟩
  | true =>
    have HGG := Lib.hid hg
    clear hg
    have cR0_10 := Blk.cell (i := 0) (v := .slice none 0 0) KR_6 rfl
    have lR_11 := Blk.lt KR_6
    go_wp2_with fail
    refine (areEdits_any _ es _ (HE.out.up KB_4.out) HS.out).mono ?_
    rintro e w2 ⟨rfl, hb_12⟩
    have z_w2 : w1.heap.size ≤ w2.heap.size := hb_12.size
    have KB_13 := Lib.hid (Below.tr KB_4.out hb_12)
    have KP_14 := Blk.up KP_5 hb_12
    have KR_15 := Blk.up KR_6 hb_12
    clear hb_3 cR0_10 lR_11 KB_4 KP_5 KR_6
    cases ha : es.all editOk with
    | false =>
      have hc : aesCode xs es = 1 := by simp [aesCode, ha]
      have HQ := Lib.hid (show aesOut xs es = [] ∧ aesN xs es = 0 ∧ aesCode xs es = 1 by unfold aesOut aesN; rw [hc]; exact ⟨rfl, rfl, rfl⟩)
      clear ha hc
      have cR0_16 := Blk.cell (i := 0) (v := .slice none 0 0) KR_15 rfl
      have zR0_17 := Blk.frozen KR_15 0
      have lR_18 := Blk.lt KR_15
      go_wp2_with fail
      refine bodyPost_ret (v := .tuple #[.agg #[.slice none 0 0], .int .i64 0, .int .i64 1]) (by simp [results, Tryz.results18, go_sem, cR0_16]) rfl ⟨Below.setCell KB_13.out (show w.heap.size ≤ w.heap.size + 1 by omega) _, .slice none 0 0, by rw [HQ.out.1]; exact World.ownsRow_nil _ _ _ _, by rw [HQ.out.2.1, HQ.out.2.2]⟩
    | true =>
      have HAA := Lib.hid ha
      clear ha
      by_cases hl : 60 < es.length
      · have hc : aesCode xs es = 2 := by unfold aesCode; rw [HGG.out, HAA.out, if_pos (by rfl), if_pos hl]
        have HQ := Lib.hid (show aesOut xs es = [] ∧ aesN xs es = 0 ∧ aesCode xs es = 2 by unfold aesOut aesN; rw [hc]; exact ⟨rfl, rfl, rfl⟩)
        have hli : (60 : Int) < (es.length : Int) := by omega
        clear hc
        have cR0_19 := Blk.cell (i := 0) (v := .slice none 0 0) KR_15 rfl
        have zR0_20 := Blk.frozen KR_15 0
        have lR_21 := Blk.lt KR_15
        go_wp2_with fail
        refine bodyPost_ret (v := .tuple #[.agg #[.slice none 0 0], .int .i64 0, .int .i64 2]) (by simp [results, Tryz.results18, go_sem, cR0_19]) rfl ⟨Below.setCell KB_13.out (show w.heap.size ≤ w.heap.size + 1 by omega) _, .slice none 0 0, by rw [HQ.out.1]; exact World.ownsRow_nil _ _ _ _, by rw [HQ.out.2.1, HQ.out.2.2]⟩
      · have hc : aesCode xs es = 0 := by unfold aesCode; rw [HGG.out, HAA.out, if_pos (by rfl), if_neg hl]
        have HQ := Lib.hid (show aesOut xs es = (foldE xs es).1 ∧ aesN xs es = (foldE xs es).2 ∧ aesCode xs es = 0 by unfold aesOut aesN; rw [hc]; exact ⟨rfl, rfl, rfl⟩)
        have hli : ¬ (60 : Int) < (es.length : Int) := by omega
        have hx4 := gram_len400 HGG.out
        clear hc
        have hs2 : w.heap.size + 2 ≤ w2.heap.size := Blk.lt KR_15
        have cR0_22 := Blk.cell (i := 0) (v := .slice none 0 0) KR_15 rfl
        have lR_23 := Blk.lt KR_15
        have cP0_24 := Blk.cell (i := 0) (v := .slice AG xs.length cG) KP_14 rfl
        have lP_25 := Blk.lt KP_14
        go_wp2_with fail
        refine (copied_any _ xs _ (HG.out.up KB_13.out) (by omega)).mono ?_
        rintro e w3 ⟨vN, rfl, ownN, hb_26⟩
        have z_w3 : w2.heap.size ≤ w3.heap.size := hb_26.size
        have KB_27 := Lib.hid (Below.tr KB_13.out hb_26)
        have KP_28 := Blk.up KP_14 hb_26
        have KR_29 := Blk.up KR_15 hb_26
        clear hb_12 cR0_22 lR_23 cP0_24 lP_25 KB_13 KP_14 KR_15
        obtain ⟨AN, cN, rfl, _⟩ := own_nil ownN
        have bZ := (Below.refl w3.heap.size w3).alloc (Nat.le_refl _) (Obj.cells #[.slice AN xs.length cN] 26)
        have KN := Blk.new w3 #[.slice AN xs.length cN] 26
        have KO := OwnRules.below ownN bZ
        have hsz := Below.size KB_27.out
        have lR := Blk.lt KR_29
        have lP := Blk.lt KP_28
        have KBZ := Lib.hid (Below.tr KB_27.out bZ)
        have KRZ := Lib.hid (Blk.up KR_29 bZ)
        have KOZ := Lib.hid KO
        have KNZ := Lib.hid KN
        clear ownN KO KN bZ
        go_wp2_with fail
        go_loopw [8, 32] (fun d i wx => ∃ (k : Nat) (A : Option Addr) (c : Nat), k ≤ es.length ∧ d = .int .i64 (foldE xs (es.take k)).2 ∧ i = .int .i64 k ∧ Hid (Blk wx w3.heap.size #[.slice A (foldE xs (es.take k)).1.length c] 26) ∧ Hid (Blk wx (w.heap.size + 1) #[.slice none 0 0] 26) ∧ Hid (OwnRules wx (w.heap.size + 2) (.slice A (foldE xs (es.take k)).1.length c) (foldE xs (es.take k)).1) ∧ Hid (Below w.heap.size w wx)) (fun _ i _ => es.length - (intOf i).toNat)
        case atStart => exact ⟨0, AN, cN, Nat.zero_le _, rfl, rfl, KNZ, KRZ, Lib.hid (ownsRow_more KOZ.out (by omega)), KBZ⟩
        case round =>
          obtain ⟨k, A, c, hk, rfl, rfl, HN, HR, HO, HB⟩ := hrel
          by_cases hlt : k < es.length
          · obtain ⟨_, _, hAE, _, _, hrow⟩ := HE.out.up HB.out
            injection hAE with hA1 hA2 hA3
            subst hA1 hA3
            obtain ⟨b, o, rfl, hbl, hcell⟩ := hrow.edit (fun _ h => h) hlt
            obtain ⟨e, he⟩ : ∃ e, es[k]? = some e := ⟨_, List.getElem?_eq_getElem hlt⟩
            obtain ⟨vR, hec, hR⟩ := hcell k e he
            have heok := List.all_eq_true.1 HAA.out e (List.mem_of_getElem? he)
            have HFT := Lib.hid (foldE_take (xs := xs) he)
            have hgo := foldE_ok (es.take k) HGG.out
            have hnum := foldE_num xs (es.take k)
            rw [List.length_take] at hnum
            obtain ⟨out, n, hon⟩ : ∃ out n, foldE xs (es.take k) = (out, n) := ⟨_, _, rfl⟩
            rw [hon] at HN HO HFT hgo hnum ⊢
            simp only at HN HO hgo hnum ⊢
            have HON := Lib.hid hon
            have HEC := Lib.hid hec
            have HRR := Lib.hid hR
            have HEO := Lib.hid heok
            have HGO := Lib.hid hgo
            have lN := HN.out.lt
            have lR2 := HR.out.lt
            have hbz := HB.out.size
            have hi : (k : Int) < (es.length : Int) := by omega
            have hse := HS.out e (List.mem_of_getElem? he)
            have ho4 := gram_len400 hgo
            obtain ⟨AR, cR, rfl, _⟩ := hR
            obtain ⟨x0, x1, x2, x3, x4, x5, xl⟩ := HEC.out
            have xN := HN.out.cell (i := 0) (v := .slice A out.length c) rfl
            clear hcell he hec heok hgo hon
            go_wp2_with fail
            refine (implApply_any _ _ out e _ (HO.out.sl.up (by repeat (first | exact Below.refl _ _ | (refine Below.alloc ?_ (by first | omega | (simp; done) | (simp; omega)) _) | (refine Below.setCell ?_ (by first | exact Nat.le_refl _ | (show _ ≤ _; omega) | (simp; done) | (simp; omega)) _) | refine below_drewN ?_ _ | refine Below.drew ?_))) ⟨_, rfl, HRR.out.up (by repeat (first | exact Below.refl _ _ | (refine Below.alloc ?_ (by first | omega | (simp; done) | (simp; omega)) _) | (refine Below.setCell ?_ (by first | exact Nat.le_refl _ | (show _ ≤ _; omega) | (simp; done) | (simp; omega)) _) | refine below_drewN ?_ _ | refine Below.drew ?_))⟩ (by omega) hse.1 hse.2 (tabB HT.out (by repeat (first | exact HB.out | (refine Below.alloc ?_ (by first | omega | (simp; done) | (simp; omega)) _) | (refine Below.setCell ?_ (by first | exact Nat.le_refl _ | (show _ ≤ _; omega) | (simp; done) | (simp; omega)) _) | refine below_drewN ?_ _ | refine Below.drew ?_)))).mono ?_
            rintro r w4 ⟨hb4', v4, own4', rfl⟩
            have hb4 := (Below.unalloc hb4').1
            have own4 : OwnRules w4 wr.heap.size v4 (applyOut out e) := ownsRow_more own4' (by simp)
            clear hb4' own4' x0 x1 x2 x3 x4 x5 xl xN
            obtain ⟨A4, c4, rfl, _⟩ := own_nil own4
            have HN4 := Lib.hid (HN.out.up hb4)
            have HR4 := Lib.hid (HR.out.up hb4)
            have HB4 := Lib.hid (Below.tr HB.out hb4)
            have HO4 := Lib.hid own4
            have bZ := hb4.alloc hb4.size (Obj.cells #[.slice A4 (applyOut out e).length c4] 26)
            have HN5 := Lib.hid (HN.out.up bZ)
            have HR5 := Lib.hid (HR.out.up bZ)
            have HO5 := Lib.hid (OwnRules.below HO.out bZ)
            have HB5 := Lib.hid (Below.tr HB.out bZ)
            have z4 := hb4.size
            clear hb4 own4 bZ HN HR HO
            by_cases hc : applyCode out e = 0
            · have HFT2 := Lib.hid (show foldE xs (es.take (k + 1)) = (applyOut out e, n + 1) by rw [HFT.out]; unfold stepE; rw [if_pos hc])
              rw [hc]
              clear hc
              have ws : IntKind.i64.wrap (n + 1) = n + 1 := IntWalk.i64_in _ (by omega)
              have xN := HN5.out.cell (i := 0) (v := .slice A out.length c) rfl
              have fN := HN5.out.frozen 0
              have lN5 : w3.heap.size < w4.heap.size := by omega
              go_wp2_with fail
              go_roundw
              case rel =>
                refine ⟨k + 1, A4, c4, by omega, by rw [HFT2.out], by go_num, ?_, ?_, ?_, ?_⟩
                · rw [HFT2.out]; exact Lib.hid ((HN4.out.set 0 _).alloc _)
                · exact Lib.hid ((HR4.out.other (p := ⟨w3.heap.size, 0, none⟩) (by show w.heap.size + 1 ≠ w3.heap.size; omega) _).alloc _)
                · rw [HFT2.out]; exact Lib.hid (World.ownsRow.alloc (ownsRow_more (ownsRow_setCell_below HO4.out (a := ⟨w3.heap.size, 0, none⟩) lN _) (by omega)) _)
                · exact Lib.hid ((Below.setCell HB4.out (by show w.heap.size ≤ w3.heap.size; omega) _).alloc (by show w.heap.size ≤ _; have := HB4.out.size; simp [World.setCell]; omega) _)
              case measure => simp [intOf]; omega
            · have HFT2 := Lib.hid (show foldE xs (es.take (k + 1)) = (out, n) by rw [HFT.out]; unfold stepE; rw [if_neg hc])
              have hcb : (applyCode out e == 0) = false := by simp [hc]
              go_wp2_with fail
              go_roundw
              case rel => exact ⟨k + 1, A, c, by omega, by rw [HFT2.out], by go_num, by rw [HFT2.out]; exact HN5, HR5, by rw [HFT2.out]; exact HO5, HB5⟩
              case measure => simp [intOf]; omega
          · have hkn : k = es.length := by omega
            subst hkn
            rw [List.take_length] at HN HO ⊢
            have xN := HN.out.cell (i := 0) (v := .slice A (foldE xs es).1.length c) rfl
            have lN := HN.out.lt
            have xR := HR.out.cell (i := 0) (v := .slice none 0 0) rfl
            have fR := HR.out.frozen 0
            have lR2 := HR.out.lt
            go_wp2_with fail
            refine bodyPost_ret (v := .tuple #[.agg #[.slice A (foldE xs es).1.length c], .int .i64 (foldE xs es).2, .int .i64 0]) (by simp [results, Tryz.results18, go_sem, xR]) rfl ⟨Below.setCell HB.out (by show w.heap.size ≤ w.heap.size + 1; omega) _, .slice A (foldE xs es).1.length c, ?_, by rw [HQ.out.2.1, HQ.out.2.2]⟩
            rw [HQ.out.1]
            exact ownsRow_more (ownsRow_setCell_below HO.out (a := ⟨w.heap.size + 1, 0, none⟩) (by show w.heap.size + 1 < w.heap.size + 2; omega) _) (by omega)
theorem OEds.setOther {w : World} {lo hi : Nat} {v u : Value} {es : List GEdit} {a : Addr} (h : OEds w lo hi v es) (ha : a.block < lo) : OEds (w.setCell a u) lo hi v es :=
  h.keep (fun g h1 _ => Below.heap_setCell w a u g (by omega)) (by simp [World.setCell])
theorem mrg_bad {xs : List GRule} {e f : GEdit} {c : Int} (h : mrgCode xs e f = c) (hc : c ≠ 0) : mrgOut xs e f = [] ∧ mrgCode xs e f = c := by
  refine ⟨?_, h⟩
  unfold mrgCode at h
  unfold mrgOut
  split
  · rename_i h1
    rw [if_pos h1] at h
    split
    · rename_i h2
      rw [if_pos h2] at h
      cases hm : mrgS xs e f with
      | none => rfl
      | some o => rw [hm] at h; exact absurd h.symm hc
    · rfl
  · rfl
theorem code_03 {xs : List GRule} {e : GEdit} (hg : gramOk xs = true) (he : editOk e = true) (hf : editFits e (gramLen xs) = true) : applyCode xs e = 0 ∨ applyCode xs e = 3 := by
  unfold applyCode
  rw [hg, he, hf]
  show editC _ = 0 ∨ editC _ = 3
  unfold editC
  split
  · exact .inl rfl
  · exact .inr rfl
end Go.Proofs.YtdacndamehiglaaGreatDoor
