import Derived.Test.YtbifijlenbibmaaGreatDoorM10
import Derived.Test.YtbifijlenbibmaaGreatDoorM6
import Derived.Test.YtbifijlenbibmaaGreatDoorM3
import Derived.Test.YtbifijlenbibmaaGreatDoorM5
import Derived.Test.YtbifijlenbibmaaGreatDoorM7
import Derived.Test.YtbifijlenbibmaaGreatDoorM8
namespace Go.Proofs.YtbifijlenbibmaaGreatDoor
open Go.RowKit

/-- 'append(s, "", "", "", "")'. -/
theorem push_word4 {W : World} {ops : Array Oper} {rest : List Oper} {o : Oper} {a : Act} {Q : Exit → Act → World → Prop} (hgd : o.guard = none) (s x : Operand)
    (ho : o.op = .call { callee := .builtin .append, args := #[s, x], argTypes := #[77, 77] }) {base : Nat} {v : Value} {l : List ByteArray}
    (hs : a.eval s = v) {N : Nat} (hx : a.eval x = .slice (some ⟨N, 0, none⟩) 4 4) (hN : N = W.heap.size) (hown : OwnW W base v l) (hlen : l.length ≤ 1099511627776) (hbase : base ≤ W.heap.size)
    (h : ∀ v' w', OwnW w' base v' (l ++ [⟨#[]⟩, ⟨#[]⟩, ⟨#[]⟩, ⟨#[]⟩]) → Below base W w' → wpList Tryz.prog ops Q rest (a.put o.dst v') w') :
    wpList Tryz.prog ops Q (o :: rest) a (W.alloc (.cells #[.string ⟨#[]⟩, .string ⟨#[]⟩, .string ⟨#[]⟩, .string ⟨#[]⟩] 9)) := by
  subst hN
  refine wpList_plain hgd fun _ hK => ?_
  obtain ⟨i0, hi0, hz0, hz1, hz2⟩ := info_parts Tryz.infoW
  obtain ⟨v', w', hrun, h2, h3, _, h5⟩ := run_append_own_at (P := Tryz.prog) (W.alloc (.cells #[.string ⟨#[]⟩, .string ⟨#[]⟩, .string ⟨#[]⟩, .string ⟨#[]⟩] 9)) base 77 o.type 9 i0 (.string ⟨#[]⟩) 1 16 Tryz.underlying77 hi0 hz0 hz1 hz2 rfl (by decide) v _ _ (World.ownsRow.alloc hown _) ⟨W.heap.size, 0, none⟩ 4 4 [.string ⟨#[]⟩, .string ⟨#[]⟩, .string ⟨#[]⟩, .string ⟨#[]⟩] rfl
    (fun j u hu => by
      have : (W.alloc (.cells #[.string ⟨#[]⟩, .string ⟨#[]⟩, .string ⟨#[]⟩, .string ⟨#[]⟩] 9)).cell? ⟨W.heap.size, j, none⟩ = (#[.string ⟨#[]⟩, .string ⟨#[]⟩, .string ⟨#[]⟩, .string ⟨#[]⟩] : Array Value)[j]? := cell_of_row _ _ _ _ 9 (0, 0) (heap_alloc_new W _)
      have ha : (⟨W.heap.size, 0, none⟩ : Addr).add j = ⟨W.heap.size, j, none⟩ := by unfold Addr.add; split <;> simp_all
      rw [ha, this]; simpa using hu) (by simp [Value.oneCell']) (by simp only [maxLen]; omega) (by omega) (by simp; omega)
  unfold Oper.wp execOp
  simp only [ho, resolve, invoke, builtin, Sem.run_bind, Sem.run_pure, Result.andThen_ok, List.map_toArray, List.map_cons, List.map_nil, hs, hx, hrun]
  refine hK _ _ (h v' w' (by unfold OwnW; simpa using h2) (((Below.refl base W).alloc hbase _).trans (below_of_grown h3 (by simp; omega) fun y hy => (World.ownsRow.lt hown y hy).1)))
set_option maxRecDepth 100000 in
theorem number_any (P g c k : Nat) (L : List ByteArray) (x : ByteArray) (w : World) (hP : Blk w P #[.slice (some ⟨g, 0, none⟩) L.length c] 77) (hc : w.cell? ⟨g, k, none⟩ = some (.string x)) (hk : k < L.length) (hx : x.size ≤ 1048576) (hv : RdVars w) :
    Calls Tryz.prog 74 #[.int .i64 k, .pointer (some ⟨P, 0, none⟩)] w fun e w' => Below w.heap.size w w' ∧ e = .returned (.int .i64 (pI x.data.toList)) := by
  have cP := Blk.cell (i := 0) (v := .slice (some ⟨g, 0, none⟩) L.length c) hP rfl
  have lP := Blk.lt hP
  have hkI : (k : Int) < (L.length : Int) := by omega
  have HV := Lib.hid hv
  clear hP hv
  go_enter Tryz.func74, Tryz.ntmps74
  go_wp2_with fail
  refine (parseInt_any x _ hx HV.out).mono ?_
  rintro e w1 ⟨hb1, ev, rfl⟩
  have HB := Lib.hid hb1
  go_wp2_with fail
  go_ret
  exact ⟨HB.out, rfl⟩
/-- What PlainGrammar answers. -/
def pgOk (x : ByteArray) : Bool := wordOk x && gramOk (plainG x)
def pgCode (x : ByteArray) : Int := if wordOk x then limCode (plainG x) else 1
def pgOut (x : ByteArray) : List GRule := if wordOk x then limOut (plainG x) else []
theorem pg_yes {x : ByteArray} (h : pgOk x = true) : pgCode x = 0 ∧ pgOut x = plainG x := by
  simp only [pgOk, Bool.and_eq_true] at h
  simp [pgCode, pgOut, h.1, limCode, limOut, h.2]
theorem pg_no {x : ByteArray} (h : pgOk x = false) : pgCode x = 1 ∨ pgCode x = 3 := by
  cases hw : wordOk x with
  | false => left; simp [pgCode, hw]
  | true =>
    right
    simp only [pgOk, hw, Bool.true_and] at h
    simp [pgCode, hw, limCode, h]
set_option maxRecDepth 100000 in
set_option maxHeartbeats 1000000 in
theorem implPlainG_any (x : ByteArray) (w : World) (hx : x.size ≤ 1048576) :
    Calls Tryz.prog 77 #[.string x] w (GRes (pgOut x) (pgCode x) w) := by
  have hxm : x.size ≤ maxLen := by unfold maxLen; omega
  have HXM := Lib.hid hxm
  clear hxm
  cases hw : wordOk x with
  | false =>
    have HW := Lib.hid hw
    have HQ := Lib.hid (show pgOut x = [] ∧ pgCode x = 1 by simp [pgOut, pgCode, hw])
    clear hw
    go_enter Tryz.func77, Tryz.ntmps77
    go_wp2_with fail
    refine (ValidWord_any x _ HXM.out).mono ?_
    rintro e w1 ⟨rfl, rfl⟩
    rw [HW.out]
    go_wp2_with fail
    refine bodyPost_ret (v := .tuple #[.agg #[.slice none 0 0], .int .i64 1]) (by simp [results, Tryz.results77, go_sem]) rfl ⟨(by repeat (first | exact Below.refl _ _ | (refine Below.alloc ?_ (by first | omega | (simp; done) | (simp; omega)) _) | (refine Below.setCell ?_ (by first | exact Nat.le_refl _ | (show _ ≤ _; omega) | (simp; done) | (simp; omega)) _) | refine below_drewN ?_ _ | refine Below.drew ?_)), .slice none 0 0, by rw [HQ.out.1]; exact World.ownsRow_nil _ _ _ _, by rw [HQ.out.2]⟩
  | true =>
    have HW := Lib.hid hw
    have HQ := Lib.hid (show pgOut x = limOut (plainG x) ∧ pgCode x = limCode (plainG x) by simp [pgOut, pgCode, hw])
    clear hw
    go_enter Tryz.func77, Tryz.ntmps77
    go_wp2_with fail
    refine (ValidWord_any x _ HXM.out).mono ?_
    rintro e w1 ⟨rfl, rfl⟩
    rw [HW.out]
    go_wp2_with fail
    refine (plain_any x _ HW.out).mono ?_
    rintro e w1 ⟨hb1, v1, own1, rfl⟩
    have KR : Blk w1 w.heap.size #[.slice none 0 0] 30 := by have := (Below.unalloc hb1).2; simpa [Blk] using this
    replace hb1 := (Below.unalloc hb1).1
    have hpl := plainG_len x
    obtain ⟨A1, c1, rfl, _⟩ := own_nil own1
    have HO1 := Lib.hid own1
    have HKR := Lib.hid KR
    have HB1 := Lib.hid hb1
    clear own1 KR hb1
    go_wp2_with fail
    refine (orLimit_any _ _ (plainG x) _ HO1.out (by omega)).mono ?_
    rintro e w2 ⟨hb2, v2, own2, rfl⟩
    obtain ⟨A2, c2, rfl, _⟩ := own_nil own2
    have HO2 := Lib.hid own2
    have KR2 := HKR.out.up hb2
    have HB2 := Lib.hid (Below.tr HB1.out hb2)
    have r0 := Blk.cell (i := 0) (v := .slice none 0 0) KR2 rfl
    have q0 := Blk.frozen KR2 0
    have lR := Blk.lt KR2
    clear own2 hb2 KR2
    go_wp2_with fail
    refine bodyPost_ret (v := .tuple #[.agg #[.slice A2 (limOut (plainG x)).length c2], .int .i64 (limCode (plainG x))]) (by simp [results, Tryz.results77, go_sem, r0]) rfl ⟨Below.setCell HB2.out (Nat.le_refl _) _, _, ?_, by rw [HQ.out.2]⟩
    rw [HQ.out.1]
    exact ownsRow_more (ownsRow_setCell_below HO2.out (a := ⟨w.heap.size, 0, none⟩) (by simp) _) (by simp)
end Go.Proofs.YtbifijlenbibmaaGreatDoor

namespace Go.Proofs.YtbifijlenbibmaaGreatDoor

theorem lens_app (xs ys : List GRule) : lens (xs ++ ys) = ys.foldl lensStep (lens xs) := by simp [lens, List.foldl_append]
/-- Rules that are right are right up to each place. -/
theorem lens_pre {xs ys : List GRule} {l : List Int} (h : lens (xs ++ ys) = some l) : ∃ l1 t, lens xs = some l1 ∧ l = l1 ++ t := by
  rw [lens_app] at h
  cases hx : lens xs with
  | none => rw [hx, lens_none] at h; cases h
  | some l1 =>
    rw [hx] at h
    suffices H : ∀ (ys : List GRule) (a o : List Int), ys.foldl lensStep (some a) = some o → ∃ t, o = a ++ t by
      obtain ⟨t, ht⟩ := H ys l1 l h
      exact ⟨l1, t, rfl, ht⟩
    intro ys
    induction ys with
    | nil => intro a o h; simp at h; exact ⟨[], by simp [h]⟩
    | cons y ys ih =>
      intro a o h
      rw [List.foldl_cons] at h
      cases hs : lensStep (some a) y with
      | none => rw [hs, lens_none] at h; cases h
      | some b =>
        rw [hs] at h
        obtain ⟨t, rfl⟩ := ih b o h
        simp only [lensStep, Option.bind_some] at hs
        split at hs
        · cases hs; exact ⟨_, by rw [List.append_assoc]⟩
        · cases hs
theorem getR_app {xs ys : List GRule} {r : Nat} (h : r < xs.length) : getR (xs ++ ys) r = getR xs r := by
  unfold getR; rw [List.getD_eq_getElem?_getD, List.getElem?_append_left h, List.getD_eq_getElem?_getD]
theorem wordR_app {xs ys : List GRule} {ls : List Int} (h : lens xs = some ls) : ∀ (f r : Nat), r < xs.length → wordR (xs ++ ys) f r = wordR xs f r := by
  intro f
  induction f with
  | zero => intro r _; rfl
  | succ f ih =>
    intro r hr
    rw [wordR, wordR, getR_app hr]
    cases hp : (getR xs r).pair with
    | false => rfl
    | true =>
      obtain ⟨q1, q2, q3, q4, q5⟩ := lens_pair h hr hp
      rw [if_pos rfl, if_pos rfl, ih _ (by omega), ih _ (by omega)]
theorem W1_appL {xs ys : List GRule} {ls : List Int} (h : lens xs = some ls) {r : Nat} (hr : r < xs.length) : W1 (xs ++ ys) r = W1 xs r := wordR_app h _ _ hr
theorem getR_new (xs : List GRule) (x : GRule) : getR (xs ++ [x]) xs.length = x := by
  unfold getR; rw [List.getD_eq_getElem?_getD, List.getElem?_append_right (Nat.le_refl _), Nat.sub_self]; rfl
theorem W1_snoc {xs : List GRule} {l : List Int} {a b : Nat} (h : lens (xs ++ [pairR a b]) = some l) (ha : a < xs.length) (hb : b < xs.length) : W1 (xs ++ [pairR a b]) xs.length = W1 xs a ++ W1 xs b := by
  obtain ⟨l1, t, h1, _⟩ := lens_pre h
  have hp : (getR (xs ++ [pairR a b]) xs.length).pair = true := by rw [getR_new]; exact pairR_pair _ _
  rw [W1_pair h (by simp) hp, getR_new]
  show W1 (xs ++ [pairR a b]) (Int.toNat (a : Int)) ++ W1 (xs ++ [pairR a b]) (Int.toNat (b : Int)) = _
  rw [Int.toNat_natCast, Int.toNat_natCast, W1_appL h1 ha, W1_appL h1 hb]
end Go.Proofs.YtbifijlenbibmaaGreatDoor

namespace Go.Proofs.YtbifijlenbibmaaGreatDoor
open Go.RowKit

theorem getD_at {x : ByteArray} {i : Nat} (h : i < x.size) : x.data.getD i 0 = x[i] := by
  rw [Array.getD_eq_getD_getElem?, Array.getElem?_eq_getElem h]; rfl
theorem W1_letsG {x : ByteArray} {c : UInt8} {r : Nat} (hr : r < (letsG x 4).length) (h : (letsG x 4)[r] = letR c) : W1 (letsG x 4) r = [c] := by
  have hg : getR (letsG x 4) r = letR c := by unfold getR; rw [List.getD_eq_getElem?_getD, List.getElem?_eq_getElem hr, h]; rfl
  rw [W1_let (by rw [hg]; rfl), hg]
  rfl
theorem W1_idx {x : ByteArray} (hw : wordOk x = true) {i : Nat} (h : i < x.size) : W1 (letsG x 4) (idxG x x[i]) = [x[i]] := by
  have hl := idxG_lt hw h
  refine W1_letsG hl ?_
  unfold idxG at hl ⊢
  exact List.getElem_idxOf hl
/-- The word of the grammar of a plain word. -/
theorem plainG_word {x : ByteArray} (hw : wordOk x = true) (hg : gramOk (plainG x) = true) : wordG (plainG x) = x.data.toList := by
  obtain ⟨_, ls, hl⟩ := gram_lens hg
  have hsz : x.data.toList.length = x.size := by rw [Array.length_toList]; rfl
  by_cases h0 : x.size = 0
  · have he : x.data.toList = [] := List.eq_nil_of_length_eq_zero (by omega)
    have hc : ∀ c, hasC x c = false := fun c => by unfold hasC; rw [he]; rfl
    have h1 : letsG x 4 = [] := by unfold letsG; simp [hc]
    rw [plainG, h0, plainK_zero, h1, he]; rfl
  · have hpre : ∀ m, m ≤ x.size - 1 → ∃ l, lens (plainK x m) = some l := by
      intro m hm
      have hpp : plainG x = plainK x m ++ ((List.range (x.size - 1)).drop m).map (pairAt x) := by
        unfold plainG plainK
        rw [List.append_assoc, ← List.map_append]
        congr 2
        have := List.take_append_drop m (List.range (x.size - 1))
        rw [List.take_range, Nat.min_eq_left hm] at this
        exact this.symm
      rw [hpp] at hl
      obtain ⟨l1, t, h1, _⟩ := lens_pre hl
      exact ⟨l1, h1⟩
    have main : ∀ m, m ≤ x.size - 1 → W1 (plainK x m) (if m = 0 then idxG x (x.data.getD 0 0) else (letsG x 4).length + m - 1) = x.data.toList.take (m + 1) := by
      intro m
      induction m with
      | zero =>
        intro _
        rw [if_pos rfl, plainK_zero, getD_at (by omega), W1_idx hw (by omega)]
        have h1 : (0 : Nat) < x.data.toList.length := by omega
        have h2 : x.data.toList[0] = x[0] := by simp; rfl
        rw [List.take_add_one, List.getElem?_eq_getElem h1, h2]
        simp
      | succ m ih =>
        intro hm
        have ih1 := ih (by omega)
        obtain ⟨l, hlm⟩ := hpre m (by omega)
        obtain ⟨l2, hlm2⟩ := hpre (m + 1) hm
        have hpl := plainK_len x m
        have hi0 := idxG_lt hw (i := 0) (by omega)
        have hi1 := idxG_lt hw (i := m + 1) (by omega)
        rw [plainK_succ] at hlm2 ⊢
        have hpa : pairAt x m = pairR (((if m = 0 then idxG x (x.data.getD 0 0) else (letsG x 4).length + m - 1 : Nat)) : Int) ((idxG x x[m + 1] : Nat) : Int) := by
          unfold pairAt
          rw [getD_at (show m + 1 < x.size by omega)]
          congr 1
          split
          · rfl
          · rfl
        rw [hpa] at hlm2 ⊢
        obtain ⟨ρ, hρ⟩ : ∃ ρ, (if m = 0 then idxG x (x.data.getD 0 0) else (letsG x 4).length + m - 1) = ρ := ⟨_, rfl⟩
        have hρl : ρ < (plainK x m).length := by
          rw [← hρ, hpl]
          split
          · rw [getD_at (show 0 < x.size by omega)]; omega
          · omega
        rw [hρ] at hlm2 ih1 ⊢
        rw [if_neg (show ¬ m + 1 = 0 by omega), show (letsG x 4).length + (m + 1) - 1 = (plainK x m).length by omega]
        rw [W1_snoc hlm2 hρl (by omega), ih1]
        have hlz : ∃ l0, lens (letsG x 4) = some l0 := by have := hpre 0 (by omega); rw [plainK_zero] at this; exact this
        obtain ⟨l0, hl0⟩ := hlz
        have hidx : W1 (plainK x m) (idxG x x[m + 1]) = [x[m + 1]] := by
          unfold plainK
          rw [W1_appL hl0 hi1, W1_idx hw (by omega)]
        rw [hidx]
        have h1 : m + 1 < x.data.toList.length := by omega
        have h2 : x.data.toList[m + 1] = x[m + 1] := by simp; rfl
        rw [List.take_add_one (i := m + 1), List.getElem?_eq_getElem h1, h2]
        rfl
    have hfin := main (x.size - 1) (Nat.le_refl _)
    have hpl := plainK_len x (x.size - 1)
    have hi0 := idxG_lt hw (i := 0) (by omega)
    have hlen : 0 < (plainG x).length := by unfold plainG; omega
    rw [wordG_pos hlen]
    have htk : x.data.toList.take (x.size - 1 + 1) = x.data.toList := List.take_of_length_le (by omega)
    rw [htk] at hfin
    by_cases h1 : x.size = 1
    · have hone : x.data.toList = [x[0]] := by
        have h2 : x.data.toList[0]'(by omega) = x[0] := by simp; rfl
        obtain ⟨y, hy⟩ := List.length_eq_one_iff.1 (show x.data.toList.length = 1 by omega)
        rw [← h2]; simp [hy]
      have hP : plainG x = letsG x 4 := by unfold plainG; rw [h1]; exact plainK_zero x
      rw [hP, hone]
      have hr : (letsG x 4).length - 1 < (letsG x 4).length := by omega
      refine W1_letsG hr ?_
      obtain ⟨k, hk, hkk⟩ := letsG_ok x _ (List.getElem_mem hr)
      have hmem := List.getElem_mem hr
      unfold letsG at hmem
      obtain ⟨j, hj, hjj⟩ := List.mem_map.1 hmem
      have hc := (List.mem_filter.1 hj).2
      unfold hasC at hc
      rw [hone, List.contains_iff_mem] at hc
      simp at hc
      unfold letsG
      rw [← hjj, hc]
    · rw [if_neg (by omega)] at hfin
      have : (plainG x).length - 1 = (letsG x 4).length + (x.size - 1) - 1 := by unfold plainG; omega
      rw [this]
      exact hfin
theorem plainG_ge {x : ByteArray} (hw : wordOk x = true) : x.size ≤ (plainG x).length := by
  unfold plainG
  rw [plainK_len]
  rcases Nat.eq_zero_or_pos x.size with h | h
  · omega
  · have := idxG_lt hw h; omega
end Go.Proofs.YtbifijlenbibmaaGreatDoor

namespace Go.Proofs.YtbifijlenbibmaaGreatDoor
open Go.RowKit

theorem kf_word (X : ByteArray) : ∀ m, kf X m ≠ 0 → ∃ k : Nat, kf X m = (k : Int) ∧ 1 ≤ k ∧ k < m ∧ (⟨(wordE (k : Int)).toArray⟩ : ByteArray) = X := by
  intro m
  induction m with
  | zero => intro h; exact absurd rfl h
  | succ m ih =>
    intro h
    rw [kf] at h ⊢
    split at h
    · rename_i hh
      rw [if_pos hh]
      exact ⟨m, rfl, hh.1, by omega, hh.2⟩
    · rename_i hh
      rw [if_neg hh]
      obtain ⟨k, h1, h2, h3, h4⟩ := ih h
      exact ⟨k, h1, h2, by omega, h4⟩
theorem kf_eq {X : ByteArray} {m : Nat} (h1 : 1 ≤ m) (h8 : m < 8) (h : (⟨(wordE (m : Int)).toArray⟩ : ByteArray) = X) : kf X 8 = (m : Int) := by
  subst h
  have : m = 1 ∨ m = 2 ∨ m = 3 ∨ m = 4 ∨ m = 5 ∨ m = 6 ∨ m = 7 := by omega
  rcases this with rfl | rfl | rfl | rfl | rfl | rfl | rfl <;> decide
def eB : ByteArray := ⟨#[]⟩
/-- The edit that the program tries. -/
def rdMk (κ : Int) (L : List ByteArray) : GEdit :=
  ⟨κ, pI (L.getD 1 eB).data.toList, if usesJ κ then pI (L.getD 2 eB).data.toList else 0, if usesK κ then pI (L.getD 3 eB).data.toList else 0, if κ == 1 then plainG (L.getD 2 eB) else [], if κ == 7 then L.getD 3 eB else eB⟩
def rdTry (κ : Int) (L : List ByteArray) (t : ByteArray) : Option GEdit :=
  if (κ == 1) && !pgOk (L.getD 2 eB) then none
  else if editOk (rdMk κ L) && (etV (rdMk κ L) == t.data.toList) then some (rdMk κ L) else none
def rdImp (t : ByteArray) : Option GEdit :=
  if kf ((splB 32 t).headD eB) 8 = 0 then none else rdTry (kf ((splB 32 t).headD eB) 8) (splB 32 t) t
/-! what stands in the pieces -/
theorem dec_no32 (n : Int) : ∀ c ∈ dec n, c ≠ 32 := by
  intro c hc e
  have h := (decD_num n.toNat).2.1
  have := List.all_eq_true.1 h c hc
  subst e
  simp [isDgt] at this
theorem wordE_no32 {k : Int} (h : inR k 1 7 = true) : ∀ c ∈ wordE k, c ≠ 32 := by
  rcases kind7 h with rfl | rfl | rfl | rfl | rfl | rfl | rfl <;> decide
theorem letters_no32 {l : List UInt8} (h : l.all letOk = true) : ∀ c ∈ l, c ≠ 32 := by
  intro c hc e
  have := List.all_eq_true.1 h c hc
  subst e
  simp [letOk] at this
theorem wordOk_all {x : ByteArray} (h : wordOk x = true) : x.data.toList.all letOk = true := by
  unfold wordOk at h
  simp only [Bool.and_eq_true] at h
  exact h.2
/-- The fields of an edit's text. -/
def flds (e : GEdit) : List (List UInt8) := [wordE e.kind, dec e.i] ++ (if usesJ e.kind then [dec e.j] else []) ++ (if usesK e.kind then [dec e.k] else []) ++ (if e.kind == 1 then [wordG e.part] else []) ++ (if e.kind == 7 then [e.map.data.toList] else [])
theorem etL_flds {e : GEdit} (h : inR e.kind 1 7 = true) : etL e = glue 32 (flds e) := by
  unfold etL flds
  rcases combos h with ⟨h1, h2, h3, h4⟩ | ⟨h1, h2, h3, h4⟩ | ⟨h1, h2, h3, h4⟩ | ⟨h1, h2, h3, h4⟩ <;> simp [h1, h2, h3, h4, glue]
theorem flds_no32 {e : GEdit} (h : editOk e = true) : ∀ u ∈ flds e, ∀ c ∈ u, c ≠ 32 := by
  obtain ⟨hk, _, _, _, hg, _⟩ := editOk_nums h
  have hw : (wordG e.part).all letOk = true := by
    obtain ⟨_, ls, hl⟩ := gram_lens hg
    by_cases h0 : 0 < e.part.length
    · rw [wordG_pos h0]; exact W1_ok hl _ (by omega)
    · have : e.part = [] := List.eq_nil_of_length_eq_zero (by omega)
      rw [this]; rfl
  have hm : e.kind == 7 → e.map.data.toList.all letOk = true := by
    intro h7
    unfold editOk at h
    simp only [Bool.and_eq_true] at h
    have := h.2
    rw [if_pos h7, Bool.and_eq_true] at this
    exact wordOk_all this.2
  intro u hu
  unfold flds at hu
  simp only [List.mem_append, List.mem_cons, List.not_mem_nil, or_false] at hu
  rcases hu with ((((rfl | rfl) | hu) | hu) | hu) | hu
  · exact wordE_no32 hk
  · exact dec_no32 _
  · split at hu
    · simp at hu; subst hu; exact dec_no32 _
    · simp at hu
  · split at hu
    · simp at hu; subst hu; exact dec_no32 _
    · simp at hu
  · split at hu
    · simp at hu; subst hu; exact letters_no32 hw
    · simp at hu
  · split at hu
    · rename_i h7
      simp at hu; subst hu; exact letters_no32 (hm h7)
    · simp at hu
end Go.Proofs.YtbifijlenbibmaaGreatDoor

namespace Go.Proofs.YtbifijlenbibmaaGreatDoor
open Go.RowKit

theorem shapes {κ : Int} (h : inR κ 1 7 = true) :
    (usesJ κ = false ∧ usesK κ = false ∧ (κ == 1) = true ∧ (κ == 7) = false ∧ (usesS κ).data.toList = [73, 80]) ∨ (usesJ κ = true ∧ usesK κ = false ∧ (κ == 1) = false ∧ (κ == 7) = false ∧ (usesS κ).data.toList = [73, 74]) ∨
    (usesJ κ = true ∧ usesK κ = true ∧ (κ == 1) = false ∧ (κ == 7) = false ∧ (usesS κ).data.toList = [73, 74, 75]) ∨ (usesJ κ = true ∧ usesK κ = false ∧ (κ == 1) = false ∧ (κ == 7) = true ∧ (usesS κ).data.toList = [73, 74, 77]) := by
  rcases kind7 h with rfl | rfl | rfl | rfl | rfl | rfl | rfl <;> decide
theorem len3 {α : Type} {l : List α} (h : l.length = 3) : ∃ a b c, l = [a, b, c] := by
  match l, h with
  | [a, b, c], _ => exact ⟨a, b, c, rfl⟩
theorem len4 {α : Type} {l : List α} (h : l.length = 4) : ∃ a b c d, l = [a, b, c, d] := by
  match l, h with
  | [a, b, c, d], _ => exact ⟨a, b, c, d, rfl⟩
section
variable {κ : Int} {x1 x2 x3 : ByteArray} {e : GEdit}
theorem run_IP : rdRun [73, 80] [x1, x2] ⟨κ, 0, 0, 0, [], ⟨#[]⟩⟩ = some e ↔ (rdOk x1.data.toList = true ∧ wordOk x2 = true ∧ x2.size ≤ 400) ∧ e = ⟨κ, numV x1.data.toList, 0, 0, plainG x2, ⟨#[]⟩⟩ := by
  cases h1 : rdOk x1.data.toList <;> cases h2 : wordOk x2 <;> by_cases h3 : x2.size ≤ 400 <;> simp [rdRun, rdStep, h1, h2, h3, eq_comm]
theorem run_IJ : rdRun [73, 74] [x1, x2] ⟨κ, 0, 0, 0, [], ⟨#[]⟩⟩ = some e ↔ (rdOk x1.data.toList = true ∧ rdOk x2.data.toList = true) ∧ e = ⟨κ, numV x1.data.toList, numV x2.data.toList, 0, [], ⟨#[]⟩⟩ := by
  cases h1 : rdOk x1.data.toList <;> cases h2 : rdOk x2.data.toList <;> simp [rdRun, rdStep, h1, h2, eq_comm]
theorem run_IJK : rdRun [73, 74, 75] [x1, x2, x3] ⟨κ, 0, 0, 0, [], ⟨#[]⟩⟩ = some e ↔ (rdOk x1.data.toList = true ∧ rdOk x2.data.toList = true ∧ rdOk x3.data.toList = true) ∧ e = ⟨κ, numV x1.data.toList, numV x2.data.toList, numV x3.data.toList, [], ⟨#[]⟩⟩ := by
  cases h1 : rdOk x1.data.toList <;> cases h2 : rdOk x2.data.toList <;> cases h3 : rdOk x3.data.toList <;> simp [rdRun, rdStep, h1, h2, h3, eq_comm]
theorem run_IJM : rdRun [73, 74, 77] [x1, x2, x3] ⟨κ, 0, 0, 0, [], ⟨#[]⟩⟩ = some e ↔ (rdOk x1.data.toList = true ∧ rdOk x2.data.toList = true) ∧ e = ⟨κ, numV x1.data.toList, numV x2.data.toList, 0, [], x3⟩ := by
  cases h1 : rdOk x1.data.toList <;> cases h2 : rdOk x2.data.toList <;> simp [rdRun, rdStep, h1, h2, eq_comm]
end
theorem splB_lists (b : UInt8) (t : ByteArray) : (splB b t).map (·.data.toList) = spl b [] t.data.toList := by
  unfold splB
  rw [List.map_map]
  conv => rhs; rw [← List.map_id (spl b [] t.data.toList)]
  apply List.map_congr_left
  intro u _
  rfl
/-- An edit whose fields stand in the text. -/
theorem et_of_flds {e : GEdit} {t : ByteArray} (h : editOk e = true) (hf : flds e = (splB 32 t).map (·.data.toList)) (hw : (wordG e.part).length ≤ 2000) : etV e = t.data.toList := by
  unfold etV
  rw [if_pos h]
  have : (e.kind == 1 && decide (2000 < (wordG e.part).length)) = false := by simp; intro _; exact hw
  rw [this, etL_flds (editOk_nums h).1, hf, splB_lists, glue_spl]
  simp
/-- The pieces of the text of an edit. -/
theorem flds_of_et {e : GEdit} {t : ByteArray} (h : editOk e = true) (ht : etV e = t.data.toList) (h0 : t.data.toList ≠ []) : (splB 32 t).map (·.data.toList) = flds e := by
  unfold etV at ht
  rw [if_pos h] at ht
  split at ht
  · exact absurd ht.symm h0
  · rw [splB_lists, ← ht, etL_flds (editOk_nums h).1, spl_glue _ (by simp [flds]) (flds_no32 h)]
theorem bytes_eq {x : ByteArray} {u : List UInt8} (h : (⟨u.toArray⟩ : ByteArray) = x) : u = x.data.toList := by rw [← h]
theorem rdSpec_imp {t : ByteArray} {e : GEdit} (h : rdSpec t = some e) : rdImp t = some e := by
  unfold rdSpec at h
  unfold rdImp
  generalize hκ : kf ((splB 32 t).headD ⟨#[]⟩) 8 = κ at h
  have hκ' : kf ((splB 32 t).headD eB) 8 = κ := hκ
  rw [hκ']
  unfold rdK at h
  split at h
  · cases h
  · rename_i hk0
    rw [if_neg hk0]
    split at h
    · cases h
    · rename_i hlen
      have hlen : (splB 32 t).length = (usesS κ).size + 1 := by simpa using hlen
      obtain ⟨k, hk1, hk2, hk3, hk4⟩ := kf_word ((splB 32 t).headD eB) 8 (by rw [hκ']; exact hk0)
      rw [hκ'] at hk1
      have hin : inR κ 1 7 = true := by rw [hk1]; simp [inR]; omega
      rw [← hk1] at hk4
      split at h
      · cases h
      · rename_i e' hrun
        split at h
        · rename_i hok
          cases h
          have huse : (usesS κ).size = (usesS κ).data.toList.length := by rw [Array.length_toList]; rfl
          rcases shapes hin with ⟨s1, s2, s3, s4, s5⟩ | ⟨s1, s2, s3, s4, s5⟩ | ⟨s1, s2, s3, s4, s5⟩ | ⟨s1, s2, s3, s4, s5⟩
          · rw [huse, s5] at hlen
            obtain ⟨X, x1, x2, hL⟩ := len3 hlen
            rw [hL] at hk4 hrun ⊢
            rw [s5] at hrun
            obtain ⟨⟨r1, r2, r3⟩, rfl⟩ := run_IP.1 hrun
            have hg : gramOk (plainG x2) = true := (editOk_nums hok).2.2.2.2.1
            have hmk : rdMk κ [X, x1, x2] = ⟨κ, numV x1.data.toList, 0, 0, plainG x2, ⟨#[]⟩⟩ := by
              unfold rdMk
              rw [s1, s2, s3, s4]
              simp [(pI_num r1).1, eB]
            have hpg : pgOk x2 = true := by simp [pgOk, r2, hg]
            have hwg := plainG_word r2 hg
            have het := et_of_flds (t := t) hok (by rw [hL]; simp [flds, s1, s2, s3, s4, hwg, (rdOk_dec r1).1, bytes_eq hk4]) (by rw [hwg, Array.length_toList]; show x2.size ≤ 2000; omega)
            unfold rdTry
            rw [hmk, hok, het, s3]
            simp [hpg]
          · rw [huse, s5] at hlen
            obtain ⟨X, x1, x2, hL⟩ := len3 hlen
            rw [hL] at hk4 hrun ⊢
            rw [s5] at hrun
            obtain ⟨⟨r1, r2⟩, rfl⟩ := run_IJ.1 hrun
            have hmk : rdMk κ [X, x1, x2] = ⟨κ, numV x1.data.toList, numV x2.data.toList, 0, [], ⟨#[]⟩⟩ := by
              unfold rdMk
              rw [s1, s2, s3, s4]
              simp [(pI_num r1).1, (pI_num r2).1, eB]
            have het := et_of_flds (t := t) hok (by rw [hL]; simp [flds, s1, s2, s3, s4, (rdOk_dec r1).1, (rdOk_dec r2).1, bytes_eq hk4]) (by simp [wordG])
            unfold rdTry
            rw [hmk, hok, het, s3]
            simp
          · rw [huse, s5] at hlen
            obtain ⟨X, x1, x2, x3, hL⟩ := len4 hlen
            rw [hL] at hk4 hrun ⊢
            rw [s5] at hrun
            obtain ⟨⟨r1, r2, r3⟩, rfl⟩ := run_IJK.1 hrun
            have hmk : rdMk κ [X, x1, x2, x3] = ⟨κ, numV x1.data.toList, numV x2.data.toList, numV x3.data.toList, [], ⟨#[]⟩⟩ := by
              unfold rdMk
              rw [s1, s2, s3, s4]
              simp [(pI_num r1).1, (pI_num r2).1, (pI_num r3).1, eB]
            have het := et_of_flds (t := t) hok (by rw [hL]; simp [flds, s1, s2, s3, s4, (rdOk_dec r1).1, (rdOk_dec r2).1, (rdOk_dec r3).1, bytes_eq hk4]) (by simp [wordG])
            unfold rdTry
            rw [hmk, hok, het, s3]
            simp
          · rw [huse, s5] at hlen
            obtain ⟨X, x1, x2, x3, hL⟩ := len4 hlen
            rw [hL] at hk4 hrun ⊢
            rw [s5] at hrun
            obtain ⟨⟨r1, r2⟩, rfl⟩ := run_IJM.1 hrun
            have hmk : rdMk κ [X, x1, x2, x3] = ⟨κ, numV x1.data.toList, numV x2.data.toList, 0, [], x3⟩ := by
              unfold rdMk
              rw [s1, s2, s3, s4]
              simp [(pI_num r1).1, (pI_num r2).1]
            have het := et_of_flds (t := t) hok (by rw [hL]; simp [flds, s1, s2, s3, s4, (rdOk_dec r1).1, (rdOk_dec r2).1, bytes_eq hk4]) (by simp [wordG])
            unfold rdTry
            rw [hmk, hok, het, s3]
            simp
        · cases h
theorem rd_num {x : ByteArray} {n : Int} (hn : n = pI x.data.toList) (h0 : 0 ≤ n ∧ n ≤ 1000000000000000) (hx : x.data.toList = dec n) : rdOk x.data.toList = true ∧ numV x.data.toList = pI x.data.toList := by
  obtain ⟨a1, a2⟩ := dec_rdOk h0.1 h0.2
  rw [hx, ← hx]
  rw [← hx] at a1 a2
  exact ⟨a1, by rw [a2, hn]⟩
theorem rdImp_spec {t : ByteArray} {e : GEdit} (h : rdImp t = some e) : rdSpec t = some e := by
  unfold rdImp at h
  unfold rdSpec
  generalize hκ : kf ((splB 32 t).headD ⟨#[]⟩) 8 = κ
  have hκ' : kf ((splB 32 t).headD eB) 8 = κ := hκ
  rw [hκ'] at h
  unfold rdK
  split at h
  · cases h
  · rename_i hk0
    rw [if_neg hk0]
    obtain ⟨k, hk1, hk2, hk3, hk4⟩ := kf_word ((splB 32 t).headD eB) 8 (by rw [hκ']; exact hk0)
    rw [hκ'] at hk1
    have hin : inR κ 1 7 = true := by rw [hk1]; simp [inR]; omega
    rw [← hk1] at hk4
    have huse : (usesS κ).size = (usesS κ).data.toList.length := by rw [Array.length_toList]; rfl
    unfold rdTry at h
    split at h
    · cases h
    · rename_i hpg
      split at h
      · rename_i hboth
        cases h
        rw [Bool.and_eq_true] at hboth
        obtain ⟨hok, het⟩ := hboth
        have het : etV (rdMk κ (splB 32 t)) = t.data.toList := by simpa using het
        have ht0 : t.data.toList ≠ [] := by
          intro h0
          have hX : (splB 32 t).headD eB = eB := by unfold splB; rw [h0]; rfl
          rw [hX] at hk4
          have := bytes_eq hk4
          rcases kind7 hin with rfl | rfl | rfl | rfl | rfl | rfl | rfl <;> simp [wordE, eB] at this
        have hfl := flds_of_et hok het ht0
        obtain ⟨_, ni, nj, nq, ng, _⟩ := editOk_nums hok
        rcases shapes hin with ⟨s1, s2, s3, s4, s5⟩ | ⟨s1, s2, s3, s4, s5⟩ | ⟨s1, s2, s3, s4, s5⟩ | ⟨s1, s2, s3, s4, s5⟩
        · have hlen : (splB 32 t).length = 3 := by
            have := congrArg List.length hfl
            simpa [flds, rdMk, s1, s2, s3, s4] using this
          obtain ⟨X, x1, x2, hL⟩ := len3 hlen
          rw [hL] at hfl hok ni ng hpg ⊢
          have hmk : rdMk κ [X, x1, x2] = ⟨κ, pI x1.data.toList, 0, 0, plainG x2, ⟨#[]⟩⟩ := by
            unfold rdMk
            rw [s1, s2, s3, s4]
            simp [eB]
          rw [hmk] at hfl hok ni ng ⊢
          rw [s3] at hpg
          have hpg : pgOk x2 = true := by simpa using hpg
          simp only [pgOk, Bool.and_eq_true] at hpg
          simp [flds, s1, s2, s3, s4] at hfl
          obtain ⟨r1, r1'⟩ := rd_num rfl ni hfl.2.1
          have hsz := plainG_ge hpg.1
          have h400 := (gram_lens hpg.2).1
          rw [if_neg (by rw [huse, s5]; simp), s5]
          show (match rdRun [73, 80] [x1, x2] _ with | none => none | some e => if editOk e = true then some e else none) = _
          rw [run_IP.2 ⟨⟨r1, hpg.1, by omega⟩, rfl⟩]
          simp only [r1', hok, if_true]
        · have hlen : (splB 32 t).length = 3 := by
            have := congrArg List.length hfl
            simpa [flds, rdMk, s1, s2, s3, s4] using this
          obtain ⟨X, x1, x2, hL⟩ := len3 hlen
          rw [hL] at hfl hok ni nj ⊢
          have hmk : rdMk κ [X, x1, x2] = ⟨κ, pI x1.data.toList, pI x2.data.toList, 0, [], ⟨#[]⟩⟩ := by
            unfold rdMk
            rw [s1, s2, s3, s4]
            simp [eB]
          rw [hmk] at hfl hok ni nj ⊢
          simp [flds, s1, s2, s3, s4] at hfl
          obtain ⟨r1, r1'⟩ := rd_num rfl ni hfl.2.1
          obtain ⟨r2, r2'⟩ := rd_num rfl nj hfl.2.2
          rw [if_neg (by rw [huse, s5]; simp), s5]
          show (match rdRun [73, 74] [x1, x2] _ with | none => none | some e => if editOk e = true then some e else none) = _
          rw [run_IJ.2 ⟨⟨r1, r2⟩, rfl⟩]
          simp only [r1', r2', hok, if_true]
        · have hlen : (splB 32 t).length = 4 := by
            have := congrArg List.length hfl
            simpa [flds, rdMk, s1, s2, s3, s4] using this
          obtain ⟨X, x1, x2, x3, hL⟩ := len4 hlen
          rw [hL] at hfl hok ni nj nq ⊢
          have hmk : rdMk κ [X, x1, x2, x3] = ⟨κ, pI x1.data.toList, pI x2.data.toList, pI x3.data.toList, [], ⟨#[]⟩⟩ := by
            unfold rdMk
            rw [s1, s2, s3, s4]
            simp [eB]
          rw [hmk] at hfl hok ni nj nq ⊢
          simp [flds, s1, s2, s3, s4] at hfl
          obtain ⟨r1, r1'⟩ := rd_num rfl ni hfl.2.1
          obtain ⟨r2, r2'⟩ := rd_num rfl nj hfl.2.2.1
          obtain ⟨r3, r3'⟩ := rd_num rfl nq hfl.2.2.2
          rw [if_neg (by rw [huse, s5]; simp), s5]
          show (match rdRun [73, 74, 75] [x1, x2, x3] _ with | none => none | some e => if editOk e = true then some e else none) = _
          rw [run_IJK.2 ⟨⟨r1, r2, r3⟩, rfl⟩]
          simp only [r1', r2', r3', hok, if_true]
        · have hlen : (splB 32 t).length = 4 := by
            have := congrArg List.length hfl
            simpa [flds, rdMk, s1, s2, s3, s4] using this
          obtain ⟨X, x1, x2, x3, hL⟩ := len4 hlen
          rw [hL] at hfl hok ni nj ⊢
          have hmk : rdMk κ [X, x1, x2, x3] = ⟨κ, pI x1.data.toList, pI x2.data.toList, 0, [], x3⟩ := by
            unfold rdMk
            rw [s1, s2, s3, s4]
            simp
          rw [hmk] at hfl hok ni nj ⊢
          simp [flds, s1, s2, s3, s4] at hfl
          obtain ⟨r1, r1'⟩ := rd_num rfl ni hfl.2.1
          obtain ⟨r2, r2'⟩ := rd_num rfl nj hfl.2.2
          rw [if_neg (by rw [huse, s5]; simp), s5]
          show (match rdRun [73, 74, 77] [x1, x2, x3] _ with | none => none | some e => if editOk e = true then some e else none) = _
          rw [run_IJM.2 ⟨⟨r1, r2⟩, rfl⟩]
          simp only [r1', r2', hok, if_true]
      · cases h
/-- Both read the same. -/
theorem rd_eq (t : ByteArray) : rdImp t = rdSpec t := by
  cases h : rdSpec t with
  | some e => exact rdSpec_imp h
  | none =>
    cases h2 : rdImp t with
    | none => rfl
    | some e => rw [rdImp_spec h2] at h; cases h
end Go.Proofs.YtbifijlenbibmaaGreatDoor

namespace Go.Proofs.YtbifijlenbibmaaGreatDoor
open Go.RowKit

def chgOK (e : GEdit) : Prop := e.kind = 5 ∨ (e.kind = 6 ∧ 0 ≤ e.k ∧ e.k ≤ 1000000000000000) ∨ (e.kind = 7 ∧ wordOk e.map = true ∧ e.map.size = 4)
set_option maxRecDepth 100000 in
set_option maxHeartbeats 1000000 in
theorem changed_any (E b K : Nat) (e : GEdit) (vR : Value) (xs : List GRule) (ls : List Int) (s : Option (List GRule)) (w : World) (hK : Blk w K #[.pointer (some ⟨b, 0, none⟩)] 197) (hA : Asm w b xs ls s) (hE : Blk w E (editCells e vR) 46)
    (hk : chgOK e) (hl : lens xs = some ls) (hn : xs.length ≤ 1048576) (htab : Lib.TabIs Tryz.prog w "math/bits.deBruijn64tab" .u8 deB64) :
    Calls Tryz.prog 151 #[.func (.func 155) #[] #[.pointer (some ⟨E, 0, none⟩)], .pointer (some ⟨K, 0, none⟩), .pointer (some ⟨E, 0, none⟩)] w
      fun e' w' => NoRes e' ∧ But b w w' ∧ Asm w' b xs ls (addO s ((limO (partG xs ls e.i e.j)).bind (chgO e))) := by
  have HA := Lib.hid hA
  have HL := Lib.hid hl
  have HT := Lib.hid htab
  have HK := Lib.hid hk
  have hlt := hA.lt
  have x1 := hE.cell (i := 1) (v := .int .i64 e.i) rfl
  have x2 := hE.cell (i := 2) (v := .int .i64 e.j) rfl
  have xK := hK.cell (i := 0) (v := .pointer (some ⟨b, 0, none⟩)) rfl
  have hE0 := Lib.hid hE
  have hK0 := Lib.hid hK
  clear hA hl htab hk hE hK
  go_enter Tryz.func151, Tryz.ntmps151
  go_wp2_with fail
  refine (asmPart_any b xs ls s e.i e.j _ HA.out HL.out hn).mono ?_
  rintro e1 w1 ⟨hb1, v1, own1, rfl⟩
  have hE1 := Lib.hid (hE0.out.up hb1)
  have hK1 := Lib.hid (hK0.out.up hb1)
  have HA1 := Lib.hid (HA.out.up hb1)
  have HT1 := Lib.hid (tabB HT.out hb1)
  have HO1 := Lib.hid own1
  have HB1 := Lib.hid hb1
  have lim1 := limOut_len (partG xs ls e.i e.j)
  obtain ⟨A1, k1, rfl, _⟩ := own_nil own1
  have z1 := hb1.size
  clear HA hE0 hK0 HT own1 hb1 x1 x2 xK
  cases hg : gramOk (partG xs ls e.i e.j) with
  | true =>
    have q1 : limOut (partG xs ls e.i e.j) = partG xs ls e.i e.j := by unfold limOut; rw [hg]; rfl
    have q2 : limCode (partG xs ls e.i e.j) = 0 := by unfold limCode; rw [hg]; rfl
    have q3 : limO (partG xs ls e.i e.j) = some (partG xs ls e.i e.j) := by unfold limO; rw [hg]; rfl
    have Q3 := Lib.hid q3
    have HG := Lib.hid hg
    rw [q1] at HO1 lim1
    rw [q1, q2]
    clear q1 q2 q3 hg
    generalize hpq : partG xs ls e.i e.j = p at *
    have HPQ := Lib.hid hpq
    clear hpq
    have lK := hK1.out.lt
    have hHO := HO1.out
    go_wp2_with fail
    refine (chg_any E e vR _ p _ (hE1.out.alloc _) (sl_up hHO.sl (Nat.le_refl _) (by repeat (first | exact Below.refl _ _ | (refine Below.alloc ?_ (by first | omega | (simp; done) | (simp; omega)) _) | (refine Below.setCell ?_ (by first | exact Nat.le_refl _ | (show _ ≤ _; omega) | (simp; done) | (simp; omega)) _) | refine below_drewN ?_ _ | refine Below.drew ?_))) HG.out HK.out (tabB HT1.out (by repeat (first | exact Below.refl _ _ | (refine Below.alloc ?_ (by first | omega | (simp; done) | (simp; omega)) _) | (refine Below.setCell ?_ (by first | exact Nat.le_refl _ | (show _ ≤ _; omega) | (simp; done) | (simp; omega)) _) | refine below_drewN ?_ _ | refine Below.drew ?_)))).mono ?_
    rintro e2 w2 ⟨hb2, v2, out, c2, own2, hc2, rfl⟩
    obtain ⟨hb3, K4⟩ := Below.unalloc hb2
    have z3 := hb3.size
    have hK2 := Lib.hid (hK1.out.up hb3)
    have HS3 := Lib.hid (fun (v : Value) => Below.setCell hb3 (show w1.heap.size ≤ (⟨w1.heap.size, 0, none⟩ : Addr).block from Nat.le_refl _) v)
    have HO2 := Lib.hid own2
    have HC2 := Lib.hid hc2
    have xK := hK2.out.cell (i := 0) (v := .pointer (some ⟨b, 0, none⟩)) rfl
    have c4 := Blk.cell (i := 0) (v := .slice A1 p.length k1) K4 rfl
    have f4 := Blk.frozen K4 0
    have l4 := Blk.lt K4
    have lK2 := hK2.out.lt
    obtain ⟨A2, k2, rfl, _⟩ := own_nil own2
    have hne : K ≠ w1.heap.size := by omega
    clear hHO hb2 hb3 own2 hc2 hK1 hE1
    go_wp2_with fail
    refine (asmAdd_any b xs ls s (chgO e p) (.slice A2 out.length k2) out c2 _ (HA1.out.up (HS3.out _)) ?_ HC2.out).mono ?_
    · exact own_slS (ownsRow_setCell_below HO2.out (a := ⟨w1.heap.size, 0, none⟩) (by simp) _) (by simp; omega)
    rintro e3 w3 ⟨rfl, hb4, ha4⟩
    go_wp2
    go_end0
    rw [HPQ.out, Q3.out]
    exact ⟨rfl, (But.of (Below.tr HB1.out (HS3.out _))).trans hb4, ha4⟩
  | false =>
    have q1 : limOut (partG xs ls e.i e.j) = [] := by unfold limOut; rw [hg]; rfl
    have q2 : limCode (partG xs ls e.i e.j) = 3 := by unfold limCode; rw [hg]; rfl
    have q3 : limO (partG xs ls e.i e.j) = none := by unfold limO; rw [hg]; rfl
    have Q3 := Lib.hid q3
    rw [q1] at HO1
    rw [q1, q2]
    clear q1 q2 q3 hg lim1
    have xK := hK1.out.cell (i := 0) (v := .pointer (some ⟨b, 0, none⟩)) rfl
    have lK := hK1.out.lt
    go_wp2_with fail
    refine (asmAdd_any b xs ls s none (.slice A1 0 k1) [] 3 _ (HA1.out.up (by repeat (first | exact Below.refl _ _ | (refine Below.alloc ?_ (by first | omega | (simp; done) | (simp; omega)) _) | (refine Below.setCell ?_ (by first | exact Nat.le_refl _ | (show _ ≤ _; omega) | (simp; done) | (simp; omega)) _) | refine below_drewN ?_ _ | refine Below.drew ?_))) ?_ (.inr ⟨rfl, rfl⟩)).mono ?_
    · exact own_slS (World.ownsRow.alloc HO1.out _) hlt
    rintro e3 w3 ⟨rfl, hb4, ha4⟩
    go_wp2
    go_end0
    rw [Q3.out]
    exact ⟨rfl, (But.of (HB1.out.alloc z1 _)).trans hb4, ha4⟩
end Go.Proofs.YtbifijlenbibmaaGreatDoor

namespace Go.Proofs.YtbifijlenbibmaaGreatDoor
open Go.RowKit

/-- The state of an assembly of an edit: E the edit, R the result's cell, K the pointer's cell, b the assembly. -/
structure EdJ (w0 : World) (E R K b : Nat) (e : GEdit) (vR : Value) (xs : List GRule) (ls : List Int) (s : Option (List GRule)) (W : World) : Prop where
  bel : Below w0.heap.size w0 W
  hE : Blk W E (editCells e vR) 46
  hR : Blk W R #[.slice none 0 0] 30
  hK : Blk W K #[.pointer (some ⟨b, 0, none⟩)] 197
  asm : Asm W b xs ls s
  neE : E ≠ b
  neR : R ≠ b
  neK : K ≠ b
  le : w0.heap.size ≤ b
  ltR : w0.heap.size ≤ R
  neKR : K ≠ R
theorem EdJ.next {w0 W W' : World} {E R K b : Nat} {e : GEdit} {vR : Value} {xs : List GRule} {ls : List Int} {s s' : Option (List GRule)} (h : EdJ w0 E R K b e vR xs ls s W) (hb : But b W W') (ha : Asm W' b xs ls s') : EdJ w0 E R K b e vR xs ls s' W' :=
  ⟨h.bel.trans (hb.below h.le h.bel.size), h.hE.but hb h.neE, h.hR.but hb h.neR, h.hK.but hb h.neK, ha, h.neE, h.neR, h.neK, h.le, h.ltR, h.neKR⟩

def editS (xs : List GRule) (ls : List Int) (n : Int) (e : GEdit) : Option (List GRule) :=
  if e.kind = 1 then addO (addO (addO (some []) (limO (partG xs ls 0 e.i))) (some e.part)) (limO (partG xs ls e.i n))
  else if e.kind = 2 then addO (addO (some []) (limO (partG xs ls 0 e.i))) (limO (partG xs ls e.j n))
  else if e.kind = 3 then addO (addO (addO (some []) (limO (partG xs ls 0 e.k))) (limO (partG xs ls e.i e.j))) (limO (partG xs ls e.k n))
  else if e.kind = 4 then
    if e.k ≤ e.i then addO (addO (addO (addO (some []) (limO (partG xs ls 0 e.k))) (limO (partG xs ls e.i e.j))) (limO (partG xs ls e.k e.i))) (limO (partG xs ls e.j n))
    else addO (addO (addO (addO (some []) (limO (partG xs ls 0 e.i))) (limO (partG xs ls e.j e.k))) (limO (partG xs ls e.i e.j))) (limO (partG xs ls e.k n))
  else addO (addO (addO (some []) (limO (partG xs ls 0 e.i))) ((limO (partG xs ls e.i e.j)).bind (chgO e))) (limO (partG xs ls e.j n))
def editG (s : Option (List GRule)) : List GRule := match s with | some o => trimG o | none => []
def editC (s : Option (List GRule)) : Int := match s with | some _ => 0 | none => 3
def kindOk (e : GEdit) : Prop := e.kind = 1 ∨ e.kind = 2 ∨ e.kind = 3 ∨ e.kind = 4 ∨ chgOK e
theorem asm_start {W : World} {b : Nat} {vG vL : Value} {xs : List GRule} {ls : List Int} (h : Blk W b #[vG, vL, .slice none 0 0, .int .i64 0] 199) (hg : Sl RuleE W b vG xs) (hl : Sl IntE W b vL ls) : Asm W b xs ls (some []) :=
  ⟨vG, vL, .slice none 0 0, [], 0, h, hg, hl, World.ownsRow_nil _ _ _ _, .inl ⟨rfl, rfl, rfl⟩, rfl⟩
theorem edJ_start1 {w w1 : World} {E R : Nat} {e : GEdit} {vR vG vL : Value} {xs : List GRule} {ls : List Int} (hb : Below w.heap.size w w1) (hE : Blk w1 E (editCells e vR) 46) (hR : Blk w1 R #[.slice none 0 0] 30)
    (hg : Sl RuleE w1 w1.heap.size vG xs) (hl : Sl IntE w1 w1.heap.size vL ls) (hr : w.heap.size ≤ R) :
    EdJ w E R (w1.heap.size + 1) w1.heap.size e vR xs ls (some []) ((w1.alloc (.cells #[vG, vL, .slice none 0 0, .int .i64 0] 199)).alloc (.cells #[.pointer (some ⟨w1.heap.size, 0, none⟩)] 197)).drew := by
  have h1 := hE.lt; have h2 := hR.lt; have h3 := hb.size
  have h4 : Blk (w1.alloc (.cells #[vG, vL, .slice none 0 0, .int .i64 0] 199)) w1.heap.size _ _ := Blk.new _ _ _
  refine ⟨((hb.alloc h3 _).alloc (by simp; omega) _).drew, (hE.alloc _).alloc _, (hR.alloc _).alloc _, ?_, asm_start (h4.alloc _) ?_ ?_, by omega, by omega, by omega, h3, hr, by omega⟩
  · have := Blk.new (w1.alloc (.cells #[vG, vL, .slice none 0 0, .int .i64 0] 199)) #[.pointer (some ⟨w1.heap.size, 0, none⟩)] 197
    exact Blk.drew (by simpa [Blk] using this)
  · exact hg.below (((Below.refl _ _).alloc (Nat.le_refl _) _).alloc (by simp) _).drew
  · exact hl.below (((Below.refl _ _).alloc (Nat.le_refl _) _).alloc (by simp) _).drew
theorem edJ_start2 {w w1 : World} {E R : Nat} {e : GEdit} {vR vG vL : Value} {xs : List GRule} {ls : List Int} (hb : Below w.heap.size w w1) (hE : Blk w1 E (editCells e vR) 46) (hR : Blk w1 R #[.slice none 0 0] 30)
    (hg : Sl RuleE w1 w1.heap.size vG xs) (hl : Sl IntE w1 w1.heap.size vL ls) (hr : w.heap.size ≤ R) :
    EdJ w E R w1.heap.size (w1.heap.size + 1) e vR xs ls (some []) ((w1.alloc (.cells #[.pointer (some ⟨w1.heap.size + 1, 0, none⟩)] 197)).alloc (.cells #[vG, vL, .slice none 0 0, .int .i64 0] 199)).drew := by
  have h1 := hE.lt; have h2 := hR.lt; have h3 := hb.size
  have h4 : Blk (w1.alloc (.cells #[.pointer (some ⟨w1.heap.size + 1, 0, none⟩)] 197)) w1.heap.size _ _ := Blk.new _ _ _
  have hbz := (((Below.refl w1.heap.size w1).alloc (Nat.le_refl _) (.cells #[.pointer (some ⟨w1.heap.size + 1, 0, none⟩)] 197)).alloc (by simp) (.cells #[vG, vL, .slice none 0 0, .int .i64 0] 199)).drew
  refine ⟨((hb.alloc h3 _).alloc (by simp; omega) _).drew, (hE.alloc _).alloc _, (hR.alloc _).alloc _, h4.alloc _, asm_start ?_ ((hg.below hbz).le (by omega)) ((hl.below hbz).le (by omega)), by omega, by omega, by omega, by omega, hr, by omega⟩
  have := Blk.new (w1.alloc (.cells #[.pointer (some ⟨w1.heap.size + 1, 0, none⟩)] 197)) #[vG, vL, .slice none 0 0, .int .i64 0] 199
  exact Blk.drew (by simpa [Blk] using this)
set_option maxRecDepth 100000 in
set_option maxHeartbeats 4000000 in
theorem edited_any (vG vR : Value) (xs : List GRule) (ls : List Int) (e : GEdit) (w : World) (hG : Sl RuleE w w.heap.size vG xs) (hR : Sl RuleE w w.heap.size vR e.part) (hl : lens xs = some ls) (hn : xs.length ≤ 1048576) (hk : kindOk e) (hp : gramOk e.part = true) (htab : Lib.TabIs Tryz.prog w "math/bits.deBruijn64tab" .u8 deB64) :
    Calls Tryz.prog 90 #[.agg #[vG], .agg (editCells e vR)] w (GRes (editG (editS xs ls (lastI ls) e)) (editC (editS xs ls (lastI ls) e)) w) := by
  have HG := Lib.hid hG
  have HR := Lib.hid hR
  have HL := Lib.hid hl
  have HK := Lib.hid hk
  have HP := Lib.hid hp
  have HT := Lib.hid htab
  obtain ⟨AG, cG, rfl, _⟩ := hG
  obtain ⟨AR, cR, rfl, _⟩ := hR
  clear hl hk hp htab
  unfold editCells
  go_enter Tryz.func90, Tryz.ntmps90
  go_wp2_with fail
  refine (lengths_any _ xs _ (HG.out.up (by repeat (first | exact Below.refl _ _ | (refine Below.alloc ?_ (by first | omega | (simp; done) | (simp; omega)) _) | (refine Below.setCell ?_ (by first | exact Nat.le_refl _ | (show _ ≤ _; omega) | (simp; done) | (simp; omega)) _) | refine below_drewN ?_ _ | refine Below.drew ?_))) (by omega)).mono ?_
  rintro e1 w1 ⟨hb, (⟨ls', v1, h1, rfl, h2⟩ | ⟨h1, rfl⟩)⟩
  case inr => rw [HL.out] at h1; cases h1
  have h3 : ls' = ls := by rw [HL.out] at h1; exact (Option.some.inj h1).symm
  subst h3
  obtain ⟨hb1, K2⟩ := Below.unalloc hb
  obtain ⟨hb2, K1⟩ := Below.unalloc hb1
  obtain ⟨hb3, K0⟩ := Below.unalloc hb2
  have KP : Blk w1 w.heap.size #[.slice AG xs.length cG] 30 := K0
  have KE : Blk w1 (w.heap.size + 1) (editCells e (.slice AR e.part.length cR)) 46 := by simpa [Blk, editCells] using K1
  have KR : Blk w1 (w.heap.size + 2) #[.slice none 0 0] 30 := by simpa [Blk] using K2
  have HL1 := Lib.hid (OwnInts.sl h2)
  have HB := Lib.hid hb3
  have HE1 := Lib.hid KE
  have HR1 := Lib.hid KR
  obtain ⟨AL, cL, rfl, _⟩ := OwnInts.sl h2
  have HI := Lib.hid h2
  clear hb hb1 hb2 hb3 K0 K1 K2 KE KR h1 h2
  have cP := KP.cell (i := 0) (v := .slice AG xs.length cG) rfl
  have lP := KP.lt
  have lR1 := HR1.out.lt
  go_wp2_with fail
  go_cut [8, 9] (fun s8 s9 wx => ∃ K b : Nat, s8 = .int .i64 (lastI ls') ∧ s9 = .pointer (some ⟨K, 0, none⟩) ∧ EdJ w (w.heap.size + 1) (w.heap.size + 2) K b e (.slice AR e.part.length cR) xs ls' (some []) wx)
  case first =>
    go_region_law (go_simp; go_at_call 86; (refine (last_any _ ls' _ ?_).mono ?_); (first | (exact HL1.out.up (by repeat (first | exact Below.refl _ _ | (refine Below.alloc ?_ (by first | omega | (simp; done) | (simp; omega)) _) | (refine Below.setCell ?_ (by first | exact Nat.le_refl _ | (show _ ≤ _; omega) | (simp; done) | (simp; omega)) _) | refine below_drewN ?_ _ | refine Below.drew ?_))) | skip); rintro e2 w2 ⟨rfl, rfl⟩)
    all_goals
      go_wp2_with fail
      go_meet
      first
        | exact ⟨_, _, rfl, rfl, edJ_start1 HB.out HE1.out HR1.out (HG.out.up HB.out) HL1.out (by omega)⟩
        | exact ⟨_, _, rfl, rfl, edJ_start2 HB.out HE1.out HR1.out (HG.out.up HB.out) HL1.out (by omega)⟩
  -- GEN
  case rest =>
    obtain ⟨K, b, rfl, rfl, hj⟩ := hcut
    have HJ1 := Lib.hid hj
    clear hj cP lP lR1 KP HE1 HR1 HL1 HI HB
    rcases HK.out with hk | hk | hk | hk | hkk
    · have x0 := HJ1.out.hE.cell (i := 0) (v := .int .i64 1) (by rw [← hk]; rfl)
      have HKE := Lib.hid hk
      clear hk
      have aK := HJ1.out.hK.cell (i := 0) (v := .pointer (some ⟨b, 0, none⟩)) rfl
      have aE1 := HJ1.out.hE.cell (i := 1) (v := .int .i64 e.i) rfl
      have aB := HJ1.out.asm.lt
      have aE := HJ1.out.hE.lt
      have aKl := HJ1.out.hK.lt
      go_wp2_with fail
      refine (asmKeep_any b xs ls' _ 0 (e.i) _ HJ1.out.asm HL.out hn).mono ?_
      rintro e6 w6 ⟨rfl, hb1, ha1⟩
      have HJ2 := Lib.hid (HJ1.out.next hb1 ha1)
      clear aK aB aE aKl aE1 hb1 ha1 HJ1
      have aK := HJ2.out.hK.cell (i := 0) (v := .pointer (some ⟨b, 0, none⟩)) rfl
      have aE4 := HJ2.out.hE.cell (i := 4) (v := .slice AR e.part.length cR) rfl
      have aB := HJ2.out.asm.lt
      go_wp2_with fail
      refine (asmAdd_any b xs ls' _ (some e.part) (.slice AR e.part.length cR) e.part 0 _ HJ2.out.asm (sl_ne (HR.out.below HJ2.out.bel) HJ2.out.le aB) (.inl ⟨rfl, rfl, HP.out⟩)).mono ?_
      rintro e7 w7 ⟨rfl, hb2, ha2⟩
      have HJ3 := Lib.hid (HJ2.out.next hb2 ha2)
      clear aK aE4 aB hb2 ha2 HJ2
      have aK := HJ3.out.hK.cell (i := 0) (v := .pointer (some ⟨b, 0, none⟩)) rfl
      have aE1 := HJ3.out.hE.cell (i := 1) (v := .int .i64 e.i) rfl
      have aB := HJ3.out.asm.lt
      have aE := HJ3.out.hE.lt
      have aKl := HJ3.out.hK.lt
      go_wp2_with fail
      refine (asmKeep_any b xs ls' _ e.i (lastI ls') _ HJ3.out.asm HL.out hn).mono ?_
      rintro e8 w8 ⟨rfl, hb3, ha3⟩
      have HJ4 := Lib.hid (HJ3.out.next hb3 ha3)
      clear aK aB aE aKl aE1 hb3 ha3 HJ3
      have hQ : editS xs ls' (lastI ls') e = addO (addO (addO (some []) (limO (partG xs ls' 0 (e.i)))) (some e.part)) (limO (partG xs ls' e.i (lastI ls'))) := by unfold editS; rw [if_pos HKE.out]
      have HQ := Lib.hid hQ
      clear hQ
      obtain ⟨vG9, vL9, vO, out, c9, hB9, hG9, hL9, hO9, hs9, hok9⟩ := HJ4.out.asm
      obtain ⟨AO, kO, rfl, _⟩ := own_nil hO9
      have aK := HJ4.out.hK.cell (i := 0) (v := .pointer (some ⟨b, 0, none⟩)) rfl
      have aR := HJ4.out.hR.cell (i := 0) (v := .slice none 0 0) rfl
      have aRf := HJ4.out.hR.frozen 0
      have aRl := HJ4.out.hR.lt
      have HO9 := Lib.hid hO9
      have HBE := Lib.hid HJ4.out.bel
      have HRR := Lib.hid HJ4.out.hR
      have hle := HJ4.out.le
      have HOK := Lib.hid hok9
      have aBl := hB9.lt
      have nKR : K ≠ w.heap.size + 1 + 1 := HJ4.out.neKR
      have nbR : b ≠ w.heap.size + 1 + 1 := fun h => HJ4.out.neR h.symm
      clear hG9 hL9 hO9
      rcases hs9 with ⟨hs, rfl, _⟩ | ⟨hs, rfl⟩
      · have HS := Lib.hid hs
        have a2 := hB9.cell (i := 2) (v := .slice AO out.length kO) rfl
        have a3 := hB9.cell (i := 3) (v := .int .i64 0) rfl
        clear hs hB9 hok9 HJ4
        go_wp2_with fail
        refine (trimmed_any _ out _ HO9.out.sl (by have := gram_len400 HOK.out; omega) (okAll_lens (gram_lens HOK.out).2.choose_spec)).mono ?_
        rintro e10 w10 ⟨hb10, v10, own10, rfl⟩
        have HR10 := Lib.hid (HRR.out.up hb10)
        have HB10 := Lib.hid (Below.tr HBE.out hb10)
        have HO10 := Lib.hid own10
        obtain ⟨A10, k10, rfl, _⟩ := own_nil own10
        have b0 := HR10.out.cell (i := 0) (v := .slice none 0 0) rfl
        have b1 := HR10.out.frozen 0
        have b2 := HR10.out.lt
        have hzz := HBE.out.size
        clear hb10 own10 a2 a3 aK aR aRf
        go_wp2_with fail
        refine bodyPost_ret (v := .tuple #[.agg #[.slice A10 (trimG out).length k10], .int .i64 0]) (by simp [results, Tryz.results90, go_sem, b0]) rfl ⟨HB10.out.setCell (by show w.heap.size ≤ w.heap.size + 2; omega) _, .slice A10 (trimG out).length k10, ?_, by rw [HQ.out, HS.out]; rfl⟩
        rw [HQ.out, HS.out]
        exact ownsRow_more (ownsRow_setCell_below HO10.out (a := ⟨w.heap.size + 2, 0, none⟩) aRl _) hzz
      · have HS := Lib.hid hs
        have a3 := hB9.cell (i := 3) (v := .int .i64 3) rfl
        clear hs hB9 hok9 HJ4
        go_wp2_with fail
        go_region
        all_goals
          go_wp2_with fail
          refine bodyPost_ret (v := .tuple #[.agg #[.slice none 0 0], .int .i64 3]) (by simp [results, Tryz.results90, go_sem, aR]) rfl ⟨(HBE.out.drew).setCell (by show w.heap.size ≤ w.heap.size + 2; omega) _, .slice none 0 0, ?_, by rw [HQ.out, HS.out]; rfl⟩
          rw [HQ.out, HS.out]
          exact World.ownsRow_nil _ _ _ _
    · have x0 := HJ1.out.hE.cell (i := 0) (v := .int .i64 2) (by rw [← hk]; rfl)
      have HKE := Lib.hid hk
      clear hk
      have aK := HJ1.out.hK.cell (i := 0) (v := .pointer (some ⟨b, 0, none⟩)) rfl
      have aE1 := HJ1.out.hE.cell (i := 1) (v := .int .i64 e.i) rfl
      have aB := HJ1.out.asm.lt
      have aE := HJ1.out.hE.lt
      have aKl := HJ1.out.hK.lt
      go_wp2_with fail
      refine (asmKeep_any b xs ls' _ 0 (e.i) _ HJ1.out.asm HL.out hn).mono ?_
      rintro e6 w6 ⟨rfl, hb1, ha1⟩
      have HJ2 := Lib.hid (HJ1.out.next hb1 ha1)
      clear aK aB aE aKl aE1 hb1 ha1 HJ1
      have aK := HJ2.out.hK.cell (i := 0) (v := .pointer (some ⟨b, 0, none⟩)) rfl
      have aE2 := HJ2.out.hE.cell (i := 2) (v := .int .i64 e.j) rfl
      have aB := HJ2.out.asm.lt
      have aE := HJ2.out.hE.lt
      have aKl := HJ2.out.hK.lt
      go_wp2_with fail
      refine (asmKeep_any b xs ls' _ e.j (lastI ls') _ HJ2.out.asm HL.out hn).mono ?_
      rintro e7 w7 ⟨rfl, hb2, ha2⟩
      have HJ3 := Lib.hid (HJ2.out.next hb2 ha2)
      clear aK aB aE aKl aE2 hb2 ha2 HJ2
      have hQ : editS xs ls' (lastI ls') e = addO (addO (some []) (limO (partG xs ls' 0 (e.i)))) (limO (partG xs ls' e.j (lastI ls'))) := by unfold editS; rw [if_neg (by rw [HKE.out]; decide), if_pos HKE.out]
      have HQ := Lib.hid hQ
      clear hQ
      obtain ⟨vG9, vL9, vO, out, c9, hB9, hG9, hL9, hO9, hs9, hok9⟩ := HJ3.out.asm
      obtain ⟨AO, kO, rfl, _⟩ := own_nil hO9
      have aK := HJ3.out.hK.cell (i := 0) (v := .pointer (some ⟨b, 0, none⟩)) rfl
      have aR := HJ3.out.hR.cell (i := 0) (v := .slice none 0 0) rfl
      have aRf := HJ3.out.hR.frozen 0
      have aRl := HJ3.out.hR.lt
      have HO9 := Lib.hid hO9
      have HBE := Lib.hid HJ3.out.bel
      have HRR := Lib.hid HJ3.out.hR
      have hle := HJ3.out.le
      have HOK := Lib.hid hok9
      have aBl := hB9.lt
      have nKR : K ≠ w.heap.size + 1 + 1 := HJ3.out.neKR
      have nbR : b ≠ w.heap.size + 1 + 1 := fun h => HJ3.out.neR h.symm
      clear hG9 hL9 hO9
      rcases hs9 with ⟨hs, rfl, _⟩ | ⟨hs, rfl⟩
      · have HS := Lib.hid hs
        have a2 := hB9.cell (i := 2) (v := .slice AO out.length kO) rfl
        have a3 := hB9.cell (i := 3) (v := .int .i64 0) rfl
        clear hs hB9 hok9 HJ3
        go_wp2_with fail
        refine (trimmed_any _ out _ HO9.out.sl (by have := gram_len400 HOK.out; omega) (okAll_lens (gram_lens HOK.out).2.choose_spec)).mono ?_
        rintro e10 w10 ⟨hb10, v10, own10, rfl⟩
        have HR10 := Lib.hid (HRR.out.up hb10)
        have HB10 := Lib.hid (Below.tr HBE.out hb10)
        have HO10 := Lib.hid own10
        obtain ⟨A10, k10, rfl, _⟩ := own_nil own10
        have b0 := HR10.out.cell (i := 0) (v := .slice none 0 0) rfl
        have b1 := HR10.out.frozen 0
        have b2 := HR10.out.lt
        have hzz := HBE.out.size
        clear hb10 own10 a2 a3 aK aR aRf
        go_wp2_with fail
        refine bodyPost_ret (v := .tuple #[.agg #[.slice A10 (trimG out).length k10], .int .i64 0]) (by simp [results, Tryz.results90, go_sem, b0]) rfl ⟨HB10.out.setCell (by show w.heap.size ≤ w.heap.size + 2; omega) _, .slice A10 (trimG out).length k10, ?_, by rw [HQ.out, HS.out]; rfl⟩
        rw [HQ.out, HS.out]
        exact ownsRow_more (ownsRow_setCell_below HO10.out (a := ⟨w.heap.size + 2, 0, none⟩) aRl _) hzz
      · have HS := Lib.hid hs
        have a3 := hB9.cell (i := 3) (v := .int .i64 3) rfl
        clear hs hB9 hok9 HJ3
        go_wp2_with fail
        go_region
        all_goals
          go_wp2_with fail
          refine bodyPost_ret (v := .tuple #[.agg #[.slice none 0 0], .int .i64 3]) (by simp [results, Tryz.results90, go_sem, aR]) rfl ⟨(HBE.out.drew).setCell (by show w.heap.size ≤ w.heap.size + 2; omega) _, .slice none 0 0, ?_, by rw [HQ.out, HS.out]; rfl⟩
          rw [HQ.out, HS.out]
          exact World.ownsRow_nil _ _ _ _
    · have x0 := HJ1.out.hE.cell (i := 0) (v := .int .i64 3) (by rw [← hk]; rfl)
      have HKE := Lib.hid hk
      clear hk
      have aK := HJ1.out.hK.cell (i := 0) (v := .pointer (some ⟨b, 0, none⟩)) rfl
      have aE3 := HJ1.out.hE.cell (i := 3) (v := .int .i64 e.k) rfl
      have aB := HJ1.out.asm.lt
      have aE := HJ1.out.hE.lt
      have aKl := HJ1.out.hK.lt
      go_wp2_with fail
      refine (asmKeep_any b xs ls' _ 0 (e.k) _ HJ1.out.asm HL.out hn).mono ?_
      rintro e6 w6 ⟨rfl, hb1, ha1⟩
      have HJ2 := Lib.hid (HJ1.out.next hb1 ha1)
      clear aK aB aE aKl aE3 hb1 ha1 HJ1
      have aK := HJ2.out.hK.cell (i := 0) (v := .pointer (some ⟨b, 0, none⟩)) rfl
      have aE1 := HJ2.out.hE.cell (i := 1) (v := .int .i64 e.i) rfl
      have aE2 := HJ2.out.hE.cell (i := 2) (v := .int .i64 e.j) rfl
      have aB := HJ2.out.asm.lt
      have aE := HJ2.out.hE.lt
      have aKl := HJ2.out.hK.lt
      go_wp2_with fail
      refine (asmKeep_any b xs ls' _ e.i (e.j) _ HJ2.out.asm HL.out hn).mono ?_
      rintro e7 w7 ⟨rfl, hb2, ha2⟩
      have HJ3 := Lib.hid (HJ2.out.next hb2 ha2)
      clear aK aB aE aKl aE1 aE2 hb2 ha2 HJ2
      have aK := HJ3.out.hK.cell (i := 0) (v := .pointer (some ⟨b, 0, none⟩)) rfl
      have aE3 := HJ3.out.hE.cell (i := 3) (v := .int .i64 e.k) rfl
      have aB := HJ3.out.asm.lt
      have aE := HJ3.out.hE.lt
      have aKl := HJ3.out.hK.lt
      go_wp2_with fail
      refine (asmKeep_any b xs ls' _ e.k (lastI ls') _ HJ3.out.asm HL.out hn).mono ?_
      rintro e8 w8 ⟨rfl, hb3, ha3⟩
      have HJ4 := Lib.hid (HJ3.out.next hb3 ha3)
      clear aK aB aE aKl aE3 hb3 ha3 HJ3
      have hQ : editS xs ls' (lastI ls') e = addO (addO (addO (some []) (limO (partG xs ls' 0 (e.k)))) (limO (partG xs ls' e.i (e.j)))) (limO (partG xs ls' e.k (lastI ls'))) := by unfold editS; rw [if_neg (by rw [HKE.out]; decide), if_neg (by rw [HKE.out]; decide), if_pos HKE.out]
      have HQ := Lib.hid hQ
      clear hQ
      obtain ⟨vG9, vL9, vO, out, c9, hB9, hG9, hL9, hO9, hs9, hok9⟩ := HJ4.out.asm
      obtain ⟨AO, kO, rfl, _⟩ := own_nil hO9
      have aK := HJ4.out.hK.cell (i := 0) (v := .pointer (some ⟨b, 0, none⟩)) rfl
      have aR := HJ4.out.hR.cell (i := 0) (v := .slice none 0 0) rfl
      have aRf := HJ4.out.hR.frozen 0
      have aRl := HJ4.out.hR.lt
      have HO9 := Lib.hid hO9
      have HBE := Lib.hid HJ4.out.bel
      have HRR := Lib.hid HJ4.out.hR
      have hle := HJ4.out.le
      have HOK := Lib.hid hok9
      have aBl := hB9.lt
      have nKR : K ≠ w.heap.size + 1 + 1 := HJ4.out.neKR
      have nbR : b ≠ w.heap.size + 1 + 1 := fun h => HJ4.out.neR h.symm
      clear hG9 hL9 hO9
      rcases hs9 with ⟨hs, rfl, _⟩ | ⟨hs, rfl⟩
      · have HS := Lib.hid hs
        have a2 := hB9.cell (i := 2) (v := .slice AO out.length kO) rfl
        have a3 := hB9.cell (i := 3) (v := .int .i64 0) rfl
        clear hs hB9 hok9 HJ4
        go_wp2_with fail
        refine (trimmed_any _ out _ HO9.out.sl (by have := gram_len400 HOK.out; omega) (okAll_lens (gram_lens HOK.out).2.choose_spec)).mono ?_
        rintro e10 w10 ⟨hb10, v10, own10, rfl⟩
        have HR10 := Lib.hid (HRR.out.up hb10)
        have HB10 := Lib.hid (Below.tr HBE.out hb10)
        have HO10 := Lib.hid own10
        obtain ⟨A10, k10, rfl, _⟩ := own_nil own10
        have b0 := HR10.out.cell (i := 0) (v := .slice none 0 0) rfl
        have b1 := HR10.out.frozen 0
        have b2 := HR10.out.lt
        have hzz := HBE.out.size
        clear hb10 own10 a2 a3 aK aR aRf
        go_wp2_with fail
        refine bodyPost_ret (v := .tuple #[.agg #[.slice A10 (trimG out).length k10], .int .i64 0]) (by simp [results, Tryz.results90, go_sem, b0]) rfl ⟨HB10.out.setCell (by show w.heap.size ≤ w.heap.size + 2; omega) _, .slice A10 (trimG out).length k10, ?_, by rw [HQ.out, HS.out]; rfl⟩
        rw [HQ.out, HS.out]
        exact ownsRow_more (ownsRow_setCell_below HO10.out (a := ⟨w.heap.size + 2, 0, none⟩) aRl _) hzz
      · have HS := Lib.hid hs
        have a3 := hB9.cell (i := 3) (v := .int .i64 3) rfl
        clear hs hB9 hok9 HJ4
        go_wp2_with fail
        go_region
        all_goals
          go_wp2_with fail
          refine bodyPost_ret (v := .tuple #[.agg #[.slice none 0 0], .int .i64 3]) (by simp [results, Tryz.results90, go_sem, aR]) rfl ⟨(HBE.out.drew).setCell (by show w.heap.size ≤ w.heap.size + 2; omega) _, .slice none 0 0, ?_, by rw [HQ.out, HS.out]; rfl⟩
          rw [HQ.out, HS.out]
          exact World.ownsRow_nil _ _ _ _
    · have x0 := HJ1.out.hE.cell (i := 0) (v := .int .i64 4) (by rw [← hk]; rfl)
      have HKE := Lib.hid hk
      clear hk
      have y1 := HJ1.out.hE.cell (i := 1) (v := .int .i64 e.i) rfl
      have y3 := HJ1.out.hE.cell (i := 3) (v := .int .i64 e.k) rfl
      by_cases hki : e.k ≤ e.i
      · have HKI := Lib.hid hki
        have aK := HJ1.out.hK.cell (i := 0) (v := .pointer (some ⟨b, 0, none⟩)) rfl
        have aE3 := HJ1.out.hE.cell (i := 3) (v := .int .i64 e.k) rfl
        have aB := HJ1.out.asm.lt
        have aE := HJ1.out.hE.lt
        have aKl := HJ1.out.hK.lt
        go_wp2_with fail
        refine (asmKeep_any b xs ls' _ 0 (e.k) _ HJ1.out.asm HL.out hn).mono ?_
        rintro e6 w6 ⟨rfl, hb1, ha1⟩
        have HJ2 := Lib.hid (HJ1.out.next hb1 ha1)
        clear aK aB aE aKl aE3 hb1 ha1 HJ1
        have aK := HJ2.out.hK.cell (i := 0) (v := .pointer (some ⟨b, 0, none⟩)) rfl
        have aE1 := HJ2.out.hE.cell (i := 1) (v := .int .i64 e.i) rfl
        have aE2 := HJ2.out.hE.cell (i := 2) (v := .int .i64 e.j) rfl
        have aB := HJ2.out.asm.lt
        have aE := HJ2.out.hE.lt
        have aKl := HJ2.out.hK.lt
        go_wp2_with fail
        refine (asmKeep_any b xs ls' _ e.i (e.j) _ HJ2.out.asm HL.out hn).mono ?_
        rintro e7 w7 ⟨rfl, hb2, ha2⟩
        have HJ3 := Lib.hid (HJ2.out.next hb2 ha2)
        clear aK aB aE aKl aE1 aE2 hb2 ha2 HJ2
        have aK := HJ3.out.hK.cell (i := 0) (v := .pointer (some ⟨b, 0, none⟩)) rfl
        have aE1 := HJ3.out.hE.cell (i := 1) (v := .int .i64 e.i) rfl
        have aE3 := HJ3.out.hE.cell (i := 3) (v := .int .i64 e.k) rfl
        have aB := HJ3.out.asm.lt
        have aE := HJ3.out.hE.lt
        have aKl := HJ3.out.hK.lt
        go_wp2_with fail
        refine (asmKeep_any b xs ls' _ e.k (e.i) _ HJ3.out.asm HL.out hn).mono ?_
        rintro e8 w8 ⟨rfl, hb3, ha3⟩
        have HJ4 := Lib.hid (HJ3.out.next hb3 ha3)
        clear aK aB aE aKl aE1 aE3 hb3 ha3 HJ3
        have aK := HJ4.out.hK.cell (i := 0) (v := .pointer (some ⟨b, 0, none⟩)) rfl
        have aE2 := HJ4.out.hE.cell (i := 2) (v := .int .i64 e.j) rfl
        have aB := HJ4.out.asm.lt
        have aE := HJ4.out.hE.lt
        have aKl := HJ4.out.hK.lt
        go_wp2_with fail
        refine (asmKeep_any b xs ls' _ e.j (lastI ls') _ HJ4.out.asm HL.out hn).mono ?_
        rintro e9 w9 ⟨rfl, hb4, ha4⟩
        have HJ5 := Lib.hid (HJ4.out.next hb4 ha4)
        clear aK aB aE aKl aE2 hb4 ha4 HJ4
        have hQ : editS xs ls' (lastI ls') e = addO (addO (addO (addO (some []) (limO (partG xs ls' 0 (e.k)))) (limO (partG xs ls' e.i (e.j)))) (limO (partG xs ls' e.k (e.i)))) (limO (partG xs ls' e.j (lastI ls'))) := by unfold editS; rw [if_neg (by rw [HKE.out]; decide), if_neg (by rw [HKE.out]; decide), if_neg (by rw [HKE.out]; decide), if_pos HKE.out, if_pos HKI.out]
        have HQ := Lib.hid hQ
        clear hQ
        obtain ⟨vG9, vL9, vO, out, c9, hB9, hG9, hL9, hO9, hs9, hok9⟩ := HJ5.out.asm
        obtain ⟨AO, kO, rfl, _⟩ := own_nil hO9
        have aK := HJ5.out.hK.cell (i := 0) (v := .pointer (some ⟨b, 0, none⟩)) rfl
        have aR := HJ5.out.hR.cell (i := 0) (v := .slice none 0 0) rfl
        have aRf := HJ5.out.hR.frozen 0
        have aRl := HJ5.out.hR.lt
        have HO9 := Lib.hid hO9
        have HBE := Lib.hid HJ5.out.bel
        have HRR := Lib.hid HJ5.out.hR
        have hle := HJ5.out.le
        have HOK := Lib.hid hok9
        have aBl := hB9.lt
        have nKR : K ≠ w.heap.size + 1 + 1 := HJ5.out.neKR
        have nbR : b ≠ w.heap.size + 1 + 1 := fun h => HJ5.out.neR h.symm
        clear hG9 hL9 hO9
        rcases hs9 with ⟨hs, rfl, _⟩ | ⟨hs, rfl⟩
        · have HS := Lib.hid hs
          have a2 := hB9.cell (i := 2) (v := .slice AO out.length kO) rfl
          have a3 := hB9.cell (i := 3) (v := .int .i64 0) rfl
          clear hs hB9 hok9 HJ5
          go_wp2_with fail
          refine (trimmed_any _ out _ HO9.out.sl (by have := gram_len400 HOK.out; omega) (okAll_lens (gram_lens HOK.out).2.choose_spec)).mono ?_
          rintro e10 w10 ⟨hb10, v10, own10, rfl⟩
          have HR10 := Lib.hid (HRR.out.up hb10)
          have HB10 := Lib.hid (Below.tr HBE.out hb10)
          have HO10 := Lib.hid own10
          obtain ⟨A10, k10, rfl, _⟩ := own_nil own10
          have b0 := HR10.out.cell (i := 0) (v := .slice none 0 0) rfl
          have b1 := HR10.out.frozen 0
          have b2 := HR10.out.lt
          have hzz := HBE.out.size
          clear hb10 own10 a2 a3 aK aR aRf
          go_wp2_with fail
          refine bodyPost_ret (v := .tuple #[.agg #[.slice A10 (trimG out).length k10], .int .i64 0]) (by simp [results, Tryz.results90, go_sem, b0]) rfl ⟨HB10.out.setCell (by show w.heap.size ≤ w.heap.size + 2; omega) _, .slice A10 (trimG out).length k10, ?_, by rw [HQ.out, HS.out]; rfl⟩
          rw [HQ.out, HS.out]
          exact ownsRow_more (ownsRow_setCell_below HO10.out (a := ⟨w.heap.size + 2, 0, none⟩) aRl _) hzz
        · have HS := Lib.hid hs
          have a3 := hB9.cell (i := 3) (v := .int .i64 3) rfl
          clear hs hB9 hok9 HJ5
          go_wp2_with fail
          go_region
          all_goals
            go_wp2_with fail
            refine bodyPost_ret (v := .tuple #[.agg #[.slice none 0 0], .int .i64 3]) (by simp [results, Tryz.results90, go_sem, aR]) rfl ⟨(HBE.out.drew).setCell (by show w.heap.size ≤ w.heap.size + 2; omega) _, .slice none 0 0, ?_, by rw [HQ.out, HS.out]; rfl⟩
            rw [HQ.out, HS.out]
            exact World.ownsRow_nil _ _ _ _
      · have HKI := Lib.hid hki
        have aK := HJ1.out.hK.cell (i := 0) (v := .pointer (some ⟨b, 0, none⟩)) rfl
        have aE1 := HJ1.out.hE.cell (i := 1) (v := .int .i64 e.i) rfl
        have aB := HJ1.out.asm.lt
        have aE := HJ1.out.hE.lt
        have aKl := HJ1.out.hK.lt
        go_wp2_with fail
        refine (asmKeep_any b xs ls' _ 0 (e.i) _ HJ1.out.asm HL.out hn).mono ?_
        rintro e6 w6 ⟨rfl, hb1, ha1⟩
        have HJ2 := Lib.hid (HJ1.out.next hb1 ha1)
        clear aK aB aE aKl aE1 hb1 ha1 HJ1
        have aK := HJ2.out.hK.cell (i := 0) (v := .pointer (some ⟨b, 0, none⟩)) rfl
        have aE2 := HJ2.out.hE.cell (i := 2) (v := .int .i64 e.j) rfl
        have aE3 := HJ2.out.hE.cell (i := 3) (v := .int .i64 e.k) rfl
        have aB := HJ2.out.asm.lt
        have aE := HJ2.out.hE.lt
        have aKl := HJ2.out.hK.lt
        go_wp2_with fail
        refine (asmKeep_any b xs ls' _ e.j (e.k) _ HJ2.out.asm HL.out hn).mono ?_
        rintro e7 w7 ⟨rfl, hb2, ha2⟩
        have HJ3 := Lib.hid (HJ2.out.next hb2 ha2)
        clear aK aB aE aKl aE2 aE3 hb2 ha2 HJ2
        have aK := HJ3.out.hK.cell (i := 0) (v := .pointer (some ⟨b, 0, none⟩)) rfl
        have aE1 := HJ3.out.hE.cell (i := 1) (v := .int .i64 e.i) rfl
        have aE2 := HJ3.out.hE.cell (i := 2) (v := .int .i64 e.j) rfl
        have aB := HJ3.out.asm.lt
        have aE := HJ3.out.hE.lt
        have aKl := HJ3.out.hK.lt
        go_wp2_with fail
        refine (asmKeep_any b xs ls' _ e.i (e.j) _ HJ3.out.asm HL.out hn).mono ?_
        rintro e8 w8 ⟨rfl, hb3, ha3⟩
        have HJ4 := Lib.hid (HJ3.out.next hb3 ha3)
        clear aK aB aE aKl aE1 aE2 hb3 ha3 HJ3
        have aK := HJ4.out.hK.cell (i := 0) (v := .pointer (some ⟨b, 0, none⟩)) rfl
        have aE3 := HJ4.out.hE.cell (i := 3) (v := .int .i64 e.k) rfl
        have aB := HJ4.out.asm.lt
        have aE := HJ4.out.hE.lt
        have aKl := HJ4.out.hK.lt
        go_wp2_with fail
        refine (asmKeep_any b xs ls' _ e.k (lastI ls') _ HJ4.out.asm HL.out hn).mono ?_
        rintro e9 w9 ⟨rfl, hb4, ha4⟩
        have HJ5 := Lib.hid (HJ4.out.next hb4 ha4)
        clear aK aB aE aKl aE3 hb4 ha4 HJ4
        have hQ : editS xs ls' (lastI ls') e = addO (addO (addO (addO (some []) (limO (partG xs ls' 0 (e.i)))) (limO (partG xs ls' e.j (e.k)))) (limO (partG xs ls' e.i (e.j)))) (limO (partG xs ls' e.k (lastI ls'))) := by unfold editS; rw [if_neg (by rw [HKE.out]; decide), if_neg (by rw [HKE.out]; decide), if_neg (by rw [HKE.out]; decide), if_pos HKE.out, if_neg (by have := HKI.out; omega)]
        have HQ := Lib.hid hQ
        clear hQ
        obtain ⟨vG9, vL9, vO, out, c9, hB9, hG9, hL9, hO9, hs9, hok9⟩ := HJ5.out.asm
        obtain ⟨AO, kO, rfl, _⟩ := own_nil hO9
        have aK := HJ5.out.hK.cell (i := 0) (v := .pointer (some ⟨b, 0, none⟩)) rfl
        have aR := HJ5.out.hR.cell (i := 0) (v := .slice none 0 0) rfl
        have aRf := HJ5.out.hR.frozen 0
        have aRl := HJ5.out.hR.lt
        have HO9 := Lib.hid hO9
        have HBE := Lib.hid HJ5.out.bel
        have HRR := Lib.hid HJ5.out.hR
        have hle := HJ5.out.le
        have HOK := Lib.hid hok9
        have aBl := hB9.lt
        have nKR : K ≠ w.heap.size + 1 + 1 := HJ5.out.neKR
        have nbR : b ≠ w.heap.size + 1 + 1 := fun h => HJ5.out.neR h.symm
        clear hG9 hL9 hO9
        rcases hs9 with ⟨hs, rfl, _⟩ | ⟨hs, rfl⟩
        · have HS := Lib.hid hs
          have a2 := hB9.cell (i := 2) (v := .slice AO out.length kO) rfl
          have a3 := hB9.cell (i := 3) (v := .int .i64 0) rfl
          clear hs hB9 hok9 HJ5
          go_wp2_with fail
          refine (trimmed_any _ out _ HO9.out.sl (by have := gram_len400 HOK.out; omega) (okAll_lens (gram_lens HOK.out).2.choose_spec)).mono ?_
          rintro e10 w10 ⟨hb10, v10, own10, rfl⟩
          have HR10 := Lib.hid (HRR.out.up hb10)
          have HB10 := Lib.hid (Below.tr HBE.out hb10)
          have HO10 := Lib.hid own10
          obtain ⟨A10, k10, rfl, _⟩ := own_nil own10
          have b0 := HR10.out.cell (i := 0) (v := .slice none 0 0) rfl
          have b1 := HR10.out.frozen 0
          have b2 := HR10.out.lt
          have hzz := HBE.out.size
          clear hb10 own10 a2 a3 aK aR aRf
          go_wp2_with fail
          refine bodyPost_ret (v := .tuple #[.agg #[.slice A10 (trimG out).length k10], .int .i64 0]) (by simp [results, Tryz.results90, go_sem, b0]) rfl ⟨HB10.out.setCell (by show w.heap.size ≤ w.heap.size + 2; omega) _, .slice A10 (trimG out).length k10, ?_, by rw [HQ.out, HS.out]; rfl⟩
          rw [HQ.out, HS.out]
          exact ownsRow_more (ownsRow_setCell_below HO10.out (a := ⟨w.heap.size + 2, 0, none⟩) aRl _) hzz
        · have HS := Lib.hid hs
          have a3 := hB9.cell (i := 3) (v := .int .i64 3) rfl
          clear hs hB9 hok9 HJ5
          go_wp2_with fail
          go_region
          all_goals
            go_wp2_with fail
            refine bodyPost_ret (v := .tuple #[.agg #[.slice none 0 0], .int .i64 3]) (by simp [results, Tryz.results90, go_sem, aR]) rfl ⟨(HBE.out.drew).setCell (by show w.heap.size ≤ w.heap.size + 2; omega) _, .slice none 0 0, ?_, by rw [HQ.out, HS.out]; rfl⟩
            rw [HQ.out, HS.out]
            exact World.ownsRow_nil _ _ _ _
    · have hkc : ¬ e.kind = 1 ∧ ¬ e.kind = 2 ∧ ¬ e.kind = 3 ∧ ¬ e.kind = 4 ∧ (e.kind = 5 ∨ e.kind = 6 ∨ e.kind = 7) := by unfold chgOK at hkk; omega
      have HKC := Lib.hid hkc
      have HKK := Lib.hid hkk
      obtain ⟨_, _, _, _, hk⟩ := hkc
      clear hkk
      rcases hk with hk | hk | hk
      · have x0 := HJ1.out.hE.cell (i := 0) (v := .int .i64 5) (by rw [← hk]; rfl)
        have HKE := Lib.hid hk
        clear hk
        have aK := HJ1.out.hK.cell (i := 0) (v := .pointer (some ⟨b, 0, none⟩)) rfl
        have aE1 := HJ1.out.hE.cell (i := 1) (v := .int .i64 e.i) rfl
        have aB := HJ1.out.asm.lt
        have aE := HJ1.out.hE.lt
        have aKl := HJ1.out.hK.lt
        go_wp2_with fail
        refine (asmKeep_any b xs ls' _ 0 (e.i) _ HJ1.out.asm HL.out hn).mono ?_
        rintro e6 w6 ⟨rfl, hb1, ha1⟩
        have HJ2 := Lib.hid (HJ1.out.next hb1 ha1)
        clear aK aB aE aKl aE1 hb1 ha1 HJ1
        have aB := HJ2.out.asm.lt
        go_wp2_with fail
        refine (changed_any (w.heap.size + 1) b K e (.slice AR e.part.length cR) xs ls' _ _ HJ2.out.hK HJ2.out.asm HJ2.out.hE HKK.out HL.out hn (tabB HT.out HJ2.out.bel)).mono ?_
        rintro e7 w7 ⟨rfl, hb2, ha2⟩
        have HJ3 := Lib.hid (HJ2.out.next hb2 ha2)
        clear aB hb2 ha2 HJ2
        have aK := HJ3.out.hK.cell (i := 0) (v := .pointer (some ⟨b, 0, none⟩)) rfl
        have aE2 := HJ3.out.hE.cell (i := 2) (v := .int .i64 e.j) rfl
        have aB := HJ3.out.asm.lt
        have aE := HJ3.out.hE.lt
        have aKl := HJ3.out.hK.lt
        go_wp2_with fail
        refine (asmKeep_any b xs ls' _ e.j (lastI ls') _ HJ3.out.asm HL.out hn).mono ?_
        rintro e8 w8 ⟨rfl, hb3, ha3⟩
        have HJ4 := Lib.hid (HJ3.out.next hb3 ha3)
        clear aK aB aE aKl aE2 hb3 ha3 HJ3
        have hQ : editS xs ls' (lastI ls') e = addO (addO (addO (some []) (limO (partG xs ls' 0 (e.i)))) ((limO (partG xs ls' e.i e.j)).bind (chgO e))) (limO (partG xs ls' e.j (lastI ls'))) := by unfold editS; rw [if_neg HKC.out.1, if_neg HKC.out.2.1, if_neg HKC.out.2.2.1, if_neg HKC.out.2.2.2.1]
        have HQ := Lib.hid hQ
        clear hQ
        obtain ⟨vG9, vL9, vO, out, c9, hB9, hG9, hL9, hO9, hs9, hok9⟩ := HJ4.out.asm
        obtain ⟨AO, kO, rfl, _⟩ := own_nil hO9
        have aK := HJ4.out.hK.cell (i := 0) (v := .pointer (some ⟨b, 0, none⟩)) rfl
        have aR := HJ4.out.hR.cell (i := 0) (v := .slice none 0 0) rfl
        have aRf := HJ4.out.hR.frozen 0
        have aRl := HJ4.out.hR.lt
        have HO9 := Lib.hid hO9
        have HBE := Lib.hid HJ4.out.bel
        have HRR := Lib.hid HJ4.out.hR
        have hle := HJ4.out.le
        have HOK := Lib.hid hok9
        have aBl := hB9.lt
        have nKR : K ≠ w.heap.size + 1 + 1 := HJ4.out.neKR
        have nbR : b ≠ w.heap.size + 1 + 1 := fun h => HJ4.out.neR h.symm
        clear hG9 hL9 hO9
        rcases hs9 with ⟨hs, rfl, _⟩ | ⟨hs, rfl⟩
        · have HS := Lib.hid hs
          have a2 := hB9.cell (i := 2) (v := .slice AO out.length kO) rfl
          have a3 := hB9.cell (i := 3) (v := .int .i64 0) rfl
          clear hs hB9 hok9 HJ4
          go_wp2_with fail
          refine (trimmed_any _ out _ HO9.out.sl (by have := gram_len400 HOK.out; omega) (okAll_lens (gram_lens HOK.out).2.choose_spec)).mono ?_
          rintro e10 w10 ⟨hb10, v10, own10, rfl⟩
          have HR10 := Lib.hid (HRR.out.up hb10)
          have HB10 := Lib.hid (Below.tr HBE.out hb10)
          have HO10 := Lib.hid own10
          obtain ⟨A10, k10, rfl, _⟩ := own_nil own10
          have b0 := HR10.out.cell (i := 0) (v := .slice none 0 0) rfl
          have b1 := HR10.out.frozen 0
          have b2 := HR10.out.lt
          have hzz := HBE.out.size
          clear hb10 own10 a2 a3 aK aR aRf
          go_wp2_with fail
          refine bodyPost_ret (v := .tuple #[.agg #[.slice A10 (trimG out).length k10], .int .i64 0]) (by simp [results, Tryz.results90, go_sem, b0]) rfl ⟨HB10.out.setCell (by show w.heap.size ≤ w.heap.size + 2; omega) _, .slice A10 (trimG out).length k10, ?_, by rw [HQ.out, HS.out]; rfl⟩
          rw [HQ.out, HS.out]
          exact ownsRow_more (ownsRow_setCell_below HO10.out (a := ⟨w.heap.size + 2, 0, none⟩) aRl _) hzz
        · have HS := Lib.hid hs
          have a3 := hB9.cell (i := 3) (v := .int .i64 3) rfl
          clear hs hB9 hok9 HJ4
          go_wp2_with fail
          go_region
          all_goals
            go_wp2_with fail
            refine bodyPost_ret (v := .tuple #[.agg #[.slice none 0 0], .int .i64 3]) (by simp [results, Tryz.results90, go_sem, aR]) rfl ⟨(HBE.out.drew).setCell (by show w.heap.size ≤ w.heap.size + 2; omega) _, .slice none 0 0, ?_, by rw [HQ.out, HS.out]; rfl⟩
            rw [HQ.out, HS.out]
            exact World.ownsRow_nil _ _ _ _
      · have x0 := HJ1.out.hE.cell (i := 0) (v := .int .i64 6) (by rw [← hk]; rfl)
        have HKE := Lib.hid hk
        clear hk
        have aK := HJ1.out.hK.cell (i := 0) (v := .pointer (some ⟨b, 0, none⟩)) rfl
        have aE1 := HJ1.out.hE.cell (i := 1) (v := .int .i64 e.i) rfl
        have aB := HJ1.out.asm.lt
        have aE := HJ1.out.hE.lt
        have aKl := HJ1.out.hK.lt
        go_wp2_with fail
        refine (asmKeep_any b xs ls' _ 0 (e.i) _ HJ1.out.asm HL.out hn).mono ?_
        rintro e6 w6 ⟨rfl, hb1, ha1⟩
        have HJ2 := Lib.hid (HJ1.out.next hb1 ha1)
        clear aK aB aE aKl aE1 hb1 ha1 HJ1
        have aB := HJ2.out.asm.lt
        go_wp2_with fail
        refine (changed_any (w.heap.size + 1) b K e (.slice AR e.part.length cR) xs ls' _ _ HJ2.out.hK HJ2.out.asm HJ2.out.hE HKK.out HL.out hn (tabB HT.out HJ2.out.bel)).mono ?_
        rintro e7 w7 ⟨rfl, hb2, ha2⟩
        have HJ3 := Lib.hid (HJ2.out.next hb2 ha2)
        clear aB hb2 ha2 HJ2
        have aK := HJ3.out.hK.cell (i := 0) (v := .pointer (some ⟨b, 0, none⟩)) rfl
        have aE2 := HJ3.out.hE.cell (i := 2) (v := .int .i64 e.j) rfl
        have aB := HJ3.out.asm.lt
        have aE := HJ3.out.hE.lt
        have aKl := HJ3.out.hK.lt
        go_wp2_with fail
        refine (asmKeep_any b xs ls' _ e.j (lastI ls') _ HJ3.out.asm HL.out hn).mono ?_
        rintro e8 w8 ⟨rfl, hb3, ha3⟩
        have HJ4 := Lib.hid (HJ3.out.next hb3 ha3)
        clear aK aB aE aKl aE2 hb3 ha3 HJ3
        have hQ : editS xs ls' (lastI ls') e = addO (addO (addO (some []) (limO (partG xs ls' 0 (e.i)))) ((limO (partG xs ls' e.i e.j)).bind (chgO e))) (limO (partG xs ls' e.j (lastI ls'))) := by unfold editS; rw [if_neg HKC.out.1, if_neg HKC.out.2.1, if_neg HKC.out.2.2.1, if_neg HKC.out.2.2.2.1]
        have HQ := Lib.hid hQ
        clear hQ
        obtain ⟨vG9, vL9, vO, out, c9, hB9, hG9, hL9, hO9, hs9, hok9⟩ := HJ4.out.asm
        obtain ⟨AO, kO, rfl, _⟩ := own_nil hO9
        have aK := HJ4.out.hK.cell (i := 0) (v := .pointer (some ⟨b, 0, none⟩)) rfl
        have aR := HJ4.out.hR.cell (i := 0) (v := .slice none 0 0) rfl
        have aRf := HJ4.out.hR.frozen 0
        have aRl := HJ4.out.hR.lt
        have HO9 := Lib.hid hO9
        have HBE := Lib.hid HJ4.out.bel
        have HRR := Lib.hid HJ4.out.hR
        have hle := HJ4.out.le
        have HOK := Lib.hid hok9
        have aBl := hB9.lt
        have nKR : K ≠ w.heap.size + 1 + 1 := HJ4.out.neKR
        have nbR : b ≠ w.heap.size + 1 + 1 := fun h => HJ4.out.neR h.symm
        clear hG9 hL9 hO9
        rcases hs9 with ⟨hs, rfl, _⟩ | ⟨hs, rfl⟩
        · have HS := Lib.hid hs
          have a2 := hB9.cell (i := 2) (v := .slice AO out.length kO) rfl
          have a3 := hB9.cell (i := 3) (v := .int .i64 0) rfl
          clear hs hB9 hok9 HJ4
          go_wp2_with fail
          refine (trimmed_any _ out _ HO9.out.sl (by have := gram_len400 HOK.out; omega) (okAll_lens (gram_lens HOK.out).2.choose_spec)).mono ?_
          rintro e10 w10 ⟨hb10, v10, own10, rfl⟩
          have HR10 := Lib.hid (HRR.out.up hb10)
          have HB10 := Lib.hid (Below.tr HBE.out hb10)
          have HO10 := Lib.hid own10
          obtain ⟨A10, k10, rfl, _⟩ := own_nil own10
          have b0 := HR10.out.cell (i := 0) (v := .slice none 0 0) rfl
          have b1 := HR10.out.frozen 0
          have b2 := HR10.out.lt
          have hzz := HBE.out.size
          clear hb10 own10 a2 a3 aK aR aRf
          go_wp2_with fail
          refine bodyPost_ret (v := .tuple #[.agg #[.slice A10 (trimG out).length k10], .int .i64 0]) (by simp [results, Tryz.results90, go_sem, b0]) rfl ⟨HB10.out.setCell (by show w.heap.size ≤ w.heap.size + 2; omega) _, .slice A10 (trimG out).length k10, ?_, by rw [HQ.out, HS.out]; rfl⟩
          rw [HQ.out, HS.out]
          exact ownsRow_more (ownsRow_setCell_below HO10.out (a := ⟨w.heap.size + 2, 0, none⟩) aRl _) hzz
        · have HS := Lib.hid hs
          have a3 := hB9.cell (i := 3) (v := .int .i64 3) rfl
          clear hs hB9 hok9 HJ4
          go_wp2_with fail
          go_region
          all_goals
            go_wp2_with fail
            refine bodyPost_ret (v := .tuple #[.agg #[.slice none 0 0], .int .i64 3]) (by simp [results, Tryz.results90, go_sem, aR]) rfl ⟨(HBE.out.drew).setCell (by show w.heap.size ≤ w.heap.size + 2; omega) _, .slice none 0 0, ?_, by rw [HQ.out, HS.out]; rfl⟩
            rw [HQ.out, HS.out]
            exact World.ownsRow_nil _ _ _ _
      · have x0 := HJ1.out.hE.cell (i := 0) (v := .int .i64 7) (by rw [← hk]; rfl)
        have HKE := Lib.hid hk
        clear hk
        have aK := HJ1.out.hK.cell (i := 0) (v := .pointer (some ⟨b, 0, none⟩)) rfl
        have aE1 := HJ1.out.hE.cell (i := 1) (v := .int .i64 e.i) rfl
        have aB := HJ1.out.asm.lt
        have aE := HJ1.out.hE.lt
        have aKl := HJ1.out.hK.lt
        go_wp2_with fail
        refine (asmKeep_any b xs ls' _ 0 (e.i) _ HJ1.out.asm HL.out hn).mono ?_
        rintro e6 w6 ⟨rfl, hb1, ha1⟩
        have HJ2 := Lib.hid (HJ1.out.next hb1 ha1)
        clear aK aB aE aKl aE1 hb1 ha1 HJ1
        have aB := HJ2.out.asm.lt
        go_wp2_with fail
        refine (changed_any (w.heap.size + 1) b K e (.slice AR e.part.length cR) xs ls' _ _ HJ2.out.hK HJ2.out.asm HJ2.out.hE HKK.out HL.out hn (tabB HT.out HJ2.out.bel)).mono ?_
        rintro e7 w7 ⟨rfl, hb2, ha2⟩
        have HJ3 := Lib.hid (HJ2.out.next hb2 ha2)
        clear aB hb2 ha2 HJ2
        have aK := HJ3.out.hK.cell (i := 0) (v := .pointer (some ⟨b, 0, none⟩)) rfl
        have aE2 := HJ3.out.hE.cell (i := 2) (v := .int .i64 e.j) rfl
        have aB := HJ3.out.asm.lt
        have aE := HJ3.out.hE.lt
        have aKl := HJ3.out.hK.lt
        go_wp2_with fail
        refine (asmKeep_any b xs ls' _ e.j (lastI ls') _ HJ3.out.asm HL.out hn).mono ?_
        rintro e8 w8 ⟨rfl, hb3, ha3⟩
        have HJ4 := Lib.hid (HJ3.out.next hb3 ha3)
        clear aK aB aE aKl aE2 hb3 ha3 HJ3
        have hQ : editS xs ls' (lastI ls') e = addO (addO (addO (some []) (limO (partG xs ls' 0 (e.i)))) ((limO (partG xs ls' e.i e.j)).bind (chgO e))) (limO (partG xs ls' e.j (lastI ls'))) := by unfold editS; rw [if_neg HKC.out.1, if_neg HKC.out.2.1, if_neg HKC.out.2.2.1, if_neg HKC.out.2.2.2.1]
        have HQ := Lib.hid hQ
        clear hQ
        obtain ⟨vG9, vL9, vO, out, c9, hB9, hG9, hL9, hO9, hs9, hok9⟩ := HJ4.out.asm
        obtain ⟨AO, kO, rfl, _⟩ := own_nil hO9
        have aK := HJ4.out.hK.cell (i := 0) (v := .pointer (some ⟨b, 0, none⟩)) rfl
        have aR := HJ4.out.hR.cell (i := 0) (v := .slice none 0 0) rfl
        have aRf := HJ4.out.hR.frozen 0
        have aRl := HJ4.out.hR.lt
        have HO9 := Lib.hid hO9
        have HBE := Lib.hid HJ4.out.bel
        have HRR := Lib.hid HJ4.out.hR
        have hle := HJ4.out.le
        have HOK := Lib.hid hok9
        have aBl := hB9.lt
        have nKR : K ≠ w.heap.size + 1 + 1 := HJ4.out.neKR
        have nbR : b ≠ w.heap.size + 1 + 1 := fun h => HJ4.out.neR h.symm
        clear hG9 hL9 hO9
        rcases hs9 with ⟨hs, rfl, _⟩ | ⟨hs, rfl⟩
        · have HS := Lib.hid hs
          have a2 := hB9.cell (i := 2) (v := .slice AO out.length kO) rfl
          have a3 := hB9.cell (i := 3) (v := .int .i64 0) rfl
          clear hs hB9 hok9 HJ4
          go_wp2_with fail
          refine (trimmed_any _ out _ HO9.out.sl (by have := gram_len400 HOK.out; omega) (okAll_lens (gram_lens HOK.out).2.choose_spec)).mono ?_
          rintro e10 w10 ⟨hb10, v10, own10, rfl⟩
          have HR10 := Lib.hid (HRR.out.up hb10)
          have HB10 := Lib.hid (Below.tr HBE.out hb10)
          have HO10 := Lib.hid own10
          obtain ⟨A10, k10, rfl, _⟩ := own_nil own10
          have b0 := HR10.out.cell (i := 0) (v := .slice none 0 0) rfl
          have b1 := HR10.out.frozen 0
          have b2 := HR10.out.lt
          have hzz := HBE.out.size
          clear hb10 own10 a2 a3 aK aR aRf
          go_wp2_with fail
          refine bodyPost_ret (v := .tuple #[.agg #[.slice A10 (trimG out).length k10], .int .i64 0]) (by simp [results, Tryz.results90, go_sem, b0]) rfl ⟨HB10.out.setCell (by show w.heap.size ≤ w.heap.size + 2; omega) _, .slice A10 (trimG out).length k10, ?_, by rw [HQ.out, HS.out]; rfl⟩
          rw [HQ.out, HS.out]
          exact ownsRow_more (ownsRow_setCell_below HO10.out (a := ⟨w.heap.size + 2, 0, none⟩) aRl _) hzz
        · have HS := Lib.hid hs
          have a3 := hB9.cell (i := 3) (v := .int .i64 3) rfl
          clear hs hB9 hok9 HJ4
          go_wp2_with fail
          go_region
          all_goals
            go_wp2_with fail
            refine bodyPost_ret (v := .tuple #[.agg #[.slice none 0 0], .int .i64 3]) (by simp [results, Tryz.results90, go_sem, aR]) rfl ⟨(HBE.out.drew).setCell (by show w.heap.size ≤ w.heap.size + 2; omega) _, .slice none 0 0, ?_, by rw [HQ.out, HS.out]; rfl⟩
            rw [HQ.out, HS.out]
            exact World.ownsRow_nil _ _ _ _
end Go.Proofs.YtbifijlenbibmaaGreatDoor

