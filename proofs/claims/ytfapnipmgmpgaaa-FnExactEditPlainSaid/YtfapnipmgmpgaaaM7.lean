import Derived.Test.YtfapnipmgmpgaaaM6
import Derived.Test.YtfapnipmgmpgaaaM1
import Derived.Test.YtfapnipmgmpgaaaM2
import Derived.Test.YtfapnipmgmpgaaaM4
import Derived.Test.YtfapnipmgmpgaaaM5
import Derived.Deep.RegionLaw
import Derived.RangeFuncBox
import Derived.Deep.CutRange
import Derived.Deep.DeepCutAuto
namespace Go.Proofs.Ytfapnipmgmpgaaa
open Go.RowKit

set_option maxRecDepth 100000 in
set_option maxHeartbeats 2000000 in
theorem l02Letter_any (b o : Nat) (vR vL : Value) (xs : List GRule) (ls : List Int) (i : Int) (c : UInt8) (w : World) (hp : w.cell? ⟨b, o, none⟩ = some vR) (hR : Sl RuleE w w.heap.size vR xs) (hL : Sl IntE w w.heap.size vL ls)
    (hl : lens xs = some ls) (hn : xs.length ≤ 1099511627776) (hi : 0 ≤ i) (hc : (wordG xs)[i.toNat]? = some c) :
    Calls Try.prog 106 #[.pointer (some ⟨b, o, none⟩), vL, .int .i64 i] w fun e w' => e = .returned (.int .u8 c.toNat) ∧ w = w' := by
  have h0 : 0 < xs.length := by
    refine Nat.pos_of_ne_zero fun e => ?_
    have hx : xs = [] := List.eq_nil_of_length_eq_zero e
    subst hx
    simp [wordG] at hc
  have hll := lens_length hl
  rw [wordG_pos h0] at hc
  have hlt := (List.getElem?_eq_some_iff.1 hc).1
  have hWl := W1_len hl (xs.length - 1) (by omega)
  obtain ⟨AR, cR, rfl, _, hmR, hrowR⟩ := hR
  obtain ⟨AL, cL, rfl, _, hmL, hrowL⟩ := hL
  unfold maxLen at hmR hmL
  obtain ⟨bR, oR, rfl, hbR, hcR⟩ := hrowR.rule h0
  obtain ⟨bL, oL, rfl, hbL, hcL⟩ := hrowL.int (k := 0) (by omega)
  have HcR := Lib.hid hcR
  have HcL := Lib.hid hcL
  have Hll := Lib.hid hll
  have Hl := Lib.hid hl
  have hm1 : (xs.length : Int) - 1 = ((xs.length - 1 : Nat) : Int) := by omega
  obtain ⟨m, hm⟩ : ∃ m, xs.length - 1 = m := ⟨_, rfl⟩
  rw [hm] at hm1 hc hlt hWl
  have hmx : m < xs.length := by omega
  have Hc := Lib.hid hc
  have hq0 : i < ls.getD m 0 := by omega
  have Hq0 := Lib.hid hq0
  have Hm1 := Lib.hid hm1
  clear hrowR hrowL hcR hcL hll hl hc hlt hWl hm hq0
  go_enter Try.func106, Try.ntmps106
  go_wp2_with fail
  go_loopw [2, 7] (fun q a wx => ∃ (r : Nat) (z : Int), r < xs.length ∧ a = .int .i64 (r : Int) ∧ q = .int .i64 z ∧ 0 ≤ z ∧ z < ls.getD r 0 ∧ (W1 xs r)[z.toNat]? = some c ∧ wx = w) (fun _ a _ => (intOf a).toNat)
  case atStart => exact ⟨m, i, hmx, rfl, rfl, hi, Hq0.out, Hc.out, rfl⟩
  case round =>
    obtain ⟨r, z, hr, rfl, rfl, hz, hzl, hw, rfl⟩ := hrel
    obtain ⟨k0, k1, k2⟩ := HcR.out r _ (getR_at hr)
    have hri : (r : Int) < (xs.length : Int) := by omega
    have Hw := Lib.hid hw
    have Hzl := Lib.hid hzl
    obtain ⟨R, hR⟩ : ∃ R, getR xs r = R := ⟨_, rfl⟩
    rw [hR] at k0 k1 k2
    have HR := Lib.hid hR
    clear hw hzl hR hm1
    by_cases hp2 : R.letter.toList.isEmpty = true
    · have hpr : (getR xs r).pair = true := by rw [HR.out]; rw [isEmpty_size] at hp2; exact hp2
      obtain ⟨q1, q2, q3, q4, q5⟩ := lens_pair Hl.out hr hpr
      have hW := W1_pair Hl.out hr hpr
      rw [HR.out] at q1 q2 q3 q4 q5 hW
      obtain ⟨la, hla⟩ := Int.eq_ofNat_of_zero_le q1
      obtain ⟨ra, hra⟩ := Int.eq_ofNat_of_zero_le q3
      rw [hla] at q2 k1
      rw [hra] at q4 k2
      rw [hla, hra] at hW q5
      simp only [Int.toNat_natCast] at q2 q4 q5 hW
      have hlw := W1_len Hl.out la (by omega)
      have cl := HcL.out la (by have := Hll.out; omega)
      have hli : (la : Int) < (ls.length : Int) := by have := Hll.out; omega
      have hpl := lens_pos' Hl.out (r := la) (by omega)
      have hpr2 := lens_pos' Hl.out (r := r) hr
      obtain ⟨LA, hLA⟩ : ∃ x, ls.getD la 0 = x := ⟨_, rfl⟩
      rw [hLA] at cl hlw hpl q5
      have HLA := Lib.hid hLA
      have Hq5 := Lib.hid q5
      have Hlw := Lib.hid hlw
      have HW := Lib.hid hW
      have hzb : z ≤ 1000000000000000 := by have := Hzl.out; omega
      clear hpr q1 q3 hla hra hLA q5 hlw hW hpr2
      by_cases hc1 : z < LA
      · go_wp2_with fail
        refine ⟨⟨la, z, by omega, rfl, rfl, hz, by rw [HLA.out]; exact hc1, ?_, trivial⟩, by simp [intOf]; omega⟩
        have := Hw.out
        rwa [HW.out, List.getElem?_append_left (by have := Hlw.out; omega)] at this
      · go_wp2_with fail
        refine ⟨⟨ra, z - LA, by omega, rfl, rfl, by omega, by have := Hq5.out; have := Hzl.out; omega, ?_, trivial⟩, by simp [intOf]; omega⟩
        have := Hw.out
        rw [HW.out, List.getElem?_append_right (by have := Hlw.out; omega)] at this
        rwa [show z.toNat - (W1 xs la).length = (z - LA).toNat by have := Hlw.out; omega] at this
    · have hp3 : R.letter.toList.isEmpty = false := by simpa using hp2
      have hpr : (getR xs r).pair = false := by rw [HR.out]; rw [isEmpty_size] at hp3; exact hp3
      have hsz := isLet_size (lens_isLet Hl.out hr hpr)
      have hone := lens_letter Hl.out hr hpr
      have hW := W1_let hpr
      rw [HR.out] at hsz hW
      have hz0 : z = 0 := by have := Hzl.out; omega
      have hcc : R.letter.data.toList[0]? = some c := by
        have := Hw.out
        rw [hW, hz0] at this; exact this
      have hs0 : 0 < R.letter.size := by omega
      have hget : R.letter[0]'hs0 = c := by
        rw [toList_getElem? _ _ hs0] at hcc
        exact Option.some.inj hcc
      have Hget := Lib.hid hget
      clear hp2 hpr hone hW hz0 hcc hget
      go_wp2_with fail
      go_ret
      exact ⟨by rw [← Hget.out]; rfl, rfl⟩
end Go.Proofs.Ytfapnipmgmpgaaa

namespace Go.Proofs.Ytfapnipmgmpgaaa
open Go.RowKit

theorem cutL_snoc {l : List UInt8} {i z : Int} {c : UInt8} (hi : 0 ≤ i) (hz : i ≤ z) (hc : l[z.toNat]? = some c) : cutL l i (z + 1) = cutL l i z ++ [c] := by
  have hlt := (List.getElem?_eq_some_iff.1 hc).1
  unfold cutL
  rw [show (z + 1).toNat = z.toNat + 1 by omega, List.take_add_one, hc, Option.toList_some, List.drop_append_of_le_length (by rw [List.length_take]; omega)]
theorem cutL_none (l : List UInt8) (i : Int) : cutL l i i = [] := cutL_nil (by omega)

set_option maxRecDepth 100000 in
set_option maxHeartbeats 2000000 in
theorem l02Unpack_any (b o : Nat) (v : Value) (xs : List GRule) (ls : List Int) (i j : Int) (w : World) (hp : w.cell? ⟨b, o, none⟩ = some v) (hbl : b < w.heap.size) (h : Sl RuleE w w.heap.size v xs) (hsm : SmallL xs) (hl : lens xs = some ls)
    (hn : xs.length ≤ 400) (hi : 0 ≤ i) (hij : i ≤ j) (hj : j ≤ lastI ls) (hbig : j - i ≤ 1000000) :
    Calls Try.prog 46 #[.pointer (some ⟨b, o, none⟩), .int .i64 i, .int .i64 j] w fun e w' => e = .returned (.string ⟨(cutL (wordG xs) i j).toArray⟩) ∧ Below w.heap.size w w' := by
  have HR := Lib.hid h
  obtain ⟨AR, cR, rfl, _⟩ := h
  have Hl := Lib.hid hl
  have hwl := wordG_len hl
  have hlb := (lastI_bounds hl).2
  have hd4 : decide (xs.length ≤ 400) = true := by simp [hn]
  clear hl
  go_enter Try.func46, Try.ntmps46
  go_wp2_with fail
  refine (l02Lengths_any _ _ _ xs _ hp hbl HR.out hsm).mono ?_
  rintro e w2 ⟨hb2, v2, ls', rfl, own2, hls⟩
  have e4 : ls' = ls := hls hn ls Hl.out
  subst e4
  obtain ⟨A2, c2, rfl, _⟩ := own_nil own2
  have p2 := (hb2.cell (p := ⟨b, o, none⟩) hbl).trans hp
  have z2 : b < w2.heap.size := Nat.lt_of_lt_of_le hbl hb2.size
  have HL2 := Lib.hid own2.sl
  have HR2 := Lib.hid (HR.out.up hb2)
  have HB2 := Lib.hid hb2
  clear hb2 own2 hls hp
  go_wp2_with fail
  go_loopw [9, 10] (fun q a wx => ∃ (k : Nat) (z : Int) (g c : Nat) (l : List UInt8), z = i + k ∧ z ≤ j ∧ a = .int .i64 z ∧ q = .slice (some ⟨g, 0, none⟩) l.length c ∧ l = cutL (wordG xs) i z ∧ OwnB wx w2.heap.size q l ∧ Below w2.heap.size w2 wx) (fun _ a _ => (j - intOf a).toNat)
  case atStart => exact ⟨0, i, _, 0, [], by omega, hij, rfl, rfl, (cutL_none _ _).symm, OwnB.empty rfl (Nat.le_refl _), (Below.refl _ _).alloc (Nat.le_refl _) _⟩
  case round =>
    obtain ⟨k, z, g, c, l, hz, hzj, rfl, rfl, hlc, hown, hb3⟩ := hrel
    have Hown := Lib.hid hown
    have HB3 := Lib.hid hb3
    have Hlc := Lib.hid hlc
    have hll : (l.length : Int) = z - i := by rw [hlc]; exact cutL_len hi (by omega) (by omega)
    have p3 := (hb3.cell (p := ⟨b, o, none⟩) z2).trans p2
    have HL3 := Lib.hid ((HL2.out.below hb3).le hb3.size)
    have HR3 := Lib.hid ((HR2.out.below hb3).le hb3.size)
    have hcv := OwnB.string hown
    have HLL : Hid (l.length ≤ 1099511627776) := by rw [Hid]; omega
    have hs3 : w2.heap.size ≤ wr.heap.size := hb3.size
    have Hz0 := Lib.hid hz
    have hiz : i ≤ z := by omega
    clear hown hb3 hlc hz
    by_cases hlt : z < j
    · obtain ⟨x, hx⟩ : ∃ x, (wordG xs)[z.toNat]? = some x := ⟨_, List.getElem?_eq_getElem (by omega)⟩
      have Hx := Lib.hid hx
      have Lt := Lib.hid (l02Letter_any b o _ (.slice A2 ls'.length c2) xs ls' z x wr p3 HR3.out HL3.out Hl.out (by omega) (by omega) hx)
      have hzm : z ≤ 1000000000000000 := by omega
      have Hll := Lib.hid hll
      clear hx hcv hll
      go_wp2_with fail
      (with_reducible refine Lt.out.mono ?_)
      rintro e w4 ⟨rfl, rfl⟩
      go_wp2_with (first
        | (at_builtin; refine push_byte (base := w2.heap.size) (v := .slice (some ⟨g, 0, none⟩) l.length c) (l := l) (y := x) rfl _ _ rfl rfl rfl rfl Hown.out HLL.out hs3 ?_; intro v5 w5 own5 hg5 hb5; obtain ⟨g5, c5, rfl⟩ := own5.some_ (by simp)))
      have e5 : (l ++ [x]).length = l.length + 1 := by simp
      refine ⟨⟨k + 1, z + 1, g5, c5, l ++ [x], by have := Hz0.out; omega, by omega, rfl, by rw [e5], ?_, by rw [← e5]; exact own5, HB3.out.trans hb5⟩, by simp [intOf]; omega⟩
      rw [cutL_snoc hi (by omega) Hx.out, Hlc.out]
    · have hzj2 : z = j := by omega
      have Hz := Lib.hid hzj2
      clear hll hzj2
      go_wp2_with fail
      go_ret
      exact ⟨by rw [← Hz.out, ← Hlc.out]; rfl, HB2.out.trans (HB3.out.mono HB2.out.size)⟩
end Go.Proofs.Ytfapnipmgmpgaaa

namespace Go.Proofs.Ytfapnipmgmpgaaa
open Go.RowKit

/-- The state to which the word of a grammar leads. -/
def endS (next : List (List Int)) (xs : List GRule) (s : Nat) : Nat := if xs.length = 0 then s else stepM (mapsOf next xs) s (xs.length - 1)
theorem pieces_all {xs : List GRule} {ls : List Int} (hl : lens xs = some ls) : piecesL xs ls 0 (lastI ls) = if xs.length = 0 then [] else [xs.length - 1] := by
  have hll := lens_length hl
  unfold piecesL
  by_cases h0 : xs.length = 0
  · rw [if_neg (by omega), if_pos h0]
  · have hp := lens_pos' hl (r := xs.length - 1) (by omega)
    have e : lastI ls = ls.getD (xs.length - 1) 0 := by rw [lastI, hll]
    rw [if_pos ⟨by omega, by rw [e]; omega⟩, if_neg h0]
    obtain ⟨n, hn⟩ : ∃ n, xs.length = n + 1 := ⟨xs.length - 1, by omega⟩
    rw [hn, coverR]
    rw [hn] at e hp
    rw [if_neg (by rw [e]; omega), if_pos (by rw [e]; omega)]
theorem fold_all {next : List (List Int)} {xs : List GRule} {ls : List Int} (hl : lens xs = some ls) (s : Nat) : (piecesL xs ls 0 (lastI ls)).foldl (stepM (mapsOf next xs)) s = endS next xs s := by
  rw [pieces_all hl, endS]
  split <;> rfl

/-- Seven cells of a block. -/
def Box7 (w : World) (b : Nat) (c0 c1 c2 c3 c4 c5 c6 : Value) : Prop := w.cell? ⟨b, 0, none⟩ = some c0 ∧ w.cell? ⟨b, 1, none⟩ = some c1 ∧ w.cell? ⟨b, 2, none⟩ = some c2 ∧ w.cell? ⟨b, 3, none⟩ = some c3 ∧ w.cell? ⟨b, 4, none⟩ = some c4 ∧ w.cell? ⟨b, 5, none⟩ = some c5 ∧ w.cell? ⟨b, 6, none⟩ = some c6
theorem Box7.up {w w' : World} {b N : Nat} {c0 c1 c2 c3 c4 c5 c6 : Value} (h : Box7 w b c0 c1 c2 c3 c4 c5 c6) (hb : Below N w w') (hlt : b < N) : Box7 w' b c0 c1 c2 c3 c4 c5 c6 := by
  obtain ⟨h0, h1, h2, h3, h4, h5, h6⟩ := h
  have k : ∀ {o : Nat} {v : Value}, w.cell? ⟨b, o, none⟩ = some v → w'.cell? ⟨b, o, none⟩ = some v := fun {o v} hc => (hb.cell (p := ⟨b, o, none⟩) hlt).trans hc
  exact ⟨k h0, k h1, k h2, k h3, k h4, k h5, k h6⟩
theorem Box7.new {w w' : World} {c0 c1 c2 c3 c4 c5 c6 : Value} {t : TypeId} (hb : Below (w.alloc (.cells #[c0, c1, c2, c3, c4, c5, c6] t)).heap.size (w.alloc (.cells #[c0, c1, c2, c3, c4, c5, c6] t)) w') : Box7 w' w.heap.size c0 c1 c2 c3 c4 c5 c6 :=
  Box7.up (w := w.alloc (.cells #[c0, c1, c2, c3, c4, c5, c6] t)) ⟨by simp [go_sem], by simp [go_sem], by simp [go_sem], by simp [go_sem], by simp [go_sem], by simp [go_sem], by simp [go_sem]⟩ hb (by simp)

theorem keep7D {N : Nat} {W : World} {p : Nat} {c0 c1 c2 c3 c4 c5 c6 : Value} (h : Box7 W p c0 c1 c2 c3 c4 c5 c6) :
    Below N W W.drew ∧ W.drew.cell? ⟨p, 0, none⟩ = some c0 ∧ W.drew.cell? ⟨p, 1, none⟩ = some c1 ∧ W.drew.cell? ⟨p, 2, none⟩ = some c2 ∧ W.drew.cell? ⟨p, 3, none⟩ = some c3 ∧ W.drew.cell? ⟨p, 4, none⟩ = some c4 ∧ W.drew.cell? ⟨p, 5, none⟩ = some c5 ∧ W.drew.cell? ⟨p, 6, none⟩ = some c6 :=
  ⟨(Below.refl _ _).drew, h.1, h.2.1, h.2.2.1, h.2.2.2.1, h.2.2.2.2.1, h.2.2.2.2.2.1, h.2.2.2.2.2.2⟩
theorem keep7 {N : Nat} {wr W W2 : World} {p : Nat} {c0 c1 c2 c3 c4 c5 c6 : Value}
    (h : Below N wr W ∧ W.cell? ⟨p, 0, none⟩ = some c0 ∧ W.cell? ⟨p, 1, none⟩ = some c1 ∧ W.cell? ⟨p, 2, none⟩ = some c2 ∧ W.cell? ⟨p, 3, none⟩ = some c3 ∧ W.cell? ⟨p, 4, none⟩ = some c4 ∧ W.cell? ⟨p, 5, none⟩ = some c5 ∧ W.cell? ⟨p, 6, none⟩ = some c6)
    (h2 : Below W.heap.size W W2) (hN : N ≤ wr.heap.size) (hp : p < N) :
    Below N wr W2 ∧ W2.cell? ⟨p, 0, none⟩ = some c0 ∧ W2.cell? ⟨p, 1, none⟩ = some c1 ∧ W2.cell? ⟨p, 2, none⟩ = some c2 ∧ W2.cell? ⟨p, 3, none⟩ = some c3 ∧ W2.cell? ⟨p, 4, none⟩ = some c4 ∧ W2.cell? ⟨p, 5, none⟩ = some c5 ∧ W2.cell? ⟨p, 6, none⟩ = some c6 := by
  obtain ⟨h1, hb⟩ := h
  have hs := h1.size
  have k := Box7.up hb h2 (by omega)
  exact ⟨h1.trans (h2.mono (by omega)), k⟩
theorem keep1D {N : Nat} {W : World} {p o : Nat} {c0 : Value} (h : W.cell? ⟨p, o, none⟩ = some c0) : Below N W W.drew ∧ W.drew.cell? ⟨p, o, none⟩ = some c0 := ⟨(Below.refl _ _).drew, h⟩
theorem keep1 {N : Nat} {wr W W2 : World} {p o : Nat} {c0 : Value} (h : Below N wr W ∧ W.cell? ⟨p, o, none⟩ = some c0) (h2 : Below W.heap.size W W2) (hN : N ≤ wr.heap.size) (hp : p < N) :
    Below N wr W2 ∧ W2.cell? ⟨p, o, none⟩ = some c0 := by
  have hs := h.1.size
  exact ⟨h.1.trans (h2.mono (by omega)), (h2.cell (p := ⟨p, o, none⟩) (by show p < _; omega)).trans h.2⟩
def rgV (a : GAuto) (s : Int) (xs : List GRule) : Int := if autoOk a && gramOk xs && inR s 0 (a.states - 1) then endS a.next xs s.toNat else 0
def rgC (a : GAuto) (s : Int) (xs : List GRule) : Int := if autoOk a && gramOk xs then if inR s 0 (a.states - 1) then 0 else 2 else 1

end Go.Proofs.Ytfapnipmgmpgaaa

namespace Go.Proofs.Ytfapnipmgmpgaaa
open Go.RowKit

end Go.Proofs.Ytfapnipmgmpgaaa

namespace Go.Proofs.Ytfapnipmgmpgaaa
open Go.RowKit

theorem l02Raised_any (r : GRule) (n : Nat) (w : World) (hn : n ≤ 1099511627776) (hp : r.pair = true → -1099511627776 ≤ r.left ∧ r.left ≤ 1099511627776 ∧ -1099511627776 ≤ r.right ∧ r.right ≤ 1099511627776) :
    Calls Try.prog 130 #[.agg #[.string r.letter, .int .i64 r.left, .int .i64 r.right], .int .i64 n] w fun e w' => e = .returned (.agg #[.string (raiseR n r).letter, .int .i64 (raiseR n r).left, .int .i64 (raiseR n r).right]) ∧ Below w.heap.size w w' := by
  by_cases hpr : r.pair = true
  · obtain ⟨p1, p2, p3, p4⟩ := hp hpr
    have hemp : r.letter.toList.isEmpty = true := by rw [isEmpty_size]; exact hpr
    have e : raiseR n r = { letter := r.letter, left := r.left + n, right := r.right + n } := by rw [raiseR, if_pos hpr]
    rw [e]
    clear hpr e hp
    go_enter Try.func130, Try.ntmps130
    go_wp2
    exact bodyPost_ret (v := .agg #[.string r.letter, .int .i64 (r.left + n), .int .i64 (r.right + n)]) (by simp [results, Try.results130, go_sem]) rfl ⟨rfl, (by repeat (first | exact (Below.refl _ _) | (refine Below.alloc ?_ (by first | omega | (simp; done) | (simp; omega)) _) | refine below_drewN ?_ _ | refine Below.drew ?_))⟩
  · have hemp : r.letter.toList.isEmpty = false := by rw [isEmpty_size]; simpa [GRule.pair] using hpr
    have e : raiseR n r = r := by rw [raiseR, if_neg hpr]
    rw [e]
    clear hpr e hp
    go_enter Try.func130, Try.ntmps130
    go_wp2
    exact bodyPost_ret (v := .agg #[.string r.letter, .int .i64 r.left, .int .i64 r.right]) (by simp [results, Try.results130, go_sem]) rfl ⟨rfl, (by repeat (first | exact (Below.refl _ _) | (refine Below.alloc ?_ (by first | omega | (simp; done) | (simp; omega)) _) | refine below_drewN ?_ _ | refine Below.drew ?_))⟩

theorem l02Told_any (base : Nat) (v : Value) (xs : List GRule) (w : World) (h : OwnRules w base v xs) (hsm : SmallL xs) :
    Calls Try.prog 129 #[.agg #[v]] w (LimPost base xs w) := by
  have h1 := fun o o' => (h.sl.below (((Below.refl w.heap.size w).alloc (Nat.le_refl _) o).alloc (by simp) o')).le (B' := ((w.alloc o).alloc o').heap.size) (by simp; omega)
  have hv : v.ownBlock ≠ some (w.heap.size + 1) := fun e => by have := (World.ownsRow.lt h _ e).2; omega
  have H1 := Lib.hid h1
  have H := Lib.hid h
  have Hv := Lib.hid hv
  clear h1 hv
  obtain ⟨A, c, rfl, _⟩ := own_nil h
  clear h
  go_enter Try.func129, Try.ntmps129
  go_wp2_with fail
  refine (l02Ok_any _ _ _ _ _ (by simp [go_sem]) (by first | omega | (simp; done) | (simp; omega)) (H1.out _ _) hsm).mono ?_
  rintro e w1 ⟨rfl, hb1⟩
  obtain ⟨hc1, hf1⟩ := bcell hb1
  have hz1 : w.heap.size + 1 < w1.heap.size := by have := hb1.size; simp at this; omega
  have hc2 : w1.cell? ⟨w.heap.size + 1, 0, none⟩ = some (.slice none 0 0) := by rw [hc1 _ _ (by simp)]; simp [go_sem]
  have hf2 : w1.frozen? ⟨w.heap.size + 1, 0, none⟩ = false := by rw [hf1 _ _ (by simp)]; simp [go_sem]
  have hc3 : w1.cell? ⟨w.heap.size, 0, none⟩ = some (.slice A xs.length c) := by rw [hc1 _ _ (by simp; omega)]; simp [go_sem]
  have Hb1 := Lib.hid (((Below.refl w.heap.size w).alloc (Nat.le_refl _) (Obj.cells #[Value.slice A xs.length c] 32)).alloc (by simp) (Obj.cells #[Value.slice none 0 0] 32) |>.trans (hb1.mono (by simp; omega)))
  clear hc1 hf1 hb1
  by_cases hok : gramOk xs = true
  · have hok2 : (!gramOk xs) = false := by simp [hok]
    have Hok := Lib.hid hok
    clear hok
    go_wp2
    refine bodyPost_ret (v := .tuple #[.agg #[.slice A xs.length c], .int .i64 0]) (by simp [results, Try.results129, go_sem, hc2]) rfl ⟨?_, _, ?_, by rw [limCode, if_pos Hok.out]⟩
    · exact Hb1.out.setCell (by show w.heap.size ≤ w.heap.size + 1; omega) _
    · rw [limOut, if_pos Hok.out]
      refine own_keep (OwnRules.below H.out Hb1.out) fun g hg => Below.heap_setCell _ _ _ _ (fun e => Hv.out ?_)
      rw [hg, e]
  · have hok2 : (!gramOk xs) = true := by simp [hok]
    have Hok := Lib.hid hok
    clear hok
    go_wp2
    refine bodyPost_ret (v := .tuple #[.agg #[.slice none 0 0], .int .i64 3]) (by simp [results, Try.results129, go_sem, hc2]) rfl ⟨?_, _, ?_, by rw [limCode, if_neg Hok.out]⟩
    · exact Hb1.out.setCell (by show w.heap.size ≤ w.heap.size + 1; omega) _
    · rw [limOut, if_neg Hok.out]; exact World.ownsRow_nil _ _ _ _

theorem step_push_rule {W : World} {ops : Array Oper} {o : Oper} {a : Act} {K : Act → World → Prop} {Q : Exit → Act → World → Prop} {E : Prop} (hgd : o.guard = none) (s x : Operand)
    (ho : o.op = .call { callee := .builtin .append, args := #[s, x], argTypes := #[30, 30] }) {t : ByteArray} {p q : Int} {base : Nat} {v : Value} {l : List GRule}
    (hs : a.eval s = v) {N : Nat} (hx : a.eval x = .slice (some ⟨N, 0, none⟩) 1 1) (hN : N = W.heap.size) (hown : OwnRules W base v l) (hlen : l.length ≤ 1099511627775) (hbase : base ≤ W.heap.size)
    (h : ∀ v' w', OwnRules w' base v' (l ++ [⟨t, p, q⟩]) → (W.alloc (.cells #[.string t, .int .i64 p, .int .i64 q] 160)).grownBy w' v.ownBlock → Below base (W.alloc (.cells #[.string t, .int .i64 p, .int .i64 q] 160)) w' → K (a.put o.dst v') w') :
    if Region.wanted o (yielded ops a.tmps) = true then Oper.wp Try.prog o a (W.alloc (.cells #[.string t, .int .i64 p, .int .i64 q] 160)) K Q else E := by
  subst hN
  refine step_append_rules (ys := [⟨t, p, q⟩]) (S := fun b => b = W.heap.size) hgd s x ho hs hx (hown.alloc _) ⟨_, 1, rfl, Nat.le_refl _, by simp [maxLen], fun _ => ⟨W.heap.size, 0, rfl, rfl, fun k r hk => ⟨r.cells, rfl, fun j u hu => ?_⟩⟩⟩ (by simp; omega) (by simp; omega) h
  have hk0 : k = 0 := by
    have := (List.getElem?_eq_some_iff.1 hk).1
    simp at this; exact this
  subst hk0
  simp at hk
  subst hk
  have hc : (W.alloc (.cells #[.string t, .int .i64 p, .int .i64 q] 160)).cell? ⟨W.heap.size, j, none⟩ = (#[Value.string t, .int .i64 p, .int .i64 q] : Array Value)[j]? := cell_of_row _ _ _ _ 160 (0, 0) (heap_alloc_new W _)
  simp only [Nat.zero_mul, Nat.zero_add]
  rw [hc]
  simpa [GRule.cells] using hu

theorem Boxed.mk' {w : World} {B : Nat} {t : TypeId} {v : Value} (h : w.heap[B]? = some (.cells #[v] t (0, 0))) : Boxed w.drew B t v := h
theorem Boxed.up {w w' : World} {B N : Nat} {t : TypeId} {v : Value} (h : Boxed w B t v) (hb : Below N w w') (hlt : B < N) : Boxed w' B t v := (hb.block B hlt).trans h
theorem Boxed.grown {w w' : World} {B base e s n : Nat} {t : TypeId} {v : Value} {xs : List Value} {o : Obj} (h : Boxed w B t v) (hte : t ≠ e) (own : w.ownsRow base e s v n xs) (hg : (w.alloc o).grownBy w' v.ownBlock) : Boxed w' B t v := (h.alloc o).kept hg (h.not_row hte own)

set_option maxRecDepth 100000 in
set_option maxHeartbeats 4000000 in
theorem l02Join_any (b o b' o' : Nat) (v u : Value) (xs ys : List GRule) (w : World) (hpt : w.cell? ⟨b, o, none⟩ = some v) (hpt' : w.cell? ⟨b', o', none⟩ = some u) (hbl : b < w.heap.size) (hbl' : b' < w.heap.size)
    (h : Sl RuleE w w.heap.size v xs) (h' : Sl RuleE w w.heap.size u ys) (hn : xs.length ≤ 1048576) (hn' : ys.length ≤ 1048576) (hp : SmallP ys) :
    Calls Try.prog 71 #[.pointer (some ⟨b, o, none⟩), .pointer (some ⟨b', o', none⟩)] w (GOwn (joinG xs ys) w) := by
  have h1 := fun o => (h.below ((Below.refl w.heap.size w).alloc (Nat.le_refl _) o)).le (B' := (w.alloc o).heap.size) (by simp)
  have h2 := fun o => (h'.below ((Below.refl w.heap.size w).alloc (Nat.le_refl _) o)).le (B' := (w.alloc o).heap.size) (by simp)
  have H1 := Lib.hid h1
  have H2 := Lib.hid h2
  clear h1 h2
  obtain ⟨A, c, rfl, hc, hm, hrow⟩ := h
  obtain ⟨A', c', rfl, hc', hm', hrow'⟩ := h'
  clear hm hm' hrow
  by_cases h0 : xs.length = 0
  · have hj : joinG xs ys = ys := by rw [joinG, if_pos h0]
    have Hj := Lib.hid hj
    have hb0 : ((xs.length : Int) == 0) = true := by simp [h0]
    have H0 := Lib.hid h0
    clear hj h0
    go_enter Try.func71, Try.ntmps71
    go_wp2_with fail
    refine (l02Own_any _ _ _ _ _ (by simpa [go_sem, hbl'] using hpt') (by first | omega | (simp; done) | (simp; omega)) (H2.out _) (by omega)).mono ?_
    rintro e w1 ⟨v1, rfl, own1, hb1⟩
    obtain ⟨A1, c1, rfl, _⟩ := own_nil own1
    obtain ⟨hc1, hf1⟩ := bcell hb1
    have hz1 : w.heap.size + 1 ≤ w1.heap.size := by have := hb1.size; simp at this; omega
    have Hown := Lib.hid own1
    have Hb1 := Lib.hid hb1
    clear own1 hb1
    go_wp2
    refine bodyPost_ret (v := .agg #[.slice A1 ys.length c1]) (by simp [results, Try.results71, go_sem, hc1]) rfl ⟨?_, _, ?_, rfl⟩
    · exact (((Below.refl _ _).alloc (Nat.le_refl _) _).trans (Hb1.out.mono (by simp))).setCell (by show w.heap.size ≤ w.heap.size; omega) _
    · rw [Hj.out]
      have h4 : w1.ownsRow (w.heap.size + 1) 160 3 (.slice A1 ys.length c1) ys.length (ys.flatMap GRule.cells) := ownsRow_more Hown.out (by simp)
      exact ownsRow_more (ownsRow_setCell_below h4 (by show w.heap.size < w.heap.size + 1; omega) _) (by omega)
  · have hb0 : ((xs.length : Int) == 0) = false := by rw [beq_eq_false_iff_ne]; omega
    by_cases h0' : ys.length = 0
    · have hj : joinG xs ys = xs := by rw [joinG, if_neg h0, if_pos h0']
      have Hj := Lib.hid hj
      have hb0' : ((ys.length : Int) == 0) = true := by simp [h0']
      have H0 := Lib.hid h0
      have H0' := Lib.hid h0'
      clear hj h0 h0'
      go_enter Try.func71, Try.ntmps71
      go_wp2_with fail
      refine (l02Own_any _ _ _ _ _ (by simpa [go_sem, hbl] using hpt) (by first | omega | (simp; done) | (simp; omega)) (H1.out _) (by omega)).mono ?_
      rintro e w1 ⟨v1, rfl, own1, hb1⟩
      obtain ⟨A1, c1, rfl, _⟩ := own_nil own1
      obtain ⟨hc1, hf1⟩ := bcell hb1
      have hz1 : w.heap.size + 1 ≤ w1.heap.size := by have := hb1.size; simp at this; omega
      have hpt1 : w1.cell? ⟨b, o, none⟩ = some (.slice A xs.length c) := by rw [hb1.cell (by first | omega | (simp; done) | (simp; omega))]; simpa [go_sem, hbl] using hpt
      have hpt1' : w1.cell? ⟨b', o', none⟩ = some (.slice A' ys.length c') := by rw [hb1.cell (by first | omega | (simp; done) | (simp; omega))]; simpa [go_sem, hbl'] using hpt'
      have hcr1 : w1.cell? ⟨w.heap.size, 0, none⟩ = some (.slice none 0 0) := by rw [hc1 _ _ (by simp)]; simp [go_sem]
      have hfr1 : w1.frozen? ⟨w.heap.size, 0, none⟩ = false := by rw [hf1 _ _ (by simp)]; simp [go_sem]
      have hlb : b < w1.heap.size := by omega
      have hlb' : b' < w1.heap.size := by omega
      have hlr : w.heap.size < w1.heap.size := by omega
      have Hown := Lib.hid own1
      have Hb1 := Lib.hid hb1
      clear own1 hb1 hc1 hf1
      go_wp2
      refine bodyPost_ret (v := .agg #[.slice A1 xs.length c1]) (by simp [results, Try.results71, go_sem, hcr1, hlr]) rfl ⟨?_, _, ?_, rfl⟩
      · refine Below.alloc (Below.setCell (((Below.refl _ _).alloc (Nat.le_refl _) _).trans (Hb1.out.mono (by simp))) ?_ _) ?_ _
        · exact Nat.le_refl _
        · simp; omega
      · rw [Hj.out]
        have h4 : w1.ownsRow (w.heap.size + 1) 160 3 (.slice A1 xs.length c1) xs.length (xs.flatMap GRule.cells) := ownsRow_more Hown.out (by simp)
        exact ownsRow_more (World.ownsRow.alloc (ownsRow_setCell_below (a := ⟨w.heap.size, 0, none⟩) h4 (by show w.heap.size < w.heap.size + 1; omega) _) _) (by omega)
    · have hb0' : ((ys.length : Int) == 0) = false := by rw [beq_eq_false_iff_ne]; omega
      have hj : joinG xs ys = xs ++ ys.map (raiseR xs.length) ++ [pairR ((xs.length : Int) - 1) ((xs.length : Int) + ys.length - 1)] := by rw [joinG, if_neg h0, if_neg h0']
      have Hj := Lib.hid hj
      have hx1 : 1 ≤ xs.length := by omega
      have hy1 : 1 ≤ ys.length := by omega
      have Hp := Lib.hid hp
      clear hj h0 h0' hp
      go_enter Try.func71, Try.ntmps71
      go_wp2_with fail
      refine (l02Own_any _ _ _ _ _ (by simpa [go_sem, hbl] using hpt) (by first | omega | (simp; done) | (simp; omega)) (H1.out _) (by omega)).mono ?_
      rintro e w1 ⟨v1, rfl, own1, hb1⟩
      have z1 : w.heap.size + 1 ≤ w1.heap.size := by have := hb1.size; simp at this; omega
      have Hb1 : Hid (Below (w.heap.size + 1) (w.alloc (Obj.cells #[Value.slice none 0 0] 32)) w1) := hb1.mono (by simp)
      have hpt1 : w1.cell? ⟨b, o, none⟩ = some (.slice A xs.length c) := by rw [hb1.cell (by first | omega | (simp; done) | (simp; omega))]; simpa [go_sem, hbl] using hpt
      have hpt1' : w1.cell? ⟨b', o', none⟩ = some (.slice A' ys.length c') := by rw [hb1.cell (by first | omega | (simp; done) | (simp; omega))]; simpa [go_sem, hbl'] using hpt'
      have own1' : OwnRules w1 (w.heap.size + 1) v1 xs := ownsRow_more own1 (by simp)
      obtain ⟨A1, c1, rfl, _⟩ := own_nil own1'
      have Hown1 := Lib.hid own1'
      have hlb : b < w1.heap.size := by omega
      have hlb' : b' < w1.heap.size := by omega
      have Hrow := Lib.hid hrow'
      clear own1 own1' hb1 hrow'
      go_wp2_with fail
      go_loopw [7] (fun i wr => ∃ (k : Nat) (vo : Value), k ≤ ys.length ∧ i = .int .i64 k ∧ Below (w.heap.size + 1) (w.alloc (Obj.cells #[Value.slice none 0 0] 32)) wr ∧ wr.heap[w1.heap.size]? = some (Obj.cells #[vo] 32 (0, 0)) ∧ OwnRules wr (w.heap.size + 1) vo (xs ++ (ys.take k).map (raiseR xs.length))) (fun i _ => ys.length - (intOf i).toNat)
      case atStart => exact ⟨0, _, Nat.zero_le _, rfl, Hb1.out.alloc (by omega) _, alloc_heap_last _ _, by have := Hown1.out.alloc (Obj.cells #[Value.slice A1 xs.length c1] 32); simpa using this⟩
      case round =>
        obtain ⟨k, vo, hk, rfl, hb, hbox, hown⟩ := hrel
        have hcb : wr.cell? ⟨w1.heap.size, 0, none⟩ = some vo := by simp [World.cell?, hbox]
        have hfb : wr.frozen? ⟨w1.heap.size, 0, none⟩ = false := by simp [World.frozen?, hbox]
        have hszr : w1.heap.size < wr.heap.size := (Array.getElem?_eq_some_iff.1 hbox).1
        have hptr : wr.cell? ⟨b, o, none⟩ = some (.slice A xs.length c) := by rw [hb.cell (p := ⟨b, o, none⟩) (by show b < w.heap.size + 1; omega)]; simpa [go_sem, hbl] using hpt
        have hptr' : wr.cell? ⟨b', o', none⟩ = some (.slice A' ys.length c') := by rw [hb.cell (p := ⟨b', o', none⟩) (by show b' < w.heap.size + 1; omega)]; simpa [go_sem, hbl'] using hpt'
        have Hbox := Lib.hid hbox
        have Hown := Lib.hid hown
        have Hb := Lib.hid hb
        by_cases hlt : k < ys.length
        · obtain ⟨b2, o2, rfl, hbl2, hcell⟩ := Hrow.out.rule hlt
          obtain ⟨r, hr⟩ : ∃ x, ys[k]? = some x := ⟨_, List.getElem?_eq_getElem hlt⟩
          obtain ⟨g0, g1, g2⟩ := hcell k r hr
          have hbw : Below w.heap.size w wr := ((Below.refl _ _).alloc (Nat.le_refl _) _).trans (hb.mono (by omega))
          have hc0 := (hbw.cell (p := ⟨b2, o2 + k * 3, none⟩) hbl2).trans g0
          have hc1 := (hbw.cell (p := ⟨b2, o2 + k * 3 + 1, none⟩) hbl2).trans g1
          have hc2 := (hbw.cell (p := ⟨b2, o2 + k * 3 + 2, none⟩) hbl2).trans g2
          have hi : (k : Int) < (ys.length : Int) := by omega
          have hpr := Hp.out r (List.mem_of_getElem? hr)
          have Hpr := Lib.hid hpr
          have Hr := Lib.hid hr
          have hb2l : b2 < wr.heap.size := by omega
          have hbl3 : b' < wr.heap.size := by omega
          have hbl4 : b < wr.heap.size := by omega
          obtain ⟨L, hL⟩ : ∃ L, L = xs ++ (ys.take k).map (raiseR xs.length) := ⟨_, rfl⟩
          rw [← hL] at hown
          have hlk : L.length = xs.length + k := by rw [hL]; simp; omega
          have Hll : Hid (L.length ≤ 1099511627775) := by rw [Hid]; omega
          have Hnx : Hid (xs ++ (ys.take (k + 1)).map (raiseR xs.length) = L ++ [raiseR xs.length r]) := by rw [Hid, List.take_add_one, hr, List.map_append, ← List.append_assoc, ← hL]; rfl
          have Hown := Lib.hid hown
          clear hbox hown hb hcell g0 g1 g2 hbw hr hpr hpt hpt' hpt1 hpt1' hL hlk
          go_wp2_with fail
          go_region_law (first
            | (refine step_push_rule (base := w.heap.size + 1) (by rfl) _ _ (by rfl) (by rfl) (by first | rfl | simp) rfl (OwnRules.below Hown.out.drew hb2) Hll.out (by omega) ?_; intro v3 w3 own3 hg3 hb3; have bx3 : Boxed w3 w1.heap.size 32 vo := Boxed.grown (Boxed.up (Boxed.mk' Hbox.out) hb2 hszr) (by decide) (OwnRules.below Hown.out.drew hb2) hg3; obtain ⟨A3, c3, rfl, _⟩ := own_nil own3; have hcb3 := bx3.cell; have hfb3 := bx3.frozen)
            | (go_simp; go_at_call 130; refine (l02Raised_any r xs.length _ (by omega) Hpr.out).mono ?_; rintro e w2 ⟨rfl, hb2⟩; obtain ⟨hcc2, hff2⟩ := bcell hb2; have bx2 := Boxed.up (Boxed.mk' Hbox.out) hb2 hszr; have hcb2 := bx2.cell; have hfb2 := bx2.frozen; have hlb2 := bx2.lt; have hlb3 : b < w2.heap.size := (by omega); have hlb3' : b' < w2.heap.size := (by omega); have hlb4 : b2 < w2.heap.size := (by omega)))
          all_goals
            clear hcc2 hff2 hcb2 hfb2
            go_wp2
            go_roundw
            case rel =>
              refine ⟨k + 1, _, by omega, by go_num, ?_, Boxed.set _ bx3, ?_⟩
              · exact (((Below.drew Hb.out).trans (hb2.mono (by show w.heap.size + 1 ≤ wr.heap.size; omega))).alloc (by omega) _ |>.trans hb3).setCell (by show w.heap.size + 1 ≤ w1.heap.size; omega) _
              · have e9 : (L ++ [raiseR xs.length r]).length = L.length + 1 := by simp
                have own9 : OwnRules w3 (w.heap.size + 1) (.slice A3 (L.length + 1) c3) (L ++ [raiseR xs.length r]) := by rw [← e9]; exact own3
                rw [Hnx.out]; exact ownsRow_setCell_other (a := ⟨w1.heap.size, 0, none⟩) own9 (bx3.not_row (by decide) own9).symm _
            case measure => simp [intOf]; omega
        · have hkn : k = ys.length := by omega
          subst hkn
          rw [List.take_length] at hown
          obtain ⟨L, hL⟩ : ∃ L, L = xs ++ ys.map (raiseR xs.length) := ⟨_, rfl⟩
          rw [← hL] at hown
          have hlk : L.length = xs.length + ys.length := by rw [hL]; simp
          have Hll : Hid (L.length ≤ 1099511627775) := by rw [Hid]; omega
          have HL := Lib.hid hL
          have Hown := Lib.hid hown
          have hw1 : IntKind.i64.wrap ((xs.length : Int) - 1) = (xs.length : Int) - 1 := IntWalk.i64_in _ (by omega)
          have hw2 : IntKind.i64.wrap ((xs.length : Int) + ys.length) = (xs.length : Int) + ys.length := IntWalk.i64_in _ (by omega)
          have hw3 : IntKind.i64.wrap ((xs.length : Int) + ys.length - 1) = (xs.length : Int) + ys.length - 1 := IntWalk.i64_in _ (by omega)
          clear hbox hown hb hpt hpt' hpt1 hpt1' hL
          go_wp2_with fail
          go_region_law (first
            | (refine step_push_rule (base := w.heap.size + 1) (by rfl) _ _ (by rfl) (by rfl) (by first | rfl | simp) rfl Hown.out.drew Hll.out (by show w.heap.size + 1 ≤ wr.heap.size; omega) ?_; intro v3 w3 own3 hg3 hb3; have bx3 : Boxed w3 w1.heap.size 32 vo := Boxed.grown (Boxed.mk' Hbox.out) (by decide) Hown.out.drew hg3; obtain ⟨A3, c3, rfl, _⟩ := own_nil own3; have hcb3 := bx3.cell; have hfb3 := bx3.frozen; have hl3 := bx3.lt))
          all_goals
            try rw [hw2] at own3
            try rw [hw1, hw3] at own3
            have hb9 := (((Below.drew Hb.out)).alloc (by show w.heap.size + 1 ≤ wr.heap.size; omega) _).trans hb3
            obtain ⟨hc9, hf9⟩ := bcell hb9
            have hcr : w3.cell? ⟨w.heap.size, 0, none⟩ = some (.slice none 0 0) := by rw [hc9 _ _ (by omega)]; simp [go_sem]
            have hfr : w3.frozen? ⟨w.heap.size, 0, none⟩ = false := by rw [hf9 _ _ (by omega)]; simp [go_sem]
            have e9 : (L ++ [pairR ((xs.length : Int) - 1) ((xs.length : Int) + ys.length - 1)]).length = xs.length + ys.length + 1 := by simp [hlk]
            have Own9 : Hid (OwnRules w3 (w.heap.size + 1) (.slice A3 (xs.length + ys.length + 1) c3) (L ++ [pairR ((xs.length : Int) - 1) ((xs.length : Int) + ys.length - 1)])) := by rw [Hid, ← e9]; exact own3
            have Hb9 := Lib.hid hb9
            have Hbx3 := Lib.hid bx3
            have hne : w.heap.size ≠ w1.heap.size := by omega
            have hl9 : w.heap.size < w3.heap.size := by omega
            clear hc9 hf9 hb9 own3 hg3 hb3 bx3 hlk
            go_wp2
            refine bodyPost_ret (v := .agg #[.slice A3 (xs.length + ys.length + 1) c3]) (by simp [results, Try.results71, go_sem, hcr]) rfl ⟨?_, _, ?_, rfl⟩
            · exact ((((Below.refl _ _).alloc (Nat.le_refl _) _).trans (Hb9.out.mono (by omega))).setCell (by show w.heap.size ≤ w1.heap.size; omega) _).setCell (by show w.heap.size ≤ w.heap.size; omega) _
            · rw [Hj.out, ← HL.out]
              unfold OwnRules
              rw [e9]
              have h5 := Own9.out
              unfold OwnRules at h5
              rw [e9] at h5
              have h6 := ownsRow_setCell_other (a := ⟨w1.heap.size, 0, none⟩) h5 (Hbx3.out.not_row (by decide) h5).symm (.slice A3 (xs.length + ys.length + 1) c3)
              have h7 := ownsRow_setCell_below (a := ⟨w.heap.size, 0, none⟩) h6 (by show w.heap.size < w.heap.size + 1; omega) (.slice A3 (xs.length + ys.length + 1) c3)
              exact ownsRow_more h7 (by omega)
end Go.Proofs.Ytfapnipmgmpgaaa

namespace Go.Proofs.Ytfapnipmgmpgaaa
open Go.RowKit

theorem raiseR_letter (n : Nat) (r : GRule) : (raiseR n r).letter = r.letter := by unfold raiseR; split <;> rfl
theorem joinG_small {xs ys : List GRule} (h : SmallL xs) (h' : SmallL ys) : SmallL (joinG xs ys) := by
  unfold joinG
  split
  · exact h'
  split
  · exact h
  rename_i h0 h0'
  intro r hr
  rcases List.mem_append.1 hr with hr | hr
  · rcases List.mem_append.1 hr with hr | hr
    · exact h r hr
    · obtain ⟨a, ha, rfl⟩ := List.mem_map.1 hr
      rw [raiseR_letter]; exact h' a ha
  · rw [List.mem_singleton] at hr; subst hr; exact (by decide : (0 : Nat) ≤ 9223372036854775807)

end Go.Proofs.Ytfapnipmgmpgaaa

namespace Go.Proofs.Ytfapnipmgmpgaaa
open Go.RowKit

section
variable {α : Type} {E : Enc α} {w w1 w2 : World} {o : Obj} {v : Value} {xs : List α}
theorem slUp0 (h : Sl E w w.heap.size v xs) : Sl E w.drew w.drew.heap.size v xs := SlS.dr h
theorem szS (hb : Below (w.alloc o).heap.size (w.alloc o) w1) : w.heap.size < w1.heap.size := Nat.lt_of_lt_of_le (by simp) hb.size
theorem szS0 (hb : Below (w.drew.alloc o).heap.size (w.drew.alloc o) w1) : w.heap.size < w1.heap.size := szS (w := w.drew) hb
theorem bSt {N : Nat} {w0 : World} (h : Below N w0 w) (hN : N ≤ w.heap.size) (hb : Below w.heap.size w w1) : Below N w0 w1 := h.trans (hb.mono hN)
theorem bStA {N : Nat} {w0 : World} (h : Below N w0 w) (hN : N ≤ w.heap.size) (hb : Below (w.alloc o).heap.size (w.alloc o) w1) : Below N w0 w1 := (h.alloc hN o).trans (hb.mono (by simp; omega))
theorem slSet {base b : Nat} {v u : Value} {xs : List GRule} (h : OwnRules w base v xs) (hb : b < base) : Sl RuleE (w.setCell ⟨b, 0, none⟩ u) (w.setCell ⟨b, 0, none⟩ u).heap.size v xs := OwnRules.sl (base := base) (ownsRow_setCell_below h hb _)
theorem cellNew {t : TypeId} {u : Value} (hb : Below (w.alloc (Obj.cells #[u] t)).heap.size (w.alloc (Obj.cells #[u] t)) w1) : w1.cell? ⟨w.heap.size, 0, none⟩ = some u := (hb.cell (p := ⟨w.heap.size, 0, none⟩) (by simp)).trans (by simp [go_sem])
theorem cellNew0 {t : TypeId} {u : Value} (hb : Below (w.drew.alloc (Obj.cells #[u] t)).heap.size (w.drew.alloc (Obj.cells #[u] t)) w1) : w1.cell? ⟨w.heap.size, 0, none⟩ = some u := cellNew (w := w.drew) hb
theorem cellUpA {b : Nat} {u : Value} (h : w.cell? ⟨b, 0, none⟩ = some u) (hlt : b < w.heap.size) (hb : Below w.heap.size w w1) : w1.cell? ⟨b, 0, none⟩ = some u := (hb.cell (p := ⟨b, 0, none⟩) hlt).trans h
theorem cellSet {b : Nat} {u u' : Value} (h : w.cell? ⟨b, 0, none⟩ = some u) : (w.setCell ⟨b, 0, none⟩ u').cell? ⟨b, 0, none⟩ = some u' := by simp [go_sem, h]
theorem cellAl {t : TypeId} {u : Value} : (w.alloc (Obj.cells #[u] t)).cell? ⟨w.heap.size, 0, none⟩ = some u := by simp [go_sem]
theorem leDr : w.heap.size ≤ w.drew.heap.size := Nat.le_refl _
theorem leDrA : w.heap.size ≤ (w.drew.alloc o).heap.size := Nat.le_trans (leDr (w := w)) (by simp)
theorem leA : w.heap.size ≤ (w.alloc o).heap.size := by simp
theorem slA (h : Sl E w w.heap.size v xs) : Sl E (w.alloc o) (w.alloc o).heap.size v xs := (h.below ((Below.refl _ _).alloc (Nat.le_refl _) _)).le (by simp)
theorem slUp1 (h : Sl E w w.heap.size v xs) : Sl E (w.drew.alloc o) (w.drew.alloc o).heap.size v xs := slA (slUp0 h)
theorem slUp2 (h : Sl E w w.heap.size v xs) (hb : Below w.drew.heap.size w.drew w1) : Sl E w1 w1.heap.size v xs := SlS.up (slUp0 h) hb
theorem slUp3 (h : Sl E w w.heap.size v xs) (hb : Below w.drew.heap.size w.drew w1) : Sl E (w1.alloc o) (w1.alloc o).heap.size v xs := slA (slUp2 h hb)
theorem slUp4 (h : Sl E w w.heap.size v xs) (hb : Below (w.drew.alloc o).heap.size (w.drew.alloc o) w1) : Sl E w1 w1.heap.size v xs := SlS.up (slUp1 h) hb
theorem slUp5 {base : Nat} {v : Value} {xs : List GRule} (h : OwnRules w base v xs) (hb : Below w.heap.size w w1) : Sl RuleE w1 w1.heap.size v xs := (h.sl).up hb
theorem slUp6 {base : Nat} {v : Value} {xs : List GRule} (h : OwnRules w base v xs) (hb : Below w.heap.size w w1) : Sl RuleE (w1.alloc o) (w1.alloc o).heap.size v xs := slA (slUp5 h hb)
theorem slUp7 {base : Nat} {v : Value} {xs : List GRule} (h : OwnRules w base v xs) (hb : Below (w.alloc o).heap.size (w.alloc o) w1) : Sl RuleE w1 w1.heap.size v xs := SlS.up (slA h.sl) hb
theorem slUp8 {base : Nat} {v : Value} {xs : List GRule} (h : OwnRules w base v xs) : Sl RuleE (w.alloc o) (w.alloc o).heap.size v xs := slA h.sl
end

theorem joinOut_len (xs ys : List GRule) : (joinOut xs ys).length ≤ 1048576 := by
  unfold joinOut limOut
  split
  · split
    · rename_i h; have := (gram_lens h).1; omega
    · simp
  · simp
theorem markGrammarI (base : Nat) (v : Value) (xs : List GRule) (k : Nat) (q : Int) (w : World) (hq : q = k) (h : OwnRules w base v xs) (hn : xs.length ≤ 1099511627776) (hk : k ≤ 1099511627776) :
    Calls Try.prog 26 #[.agg #[v], .int .i64 q] w fun e w' => e = .returned (.int .i64 ((k + 3 * xs.length : Nat) : Int)) ∧ OwnRules w' base v (marks k xs.length) ∧ w.grownBy w' v.ownBlock := by
  subst hq
  exact markGrammar_any base v xs k w h hn hk

end Go.Proofs.Ytfapnipmgmpgaaa

namespace Go.Proofs.Ytfapnipmgmpgaaa
open Go.RowKit

theorem szA_le2 {a : GAuto} (h : 0 ≤ szA a 1048576) : szA a 1048576 ≤ 1048576 := by
  unfold szA at *
  split at h
  · omega
  · rename_i h1
    split at h
    · omega
    · rename_i h2
      rw [if_neg h1, if_neg h2]
      have h3 : szN a.finals.length 1048576 ≤ 1048576 := by unfold szN; split <;> omega
      have := szII_le a.next (szN a.finals.length 1048576) (by omega)
      omega
theorem keep5 {wr W W2 : World} {p q : Nat} {a0 a1 a2 a3 b0 : Value}
    (h : Below wr.heap.size wr W ∧ W.cell? ⟨p, 0, none⟩ = some a0 ∧ W.cell? ⟨p, 1, none⟩ = some a1 ∧ W.cell? ⟨p, 2, none⟩ = some a2 ∧ W.cell? ⟨p, 3, none⟩ = some a3 ∧ W.cell? ⟨q, 0, none⟩ = some b0)
    (h2 : Below W.heap.size W W2) (hp : p < wr.heap.size) (hq : q < wr.heap.size) :
    Below wr.heap.size wr W2 ∧ W2.cell? ⟨p, 0, none⟩ = some a0 ∧ W2.cell? ⟨p, 1, none⟩ = some a1 ∧ W2.cell? ⟨p, 2, none⟩ = some a2 ∧ W2.cell? ⟨p, 3, none⟩ = some a3 ∧ W2.cell? ⟨q, 0, none⟩ = some b0 := by
  obtain ⟨h1, x0, x1, x2, x3, y0⟩ := h
  have A := Box4.up ⟨x0, x1, x2, x3⟩ h2 (Nat.lt_of_lt_of_le hp h1.size)
  exact ⟨h1.trans (h2.mono h1.size), A.1, A.2.1, A.2.2.1, A.2.2.2, (h2.cell (p := ⟨q, 0, none⟩) (Nat.lt_of_lt_of_le hq h1.size)).trans y0⟩
theorem keep2 {wr W W2 : World} {p q : Nat} {a0 b0 : Value}
    (h : Below wr.heap.size wr W ∧ W.cell? ⟨p, 0, none⟩ = some a0 ∧ W.cell? ⟨q, 0, none⟩ = some b0)
    (h2 : Below W.heap.size W W2) (hp : p < wr.heap.size) (hq : q < wr.heap.size) :
    Below wr.heap.size wr W2 ∧ W2.cell? ⟨p, 0, none⟩ = some a0 ∧ W2.cell? ⟨q, 0, none⟩ = some b0 := by
  obtain ⟨h1, x0, y0⟩ := h
  exact ⟨h1.trans (h2.mono h1.size), (h2.cell (p := ⟨p, 0, none⟩) (Nat.lt_of_lt_of_le hp h1.size)).trans x0, (h2.cell (p := ⟨q, 0, none⟩) (Nat.lt_of_lt_of_le hq h1.size)).trans y0⟩
theorem autoA {w : World} {v : Value} {a : GAuto} {o : Obj} (h : AutoV w w.heap.size v a) : AutoV (w.alloc o) (w.alloc o).heap.size v a := (h.below ((Below.refl _ _).alloc (Nat.le_refl _) o)).le (by simp)
theorem drewB {w : World} : Below w.heap.size w w.drew := Below.drew (Below.refl _ _)

end Go.Proofs.Ytfapnipmgmpgaaa

namespace Go.Proofs.Ytfapnipmgmpgaaa
open Go.RowKit

/-- n is among xs. -/
def hasB (xs : List Int) (n : Int) : Bool := xs.any (fun x => n == x)
end Go.Proofs.Ytfapnipmgmpgaaa

namespace Go.Proofs.Ytfapnipmgmpgaaa
open Go.RowKit

theorem autoOk_start {a : GAuto} (h : autoOk a = true) : 0 ≤ a.start ∧ a.start < a.next.length := by
  have h1 := (autoOk_get h).2.2.1
  unfold autoOk at h
  simp only [Bool.and_eq_true] at h
  have h2 := h.1.1.2
  simp only [inR, Bool.and_eq_true, decide_eq_true_eq] at h2
  omega
def agV (a : GAuto) (xs : List GRule) : Bool := if autoOk a && gramOk xs then hasB a.finals (endS a.next xs a.start.toNat : Nat) else false
def agC (a : GAuto) (xs : List GRule) : Int := if autoOk a && gramOk xs then 0 else 1
theorem keep3c {wr W W2 : World} {p : Nat} {a1 a2 a3 : Value}
    (h : Below wr.heap.size wr W ∧ W.cell? ⟨p, 1, none⟩ = some a1 ∧ W.cell? ⟨p, 2, none⟩ = some a2 ∧ W.cell? ⟨p, 3, none⟩ = some a3)
    (h2 : Below W.heap.size W W2) (hp : p < wr.heap.size) :
    Below wr.heap.size wr W2 ∧ W2.cell? ⟨p, 1, none⟩ = some a1 ∧ W2.cell? ⟨p, 2, none⟩ = some a2 ∧ W2.cell? ⟨p, 3, none⟩ = some a3 := by
  obtain ⟨h1, x1, x2, x3⟩ := h
  have hlt := Nat.lt_of_lt_of_le hp h1.size
  have k : ∀ {o : Nat} {v : Value}, W.cell? ⟨p, o, none⟩ = some v → W2.cell? ⟨p, o, none⟩ = some v := fun {o v} hc => (h2.cell (p := ⟨p, o, none⟩) hlt).trans hc
  exact ⟨h1.trans (h2.mono h1.size), k x1, k x2, k x3⟩
theorem keep9 {wr W W2 : World} {p q : Nat} {c0 c1 c2 c3 c4 c5 c6 a1 a2 : Value}
    (h : Below wr.heap.size wr W ∧ W.cell? ⟨p, 0, none⟩ = some c0 ∧ W.cell? ⟨p, 1, none⟩ = some c1 ∧ W.cell? ⟨p, 2, none⟩ = some c2 ∧ W.cell? ⟨p, 3, none⟩ = some c3 ∧ W.cell? ⟨p, 4, none⟩ = some c4 ∧ W.cell? ⟨p, 5, none⟩ = some c5 ∧ W.cell? ⟨p, 6, none⟩ = some c6 ∧ W.cell? ⟨q, 1, none⟩ = some a1 ∧ W.cell? ⟨q, 2, none⟩ = some a2)
    (h2 : Below W.heap.size W W2) (hp : p < wr.heap.size) (hq : q < wr.heap.size) :
    Below wr.heap.size wr W2 ∧ W2.cell? ⟨p, 0, none⟩ = some c0 ∧ W2.cell? ⟨p, 1, none⟩ = some c1 ∧ W2.cell? ⟨p, 2, none⟩ = some c2 ∧ W2.cell? ⟨p, 3, none⟩ = some c3 ∧ W2.cell? ⟨p, 4, none⟩ = some c4 ∧ W2.cell? ⟨p, 5, none⟩ = some c5 ∧ W2.cell? ⟨p, 6, none⟩ = some c6 ∧ W2.cell? ⟨q, 1, none⟩ = some a1 ∧ W2.cell? ⟨q, 2, none⟩ = some a2 := by
  obtain ⟨h1, x0, x1, x2, x3, x4, x5, x6, y1, y2⟩ := h
  have k : ∀ {b o : Nat} {v : Value}, b < wr.heap.size → W.cell? ⟨b, o, none⟩ = some v → W2.cell? ⟨b, o, none⟩ = some v := fun {b o v} hlt hc => (h2.cell (p := ⟨b, o, none⟩) (Nat.lt_of_lt_of_le hlt h1.size)).trans hc
  exact ⟨h1.trans (h2.mono h1.size), k hp x0, k hp x1, k hp x2, k hp x3, k hp x4, k hp x5, k hp x6, k hq y1, k hq y2⟩
theorem keep9D {W : World} {p q : Nat} {c0 c1 c2 c3 c4 c5 c6 a1 a2 : Value} (h : Box7 W p c0 c1 c2 c3 c4 c5 c6) (h1 : W.cell? ⟨q, 1, none⟩ = some a1) (h2 : W.cell? ⟨q, 2, none⟩ = some a2) :
    Below W.heap.size W W.drew ∧ W.drew.cell? ⟨p, 0, none⟩ = some c0 ∧ W.drew.cell? ⟨p, 1, none⟩ = some c1 ∧ W.drew.cell? ⟨p, 2, none⟩ = some c2 ∧ W.drew.cell? ⟨p, 3, none⟩ = some c3 ∧ W.drew.cell? ⟨p, 4, none⟩ = some c4 ∧ W.drew.cell? ⟨p, 5, none⟩ = some c5 ∧ W.drew.cell? ⟨p, 6, none⟩ = some c6 ∧ W.drew.cell? ⟨q, 1, none⟩ = some a1 ∧ W.drew.cell? ⟨q, 2, none⟩ = some a2 :=
  ⟨drewB, h.1, h.2.1, h.2.2.1, h.2.2.2.1, h.2.2.2.2.1, h.2.2.2.2.2.1, h.2.2.2.2.2.2, h1, h2⟩
theorem keep3D {W : World} {p : Nat} {a1 a2 a3 : Value} (h1 : W.cell? ⟨p, 1, none⟩ = some a1) (h2 : W.cell? ⟨p, 2, none⟩ = some a2) (h3 : W.cell? ⟨p, 3, none⟩ = some a3) :
    Below W.heap.size W W.drew ∧ W.drew.cell? ⟨p, 1, none⟩ = some a1 ∧ W.drew.cell? ⟨p, 2, none⟩ = some a2 ∧ W.drew.cell? ⟨p, 3, none⟩ = some a3 := ⟨drewB, h1, h2, h3⟩

end Go.Proofs.Ytfapnipmgmpgaaa

namespace Go.Proofs.Ytfapnipmgmpgaaa
open Go.RowKit

/-- The rules by which the first n letters of a rule's word are read. -/
def aftR (xs : List GRule) (ls : List Int) : Nat → Nat → Int → List Nat
  | 0, _, _ => []
  | f + 1, r, n => if n ≤ 0 then [] else if n = ls.getD r 0 then [r] else
      if ls.getD (getR xs r).left.toNat 0 ≤ n then (getR xs r).left.toNat :: aftR xs ls f (getR xs r).right.toNat (n - ls.getD (getR xs r).left.toNat 0) else aftR xs ls f (getR xs r).left.toNat n
theorem aftR_done (xs : List GRule) (ls : List Int) (f r : Nat) {n : Int} (h : n ≤ 0) : aftR xs ls f r n = [] := by
  cases f with
  | zero => rfl
  | succ f => rw [aftR, if_pos h]
theorem coverR_out (xs : List GRule) (ls : List Int) (i : Int) (f r : Nat) {j p : Int} (h : j ≤ p) : coverR xs ls i j f r p = [] := by
  cases f with
  | zero => rfl
  | succ f => rw [coverR, if_pos (Or.inr h)]
theorem cover_aft {xs : List GRule} {ls : List Int} (hl : lens xs = some ls) : ∀ (f r : Nat) (p n : Int), r < f → r < xs.length → 0 ≤ p → n ≤ ls.getD r 0 → coverR xs ls 0 (p + n) f r p = aftR xs ls f r n := by
  intro f
  induction f with
  | zero => intro r p n hr; omega
  | succ f ih =>
    intro r p n hr hx hp hn
    have h1 := lens_pos' hl hx
    by_cases c1 : n ≤ 0
    · rw [aftR_done _ _ _ _ c1, coverR_out _ _ _ _ _ (by omega)]
    rw [coverR, aftR, if_neg (by omega), if_neg c1]
    by_cases c2 : n = ls.getD r 0
    · rw [if_pos ⟨hp, by omega⟩, if_pos c2]
    rw [if_neg (by omega), if_neg c2]
    cases hpair : (getR xs r).pair with
    | false => have := lens_letter hl hx hpair; omega
    | true =>
      obtain ⟨q1, q2, q3, q4, q5⟩ := lens_pair hl hx hpair
      have hL := lens_pos' hl (r := (getR xs r).left.toNat) (by omega)
      by_cases c3 : ls.getD (getR xs r).left.toNat 0 ≤ n
      · rw [if_pos c3]
        obtain ⟨g, rfl⟩ : ∃ g, f = g + 1 := ⟨f - 1, by omega⟩
        have e1 : coverR xs ls 0 (p + n) (g + 1) (getR xs r).left.toNat p = [(getR xs r).left.toNat] := by
          rw [coverR, if_neg (by omega), if_pos ⟨hp, by omega⟩]
        have e2 := ih (getR xs r).right.toNat (p + ls.getD (getR xs r).left.toNat 0) (n - ls.getD (getR xs r).left.toNat 0) (by omega) (by omega) (by omega) (by omega)
        rw [show p + ls.getD (getR xs r).left.toNat 0 + (n - ls.getD (getR xs r).left.toNat 0) = p + n by omega] at e2
        rw [e1, e2]; rfl
      · rw [if_neg c3, ih _ _ _ (by omega) (by omega) hp (by omega), coverR_out _ _ _ _ _ (by omega), List.append_nil]
theorem pieces_aft {xs : List GRule} {ls : List Int} (hl : lens xs = some ls) {n : Int} (hn : n ≤ lastI ls) (h0 : 0 < xs.length) : piecesL xs ls 0 n = aftR xs ls xs.length (xs.length - 1) n := by
  have hll := lens_length hl
  have e : lastI ls = ls.getD (xs.length - 1) 0 := by rw [lastI, hll]
  have := cover_aft hl xs.length (xs.length - 1) 0 n (by omega) (by omega) (by omega) (by omega)
  rw [show (0 : Int) + n = n by omega] at this
  rw [← this]
  unfold piecesL
  by_cases hn0 : 0 < n
  · rw [if_pos ⟨h0, hn0⟩]
  · rw [if_neg (by omega), coverR_out _ _ _ _ _ (by omega)]

theorem wpB {C : Prop} [Decidable C] (h : C) : decide C = true := by simp [h]
/-- What the loop of l04After keeps. -/
def AftInv (xs : List GRule) (ls : List Int) (maps : List (List Int)) (n T : Nat) (r : Int) (s : Nat) (m : Int) : Prop :=
  s < n ∧ ((m ≤ 0 ∧ s = T) ∨ (0 < m ∧ ∃ rn f : Nat, r = rn ∧ rn < f ∧ rn < xs.length ∧ m ≤ ls.getD rn 0 ∧ (aftR xs ls f rn m).foldl (stepM maps) s = T))
theorem AftInv.fin {xs : List GRule} {ls : List Int} {maps : List (List Int)} {n T s : Nat} {r m : Int} (h : AftInv xs ls maps n T r s m) (hm : m ≤ 0) : s = T := by
  rcases h.2 with h | h <;> omega
theorem AftInv.get {xs : List GRule} {ls : List Int} {maps : List (List Int)} {n T s : Nat} {r m : Int} (h : AftInv xs ls maps n T r s m) (hm : 0 < m) (hl : lens xs = some ls) (hok : RowsOk n maps) (hml : maps.length = xs.length) :
    ∃ rn : Nat, r = rn ∧ rn < xs.length ∧ ((m = ls.getD rn 0 ∧ stepM maps s rn = T) ∨ (m ≠ ls.getD rn 0 ∧ ∃ a b : Nat, (getR xs rn).left = a ∧ (getR xs rn).right = b ∧ a < rn ∧ b < rn ∧
      ((ls.getD a 0 ≤ m ∧ AftInv xs ls maps n T b (stepM maps s a) (m - ls.getD a 0)) ∨ (m < ls.getD a 0 ∧ AftInv xs ls maps n T a s m)))) := by
  rcases h.2 with h2 | ⟨_, rn, f, rfl, hf, hx, hle, hT⟩
  · omega
  refine ⟨rn, rfl, hx, ?_⟩
  obtain ⟨g, rfl⟩ : ∃ g, f = g + 1 := ⟨f - 1, by omega⟩
  rw [aftR, if_neg (by omega)] at hT
  by_cases c2 : m = ls.getD rn 0
  · rw [if_pos c2] at hT
    exact Or.inl ⟨c2, hT⟩
  rw [if_neg c2] at hT
  refine Or.inr ⟨c2, ?_⟩
  cases hpair : (getR xs rn).pair with
  | false => have := lens_letter hl hx hpair; omega
  | true =>
    obtain ⟨q1, q2, q3, q4, q5⟩ := lens_pair hl hx hpair
    refine ⟨(getR xs rn).left.toNat, (getR xs rn).right.toNat, by omega, by omega, q2, q4, ?_⟩
    have hs := h.1
    by_cases c3 : ls.getD (getR xs rn).left.toNat 0 ≤ m
    · rw [if_pos c3, List.foldl_cons] at hT
      have hst : stepM maps s (getR xs rn).left.toNat < n := by
        have := (hok (getR xs rn).left.toNat (by omega)).2 s hs
        unfold stepM; omega
      refine Or.inl ⟨c3, hst, ?_⟩
      by_cases c4 : m - ls.getD (getR xs rn).left.toNat 0 ≤ 0
      · rw [aftR_done _ _ _ _ c4] at hT
        exact Or.inl ⟨c4, hT⟩
      · exact Or.inr ⟨by omega, _, g, rfl, by omega, by omega, by omega, hT⟩
    · rw [if_neg c3] at hT
      exact Or.inr ⟨by omega, hs, Or.inr ⟨hm, _, g, rfl, by omega, by omega, by omega, hT⟩⟩

end Go.Proofs.Ytfapnipmgmpgaaa

namespace Go.Proofs.Ytfapnipmgmpgaaa
open Go.RowKit

/-- What StateAfter answers. -/
def saC (a : GAuto) (n : Int) (xs : List GRule) : Int := if autoOk a && gramOk xs then if inR n 0 (gramLen xs) then 0 else 2 else 1
def saV (a : GAuto) (n : Int) (xs : List GRule) : Int := if saC a n xs = 0 then ((aftR xs ((lens xs).getD []) xs.length (xs.length - 1) n).foldl (stepM (mapsOf a.next xs)) a.start.toNat : Nat) else 0
theorem aft_pieces {xs : List GRule} {ls : List Int} (hl : lens xs = some ls) {n : Int} (hn : n ≤ lastI ls) : piecesL xs ls 0 n = aftR xs ls xs.length (xs.length - 1) n := by
  by_cases hx : 0 < xs.length
  · exact pieces_aft hl hn hx
  · have e : xs.length = 0 := by omega
    rw [e, aftR, piecesL, if_neg (by omega)]

theorem keepG3 {wr W W2 : World} {p q r : Addr} {a b c : Value} (h : Below wr.heap.size wr W ∧ W.cell? p = some a ∧ W.cell? q = some b ∧ W.cell? r = some c) (h2 : Below W.heap.size W W2)
    (hp : p.block < wr.heap.size) (hq : q.block < wr.heap.size) (hr : r.block < wr.heap.size) : Below wr.heap.size wr W2 ∧ W2.cell? p = some a ∧ W2.cell? q = some b ∧ W2.cell? r = some c :=
  ⟨h.1.trans (h2.mono h.1.size), (h2.cell (Nat.lt_of_lt_of_le hp h.1.size)).trans h.2.1, (h2.cell (Nat.lt_of_lt_of_le hq h.1.size)).trans h.2.2.1, (h2.cell (Nat.lt_of_lt_of_le hr h.1.size)).trans h.2.2.2⟩
end Go.Proofs.Ytfapnipmgmpgaaa

