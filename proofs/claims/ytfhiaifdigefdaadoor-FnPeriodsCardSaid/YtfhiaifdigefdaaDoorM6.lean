import Derived.Test.YtfhiaifdigefdaaDoorM2
import Derived.Test.YtfhiaifdigefdaaDoorM1
import Derived.Test.YtfhiaifdigefdaaDoorM5
import Derived.Test.YtfhiaifdigefdaaDoorM3
import Derived.Deep.CutRange
import Derived.Deep.DeepCutAuto
import Derived.Test.YtfhiaifdigefdaaDoorM4
import Derived.BigQuiet
import Derived.Lib.Builder
import Derived.Laws.Bits64b
import Derived.Deep.CutBlock
import Derived.Shelf.Strings.BuilderK
import Derived.Laws.EntriesVeiled
namespace Go.Proofs.YtfhiaifdigefdaaDoor
open Go.RowKit
set_option maxRecDepth 100000 in
set_option maxHeartbeats 2000000 in
theorem l02Letter_any (b o : Nat) (vR vL : Value) (xs : List GRule) (ls : List Int) (i : Int) (c : UInt8) (w : World) (hp : w.cell? ⟨b, o, none⟩ = some vR) (hR : Sl RuleE w w.heap.size vR xs) (hL : Sl IntE w w.heap.size vL ls)
    (hl : lens xs = some ls) (hn : xs.length ≤ 1099511627776) (hi : 0 ≤ i) (hc : (wordG xs)[i.toNat]? = some c) :
    Calls Tryd.prog 72 #[.pointer (some ⟨b, o, none⟩), vL, .int .i64 i] w fun e w' => e = .returned (.int .u8 c.toNat) ∧ w = w' := by
  have h0 : 0 < xs.length := by
    refine Nat.pos_of_ne_zero fun e => ?_
    have hx : xs = [] := List.eq_nil_of_length_eq_zero e
    subst hx
    simp [wordG] at hc
  have hll := lens_length hl
  rw [wordG_pos h0] at hc
  have hlt := (List.getElem?_eq_some_iff.1 hc).1
  have hWl := W1_len hl (xs.length - 1) (by omega)
  obtain ⟨AR, cR, rfl, _, hmR, hrowR⟩ := hR
  obtain ⟨AL, cL, rfl, _, hmL, hrowL⟩ := hL
  unfold maxLen at hmR hmL
  obtain ⟨bR, oR, rfl, hbR, hcR⟩ := hrowR.rule h0
  obtain ⟨bL, oL, rfl, hbL, hcL⟩ := hrowL.int (k := 0) (by omega)
  have HcR := Lib.hid hcR
  have HcL := Lib.hid hcL
  have Hll := Lib.hid hll
  have Hl := Lib.hid hl
  have hm1 : (xs.length : Int) - 1 = ((xs.length - 1 : Nat) : Int) := by omega
  obtain ⟨m, hm⟩ : ∃ m, xs.length - 1 = m := ⟨_, rfl⟩
  rw [hm] at hm1 hc hlt hWl
  have hmx : m < xs.length := by omega
  have Hc := Lib.hid hc
  have hq0 : i < ls.getD m 0 := by omega
  have Hq0 := Lib.hid hq0
  have Hm1 := Lib.hid hm1
  clear hrowR hrowL hcR hcL hll hl hc hlt hWl hm hq0
  go_enter Tryd.func72, Tryd.ntmps72
  go_wp2_with fail
  go_loopw [2, 7] (fun q a wx => ∃ (r : Nat) (z : Int), r < xs.length ∧ a = .int .i64 (r : Int) ∧ q = .int .i64 z ∧ 0 ≤ z ∧ z < ls.getD r 0 ∧ (W1 xs r)[z.toNat]? = some c ∧ wx = w) (fun _ a _ => (intOf a).toNat)
  case atStart => exact ⟨m, i, hmx, rfl, rfl, hi, Hq0.out, Hc.out, rfl⟩
  case round =>
    obtain ⟨r, z, hr, rfl, rfl, hz, hzl, hw, rfl⟩ := hrel
    obtain ⟨k0, k1, k2⟩ := HcR.out r _ (getR_at hr)
    have hri : (r : Int) < (xs.length : Int) := by omega
    have Hw := Lib.hid hw
    have Hzl := Lib.hid hzl
    obtain ⟨R, hR⟩ : ∃ R, getR xs r = R := ⟨_, rfl⟩
    rw [hR] at k0 k1 k2
    have HR := Lib.hid hR
    clear hw hzl hR hm1
    by_cases hp2 : R.letter.toList.isEmpty = true
    · have hpr : (getR xs r).pair = true := by rw [HR.out]; rw [isEmpty_size] at hp2; exact hp2
      obtain ⟨q1, q2, q3, q4, q5⟩ := lens_pair Hl.out hr hpr
      have hW := W1_pair Hl.out hr hpr
      rw [HR.out] at q1 q2 q3 q4 q5 hW
      obtain ⟨la, hla⟩ := Int.eq_ofNat_of_zero_le q1
      obtain ⟨ra, hra⟩ := Int.eq_ofNat_of_zero_le q3
      rw [hla] at q2 k1
      rw [hra] at q4 k2
      rw [hla, hra] at hW q5
      simp only [Int.toNat_natCast] at q2 q4 q5 hW
      have hlw := W1_len Hl.out la (by omega)
      have cl := HcL.out la (by have := Hll.out; omega)
      have hli : (la : Int) < (ls.length : Int) := by have := Hll.out; omega
      have hpl := lens_pos' Hl.out (r := la) (by omega)
      have hpr2 := lens_pos' Hl.out (r := r) hr
      obtain ⟨LA, hLA⟩ : ∃ x, ls.getD la 0 = x := ⟨_, rfl⟩
      rw [hLA] at cl hlw hpl q5
      have HLA := Lib.hid hLA
      have Hq5 := Lib.hid q5
      have Hlw := Lib.hid hlw
      have HW := Lib.hid hW
      have hzb : z ≤ 1000000000000000 := by have := Hzl.out; omega
      clear hpr q1 q3 hla hra hLA q5 hlw hW hpr2
      by_cases hc1 : z < LA
      · go_wp2_with fail
        refine ⟨⟨la, z, by omega, rfl, rfl, hz, by rw [HLA.out]; exact hc1, ?_, trivial⟩, by simp [intOf]; omega⟩
        have := Hw.out
        rwa [HW.out, List.getElem?_append_left (by have := Hlw.out; omega)] at this
      · go_wp2_with fail
        refine ⟨⟨ra, z - LA, by omega, rfl, rfl, by omega, by have := Hq5.out; have := Hzl.out; omega, ?_, trivial⟩, by simp [intOf]; omega⟩
        have := Hw.out
        rw [HW.out, List.getElem?_append_right (by have := Hlw.out; omega)] at this
        rwa [show z.toNat - (W1 xs la).length = (z - LA).toNat by have := Hlw.out; omega] at this
    · have hp3 : R.letter.toList.isEmpty = false := by simpa using hp2
      have hpr : (getR xs r).pair = false := by rw [HR.out]; rw [isEmpty_size] at hp3; exact hp3
      have hsz := isLet_size (lens_isLet Hl.out hr hpr)
      have hone := lens_letter Hl.out hr hpr
      have hW := W1_let hpr
      rw [HR.out] at hsz hW
      have hz0 : z = 0 := by have := Hzl.out; omega
      have hcc : R.letter.data.toList[0]? = some c := by
        have := Hw.out
        rw [hW, hz0] at this; exact this
      have hs0 : 0 < R.letter.size := by omega
      have hget : R.letter[0]'hs0 = c := by
        rw [toList_getElem? _ _ hs0] at hcc
        exact Option.some.inj hcc
      have Hget := Lib.hid hget
      clear hp2 hpr hone hW hz0 hcc hget
      go_wp2_with fail
      go_ret
      exact ⟨by rw [← Hget.out]; rfl, rfl⟩
theorem cutL_snoc {l : List UInt8} {i z : Int} {c : UInt8} (hi : 0 ≤ i) (hz : i ≤ z) (hc : l[z.toNat]? = some c) : cutL l i (z + 1) = cutL l i z ++ [c] := by
  have hlt := (List.getElem?_eq_some_iff.1 hc).1
  unfold cutL
  rw [show (z + 1).toNat = z.toNat + 1 by omega, List.take_add_one, hc, Option.toList_some, List.drop_append_of_le_length (by rw [List.length_take]; omega)]
theorem cutL_none (l : List UInt8) (i : Int) : cutL l i i = [] := cutL_nil (by omega)
set_option maxRecDepth 100000 in
set_option maxHeartbeats 2000000 in
theorem l02Unpack_any (b o : Nat) (v : Value) (xs : List GRule) (ls : List Int) (i j : Int) (w : World) (hp : w.cell? ⟨b, o, none⟩ = some v) (hbl : b < w.heap.size) (h : Sl RuleE w w.heap.size v xs) (hsm : SmallL xs) (hl : lens xs = some ls)
    (hn : xs.length ≤ 400) (hi : 0 ≤ i) (hij : i ≤ j) (hj : j ≤ lastI ls) (hbig : j - i ≤ 1000000) :
    Calls Tryd.prog 63 #[.pointer (some ⟨b, o, none⟩), .int .i64 i, .int .i64 j] w fun e w' => e = .returned (.string ⟨(cutL (wordG xs) i j).toArray⟩) ∧ Below w.heap.size w w' := by
  have HR := Lib.hid h
  obtain ⟨AR, cR, rfl, _⟩ := h
  have Hl := Lib.hid hl
  have hwl := wordG_len hl
  have hlb := (lastI_bounds hl).2
  have hd4 : decide (xs.length ≤ 400) = true := by simp [hn]
  clear hl
  go_enter Tryd.func63, Tryd.ntmps63
  go_wp2_with fail
  refine (l02Lengths_any _ _ _ xs _ hp hbl HR.out hsm).mono ?_
  rintro e w2 ⟨hb2, v2, ls', rfl, own2, hls⟩
  have e4 : ls' = ls := hls hn ls Hl.out
  subst e4
  obtain ⟨A2, c2, rfl, _⟩ := own_nil own2
  have p2 := (hb2.cell (p := ⟨b, o, none⟩) hbl).trans hp
  have z2 : b < w2.heap.size := Nat.lt_of_lt_of_le hbl hb2.size
  have HL2 := Lib.hid own2.sl
  have HR2 := Lib.hid (HR.out.up hb2)
  have HB2 := Lib.hid hb2
  clear hb2 own2 hls hp
  go_wp2_with fail
  go_loopw [9, 10] (fun q a wx => ∃ (k : Nat) (z : Int) (g c : Nat) (l : List UInt8), z = i + k ∧ z ≤ j ∧ a = .int .i64 z ∧ q = .slice (some ⟨g, 0, none⟩) l.length c ∧ l = cutL (wordG xs) i z ∧ OwnB wx w2.heap.size q l ∧ Below w2.heap.size w2 wx) (fun _ a _ => (j - intOf a).toNat)
  case atStart => exact ⟨0, i, _, 0, [], by omega, hij, rfl, rfl, (cutL_none _ _).symm, OwnB.empty rfl (Nat.le_refl _), (Below.refl _ _).alloc (Nat.le_refl _) _⟩
  case round =>
    obtain ⟨k, z, g, c, l, hz, hzj, rfl, rfl, hlc, hown, hb3⟩ := hrel
    have Hown := Lib.hid hown
    have HB3 := Lib.hid hb3
    have Hlc := Lib.hid hlc
    have hll : (l.length : Int) = z - i := by rw [hlc]; exact cutL_len hi (by omega) (by omega)
    have p3 := (hb3.cell (p := ⟨b, o, none⟩) z2).trans p2
    have HL3 := Lib.hid ((HL2.out.below hb3).le hb3.size)
    have HR3 := Lib.hid ((HR2.out.below hb3).le hb3.size)
    have hcv := OwnB.string hown
    have HLL : Hid (l.length ≤ 1099511627776) := by rw [Hid]; omega
    have hs3 : w2.heap.size ≤ wr.heap.size := hb3.size
    have Hz0 := Lib.hid hz
    have hiz : i ≤ z := by omega
    clear hown hb3 hlc hz
    by_cases hlt : z < j
    · obtain ⟨x, hx⟩ : ∃ x, (wordG xs)[z.toNat]? = some x := ⟨_, List.getElem?_eq_getElem (by omega)⟩
      have Hx := Lib.hid hx
      have Lt := Lib.hid (l02Letter_any b o _ (.slice A2 ls'.length c2) xs ls' z x wr p3 HR3.out HL3.out Hl.out (by omega) (by omega) hx)
      have hzm : z ≤ 1000000000000000 := by omega
      have Hll := Lib.hid hll
      clear hx hcv hll
      go_wp2_with fail
      (with_reducible refine Lt.out.mono ?_)
      rintro e w4 ⟨rfl, rfl⟩
      go_wp2_with (first
        | (at_builtin; refine push_byte (base := w2.heap.size) (v := .slice (some ⟨g, 0, none⟩) l.length c) (l := l) (y := x) rfl _ _ rfl rfl rfl rfl Hown.out HLL.out hs3 ?_; intro v5 w5 own5 hg5 hb5; obtain ⟨g5, c5, rfl⟩ := own5.some_ (by simp)))
      have e5 : (l ++ [x]).length = l.length + 1 := by simp
      refine ⟨⟨k + 1, z + 1, g5, c5, l ++ [x], by have := Hz0.out; omega, by omega, rfl, by rw [e5], ?_, by rw [← e5]; exact own5, HB3.out.trans hb5⟩, by simp [intOf]; omega⟩
      rw [cutL_snoc hi (by omega) Hx.out, Hlc.out]
    · have hzj2 : z = j := by omega
      have Hz := Lib.hid hzj2
      clear hll hzj2
      go_wp2_with fail
      go_ret
      exact ⟨by rw [← Hz.out, ← Hlc.out]; rfl, HB2.out.trans (HB3.out.mono HB2.out.size)⟩
section
variable {α : Type} {E : Enc α} {w w1 w2 : World} {o : Obj} {v : Value} {xs : List α}
end
def ByteE : Enc UInt8 where
  size := 1
  pos := by decide
  cells := fun _ _ x cs => cs = [.int .u8 (x.toNat : Int)]
  len := by rintro _ _ _ _ rfl; rfl
  keep := fun h _ => h
  more := fun h _ => h
  one := by rintro _ _ _ _ rfl; simp [Value.oneCell']
def Src (w : World) (b N : Nat) : Prop :=
  ∃ (AC : Option Addr) (l : List UInt8) (cC a d : Nat), w.heap[b]? = some (.cells #[.slice AC l.length cC, .int .i64 (a : Int), .int .u64 (d : Int)] 78 (0, 0)) ∧ a ≤ N ∧ d < 18446744073709551616 ∧ Sl ByteE w b (.slice AC l.length cC) l
theorem Src.lt {w : World} {b N : Nat} (h : Src w b N) : b < w.heap.size := by
  obtain ⟨AC, l, cC, a, d, h, _⟩ := h
  exact (Array.getElem?_eq_some_iff.1 h).1
theorem Src.more {w : World} {b N M : Nat} (h : Src w b N) (hM : N ≤ M) : Src w b M := by
  obtain ⟨AC, l, cC, a, d, h, h1, h2⟩ := h
  exact ⟨AC, l, cC, a, d, h, Nat.le_trans h1 hM, h2⟩
theorem Src.keep {w w' : World} {b N : Nat} (h : Src w b N) (hb : Below w.heap.size w w') : Src w' b N := by
  have hlt := h.lt
  obtain ⟨AC, l, cC, a, d, h, h1, h2, h3⟩ := h
  exact ⟨AC, l, cC, a, d, (hb.block b hlt).trans h, h1, h2, h3.below (hb.mono (Nat.le_of_lt hlt))⟩
theorem u64_nat (n : Int) : ∃ d : Nat, IntKind.u64.wrap n = (d : Int) ∧ d < 18446744073709551616 := by
  rw [IntKind.wrap_u64]
  refine ⟨(n % 18446744073709551616).toNat, ?_, ?_⟩ <;> omega
theorem Src.stored {w w' : World} {b N a d : Nat} {AC : Option Addr} {l : List UInt8} {cC : Nat} {a' d' : Nat} (hbk : w.heap[b]? = some (.cells #[.slice AC l.length cC, .int .i64 (a : Int), .int .u64 (d : Int)] 78 (0, 0))) (hl : Sl ByteE w b (.slice AC l.length cC) l) (ha : a' ≤ N) (hd : d' < 18446744073709551616)
    (hw : ∃ n m, w' = (((w.drewN n).setCell ⟨b, 1, none⟩ (.int .i64 (a' : Int))).setCell ⟨b, 2, none⟩ (.int .u64 (d' : Int))).drewN m) : Src w' b N ∧ But b w w' := by
  obtain ⟨n, m, rfl⟩ := hw
  have hB : But b w ((((w.drewN n).setCell ⟨b, 1, none⟩ (.int .i64 (a' : Int))).setCell ⟨b, 2, none⟩ (.int .u64 (d' : Int))).drewN m) := ((((But.refl b w).drewN n).setCell _).setCell _).drewN m
  refine ⟨⟨AC, l, cC, a', d', ?_, ha, hd, hl.keep fun k hk => hB.block k (Nat.lt_trans hk (Array.getElem?_eq_some_iff.1 hbk).1) (Nat.ne_of_lt hk)⟩, hB⟩
  simp [World.setCell, World.drewN, Array.getElem?_modify, hbk]
theorem and255 (d : Nat) (hd : d < 18446744073709551616) : ∃ x : Nat, bits .and .u64 ((d : Int) / 1099511627776) 255 = (x : Int) ∧ x ≤ 255 := by
  refine ⟨(d / 1099511627776) &&& 255, ?_, Nat.and_le_right⟩
  have e : (d : Int) / 1099511627776 = ((d / 1099511627776 : Nat) : Int) := by rw [Int.natCast_ediv]; rfl
  rw [e]
  exact bits_and_u64_nat _ 255 (by omega) (by decide)
theorem from_any (v : Value) (l : List UInt8) (w : World) (h : Sl ByteE w w.heap.size v l) :
    Calls Tryd.prog 23 #[v] w fun r w' => ∃ b, r = .returned (.pointer (some ⟨b, 0, none⟩)) ∧ b = w.heap.size ∧ Src w' b 0 ∧ Below w.heap.size w w' := by
  have HS := Lib.hid h
  obtain ⟨A, c, rfl, hc1, hc2, _⟩ := h
  go_enter Tryd.func23, Tryd.ntmps23
  go_wp2
  go_ret
  have hb : Below w.heap.size w (w.alloc (.cells #[.slice A l.length c, .int .i64 0, .int .u64 0] 78)) := (Below.refl _ w).alloc (Nat.le_refl _) _
  exact ⟨_, rfl, rfl, ⟨A, l, c, 0, 0, heap_alloc_new w _, Nat.le_refl _, by decide, HS.out.below hb⟩, hb⟩
set_option maxRecDepth 100000 in
set_option maxHeartbeats 1000000 in
theorem next_any (b N : Nat) (w : World) (h : Src w b N) (hN : N ≤ 1000000) :
    Calls Tryd.prog 53 #[.pointer (some ⟨b, 0, none⟩)] w fun r w' => ∃ x : Nat, r = .returned (.int .i64 (x : Int)) ∧ x ≤ 255 ∧ Src w' b (N + 1) ∧ But b w w' := by
  obtain ⟨AC, l, cC, a, d, hbk, ha, hd, hl⟩ := h
  have c0 : w.cell? ⟨b, 0, none⟩ = some (.slice AC l.length cC) := by rw [Lib.cell_of_heap hbk]; rfl
  have c1 : w.cell? ⟨b, 1, none⟩ = some (.int .i64 (a : Int)) := by rw [Lib.cell_of_heap hbk]; rfl
  have c2 : w.cell? ⟨b, 2, none⟩ = some (.int .u64 (d : Int)) := by rw [Lib.cell_of_heap hbk]; rfl
  have f1 : w.frozen? ⟨b, 1, none⟩ = false := Lib.frozen_of_heap hbk 1
  have f2 : w.frozen? ⟨b, 2, none⟩ = false := Lib.frozen_of_heap hbk 2
  have HB := Lib.hid hbk
  have HL := Lib.hid hl
  obtain ⟨_, _, ev, hc1, hc2, hrow⟩ := hl
  clear hbk
  go_enter Tryd.func53, Tryd.ntmps53
  go_wp2_with fail
  go_quiet (fail)
  by_cases hlt : a < l.length
  · obtain ⟨bc, oc, rfl, hbc, hcs⟩ := hrow (by omega)
    obtain ⟨cs, hcs1, hcs2⟩ := hcs a l[a] (List.getElem?_eq_getElem hlt)
    have hcs1' : cs = [.int .u8 (l[a].toNat : Int)] := hcs1
    subst hcs1'
    have hcx := hcs2 0 _ rfl
    have e1 : oc + (a * ByteE.size + 0) = oc + a := by show oc + (a * 1 + 0) = oc + a; omega
    rw [e1] at hcx
    have hx := l[a].toNat_lt
    obtain ⟨x, hxe⟩ : ∃ x, l[a].toNat = x := ⟨_, rfl⟩
    rw [hxe] at hcx hx
    clear hcs hcs1 hcs2 hrow e1 hxe
    have hlI : (a : Int) < (l.length : Int) := by omega
    go_wp2_with fail
    go_quiet (fail)
    go_wp2_with fail
    obtain ⟨d2, hd2, hd2b⟩ := u64_nat (IntKind.u64.wrap (IntKind.u64.wrap ((d : Int) * 6364136223846793005) + (x : Int)) + 1442695040888963407)
    rw [hd2]
    have hle : ((a : Int) + 1) ≤ (l.length : Int) := by omega
    go_wp2_with fail
    go_quiet (fail)
    go_wp2_with fail
    go_ret
    refine ⟨x, rfl, by omega, ?_, ?_⟩
    · exact (Src.stored (N := N + 1) (a' := a + 1) HB.out HL.out (by omega) hd2b ⟨_, _, rfl⟩).1
    · exact (Src.stored (N := N + 1) (a' := a + 1) HB.out HL.out (by omega) hd2b ⟨_, _, rfl⟩).2
  · have hlI : ¬ (a : Int) < (l.length : Int) := by omega
    go_wp2_with fail
    obtain ⟨d2, hd2, hd2b⟩ := u64_nat (IntKind.u64.wrap (IntKind.u64.wrap ((d : Int) * 6364136223846793005)) + 1442695040888963407)
    rw [hd2]
    have hle : ¬ ((a : Int) + 1) ≤ (l.length : Int) := by omega
    obtain ⟨x, hx, hx2⟩ := and255 d2 hd2b
    go_wp2_with fail
    go_quiet (fail)
    go_wp2_with fail
    go_ret
    refine ⟨x, rfl, by omega, ?_, ?_⟩
    · exact (Src.stored (N := N + 1) (a' := a + 1) HB.out HL.out (by omega) hd2b ⟨_, _, rfl⟩).1
    · exact (Src.stored (N := N + 1) (a' := a + 1) HB.out HL.out (by omega) hd2b ⟨_, _, rfl⟩).2
def PickPost (b N : Nat) (n : Int) (w : World) (r : Ending) (w' : World) : Prop := ∃ x : Nat, r = .returned (.int .i64 (x : Int)) ∧ (x = 0 ∨ (x : Int) < n) ∧ x ≤ 65535 ∧ Src w' b (N + 2) ∧ But b w w'
set_option maxRecDepth 100000 in
theorem pick_any (b N : Nat) (n : Int) (w : World) (h : Src w b N) (hN : N ≤ 900000) :
    Calls Tryd.prog 33 #[.pointer (some ⟨b, 0, none⟩), .int .i64 n] w (PickPost b N n w) := by
  have HS := Lib.hid h
  clear h
  go_enter Tryd.func33, Tryd.ntmps33
  by_cases h1 : n ≤ 1
  · go_wp2_with fail
    go_ret
    exact ⟨0, rfl, .inl rfl, by omega, HS.out.more (by omega), But.refl b w⟩
  · go_wp2_with fail
    refine (next_any b N w HS.out (by omega)).mono ?_
    rintro r w1 ⟨x, rfl, hx, hs1, hb1⟩
    have H1 := Lib.hid hs1
    have B1 := Lib.hid hb1
    clear hs1 hb1
    obtain ⟨m, rfl⟩ := Int.eq_ofNat_of_zero_le (show 0 ≤ n by omega)
    have hm : ¬ (m : Int) = 0 := by omega
    by_cases h2 : (200 : Int) < m
    · go_wp2_with fail
      refine (next_any b (N + 1) w1 H1.out (by omega)).mono ?_
      rintro r w2 ⟨y, rfl, hy, hs2, hb2⟩
      have H2 := Lib.hid hs2
      have B2 := Lib.hid hb2
      clear hs2 hb2
      go_wp2_with fail
      go_ret
      refine ⟨(x * 256 + y) % m, ?_, .inr ?_, ?_, H2.out.more (by omega), B1.out.trans B2.out⟩
      · rfl
      · have := Nat.mod_lt (x * 256 + y) (show 0 < m by omega)
        omega
      · have := Nat.mod_le (x * 256 + y) m
        omega
    · go_wp2_with fail
      go_ret
      refine ⟨x % m, ?_, .inr ?_, ?_, H1.out.more (by omega), B1.out⟩
      · rfl
      · have := Nat.mod_lt x (show 0 < m by omega)
        omega
      · have := Nat.mod_le x m
        omega
theorem one_any (b N : Nat) (n : Int) (w : World) (h : Src w b N) (hN : N ≤ 900000) :
    Calls Tryd.prog 44 #[.pointer (some ⟨b, 0, none⟩), .int .i64 n] w fun r w' => ∃ t : Bool, r = .returned (.bool t) ∧ Src w' b (N + 2) ∧ But b w w' := by
  have HS := Lib.hid h
  clear h
  go_enter Tryd.func44, Tryd.ntmps44
  go_wp2_with fail
  refine (pick_any b N n w HS.out hN).mono ?_
  rintro r w1 ⟨x, rfl, _, _, hs1, hb1⟩
  have H1 := Lib.hid hs1
  have B1 := Lib.hid hb1
  clear hs1 hb1
  go_wp2_with fail
  go_ret
  exact ⟨_, rfl, H1.out, B1.out⟩
theorem But.keep {b : Nat} {w w' : World} (h : But b w w') : Keep (fun k => k ≠ b ∧ k < w.heap.size) w w' := fun k hk => h.block k hk.2 hk.1
theorem Src.keepB {w w' : World} {b N B : Nat} (h : Src w b N) (hb : Below B w w') (hB : b < B) : Src w' b N := by
  have hlt := h.lt
  obtain ⟨AC, l, cC, a, d, h, h1, h2, h3⟩ := h
  exact ⟨AC, l, cC, a, d, (hb.block b hB).trans h, h1, h2, h3.below (hb.mono (Nat.le_of_lt hB))⟩
theorem But.up {b B : Nat} {w w1 w2 : World} (h : But b w w1) (hb : Below B w1 w2) (hB : w.heap.size ≤ B) : But b w w2 :=
  ⟨hb.os.trans h.os, hb.tape.trans h.tape, hb.output.trans h.output, Nat.le_trans h.size hb.size, fun k hk hne => (hb.block k (Nat.lt_of_lt_of_le hk hB)).trans (h.block k hk hne)⟩
theorem Boxed.but {b B : Nat} {w w' : World} {t : TypeId} {v : Value} (h : Boxed w B t v) (hb : But b w w') (hne : B ≠ b) : Boxed w' B t v := (hb.block B (Array.getElem?_eq_some_iff.1 h).1 hne).trans h
theorem OwnRules.but {b base : Nat} {w w' : World} {v : Value} {l : List GRule} (h : OwnRules w base v l) (hb : But b w w') (hne : b < base) : OwnRules w' base v l := by
  unfold OwnRules at *
  obtain ⟨h1, h2⟩ := h
  refine ⟨h1, ?_⟩
  rcases h2 with h2 | ⟨g, cap, cur, h3, h4, h5, r⟩
  · exact .inl h2
  · exact .inr ⟨g, cap, cur, h3, h4, (hb.block g (Array.getElem?_eq_some_iff.1 h5).1 (by omega)).trans h5, r⟩
def letG (k : Nat) : List GRule := (List.range k).map fun j => ⟨⟨#[UInt8.ofNat (97 + j)]⟩, 0, 0⟩
theorem letG_len (k : Nat) : (letG k).length = k := by simp [letG]
theorem letG_succ (k : Nat) : letG (k + 1) = letG k ++ [⟨⟨#[UInt8.ofNat (97 + k)]⟩, 0, 0⟩] := by simp [letG, List.range_succ]
def DrawnOk (most : Int) (xs : List GRule) : Prop := gramOk xs = true ∧ 0 < xs.length ∧ (1 ≤ most → gramLen xs ≤ most) ∧ SmallL xs
def DrawnPost (b N : Nat) (most : Int) (w : World) (r : Ending) (w' : World) : Prop :=
  ∃ v xs, r = .returned (.agg #[v]) ∧ SlS RuleE w' (fun k => w.heap.size ≤ k ∧ k < w'.heap.size) v xs ∧ DrawnOk most xs ∧ xs.length ≤ 14 ∧ Src w' b (N + 200) ∧ But b w w'
theorem letG_own {w : World} {base : Nat} {A : Option Addr} {n c k : Nat} {t : ByteArray} (own : OwnRules w base (.slice A (letG k ++ ([⟨t, 0, 0⟩] : List GRule)).length c) (letG k ++ [⟨t, 0, 0⟩])) (ht : t = ⟨#[UInt8.ofNat (97 + k)]⟩) (hn : n = (letG k).length + 1 := by rfl) : OwnRules w base (.slice A n c) (letG (k + 1)) := by
  subst ht; subst hn
  rw [letG_succ]
  have e : (letG k ++ [(⟨⟨#[UInt8.ofNat (97 + k)]⟩, 0, 0⟩ : GRule)]).length = (letG k).length + 1 := by simp
  rw [← e]; exact own
theorem letG_ok (most : Int) (x : Nat) (hx : x ≤ 2) : DrawnOk most (letG (x + 1)) := by
  have h3 : x = 0 ∨ x = 1 ∨ x = 2 := by omega
  rcases h3 with rfl | rfl | rfl
  · refine ⟨by decide, by decide, fun h => ?_, ?_⟩
    · rw [show gramLen (letG (0 + 1)) = 1 by decide]; exact h
    · intro r hr; simp [letG, List.range_succ] at hr; subst hr; decide
  · refine ⟨by decide, by decide, fun h => ?_, ?_⟩
    · rw [show gramLen (letG (1 + 1)) = 1 by decide]; exact h
    · intro r hr; simp [letG, List.range_succ] at hr; rcases hr with rfl | rfl <;> decide
  · refine ⟨by decide, by decide, fun h => ?_, ?_⟩
    · rw [show gramLen (letG (2 + 1)) = 1 by decide]; exact h
    · intro r hr; simp [letG, List.range_succ] at hr; rcases hr with rfl | rfl | rfl <;> decide
structure DrSt (w : World) (b M : Nat) (wx : World) (v : Value) (xs : List GRule) : Prop where
  src : Src wx b M
  but : But b w wx
  b0 : Boxed wx w.heap.size 26 (.slice none 0 0)
  b1 : Boxed wx (w.heap.size + 1) 26 v
  own : OwnRules wx (w.heap.size + 2) v xs
theorem DrSt.pick {w wx w' : World} {b M M' : Nat} {v : Value} {xs : List GRule} (h : DrSt w b M wx v xs) (hb : But b wx w') (hs : Src w' b M') (hlt : b < w.heap.size) : DrSt w b M' w' v xs :=
  ⟨hs, h.but.trans hb, Boxed.but h.b0 hb (by omega), Boxed.but h.b1 hb (by omega), h.own.but hb (by omega)⟩
theorem DrSt.up {w wx w' : World} {b M : Nat} {v : Value} {xs : List GRule} (h : DrSt w b M wx v xs) (hb : Below wx.heap.size wx w') : DrSt w b M w' v xs :=
  ⟨h.src.keep hb, h.but.trans (But.of hb), Boxed.up h.b0 hb (Array.getElem?_eq_some_iff.1 h.b0).1, Boxed.up h.b1 hb (Array.getElem?_eq_some_iff.1 h.b1).1, h.own.below hb⟩
theorem DrSt.lt {w wx : World} {b M : Nat} {v : Value} {xs : List GRule} (h : DrSt w b M wx v xs) : w.heap.size + 1 < wx.heap.size := (Array.getElem?_eq_some_iff.1 h.b1).1
theorem DrSt.put {w wx w' : World} {b M : Nat} {v v' : Value} {xs ys : List GRule} (h : DrSt w b M wx v xs) (hlt : b < w.heap.size) (hb : Below (w.heap.size + 2) wx w') (own : OwnRules w' (w.heap.size + 2) v' ys) : DrSt w b M (w'.setCell ⟨w.heap.size + 1, 0, none⟩ v') v' ys := by
  have h0 : Boxed w' w.heap.size 26 (.slice none 0 0) := Boxed.up h.b0 hb (by omega)
  have h1 : Boxed w' (w.heap.size + 1) 26 v := Boxed.up h.b1 hb (by omega)
  have hb2 : Below (w.heap.size + 1) wx (w'.setCell ⟨w.heap.size + 1, 0, none⟩ v') := (hb.mono (Nat.le_succ _)).setCell (p := ⟨w.heap.size + 1, 0, none⟩) (Nat.le_refl _) _
  exact ⟨h.src.keepB hb2 (by omega), h.but.up hb2 (by omega), Boxed.up h.b0 hb2 (by omega), Boxed.set _ h1, ownsRow_setCell_other (a := ⟨w.heap.size + 1, 0, none⟩) own (Boxed.not_row h1 (by decide) own).symm _⟩
theorem heap_new' {w : World} {o : Obj} {k : Nat} (hk : k = w.heap.size) : (w.alloc o).heap[k]? = some o := by subst hk; exact heap_alloc_new w o
theorem heap_newD {w : World} {o : Obj} {k : Nat} (hk : k = w.heap.size) : (w.alloc o).drew.heap[k]? = some o := by subst hk; exact heap_alloc_new w o
theorem heap_drew {w : World} {o' : Obj} {k : Nat} (h : w.heap[k]? = some o') : w.drew.heap[k]? = some o' := h
theorem heap_up {w : World} {o o' : Obj} {k : Nat} (h : w.heap[k]? = some o') : (w.alloc o).heap[k]? = some o' := by
  have := (Array.getElem?_eq_some_iff.1 h).1
  rw [← h]; simp only [World.alloc]; rw [Array.getElem?_push_lt this, Array.getElem?_eq_getElem this]
theorem grown_at {w w' : World} {row : Option Nat} {k : Nat} {o : Obj} (hg : w.grownBy w' row) (h : w.heap[k]? = some o) (hne : some k ≠ row) : w'.heap[k]? = some o :=
  (Keep.of_grown hg k ⟨(Array.getElem?_eq_some_iff.1 h).1, hne⟩).trans h
theorem one_sl {w : World} {N : Nat} {t : ByteArray} {p q : Int} (h : w.heap[N]? = some (.cells #[.string t, .int .i64 p, .int .i64 q] 42 (0, 0))) : SlS RuleE w (fun _ => True) (.slice (some ⟨N, 0, none⟩) 1 1) [⟨t, p, q⟩] := by
  refine ⟨_, 1, rfl, Nat.le_refl _, by simp [maxLen], fun _ => ⟨N, 0, rfl, trivial, fun k r hk => ⟨r.cells, rfl, fun j u hu => ?_⟩⟩⟩
  have hk0 : k = 0 := by
    have := (List.getElem?_eq_some_iff.1 hk).1
    simp at this; exact this
  subst hk0
  simp at hk
  subst hk
  have hc := Lib.cell_of_heap h (0 + (0 * RuleE.size + j))
  rw [hc]
  simpa [GRule.cells] using hu
structure Boxed3 (w : World) (R : Nat) (t : ByteArray) (p q : Nat) : Prop where
  box : w.heap[R]? = some (.cells #[.string t, .int .i64 (p : Int), .int .i64 (q : Int)] 42 (0, 0))
theorem Boxed3.new (w : World) (t : ByteArray) (p q : Nat) : Boxed3 (w.alloc (.cells #[.string t, .int .i64 (p : Int), .int .i64 (q : Int)] 42)) w.heap.size t p q := ⟨heap_alloc_new w _⟩
theorem Boxed3.but {w w' : World} {R b : Nat} {t : ByteArray} {p q : Nat} (h : Boxed3 w R t p q) (hb : But b w w') (hne : R ≠ b) : Boxed3 w' R t p q := ⟨(hb.block R (Array.getElem?_eq_some_iff.1 h.box).1 hne).trans h.box⟩
theorem Boxed3.up {w w' : World} {R B : Nat} {t : ByteArray} {p q : Nat} (h : Boxed3 w R t p q) (hb : Below B w w') (hlt : R < B) : Boxed3 w' R t p q := ⟨(hb.block R hlt).trans h.box⟩
theorem Boxed3.c0 {w : World} {R : Nat} {t : ByteArray} {p q : Nat} (h : Boxed3 w R t p q) : w.cell? ⟨R, 0, none⟩ = some (.string t) := by rw [Lib.cell_of_heap h.box]; rfl
theorem Boxed3.c1 {w : World} {R : Nat} {t : ByteArray} {p q : Nat} (h : Boxed3 w R t p q) : w.cell? ⟨R, 1, none⟩ = some (.int .i64 (p : Int)) := by rw [Lib.cell_of_heap h.box]; rfl
theorem Boxed3.c2 {w : World} {R : Nat} {t : ByteArray} {p q : Nat} (h : Boxed3 w R t p q) : w.cell? ⟨R, 2, none⟩ = some (.int .i64 (q : Int)) := by rw [Lib.cell_of_heap h.box]; rfl
theorem Boxed3.f1 {w : World} {R : Nat} {t : ByteArray} {p q : Nat} (h : Boxed3 w R t p q) : w.frozen? ⟨R, 1, none⟩ = false := Lib.frozen_of_heap h.box 1
theorem Boxed3.f2 {w : World} {R : Nat} {t : ByteArray} {p q : Nat} (h : Boxed3 w R t p q) : w.frozen? ⟨R, 2, none⟩ = false := Lib.frozen_of_heap h.box 2
theorem Boxed3.set1 {w : World} {R : Nat} {t : ByteArray} {p q : Nat} (h : Boxed3 w R t p q) (n : Nat) : Boxed3 (w.setCell ⟨R, 1, none⟩ (.int .i64 (n : Int))) R t n q := ⟨by simp [World.setCell, Array.getElem?_modify, h.box]⟩
theorem Boxed3.set2 {w : World} {R : Nat} {t : ByteArray} {p q : Nat} (h : Boxed3 w R t p q) (n : Nat) : Boxed3 (w.setCell ⟨R, 2, none⟩ (.int .i64 (n : Int))) R t p n := ⟨by simp [World.setCell, Array.getElem?_modify, h.box]⟩
theorem keepDr {wc W : World} {p R : Nat} {v u0 u1 u2 : Value} (c : wc.cell? ⟨p, 0, none⟩ = some v) (hp : p < wc.heap.size) (r0 : wc.cell? ⟨R, 0, none⟩ = some u0) (r1 : wc.cell? ⟨R, 1, none⟩ = some u1) (r2 : wc.cell? ⟨R, 2, none⟩ = some u2) (hR : R < wc.heap.size) (h : Below wc.heap.size wc W) :
    Below wc.heap.size wc W ∧ W.cell? ⟨p, 0, none⟩ = some v ∧ W.cell? ⟨R, 0, none⟩ = some u0 ∧ W.cell? ⟨R, 1, none⟩ = some u1 ∧ W.cell? ⟨R, 2, none⟩ = some u2 := ⟨h, (h.cell hp).trans c, (h.cell hR).trans r0, (h.cell hR).trans r1, (h.cell hR).trans r2⟩
theorem DrSt.far {w wx : World} {b M R o : Nat} {v : Value} {xs : List GRule} (h : DrSt w b M wx v xs) (hlt : b < w.heap.size) (hR : w.heap.size + 2 ≤ R) (hne : ∀ g, v.ownBlock = some g → g ≠ R) (u : Value) : DrSt w b M (wx.setCell ⟨R, o, none⟩ u) v xs := by
  have hb : Below R wx (wx.setCell ⟨R, o, none⟩ u) := (Below.refl _ _).setCell (p := ⟨R, o, none⟩) (Nat.le_refl _) _
  refine ⟨h.src.keepB hb (by omega), h.but.up hb (by omega), Boxed.up h.b0 hb (by omega), Boxed.up h.b1 hb (by omega), ?_⟩
  exact ownsRow_setCell_other (a := ⟨R, o, none⟩) h.own (fun e => hne _ e rfl) _
theorem hkk {w w9 : World} {k g : Nat} {o : Obj} (hk : ∀ k o, w.heap[k]? = some o → k ≠ g → w9.heap[k]? = some o) (hne : k ≠ g) (h : w.heap[k]? = some o) : w9.heap[k]? = some o := hk k o h hne
theorem withL {P A B : Prop} (h : A → B) (ha : A) (k : B → P) : P := k (h ha)
theorem step_app0 {W : World} {ops : Array Oper} {o : Oper} {a : Act} {K : Act → World → Prop} {Q : Exit → Act → World → Prop} {E : Prop} (hgd : o.guard = none) (s x : Operand)
    (ho : o.op = .call { callee := .builtin .append, args := #[s, x], argTypes := #[24, 24] }) {ys : List GRule} {base g c2 : Nat} {A2 : Option Addr} {S : Nat → Prop}
    (hs : a.eval s = .slice (some ⟨g, 0, none⟩) 0 0) (hx : a.eval x = .slice A2 ys.length c2) (hg : W.heap[g]? = some (.cells #[] 42 (0, 0))) (hb : base ≤ g) (hsl : SlS RuleE W S (.slice A2 ys.length c2) ys) (hlen : ys.length ≤ 1099511627776)
    (h : ∀ A9 c9 w9, OwnRules w9 base (.slice A9 ys.length c9) ys → (∀ k o, W.heap[k]? = some o → k ≠ g → w9.heap[k]? = some o) → Below base W w9 → K (a.put o.dst (.slice A9 ys.length c9)) w9) :
    if Region.wanted o (yielded ops a.tmps) = true then Oper.wp Tryd.prog o a W K Q else E := by
  refine step_append_rules hgd s x ho (base := base) (l := []) hs hx ⟨rfl, .inr ⟨g, 0, #[], rfl, hb, hg, Nat.le_refl _, Nat.zero_le _, rfl, rfl⟩⟩ hsl (by simpa using hlen) (by have := (Array.getElem?_eq_some_iff.1 hg).1; omega) ?_
  intro v' w' own hgr hbl
  obtain ⟨A9, c9, rfl, _⟩ := own_nil own
  exact h A9 c9 w' own (fun k o hk hne => grown_at hgr hk (by simpa [Value.ownBlock] using hne)) hbl
theorem step_app1 {W : World} {ops : Array Oper} {o : Oper} {a : Act} {K : Act → World → Prop} {Q : Exit → Act → World → Prop} {E : Prop} (hgd : o.guard = none) (s x : Operand)
    (ho : o.op = .call { callee := .builtin .append, args := #[s, x], argTypes := #[24, 24] }) {l : List GRule} {t : ByteArray} {p q : Int} {base B c9 : Nat} {A9 : Option Addr}
    (hs : a.eval s = .slice A9 l.length c9) (hx : a.eval x = .slice (some ⟨B, 0, none⟩) 1 1) (hown : OwnRules W base (.slice A9 l.length c9) l) (hB : W.heap[B]? = some (.cells #[.string t, .int .i64 p, .int .i64 q] 42 (0, 0))) (hlen : l.length ≤ 1099511627775) (hbase : base ≤ W.heap.size)
    (h : ∀ A10 c10 w10, OwnRules w10 base (.slice A10 (l.length + 1) c10) (l ++ [⟨t, p, q⟩]) → (∀ k v, W.heap[k]? = some (.cells #[v] 26 (0, 0)) → Boxed w10 k 26 v) → Below base W w10 → K (a.put o.dst (.slice A10 (l.length + 1) c10)) w10) :
    if Region.wanted o (yielded ops a.tmps) = true then Oper.wp Tryd.prog o a W K Q else E := by
  refine step_append_rules hgd s x ho (base := base) (l := l) (ys := [⟨t, p, q⟩]) (S := fun _ => True) hs hx hown (one_sl hB) (by simp; omega) hbase ?_
  intro v' w' own hgr hbl
  obtain ⟨A9, c9, rfl, _⟩ := own_nil own
  have e : (l ++ [(⟨t, p, q⟩ : GRule)]).length = l.length + 1 := by simp
  rw [e] at own ⊢
  exact h A9 c9 w' own (fun k v hk => Boxed.kept hk hgr (Boxed.not_row hk (by decide) hown)) hbl
theorem drawn_post {w wx : World} {b N M : Nat} {most : Int} {v : Value} {xs : List GRule} (h : DrSt w b M wx v xs) (hlt : b < w.heap.size) (hM : M ≤ N + 200) (hok : DrawnOk most xs) (hl : xs.length ≤ 14) (u : Value) :
    DrawnPost b N most w (.returned (.agg #[v])) (wx.setCell ⟨w.heap.size, 0, none⟩ u) := by
  have hb2 : Below w.heap.size wx (wx.setCell ⟨w.heap.size, 0, none⟩ u) := (Below.refl _ _).setCell (p := ⟨w.heap.size, 0, none⟩) (Nat.le_refl _) _
  have own : OwnRules (wx.setCell ⟨w.heap.size, 0, none⟩ u) (w.heap.size + 2) v xs := ownsRow_setCell_other (a := ⟨w.heap.size, 0, none⟩) h.own (Boxed.not_row h.b0 (by decide) h.own).symm _
  refine ⟨v, xs, rfl, own.slS (fun g hg => ?_), hok, hl, (h.src.keepB hb2 hlt).more hM, h.but.up hb2 (Nat.le_refl _)⟩
  have := World.ownsRow.lt own g hg
  exact ⟨by omega, this.2⟩
set_option maxRecDepth 100000 in
set_option maxHeartbeats 40000000 in
theorem l02Drawn_any (b N : Nat) (most : Int) (w : World) (h : Src w b N) (hN : N ≤ 800000) :
    Calls Tryd.prog 22 #[.pointer (some ⟨b, 0, none⟩), .int .i64 most] w (DrawnPost b N most w) := by
  have hlt := h.lt
  have HS := Lib.hid h
  clear h
  go_enter Tryd.func22, Tryd.ntmps22
  go_wp2_with fail
  have hW0 : DrSt w b N ((w.alloc (.cells #[.slice none 0 0] 26)).alloc (.cells #[.slice none 0 0] 26)) (.slice none 0 0) [] := by
    have hb : Below w.heap.size w ((w.alloc (.cells #[.slice none 0 0] 26)).alloc (.cells #[.slice none 0 0] 26)) := ((Below.refl _ w).alloc (Nat.le_refl _) _).alloc (by simp) _
    refine ⟨HS.out.keep hb, But.of hb, ?_, ?_, World.ownsRow_nil _ _ _ _⟩
    · have h0 : Boxed (w.alloc (.cells #[.slice none 0 0] 26)) w.heap.size 26 (.slice none 0 0) := heap_alloc_new w _
      exact Boxed.up h0 ((Below.refl (w.heap.size + 1) _).alloc (by rw [World.size_alloc]; exact Nat.le_refl _) _) (Nat.lt_succ_self _)
    · have := heap_alloc_new (w.alloc (.cells #[.slice none 0 0] 26)) (.cells #[.slice none 0 0] 26)
      rw [World.size_alloc] at this
      exact this
  refine (pick_any b N 3 _ hW0.src (by omega)).mono ?_
  rintro r w1 ⟨x, rfl, hx, _, hs1, hb1⟩
  have H1 := Lib.hid (hW0.pick hb1 hs1 hlt)
  have hx3 : x ≤ 2 := by omega
  clear hW0 hs1 hb1 hx
  go_wp2_with fail
  go_loopw [7] (fun i wx => ∃ (k : Nat) (v : Value), k ≤ x + 1 ∧ i = .int .i64 (k : Int) ∧ DrSt w b (N + 2) wx v (letG k)) (fun i _ => x + 1 - (intOf i).toNat)
  case atStart => exact ⟨0, _, Nat.zero_le _, rfl, H1.out⟩
  case round =>
    obtain ⟨k, v, hk, rfl, hst⟩ := hrel
    have Hst := Lib.hid hst
    obtain ⟨A, c, rfl, _⟩ := own_nil hst.own
    have hcb := Boxed.cell hst.b1
    have hfb := Boxed.frozen hst.b1
    have hzr := hst.lt
    by_cases hlt1 : k < x + 1
    · have hlI : (k : Int) < 1 + (x : Int) := by omega
      have Hlen : Hid ((letG k).length ≤ 1099511627775) := by rw [Hid, letG_len]; omega
      clear hst
      have HA := Lib.hid (fun (o1 o2 : Obj) => ((Below.refl (w.heap.size + 2) wr).alloc (show w.heap.size + 2 ≤ wr.heap.size by omega) o1).alloc (by rw [World.size_alloc]; omega) o2)
      have hk3 : k = 0 ∨ k = 1 ∨ k = 2 := by omega
      rcases hk3 with rfl | rfl | rfl
      · have hcv := convB [97] wr.heap.size 0 1 1 (wr.alloc (.cells #[.int .u8 97] 5)) rfl (by
          intro t ht
          have : t = 0 := by simpa using ht
          subst this
          simp [go_sem])
        go_wp2_with (first
          | (at_builtin; refine list_push_rule (base := w.heap.size + 2) (t := ⟨#[97]⟩) (p := 0) (q := 0) rfl _ _ rfl rfl rfl (by simp) (Hst.out.own.alloc _) Hlen.out (by first | omega | (simp; done) | (simp; omega)) ?_; intro v3 w3 own3 hg3 hb3; obtain ⟨A3, c3, rfl, _⟩ := own_nil own3; have hb9 := (HA.out _ _).trans hb3; have bx3 := Boxed.up Hst.out.b1 hb9 (Nat.lt_succ_self _); have hcb3 := Boxed.cell bx3; have hfb3 := Boxed.frozen bx3))
        refine ⟨⟨1, _, by omega, rfl, Hst.out.put hlt hb9 (letG_own own3 rfl)⟩, by first | (simp [intOf]; done) | (simp [intOf]; omega)⟩
      · have hcv := convB [98] wr.heap.size 0 1 1 (wr.alloc (.cells #[.int .u8 98] 5)) rfl (by
          intro t ht
          have : t = 0 := by simpa using ht
          subst this
          simp [go_sem])
        go_wp2_with (first
          | (at_builtin; refine list_push_rule (base := w.heap.size + 2) (t := ⟨#[98]⟩) (p := 0) (q := 0) rfl _ _ rfl rfl rfl (by simp) (Hst.out.own.alloc _) Hlen.out (by first | omega | (simp; done) | (simp; omega)) ?_; intro v3 w3 own3 hg3 hb3; obtain ⟨A3, c3, rfl, _⟩ := own_nil own3; have hb9 := (HA.out _ _).trans hb3; have bx3 := Boxed.up Hst.out.b1 hb9 (Nat.lt_succ_self _); have hcb3 := Boxed.cell bx3; have hfb3 := Boxed.frozen bx3))
        refine ⟨⟨2, _, by omega, rfl, Hst.out.put hlt hb9 (letG_own own3 rfl)⟩, by first | (simp [intOf]; done) | (simp [intOf]; omega)⟩
      · have hcv := convB [99] wr.heap.size 0 1 1 (wr.alloc (.cells #[.int .u8 99] 5)) rfl (by
          intro t ht
          have : t = 0 := by simpa using ht
          subst this
          simp [go_sem])
        go_wp2_with (first
          | (at_builtin; refine list_push_rule (base := w.heap.size + 2) (t := ⟨#[99]⟩) (p := 0) (q := 0) rfl _ _ rfl rfl rfl (by simp) (Hst.out.own.alloc _) Hlen.out (by first | omega | (simp; done) | (simp; omega)) ?_; intro v3 w3 own3 hg3 hb3; obtain ⟨A3, c3, rfl, _⟩ := own_nil own3; have hb9 := (HA.out _ _).trans hb3; have bx3 := Boxed.up Hst.out.b1 hb9 (Nat.lt_succ_self _); have hcb3 := Boxed.cell bx3; have hfb3 := Boxed.frozen bx3))
        refine ⟨⟨3, _, by omega, rfl, Hst.out.put hlt hb9 (letG_own own3 rfl)⟩, by first | (simp [intOf]; done) | (simp [intOf]; omega)⟩
    · have hkx : k = x + 1 := by omega
      subst hkx
      have hlI : ¬ ((x + 1 : Nat) : Int) < 1 + (x : Int) := by omega
      have Hok := Lib.hid (letG_ok most x hx3)
      have Hl14 : Hid ((letG (x + 1)).length ≤ 3) := by rw [Hid, letG_len]; omega
      obtain ⟨X, hX⟩ : ∃ X, letG (x + 1) = X := ⟨_, rfl⟩
      rw [hX] at Hok Hl14 Hst
      have hXl : (letG (x + 1)).length = X.length := by rw [hX]
      clear hst hX hcb hfb hlI hzr H1
      go_wp2_with fail
      refine (pick_any b (N + 2) 12 _ Hst.out.src (by omega)).mono ?_
      rintro r w2 ⟨y, rfl, hy, _, hs2, hb2⟩
      have H2 := Lib.hid (Hst.out.pick hb2 hs2 hlt)
      have hy11 : y ≤ 11 := by omega
      clear Hst hs2 hb2 hy
      go_wp2_with fail
      go_loopw [8] (fun i wx => ∃ (k : Nat) (v : Value) (xs : List GRule), k ≤ y ∧ i = .int .i64 (k : Int) ∧ DrawnOk most xs ∧ xs.length + k ≤ 14 ∧ DrSt w b (N + 100 - 8 * k) wx v xs) (fun i _ => (intOf i).toNat)
      case atStart => exact ⟨y, _, X, Nat.le_refl _, rfl, Hok.out, by have := Hl14.out; omega, ⟨H2.out.src.more (by omega), H2.out.but, H2.out.b0, H2.out.b1, H2.out.own⟩⟩
      case round =>
        obtain ⟨k, v, xs, hk, rfl, hok, hlk, hst⟩ := hrel
        have Hst := Lib.hid hst
        have Hok := Lib.hid hok
        obtain ⟨A2, c2, rfl, _⟩ := own_nil hst.own
        have hcb := Boxed.cell hst.b1
        have hfb := Boxed.frozen hst.b1
        have hcb0 := Boxed.cell hst.b0
        have hfb0 := Boxed.frozen hst.b0
        have hzr := hst.lt
        by_cases hk0 : k = 0
        · subst hk0
          clear hst hok
          go_wp2_with fail
          refine bodyPost_ret (v := .agg #[.slice A2 xs.length c2]) (by simp [results, Tryd.results22, go_sem, hcb0]) rfl (drawn_post Hst.out hlt (by omega) Hok.out (by omega) _)
        · have hkI : (0 : Int) < (k : Int) := by omega
          have hn0 := hok.2.1
          clear hst hok
          go_upto_if 49 with (first
            | (go_at_call 33; refine (pick_any b _ xs.length _ Hst.out.src (by omega)).mono ?_; rintro r w3 ⟨p, rfl, hp, _, hs3, hb3⟩)
            | (go_at_call 33; refine (pick_any b _ xs.length _ hs3 (by omega)).mono ?_; rintro r w4 ⟨q, rfl, hq, _, hs4, hb4⟩)
            | (go_at_call 44; refine (one_any b _ 2 _ (hs4.keep ((Below.refl _ _).alloc (Nat.le_refl _) _)) (by omega)).mono ?_; rintro r w5 ⟨t5, rfl, hs5, hb5⟩))
          have hb4' := Boxed3.new w4 ⟨#[]⟩ p q
          have R5 : Boxed3 w5 w4.heap.size ⟨#[]⟩ p q := hb4'.but hb5 (by have := hb3.size; have := hb4.size; omega)
          have hst4 := (Hst.out.pick hb3 hs3 hlt).pick hb4 hs4 hlt
          have hst5 := (hst4.up ((Below.refl w4.heap.size w4).alloc (Nat.le_refl _) (.cells #[.string ⟨#[]⟩, .int .i64 (p : Int), .int .i64 (q : Int)] 42))).pick hb5 hs5 hlt
          have H5 := Lib.hid hst5
          have HR5 := Lib.hid R5
          have z4 : w.heap.size + 2 ≤ w4.heap.size := by have := hst4.lt; omega
          have hp2 : p < xs.length := by omega
          have hq2 : q < xs.length := by omega
          have hAR : ∀ g, (Value.slice A2 xs.length c2).ownBlock = some g → g ≠ w4.heap.size := fun g hg => by
            have h1 := (World.ownsRow.lt Hst.out.own g hg).2
            have h2 := hb3.size
            have h3 := hb4.size
            omega
          obtain ⟨R, hR⟩ : ∃ R, w4.heap.size = R := ⟨_, rfl⟩
          rw [hR] at HR5 z4 hAR
          rw [hR]
          have hrc := HR5.out.c1
          have hrf := HR5.out.f1
          have hnI : IntKind.i64.wrap ((xs.length : Int) - 1) = (xs.length : Int) - 1 := IntWalk.i64_in _ (by omega)
          clear hst4 hst5 R5 hb4' hs3 hs4 hs5 hb3 hb4 hb5 hR hcb hfb hcb0 hfb0 hp hq
          go_cut [] (fun wx => ∃ p2 : Nat, p2 < xs.length ∧ DrSt w b (N + 100 - 8 * k + 6) wx (.slice A2 xs.length c2) xs ∧ Boxed3 wx R ⟨#[]⟩ p2 q)
          case first =>
            cases t5 with
            | true =>
              go_wp2
              go_meet
              refine ⟨xs.length - 1, by omega, H5.out.far hlt z4 hAR _, ?_⟩
              have := HR5.out.set1 (xs.length - 1)
              rw [show ((xs.length - 1 : Nat) : Int) = (xs.length : Int) - 1 by omega] at this
              exact this
            | false =>
              go_wp2
              go_meet
              exact ⟨p, hp2, H5.out, HR5.out⟩
          case rest =>
            obtain ⟨p2, hpp, hst6, hbx6⟩ := hcut
            have H6 := Lib.hid hst6
            have HR6 := Lib.hid hbx6
            clear hst6 hbx6 hrc hrf H5 HR5 hp2
            go_upto_if 54 with (first
              | (go_at_call 44; refine (one_any b _ 3 _ H6.out.src (by omega)).mono ?_; rintro r w7 ⟨t7, rfl, hs7, hb7⟩))
            have hst7 := H6.out.pick hb7 hs7 hlt
            have hR7 := HR6.out.but hb7 (by omega)
            have H7 := Lib.hid hst7
            have HR7 := Lib.hid hR7
            have hrc := HR7.out.c2
            have hrf := HR7.out.f2
            clear hst7 hR7 hs7 hb7 H6 HR6
            go_cut [] (fun wx => ∃ q2 : Nat, q2 < xs.length ∧ DrSt w b (N + 100 - 8 * k + 8) wx (.slice A2 xs.length c2) xs ∧ Boxed3 wx R ⟨#[]⟩ p2 q2)
            case first =>
              cases t7 with
              | true =>
                go_wp2
                go_meet
                refine ⟨xs.length - 1, by omega, H7.out.far hlt z4 hAR _, ?_⟩
                have := HR7.out.set2 (xs.length - 1)
                rw [show ((xs.length - 1 : Nat) : Int) = (xs.length : Int) - 1 by omega] at this
                exact this
              | false =>
                go_wp2
                go_meet
                exact ⟨q, hq2, H7.out, HR7.out⟩
            case rest =>
              obtain ⟨q2, hqq, hst8, hbx8⟩ := hcut
              have H8 := Lib.hid hst8
              have HR8 := Lib.hid hbx8
              have hrc0 := hbx8.c0
              have hrc1 := hbx8.c1
              have hrc2 := hbx8.c2
              have hcb := Boxed.cell hst8.b1
              have hfb := Boxed.frozen hst8.b1
              clear hst8 hbx8 hrc hrf H7 HR7 hq2
              go_upto_region 16 with fail
              have HSl := Lib.hid H8.out.own.sl
              have hlt8 := H8.out.lt
              go_cut [11] (fun u11 wx => ∃ (L : Nat) (A3 : Option Addr) (c3 : Nat), u11 = .pointer (some ⟨L, 0, none⟩) ∧ w.heap.size + 2 ≤ L ∧ DrSt w b (N + 100 - 8 * k + 8) wx (.slice A2 xs.length c2) xs ∧ Boxed wx L 26 (.slice A3 (xs.length + 1) c3) ∧ OwnRules wx (w.heap.size + 2) (.slice A3 (xs.length + 1) c3) (xs ++ [⟨⟨#[]⟩, p2, q2⟩]))
              case first =>
                have hRlt : R < wc.heap.size := (Array.getElem?_eq_some_iff.1 HR8.out.box).1
                have HRlt := Lib.hid hRlt
                have hb1lt : w.heap.size + 1 < wc.heap.size := by omega
                have HX := Lib.hid (show xs.length ≤ 1099511627775 by omega)
                have HCB := Lib.hid hcb
                have HRC0 := Lib.hid hrc0
                have HRC1 := Lib.hid hrc1
                have HRC2 := Lib.hid hrc2
                go_region_held3 (fun w' => Below wc.heap.size wc w' ∧ w'.cell? ⟨w.heap.size + 1, 0, none⟩ = some (.slice A2 xs.length c2) ∧ w'.cell? ⟨R, 0, none⟩ = some (.string ⟨#[]⟩) ∧ w'.cell? ⟨R, 1, none⟩ = some (.int .i64 (p2 : Int)) ∧ w'.cell? ⟨R, 2, none⟩ = some (.int .i64 (q2 : Int)))
                  (first | (with_reducible refine keepDr HCB.out hb1lt HRC0.out HRC1.out HRC2.out HRlt.out ?_; (repeat (first | exact B10 | exact B9 | exact Below.refl _ _ | refine Below.drew ?_ | (refine Below.setCell ?_ (by first | exact Nat.le_refl _ | (show _ ≤ _; omega) | (simp; done) | (simp; omega)) _) | (refine Below.alloc ?_ (by first | omega | (simp; done) | (simp; omega)) _)))))
                  (first
                    | ((fail_if_success (have hx9 := B9)); refine step_app0 (base := wc.heap.size) (ys := xs) (S := fun k => k < wc.heap.size) (by rfl) _ _ (by rfl) (by rfl) (by rfl) (by ((repeat (first | (with_reducible assumption) | ((with_reducible refine heap_newD ?_); (focus (first | (exact (World.size_alloc _ _).symm) | (simp; done) | (simp; omega)))) | ((with_reducible refine heap_new' ?_); (focus (first | (exact (World.size_alloc _ _).symm) | (simp; done) | (simp; omega)))) | (with_reducible apply heap_drew) | (with_reducible apply heap_up) | ((with_reducible refine hkk hk9 ?_ ?_); (focus (first | (simp; done) | (simp; omega) | omega))))); all_goals fail "left")) (by first | omega | (simp; done)) (HSl.out.keep (Keep.of_below (by (repeat (first | (with_reducible exact B9) | (with_reducible exact Below.refl _ _) | with_reducible refine Below.drew ?_ | (with_reducible refine Below.alloc ?_ (by first | omega | (simp; done) | (simp; omega)) _)))))) (Nat.le_succ_of_le HX.out) ?_; intro A9 c9 w9 own9 hk9 hb9; have B9 : Below wc.heap.size wc w9 := Below.trans (by (repeat (first | (with_reducible exact B9) | (with_reducible exact Below.refl _ _) | with_reducible refine Below.drew ?_ | (with_reducible refine Below.alloc ?_ (by first | omega | (simp; done) | (simp; omega)) _)))) hb9; have hs9 := B9.size)
                    | ((fail_if_success (have hx10 := B10)); refine step_app1 (base := wc.heap.size) (l := xs) (by rfl) _ _ (by rfl) (by rfl) (by rfl) (by (repeat (first | (with_reducible exact own9) | with_reducible apply OwnRules.drew | with_reducible apply OwnRules.alloc))) (by ((repeat (first | (with_reducible assumption) | ((with_reducible refine heap_newD ?_); (focus (first | (exact (World.size_alloc _ _).symm) | (simp; done) | (simp; omega)))) | ((with_reducible refine heap_new' ?_); (focus (first | (exact (World.size_alloc _ _).symm) | (simp; done) | (simp; omega)))) | (with_reducible apply heap_drew) | (with_reducible apply heap_up) | ((with_reducible refine hkk hk9 ?_ ?_); (focus (first | (simp; done) | (simp; omega) | omega))))); all_goals fail "left")) HX.out (by first | exact hs9 | (simp; omega)) ?_; intro A10 c10 w10 own10 hk10 hb10; have B10 : Below wc.heap.size wc w10 := Below.trans (by (repeat (first | (with_reducible exact B9) | (with_reducible exact Below.refl _ _) | with_reducible refine Below.drew ?_ | (with_reducible refine Below.alloc ?_ (by first | omega | (simp; done) | (simp; omega)) _)))) hb10; have hs10 := B10.size; (try (refine withL (hk10 (wc.heap.size) (.slice none 0 0)) ?_ ?_; (focus ((repeat (first | (with_reducible assumption) | ((with_reducible refine heap_newD ?_); (focus (first | (exact (World.size_alloc _ _).symm) | (simp; done) | (simp; omega)))) | ((with_reducible refine heap_new' ?_); (focus (first | (exact (World.size_alloc _ _).symm) | (simp; done) | (simp; omega)))) | (with_reducible apply heap_drew) | (with_reducible apply heap_up) | ((with_reducible refine hkk hk9 ?_ ?_); (focus (first | (simp; done) | (simp; omega) | omega))))); all_goals fail "left")); intro bL10; have hcL := Boxed.cell bL10; have hfL := Boxed.frozen bL10; have hlL := (Array.getElem?_eq_some_iff.1 bL10).1)); (try (refine withL (hk10 (wc.heap.size + 1) (.slice none 0 0)) ?_ ?_; (focus ((repeat (first | (with_reducible assumption) | ((with_reducible refine heap_newD ?_); (focus (first | (exact (World.size_alloc _ _).symm) | (simp; done) | (simp; omega)))) | ((with_reducible refine heap_new' ?_); (focus (first | (exact (World.size_alloc _ _).symm) | (simp; done) | (simp; omega)))) | (with_reducible apply heap_drew) | (with_reducible apply heap_up) | ((with_reducible refine hkk hk9 ?_ ?_); (focus (first | (simp; done) | (simp; omega) | omega))))); all_goals fail "left")); intro bL10; have hcL := Boxed.cell bL10; have hfL := Boxed.frozen bL10; have hlL := (Array.getElem?_eq_some_iff.1 bL10).1)); (try (refine withL (hk10 (wc.heap.size + 1 + 1) (.slice none 0 0)) ?_ ?_; (focus ((repeat (first | (with_reducible assumption) | ((with_reducible refine heap_newD ?_); (focus (first | (exact (World.size_alloc _ _).symm) | (simp; done) | (simp; omega)))) | ((with_reducible refine heap_new' ?_); (focus (first | (exact (World.size_alloc _ _).symm) | (simp; done) | (simp; omega)))) | (with_reducible apply heap_drew) | (with_reducible apply heap_up) | ((with_reducible refine hkk hk9 ?_ ?_); (focus (first | (simp; done) | (simp; omega) | omega))))); all_goals fail "left")); intro bL10; have hcL := Boxed.cell bL10; have hfL := Boxed.frozen bL10; have hlL := (Array.getElem?_eq_some_iff.1 bL10).1)); (try (refine withL (hk10 (w9.heap.size) (.slice none 0 0)) ?_ ?_; (focus ((repeat (first | (with_reducible assumption) | ((with_reducible refine heap_newD ?_); (focus (first | (exact (World.size_alloc _ _).symm) | (simp; done) | (simp; omega)))) | ((with_reducible refine heap_new' ?_); (focus (first | (exact (World.size_alloc _ _).symm) | (simp; done) | (simp; omega)))) | (with_reducible apply heap_drew) | (with_reducible apply heap_up) | ((with_reducible refine hkk hk9 ?_ ?_); (focus (first | (simp; done) | (simp; omega) | omega))))); all_goals fail "left")); intro bL10; have hcL := Boxed.cell bL10; have hfL := Boxed.frozen bL10; have hlL := (Array.getElem?_eq_some_iff.1 bL10).1)); (try (refine withL (hk10 (w9.heap.size + 1) (.slice none 0 0)) ?_ ?_; (focus ((repeat (first | (with_reducible assumption) | ((with_reducible refine heap_newD ?_); (focus (first | (exact (World.size_alloc _ _).symm) | (simp; done) | (simp; omega)))) | ((with_reducible refine heap_new' ?_); (focus (first | (exact (World.size_alloc _ _).symm) | (simp; done) | (simp; omega)))) | (with_reducible apply heap_drew) | (with_reducible apply heap_up) | ((with_reducible refine hkk hk9 ?_ ?_); (focus (first | (simp; done) | (simp; omega) | omega))))); all_goals fail "left")); intro bL10; have hcL := Boxed.cell bL10; have hfL := Boxed.frozen bL10; have hlL := (Array.getElem?_eq_some_iff.1 bL10).1))))
                all_goals
                  go_wp2_with fail
                  go_meet
                  have o10 := ownsRow_more own10 (base' := w.heap.size + 2) (by omega)
                  first
                    | exact ⟨w10.heap.size, A10, c10, rfl, by omega, H8.out.up (B10.alloc hs10 _), heap_alloc_new _ _, World.ownsRow.alloc o10 _⟩
                    | exact ⟨_, A10, c10, rfl, by omega, H8.out.up (B10.setCell (by (try dsimp only); omega) _), Boxed.set _ bL10, ownsRow_setCell_other o10 (Boxed.not_row bL10 (by decide) own10).symm _⟩
              case rest =>
                obtain ⟨L, A3, c3, rfl, hL, hst9, hbx9, own9⟩ := hcut
                have hsmY : SmallL (xs ++ [(⟨⟨#[]⟩, (p2 : Int), (q2 : Int)⟩ : GRule)]) := by
                  intro r hr
                  rcases List.mem_append.1 hr with hr | hr
                  · exact Hok.out.2.2.2 r hr
                  · rw [List.mem_singleton] at hr; subst hr; show (0 : Nat) ≤ _; decide
                obtain ⟨Y, hY⟩ : ∃ Y, xs ++ [(⟨⟨#[]⟩, (p2 : Int), (q2 : Int)⟩ : GRule)] = Y := ⟨_, rfl⟩
                have hYl : Y.length = xs.length + 1 := by rw [← hY]; simp
                rw [hY] at own9 hsmY
                rw [← hYl] at own9 hbx9
                have H9 := Lib.hid hst9
                have HB9 := Lib.hid hbx9
                have HO9 := Lib.hid own9
                have HSY := Lib.hid (OwnRules.sl own9)
                have HsmY := Lib.hid hsmY
                have hcY := Boxed.cell hbx9
                have hLlt := (Array.getElem?_eq_some_iff.1 hbx9).1
                clear hst9 hbx9 own9 H8 HR8 HSl hrc0 hrc1 hrc2 hcb hfb hlt8 hsmY hY
                cases hg : gramOk Y with
                | false =>
                  go_wp2_with (first
                    | (go_at_call 32; (refine (l02Ok_any L 0 _ Y _ hcY hLlt HSY.out HsmY.out).mono ?_); rintro r w11 ⟨hr, hb11⟩; rw [hg] at hr; subst hr; have H11 := Lib.hid (H9.out.up hb11); have hcb1 := Boxed.cell H11.out.b1; have hfb1 := Boxed.frozen H11.out.b1; have hcb0 := Boxed.cell H11.out.b0; have hfb0 := Boxed.frozen H11.out.b0))
                  refine bodyPost_ret (v := .agg #[.slice A2 xs.length c2]) (by simp [results, Tryd.results22, go_sem, hcb0]) rfl (drawn_post H11.out hlt (by omega) Hok.out (by omega) _)
                | true =>
                  obtain ⟨_, ls, hls⟩ := gram_lens hg
                  have hgl := gramLen_of hls
                  by_cases hmo : lastI ls ≤ most
                  · have hmI : ¬ most < lastI ls := by omega
                    go_wp2_with (first
                      | (go_at_call 32; (refine (l02Ok_any L 0 _ Y _ hcY hLlt HSY.out HsmY.out).mono ?_); rintro r w11 ⟨hr, hb11⟩; rw [hg] at hr; subst hr; have H11 := Lib.hid (H9.out.up hb11); have hcY1 := (hb11.cell (p := ⟨L, 0, none⟩) hLlt).trans hcY; have hLlt1 := Nat.lt_of_lt_of_le hLlt hb11.size; have HSY1 := Lib.hid (HSY.out.up hb11))
                      | (go_at_call 45; (refine (l02Length_any L 0 _ Y ls _ hls hcY1 hLlt1 HSY1.out HsmY.out (by omega)).mono ?_); rintro r w12 ⟨rfl, hb12⟩; have H12 := Lib.hid (H11.out.up hb12); have hcY2 := (hb12.cell (p := ⟨L, 0, none⟩) hLlt1).trans hcY1; have hcb1 := Boxed.cell H12.out.b1; have hfb1 := Boxed.frozen H12.out.b1))
                    have o12 := (HO9.out.below hb11).below hb12
                    rw [hYl] at o12
                    have s12 := H12.out.put hlt (Below.refl _ _) o12
                    rw [show N + 100 - 8 * k + 8 = N + 100 - 8 * (k - 1) by omega] at s12
                    exact ⟨⟨k - 1, _, Y, by omega, by rw [show ((k - 1 : Nat) : Int) = (k : Int) - 1 by omega], ⟨hg, by omega, fun _ => by rw [hgl]; exact hmo, HsmY.out⟩, by omega, s12⟩, by first | (simp [intOf]; done) | (simp [intOf]; omega)⟩
                  · have hmI : most < lastI ls := by omega
                    go_wp2_with (first
                      | (go_at_call 32; (refine (l02Ok_any L 0 _ Y _ hcY hLlt HSY.out HsmY.out).mono ?_); rintro r w11 ⟨hr, hb11⟩; rw [hg] at hr; subst hr; have H11 := Lib.hid (H9.out.up hb11); have hcY1 := (hb11.cell (p := ⟨L, 0, none⟩) hLlt).trans hcY; have hLlt1 := Nat.lt_of_lt_of_le hLlt hb11.size; have HSY1 := Lib.hid (HSY.out.up hb11))
                      | (go_at_call 45; (refine (l02Length_any L 0 _ Y ls _ hls hcY1 hLlt1 HSY1.out HsmY.out (by omega)).mono ?_); rintro r w12 ⟨rfl, hb12⟩; have H12 := Lib.hid (H11.out.up hb12); have hcb1 := Boxed.cell H12.out.b1; have hfb1 := Boxed.frozen H12.out.b1; have hcb0 := Boxed.cell H12.out.b0; have hfb0 := Boxed.frozen H12.out.b0))
                    refine bodyPost_ret (v := .agg #[.slice A2 xs.length c2]) (by simp [results, Tryd.results22, go_sem, hcb0]) rfl (drawn_post H12.out hlt (by omega) Hok.out (by omega) _)
section
variable {w wx w' : World} {b M M' E : Nat} {k i j q : Int} {vP : Value} {xs : List GRule} {m : ByteArray}
end
set_option maxRecDepth 100000 in
theorem a2Long_any (v v' : Value) (l l' : List UInt8) (w : World) (h : Sl ByteE w w.heap.size v l) (h' : Sl ByteE w w.heap.size v' l') :
    Calls Tryd.prog 5 #[v, v'] w fun e w' => e = .returned (.bool (decide ((3000 : Int) < l.length) || decide ((3000 : Int) < l'.length))) ∧ w = w' := by
  obtain ⟨A, c, rfl, _⟩ := h
  obtain ⟨A', c', rfl, _⟩ := h'
  by_cases h1 : (3000 : Int) < (l.length : Int)
  · go_enter Tryd.func5, Tryd.ntmps5
    go_wp2_with fail
    go_ret
    exact ⟨ret_bool (by simp [h1]), rfl⟩
  · have e1 : decide ((3000 : Int) < (l.length : Int)) = false := by simp; omega
    go_enter Tryd.func5, Tryd.ntmps5
    go_wp2_with fail
    go_ret
    exact ⟨ret_bool (by first | rfl | (simp [e1]; done) | simp), rfl⟩
theorem a2At_any (v : Value) (l : List UInt8) (i n : Int) (w : World) (h : Sl ByteE w w.heap.size v l) (hi : 0 ≤ i) (hn : n ≤ 1000000000000000) :
    Calls Tryd.prog 7 #[v, .int .i64 i, .int .i64 n] w fun e w' => ∃ x : Int, e = .returned (.int .i64 x) ∧ 0 ≤ x ∧ (x = 0 ∨ x < n) ∧ w = w' := by
  have HL := Lib.hid h
  obtain ⟨A, c, rfl, _⟩ := h
  obtain ⟨i, rfl⟩ := Int.eq_ofNat_of_zero_le hi
  by_cases h1 : (l.length : Int) ≤ (i : Int)
  · go_enter Tryd.func7, Tryd.ntmps7
    go_wp2_with fail
    go_ret
    exact ⟨0, rfl, by omega, .inl rfl, rfl⟩
  · by_cases h2 : n < 1
    · go_enter Tryd.func7, Tryd.ntmps7
      go_wp2_with fail
      go_ret
      exact ⟨0, rfl, by omega, .inl rfl, rfl⟩
    · obtain ⟨m, rfl⟩ := Int.eq_ofNat_of_zero_le (show 0 ≤ n by omega)
      have hm0 : ¬ (m : Int) = 0 := by omega
      obtain ⟨_, _, ev, _, _, hrow⟩ := HL.out
      injection ev with ev1 ev2 ev3
      subst ev1
      obtain ⟨bc, oc, rfl, hbc, hcs⟩ := hrow (by omega)
      have hlt : i < l.length := by omega
      obtain ⟨cs, hcs1, hcs2⟩ := hcs i l[i] (List.getElem?_eq_getElem hlt)
      have hcs1' : cs = [.int .u8 (l[i].toNat : Int)] := hcs1
      subst hcs1'
      have hcx := hcs2 0 _ rfl
      have e1 : oc + (i * ByteE.size + 0) = oc + i := by show oc + (i * 1 + 0) = oc + i; omega
      rw [e1] at hcx
      have hb := l[i].toNat_lt
      obtain ⟨z, hz⟩ : ∃ z : Nat, l[i].toNat = z := ⟨_, rfl⟩
      rw [hz] at hcx hb
      clear hcs hcs1 hcs2 hrow e1 hz
      go_enter Tryd.func7, Tryd.ntmps7
      go_wp2_with fail
      go_ret
      refine ⟨((z % m : Nat) : Int), rfl, by omega, .inr ?_, rfl⟩
      have := Nat.mod_lt z (show 0 < m by omega)
      omega
theorem A2Grammar_any (v : Value) (l : List UInt8) (most : Int) (w : World) (h : Sl ByteE w w.heap.size v l) :
    Calls Tryd.prog 6 #[v, .int .i64 most] w fun e w' => ∃ u xs, e = .returned (.agg #[u]) ∧ Sl RuleE w' w'.heap.size u xs ∧ DrawnOk most xs ∧ xs.length ≤ 14 ∧ Below w.heap.size w w' := by
  have HL := Lib.hid h
  obtain ⟨A, c, rfl, _⟩ := h
  go_enter Tryd.func6, Tryd.ntmps6
  go_wp2_with fail
  have ba := (Below.refl _ w).alloc (Nat.le_refl _) (.cells #[.slice none 0 0] 26)
  refine (from_any _ l _ (HL.out.up ba)).mono ?_
  rintro r w1 ⟨b, rfl, hb, hs, hb1⟩
  have KR1 := Lib.hid (Blk.up (Blk.new w #[.slice none 0 0] 26) hb1)
  have hbz : w.heap.size < b := by simp at hb; omega
  have HS := Lib.hid hs
  have HB := Lib.hid (ba.trans (hb1.mono ba.size))
  have hz1 : w.heap.size < w1.heap.size := KR1.out.lt
  clear hs hb1 ba hb
  go_wp2_with fail
  refine (l02Drawn_any b 0 most _ HS.out (by omega)).mono ?_
  rintro r w2 ⟨u, xs, rfl, hsl, hok, hl, _, hb2⟩
  have KR2 := KR1.out.but hb2 (by omega)
  have cR := Blk.cell (i := 0) (v := .slice none 0 0) KR2 rfl
  have zR := Blk.frozen KR2 0
  have hz2 := hb2.size
  have HB2 := Lib.hid (HB.out.trans (hb2.below (B := w.heap.size) (by omega) (by omega)))
  have HSL := Lib.hid hsl
  clear hsl hb2 KR2
  obtain ⟨AX, cX, rfl, _⟩ := HSL.out
  go_wp2_with fail
  exact bodyPost_ret (v := .agg #[.slice AX xs.length cX]) (by simp [results, Tryd.results6, go_sem, cR]) rfl
    ⟨_, xs, rfl, (HSL.out.keep fun k hk => Below.heap_setCell w2 ⟨w.heap.size, 0, none⟩ _ k (by show k ≠ w.heap.size; omega)).more fun k hk => by simpa using hk.2, hok, hl, HB2.out.setCell (p := ⟨w.heap.size, 0, none⟩) (Nat.le_refl _) _⟩
def comO (xs ys : List GRule) (i j : Int) (m : Nat) : Bool := decide (prC xs i (i + (m : Int)) = prC ys j (j + (m : Int)))
theorem commonB_end (of : Nat → Bool) {f a b : Nat} (h : ¬ a < b) : commonB of f a b = a := by
  cases f with
  | zero => rfl
  | succ f => rw [commonB, if_neg h]
theorem commonB_yes (of : Nat → Bool) {f a b m : Nat} (h : a < b) (hm : (a + b + 1) / 2 = m) (ho : of m = true) : commonB of (f + 1) a b = commonB of f m b := by
  rw [commonB, if_pos h, hm, if_pos ho]
theorem commonB_no (of : Nat → Bool) {f a b m : Nat} (h : a < b) (hm : (a + b + 1) / 2 = m) (ho : of m = false) : commonB of (f + 1) a b = commonB of f a (m - 1) := by
  rw [commonB, if_pos h, hm, if_neg (by rw [ho]; decide)]
theorem commonB_le (of : Nat → Bool) : ∀ (f a b n : Nat), a ≤ n → b ≤ n → commonB of f a b ≤ n := by
  intro f
  induction f with
  | zero => intro a b n ha _; exact ha
  | succ f ih =>
    intro a b n ha hb
    rw [commonB]
    split
    · split
      · exact ih _ _ _ (by omega) hb
      · exact ih _ _ _ ha (by omega)
    · exact ha
set_option maxRecDepth 100000 in
set_option maxHeartbeats 2000000 in
theorem common_any (P Q : Nat) (xs ys : List GRule) (i j : Int) (n : Nat) (w : World) (h : WvP w P xs) (h' : WvP w Q ys) (hi : 0 ≤ i) (hi9 : i ≤ gramLen xs) (hj : 0 ≤ j) (hj9 : j ≤ gramLen ys)
    (hn : (n : Int) = min (gramLen xs - i) (gramLen ys - j)) :
    Calls Tryd.prog 37 #[.pointer (some ⟨P, 0, none⟩), .int .i64 i, .pointer (some ⟨Q, 0, none⟩), .int .i64 j] w fun e w' => e = .returned (.int .i64 (commonB (comO xs ys i j) n 0 n : Nat)) ∧ Below w.heap.size w w' := by
  have HP := Lib.hid h
  have HQ := Lib.hid h'
  have hbx := gram_len_bd xs
  have hby := gram_len_bd ys
  have HN := Lib.hid hn
  have hn9 : n ≤ 1000000000000000 := by omega
  obtain ⟨a, ha⟩ : ∃ a, gramLen xs = a := ⟨_, rfl⟩
  obtain ⟨b, hb⟩ : ∃ b, gramLen ys = b := ⟨_, rfl⟩
  have HA := Lib.hid ha
  have HB := Lib.hid hb
  rw [ha] at hbx hi9
  rw [hb] at hby hj9
  have i9 : i ≤ 1000000000000000 := by omega
  have j9 : j ≤ 1000000000000000 := by omega
  clear h h' hn ha hb
  go_enter Tryd.func37, Tryd.ntmps37
  go_wp2_with fail
  refine (wvLength_any P xs _ HP.out).mono ?_
  rintro e w1 ⟨rfl, hb1⟩
  rw [HA.out]
  have HB1 := Lib.hid hb1
  clear hb1
  have wr1 : IntKind.i64.wrap (a - i) = a - i := IntWalk.i64_in _ (by omega)
  have wr2 : IntKind.i64.wrap (b - j) = b - j := IntWalk.i64_in _ (by omega)
  go_wp2_with fail
  refine (wvLength_any Q ys _ (HQ.out.up HB1.out)).mono ?_
  rintro e w2 ⟨rfl, hb2⟩
  rw [HB.out]
  have HB2 := Lib.hid (Below.tr HB1.out hb2)
  clear hb2
  have hmin : min (a - i) (b - j) = (n : Int) := by have := HN.out; rw [HA.out, HB.out] at this; omega
  have Hmin := Lib.hid hmin
  clear hmin
  go_wp2_with fail
  rw [Hmin.out]
  go_loopw [9, 10] (fun vl vh wx => ∃ f p q : Nat, vl = .int .i64 (p : Int) ∧ vh = .int .i64 (q : Int) ∧ p ≤ n ∧ q ≤ n ∧ q - p ≤ f ∧ Below w.heap.size w wx ∧ Hid (commonB (comO xs ys i j) n 0 n = commonB (comO xs ys i j) f p q)) (fun vl vh _ => (intOf vh - intOf vl).toNat)
  case atStart => exact ⟨n, 0, n, rfl, rfl, Nat.zero_le _, Nat.le_refl _, Nat.le_refl _, HB2.out, rfl⟩
  case round =>
    obtain ⟨f, p, q, rfl, rfl, hp, hq, hf, hbw, HE⟩ := hrel
    have HBW := Lib.hid hbw
    clear hbw
    by_cases hpq : p < q
    · have hI : (p : Int) < (q : Int) := by omega
      obtain ⟨m, hm⟩ : ∃ m, (p + q + 1) / 2 = m := ⟨_, rfl⟩
      obtain ⟨f, rfl⟩ : ∃ g, f = g + 1 := ⟨f - 1, by omega⟩
      have w1 : IntKind.i64.wrap ((p : Int) + (q : Int)) = (p : Int) + (q : Int) := IntWalk.i64_in _ (by omega)
      have w2 : IntKind.i64.wrap ((p : Int) + (q : Int) + 1) = (p : Int) + (q : Int) + 1 := IntWalk.i64_in _ (by omega)
      have hmd : ((p : Int) + (q : Int) + 1) / 2 = (m : Int) := by omega
      have hm1 : p < m ∧ m ≤ q := by omega
      have HM := Lib.hid hm
      clear hm
      go_wp2_with fail
      have hcc := wvEqualP_any P Q xs ys i j m _ (HP.out.up HBW.out) (HQ.out.up HBW.out) hi i9 hj j9 (by omega) (by omega)
      with_reducible refine hcc.mono ?_
      clear hcc
      rintro e w4 ⟨rfl, hb4⟩
      have HB4 := Lib.hid (Below.tr HBW.out hb4)
      clear hb4
      obtain ⟨o, ho⟩ : ∃ o, comO xs ys i j m = o := ⟨_, rfl⟩
      have ho' := ho
      unfold comO at ho'
      rw [ho']
      have HO := Lib.hid ho
      clear ho ho'
      cases o with
      | true =>
        go_wp2_with fail
        go_roundw
        case rel => exact ⟨f, m, q, rfl, rfl, by omega, hq, by omega, HB4.out, HE.out.trans (commonB_yes _ hpq HM.out HO.out)⟩
        case measure => simp [intOf]; omega
      | false =>
        have w3 : IntKind.i64.wrap ((m : Int) - 1) = ((m - 1 : Nat) : Int) := by rw [IntWalk.i64_in _ (by omega)]; omega
        go_wp2_with fail
        go_roundw
        case rel => exact ⟨f, p, m - 1, rfl, rfl, hp, by omega, by omega, HB4.out, HE.out.trans (commonB_no _ hpq HM.out HO.out)⟩
        case measure => simp [intOf]; omega
    · have hI : ¬ (p : Int) < (q : Int) := by omega
      have HX := Lib.hid (HE.out.trans (commonB_end _ hpq))
      go_wp2_with fail
      go_ret
      exact ⟨ret_int (by rw [HX.out]), HBW.out⟩
theorem keepG1c {W w' : World} {p : Nat} {v : Value} {t : TypeId} (k1 : Blk W p #[v] t) (h : Below W.heap.size W w') : Below W.heap.size W w' ∧ w'.cell? ⟨p, 0, none⟩ = some v :=
  ⟨h, Blk.cell (i := 0) (Blk.up k1 h) rfl⟩
def perO (xs : List GRule) (p : Int) : Bool := decide (prC xs 0 (gramLen xs - p) = prC xs p (p + (gramLen xs - p)))
set_option maxRecDepth 100000 in
theorem hasPeriodW_any (P : Nat) (xs : List GRule) (p : Int) (w : World) (h : WvP w P xs) (h1 : 1 ≤ p) (h2 : p ≤ gramLen xs) :
    Calls Tryd.prog 41 #[.pointer (some ⟨P, 0, none⟩), .int .i64 p] w fun e w' => e = .returned (.bool (perO xs p)) ∧ Below w.heap.size w w' := by
  have HP := Lib.hid h
  have hb := gram_len_bd xs
  have HE := Lib.hid (show perO xs p = decide (prC xs 0 (gramLen xs - p) = prC xs p (p + (gramLen xs - p))) from rfl)
  obtain ⟨n, hn⟩ : ∃ n, gramLen xs = n := ⟨_, rfl⟩
  rw [hn] at h2 hb HE
  have HN := Lib.hid hn
  clear h hn
  go_enter Tryd.func41, Tryd.ntmps41
  go_wp2_with fail
  refine (wvLength_any P xs _ HP.out).mono ?_
  rintro e w1 ⟨rfl, hb1⟩
  rw [HN.out]
  have HB1 := Lib.hid hb1
  clear hb1
  have wr1 : IntKind.i64.wrap (n - p) = n - p := IntWalk.i64_in _ (by omega)
  go_wp2_with fail
  refine (wvEqualP_any P P xs xs 0 p (n - p) _ (HP.out.up HB1.out) (HP.out.up HB1.out) (by omega) (by omega) (by omega) (by omega) (by omega) (by omega)).mono ?_
  rintro e w2 ⟨rfl, hb2⟩
  have HB2 := Lib.hid (Below.tr HB1.out hb2)
  clear hb2
  go_wp2_with fail
  go_ret
  exact ⟨ret_bool (by rw [HE.out]), HB2.out⟩
set_option maxRecDepth 100000 in
theorem hasPeriod_any (v : Value) (xs : List GRule) (p : Int) (w : World) (h : Sl RuleE w w.heap.size v xs) (hg : gramOk xs = true) (h1 : 1 ≤ p) (h2 : p ≤ gramLen xs) :
    Calls Tryd.prog 18 #[.agg #[v], .int .i64 p] w fun e w' => e = .returned (.tuple #[.bool (perO xs p), .int .i64 0]) ∧ Below w.heap.size w w' := by
  have H := Lib.hid h
  obtain ⟨A, c, rfl, _⟩ := h
  have hX := Lib.hid hg
  have HB := Lib.hid (fun o => ((Below.refl w.heap.size w).alloc (Nat.le_refl _) o))
  obtain ⟨n, hn⟩ : ∃ n, gramLen xs = n := ⟨_, rfl⟩
  have h2' := h2
  rw [hn] at h2'
  have HN := Lib.hid hn
  have H2 := Lib.hid h2
  clear hg hn h2
  go_enter Tryd.func18, Tryd.ntmps18
  go_wp2_with fail
  refine (newWeave_wvp _ xs _ (H.out.up (HB.out _)) hX.out).mono ?_
  rintro e w1 ⟨P, rfl, hP, hb1⟩
  have HP := Lib.hid hP
  have HB1 := Lib.hid (Below.tr (HB.out _) hb1)
  clear hb1 hP
  go_wp2_with fail
  refine (wvLength_any P xs _ HP.out).mono ?_
  rintro e w2 ⟨rfl, hb2⟩
  rw [HN.out]
  have HB2 := Lib.hid (Below.tr HB1.out hb2)
  have HP2 := Lib.hid (HP.out.up hb2)
  clear hb2
  have hin : (decide (1 ≤ p) && decide (p ≤ n)) = true := by simp; omega
  go_wp2_with fail
  refine (within_any p 1 n _).mono ?_
  rintro e w3 ⟨rfl, rfl⟩
  rw [hin]
  go_wp2_with fail
  refine (hasPeriodW_any P xs p _ HP2.out h1 H2.out).mono ?_
  rintro e w4 ⟨rfl, hb4⟩
  have HB4 := Lib.hid (Below.tr HB2.out hb4)
  clear hb4
  go_wp2_with fail
  go_ret2
  exact ⟨rfl, HB4.out⟩
set_option maxRecDepth 100000 in
set_option maxHeartbeats 2000000 in
theorem isPal_any (v : Value) (xs : List GRule) (w : World) (h : Sl RuleE w w.heap.size v xs) (hg : gramOk xs = true) (ht : gramOk (xs.map turnR) = true) :
    Calls Tryd.prog 19 #[.agg #[v]] w fun e w' => e = .returned (.tuple #[.bool (eqG xs (xs.map turnR)), .int .i64 0]) ∧ Below w.heap.size w w' := by
  have H := Lib.hid h
  obtain ⟨A, c, rfl, _⟩ := h
  have hX := Lib.hid hg
  have hT := Lib.hid ht
  have hl : xs.length ≤ 1099511627776 := by have := (gram_lens hg).1; omega
  have HB := Lib.hid (fun o => ((Below.refl w.heap.size w).alloc (Nat.le_refl _) o))
  have k1 := Lib.hid (Blk.new w #[.slice A xs.length c] 26)
  clear hg ht
  go_enter Tryd.func19, Tryd.ntmps19
  go_wp2_with fail
  refine (ValidGrammar_any _ xs _ (H.out.up (HB.out _)) hl).mono ?_
  rintro e w1 ⟨rfl, hb1⟩
  rw [hX.out]
  have HB1 := Lib.hid (Below.tr (HB.out _) hb1)
  have K1 := Lib.hid (k1.out.up hb1)
  have c1 := Blk.cell (i := 0) (v := .slice A xs.length c) K1.out rfl
  have l1 := K1.out.lt
  clear hb1
  go_wp2_with fail
  have H1 := Lib.hid (H.out.up HB1.out)
  have HKJ := Lib.hid (fun (W : World) (h : Below w1.heap.size w1 W) => keepG1c K1.out h)
  have KD := HKJ.out _ (Below.drew (Below.refl w1.heap.size w1))
  go_region_held3 (fun w' => Below w1.heap.size w1 w' ∧ w'.cell? ⟨w.heap.size, 0, none⟩ = some (.slice A xs.length c))
    (first | (with_reducible exact KD) | (with_reducible exact HKJ.out _ b1) | (with_reducible exact HKJ.out _ b2))
    (first
      | ((fail_if_success (have hx1 := b1)); go_at_call 42; (have hcc := turnedOver_any _ xs _ (H1.out.up (Below.drew (Below.refl w1.heap.size w1))) hl); (with_reducible refine hcc.mono ?_); clear hcc; rintro r t1 ⟨v2, rfl, own, hb1⟩; have b1 : Below w1.heap.size w1 t1 := Below.undrew hb1; have HO := Lib.hid (OwnRules.sl own); obtain ⟨A2, c2, rfl, _⟩ := own_nil own; rw [List.length_map] at HO)
      | ((fail_if_success (have hx1 := b2)); go_at_call 9; (have hcc := equalWords_any _ _ xs (xs.map turnR) _ (H1.out.up b1) HO.out hX.out hT.out); (with_reducible refine hcc.mono ?_); clear hcc; rintro r t2 ⟨rfl, hb2⟩; have b2 := Below.tr b1 hb2))
  have HB3 := Lib.hid (Below.tr HB1.out b2)
  go_wp2
  go_ret2
  exact ⟨rfl, HB3.out⟩
def unlV (n u : Nat) : Int := if u = n then 0 else (u : Nat)
def unlE (n u : Nat) : Int := if u = n then 6 else 0
def unlO (xs : List GRule) (n : Nat) : Nat := commonB (comO xs xs 0 1) (n - 1) 0 (n - 1) + 1
set_option maxRecDepth 100000 in
theorem firstUnlike_any (v : Value) (xs : List GRule) (n : Nat) (w : World) (h : Sl RuleE w w.heap.size v xs) (hg : gramOk xs = true) (hn : gramLen xs = (n : Int)) (h1 : 1 ≤ n) :
    Calls Tryd.prog 20 #[.agg #[v]] w fun e w' => e = .returned (.tuple #[.int .i64 (unlV n (unlO xs n)), .int .i64 (unlE n (unlO xs n))]) ∧ Below w.heap.size w w' := by
  have H := Lib.hid h
  obtain ⟨A, c, rfl, _⟩ := h
  have hX := Lib.hid hg
  have HN := Lib.hid hn
  have hbd := gram_len_bd xs
  rw [hn] at hbd
  have HB := Lib.hid (fun o => ((Below.refl w.heap.size w).alloc (Nat.le_refl _) o))
  clear hg hn
  have h10 : ((n : Int) == 0) = false := by rw [beq_eq_false_iff_ne]; omega
  have HU := Lib.hid (show unlO xs n = commonB (comO xs xs 0 1) (n - 1) 0 (n - 1) + 1 from rfl)
  have hcl := commonB_le (comO xs xs 0 1) (n - 1) 0 (n - 1) (n - 1) (Nat.zero_le _) (Nat.le_refl _)
  obtain ⟨k, hk⟩ : ∃ k, commonB (comO xs xs 0 1) (n - 1) 0 (n - 1) = k := ⟨_, rfl⟩
  rw [hk] at HU hcl
  have HK := Lib.hid hk
  clear hk
  go_enter Tryd.func20, Tryd.ntmps20
  go_wp2_with fail
  refine (newWeave_wvp _ xs _ (H.out.up (HB.out _)) hX.out).mono ?_
  rintro e w1 ⟨P, rfl, hP, hb1⟩
  have HP := Lib.hid hP
  have HB1 := Lib.hid (Below.tr (HB.out _) hb1)
  clear hb1 hP
  go_wp2_with fail
  refine (wvLength_any P xs _ HP.out).mono ?_
  rintro e w2 ⟨rfl, hb2⟩
  rw [HN.out]
  have HB2 := Lib.hid (Below.tr HB1.out hb2)
  have HP2 := Lib.hid (HP.out.up hb2)
  clear hb2
  go_wp2_with fail
  refine (common_any P P xs xs 0 1 (n - 1) _ HP2.out HP2.out (by omega) (by rw [HN.out]; omega) (by omega) (by rw [HN.out]; omega) (by rw [HN.out]; omega)).mono ?_
  rintro e w3 ⟨rfl, hb3⟩
  rw [HK.out]
  have HB3 := Lib.hid (Below.tr HB2.out hb3)
  have HP3 := Lib.hid (HP2.out.up hb3)
  clear hb3
  have wk : IntKind.i64.wrap ((k : Int) + 1) = (k : Int) + 1 := IntWalk.i64_in _ (by omega)
  go_wp2_with fail
  refine (wvLength_any P xs _ HP3.out).mono ?_
  rintro e w4 ⟨rfl, hb4⟩
  rw [HN.out]
  have HB4 := Lib.hid (Below.tr HB3.out hb4)
  clear hb4
  by_cases e1 : k + 1 = n
  · have g1 : (((k : Int) + 1) == (n : Int)) = true := by rw [beq_iff_eq]; omega
    go_wp2_with fail
    go_ret2
    exact ⟨by rw [HU.out]; unfold unlV unlE; rw [if_pos e1, if_pos e1]; rfl, HB4.out⟩
  · have g1 : (((k : Int) + 1) == (n : Int)) = false := by rw [beq_eq_false_iff_ne]; omega
    have E1 := Lib.hid e1
    clear e1
    go_wp2_with fail
    go_ret2
    exact ⟨by rw [HU.out]; unfold unlV unlE; rw [if_neg E1.out, if_neg E1.out]; rfl, HB4.out⟩
end Go.Proofs.YtfhiaifdigefdaaDoor
namespace Go.Proofs
open Go.Shelf
end Go.Proofs
namespace Go.Proofs.YtfhiaifdigefdaaDoor
open Go.RowKit
section
variable {xs : List GRule} {vR : Value} {bg bs b B : Nat}
end
def upV (xs : List GRule) : List UInt8 := if gramOk xs && decide ((wordG xs).length ≤ 2000) then wordG xs else []
def upC (xs : List GRule) : Int := if gramOk xs then (if (wordG xs).length ≤ 2000 then 0 else 3) else 1
theorem up_bad {xs : List GRule} (h : gramOk xs = false) : upV xs = [] ∧ upC xs = 1 := by simp [upV, upC, h]
theorem up_long {xs : List GRule} (h : gramOk xs = true) (hl : ¬ (wordG xs).length ≤ 2000) : upV xs = [] ∧ upC xs = 3 := by
  unfold upV upC
  rw [h, decide_eq_false hl]
  simp [hl]
theorem up_ok {xs : List GRule} (h : gramOk xs = true) (hl : (wordG xs).length ≤ 2000) : upV xs = wordG xs ∧ upC xs = 0 := by
  unfold upV upC
  rw [h, decide_eq_true hl]
  simp [hl]
set_option maxRecDepth 100000 in
set_option maxHeartbeats 1000000 in
theorem specUnpackWord_any (v : Value) (xs : List GRule) (w : World) (h : Sl RuleE w w.heap.size v xs) (hsm : SmallL xs) :
    Calls Tryd.prog 38 #[.agg #[v]] w fun e w' => e = .returned (.tuple #[.string ⟨(upV xs).toArray⟩, .int .i64 (upC xs)]) ∧ Below w.heap.size w w' := by
  have HG := Lib.hid h
  obtain ⟨A, c, rfl, _⟩ := h
  have b1 := (Below.refl w.heap.size w).alloc (Nat.le_refl _) (Obj.cells #[.slice A xs.length c] 26)
  have KP := Blk.new w #[.slice A xs.length c] 26
  go_enter Tryd.func38, Tryd.ntmps38
  go_upto_region 1 with fail
  generalize (w.alloc (Obj.cells #[.slice A xs.length c] 26)) = w0 at *
  have KB := Lib.hid b1
  clear b1
  have cP0_1 := Blk.cell (i := 0) (v := .slice A xs.length c) KP rfl
  have lP_2 := Blk.lt KP
  go_wp2_with fail
  refine (l02Ok_any w.heap.size 0 _ xs _ cP0_1 (Blk.lt KP) (HG.out.up KB.out) hsm).mono ?_
  rintro e w1 ⟨rfl, hb_3⟩
  have z_w1 : w0.heap.size ≤ w1.heap.size := hb_3.size
  have KB_4 := Lib.hid (Below.tr KB.out hb_3)
  have KP_5 := Blk.up KP hb_3
  clear cP0_1 lP_2 KB KP
  cases hg : gramOk xs with
  | false =>
    have HQ := Lib.hid (up_bad hg)
    clear hg
    go_wp2_with fail
    go_ret2
    exact ⟨by rw [HQ.out.1, HQ.out.2]; rfl, KB_4.out⟩
  | true =>
    obtain ⟨h4, ls, hl⟩ := gram_lens hg
    have HGG := Lib.hid hg
    have HL := Lib.hid hl
    have hwl := wordG_len hl
    have hlb := lastI_bounds hl
    clear hg hl
    have cP0_6 := Blk.cell (i := 0) (v := .slice A xs.length c) KP_5 rfl
    have lP_7 := Blk.lt KP_5
    go_wp2_with fail
    refine (l02Length_any w.heap.size 0 _ xs ls _ HL.out cP0_6 (Blk.lt KP_5) (HG.out.up KB_4.out) hsm (by omega)).mono ?_
    rintro e w2 ⟨rfl, hb_8⟩
    have z_w2 : w1.heap.size ≤ w2.heap.size := hb_8.size
    have KB_9 := Lib.hid (Below.tr KB_4.out hb_8)
    have KP_10 := Blk.up KP_5 hb_8
    clear hb_3 cP0_6 lP_7 KB_4 KP_5
    by_cases hbig : (2000 : Int) < lastI ls
    · have HQ := Lib.hid (up_long HGG.out (by omega))
      go_wp2_with fail
      go_ret2
      exact ⟨by rw [HQ.out.1, HQ.out.2]; rfl, KB_9.out⟩
    · have HQ := Lib.hid (up_ok HGG.out (by omega))
      have hcut : cutL (wordG xs) 0 (lastI ls) = wordG xs := cutL_all (Int.le_refl _) (by omega)
      have HC := Lib.hid hcut
      clear hcut
      have cP0_11 := Blk.cell (i := 0) (v := .slice A xs.length c) KP_10 rfl
      have lP_12 := Blk.lt KP_10
      go_wp2_with fail
      refine (l02Unpack_any w.heap.size 0 _ xs ls 0 (lastI ls) _ cP0_11 (Blk.lt KP_10) (HG.out.up KB_9.out) hsm HL.out h4 (by omega) (by omega) (by omega) (by omega)).mono ?_
      rintro e w3 ⟨rfl, hb_13⟩
      have z_w3 : w2.heap.size ≤ w3.heap.size := hb_13.size
      have KB_14 := Lib.hid (Below.tr KB_9.out hb_13)
      have KP_15 := Blk.up KP_10 hb_13
      clear hb_8 cP0_11 lP_12 KB_9 KP_10
      go_wp2_with fail
      go_ret2
      exact ⟨by rw [HQ.out.1, HQ.out.2, HC.out]; rfl, KB_14.out⟩
theorem Unpacked_any (v : Value) (xs : List GRule) (w : World) (h : Sl RuleE w w.heap.size v xs) (hsm : SmallL xs) :
    Calls Tryd.prog 17 #[.agg #[v]] w fun e w' => e = .returned (.string ⟨(upV xs).toArray⟩) ∧ Below w.heap.size w w' := by
  have HG := Lib.hid h
  obtain ⟨A, c, rfl, _⟩ := h
  go_enter Tryd.func17, Tryd.ntmps17
  go_wp2_with fail
  refine (specUnpackWord_any _ xs _ (HG.out.up (by repeat (first | exact Below.refl _ _ | (refine Below.alloc ?_ (by first | omega | (simp; done) | (simp; omega)) _) | (refine Below.setCell ?_ (by first | exact Nat.le_refl _ | (show _ ≤ _; omega) | (simp; done) | (simp; omega)) _) | refine below_drewN ?_ _ | refine Below.drew ?_))) hsm).mono ?_
  rintro e w1 ⟨rfl, hb⟩
  go_wp2_with fail
  go_ret
  exact ⟨rfl, (Below.unalloc hb).1⟩
theorem drawnW {most : Int} {xs : List GRule} (h : DrawnOk most xs) (h1 : 1 ≤ most) (h2 : most ≤ 2000) : upV xs = wordG xs ∧ upC xs = 0 ∧ ((wordG xs).length : Int) = gramLen xs ∧ ((wordG xs).length : Int) ≤ most := by
  obtain ⟨hg, h0, hm, _⟩ := h
  obtain ⟨h4, ls, hl⟩ := gram_lens hg
  have hw := wordG_len hl
  have hgl := gramLen_of hl
  have := hm h1
  obtain ⟨k1, k2⟩ := up_ok hg (by omega)
  exact ⟨k1, k2, by omega, by omega⟩
structure PerLaw (xs X : List GRule) (t n : Nat) : Prop where
  code : powCode xs t = 0
  ok : gramOk X = true
  up : upV X = wordG X
  len : (wordG X).length = n
  gl : gramLen X = (n : Int)
  n1 : 1 ≤ n
  n32 : n ≤ 32
  xl : X.length ≤ 18
  okT : gramOk (X.map turnR) = true
  per : ∀ p : Nat, p ≤ n → perO X p = decide ((wordG X).drop p = (wordG X).take (n - p))
  pal : eqG X (X.map turnR) = decide (wordG X = (wordG X).reverse)
  unl : ∀ due, DueP (wordG X) due → unlO X n = due
theorem per_law {xs : List GRule} {t : Nat} (h : DrawnOk 8 xs) (hl : xs.length ≤ 14) (h1 : 1 ≤ t) (h4 : t ≤ 4) : PerLaw xs (powOut xs t) t (wordG (powOut xs t)).length := by
  obtain ⟨d1, d2, d3, d4⟩ := drawnW h (by omega) (by omega)
  have hg := h.1
  have h0 := h.2.1
  have m1 : (t : Int) * gramLen xs ≤ 4 * 8 := Int.mul_le_mul (by omega) (by omega) (by omega) (by omega)
  obtain ⟨p1, p2, p3, p4, p5⟩ := pow_two (n := t) (k := 3) hg h0 (by omega) (by omega) (by omega) h1 (by omega)
  generalize powOut xs t = X at *
  have glen : ∀ {x : List GRule}, gramOk x = true → gramLen x = ((wordG x).length : Nat) := fun {x} hx => by
    obtain ⟨_, lx, hlx⟩ := gram_lens hx
    rw [gramLen_of hlx, wordG_len hlx]
  have hlenX : (wordG X).length = t * (wordG xs).length := by rw [p3, repW_len]
  have hw0 : 0 < (wordG xs).length := by
    obtain ⟨_, a, ha⟩ := gram_lens hg
    have := lens_pos' ha (r := xs.length - 1) (by omega)
    have e := lastI_at ha h0
    have e2 := wordG_len ha
    omega
  have hx4 : t * (wordG xs).length ≤ 4 * 8 := Nat.mul_le_mul h4 (by omega)
  have hx1 : 1 * 1 ≤ t * (wordG xs).length := Nat.mul_le_mul h1 hw0
  obtain ⟨t1, t2, t3, t4⟩ := turn_small p2
  have gT : gramLen (X.map turnR) = gramLen X := by rw [glen t3, glen p2, t4, List.length_reverse]
  obtain ⟨a1, a2, a3⟩ := periods_all (X := X) (t := t) hg p3 hw0 (by omega) h4 (by omega)
  refine ⟨p1, p2, (up_ok p2 (by omega)).1, rfl, glen p2, by omega, by omega, by omega, t3, fun p hp => ?_, a2 _ t4 gT, fun due hd => ?_⟩
  · unfold perO
    rw [glen p2]
    have e := a1 p hp
    have e2 : (((wordG X).length : Nat) : Int) - (p : Int) = (((wordG X).length - p : Nat) : Int) := by omega
    rw [e2]
    exact decide_eq_decide.2 (e.trans eq_comm)
  · unfold unlO
    have d1 := hd.one
    have d2 := hd.le
    rw [commonB_spec (comO X X 0 1) (due - 1) ((wordG X).length - 1) (fun m hm => ?_) _ _ _ (by omega) (by omega) (by omega) (by omega) (by omega)]
    · omega
    · have e := a3 due hd m hm
      unfold comO
      rw [decide_eq_true_iff, Int.zero_add]
      exact e
set_option maxRecDepth 100000 in
theorem specValidGrammar_any (v : Value) (xs : List GRule) (w : World) (h : Sl RuleE w w.heap.size v xs) (hsm : SmallL xs) :
    Calls Tryd.prog 11 #[.agg #[v]] w fun e w' => e = .returned (.bool (gramOk xs)) ∧ Below w.heap.size w w' := by
  have HG := Lib.hid h
  obtain ⟨A, c, rfl, _⟩ := h
  have ba := (Below.refl _ w).alloc (Nat.le_refl _) (.cells #[.slice A xs.length c] 26)
  have HA := Lib.hid (HG.out.up ba)
  have KB := Blk.new w #[.slice A xs.length c] 26
  have cB := Blk.cell (i := 0) (v := .slice A xs.length c) KB rfl
  have lB := KB.lt
  have HBA := Lib.hid ba
  clear ba KB
  go_enter Tryd.func11, Tryd.ntmps11
  go_wp2_with fail
  refine (l02Ok_any w.heap.size 0 _ xs _ cB lB HA.out hsm).mono ?_
  rintro r w1 ⟨rfl, hb1⟩
  have HB := Lib.hid (Below.tr HBA.out hb1)
  go_wp2_with fail
  go_ret
  exact ⟨rfl, HB.out⟩
theorem Turned_any (s : ByteArray) (w : World) (hs : s.size ≤ 1000000) :
    Calls Tryd.prog 21 #[.string s] w fun e w' => e = .returned (.string ⟨s.data.toList.reverse.toArray⟩) ∧ Below w.heap.size w w' := by
  go_enter Tryd.func21, Tryd.ntmps21
  go_wp2_with fail
  refine (l01Turn_any s w hs).mono ?_
  rintro r w1 ⟨rfl, hb1⟩
  have HB := Lib.hid hb1
  go_wp2_with fail
  go_ret
  exact ⟨rfl, HB.out⟩
theorem gram_smallL {xs : List GRule} (h : gramOk xs = true) : SmallL xs := by
  obtain ⟨_, ls, hl⟩ := gram_lens h
  exact fun r hr => Nat.le_trans (okAll_small (okAll_lens hl) r hr) (by decide)
theorem cut_ext {l : List UInt8} {i j : Nat} : (⟨l.toArray⟩ : ByteArray).extract i j = ⟨((l.take j).drop i).toArray⟩ := by
  apply ByteArray.ext
  apply Array.ext'
  rw [Lib.extract_data]
  show List.take (j - i) (List.drop i l) = (List.drop i (List.take j l))
  rw [List.drop_take]
structure JR (wx : World) (P : Nat) (v : Value) (zs : List GRule) : Prop where
  b : Blk wx P #[v] 26
  s : Sl RuleE wx wx.heap.size v zs
theorem JR.up {wx w' : World} {P : Nat} {v : Value} {zs : List GRule} (h : JR wx P v zs) (hb : Below wx.heap.size wx w') : JR w' P v zs := ⟨h.b.up hb, h.s.up hb⟩
theorem JR.new {wx : World} {base : Nat} {v : Value} {zs : List GRule} (h : OwnRules wx base v zs) : JR (wx.alloc (.cells #[v] 26)) wx.heap.size v zs := ⟨Blk.new _ _ _, (OwnRules.sl h).up ((Below.refl _ wx).alloc (Nat.le_refl _) _)⟩
end Go.Proofs.YtfhiaifdigefdaaDoor
