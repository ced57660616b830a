import Derived.Test.YtagpjommhoedlaaM4
import Derived.Test.YtagpjommhoedlaaM5
import Derived.Test.YtagpjommhoedlaaM1
import Derived.Shelf.Strings.BuilderK
import Derived.Test.YtagpjommhoedlaaM3
import Derived.Test.YtagpjommhoedlaaM2
import Derived.Laws.EntriesVeiled
import Derived.Shelf.Bits.Mul64
import Derived.Shelf.Strings.BuilderF
import Derived.Shelf.Strings.Builder2
import Derived.Lib.RepeatB
import Derived.Deep.LoopGhost
import Derived.Deep.DeepCutAuto
import Derived.Deep.DeepFit
import Derived.Deep.CutBlock
import Derived.Test.YtagpjommhoedlaaRows
import Derived.WalkKit
import Derived.ProofKit
import Derived.Below
import Derived.ChangeSame
import Derived.Lib.SmallJoins
import Derived.Carry
import Derived.WideKeyArgs
import Derived.OpenShut
import Derived.Deep.Slices
import Derived.Deep.Fields
namespace Go.Proofs.Ytagpjommhoedlaa
open Go.RowKit

set_option maxRecDepth 100000 in
theorem a2Long_any (v v' : Value) (l l' : List UInt8) (w : World) (h : Sl ByteE w w.heap.size v l) (h' : Sl ByteE w w.heap.size v' l') :
    Calls Try.prog 7 #[v, v'] w fun e w' => e = .returned (.bool (decide ((3000 : Int) < l.length) || decide ((3000 : Int) < l'.length))) ∧ w = w' := by
  obtain ⟨A, c, rfl, _⟩ := h
  obtain ⟨A', c', rfl, _⟩ := h'
  by_cases h1 : (3000 : Int) < (l.length : Int)
  · go_enter Try.func7, Try.ntmps7
    go_wp2_with fail
    go_ret
    exact ⟨ret_bool (by simp [h1]), rfl⟩
  · have e1 : decide ((3000 : Int) < (l.length : Int)) = false := by simp; omega
    go_enter Try.func7, Try.ntmps7
    go_wp2_with fail
    go_ret
    exact ⟨ret_bool (by first | rfl | (simp [e1]; done) | simp), rfl⟩
/-- A number that is drawn of a byte. -/
theorem a2At_any (v : Value) (l : List UInt8) (i n : Int) (w : World) (h : Sl ByteE w w.heap.size v l) (hi : 0 ≤ i) (hn : n ≤ 1000000000000000) :
    Calls Try.prog 11 #[v, .int .i64 i, .int .i64 n] w fun e w' => ∃ x : Int, e = .returned (.int .i64 x) ∧ 0 ≤ x ∧ (x = 0 ∨ x < n) ∧ w = w' := by
  have HL := Lib.hid h
  obtain ⟨A, c, rfl, _⟩ := h
  obtain ⟨i, rfl⟩ := Int.eq_ofNat_of_zero_le hi
  by_cases h1 : (l.length : Int) ≤ (i : Int)
  · go_enter Try.func11, Try.ntmps11
    go_wp2_with fail
    go_ret
    exact ⟨0, rfl, by omega, .inl rfl, rfl⟩
  · by_cases h2 : n < 1
    · go_enter Try.func11, Try.ntmps11
      go_wp2_with fail
      go_ret
      exact ⟨0, rfl, by omega, .inl rfl, rfl⟩
    · obtain ⟨m, rfl⟩ := Int.eq_ofNat_of_zero_le (show 0 ≤ n by omega)
      have hm0 : ¬ (m : Int) = 0 := by omega
      obtain ⟨_, _, ev, _, _, hrow⟩ := HL.out
      injection ev with ev1 ev2 ev3
      subst ev1
      obtain ⟨bc, oc, rfl, hbc, hcs⟩ := hrow (by omega)
      have hlt : i < l.length := by omega
      obtain ⟨cs, hcs1, hcs2⟩ := hcs i l[i] (List.getElem?_eq_getElem hlt)
      have hcs1' : cs = [.int .u8 (l[i].toNat : Int)] := hcs1
      subst hcs1'
      have hcx := hcs2 0 _ rfl
      have e1 : oc + (i * ByteE.size + 0) = oc + i := by show oc + (i * 1 + 0) = oc + i; omega
      rw [e1] at hcx
      have hb := l[i].toNat_lt
      obtain ⟨z, hz⟩ : ∃ z : Nat, l[i].toNat = z := ⟨_, rfl⟩
      rw [hz] at hcx hb
      clear hcs hcs1 hcs2 hrow e1 hz
      go_enter Try.func11, Try.ntmps11
      go_wp2_with fail
      go_ret
      refine ⟨((z % m : Nat) : Int), rfl, by omega, .inr ?_, rfl⟩
      have := Nat.mod_lt z (show 0 < m by omega)
      omega
theorem A2Grammar_any (v : Value) (l : List UInt8) (most : Int) (w : World) (h : Sl ByteE w w.heap.size v l) :
    Calls Try.prog 8 #[v, .int .i64 most] w fun e w' => ∃ u xs, e = .returned (.agg #[u]) ∧ Sl RuleE w' w'.heap.size u xs ∧ DrawnOk most xs ∧ xs.length ≤ 14 ∧ Below w.heap.size w w' := by
  have HL := Lib.hid h
  obtain ⟨A, c, rfl, _⟩ := h
  go_enter Try.func8, Try.ntmps8
  go_wp2_with fail
  have ba := (Below.refl _ w).alloc (Nat.le_refl _) (.cells #[.slice none 0 0] 26)
  refine (from_any _ l _ (HL.out.up ba)).mono ?_
  rintro r w1 ⟨b, rfl, hb, hs, hb1⟩
  have KR1 := Lib.hid (Blk.up (Blk.new w #[.slice none 0 0] 26) hb1)
  have hbz : w.heap.size < b := by simp at hb; omega
  have HS := Lib.hid hs
  have HB := Lib.hid (ba.trans (hb1.mono ba.size))
  have hz1 : w.heap.size < w1.heap.size := KR1.out.lt
  clear hs hb1 ba hb
  go_wp2_with fail
  refine (l02Drawn_any b 0 most _ HS.out (by omega)).mono ?_
  rintro r w2 ⟨u, xs, rfl, hsl, hok, hl, _, hb2⟩
  have KR2 := KR1.out.but hb2 (by omega)
  have cR := Blk.cell (i := 0) (v := .slice none 0 0) KR2 rfl
  have zR := Blk.frozen KR2 0
  have hz2 := hb2.size
  have HB2 := Lib.hid (HB.out.trans (hb2.below (B := w.heap.size) (by omega) (by omega)))
  have HSL := Lib.hid hsl
  clear hsl hb2 KR2
  obtain ⟨AX, cX, rfl, _⟩ := HSL.out
  go_wp2_with fail
  exact bodyPost_ret (v := .agg #[.slice AX xs.length cX]) (by simp [results, Try.results8, go_sem, cR]) rfl
    ⟨_, xs, rfl, (HSL.out.keep fun k hk => Below.heap_setCell w2 ⟨w.heap.size, 0, none⟩ _ k (by show k ≠ w.heap.size; omega)).more fun k hk => by simpa using hk.2, hok, hl, HB2.out.setCell (p := ⟨w.heap.size, 0, none⟩) (Nat.le_refl _) _⟩
theorem six {wx : World} {R : Nat} {a0 a1 a2 a3 a4 a5 : Value} (h : Blk wx R #[a0, a1, a2, a3, a4, a5] 30) (v0 v1 v2 v3 v4 v5 : Value) :
    let W := (((((wx.setCell ⟨R, 0, none⟩ v0).setCell ⟨R, 1, none⟩ v1).setCell ⟨R, 2, none⟩ v2).setCell ⟨R, 3, none⟩ v3).setCell ⟨R, 4, none⟩ v4).setCell ⟨R, 5, none⟩ v5
    Blk W R #[v0, v1, v2, v3, v4, v5] 30 ∧ (∀ k, k ≠ R → W.heap[k]? = wx.heap[k]?) ∧ Below R wx W := by
  intro W
  exact ⟨(((((h.set 0 v0).set 1 v1).set 2 v2).set 3 v3).set 4 v4).set 5 v5,
    fun k hk => (Below.heap_setCell _ ⟨R, 5, none⟩ v5 k hk).trans ((Below.heap_setCell _ ⟨R, 4, none⟩ v4 k hk).trans ((Below.heap_setCell _ ⟨R, 3, none⟩ v3 k hk).trans ((Below.heap_setCell _ ⟨R, 2, none⟩ v2 k hk).trans ((Below.heap_setCell _ ⟨R, 1, none⟩ v1 k hk).trans (Below.heap_setCell _ ⟨R, 0, none⟩ v0 k hk))))),
    ((((((Below.refl _ wx).setCell (p := ⟨R, 0, none⟩) (Nat.le_refl _) v0).setCell (p := ⟨R, 1, none⟩) (Nat.le_refl _) v1).setCell (p := ⟨R, 2, none⟩) (Nat.le_refl _) v2).setCell (p := ⟨R, 3, none⟩) (Nat.le_refl _) v3).setCell (p := ⟨R, 4, none⟩) (Nat.le_refl _) v4).setCell (p := ⟨R, 5, none⟩) (Nat.le_refl _) v5⟩
theorem A2Edit_any (v : Value) (l : List UInt8) (n : Int) (w : World) (h : Sl ByteE w w.heap.size v l) (hn : 0 ≤ n ∧ n ≤ 1000000000) :
    Calls Try.prog 10 #[v, .int .i64 n] w fun r w' => ∃ u e, r = .returned u ∧ EditV w' w'.heap.size u e ∧ e.part.length ≤ 14 ∧ SmallL e.part ∧ editOk e = true ∧ e.map.size ≤ 4 ∧ Below w.heap.size w w' := by
  have HL := Lib.hid h
  obtain ⟨A, c, rfl, _⟩ := h
  go_enter Try.func10, Try.ntmps10
  go_wp2_with fail
  have ba := (Below.refl _ w).alloc (Nat.le_refl _) (.cells #[.int .i64 0, .int .i64 0, .int .i64 0, .int .i64 0, .slice none 0 0, .string ⟨#[]⟩] 30)
  refine (from_any _ l _ (HL.out.up ba)).mono ?_
  rintro r w1 ⟨b, rfl, hb, hs, hb1⟩
  have KR1 := Lib.hid (Blk.up (Blk.new w #[.int .i64 0, .int .i64 0, .int .i64 0, .int .i64 0, .slice none 0 0, .string ⟨#[]⟩] 30) hb1)
  have hbz : w.heap.size < b := by simp at hb; omega
  have HS := Lib.hid hs
  have HB := Lib.hid (ba.trans (hb1.mono ba.size))
  have hz1 : w.heap.size < w1.heap.size := KR1.out.lt
  clear hs hb1 ba hb
  go_wp2_with fail
  refine (l07Drawn_any b 0 n _ HS.out (by omega) hn).mono ?_
  rintro r w2 ⟨u, vR, e, rfl, rfl, hsl, h14, hsm, hok, hm, _, hb2⟩
  have KR2 := KR1.out.but hb2 (by omega)
  have cR0 := Blk.cell (i := 0) (v := .int .i64 0) KR2 rfl
  have cR1 := Blk.cell (i := 1) (v := .int .i64 0) KR2 rfl
  have cR2 := Blk.cell (i := 2) (v := .int .i64 0) KR2 rfl
  have cR3 := Blk.cell (i := 3) (v := .int .i64 0) KR2 rfl
  have cR4 := Blk.cell (i := 4) (v := .slice none 0 0) KR2 rfl
  have cR5 := Blk.cell (i := 5) (v := .string ⟨#[]⟩) KR2 rfl
  have zR0 := Blk.frozen KR2 0
  have zR1 := Blk.frozen KR2 1
  have zR2 := Blk.frozen KR2 2
  have zR3 := Blk.frozen KR2 3
  have zR4 := Blk.frozen KR2 4
  have zR5 := Blk.frozen KR2 5
  have hz2 := hb2.size
  have HB2 := Lib.hid (HB.out.trans (hb2.below (B := w.heap.size) (by omega) (by omega)))
  have HSL := Lib.hid hsl
  have HOK := Lib.hid (And.intro hsm hok)
  have HK2 := Lib.hid KR2
  clear hsl hb2 hsm hok KR2
  obtain ⟨AX, cX, rfl, _⟩ := HSL.out
  go_wp2_with fail
  obtain ⟨s1, s2, s3⟩ := six HK2.out (.int .i64 e.kind) (.int .i64 e.i) (.int .i64 e.j) (.int .i64 e.k) (.slice AX e.part.length cX) (.string e.map)
  have HB3 := HB2.out.trans s3
  clear cR0 cR1 cR2 cR3 cR4 cR5 zR0 zR1 zR2 zR3 zR4 zR5
  revert s1 s2 s3 HB3
  generalize (((((w2.setCell ⟨w.heap.size, 0, none⟩ (.int .i64 e.kind)).setCell ⟨w.heap.size, 1, none⟩ (.int .i64 e.i)).setCell ⟨w.heap.size, 2, none⟩ (.int .i64 e.j)).setCell ⟨w.heap.size, 3, none⟩ (.int .i64 e.k)).setCell ⟨w.heap.size, 4, none⟩ (.slice AX e.part.length cX)).setCell ⟨w.heap.size, 5, none⟩ (.string e.map) = W
  intro s1 s2 s3 HB3
  have x0 := Blk.cell (i := 0) (v := .int .i64 e.kind) s1 rfl
  have x1 := Blk.cell (i := 1) (v := .int .i64 e.i) s1 rfl
  have x2 := Blk.cell (i := 2) (v := .int .i64 e.j) s1 rfl
  have x3 := Blk.cell (i := 3) (v := .int .i64 e.k) s1 rfl
  have x4 := Blk.cell (i := 4) (v := .slice AX e.part.length cX) s1 rfl
  have x5 := Blk.cell (i := 5) (v := .string e.map) s1 rfl
  exact bodyPost_ret (v := .agg #[.int .i64 e.kind, .int .i64 e.i, .int .i64 e.j, .int .i64 e.k, .slice AX e.part.length cX, .string e.map]) (by simp [results, Try.results10, go_sem, x0, x1, x2, x3, x4, x5]) rfl
    ⟨_, e, rfl, ⟨_, rfl, (HSL.out.keep fun k hk => s2 k (by omega)).more fun k hk => Nat.lt_of_lt_of_le hk.2.2 s3.size⟩, h14, HOK.out.1, HOK.out.2, hm, HB3⟩
end Go.Proofs.Ytagpjommhoedlaa

namespace Go.Proofs
open Go.Shelf
end Go.Proofs
namespace Go.Proofs.Ytagpjommhoedlaa
open Go.RowKit

end Go.Proofs.Ytagpjommhoedlaa

namespace Go.Proofs.Ytagpjommhoedlaa
open Go.RowKit

section
variable {xs : List GRule} {vR : Value} {bg bs b B : Nat}
end
end Go.Proofs.Ytagpjommhoedlaa

namespace Go.Proofs.Ytagpjommhoedlaa
open Go.RowKit

end Go.Proofs.Ytagpjommhoedlaa

namespace Go.Proofs.Ytagpjommhoedlaa
open Go.RowKit

/-- What UnpackWord answers. -/
def upV (xs : List GRule) : List UInt8 := if gramOk xs && decide ((wordG xs).length ≤ 2000) then wordG xs else []
def upC (xs : List GRule) : Int := if gramOk xs then (if (wordG xs).length ≤ 2000 then 0 else 3) else 1
end Go.Proofs.Ytagpjommhoedlaa

namespace Go.Proofs.Ytagpjommhoedlaa
open Go.RowKit

theorem up_bad {xs : List GRule} (h : gramOk xs = false) : upV xs = [] ∧ upC xs = 1 := by simp [upV, upC, h]
theorem up_long {xs : List GRule} (h : gramOk xs = true) (hl : ¬ (wordG xs).length ≤ 2000) : upV xs = [] ∧ upC xs = 3 := by
  unfold upV upC
  rw [h, decide_eq_false hl]
  simp [hl]
theorem up_ok {xs : List GRule} (h : gramOk xs = true) (hl : (wordG xs).length ≤ 2000) : upV xs = wordG xs ∧ upC xs = 0 := by
  unfold upV upC
  rw [h, decide_eq_true hl]
  simp [hl]
set_option maxRecDepth 100000 in
set_option maxHeartbeats 1000000 in
theorem specUnpackWord_any (v : Value) (xs : List GRule) (w : World) (h : Sl RuleE w w.heap.size v xs) (hsm : SmallL xs) :
    Calls Try.prog 34 #[.agg #[v]] w fun e w' => e = .returned (.tuple #[.string ⟨(upV xs).toArray⟩, .int .i64 (upC xs)]) ∧ Below w.heap.size w w' := by
  have HG := Lib.hid h
  obtain ⟨A, c, rfl, _⟩ := h
  have b1 := (Below.refl w.heap.size w).alloc (Nat.le_refl _) (Obj.cells #[.slice A xs.length c] 26)
  have KP := Blk.new w #[.slice A xs.length c] 26
  go_enter Try.func34, Try.ntmps34
  go_upto_region 1 with fail
  generalize (w.alloc (Obj.cells #[.slice A xs.length c] 26)) = w0 at *
  have KB := Lib.hid b1
  clear b1
  have cP0_1 := Blk.cell (i := 0) (v := .slice A xs.length c) KP rfl
  have lP_2 := Blk.lt KP
  go_wp2_with fail
  refine (l02Ok_any w.heap.size 0 _ xs _ cP0_1 (Blk.lt KP) (HG.out.up KB.out) hsm).mono ?_
  rintro e w1 ⟨rfl, hb_3⟩
  have z_w1 : w0.heap.size ≤ w1.heap.size := hb_3.size
  have KB_4 := Lib.hid (Below.tr KB.out hb_3)
  have KP_5 := Blk.up KP hb_3
  clear cP0_1 lP_2 KB KP
  cases hg : gramOk xs with
  | false =>
    have HQ := Lib.hid (up_bad hg)
    clear hg
    go_wp2_with fail
    go_ret2
    exact ⟨by rw [HQ.out.1, HQ.out.2]; rfl, KB_4.out⟩
  | true =>
    obtain ⟨h4, ls, hl⟩ := gram_lens hg
    have HGG := Lib.hid hg
    have HL := Lib.hid hl
    have hwl := wordG_len hl
    have hlb := lastI_bounds hl
    clear hg hl
    have cP0_6 := Blk.cell (i := 0) (v := .slice A xs.length c) KP_5 rfl
    have lP_7 := Blk.lt KP_5
    go_wp2_with fail
    refine (l02Length_any w.heap.size 0 _ xs ls _ HL.out cP0_6 (Blk.lt KP_5) (HG.out.up KB_4.out) hsm (by omega)).mono ?_
    rintro e w2 ⟨rfl, hb_8⟩
    have z_w2 : w1.heap.size ≤ w2.heap.size := hb_8.size
    have KB_9 := Lib.hid (Below.tr KB_4.out hb_8)
    have KP_10 := Blk.up KP_5 hb_8
    clear hb_3 cP0_6 lP_7 KB_4 KP_5
    by_cases hbig : (2000 : Int) < lastI ls
    · have HQ := Lib.hid (up_long HGG.out (by omega))
      go_wp2_with fail
      go_ret2
      exact ⟨by rw [HQ.out.1, HQ.out.2]; rfl, KB_9.out⟩
    · have HQ := Lib.hid (up_ok HGG.out (by omega))
      have hcut : cutL (wordG xs) 0 (lastI ls) = wordG xs := cutL_all (Int.le_refl _) (by omega)
      have HC := Lib.hid hcut
      clear hcut
      have cP0_11 := Blk.cell (i := 0) (v := .slice A xs.length c) KP_10 rfl
      have lP_12 := Blk.lt KP_10
      go_wp2_with fail
      refine (l02Unpack_any w.heap.size 0 _ xs ls 0 (lastI ls) _ cP0_11 (Blk.lt KP_10) (HG.out.up KB_9.out) hsm HL.out h4 (by omega) (by omega) (by omega) (by omega)).mono ?_
      rintro e w3 ⟨rfl, hb_13⟩
      have z_w3 : w2.heap.size ≤ w3.heap.size := hb_13.size
      have KB_14 := Lib.hid (Below.tr KB_9.out hb_13)
      have KP_15 := Blk.up KP_10 hb_13
      clear hb_8 cP0_11 lP_12 KB_9 KP_10
      go_wp2_with fail
      go_ret2
      exact ⟨by rw [HQ.out.1, HQ.out.2, HC.out]; rfl, KB_14.out⟩
theorem Unpacked_any (v : Value) (xs : List GRule) (w : World) (h : Sl RuleE w w.heap.size v xs) (hsm : SmallL xs) :
    Calls Try.prog 9 #[.agg #[v]] w fun e w' => e = .returned (.string ⟨(upV xs).toArray⟩) ∧ Below w.heap.size w w' := by
  have HG := Lib.hid h
  obtain ⟨A, c, rfl, _⟩ := h
  go_enter Try.func9, Try.ntmps9
  go_wp2_with fail
  refine (specUnpackWord_any _ xs _ (HG.out.up (by repeat (first | exact Below.refl _ _ | (refine Below.alloc ?_ (by first | omega | (simp; done) | (simp; omega)) _) | (refine Below.setCell ?_ (by first | exact Nat.le_refl _ | (show _ ≤ _; omega) | (simp; done) | (simp; omega)) _) | refine below_drewN ?_ _ | refine Below.drew ?_))) hsm).mono ?_
  rintro e w1 ⟨rfl, hb⟩
  go_wp2_with fail
  go_ret
  exact ⟨rfl, (Below.unalloc hb).1⟩
end Go.Proofs.Ytagpjommhoedlaa

namespace Go.Proofs
open Go.Shelf
end Go.Proofs
namespace Go.Proofs.Ytagpjommhoedlaa
open Go.RowKit

end Go.Proofs.Ytagpjommhoedlaa

namespace Go.Proofs.Ytagpjommhoedlaa
open Go.RowKit

end Go.Proofs.Ytagpjommhoedlaa

namespace Go.Proofs.Ytagpjommhoedlaa
open Go.RowKit

/-- The letter of a word whose letters from i to m are mapped. -/
def mixB (s mp : ByteArray) (i m t : Nat) : UInt8 := if i ≤ t ∧ t < m then mapB mp (s.data.toList.getD t 0) else s.data.toList.getD t 0
/-- A row of bytes whose letters from i to m are mapped. -/
def RowM (w : World) (b : Nat) (s mp : ByteArray) (i m : Nat) : Prop := ∀ t, t < s.size → w.cell? ⟨b, t, none⟩ = some (.int .u8 ((mixB s mp i m t).toNat : Int)) ∧ w.frozen? ⟨b, t, none⟩ = false
theorem RowM.drew {w : World} {b : Nat} {s mp : ByteArray} {i m : Nat} (h : RowM w b s mp i m) : RowM w.drew b s mp i m := h
theorem RowM.start {w : World} {b : Nat} {s mp : ByteArray} {i : Nat} (h : ∀ t (ht : t < s.data.toList.length), w.cell? ⟨b, t, none⟩ = some (.int .u8 (s.data.toList[t].toNat : Int)) ∧ w.frozen? ⟨b, t, none⟩ = false) : RowM w b s mp i i := by
  intro t ht
  have ht' : t < s.data.toList.length := by simpa using ht
  have := h t ht'
  rw [mixB, if_neg (by omega), List.getD_eq_getElem?_getD, List.getElem?_eq_getElem ht']
  exact this
theorem RowM.step {w : World} {b : Nat} {s mp : ByteArray} {i m d : Nat} (h : RowM w b s mp i m) (hi : i ≤ m) (hm : m < s.size) (hd : s[m].toNat = 97 + d) (hd4 : d < mp.size) : RowM (w.setCell ⟨b, m, none⟩ (.int .u8 (mp[d].toNat : Int))) b s mp i (m + 1) := by
  have hv : mapB mp s[m] = mp[d] := by
    unfold mapB
    rw [hd, show 97 + d - 97 = d by omega]
    simp [Array.getD, hd4]
    rfl
  intro t ht
  obtain ⟨h1, h2⟩ := h t ht
  refine ⟨?_, by simpa using h2⟩
  by_cases e : t = m
  · subst e
    rw [mixB, if_pos (by omega), List.getD_eq_getElem?_getD, List.getElem?_eq_getElem (by simpa using hm)]
    rw [World.cell?_setCell_same' w ⟨b, t, none⟩ _ (by rw [h1]; rfl)]
    show _ = some (Value.int .u8 ((mapB mp s[t]).toNat : Int))
    rw [hv]
  · rw [World.cell?_setCell_other w _ _ _ (by intro h; injection h with _ h; omega), h1]
    have e2 : mixB s mp i (m + 1) t = mixB s mp i m t := by
      simp only [mixB]
      by_cases c : i ≤ t ∧ t < m
      · rw [if_pos c, if_pos ⟨c.1, by omega⟩]
      · rw [if_neg c, if_neg (by omega)]
    rw [e2]
end Go.Proofs.Ytagpjommhoedlaa

namespace Go.Proofs.Ytagpjommhoedlaa
open Go.RowKit

end Go.Proofs.Ytagpjommhoedlaa

namespace Go.Proofs.Ytagpjommhoedlaa
open Go.RowKit

end Go.Proofs.Ytagpjommhoedlaa

namespace Go.Proofs.Ytagpjommhoedlaa
open Go.RowKit

/-- What is drawn can be unpacked. -/
theorem drawn_word {most : Int} {xs : List GRule} (h : DrawnOk most xs) (h1 : 1 ≤ most) (h2 : most ≤ 2000) : upV xs = wordG xs ∧ upC xs = 0 ∧ ((wordG xs).length : Int) = gramLen xs ∧ ((wordG xs).length : Int) ≤ most ∧ (wordG xs).all letOk = true := by
  obtain ⟨hg, h0, hm, _⟩ := h
  obtain ⟨h4, ls, hl⟩ := gram_lens hg
  have hw := wordG_len hl
  have hgl := gramLen_of hl
  have := hm h1
  obtain ⟨k1, k2⟩ := up_ok hg (by omega)
  refine ⟨k1, k2, by omega, by omega, ?_⟩
  rw [wordG_pos h0]
  exact W1_ok hl _ (by omega)
theorem epC_zero {s : ByteArray} {e : GEdit} (h : epC s e = 0) : editOk e = true ∧ editFits e s.size = true ∧ epV s e = plainB s e ∧ editLen e s.size ≤ 2000 := by
  have hv : epV s e = plainB s e := by unfold epV; rw [if_pos h]
  unfold epC at h
  split at h
  · split at h
    · rename_i h2
      split at h
      · rename_i h3
        split at h
        · rename_i h4; exact ⟨h2, h3, hv, h4⟩
        · cases h
      · cases h
    · cases h
  · cases h
theorem byte_at {s u : ByteArray} {i j : Nat} (hi : i < s.size) (hj : j < u.size) (h : s.data.toList[i]? = u.data.toList[j]?) : ((s[i].toNat : Int) == (u[j].toNat : Int)) = true := by
  rw [toList_getElem? s i hi, toList_getElem? u j hj] at h
  injection h with h
  rw [h]; simp
set_option maxRecDepth 100000 in
set_option maxHeartbeats 8000000 in
theorem lawPlaced_any (v v' : Value) (l l' : List UInt8) (w : World) (h : Sl ByteE w w.heap.size v l) (h' : Sl ByteE w w.heap.size v' l') :
    Calls Try.prog 3 #[v, v'] w fun r w' => r = .returned (.bool true) ∧ Below w.heap.size w w' := by
  have HL := Lib.hid h
  have HM := Lib.hid h'
  obtain ⟨A, c, rfl, _⟩ := h
  obtain ⟨A', c', rfl, _⟩ := h'
  go_enter Try.func3, Try.ntmps3
  go_wp2_with fail
  refine (a2Long_any _ _ l l' _ HL.out HM.out).mono ?_
  rintro r w0 ⟨rfl, rfl⟩
  cases hlong : (decide ((3000 : Int) < l.length) || decide ((3000 : Int) < l'.length)) with
  | true =>
    go_wp2_with fail
    go_ret
    exact ⟨rfl, Below.refl _ _⟩
  | false =>
    clear hlong
    go_wp2_with fail
    refine (A2Grammar_any _ l 40 _ HL.out).mono ?_
    rintro r w1 ⟨u1, xs, rfl, hsl, hdr, hl14, hb1⟩
    have HB1 := Lib.hid hb1
    have HS1 := Lib.hid hsl
    obtain ⟨AX, cX, rfl, _⟩ := hsl
    obtain ⟨d1, d2, d3, d4, d5⟩ := drawn_word hdr (by omega) (by omega)
    have HDR := Lib.hid hdr
    clear hb1 hdr d2
    go_wp2_with fail
    have ba := (Below.refl _ w1).alloc (Nat.le_refl _) (.cells #[.slice AX xs.length cX] 26)
    refine (Unpacked_any _ xs _ (HS1.out.up ba) HDR.out.2.2.2).mono ?_
    rintro r w2 ⟨rfl, hb2⟩
    have HB2 := Lib.hid (Below.tr (Below.tr HB1.out ba) hb2)
    clear ba
    rw [d1]
    obtain ⟨s, hs⟩ : ∃ s : ByteArray, (⟨(wordG xs).toArray⟩ : ByteArray) = s := ⟨_, rfl⟩
    have hsz : s.size = (wordG xs).length := by rw [← hs]; show (wordG xs).toArray.size = _; simp
    rw [hs]
    obtain ⟨n, hn⟩ : ∃ n, s.size = n := ⟨_, rfl⟩
    have hn40 : n ≤ 40 := by omega
    clear hb2 d1 d3 d4 d5 hs hsz HB1 HS1
    have hbE : Sl ByteE w2 w2.heap.size (.slice A' l'.length c') l' := HM.out.up HB2.out
    have HBE := Lib.hid hbE
    clear hbE
    go_wp2_with fail
    refine (A2Edit_any _ l' n _ HBE.out (by omega)).mono ?_
    rintro r w3 ⟨u3, e, rfl, hE, hp14, hsm, hok, hm4, hb3⟩
    have HB3 := Lib.hid (Below.tr HB2.out hb3)
    have HE3 := Lib.hid hE
    have HSM := Lib.hid hsm
    have HOK := Lib.hid hok
    obtain ⟨vR, rfl, hR⟩ := hE
    obtain ⟨AR, cR, rfl, _⟩ := hR
    clear hb3 hsm hok HB2 HBE
    have ba := (Below.refl _ w3).alloc (Nat.le_refl _) (.cells #[.int .i64 e.kind, .int .i64 e.i, .int .i64 e.j, .int .i64 e.k, .slice AR e.part.length cR, .string e.map] 30)
    have HBA := Lib.hid (Below.tr HB3.out ba)
    have HEA := Lib.hid (HE3.out.up ba)
    have KE := Lib.hid (Blk.new w3 #[.int .i64 e.kind, .int .i64 e.i, .int .i64 e.j, .int .i64 e.k, .slice AR e.part.length cR, .string e.map] 30)
    clear HB3 HE3 ba
    have HB3 := HBA
    have HE3 := HEA
    clear HBA HEA
    have wn1 : IntKind.i64.wrap ((n : Int) + 1) = (n : Int) + 1 := IntWalk.i64_in _ (by omega)
    have HBE := Lib.hid (HM.out.up HB3.out)
    go_wp2_with fail
    refine (a2At_any _ l' 5 ((n : Int) + 1) _ HBE.out (by omega) (by omega)).mono ?_
    rintro r w4 ⟨p, rfl, hp0, hp1, rfl⟩
    obtain ⟨π, rfl⟩ := Int.eq_ofNat_of_zero_le hp0
    have hpn : π ≤ n := by omega
    clear hp0 hp1 wn1 HBE
    have c0 := Blk.cell (i := 0) (v := .int .i64 e.kind) KE.out rfl
    have c1 := Blk.cell (i := 1) (v := .int .i64 e.i) KE.out rfl
    have c2 := Blk.cell (i := 2) (v := .int .i64 e.j) KE.out rfl
    have c3 := Blk.cell (i := 3) (v := .int .i64 e.k) KE.out rfl
    have c4 := Blk.cell (i := 4) (v := .slice AR e.part.length cR) KE.out rfl
    have c5 := Blk.cell (i := 5) (v := .string e.map) KE.out rfl
    have hKz := KE.out.lt
    go_wp2_with fail
    refine (specEditPlain_any s _ e _ HE3.out HSM.out (by omega) (by unfold maxLen; omega) (by unfold maxLen; omega)).mono ?_
    rintro r w5 ⟨rfl, hb5⟩
    have HB5 := Lib.hid (Below.tr HB3.out hb5)
    have HE5 := Lib.hid (HE3.out.up hb5)
    have KE2 := Lib.hid (KE.out.up hb5)
    clear KE c0 c1 c2 c3 c4 c5
    have KE := KE2
    clear KE2
    have c0 := Blk.cell (i := 0) (v := .int .i64 e.kind) KE.out rfl
    have c1 := Blk.cell (i := 1) (v := .int .i64 e.i) KE.out rfl
    have c2 := Blk.cell (i := 2) (v := .int .i64 e.j) KE.out rfl
    have c3 := Blk.cell (i := 3) (v := .int .i64 e.k) KE.out rfl
    have c4 := Blk.cell (i := 4) (v := .slice AR e.part.length cR) KE.out rfl
    have c5 := Blk.cell (i := 5) (v := .string e.map) KE.out rfl
    clear hb5 HB3 HE3
    go_wp2_with fail
    refine (implPlaceAfter_any n _ e π _ HE5.out (by omega) (by unfold maxLen; omega)).mono ?_
    rintro r w6 ⟨rfl, hb6⟩
    have HB6 := Lib.hid (Below.tr HB5.out hb6)
    have HE6 := Lib.hid (HE5.out.up hb6)
    have KE2 := Lib.hid (KE.out.up hb6)
    clear KE c0 c1 c2 c3 c4 c5
    have KE := KE2
    clear KE2
    have c0 := Blk.cell (i := 0) (v := .int .i64 e.kind) KE.out rfl
    have c1 := Blk.cell (i := 1) (v := .int .i64 e.i) KE.out rfl
    have c2 := Blk.cell (i := 2) (v := .int .i64 e.j) KE.out rfl
    have c3 := Blk.cell (i := 3) (v := .int .i64 e.k) KE.out rfl
    have c4 := Blk.cell (i := 4) (v := .slice AR e.part.length cR) KE.out rfl
    have c5 := Blk.cell (i := 5) (v := .string e.map) KE.out rfl
    clear hb6 HB5 HE5
    go_wp2_with fail
    refine (specPlaceAfter_any n _ e π _ HE6.out HSM.out (by omega) (by unfold maxLen; omega)).mono ?_
    rintro r w7 ⟨rfl, hb7⟩
    have HB7 := Lib.hid (Below.tr HB6.out hb7)
    have KE2 := Lib.hid (KE.out.up hb7)
    clear KE c0 c1 c2 c3 c4 c5
    have KE := KE2
    clear KE2
    have c0 := Blk.cell (i := 0) (v := .int .i64 e.kind) KE.out rfl
    have c1 := Blk.cell (i := 1) (v := .int .i64 e.i) KE.out rfl
    have c2 := Blk.cell (i := 2) (v := .int .i64 e.j) KE.out rfl
    have c3 := Blk.cell (i := 3) (v := .int .i64 e.k) KE.out rfl
    have c4 := Blk.cell (i := 4) (v := .slice AR e.part.length cR) KE.out rfl
    have c5 := Blk.cell (i := 5) (v := .string e.map) KE.out rfl
    clear hb7 HB6 HE6
    have q0 : (paC n e π != paC n e π) = false := by simp
    by_cases hc1 : paC n e π = 0
    · by_cases hc2 : epC s e = 0
      · obtain ⟨z1, z2, z3, z5⟩ := epC_zero hc2
        have z6 := plainB_len z1 z2
        have z4 : paV n e π = placeP e π := by unfold paV; rw [if_pos hc1]
        rw [z3, z4, hc1, hc2]
        have HN := Lib.hid hn
        have hin := placeP_in (p := (π : Int)) z1 z2 ⟨by omega, by omega⟩
        have HAR := Lib.hid (fun h4 h7 ho => placed_ahead (p := (π : Int)) z1 z2 h4 h7 ⟨by omega, by omega⟩ ho)
        rw [hn] at HAR
        obtain ⟨q, hq⟩ : ∃ q, placeP e π = q := ⟨_, rfl⟩
        obtain ⟨u, hu⟩ : ∃ u, plainB s e = u := ⟨_, rfl⟩
        rw [hu] at z6
        rw [hq, hu] at hin HAR
        rw [hq, hu]
        obtain ⟨ρ, rfl⟩ := Int.eq_ofNat_of_zero_le hin.1
        have hρ : ρ ≤ u.size := by omega
        obtain ⟨kd, ei, ej, ek, ep, em⟩ := e
        have hk7 := kind7 (editOk_get z1).1
        simp only at HAR hk7
        dsimp only at c0 c1 c2 c3
        clear c4 c5
        obtain ⟨m, hm⟩ : ∃ m, u.size = m := ⟨_, rfl⟩
        have HMU := Lib.hid hm
        rw [hm] at HAR hρ
        have hm2 : m ≤ 2000 := by omega
        clear z5 z6
        have hnq : ¬ ((ρ : Int) < 0) := by omega
        have hnq2 : ¬ ((m : Int) < (ρ : Int)) := by omega
        clear hc1 hc2 z1 z2 z3 z4 hin hq hu HOK HSM hp14 hm4 q0 hn hm
        rcases hk7 with rfl | rfl | rfl | rfl | rfl | rfl | rfl
        · skip
          have hn := HN.out
          have hm := HMU.out
          have HA := HAR.out (by decide) (by decide)
          simp only [Int.reduceEq, if_true, if_false] at HA
          have HA2 := Lib.hid HA
          clear HA HAR
          by_cases ho : (π : Int) < ei ∨ ei < (π : Int)
          · obtain ⟨r1, r2⟩ := HA2.out ho
            have ho2 : (π : Int) < ei ∨ (¬ (π : Int) < ei ∧ ei < (π : Int)) := by omega
            clear HA2 ho
            have hsi : π ≤ n := hpn
            rcases r1 with ⟨r1, r1'⟩ | ⟨r1, r1', r1e⟩
            · skip
              have ep0 : π = 0 := by omega
              have er0 : ρ = 0 := by omega
              clear r1 r1'
              rcases r2 with ⟨r2, r2'⟩ | ⟨r2, r2', r2e⟩
              · skip
                have epn : π = n := by omega
                have erm : ρ = m := by omega
                clear r2 r2'
                subst ep0 er0
                subst epn erm
                rcases ho2 with ho | ⟨hlo, ho⟩
                all_goals
                  go_wp2_with fail
                  go_quiet (fail)
                  go_wp2_with fail
                  go_quiet (fail)
                  go_wp2_with fail
                  go_ret
                  exact ⟨rfl, below_drewN HB7.out _⟩
              · skip
                have hb3 : π < s.size := by omega
                have hb4 : ρ < u.size := by omega
                have npn : ((π : Int) == (n : Int)) = false := by simp; omega
                have hb9 : π < n := by omega
                have hb10 : ρ < m := by omega
                have g2 : ((s[π].toNat : Int) == (u[ρ].toNat : Int)) = true := byte_at hb3 hb4 (by simpa using r2e)
                clear r2e
                subst ep0 er0
                have f1 : ((0 : Int) == (n : Int)) = false := by simp; omega
                have f2 : (0 : Int) < (n : Int) := by omega
                have f3 : (0 : Int) < (m : Int) := by omega
                have f6 : 0 < n := by omega
                have f7 : 0 < m := by omega
                rcases ho2 with ho | ⟨hlo, ho⟩
                all_goals
                  go_wp2_with fail
                  go_quiet (fail)
                  go_wp2_with fail
                  go_quiet (fail)
                  go_wp2_with fail
                  go_ret
                  exact ⟨rfl, below_drewN HB7.out _⟩
            · skip
              obtain ⟨α, hα⟩ : ∃ α, π - 1 = α := ⟨_, rfl⟩
              obtain ⟨β, hβ⟩ : ∃ β, ρ - 1 = β := ⟨_, rfl⟩
              have wp1 : IntKind.i64.wrap ((π : Int) - 1) = (α : Int) := by rw [IntWalk.i64_in _ (by omega)]; omega
              have wq1 : IntKind.i64.wrap ((ρ : Int) - 1) = (β : Int) := by rw [IntWalk.i64_in _ (by omega)]; omega
              have np0 : ((π : Int) == 0) = false := by simp; omega
              have hb1 : α < s.size := by omega
              have hb2 : β < u.size := by omega
              have hb5 : α < n := by omega
              have hb6 : β < m := by omega
              have hb7 : (α : Int) < (n : Int) := by omega
              have hb8 : (β : Int) < (m : Int) := by omega
              have g1 : ((s[α].toNat : Int) == (u[β].toNat : Int)) = true := byte_at hb1 hb2 (by
                have e1 : ((π : Int) - 1).toNat = α := by omega
                have e2 : ((ρ : Int) - 1).toNat = β := by omega
                rw [e1, e2] at r1e; exact r1e)
              clear r1e
              rcases r2 with ⟨r2, r2'⟩ | ⟨r2, r2', r2e⟩
              · skip
                have epn : π = n := by omega
                have erm : ρ = m := by omega
                clear r2 r2'
                subst epn erm
                have f4 : (0 : Int) < (π : Int) := by omega
                have f5 : (0 : Int) < (ρ : Int) := by omega
                have f8 : 0 < π := by omega
                have f9 : 0 < ρ := by omega
                rcases ho2 with ho | ⟨hlo, ho⟩
                all_goals
                  go_wp2_with fail
                  go_quiet (fail)
                  go_wp2_with fail
                  go_quiet (fail)
                  go_wp2_with fail
                  go_ret
                  exact ⟨rfl, below_drewN HB7.out _⟩
              · skip
                have hb3 : π < s.size := by omega
                have hb4 : ρ < u.size := by omega
                have npn : ((π : Int) == (n : Int)) = false := by simp; omega
                have hb9 : π < n := by omega
                have hb10 : ρ < m := by omega
                have g2 : ((s[π].toNat : Int) == (u[ρ].toNat : Int)) = true := byte_at hb3 hb4 (by simpa using r2e)
                clear r2e
                have f2 : (π : Int) < (n : Int) := by omega
                have f3 : (ρ : Int) < (m : Int) := by omega
                have f6 : π < n := by omega
                have f7 : ρ < m := by omega
                have f4 : (0 : Int) < (π : Int) := by omega
                have f5 : (0 : Int) < (ρ : Int) := by omega
                have f8 : 0 < π := by omega
                have f9 : 0 < ρ := by omega
                rcases ho2 with ho | ⟨hlo, ho⟩
                all_goals
                  go_wp2_with fail
                  go_quiet (fail)
                  go_wp2_with fail
                  go_quiet (fail)
                  go_wp2_with fail
                  go_ret
                  exact ⟨rfl, below_drewN HB7.out _⟩
          · have ho1 : ¬ (π : Int) < ei := fun h => ho (.inl h)
            have ho2 : ¬ ei < (π : Int) := fun h => ho (.inr h)
            clear ho HA2
            go_wp2_with fail
            go_ret
            exact ⟨rfl, HB7.out⟩
        · skip
          have hn := HN.out
          have hm := HMU.out
          have HA := HAR.out (by decide) (by decide)
          simp only [Int.reduceEq, if_true, if_false] at HA
          have HA2 := Lib.hid HA
          clear HA HAR
          by_cases ho : (π : Int) < ei ∨ ej < (π : Int)
          · obtain ⟨r1, r2⟩ := HA2.out ho
            have ho2 : (π : Int) < ei ∨ (¬ (π : Int) < ei ∧ ej < (π : Int)) := by omega
            clear HA2 ho
            have hsi : π ≤ n := hpn
            rcases r1 with ⟨r1, r1'⟩ | ⟨r1, r1', r1e⟩
            · skip
              have ep0 : π = 0 := by omega
              have er0 : ρ = 0 := by omega
              clear r1 r1'
              rcases r2 with ⟨r2, r2'⟩ | ⟨r2, r2', r2e⟩
              · skip
                have epn : π = n := by omega
                have erm : ρ = m := by omega
                clear r2 r2'
                subst ep0 er0
                subst epn erm
                rcases ho2 with ho | ⟨hlo, ho⟩
                all_goals
                  go_wp2_with fail
                  go_quiet (fail)
                  go_wp2_with fail
                  go_quiet (fail)
                  go_wp2_with fail
                  go_ret
                  exact ⟨rfl, below_drewN HB7.out _⟩
              · skip
                have hb3 : π < s.size := by omega
                have hb4 : ρ < u.size := by omega
                have npn : ((π : Int) == (n : Int)) = false := by simp; omega
                have hb9 : π < n := by omega
                have hb10 : ρ < m := by omega
                have g2 : ((s[π].toNat : Int) == (u[ρ].toNat : Int)) = true := byte_at hb3 hb4 (by simpa using r2e)
                clear r2e
                subst ep0 er0
                have f1 : ((0 : Int) == (n : Int)) = false := by simp; omega
                have f2 : (0 : Int) < (n : Int) := by omega
                have f3 : (0 : Int) < (m : Int) := by omega
                have f6 : 0 < n := by omega
                have f7 : 0 < m := by omega
                rcases ho2 with ho | ⟨hlo, ho⟩
                all_goals
                  go_wp2_with fail
                  go_quiet (fail)
                  go_wp2_with fail
                  go_quiet (fail)
                  go_wp2_with fail
                  go_ret
                  exact ⟨rfl, below_drewN HB7.out _⟩
            · skip
              obtain ⟨α, hα⟩ : ∃ α, π - 1 = α := ⟨_, rfl⟩
              obtain ⟨β, hβ⟩ : ∃ β, ρ - 1 = β := ⟨_, rfl⟩
              have wp1 : IntKind.i64.wrap ((π : Int) - 1) = (α : Int) := by rw [IntWalk.i64_in _ (by omega)]; omega
              have wq1 : IntKind.i64.wrap ((ρ : Int) - 1) = (β : Int) := by rw [IntWalk.i64_in _ (by omega)]; omega
              have np0 : ((π : Int) == 0) = false := by simp; omega
              have hb1 : α < s.size := by omega
              have hb2 : β < u.size := by omega
              have hb5 : α < n := by omega
              have hb6 : β < m := by omega
              have hb7 : (α : Int) < (n : Int) := by omega
              have hb8 : (β : Int) < (m : Int) := by omega
              have g1 : ((s[α].toNat : Int) == (u[β].toNat : Int)) = true := byte_at hb1 hb2 (by
                have e1 : ((π : Int) - 1).toNat = α := by omega
                have e2 : ((ρ : Int) - 1).toNat = β := by omega
                rw [e1, e2] at r1e; exact r1e)
              clear r1e
              rcases r2 with ⟨r2, r2'⟩ | ⟨r2, r2', r2e⟩
              · skip
                have epn : π = n := by omega
                have erm : ρ = m := by omega
                clear r2 r2'
                subst epn erm
                have f4 : (0 : Int) < (π : Int) := by omega
                have f5 : (0 : Int) < (ρ : Int) := by omega
                have f8 : 0 < π := by omega
                have f9 : 0 < ρ := by omega
                rcases ho2 with ho | ⟨hlo, ho⟩
                all_goals
                  go_wp2_with fail
                  go_quiet (fail)
                  go_wp2_with fail
                  go_quiet (fail)
                  go_wp2_with fail
                  go_ret
                  exact ⟨rfl, below_drewN HB7.out _⟩
              · skip
                have hb3 : π < s.size := by omega
                have hb4 : ρ < u.size := by omega
                have npn : ((π : Int) == (n : Int)) = false := by simp; omega
                have hb9 : π < n := by omega
                have hb10 : ρ < m := by omega
                have g2 : ((s[π].toNat : Int) == (u[ρ].toNat : Int)) = true := byte_at hb3 hb4 (by simpa using r2e)
                clear r2e
                have f2 : (π : Int) < (n : Int) := by omega
                have f3 : (ρ : Int) < (m : Int) := by omega
                have f6 : π < n := by omega
                have f7 : ρ < m := by omega
                have f4 : (0 : Int) < (π : Int) := by omega
                have f5 : (0 : Int) < (ρ : Int) := by omega
                have f8 : 0 < π := by omega
                have f9 : 0 < ρ := by omega
                rcases ho2 with ho | ⟨hlo, ho⟩
                all_goals
                  go_wp2_with fail
                  go_quiet (fail)
                  go_wp2_with fail
                  go_quiet (fail)
                  go_wp2_with fail
                  go_ret
                  exact ⟨rfl, below_drewN HB7.out _⟩
          · have ho1 : ¬ (π : Int) < ei := fun h => ho (.inl h)
            have ho2 : ¬ ej < (π : Int) := fun h => ho (.inr h)
            clear ho HA2
            go_wp2_with fail
            go_ret
            exact ⟨rfl, HB7.out⟩
        · skip
          have hn := HN.out
          have hm := HMU.out
          have HA := HAR.out (by decide) (by decide)
          simp only [Int.reduceEq, if_true, if_false] at HA
          have HA2 := Lib.hid HA
          clear HA HAR
          by_cases ho : (π : Int) < ek ∨ ek < (π : Int)
          · obtain ⟨r1, r2⟩ := HA2.out ho
            have ho2 : (π : Int) < ek ∨ (¬ (π : Int) < ek ∧ ek < (π : Int)) := by omega
            clear HA2 ho
            have hsi : π ≤ n := hpn
            rcases r1 with ⟨r1, r1'⟩ | ⟨r1, r1', r1e⟩
            · skip
              have ep0 : π = 0 := by omega
              have er0 : ρ = 0 := by omega
              clear r1 r1'
              rcases r2 with ⟨r2, r2'⟩ | ⟨r2, r2', r2e⟩
              · skip
                have epn : π = n := by omega
                have erm : ρ = m := by omega
                clear r2 r2'
                subst ep0 er0
                subst epn erm
                rcases ho2 with ho | ⟨hlo, ho⟩
                all_goals
                  go_wp2_with fail
                  go_quiet (fail)
                  go_wp2_with fail
                  go_quiet (fail)
                  go_wp2_with fail
                  go_ret
                  exact ⟨rfl, below_drewN HB7.out _⟩
              · skip
                have hb3 : π < s.size := by omega
                have hb4 : ρ < u.size := by omega
                have npn : ((π : Int) == (n : Int)) = false := by simp; omega
                have hb9 : π < n := by omega
                have hb10 : ρ < m := by omega
                have g2 : ((s[π].toNat : Int) == (u[ρ].toNat : Int)) = true := byte_at hb3 hb4 (by simpa using r2e)
                clear r2e
                subst ep0 er0
                have f1 : ((0 : Int) == (n : Int)) = false := by simp; omega
                have f2 : (0 : Int) < (n : Int) := by omega
                have f3 : (0 : Int) < (m : Int) := by omega
                have f6 : 0 < n := by omega
                have f7 : 0 < m := by omega
                rcases ho2 with ho | ⟨hlo, ho⟩
                all_goals
                  go_wp2_with fail
                  go_quiet (fail)
                  go_wp2_with fail
                  go_quiet (fail)
                  go_wp2_with fail
                  go_ret
                  exact ⟨rfl, below_drewN HB7.out _⟩
            · skip
              obtain ⟨α, hα⟩ : ∃ α, π - 1 = α := ⟨_, rfl⟩
              obtain ⟨β, hβ⟩ : ∃ β, ρ - 1 = β := ⟨_, rfl⟩
              have wp1 : IntKind.i64.wrap ((π : Int) - 1) = (α : Int) := by rw [IntWalk.i64_in _ (by omega)]; omega
              have wq1 : IntKind.i64.wrap ((ρ : Int) - 1) = (β : Int) := by rw [IntWalk.i64_in _ (by omega)]; omega
              have np0 : ((π : Int) == 0) = false := by simp; omega
              have hb1 : α < s.size := by omega
              have hb2 : β < u.size := by omega
              have hb5 : α < n := by omega
              have hb6 : β < m := by omega
              have hb7 : (α : Int) < (n : Int) := by omega
              have hb8 : (β : Int) < (m : Int) := by omega
              have g1 : ((s[α].toNat : Int) == (u[β].toNat : Int)) = true := byte_at hb1 hb2 (by
                have e1 : ((π : Int) - 1).toNat = α := by omega
                have e2 : ((ρ : Int) - 1).toNat = β := by omega
                rw [e1, e2] at r1e; exact r1e)
              clear r1e
              rcases r2 with ⟨r2, r2'⟩ | ⟨r2, r2', r2e⟩
              · skip
                have epn : π = n := by omega
                have erm : ρ = m := by omega
                clear r2 r2'
                subst epn erm
                have f4 : (0 : Int) < (π : Int) := by omega
                have f5 : (0 : Int) < (ρ : Int) := by omega
                have f8 : 0 < π := by omega
                have f9 : 0 < ρ := by omega
                rcases ho2 with ho | ⟨hlo, ho⟩
                all_goals
                  go_wp2_with fail
                  go_quiet (fail)
                  go_wp2_with fail
                  go_quiet (fail)
                  go_wp2_with fail
                  go_ret
                  exact ⟨rfl, below_drewN HB7.out _⟩
              · skip
                have hb3 : π < s.size := by omega
                have hb4 : ρ < u.size := by omega
                have npn : ((π : Int) == (n : Int)) = false := by simp; omega
                have hb9 : π < n := by omega
                have hb10 : ρ < m := by omega
                have g2 : ((s[π].toNat : Int) == (u[ρ].toNat : Int)) = true := byte_at hb3 hb4 (by simpa using r2e)
                clear r2e
                have f2 : (π : Int) < (n : Int) := by omega
                have f3 : (ρ : Int) < (m : Int) := by omega
                have f6 : π < n := by omega
                have f7 : ρ < m := by omega
                have f4 : (0 : Int) < (π : Int) := by omega
                have f5 : (0 : Int) < (ρ : Int) := by omega
                have f8 : 0 < π := by omega
                have f9 : 0 < ρ := by omega
                rcases ho2 with ho | ⟨hlo, ho⟩
                all_goals
                  go_wp2_with fail
                  go_quiet (fail)
                  go_wp2_with fail
                  go_quiet (fail)
                  go_wp2_with fail
                  go_ret
                  exact ⟨rfl, below_drewN HB7.out _⟩
          · have ho1 : ¬ (π : Int) < ek := fun h => ho (.inl h)
            have ho2 : ¬ ek < (π : Int) := fun h => ho (.inr h)
            clear ho HA2
            go_wp2_with fail
            go_ret
            exact ⟨rfl, HB7.out⟩
        · skip
          have hn := HN.out
          have hm := HMU.out
          go_wp2_with fail
          go_ret
          exact ⟨rfl, HB7.out⟩
        · skip
          have hn := HN.out
          have hm := HMU.out
          have HA := HAR.out (by decide) (by decide)
          simp only [Int.reduceEq, if_true, if_false] at HA
          have HA2 := Lib.hid HA
          clear HA HAR
          by_cases ho : (π : Int) < ei ∨ ej < (π : Int)
          · obtain ⟨r1, r2⟩ := HA2.out ho
            have ho2 : (π : Int) < ei ∨ (¬ (π : Int) < ei ∧ ej < (π : Int)) := by omega
            clear HA2 ho
            have hsi : π ≤ n := hpn
            rcases r1 with ⟨r1, r1'⟩ | ⟨r1, r1', r1e⟩
            · skip
              have ep0 : π = 0 := by omega
              have er0 : ρ = 0 := by omega
              clear r1 r1'
              rcases r2 with ⟨r2, r2'⟩ | ⟨r2, r2', r2e⟩
              · skip
                have epn : π = n := by omega
                have erm : ρ = m := by omega
                clear r2 r2'
                subst ep0 er0
                subst epn erm
                rcases ho2 with ho | ⟨hlo, ho⟩
                all_goals
                  go_wp2_with fail
                  go_quiet (fail)
                  go_wp2_with fail
                  go_quiet (fail)
                  go_wp2_with fail
                  go_ret
                  exact ⟨rfl, below_drewN HB7.out _⟩
              · skip
                have hb3 : π < s.size := by omega
                have hb4 : ρ < u.size := by omega
                have npn : ((π : Int) == (n : Int)) = false := by simp; omega
                have hb9 : π < n := by omega
                have hb10 : ρ < m := by omega
                have g2 : ((s[π].toNat : Int) == (u[ρ].toNat : Int)) = true := byte_at hb3 hb4 (by simpa using r2e)
                clear r2e
                subst ep0 er0
                have f1 : ((0 : Int) == (n : Int)) = false := by simp; omega
                have f2 : (0 : Int) < (n : Int) := by omega
                have f3 : (0 : Int) < (m : Int) := by omega
                have f6 : 0 < n := by omega
                have f7 : 0 < m := by omega
                rcases ho2 with ho | ⟨hlo, ho⟩
                all_goals
                  go_wp2_with fail
                  go_quiet (fail)
                  go_wp2_with fail
                  go_quiet (fail)
                  go_wp2_with fail
                  go_ret
                  exact ⟨rfl, below_drewN HB7.out _⟩
            · skip
              obtain ⟨α, hα⟩ : ∃ α, π - 1 = α := ⟨_, rfl⟩
              obtain ⟨β, hβ⟩ : ∃ β, ρ - 1 = β := ⟨_, rfl⟩
              have wp1 : IntKind.i64.wrap ((π : Int) - 1) = (α : Int) := by rw [IntWalk.i64_in _ (by omega)]; omega
              have wq1 : IntKind.i64.wrap ((ρ : Int) - 1) = (β : Int) := by rw [IntWalk.i64_in _ (by omega)]; omega
              have np0 : ((π : Int) == 0) = false := by simp; omega
              have hb1 : α < s.size := by omega
              have hb2 : β < u.size := by omega
              have hb5 : α < n := by omega
              have hb6 : β < m := by omega
              have hb7 : (α : Int) < (n : Int) := by omega
              have hb8 : (β : Int) < (m : Int) := by omega
              have g1 : ((s[α].toNat : Int) == (u[β].toNat : Int)) = true := byte_at hb1 hb2 (by
                have e1 : ((π : Int) - 1).toNat = α := by omega
                have e2 : ((ρ : Int) - 1).toNat = β := by omega
                rw [e1, e2] at r1e; exact r1e)
              clear r1e
              rcases r2 with ⟨r2, r2'⟩ | ⟨r2, r2', r2e⟩
              · skip
                have epn : π = n := by omega
                have erm : ρ = m := by omega
                clear r2 r2'
                subst epn erm
                have f4 : (0 : Int) < (π : Int) := by omega
                have f5 : (0 : Int) < (ρ : Int) := by omega
                have f8 : 0 < π := by omega
                have f9 : 0 < ρ := by omega
                rcases ho2 with ho | ⟨hlo, ho⟩
                all_goals
                  go_wp2_with fail
                  go_quiet (fail)
                  go_wp2_with fail
                  go_quiet (fail)
                  go_wp2_with fail
                  go_ret
                  exact ⟨rfl, below_drewN HB7.out _⟩
              · skip
                have hb3 : π < s.size := by omega
                have hb4 : ρ < u.size := by omega
                have npn : ((π : Int) == (n : Int)) = false := by simp; omega
                have hb9 : π < n := by omega
                have hb10 : ρ < m := by omega
                have g2 : ((s[π].toNat : Int) == (u[ρ].toNat : Int)) = true := byte_at hb3 hb4 (by simpa using r2e)
                clear r2e
                have f2 : (π : Int) < (n : Int) := by omega
                have f3 : (ρ : Int) < (m : Int) := by omega
                have f6 : π < n := by omega
                have f7 : ρ < m := by omega
                have f4 : (0 : Int) < (π : Int) := by omega
                have f5 : (0 : Int) < (ρ : Int) := by omega
                have f8 : 0 < π := by omega
                have f9 : 0 < ρ := by omega
                rcases ho2 with ho | ⟨hlo, ho⟩
                all_goals
                  go_wp2_with fail
                  go_quiet (fail)
                  go_wp2_with fail
                  go_quiet (fail)
                  go_wp2_with fail
                  go_ret
                  exact ⟨rfl, below_drewN HB7.out _⟩
          · have ho1 : ¬ (π : Int) < ei := fun h => ho (.inl h)
            have ho2 : ¬ ej < (π : Int) := fun h => ho (.inr h)
            clear ho HA2
            go_wp2_with fail
            go_ret
            exact ⟨rfl, HB7.out⟩
        · skip
          have hn := HN.out
          have hm := HMU.out
          have HA := HAR.out (by decide) (by decide)
          simp only [Int.reduceEq, if_true, if_false] at HA
          have HA2 := Lib.hid HA
          clear HA HAR
          by_cases ho : (π : Int) < ei ∨ ej < (π : Int)
          · obtain ⟨r1, r2⟩ := HA2.out ho
            have ho2 : (π : Int) < ei ∨ (¬ (π : Int) < ei ∧ ej < (π : Int)) := by omega
            clear HA2 ho
            have hsi : π ≤ n := hpn
            rcases r1 with ⟨r1, r1'⟩ | ⟨r1, r1', r1e⟩
            · skip
              have ep0 : π = 0 := by omega
              have er0 : ρ = 0 := by omega
              clear r1 r1'
              rcases r2 with ⟨r2, r2'⟩ | ⟨r2, r2', r2e⟩
              · skip
                have epn : π = n := by omega
                have erm : ρ = m := by omega
                clear r2 r2'
                subst ep0 er0
                subst epn erm
                rcases ho2 with ho | ⟨hlo, ho⟩
                all_goals
                  go_wp2_with fail
                  go_quiet (fail)
                  go_wp2_with fail
                  go_quiet (fail)
                  go_wp2_with fail
                  go_ret
                  exact ⟨rfl, below_drewN HB7.out _⟩
              · skip
                have hb3 : π < s.size := by omega
                have hb4 : ρ < u.size := by omega
                have npn : ((π : Int) == (n : Int)) = false := by simp; omega
                have hb9 : π < n := by omega
                have hb10 : ρ < m := by omega
                have g2 : ((s[π].toNat : Int) == (u[ρ].toNat : Int)) = true := byte_at hb3 hb4 (by simpa using r2e)
                clear r2e
                subst ep0 er0
                have f1 : ((0 : Int) == (n : Int)) = false := by simp; omega
                have f2 : (0 : Int) < (n : Int) := by omega
                have f3 : (0 : Int) < (m : Int) := by omega
                have f6 : 0 < n := by omega
                have f7 : 0 < m := by omega
                rcases ho2 with ho | ⟨hlo, ho⟩
                all_goals
                  go_wp2_with fail
                  go_quiet (fail)
                  go_wp2_with fail
                  go_quiet (fail)
                  go_wp2_with fail
                  go_ret
                  exact ⟨rfl, below_drewN HB7.out _⟩
            · skip
              obtain ⟨α, hα⟩ : ∃ α, π - 1 = α := ⟨_, rfl⟩
              obtain ⟨β, hβ⟩ : ∃ β, ρ - 1 = β := ⟨_, rfl⟩
              have wp1 : IntKind.i64.wrap ((π : Int) - 1) = (α : Int) := by rw [IntWalk.i64_in _ (by omega)]; omega
              have wq1 : IntKind.i64.wrap ((ρ : Int) - 1) = (β : Int) := by rw [IntWalk.i64_in _ (by omega)]; omega
              have np0 : ((π : Int) == 0) = false := by simp; omega
              have hb1 : α < s.size := by omega
              have hb2 : β < u.size := by omega
              have hb5 : α < n := by omega
              have hb6 : β < m := by omega
              have hb7 : (α : Int) < (n : Int) := by omega
              have hb8 : (β : Int) < (m : Int) := by omega
              have g1 : ((s[α].toNat : Int) == (u[β].toNat : Int)) = true := byte_at hb1 hb2 (by
                have e1 : ((π : Int) - 1).toNat = α := by omega
                have e2 : ((ρ : Int) - 1).toNat = β := by omega
                rw [e1, e2] at r1e; exact r1e)
              clear r1e
              rcases r2 with ⟨r2, r2'⟩ | ⟨r2, r2', r2e⟩
              · skip
                have epn : π = n := by omega
                have erm : ρ = m := by omega
                clear r2 r2'
                subst epn erm
                have f4 : (0 : Int) < (π : Int) := by omega
                have f5 : (0 : Int) < (ρ : Int) := by omega
                have f8 : 0 < π := by omega
                have f9 : 0 < ρ := by omega
                rcases ho2 with ho | ⟨hlo, ho⟩
                all_goals
                  go_wp2_with fail
                  go_quiet (fail)
                  go_wp2_with fail
                  go_quiet (fail)
                  go_wp2_with fail
                  go_ret
                  exact ⟨rfl, below_drewN HB7.out _⟩
              · skip
                have hb3 : π < s.size := by omega
                have hb4 : ρ < u.size := by omega
                have npn : ((π : Int) == (n : Int)) = false := by simp; omega
                have hb9 : π < n := by omega
                have hb10 : ρ < m := by omega
                have g2 : ((s[π].toNat : Int) == (u[ρ].toNat : Int)) = true := byte_at hb3 hb4 (by simpa using r2e)
                clear r2e
                have f2 : (π : Int) < (n : Int) := by omega
                have f3 : (ρ : Int) < (m : Int) := by omega
                have f6 : π < n := by omega
                have f7 : ρ < m := by omega
                have f4 : (0 : Int) < (π : Int) := by omega
                have f5 : (0 : Int) < (ρ : Int) := by omega
                have f8 : 0 < π := by omega
                have f9 : 0 < ρ := by omega
                rcases ho2 with ho | ⟨hlo, ho⟩
                all_goals
                  go_wp2_with fail
                  go_quiet (fail)
                  go_wp2_with fail
                  go_quiet (fail)
                  go_wp2_with fail
                  go_ret
                  exact ⟨rfl, below_drewN HB7.out _⟩
          · have ho1 : ¬ (π : Int) < ei := fun h => ho (.inl h)
            have ho2 : ¬ ej < (π : Int) := fun h => ho (.inr h)
            clear ho HA2
            go_wp2_with fail
            go_ret
            exact ⟨rfl, HB7.out⟩
        · skip
          have hn := HN.out
          have hm := HMU.out
          go_wp2_with fail
          go_ret
          exact ⟨rfl, HB7.out⟩
      · go_wp2_with fail
        go_ret
        exact ⟨rfl, HB7.out⟩
    · go_wp2_with fail
      go_ret
      exact ⟨rfl, HB7.out⟩
end Go.Proofs.Ytagpjommhoedlaa

namespace Go.Proofs.Ytagpjommhoedlaa
open Go.RowKit Go.WideShapes Go.ChangeShapes
section
variable {H : Type} {enc : TypeId × Value → H} {P : Program}
theorem post_of_below {f : Func} {s : ChangeSpec} {apart fresh handsOn again : Bool} {W W' : World} {args : Array Value} {v : Value} {ds gs : List (DataW H)} {before pa pv : List MemPlace}
    (hW : DataW.Whole enc P f.params.toList s.vars apart W args.toList ds gs before)
    (hres : ∀ (b : Nat) (sp : Nat → Bool) (hd : Bool), DataW.TrodAll enc P W' b sp hd f.resultTypes.toList (v.resultList f.resultTypes.size) (s.fn H (ds ++ gs)).results [])
    (hargs : ∀ sp : Nat → Bool, (∀ p ∈ before, sp p.block = true) → DataW.TrodAll enc P W' 0 sp true f.params.toList args.toList (s.fn H (ds ++ gs)).args pa)
    (hvars : ∀ sp : Nat → Bool, (∀ p ∈ before, sp p.block = true) → DataW.TrodVars enc P W' sp s.vars (s.fn H (ds ++ gs)).vars pv)
    (hps : before = pa ++ pv) (hb : Below W.heap.size W W')
    (hok : ∀ (j : Nat) (t : TypeId) (r : Value), f.resultTypes[j]? = some t → (v.resultList f.resultTypes.size)[j]? = some r → Value.okWide P W' .any 0 t r) :
    s.post enc P f apart fresh handsOn again W args v W' := by
  have hlt : ∀ p ∈ before, p.block < W.heap.size := fun p hp => hW.lt p hp
  have hold : ∀ p ∈ before, (fun b => decide (b < W.heap.size)) p.block = true := fun p hp => by simpa using hlt p hp
  refine ⟨ds, gs, before, [], pa, pv, hW, hres _ _ _, hargs _ hold, hvars _ hold, World.keptBut_mono (fun p hp => ⟨hp, ?_⟩) (hb.frame (· ∈ before)), fun _ => ?_⟩
  · rw [hps, List.mem_append] at hp
    exact Or.inr hp
  · obtain ⟨_, _, _, _, _, hz, hn⟩ := hW
    refine ⟨hok, _, _, ([] ++ pa) ++ pv, ⟨[] ++ pa, pv, trodAll_append (hargs _ (fun _ _ => rfl)) (hres _ _ _), hvars _ (fun _ _ => rfl), rfl, ?_, ?_⟩, ?_⟩
    · intro b off hp
      have hin : MemPlace.cell b off ∈ before := by rw [hps]; simpa using hp
      rw [hb.frozen (hlt _ hin)]
      exact hz b off hin
    · intro ha
      have := hn ha
      rw [hps] at this
      simpa using this
    · intro p hp _
      rw [hps]
      simpa using hp

theorem trodAll_below (hl : laidOutB P = true) {W W' : World} (hb : Below W.heap.size W W') : ∀ {ts : List TypeId} {vs : List Value} {ds : List (DataW H)} {ps : List MemPlace},
    (∀ t ∈ ts, P.readableRec t = true ∧ t < P.types.size) → DataW.TrodAll enc P W 0 (fun _ => true) true ts vs ds ps → (∀ x ∈ ps, x.block < W.heap.size) → ∀ sp : Nat → Bool, (∀ p ∈ ps, sp p.block = true) →
    DataW.TrodAll enc P W' 0 sp true ts vs ds ps
  | [], _, _, _, _, h, _, _, _ => by
    obtain ⟨rfl, rfl, rfl⟩ := trodAll_nil h
    exact trodAll_mk0
  | t :: ts, vs, ds, ps, hts, h, hlt, sp, hsp => by
    obtain ⟨v, vs', d, ds', p, q, rfl, rfl, rfl, h0, r0⟩ := trodAll_cons h
    refine trodAll_cons_mk (WideElems.Trod_stays hl (hts t (by simp)).1 (hts t (by simp)).2 h0 (fun x hx => hb.same (hlt x (by simp [hx]))) (fun x hx => hsp x (by simp [hx]))) ?_
    exact trodAll_below hl hb (fun t ht => hts t (by simp [ht])) r0 (fun x hx => hlt x (by simp [hx])) sp (fun x hx => hsp x (by simp [hx]))
end
theorem laidOut : laidOutB Try.prog = true := by kernel_rfl
theorem own : ownKnob Try.prog.godebug = none := by kernel_rfl
end Go.Proofs.Ytagpjommhoedlaa

namespace Go.Proofs.Ytagpjommhoedlaa
open Go.RowKit Go.ChangeShapes Go.WideShapes Go.Deep
section
variable {H : Type} {enc : TypeId × Value → H} {P : Program} {w : World} {base : Nat} {spare : Nat → Bool} {held : Bool}
theorem add_plain (b o n : Nat) : (⟨b, o, none⟩ : Addr).add n = ⟨b, o + n, none⟩ := by unfold Addr.add; split <;> simp_all
theorem spot_none {a : Addr} {v : Value} (h : w.cell? a = some v) : a = ⟨a.block, a.off, none⟩ ∧ a.block < w.heap.size := by
  have hl := World.block_lt_of_cell? w a h
  refine ⟨?_, hl⟩
  obtain ⟨b, o, s⟩ := a
  unfold World.cell? at h
  cases s with
  | none => rfl
  | some s => split at h <;> simp at h
theorem len_map_range {α : Type} (f : Nat → α) (n : Nat) : ((List.range n).map f).length = n := by simp

end
end Go.Proofs.Ytagpjommhoedlaa

namespace Go.Proofs.Ytagpjommhoedlaa
open Go.RowKit Go.ChangeShapes Go.WideShapes Go.Deep

/-- Whatever reads at type t lies as E says, and has the property Q. -/
def Opens {α : Type} (P : Program) (E : Enc α) (Q : α → Prop) (t : TypeId) : Prop :=
  ∀ {H : Type} (enc : TypeId × Value → H) (w : World) (base : Nat) (spare : Nat → Bool) (held : Bool) (fuel : Nat) (cs : List Value) (x : DataW H × List MemPlace), DataW.trod enc P w base spare held fuel t cs = some x → ∃ a, E.cells w (· < w.heap.size) a cs ∧ Q a

instance : Inhabited GRule := ⟨⟨⟨#[]⟩, 0, 0⟩⟩
theorem opens_slice {α : Type} {P : Program} {E : Enc α} {Q : α → Prop} {t e : TypeId} [Inhabited α] (hE : Opens P E Q e) (ht : P.underlying t = some (.slice e)) (hC : P.cellsOf e = E.size) : Opens P (SliceE E) (fun xs => ∀ x ∈ xs, Q x) t := by
  intro H enc w base spare held fuel cs x h
  rcases open_slice ht h with ⟨h0, _⟩ | ⟨a, len, cap, m, n, D, Pl, hcs, hb, hl, hm, hmm, hx, hi⟩
  · exact ⟨[], ⟨_, h0, SlS.nil _ _⟩, fun x hx => by simp at hx⟩
  · have hmle : len ≤ m := by rw [hmm]; split <;> omega
    have Hh : ∀ i, i < len → ∃ r : α, ∃ cs', E.cells w (· < w.heap.size) r cs' ∧ (∀ j u, cs'[j]? = some u → w.cell? (a.add (i * E.size + j)) = some u) ∧ Q r := by
      intro i hil
      obtain ⟨cs', hc, ht'⟩ := hi i (by omega)
      obtain ⟨r, hr, hq⟩ := hE enc w base spare held n cs' _ ht'
      obtain ⟨_, hcl, hat⟩ := World.cells?_some hc
      refine ⟨r, cs', hr, fun j u hu => ?_, hq⟩
      have hj : j < cs'.length := (List.getElem?_eq_some_iff.1 hu).1
      rw [← Go.Deep.add_add, ← hC, hat j (by omega), hu]
    obtain ⟨F, hF⟩ := choose_lt Hh
    clear Hh
    refine ⟨(List.range len).map F, ⟨.slice (some a) len cap, hcs, some a, cap, by rw [len_map_range], by rw [len_map_range]; exact hl, hm, fun hn => ?_⟩, ?_⟩
    · rw [len_map_range] at hn
      obtain ⟨cs', h1, h2, _⟩ := hF 0 hn
      have hlen := E.len h1
      have hpos := E.pos
      have g0 := h2 0 cs'[0] (List.getElem?_eq_getElem (by omega))
      have ha : a.add (0 * E.size + 0) = a := by simp [Addr.add]
      rw [ha] at g0
      obtain ⟨hsp, hlt⟩ := spot_none g0
      refine ⟨a.block, a.off, by rw [← hsp], hlt, fun k r hr => ?_⟩
      have hk : k < len := by
        have := (List.getElem?_eq_some_iff.1 hr).1
        rw [len_map_range] at this; exact this
      have er : F k = r := by
        rw [List.getElem?_map, List.getElem?_range hk] at hr; simpa using hr
      obtain ⟨cs'', h3, h4, _⟩ := hF k hk
      rw [er] at h3
      refine ⟨cs'', h3, fun j u hu => ?_⟩
      have := h4 j u hu
      rw [hsp, add_plain] at this
      exact this
    · intro r hr
      rw [List.mem_map] at hr
      obtain ⟨k, hk, rfl⟩ := hr
      exact (hF k (by simpa using hk)).choose_spec.2.2
end Go.Proofs.Ytagpjommhoedlaa

namespace Go.Proofs.Ytagpjommhoedlaa
open Go.ChangeShapes Go.WideShapes Go.ChangeAt Go.RowKit Go.Joins Go.Deep
theorem opens_byte {P : Program} {t : TypeId} (ht : P.underlying t = some (.int .u8)) : Opens P ByteE (fun _ => True) t := by
  intro H enc w base spare held fuel cs x h
  obtain ⟨p, e1, _, e2⟩ := DataW.trod_int ht h
  have hp : 0 ≤ p ∧ p < 256 := by
    have h1 : IntKind.u8.min ≤ p ∧ p ≤ IntKind.u8.max := by simpa [Lit.wf] using e2
    have m1 : IntKind.u8.min = 0 := by decide
    have m2 : IntKind.u8.max = 255 := by decide
    rw [m1, m2] at h1
    omega
  refine ⟨UInt8.ofNat p.toNat, ?_, trivial⟩
  rw [e1]
  have : (UInt8.ofNat p.toNat).toNat = p.toNat := by rw [UInt8.toNat_ofNat']; omega
  show [Value.int .u8 p] = [.int .u8 ((UInt8.ofNat p.toNat).toNat : Int)]
  rw [this]
  congr 2
  omega
instance : Inhabited UInt8 := ⟨0⟩
set_option maxRecDepth 100000 in
theorem opensBytes : Opens Try.prog (SliceE ByteE) (fun xs => ∀ x ∈ xs, True) 22 := opens_slice (opens_byte Try.underlying5) Try.underlying22 (by kernel_rfl)
set_option maxRecDepth 100000 in
theorem open_bytes {H : Type} {enc : TypeId × Value → H} {w : World} {base : Nat} {spare : Nat → Bool} {held : Bool} {r : Reach} {b0 : Nat} {v : Value} {d : DataW H} {p : List MemPlace}
    (hv : Value.okWide Try.prog w r b0 22 v) (h : DataW.Trod enc Try.prog w base spare held 22 v d p) : ∃ xs, Sl ByteE w w.heap.size v xs := by
  obtain ⟨a, len, cap, rfl⟩ := okWide_slice Try.underlying22 hv
  obtain ⟨fuel, hf⟩ := h
  obtain ⟨xs, ⟨u, e1, hsl⟩, _⟩ := opensBytes enc w base spare held fuel [.slice a len cap] _ (by simpa [Value.cells] using hf)
  simp at e1
  subst e1
  exact ⟨xs, hsl⟩
end Go.Proofs.Ytagpjommhoedlaa

