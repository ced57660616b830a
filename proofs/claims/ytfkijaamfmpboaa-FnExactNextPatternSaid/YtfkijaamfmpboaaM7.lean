import Derived.Test.YtfkijaamfmpboaaM6
import Derived.Test.YtfkijaamfmpboaaM3
import Derived.Test.YtfkijaamfmpboaaM1
import Derived.Test.YtfkijaamfmpboaaRows
import Derived.WalkKit
import Derived.ProofKit
import Derived.Below
import Derived.ChangeSame
import Derived.Lib.SmallJoins
import Derived.Carry
import Derived.WideKeyArgs
import Derived.OpenShut
import Derived.Deep.Slices
import Derived.Deep.Fields
import Derived.Test.YtfkijaamfmpboaaM2
namespace Go.Proofs.Ytfkijaamfmpboaa
open Go.RowKit
set_option maxRecDepth 100000 in
set_option maxHeartbeats 4000000 in
theorem l04Asked_any (b : Nat) (vR : Value) (xs : List GRule) (p : ByteArray) (w : World) (hp : w.cell? ⟨b, 0, none⟩ = some vR) (hbl : b < w.heap.size) (hR : Sl RuleE w w.heap.size vR xs) (hsm : SmallL xs) (hps : p.size ≤ maxLen) :
    Calls Try.prog 27 #[.pointer (some ⟨b, 0, none⟩), .string p] w fun e w' => e = .returned (.int .i64 (seekC xs p)) ∧ Below w.heap.size w w' := by
  have HR := Lib.hid hR
  go_enter Try.func27, Try.ntmps27
  go_wp2_with fail
  refine (l02Ok_any b 0 vR xs w hp hbl HR.out hsm).mono ?_
  rintro r w1 ⟨rfl, hb1⟩
  have B1 := Lib.hid hb1
  clear hb1
  cases hg : gramOk xs with
  | false =>
    have Hc := Lib.hid (show seekC xs p = 1 by rw [seekC, hg]; rfl)
    clear hg
    go_wp2_with fail
    go_ret
    exact ⟨ret_int Hc.out.symm, B1.out⟩
  | true =>
    have Hg := Lib.hid hg
    clear hg
    go_wp2_with fail
    refine (l01Ok_any p _ hps).mono ?_
    rintro r w2 ⟨rfl, rfl⟩
    unfold maxLen at hps
    cases hw : wordOk p with
    | false =>
      have Hc := Lib.hid (show seekC xs p = 1 by rw [seekC, Hg.out, hw]; rfl)
      clear hw
      go_wp2_with fail
      go_ret
      exact ⟨ret_int Hc.out.symm, B1.out⟩
    | true =>
      have Hc := Lib.hid (show seekC xs p = patC p by rw [seekC, Hg.out, hw]; rfl)
      clear hw
      by_cases h0 : p.size = 0
      · have e : p = ⟨#[]⟩ := by
          apply ByteArray.ext
          exact Array.eq_empty_of_size_eq_zero h0
        have Hc2 := Lib.hid (show patC p = 4 by rw [patC, if_pos h0])
        subst e
        clear h0
        go_wp2_with fail
        go_ret
        exact ⟨ret_int (by rw [Hc.out, Hc2.out]), B1.out⟩
      · have hne2 : ¬ p.toList = [] := by
          rw [ByteArray.toList_eq]
          intro h
          apply h0
          show p.data.size = 0
          rw [← Array.length_toList, h]; rfl
        have hne3 : p.toList.isEmpty = false := by
          cases h : p.toList with
          | nil => exact absurd h hne2
          | cons => rfl
        clear hne2
        by_cases h2 : 20 < p.size
        · have h2I : (20 : Int) < (p.size : Int) := by omega
          have Hc2 := Lib.hid (show patC p = 3 by rw [patC, if_neg h0, if_pos h2])
          clear h0 h2
          go_wp2_with fail
          go_ret
          exact ⟨ret_int (by rw [Hc.out, Hc2.out]), B1.out⟩
        · have h2I : ¬ (20 : Int) < (p.size : Int) := by omega
          have Hc2 := Lib.hid (show patC p = 0 by rw [patC, if_neg h0, if_neg h2])
          clear h0 h2
          go_wp2_with fail
          go_ret
          exact ⟨ret_int (by rw [Hc.out, Hc2.out]), B1.out⟩
theorem seekC_zero {xs : List GRule} {p : ByteArray} (h : seekC xs p = 0) : gramOk xs = true ∧ wordOk p = true ∧ 0 < p.size ∧ p.size ≤ 20 := by
  unfold seekC at h
  by_cases c : (gramOk xs && wordOk p) = true
  · rw [if_pos c] at h
    obtain ⟨h1, h2⟩ := by simpa [Bool.and_eq_true] using c
    refine ⟨h1, h2, ?_⟩
    unfold patC at h
    split at h
    · cases h
    · split at h
      · cases h
      · omega
  · rw [if_neg c] at h; cases h
theorem find_end {p : ByteArray} (hp : p.size ≤ 20) {xs : List GRule} {ls : List Int} (hl : lens xs = some ls) (h0 : 0 < xs.length) (i : Int) :
    findD xs ls (mapsOf (patA p).next xs) (fun r s => fstV (patA p).next p.size s (W1 xs r)) (xs.length - 1 + 1) (xs.length - 1) 0 (i + (p.size : Int) - 1) 0 (-1) = endV p (wordG xs) i ∨ (endV p (wordG xs) i < 0 ∧ findD xs ls (mapsOf (patA p).next xs) (fun r s => fstV (patA p).next p.size s (W1 xs r)) (xs.length - 1 + 1) (xs.length - 1) 0 (i + (p.size : Int) - 1) 0 (-1) < 0) := by
  rw [findD_word (patA_ok hp) hl p.size (xs.length - 1 + 1) (xs.length - 1) 0 _ _ _ (by omega) (by omega) (by show 0 < ((List.range (p.size + 1)).map (rowP p)).length; simp)]
  unfold endV
  rw [wordG_pos h0]
  split
  · rename_i h; exact Or.inr ⟨h, by decide⟩
  · left; omega
theorem endV_nil {p : ByteArray} (i : Int) : endV p (wordG []) i < 0 := by
  unfold endV
  rw [ffrV_out _ _ _ _ (by show 0 ≤ _; omega)]; decide
theorem keepS2 {wr W : World} {x g : Nat} {t t' : TypeId} {c0 c1 c2 c3 d : Value} (hx : Blk wr x #[c0, c1, c2, c3] t) (hg : Blk wr g #[d] t') (h : Below wr.heap.size wr W) :
    Below wr.heap.size wr W ∧ W.cell? ⟨x, 3, none⟩ = some c3 ∧ W.cell? ⟨g, 0, none⟩ = some d := by
  have h2 := hx.up h
  exact ⟨h, h2.cell rfl, (hg.up h).cell rfl⟩
set_option maxRecDepth 100000 in
set_option maxHeartbeats 8000000 in
theorem specNext_any (vR : Value) (xs : List GRule) (p : ByteArray) (i : Int) (w : World) (hR : Sl RuleE w w.heap.size vR xs) (hsm : SmallL xs) (hn : xs.length ≤ 1048576) (hps : p.size ≤ maxLen) :
    Calls Try.prog 7 #[.agg #[vR], .string p, .int .i64 i] w fun e w' => e = .returned (nextR xs p i) ∧ Below w.heap.size w w' := by
  have HR := Lib.hid hR
  have HSm := Lib.hid hsm
  obtain ⟨AR, cR, rfl, _⟩ := hR
  go_enter Try.func7, Try.ntmps7
  go_upto_region 1 with fail
  have ka := (Below.refl w.heap.size w).alloc (Nat.le_refl _) (Obj.cells #[.slice AR xs.length cR] 30)
  have kg := Blk.new w #[.slice AR xs.length cR] 30
  generalize w.alloc (Obj.cells #[.slice AR xs.length cR] 30) = w1 at *
  have B1 := Lib.hid ka
  have HR1 := Lib.hid (HR.out.up ka)
  have KG := Lib.hid kg
  have g0 := Blk.cell (i := 0) (v := .slice AR xs.length cR) kg rfl
  have gl := Blk.lt kg
  clear ka kg hsm
  go_wp2_with fail
  refine (l04Asked_any w.heap.size _ xs p _ g0 gl HR1.out HSm.out hps).mono ?_
  rintro e w2 ⟨rfl, hb2⟩
  have HR2 := Lib.hid (HR1.out.up hb2)
  have B2 := Lib.hid (Below.tr B1.out hb2)
  have K2 := Lib.hid (KG.out.up hb2)
  clear hb2 g0 gl
  obtain ⟨c, hc⟩ : ∃ c, seekC xs p = c := ⟨_, rfl⟩
  rw [hc]
  by_cases hc0 : c = 0
  · subst hc0
    obtain ⟨hg, hw, hp0, hp20⟩ := seekC_zero hc
    obtain ⟨h4, ls, hl⟩ := gram_lens hg
    have hgl := gramLen_of hl
    obtain ⟨n, hnn⟩ : ∃ n : Nat, lastI ls = n := ⟨(lastI ls).toNat, by have := (lastI_bounds hl).1; omega⟩
    have hn2 : n ≤ 1000000000000000 := by have := (lastI_bounds hl).2; omega
    have hll := lens_length hl
    rw [hnn] at hgl
    have Hc := Lib.hid (show ¬ seekC xs p ≠ 0 by rw [hc]; simp)
    have Hl := Lib.hid hl
    have Hg := Lib.hid hg
    have Hn := Lib.hid hnn
    have Hgl := Lib.hid hgl
    have Hll := Lib.hid hll
    have Hok := Lib.hid (patA_ok hp20)
    have g0 := Blk.cell (i := 0) (v := .slice AR xs.length cR) K2.out rfl
    have gl := Blk.lt K2.out
    clear hc hg hw hl hgl hnn hll
    go_wp2_with fail
    refine (l02Length_any w.heap.size 0 _ xs ls _ Hl.out g0 gl HR2.out HSm.out (by omega)).mono ?_
    rintro e w3 ⟨rfl, hb3⟩
    rw [Hn.out]
    have HR3 := Lib.hid (HR2.out.up hb3)
    have B3 := Lib.hid (Below.tr B2.out hb3)
    have K3 := Lib.hid (K2.out.up hb3)
    clear hb3 g0 gl
    by_cases hin : inR i 0 n = true
    · have Hin := Lib.hid hin
      have hi0 : 0 ≤ i ∧ i ≤ n := by simpa [inR] using hin
      have Hin2 := Lib.hid (show ¬ inR i 0 (gramLen xs) = false by rw [Hgl.out, Hin.out]; simp)
      clear hin
      go_wp2_with fail
      refine (l00In_yes _ _ _ _ Hin.out).mono ?_
      rintro e w4 ⟨rfl, rfl⟩
      have g0 := Blk.cell (i := 0) (v := .slice AR xs.length cR) K3.out rfl
      have gl := Blk.lt K3.out
      by_cases h0 : xs.length = 0
      · have hx : xs = [] := List.eq_nil_of_length_eq_zero h0
        subst hx
        clear h0
        go_wp2_with fail
        go_ret2
        exact ⟨by rw [nextR, nextV, nextC, if_neg Hc.out, if_neg Hc.out, if_neg Hin2.out, if_neg Hin2.out, if_pos (endV_nil i), if_pos (endV_nil i)]; rfl, B3.out⟩
      · obtain ⟨m, hm⟩ : ∃ m : Nat, xs.length - 1 = m := ⟨_, rfl⟩
        have hm2 : m < xs.length := by omega
        have hm3 : (xs.length : Int) - 1 = (m : Int) := by omega
        have Hm3 := Lib.hid hm3
        have h0I : ¬ (xs.length : Int) = 0 := by omega
        have h0b : ((xs.length : Int) == 0) = false := by rw [beq_eq_false_iff_ne]; omega
        have hfe0 := find_end hp20 Hl.out (by omega) i
        rw [hm] at hfe0
        have Hfe := Lib.hid hfe0
        have h0p : 0 < xs.length := by omega
        clear h0 hm hm3 hfe0
        go_wp2_with fail
        refine (l04Pattern_any p _ hp20).mono ?_
        rintro e w4 ⟨vA, rfl, hvA, hb4⟩
        have HvA := Lib.hid (AutoS.more hvA (S' := fun b => b < w4.heap.size) fun _ h => h.2)
        obtain ⟨vF, vN, rfl, hF, hN⟩ := hvA
        obtain ⟨AF, cF, rfl, _⟩ := hF
        have HN := Lib.hid (hN.more (S' := fun b => b < w4.heap.size) fun _ h => h.2)
        obtain ⟨AN, cN, rfl, _⟩ := hN
        have HR4 := Lib.hid (HR3.out.up hb4)
        have B4 := Lib.hid (Below.tr B3.out hb4)
        have K4 := Lib.hid (K3.out.up hb4)
        clear hb4 g0 gl
        have ka := (Below.refl w4.heap.size w4).alloc (Nat.le_refl _) (Obj.cells #[.int .i64 (patA p).states, .int .i64 (patA p).start, .slice AF (patA p).finals.length cF, .slice AN (patA p).next.length cN] 56)
        have kx := Blk.new w4 #[.int .i64 (patA p).states, .int .i64 (patA p).start, .slice AF (patA p).finals.length cF, .slice AN (patA p).next.length cN] 56
        go_upto_region 9 with fail
        generalize w4.alloc (Obj.cells #[.int .i64 (patA p).states, .int .i64 (patA p).start, .slice AF (patA p).finals.length cF, .slice AN (patA p).next.length cN] 56) = w5 at *
        have HR5 := Lib.hid (HR4.out.up ka)
        have HN5 := Lib.hid (HN.out.up ka)
        have B5 := Lib.hid (Below.tr B4.out ka)
        have K5 := Lib.hid (K4.out.up ka)
        have KX := Lib.hid kx
        have g0 := Blk.cell (i := 0) (v := .slice AR xs.length cR) K5.out rfl
        have gl := Blk.lt K5.out
        clear ka kx
        go_wp2_with fail
        refine (l02Lengths_any w.heap.size 0 _ xs _ g0 gl HR5.out HSm.out).mono ?_
        rintro e w6 ⟨hb6, vL, ls', rfl, own6, hls⟩
        have els : ls' = ls := hls h4 ls Hl.out
        subst els
        have HL6 := Lib.hid own6.sl
        have HR6 := Lib.hid (HR5.out.up hb6)
        have HN6 := Lib.hid (HN5.out.up hb6)
        have B6 := Lib.hid (Below.tr B5.out hb6)
        have K6 := Lib.hid (K5.out.up hb6)
        have KX6 := Lib.hid (KX.out.up hb6)
        obtain ⟨AL, cL, rfl, _⟩ := own_nil own6
        clear hb6 hls own6 g0 gl
        have x3 := Blk.cell (i := 3) (v := .slice AN (patA p).next.length cN) KX6.out rfl
        have lx := Blk.lt KX6.out
        have z6 : Below w6.heap.size w6 w6.drew := Below.drew (Below.refl _ _)
        have h4I : (decide (xs.length ≤ 400) && (lens xs).isSome) = true := by rw [Hl.out]; simp [h4]
        rw [h4I]
        have g0 := Blk.cell (i := 0) (v := .slice AR xs.length cR) K6.out rfl
        have gl := Blk.lt K6.out
        clear h4I
        go_wp2_with fail
        go_region_held3 (fun w' => Below w6.heap.size w6 w' ∧ w'.cell? ⟨w4.heap.size, 3, none⟩ = some (.slice AN (patA p).next.length cN) ∧ w'.cell? ⟨w.heap.size, 0, none⟩ = some (.slice AR xs.length cR))
          (first | (with_reducible exact keepS2 KX6.out K6.out z6) | (with_reducible exact keepS2 KX6.out K6.out (Below.tr z6 hb7)) | (with_reducible exact keepS2 KX6.out K6.out (Below.tr (Below.tr z6 hb7) hb8)) | (with_reducible exact keepS2 KX6.out K6.out (Below.tr (Below.tr (Below.tr z6 hb7) hb8) ((Below.refl w8.heap.size w8).alloc (Nat.le_refl _) _))))
          (first
            | (go_at_call 32; refine (l04Maps_any _ _ w.heap.size 0 (patA p) xs ls' _ (HN6.out.up z6) (HR6.out.up z6) Hok.out Hl.out (by omega) g0 gl).mono ?_; rintro e w7 ⟨vM, rfl, hM, hb7⟩; have HM7 := Lib.hid hM; obtain ⟨AM, cM, rfl, _⟩ := hM)
            | (go_at_call 33; refine (l04First_any _ _ _ w.heap.size 0 p.size (patA p) xs ls' _ (HN6.out.up (Below.tr z6 hb7)) (HR6.out.up (Below.tr z6 hb7)) (HL6.out.up (Below.tr z6 hb7)) Hok.out Hl.out (by omega) (keepS2 KX6.out K6.out (Below.tr z6 hb7)).2.2 (Nat.lt_of_lt_of_le gl hb7.size)).mono ?_; rintro e w8 ⟨vT, rfl, hT, hb8⟩; have HT8 := Lib.hid hT; obtain ⟨AT, cT, rfl, _⟩ := hT))
        have B8 := Lib.hid (Below.tr B6.out (Below.tr (Below.tr z6 hb7) hb8))
        have b68 := Below.tr (Below.tr z6 hb7) hb8
        have HR8 := Lib.hid (HR6.out.up b68)
        have HL8 := Lib.hid (HL6.out.up b68)
        have HMb := Lib.hid (SlS.up (HM7.out.more (S' := fun b => b < w7.heap.size) fun _ h => h.2) hb8)
        have HTb := Lib.hid (HT8.out.more (S' := fun b => b < w8.heap.size) fun _ h => h.2)
        have K8 := Lib.hid (K6.out.up b68)
        have kb := (Below.refl w8.heap.size w8).alloc (Nat.le_refl _) (Obj.cells #[.pointer (some ⟨w.heap.size, 0, none⟩), .slice AL ls'.length cL, .slice AM (mapsOf (patA p).next xs).length cM, .slice AT (fstT (patA p).next p.size xs xs.length).length cT] 64)
        have ky := Blk.new w8 #[.pointer (some ⟨w.heap.size, 0, none⟩), .slice AL ls'.length cL, .slice AM (mapsOf (patA p).next xs).length cM, .slice AT (fstT (patA p).next p.size xs xs.length).length cT] 64
        generalize w8.alloc (Obj.cells #[.pointer (some ⟨w.heap.size, 0, none⟩), .slice AL ls'.length cL, .slice AM (mapsOf (patA p).next xs).length cM, .slice AT (fstT (patA p).next p.size xs xs.length).length cT] 64) = w9 at *
        have HR9 := Lib.hid (HR8.out.up kb)
        have HL9 := Lib.hid (HL8.out.up kb)
        have HM9 := Lib.hid (HMb.out.up kb)
        have HT9 := Lib.hid (HTb.out.up kb)
        have K9 := Lib.hid (K8.out.up kb)
        have B9 := Lib.hid (Below.tr B8.out kb)
        have KY := Lib.hid ky
        clear b68 z6 hb7 hb8 x3 lx g0 gl kb ky
        have g0 := Blk.cell (i := 0) (v := .slice AR xs.length cR) K9.out rfl
        -- @V z
        have gl := Blk.lt K9.out
        have hw1 : IntKind.i64.wrap (i + (p.size : Int)) = i + (p.size : Int) := IntWalk.i64_in _ (by omega)
        have hw2 : IntKind.i64.wrap (i + (p.size : Int) - 1) = i + (p.size : Int) - 1 := IntWalk.i64_in _ (by omega)
        have hw3 : IntKind.i64.wrap ((xs.length : Int) - 1) = (m : Int) := by rw [Hm3.out]; exact IntWalk.i64_in _ (by omega)
        go_wp2_with fail
        -- @V z.a
        have hfind := find_any w8.heap.size w.heap.size p.size m 0 (i + (p.size : Int) - 1) _ _ _ _ _ (patA p) xs ls' _ HR9.out HL9.out HM9.out HT9.out Hok.out Hl.out (by omega) g0 gl KY.out hm2 (by show 0 < ((List.range (p.size + 1)).map (rowP p)).length; simp) (by omega)
        rw [show ((0 : Nat) : Int) = 0 from rfl] at hfind
        -- @V z.a.c
        refine hfind.mono ?_
        rintro e w10 ⟨rfl, hb10⟩
        have B10 := Lib.hid (Below.tr B9.out hb10)
        have hbd := endV_bounds (p := p) (w := wordG xs) (i := i) hp0 hi0.1
        have hwl := wordG_len Hl.out
        have hnn := Hn.out
        have hfe := Hfe.out
        -- @V z.a.c.b
        generalize findD xs ls' (mapsOf (patA p).next xs) (fun r s => fstV (patA p).next p.size s (W1 xs r)) (m + 1) m 0 (i + (p.size : Int) - 1) 0 (-1) = E at hfe ⊢
        clear hb10 g0 gl hw1 hw2 hw3
        by_cases hE : E < 0
        · have hlt := Lib.hid (show endV p (wordG xs) i < 0 by rcases hfe with h | h <;> omega)
          clear hfe hbd
          go_wp2_with fail
          go_ret2
          exact ⟨by rw [nextR, nextV, nextC, if_neg Hc.out, if_neg Hc.out, if_neg Hin2.out, if_neg Hin2.out, if_pos hlt.out, if_pos hlt.out]; rfl, B10.out⟩
        · have heq := Lib.hid (show endV p (wordG xs) i = E by rcases hfe with h | h <;> omega)
          have hw5 : IntKind.i64.wrap (E - (p.size : Int)) = E - (p.size : Int) := IntWalk.i64_in _ (by have := heq.out; omega)
          have hlt := Lib.hid (show ¬ endV p (wordG xs) i < 0 by rw [heq.out]; exact hE)
          clear hfe hbd hwl hnn
          go_wp2_with fail
          go_ret2
          exact ⟨by rw [nextR, nextV, nextC, if_neg Hc.out, if_neg Hc.out, if_neg Hin2.out, if_neg Hin2.out, if_neg (show ¬ endV p (wordG xs) i < 0 by have := hlt.out; omega), if_neg (show ¬ endV p (wordG xs) i < 0 by have := hlt.out; omega), heq.out]; rfl, B10.out⟩
    · have hin' : inR i 0 n = false := by simpa using hin
      have Hin := Lib.hid hin'
      clear hin hin'
      go_wp2_with fail
      refine (l00In_no _ _ _ _ Hin.out).mono ?_
      rintro e w4 ⟨rfl, rfl⟩
      go_wp2_with fail
      go_ret2
      exact ⟨by rw [nextR, nextV, nextC, if_neg Hc.out, if_neg Hc.out, Hgl.out, if_pos Hin.out, if_pos Hin.out]; rfl, B3.out⟩
  · have hcn : (c != 0) = true := by simpa using hc0
    have Hc := Lib.hid (show seekC xs p ≠ 0 by rw [hc]; exact hc0)
    have HC := Lib.hid hc
    clear hc hc0
    go_wp2_with fail
    go_ret2
    exact ⟨by rw [nextR, nextV, nextC, if_pos Hc.out, if_pos Hc.out, HC.out]; rfl, B2.out⟩
theorem keepB2 {wr W : World} {x g : Nat} {t t' : TypeId} {c d : Value} (hx : Blk wr x #[c] t) (hg : Blk wr g #[d] t') (h : Below wr.heap.size wr W) :
    Below wr.heap.size wr W ∧ W.cell? ⟨x, 0, none⟩ = some c ∧ W.cell? ⟨g, 0, none⟩ = some d := ⟨h, (hx.up h).cell rfl, (hg.up h).cell rfl⟩
set_option maxRecDepth 100000 in
set_option maxHeartbeats 4000000 in
theorem lawNext_any (v : Value) (xs : List GRule) (p : ByteArray) (i : Int) (w : World) (h : Sl RuleE w w.heap.size v xs) (hsm : SmallL xs) (hps : p.size ≤ maxLen) :
    Calls Try.prog 3 #[.agg #[v], .string p, .int .i64 i] w fun e w' => e = .returned (.bool true) ∧ Below w.heap.size w w' := by
  have H0 := Lib.hid h
  have HSm := Lib.hid hsm
  obtain ⟨A, c, rfl, _⟩ := h
  have HPs := Lib.hid hps
  go_enter Try.func3, Try.ntmps3
  go_upto_region 1 with fail
  have ka := (Below.refl w.heap.size w).alloc (Nat.le_refl _) (Obj.cells #[.slice A xs.length c] 24)
  have kg := Blk.new w #[.slice A xs.length c] 24
  generalize w.alloc (Obj.cells #[.slice A xs.length c] 24) = w1 at *
  have B1 := Lib.hid ka
  have S1 := Lib.hid (H0.out.up ka)
  have G1 := Lib.hid kg
  have g0 := Blk.cell (i := 0) (v := .slice A xs.length c) kg rfl
  have gl := Blk.lt kg
  clear ka kg hsm hps
  by_cases hbig : 1048576 < p.size
  · have hbI : (1048576 : Int) < (p.size : Int) := by omega
    go_wp2_with fail
    go_ret
    exact ⟨rfl, B1.out⟩
  have hbI : ¬ (1048576 : Int) < (p.size : Int) := by omega
  go_wp2_with fail
  refine (szGrammar_any _ xs _ _ S1.out HSm.out (by omega)).mono ?_
  rintro e w2 ⟨rfl, hb2⟩
  have B2 := Lib.hid (Below.tr B1.out hb2)
  have S2 := Lib.hid (S1.out.up hb2)
  have G2 := Lib.hid (G1.out.up hb2)
  clear hb2 g0 gl
  by_cases hneg : szRs xs 1048576 < 0
  · have H := Lib.hid hneg
    rw [if_pos hneg]
    clear hneg
    go_wp2_with fail
    go_ret
    exact ⟨rfl, B2.out⟩
  rw [if_neg hneg]
  obtain ⟨_, hlen⟩ := szRs_le xs 1048576 (by omega)
  have hn : xs.length ≤ 1048576 := by omega
  have hpos : ¬ szRs xs 1048576 < 0 := hneg
  have g0 := Blk.cell (i := 0) (v := .slice A xs.length c) G2.out rfl
  have gl := Blk.lt G2.out
  clear hneg hlen
  go_wp2_with fail
  refine (toGrammar_any _ xs _ S2.out hn).mono ?_
  rintro e w3 ⟨v3, rfl, own3, hb3⟩
  have B3 := Lib.hid (Below.tr B2.out hb3)
  have S3 := Lib.hid (S2.out.up hb3)
  have G3 := Lib.hid (G2.out.up hb3)
  have U3 := Lib.hid own3.sl
  obtain ⟨A3, c3, rfl, _⟩ := own_nil own3
  clear hb3 own3 g0 gl
  go_wp2_with fail
  refine (specNext_any _ xs p i _ U3.out HSm.out hn HPs.out).mono ?_
  rintro e w4 ⟨rfl, hb4⟩
  have B4 := Lib.hid (Below.tr B3.out hb4)
  have S4 := Lib.hid (S3.out.up hb4)
  have G4 := Lib.hid (G3.out.up hb4)
  have g0 := Blk.cell (i := 0) (v := .slice A xs.length c) G4.out rfl
  have gl := Blk.lt G4.out
  clear hb4
  unfold nextR
  go_wp2_with fail
  refine (toGrammar_any _ xs _ S4.out hn).mono ?_
  rintro e w5 ⟨v5, rfl, own5, hb5⟩
  have B5 := Lib.hid (Below.tr B4.out hb5)
  have S5 := Lib.hid (S4.out.up hb5)
  have G5 := Lib.hid (G4.out.up hb5)
  have U5 := Lib.hid own5.sl
  obtain ⟨A5, c5, rfl, _⟩ := own_nil own5
  clear hb5 own5 g0 gl
  have ka := (Below.refl w5.heap.size w5).alloc (Nat.le_refl _) (Obj.cells #[.slice A5 xs.length c5] 30)
  have kx := Blk.new w5 #[.slice A5 xs.length c5] 30
  go_upto_region 9 with fail
  generalize w5.alloc (Obj.cells #[.slice A5 xs.length c5] 30) = w6 at *
  have B6 := Lib.hid (Below.tr B5.out ka)
  have S6 := Lib.hid (S5.out.up ka)
  have G6 := Lib.hid (G5.out.up ka)
  have U6 := Lib.hid (U5.out.up ka)
  have X6 := Lib.hid kx
  have x0 := Blk.cell (i := 0) (v := .slice A5 xs.length c5) kx rfl
  have xl := Blk.lt kx
  clear ka kx
  go_wp2_with fail
  refine (implNext_any _ xs p i _ U6.out hn HPs.out).mono ?_
  rintro e w7 ⟨rfl, hb7⟩
  have B7 := Lib.hid (Below.tr B6.out hb7)
  have S7 := Lib.hid (S6.out.up hb7)
  have G7 := Lib.hid (G6.out.up hb7)
  have U7 := Lib.hid (U6.out.up hb7)
  have X7 := Lib.hid (X6.out.up hb7)
  clear hb7 x0 xl
  unfold nextR
  have q1 : (nextV xs p i != nextV xs p i) = false := by simp
  have q2 : (nextC xs p i != nextC xs p i) = false := by simp
  have x0 := Blk.cell (i := 0) (v := .slice A5 xs.length c5) X7.out rfl
  have xl := Blk.lt X7.out
  have g0 := Blk.cell (i := 0) (v := .slice A xs.length c) G7.out rfl
  have gl := Blk.lt G7.out
  have z7 : Below w7.heap.size w7 w7.drew := Below.drew (Below.refl _ _)
  go_wp2_with fail
  clear q1 q2
  go_region_held3 (fun w' => Below w7.heap.size w7 w' ∧ w'.cell? ⟨w5.heap.size, 0, none⟩ = some (.slice A5 xs.length c5) ∧ w'.cell? ⟨w.heap.size, 0, none⟩ = some (.slice A xs.length c))
    (first | (with_reducible exact keepB2 X7.out G7.out z7) | (with_reducible exact keepB2 X7.out G7.out (Below.tr z7 hb8)) | (with_reducible exact keepB2 X7.out G7.out (Below.tr (Below.tr z7 hb8) hb9)))
    (first
      | (go_at_call 8; refine (toGrammar_any _ xs _ (S7.out.up z7) hn).mono ?_; rintro e w8 ⟨v8, rfl, own8, hb8⟩)
      | (go_at_call 10; refine (eqGrammar_any _ _ xs _ (U7.out.up (Below.tr z7 hb8)) own8.sl).mono ?_; rintro e w9 ⟨rfl, hb9⟩))
  have B9 := Lib.hid (Below.tr B7.out (Below.tr (Below.tr z7 hb8) hb9))
  clear hb8 hb9 own8 z7 x0 xl g0 gl
  go_wp2_with fail
  go_ret
  exact ⟨rfl, B9.out⟩
open Go.RowKit Go.WideShapes Go.ChangeShapes
section
variable {H : Type} {enc : TypeId × Value → H} {P : Program}
theorem post_of_below {f : Func} {s : ChangeSpec} {apart fresh handsOn again : Bool} {W W' : World} {args : Array Value} {v : Value} {ds gs : List (DataW H)} {before pa pv : List MemPlace}
    (hW : DataW.Whole enc P f.params.toList s.vars apart W args.toList ds gs before)
    (hres : ∀ (b : Nat) (sp : Nat → Bool) (hd : Bool), DataW.TrodAll enc P W' b sp hd f.resultTypes.toList (v.resultList f.resultTypes.size) (s.fn H (ds ++ gs)).results [])
    (hargs : ∀ sp : Nat → Bool, (∀ p ∈ before, sp p.block = true) → DataW.TrodAll enc P W' 0 sp true f.params.toList args.toList (s.fn H (ds ++ gs)).args pa)
    (hvars : ∀ sp : Nat → Bool, (∀ p ∈ before, sp p.block = true) → DataW.TrodVars enc P W' sp s.vars (s.fn H (ds ++ gs)).vars pv)
    (hps : before = pa ++ pv) (hb : Below W.heap.size W W')
    (hok : ∀ (j : Nat) (t : TypeId) (r : Value), f.resultTypes[j]? = some t → (v.resultList f.resultTypes.size)[j]? = some r → Value.okWide P W' .any 0 t r) :
    s.post enc P f apart fresh handsOn again W args v W' := by
  have hlt : ∀ p ∈ before, p.block < W.heap.size := fun p hp => hW.lt p hp
  have hold : ∀ p ∈ before, (fun b => decide (b < W.heap.size)) p.block = true := fun p hp => by simpa using hlt p hp
  refine ⟨ds, gs, before, [], pa, pv, hW, hres _ _ _, hargs _ hold, hvars _ hold, World.keptBut_mono (fun p hp => ⟨hp, ?_⟩) (hb.frame (· ∈ before)), fun _ => ?_⟩
  · rw [hps, List.mem_append] at hp
    exact Or.inr hp
  · obtain ⟨_, _, _, _, _, hz, hn⟩ := hW
    refine ⟨hok, _, _, ([] ++ pa) ++ pv, ⟨[] ++ pa, pv, trodAll_append (hargs _ (fun _ _ => rfl)) (hres _ _ _), hvars _ (fun _ _ => rfl), rfl, ?_, ?_⟩, ?_⟩
    · intro b off hp
      have hin : MemPlace.cell b off ∈ before := by rw [hps]; simpa using hp
      rw [hb.frozen (hlt _ hin)]
      exact hz b off hin
    · intro ha
      have := hn ha
      rw [hps] at this
      simpa using this
    · intro p hp _
      rw [hps]
      simpa using hp
theorem trodAll_below (hl : laidOutB P = true) {W W' : World} (hb : Below W.heap.size W W') : ∀ {ts : List TypeId} {vs : List Value} {ds : List (DataW H)} {ps : List MemPlace},
    (∀ t ∈ ts, P.readableRec t = true ∧ t < P.types.size) → DataW.TrodAll enc P W 0 (fun _ => true) true ts vs ds ps → (∀ x ∈ ps, x.block < W.heap.size) → ∀ sp : Nat → Bool, (∀ p ∈ ps, sp p.block = true) →
    DataW.TrodAll enc P W' 0 sp true ts vs ds ps
  | [], _, _, _, _, h, _, _, _ => by
    obtain ⟨rfl, rfl, rfl⟩ := trodAll_nil h
    exact trodAll_mk0
  | t :: ts, vs, ds, ps, hts, h, hlt, sp, hsp => by
    obtain ⟨v, vs', d, ds', p, q, rfl, rfl, rfl, h0, r0⟩ := trodAll_cons h
    refine trodAll_cons_mk (WideElems.Trod_stays hl (hts t (by simp)).1 (hts t (by simp)).2 h0 (fun x hx => hb.same (hlt x (by simp [hx]))) (fun x hx => hsp x (by simp [hx]))) ?_
    exact trodAll_below hl hb (fun t ht => hts t (by simp [ht])) r0 (fun x hx => hlt x (by simp [hx])) sp (fun x hx => hsp x (by simp [hx]))
end
theorem laidOut : laidOutB Try.prog = true := by kernel_rfl
theorem own : ownKnob Try.prog.godebug = none := by kernel_rfl
open Go.RowKit Go.ChangeShapes Go.WideShapes Go.Deep
section
variable {H : Type} {enc : TypeId × Value → H} {P : Program} {w : World} {base : Nat} {spare : Nat → Bool} {held : Bool}
theorem open_slice_fields {t e : TypeId} {fs : Array Field} {fuel : Nat} {cs : List Value} {x : DataW H × List MemPlace} (ht : P.underlying t = some (.slice e)) (he : P.underlying e = some (.struct fs))
    (hone : oneCellFields P fs = true) (hC : P.cellsOf e = fs.size) (h : DataW.trod enc P w base spare held fuel t cs = some x) :
    (cs = [.slice none 0 0] ∧ x = (.nil, [])) ∨
    ∃ (a : Addr) (len cap m : Nat) (D : Nat → DataW H) (Pl : Nat → List MemPlace), cs = [.slice (some a) len cap] ∧ base ≤ a.block ∧ len ≤ cap ∧ cap ≤ maxLen ∧ m = (if spare a.block then cap else len) ∧
      x = (.slice ((List.range len).map D) ((List.range (m - len)).map fun j => D (len + j)), MemPlace.row a (m * fs.size) ++ (List.range m).flatMap Pl) ∧
      ∀ i, i < m → ∃ (ys : List (DataW H × List MemPlace)) (n : Nat), D i = .agg (ys.map (·.1)) ∧ Pl i = ys.flatMap (·.2) ∧ ys.length = fs.size ∧
        ∀ (j : Nat) (f : Field), fs[j]? = some f → ∃ (v : Value) (y : DataW H × List MemPlace), w.cell? (a.add (i * fs.size + j)) = some v ∧ ys[j]? = some y ∧ DataW.trod enc P w base spare held n f.type [v] = some y := by
  rcases open_slice ht h with h0 | ⟨a, len, cap, m, n, D, Pl, hcs, hb, hl, hm, hmm, hx, hi⟩
  · exact .inl h0
  · refine .inr ⟨a, len, cap, m, D, Pl, hcs, hb, hl, hm, hmm, by rw [hC] at hx; exact hx, fun i him => ?_⟩
    obtain ⟨cs', hc, ht'⟩ := hi i him
    rw [hC] at hc
    obtain ⟨ys, n', hn', hy, hlen, hyl, hf⟩ := DataW.trod_struct he ht'
    obtain ⟨_, hcl, hat⟩ := World.cells?_some hc
    simp only [Prod.mk.injEq] at hy
    refine ⟨ys, n', hy.1, hy.2, hyl, fun j f hj => ?_⟩
    obtain ⟨ho, hk⟩ := hone_of hone j f hj
    have hjl : j < fs.size := (Array.getElem?_eq_some_iff.1 hj).1
    have hcell := hat j hjl
    have hv : cs'[j]? = some (cs'[j]'(by omega)) := List.getElem?_eq_getElem (by omega)
    have h1 := hf j f hj
    rw [ho, hk] at h1
    have hone' : (cs'.drop j).take 1 = [cs'[j]'(by omega)] := by
      rw [List.drop_eq_getElem_cons (by omega)]
      rfl
    rw [hone'] at h1
    have hys : ys[j]? = some (ys[j]'(by omega)) := List.getElem?_eq_getElem (by omega)
    refine ⟨_, _, ?_, hys, h1.trans hys⟩
    rw [← Go.Deep.add_add, hcell, hv]
theorem add_plain (b o n : Nat) : (⟨b, o, none⟩ : Addr).add n = ⟨b, o + n, none⟩ := by unfold Addr.add; split <;> simp_all
theorem spot_none {a : Addr} {v : Value} (h : w.cell? a = some v) : a = ⟨a.block, a.off, none⟩ ∧ a.block < w.heap.size := by
  have hl := World.block_lt_of_cell? w a h
  refine ⟨?_, hl⟩
  obtain ⟨b, o, s⟩ := a
  unfold World.cell? at h
  cases s with
  | none => rfl
  | some s => split at h <;> simp at h
theorem len_map_range {α : Type} (f : Nat → α) (n : Nat) : ((List.range n).map f).length = n := by simp
theorem open_rules {t e : TypeId} {f0 f1 f2 : Field} {fuel : Nat} {v : Value} {x : DataW H × List MemPlace} (ht : P.underlying t = some (.slice e)) (he : P.underlying e = some (.struct #[f0, f1, f2]))
    (hone : oneCellFields P #[f0, f1, f2] = true) (hC : P.cellsOf e = 3) (h0 : P.underlying f0.type = some .string) (h1 : P.underlying f1.type = some (.int .i64)) (h2 : P.underlying f2.type = some (.int .i64))
    (h : DataW.trod enc P w base spare held fuel t [v] = some x) : ∃ xs : List GRule, Sl RuleE w w.heap.size v xs ∧ SmallL xs := by
  rcases open_slice_fields ht he hone hC h with ⟨hcs, _⟩ | ⟨a, len, cap, m, D, Pl, hcs, _, hl, hm, hmm, _, hf⟩
  · simp at hcs
    subst hcs
    exact ⟨[], SlS.nil _ _, fun r hr => by simp at hr⟩
  · simp at hcs
    subst hcs
    have hmle : len ≤ m := by rw [hmm]; split <;> omega
    have H : ∀ i, ∃ r : GRule, i < len → (w.cell? (a.add (i * 3)) = some (.string r.letter) ∧ w.cell? (a.add (i * 3 + 1)) = some (.int .i64 r.left) ∧ w.cell? (a.add (i * 3 + 2)) = some (.int .i64 r.right) ∧ r.letter.size ≤ maxLen) := by
      intro i
      by_cases hi : i < len
      · obtain ⟨ys, n, _, _, _, hx⟩ := hf i (by omega)
        obtain ⟨v0, y0, g0, _, t0⟩ := hx 0 f0 rfl
        obtain ⟨v1, y1, g1, _, t1⟩ := hx 1 f1 rfl
        obtain ⟨v2, y2, g2, _, t2⟩ := hx 2 f2 rfl
        obtain ⟨s, e0, _, hs⟩ := DataW.trod_string h0 t0
        obtain ⟨p, e1, _, _⟩ := DataW.trod_int h1 t1
        obtain ⟨q, e2, _, _⟩ := DataW.trod_int h2 t2
        simp at e0 e1 e2
        subst e0 e1 e2
        exact ⟨⟨s, p, q⟩, fun _ => ⟨by simpa using g0, g1, g2, hs⟩⟩
      · exact ⟨⟨⟨#[]⟩, 0, 0⟩, fun h => absurd h hi⟩
    obtain ⟨F, hF⟩ : ∃ F : Nat → GRule, ∀ i, i < len → (w.cell? (a.add (i * 3)) = some (.string (F i).letter) ∧ w.cell? (a.add (i * 3 + 1)) = some (.int .i64 (F i).left) ∧ w.cell? (a.add (i * 3 + 2)) = some (.int .i64 (F i).right) ∧ (F i).letter.size ≤ maxLen) :=
      ⟨fun i => Classical.choose (H i), fun i hi => Classical.choose_spec (H i) hi⟩
    clear H
    refine ⟨(List.range len).map F, ⟨some a, cap, by rw [len_map_range], by rw [len_map_range]; exact hl, hm, fun hn => ?_⟩, ?_⟩
    · rw [len_map_range] at hn
      obtain ⟨g0, _⟩ := hF 0 hn
      have ha : a.add (0 * 3) = a := by simp [Addr.add]
      rw [ha] at g0
      obtain ⟨hsp, hlt⟩ := spot_none g0
      refine ⟨a.block, a.off, by rw [← hsp], hlt, fun k r hr => ⟨r.cells, rfl, fun j u hu => ?_⟩⟩
      have hk : k < len := by
        have := (List.getElem?_eq_some_iff.1 hr).1
        rw [len_map_range] at this; exact this
      have er : F k = r := by
        rw [List.getElem?_map, List.getElem?_range hk] at hr; simpa using hr
      obtain ⟨g0, g1, g2, _⟩ := hF k hk
      rw [er, hsp, add_plain] at g0 g1 g2
      match j, hu with
      | 0, hu => simp [GRule.cells] at hu; subst hu; exact g0
      | 1, hu => simp [GRule.cells] at hu; subst hu; exact g1
      | 2, hu => simp [GRule.cells] at hu; subst hu; exact g2
      | j + 3, hu => simp [GRule.cells] at hu
    · intro r hr
      rw [List.mem_map] at hr
      obtain ⟨k, hk, rfl⟩ := hr
      have := (hF k (by simpa using hk)).2.2.2
      unfold maxLen at this
      exact this
theorem open_struct1 {t : TypeId} {f : Field} {v : Value} {d : DataW H} {p : List MemPlace} {r : Reach} {b0 : Nat} (hs : P.underlying t = some (.struct #[f])) (hone : oneCellFields P #[f] = true) (hC : P.cellsOf t = 1)
    (hv : Value.okWide P w r b0 t v) (h : DataW.Trod enc P w base spare held t v d p) : ∃ v0 n x, v = .agg #[v0] ∧ DataW.trod enc P w base spare held n f.type [v0] = some x := by
  obtain ⟨cs, rfl, hsz⟩ := okWide_struct hs hv
  obtain ⟨l⟩ := cs
  match l, hsz.trans hC with
  | [c0], _ =>
    obtain ⟨fuel, hf⟩ := h
    obtain ⟨xs, n, _, _, _, hlen, hg⟩ := DataW.trod_struct hs hf
    obtain ⟨o0, k0⟩ := hone_of hone 0 f rfl
    match xs, hlen with
    | [y0], _ => exact ⟨c0, n, y0, rfl, by simpa [Value.cells, o0, k0] using hg 0 f rfl⟩
end
set_option maxRecDepth 100000 in
theorem open_gram {H : Type} {enc : TypeId × Value → H} {w : World} {base : Nat} {spare : Nat → Bool} {held : Bool} {r : Reach} {b0 : Nat} {v : Value} {d : DataW H} {p : List MemPlace}
    (hv : Value.okWide Try.prog w r b0 24 v) (h : DataW.Trod enc Try.prog w base spare held 24 v d p) : ∃ v0 xs, v = .agg #[v0] ∧ Sl RuleE w w.heap.size v0 xs ∧ SmallL xs := by
  obtain ⟨v0, n, x, rfl, hx⟩ := open_struct1 Try.underlying24 (by kernel_rfl) (by kernel_rfl) hv h
  obtain ⟨xs, h1, h2⟩ := open_rules Try.underlying22 Try.underlying109 (by kernel_rfl) (by kernel_rfl) Try.underlying9 Try.underlying2 Try.underlying2 hx
  exact ⟨v0, xs, rfl, h1, h2⟩
open Go.RowKit Go.ChangeShapes Go.WideShapes Go.Deep
instance : Inhabited GRule := ⟨⟨⟨#[]⟩, 0, 0⟩⟩
end Go.Proofs.Ytfkijaamfmpboaa
