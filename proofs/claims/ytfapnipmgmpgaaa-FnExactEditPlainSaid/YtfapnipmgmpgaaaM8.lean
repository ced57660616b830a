import Derived.Test.YtfapnipmgmpgaaaM2
import Derived.Test.YtfapnipmgmpgaaaM6
import Derived.Test.YtfapnipmgmpgaaaM7
import Derived.Test.YtfapnipmgmpgaaaM3
import Derived.Shelf.Strings.BuilderK
import Derived.Shelf.Bits.Mul64
import Derived.Shelf.Strings.BuilderF
import Derived.Shelf.Strings.Builder2
import Derived.Lib.RepeatB
import Derived.Deep.LoopGhost
import Derived.Deep.DeepCutAuto
import Derived.Deep.DeepFit
import Derived.Deep.CutBlock
namespace Go.Proofs.Ytfapnipmgmpgaaa
open Go.RowKit

/-- The word behind an edit. -/
def plainB (s : ByteArray) (e : GEdit) : ByteArray :=
  if e.kind = 1 then s.extract 0 e.i.toNat ++ ⟨(wordG e.part).toArray⟩ ++ s.extract e.i.toNat s.size
  else if e.kind = 2 then s.extract 0 e.i.toNat ++ s.extract e.j.toNat s.size
  else if e.kind = 3 then s.extract 0 e.k.toNat ++ s.extract e.i.toNat e.j.toNat ++ s.extract e.k.toNat s.size
  else if e.kind = 4 then (if e.k ≤ e.i then s.extract 0 e.k.toNat ++ s.extract e.i.toNat e.j.toNat ++ s.extract e.k.toNat e.i.toNat ++ s.extract e.j.toNat s.size else s.extract 0 e.i.toNat ++ s.extract e.j.toNat e.k.toNat ++ s.extract e.i.toNat e.j.toNat ++ s.extract e.k.toNat s.size)
  else if e.kind = 5 then s.extract 0 e.i.toNat ++ ⟨(s.extract e.i.toNat e.j.toNat).data.toList.reverse.toArray⟩ ++ s.extract e.j.toNat s.size
  else if e.kind = 6 then (if e.i = e.j then s else s.extract 0 e.i.toNat ++ ⟨(repL (s.extract e.i.toNat e.j.toNat).data.toList e.k.toNat).toArray⟩ ++ s.extract e.j.toNat s.size)
  else s.extract 0 e.i.toNat ++ ⟨((s.extract e.i.toNat e.j.toNat).data.toList.map (mapB e.map)).toArray⟩ ++ s.extract e.j.toNat s.size
/-- What EditPlain answers. -/
def epC (s : ByteArray) (e : GEdit) : Int := if wordOk s then if editOk e then if editFits e s.size then if editLen e s.size ≤ 2000 then 0 else 3 else 2 else 1 else 1
def epV (s : ByteArray) (e : GEdit) : ByteArray := if epC s e = 0 then plainB s e else ⟨#[]⟩
theorem epC_1 {s : ByteArray} {e : GEdit} (h : wordOk s = false ∨ editOk e = false) : epC s e = 1 ∧ epV s e = ⟨#[]⟩ := by
  have : epC s e = 1 := by
    unfold epC
    rcases h with h | h
    · rw [if_neg (by simp [h])]
    · rw [if_neg (c := editOk e = true) (by simp [h])]; split <;> rfl
  exact ⟨this, by rw [epV, this]; rfl⟩
theorem epC_2 {s : ByteArray} {e : GEdit} (h : wordOk s = true) (h2 : editOk e = true) (h3 : editFits e s.size = false) : epC s e = 2 ∧ epV s e = ⟨#[]⟩ := by
  have : epC s e = 2 := by rw [epC, if_pos h, if_pos h2, if_neg (by simp [h3])]
  exact ⟨this, by rw [epV, this]; rfl⟩
theorem epC_3 {s : ByteArray} {e : GEdit} (h : wordOk s = true) (h2 : editOk e = true) (h3 : editFits e s.size = true) (h4 : ¬ editLen e s.size ≤ 2000) : epC s e = 3 ∧ epV s e = ⟨#[]⟩ := by
  have : epC s e = 3 := by rw [epC, if_pos h, if_pos h2, if_pos h3, if_neg h4]
  exact ⟨this, by rw [epV, this]; rfl⟩
theorem epC_0 {s : ByteArray} {e : GEdit} (h : wordOk s = true) (h2 : editOk e = true) (h3 : editFits e s.size = true) (h4 : editLen e s.size ≤ 2000) : epC s e = 0 ∧ epV s e = plainB s e := by
  have : epC s e = 0 := by rw [epC, if_pos h, if_pos h2, if_pos h3, if_pos h4]
  exact ⟨this, by rw [epV, if_pos this]⟩
theorem editOk_map {e : GEdit} (h : editOk e = true) (hk : e.kind = 7) : e.map.size = 4 := by
  simp only [editOk, Bool.and_eq_true] at h
  have := h.2
  rw [if_pos (by simp [hk])] at this
  simp at this; exact this.1
theorem wordOk_let {s : ByteArray} (h : wordOk s = true) : s.size ≤ 2000 ∧ ∀ k (hk : k < s.size), 97 ≤ s[k].toNat ∧ s[k].toNat ≤ 100 := by
  simp only [wordOk, Bool.and_eq_true, decide_eq_true_eq, List.all_eq_true] at h
  refine ⟨by omega, fun k hk => ?_⟩
  have := h.2 s[k] (by rw [List.mem_iff_getElem?]; exact ⟨k, toList_getElem? s k hk⟩)
  simp [letOk] at this; omega
theorem extract_let {s : ByteArray} {i j : Nat} (h : ∀ k (hk : k < s.size), 97 ≤ s[k].toNat ∧ s[k].toNat ≤ 100) : ∀ k (hk : k < (s.extract i j).size), 97 ≤ (s.extract i j)[k].toNat ∧ (s.extract i j)[k].toNat ≤ 100 := by
  intro k hk
  have hk2 : i + k < s.size := by simp at hk; omega
  have := h (i + k) hk2
  rw [ByteArray.getElem_extract]
  exact this
theorem editFits_get {e : GEdit} {n : Int} (hk : inR e.kind 1 7 = true) (h : editFits e n = true) : (e.kind = 1 → e.i ≤ n) ∧ (2 ≤ e.kind → e.j ≤ n) ∧ (e.kind = 3 ∨ e.kind = 4 → e.k ≤ n ∨ e.k ≤ e.i) ∧ (e.kind = 4 → e.k ≤ e.i ∨ e.j ≤ e.k) ∧ (e.kind = 3 → e.k ≤ n) := by
  unfold editFits at h
  have h7 := kind7 hk
  split at h
  · simp at h; omega
  split at h
  · simp at h; omega
  split at h
  · simp at h; omega
  · simp at h; omega

theorem plainB_1 {s : ByteArray} {e : GEdit} {ι : Nat} (hk : e.kind = 1) (hi : e.i = ι) : plainB s e = s.extract 0 ι ++ ⟨(wordG e.part).toArray⟩ ++ s.extract ι s.size := by simp [plainB, hk, hi]
theorem plainB_2 {s : ByteArray} {e : GEdit} {ι φ : Nat} (hk : e.kind = 2) (hi : e.i = ι) (hj : e.j = φ) : plainB s e = s.extract 0 ι ++ s.extract φ s.size := by simp [plainB, hk, hi, hj]
theorem plainB_3 {s : ByteArray} {e : GEdit} {ι φ κ : Nat} (hk : e.kind = 3) (hi : e.i = ι) (hj : e.j = φ) (hkk : e.k = κ) : plainB s e = s.extract 0 κ ++ s.extract ι φ ++ s.extract κ s.size := by simp [plainB, hk, hi, hj, hkk]
theorem plainB_4a {s : ByteArray} {e : GEdit} {ι φ κ : Nat} (hk : e.kind = 4) (hi : e.i = ι) (hj : e.j = φ) (hkk : e.k = κ) (hc : κ ≤ ι) : plainB s e = s.extract 0 κ ++ s.extract ι φ ++ s.extract κ ι ++ s.extract φ s.size := by
  have : (κ : Int) ≤ ι := by omega
  simp [plainB, hk, hi, hj, hkk, this]
theorem plainB_4b {s : ByteArray} {e : GEdit} {ι φ κ : Nat} (hk : e.kind = 4) (hi : e.i = ι) (hj : e.j = φ) (hkk : e.k = κ) (hc : ¬ κ ≤ ι) : plainB s e = s.extract 0 ι ++ s.extract φ κ ++ s.extract ι φ ++ s.extract κ s.size := by
  have : ¬ (κ : Int) ≤ ι := by omega
  simp only [plainB, hk, hi, hj, hkk, this, Int.toNat_natCast]
  simp
theorem plainB_5 {s : ByteArray} {e : GEdit} {ι φ : Nat} (hk : e.kind = 5) (hi : e.i = ι) (hj : e.j = φ) : plainB s e = s.extract 0 ι ++ ⟨(s.extract ι φ).data.toList.reverse.toArray⟩ ++ s.extract φ s.size := by simp only [plainB, hk, hi, hj, Int.toNat_natCast]; simp
theorem plainB_6a {s : ByteArray} {e : GEdit} {ι φ : Nat} (hk : e.kind = 6) (hi : e.i = ι) (hj : e.j = φ) (hc : ι = φ) : plainB s e = s := by
  have : (ι : Int) = φ := by omega
  simp [plainB, hk, hi, hj, this]
theorem plainB_6b {s : ByteArray} {e : GEdit} {ι φ κ : Nat} (hk : e.kind = 6) (hi : e.i = ι) (hj : e.j = φ) (hkk : e.k = κ) (hc : ¬ ι = φ) : plainB s e = s.extract 0 ι ++ ⟨(repL (s.extract ι φ).data.toList κ).toArray⟩ ++ s.extract φ s.size := by
  have : ¬ (ι : Int) = φ := by omega
  simp only [plainB, hk, hi, hj, hkk, this, Int.toNat_natCast]
  simp
theorem plainB_7 {s : ByteArray} {e : GEdit} {ι φ : Nat} (hk : e.kind = 7) (hi : e.i = ι) (hj : e.j = φ) : plainB s e = s.extract 0 ι ++ ⟨((s.extract ι φ).data.toList.map (mapB e.map)).toArray⟩ ++ s.extract φ s.size := by simp only [plainB, hk, hi, hj, Int.toNat_natCast]; simp
set_option maxRecDepth 100000 in
set_option maxHeartbeats 4000000 in
theorem specEditPlain_any (s : ByteArray) (v : Value) (e : GEdit) (w : World) (h : EditV w w.heap.size v e) (hsm : SmallL e.part) (hn : e.part.length ≤ 1048576) (hm : e.map.size ≤ maxLen) (hs : s.size ≤ maxLen) :
    Calls Try.prog 9 #[.string s, v] w fun r w' => r = .returned (.tuple #[.string (epV s e), .int .i64 (epC s e)]) ∧ Below w.heap.size w w' := by
  obtain ⟨vR, rfl, hR⟩ := h
  have hA : ∀ c : Obj, c = Obj.cells #[.int .i64 e.kind, .int .i64 e.i, .int .i64 e.j, .int .i64 e.k, vR, .string e.map] 34 → EditAt (w.alloc c) (w.alloc c).heap.size w.heap.size e vR := by
    rintro c rfl
    exact ⟨Box6.new (Below.refl _ _), by simp, (hR.below ((Below.refl _ _).alloc (Nat.le_refl _) _)).le (by simp)⟩
  have HA := Lib.hid hA
  clear hA hR
  go_enter Try.func9, Try.ntmps9
  go_wp2_with fail
  refine (l01Ok_any s _ hs).mono ?_
  rintro r w' ⟨rfl, rfl⟩
  by_cases hw : wordOk s = true
  · have HW := Lib.hid hw
    have g0 : (!wordOk s) = false := by simp [hw]
    obtain ⟨hs2, hlet⟩ := wordOk_let hw
    have HLet := Lib.hid hlet
    clear hw hlet hs
    go_wp2_with fail
    refine (l07Ok_any _ vR e _ (HA.out _ rfl) hsm (by omega) hm).mono ?_
    rintro r w1 ⟨rfl, hb1⟩
    have E1 := Lib.hid ((HA.out _ rfl).up hb1)
    have B1 := Lib.hid (((Below.refl w.heap.size w).alloc (Nat.le_refl _) _).trans (hb1.mono (by simp)))
    clear hb1 HA g0
    by_cases he : editOk e = true
    · have HE := Lib.hid he
      have g0 : (!editOk e) = false := by simp [he]
      have hG := editOk_get he
      have HG := Lib.hid hG.1
      clear he
      go_wp2_with fail
      refine (l07Range_any _ vR e s.size _ E1.out HG.out).mono ?_
      rintro r w2 ⟨rfl, hb2⟩
      have E2 := Lib.hid (E1.out.up hb2)
      have B2 := Lib.hid (B1.out.trans (hb2.mono B1.out.size))
      clear hb2
      by_cases c3 : editFits e s.size = true
      · have C3 := Lib.hid c3
        have g3 : (!editFits e s.size) = false := by simp [c3]
        have hF := editFits_get hG.1 c3
        clear c3
        have hnn := editLen_nonneg HE.out C3.out (Int.natCast_nonneg s.size)
        go_wp2_with fail
        refine (l07Grows_any _ vR e s.size 2000 _ E2.out HE.out hsm (by omega) (Int.natCast_nonneg _) (by omega) (by omega) C3.out).mono ?_
        rintro r w3 ⟨rfl, hb3⟩
        have E3 := Lib.hid (E2.out.up hb3)
        have B3 := Lib.hid (B2.out.trans (hb3.mono B2.out.size))
        clear hb3
        by_cases c4 : editLen e s.size ≤ 2000
        · have g4 : decide (growV e s.size 2000 < 0) = false := by
            have : growV e s.size 2000 = editLen e s.size := by rw [growV, if_pos c4]
            rw [this]; simp; omega
          obtain ⟨G, hGv⟩ : ∃ G, growV e s.size 2000 = G := ⟨_, rfl⟩
          rw [hGv] at g4
          rw [hGv]
          obtain ⟨pc, pv⟩ := epC_0 HW.out HE.out C3.out c4
          have PC := Lib.hid pc
          have PV := Lib.hid pv
          have C4 := Lib.hid c4
          have HE7 := Lib.hid (fun hk => editOk_map HE.out hk)
          obtain ⟨ls, hls⟩ := (gram_lens hG.2.2.2.2.2.2).2
          have hn400 := (gram_lens hG.2.2.2.2.2.2).1
          have hwl := wordG_len hls
          have hgl : gramLen e.part = lastI ls := gramLen_of hls
          have Hls := Lib.hid hls
          have Hgl := Lib.hid hgl
          clear pc pv hGv hnn HE C3 c4 hls hgl
          obtain ⟨x0, x1, x2, x3, x4, x5⟩ := E3.out.box
          obtain ⟨ι, hι⟩ := Int.eq_ofNat_of_zero_le hG.2.1.1
          obtain ⟨φ, hφ⟩ := Int.eq_ofNat_of_zero_le hG.2.2.1.1
          obtain ⟨κ, hκ⟩ := Int.eq_ofNat_of_zero_le hG.2.2.2.1.1
          have hij := hG.2.2.2.2.1
          have hκ15 := hG.2.2.2.1.2
          rw [hκ] at hκ15
          have Hκ15 := Lib.hid hκ15
          clear hκ15
          obtain ⟨hF1, hF2, hF3, hF4, C3k⟩ := hF
          rw [hκ] at C3k
          rw [hι] at x1 hij hF1 hF3 hF4
          rw [hφ] at x2 hij hF2 hF4
          rw [hκ] at x3 hF3 hF4
          have Hι := Lib.hid hι
          have Hφ := Lib.hid hφ
          have Hκ := Lib.hid hκ
          have z3 := E3.out.lt
          clear hG hι hφ hκ
          rcases kind7 HG.out with hk | hk | hk | hk | hk | hk | hk
          · have hf := hF1 hk
            have hP := plainB_1 hk Hι.out (s := s)
            have HP := Lib.hid hP
            have hlen1 : lastI ls ≤ 2000 := by
              have h := C4.out
              rw [editLen, if_pos hk, Hgl.out] at h
              omega
            rw [hk] at x0
            clear hF1 hF2 hF3 hF4 C3k hij hk hP
            have l1 : ι ≤ s.size := by omega
            have hP0 : cutL (wordG e.part) 0 (lastI ls) = wordG e.part := cutL_all (by omega) (by omega)
            have hTl : (wordG e.part).length ≤ 2000 := by omega
            have hbds : 0 ≤ lastI ls := by omega
            have hb2000 : lastI ls - 0 ≤ 1000000 := by omega
            have HU := Lib.hid (fun (W : World) (hc : W.cell? ⟨w.heap.size, 4, none⟩ = some vR) (hlt : w.heap.size < W.heap.size) (hs : Sl RuleE W W.heap.size vR e.part) => l02Unpack_any w.heap.size 4 vR e.part ls 0 (lastI ls) W hc hlt hs hsm Hls.out hn400 (Int.le_refl 0) hbds (Int.le_refl _) hb2000)
            rw [hP0] at HU
            obtain ⟨T, hT⟩ : ∃ T, wordG e.part = T := ⟨_, rfl⟩
            rw [hT] at HU HP hTl
            have n1 : ¬ 9223372036854775807 < ι + T.length := by omega
            have n2 : ¬ 9223372036854775807 < ι + T.length + (s.size - ι) := by omega
            have HLn := Lib.hid (fun (W : World) (hc : W.cell? ⟨w.heap.size, 4, none⟩ = some vR) (hlt : w.heap.size < W.heap.size) (hs : Sl RuleE W W.heap.size vR e.part) => l02Length_any w.heap.size 4 vR e.part ls W Hls.out hc hlt hs hsm (by omega))
            have ED := Lib.hid (E3.out.sl.up (drewB (w := w3)))
            have z3d : w.heap.size < w3.drew.heap.size := z3
            clear hP0 hT hbds hb2000 hwl hlen1
            go_wp2_with fail
            have KB := And.intro (drewB (w := w3)) (And.intro (show w3.drew.cell? ⟨w.heap.size, 1, none⟩ = _ from x1) (show w3.drew.cell? ⟨w.heap.size, 4, none⟩ = _ from x4))
            go_region_held3 (fun w' => Below w3.heap.size w3 w' ∧ w'.cell? ⟨w.heap.size, 1, none⟩ = some (.int .i64 (ι : Int)) ∧ w'.cell? ⟨w.heap.size, 4, none⟩ = some vR)
              (first | (with_reducible exact KB) | (with_reducible exact keepC KB hb4 z3 z3) | (with_reducible exact keepC (keepC KB hb4 z3 z3) hb5 z3 z3))
              (first
                | (go_at_call 47; (with_reducible refine (HLn.out _ KB.2.2 z3d ED.out).mono ?_); rintro r w4 ⟨rfl, hb4⟩)
                | (go_at_call 46; (with_reducible refine (HU.out _ (keepC KB hb4 z3 z3).2.2 (Nat.lt_of_lt_of_le z3d hb4.size) (ED.out.up hb4)).mono ?_); rintro r w5 ⟨rfl, hb5⟩))
            go_wp2_with fail
            go_ret2
            exact ⟨by rw [PC.out, PV.out, HP.out]; rfl, B3.out.trans (((drewB (w := w3)).trans (hb4.trans (hb5.mono hb4.size))).mono B3.out.size)⟩
          · have hf := hF2 (by omega)
            have hi := hij (by omega)
            have hP := plainB_2 hk Hι.out Hφ.out (s := s)
            have HP := Lib.hid hP
            rw [hk] at x0
            clear hF1 hF2 hF3 hF4 hij hk hP
            have l1 : ι ≤ s.size := by omega
            have l2 : φ ≤ s.size := by omega
            go_wp2_with fail
            go_quiet (fail)
            go_wp2_with fail
            go_ret2
            exact ⟨by rw [PC.out, PV.out, HP.out]; rfl, B3.out.trans ((below_drewN (Below.refl _ _) _).mono B3.out.size)⟩
          · have hf := hF2 (by omega)
            have hi := hij (by omega)
            have hc := hF3 (by omega)
            have hP := plainB_3 hk Hι.out Hφ.out Hκ.out (s := s)
            have HP := Lib.hid hP
            rw [hk] at x0
            have l0 : κ ≤ s.size := by
              have := C3k hk
              omega
            clear hF1 hF2 hF3 hF4 hij hk hP
            have l1 : ι ≤ s.size := by omega
            have l2 : φ ≤ s.size := by omega
            have l3 : ι ≤ φ := by omega
            go_wp2_with fail
            go_quiet (fail)
            go_wp2_with fail
            go_ret2
            exact ⟨by rw [PC.out, PV.out, HP.out]; rfl, B3.out.trans ((below_drewN (Below.refl _ _) _).mono B3.out.size)⟩
          · have hf := hF2 (by omega)
            have hi := hij (by omega)
            have hc := hF3 (by omega)
            have hd := hF4 (by omega)
            rw [hk] at x0
            have l1 : ι ≤ s.size := by omega
            have l2 : φ ≤ s.size := by omega
            have l3 : ι ≤ φ := by omega
            by_cases hki : κ ≤ ι
            · have hP := plainB_4a hk Hι.out Hφ.out Hκ.out hki (s := s)
              have HP := Lib.hid hP
              have l0 : κ ≤ s.size := by omega
              clear hF1 hF2 hF3 hF4 hij hk hP hc hd
              go_wp2_with fail
              go_quiet (fail)
              go_wp2_with fail
              go_ret2
              exact ⟨by rw [PC.out, PV.out, HP.out]; rfl, B3.out.trans ((below_drewN (Below.refl _ _) _).mono B3.out.size)⟩
            · have hP := plainB_4b hk Hι.out Hφ.out Hκ.out hki (s := s)
              have HP := Lib.hid hP
              have l0 : κ ≤ s.size := by omega
              have l4 : φ ≤ κ := by omega
              clear hF1 hF2 hF3 hF4 hij hk hP hc hd
              go_wp2_with fail
              go_quiet (fail)
              go_wp2_with fail
              go_ret2
              exact ⟨by rw [PC.out, PV.out, HP.out]; rfl, B3.out.trans ((below_drewN (Below.refl _ _) _).mono B3.out.size)⟩
          · have hf := hF2 (by omega)
            have hi := hij (by omega)
            have hP := plainB_5 hk Hι.out Hφ.out (s := s)
            have HP := Lib.hid hP
            rw [hk] at x0
            clear hF1 hF2 hF3 hF4 C3k hij hk hP
            have l1 : ι ≤ s.size := by omega
            have l2 : φ ≤ s.size := by omega
            have l3 : ι ≤ φ := by omega
            obtain ⟨T, hT⟩ : ∃ T, (s.extract ι φ).data.toList.reverse = T := ⟨_, rfl⟩
            have hTl : T.length ≤ 2000 := by rw [← hT]; simp; omega
            have HT := Lib.hid (fun W => l01Turn_any (s.extract ι φ) W (by simp; omega))
            rw [hT] at HT HP
            have n1 : ¬ 9223372036854775807 < ι + T.length := by omega
            have n2 : ¬ 9223372036854775807 < ι + T.length + (s.size - φ) := by omega
            clear hT
            go_wp2_with fail
            have KB := And.intro (drewB (w := w3)) (And.intro (show w3.drew.cell? ⟨w.heap.size, 1, none⟩ = _ from x1) (And.intro (show w3.drew.cell? ⟨w.heap.size, 2, none⟩ = _ from x2) (show w3.drew.cell? ⟨w.heap.size, 3, none⟩ = _ from x3)))
            go_region_held3 (fun w' => Below w3.heap.size w3 w' ∧ w'.cell? ⟨w.heap.size, 1, none⟩ = some (.int .i64 (ι : Int)) ∧ w'.cell? ⟨w.heap.size, 2, none⟩ = some (.int .i64 (φ : Int)) ∧ w'.cell? ⟨w.heap.size, 3, none⟩ = some (.int .i64 (κ : Int)))
              (first | (with_reducible exact KB) | (with_reducible exact keepG3 KB hb4 z3 z3 z3))
              (first
                | (go_at_call 48; (with_reducible refine (HT.out _).mono ?_); rintro r w4 ⟨rfl, hb4⟩))
            go_wp2_with fail
            go_ret2
            exact ⟨by rw [PC.out, PV.out, HP.out]; rfl, B3.out.trans (((drewB (w := w3)).trans hb4).mono B3.out.size)⟩
          · have hf := hF2 (by omega)
            have hi := hij (by omega)
            have hlen6 : (φ - ι) * κ ≤ 2000 := by
              have h := C4.out
              rw [editLen, if_neg (by omega), if_neg (by omega), if_neg (by omega), if_pos hk, Hι.out, Hφ.out, Hκ.out] at h
              have e1 : ((φ : Int) - ι) * κ = (((φ - ι) * κ : Nat) : Int) := by rw [Int.natCast_mul, Int.natCast_sub (by omega)]
              rw [e1] at h
              omega
            rw [hk] at x0
            have l1 : ι ≤ s.size := by omega
            have l2 : φ ≤ s.size := by omega
            have l3 : ι ≤ φ := by omega
            have lκ : κ ≤ 1000000000000000 := by have := Hκ15.out; omega
            by_cases heq : ι = φ
            · have hP := plainB_6a hk Hι.out Hφ.out heq (s := s)
              have HP := Lib.hid hP
              have g6 : ((ι : Int) == (φ : Int)) = true := by simp [heq]
              clear hF1 hF2 hF3 hF4 C3k hij hk hP heq hlen6
              go_wp2_with fail
              go_ret2
              exact ⟨by rw [PC.out, PV.out, HP.out]; rfl, B3.out⟩
            · have hP := plainB_6b hk Hι.out Hφ.out Hκ.out heq (s := s)
              have HP := Lib.hid hP
              have g6 : ((ι : Int) == (φ : Int)) = false := by rw [beq_eq_false_iff_ne]; omega
              obtain ⟨T, hT⟩ : ∃ T, repL (s.extract ι φ).data.toList κ = T := ⟨_, rfl⟩
              have hTl : T.length ≤ 2000 := by
                rw [← hT, repL_len]
                have : (s.extract ι φ).data.toList.length = φ - ι := by simp; omega
                rw [this, Nat.mul_comm]; exact hlen6
              have HT := Lib.hid (fun W => l01Times_any (s.extract ι φ) κ W lκ (by
                have : (s.extract ι φ).size = φ - ι := by simp; omega
                rw [this, Nat.mul_comm]; exact Nat.le_trans hlen6 (by decide)) (by simp; omega))
              rw [hT] at HT HP
              have n1 : ¬ 9223372036854775807 < ι + T.length := by omega
              have n2 : ¬ 9223372036854775807 < ι + T.length + (s.size - φ) := by omega
              clear hF1 hF2 hF3 hF4 C3k hij hk hP heq hlen6 hT
              go_wp2_with fail
              have KB := And.intro (drewB (w := w3)) (And.intro (show w3.drew.cell? ⟨w.heap.size, 1, none⟩ = _ from x1) (And.intro (show w3.drew.cell? ⟨w.heap.size, 2, none⟩ = _ from x2) (show w3.drew.cell? ⟨w.heap.size, 3, none⟩ = _ from x3)))
              go_region_held3 (fun w' => Below w3.heap.size w3 w' ∧ w'.cell? ⟨w.heap.size, 1, none⟩ = some (.int .i64 (ι : Int)) ∧ w'.cell? ⟨w.heap.size, 2, none⟩ = some (.int .i64 (φ : Int)) ∧ w'.cell? ⟨w.heap.size, 3, none⟩ = some (.int .i64 (κ : Int)))
                (first | (with_reducible exact KB) | (with_reducible exact keepG3 KB hb4 z3 z3 z3))
                (first
                  | (go_at_call 49; (with_reducible refine (HT.out _).mono ?_); rintro r w4 ⟨rfl, hb4⟩))
              go_wp2_with fail
              go_ret2
              exact ⟨by rw [PC.out, PV.out, HP.out]; rfl, B3.out.trans (((drewB (w := w3)).trans hb4).mono B3.out.size)⟩
          · have hf := hF2 (by omega)
            have hi := hij (by omega)
            have hP := plainB_7 hk Hι.out Hφ.out (s := s)
            have HP := Lib.hid hP
            have hm4 := HE7.out hk
            rw [hk] at x0
            clear hF1 hF2 hF3 hF4 C3k hij hk hP
            have l1 : ι ≤ s.size := by omega
            have l2 : φ ≤ s.size := by omega
            have l3 : ι ≤ φ := by omega
            obtain ⟨T, hT⟩ : ∃ T, (s.extract ι φ).data.toList.map (mapB e.map) = T := ⟨_, rfl⟩
            have hTl : T.length ≤ 2000 := by rw [← hT]; simp; omega
            have HT := Lib.hid (fun W => l07Mapped_any (s.extract ι φ) e.map W (by simp; omega) hm4 (extract_let HLet.out))
            rw [hT] at HT HP
            have n1 : ¬ 9223372036854775807 < ι + T.length := by omega
            have n2 : ¬ 9223372036854775807 < ι + T.length + (s.size - φ) := by omega
            clear hT hm4
            go_wp2_with fail
            have KB := And.intro (drewB (w := w3)) (And.intro (show w3.drew.cell? ⟨w.heap.size, 1, none⟩ = _ from x1) (And.intro (show w3.drew.cell? ⟨w.heap.size, 2, none⟩ = _ from x2) (show w3.drew.cell? ⟨w.heap.size, 5, none⟩ = _ from x5)))
            go_region_held3 (fun w' => Below w3.heap.size w3 w' ∧ w'.cell? ⟨w.heap.size, 1, none⟩ = some (.int .i64 (ι : Int)) ∧ w'.cell? ⟨w.heap.size, 2, none⟩ = some (.int .i64 (φ : Int)) ∧ w'.cell? ⟨w.heap.size, 5, none⟩ = some (.string e.map))
              (first | (with_reducible exact KB) | (with_reducible exact keepG3 KB hb4 z3 z3 z3))
              (first
                | (go_at_call 50; (with_reducible refine (HT.out _).mono ?_); rintro r w4 ⟨rfl, hb4⟩))
            go_wp2_with fail
            go_ret2
            exact ⟨by rw [PC.out, PV.out, HP.out]; rfl, B3.out.trans (((drewB (w := w3)).trans hb4).mono B3.out.size)⟩
        · have g4 : decide (growV e s.size 2000 < 0) = true := by
            have : growV e s.size 2000 = -1 := by rw [growV, if_neg c4]
            rw [this]; simp
          obtain ⟨G, hGv⟩ : ∃ G, growV e s.size 2000 = G := ⟨_, rfl⟩
          rw [hGv] at g4
          rw [hGv]
          obtain ⟨pc, pv⟩ := epC_3 HW.out HE.out C3.out c4
          have PC := Lib.hid pc
          have PV := Lib.hid pv
          clear pc pv c4 hGv hnn hF
          go_wp2_with fail
          go_ret2
          exact ⟨by rw [PC.out, PV.out]; rfl, B3.out⟩
      · have c3' : editFits e s.size = false := by simpa using c3
        have g3 : (!editFits e s.size) = true := by simp [c3']
        obtain ⟨pc, pv⟩ := epC_2 HW.out HE.out c3'
        have PC := Lib.hid pc
        have PV := Lib.hid pv
        clear pc pv c3 c3'
        go_wp2_with fail
        go_ret2
        exact ⟨by rw [PC.out, PV.out]; rfl, B2.out⟩
    · have he' : editOk e = false := by simpa using he
      have g0 : (!editOk e) = true := by simp [he']
      obtain ⟨pc, pv⟩ := epC_1 (s := s) (e := e) (.inr he')
      have PC := Lib.hid pc
      have PV := Lib.hid pv
      clear pc pv he he'
      go_wp2_with fail
      go_ret2
      exact ⟨by rw [PC.out, PV.out]; rfl, B1.out⟩
  · have hw' : wordOk s = false := by simpa using hw
    have g0 : (!wordOk s) = true := by simp [hw']
    obtain ⟨pc, pv⟩ := epC_1 (s := s) (e := e) (.inl hw')
    have PC := Lib.hid pc
    have PV := Lib.hid pv
    clear pc pv hw hw' hs
    go_wp2_with fail
    go_ret2
    exact ⟨by rw [PC.out, PV.out]; rfl, (by repeat (first | exact Below.refl _ _ | (refine Below.alloc ?_ (by first | omega | (simp; done) | (simp; omega)) _) | refine below_drewN ?_ _ | refine Below.drew ?_))⟩
end Go.Proofs.Ytfapnipmgmpgaaa

namespace Go.Proofs
open Go.Shelf
def Ytfapnipmgmpgaaa.lays169_ren : Go.Shelf.Ren := ⟨fun | 169 => 118 | n => n, fun | 70 => 147 | 9 => 9 | 0 => 0 | 72 => 149 | 37 => 56 | 127 => 201 | 3 => 3 | 5 => 5 | n => n, fun | n => n⟩
theorem Ytfapnipmgmpgaaa.lays169 : Go.Proofs.Lays.n169 Try.prog Ytfapnipmgmpgaaa.lays169_ren := {
  mixed := by kernel_rfl
  f169 := Try.func118.trans (congrArg some (by kernel_rfl))
  t0 := Try.underlying0
  a0 := Try.isAgg0
  z0 := Try.sizeOf0
  v0 := Try.zeroValue0
  t3 := Try.underlying3
  a3 := Try.isAgg3
  z3 := Try.sizeOf3
  v3 := Try.zeroValue3
  t9 := Try.underlying9
  a9 := Try.isAgg9
  z9 := Try.sizeOf9
  v9 := Try.zeroValue9
  t37 := Try.underlying56
  a37 := Try.isAgg56
  z37 := Try.sizeOf56
  v37 := Try.zeroValue56
  t70 := Try.underlying147
  a70 := Try.isAgg147
  z70 := Try.sizeOf147
  v70 := Try.zeroValue147
  t72 := Try.underlying149
  a72 := Try.isAgg149
  z72 := Try.sizeOf149
  v72 := Try.zeroValue149
  t127 := Try.underlying201
  a127 := Try.isAgg201
  z127 := Try.sizeOf201
  v127 := Try.zeroValue201 }
theorem Ytfapnipmgmpgaaa.Builder_Extra_169 : Builder.Extra Try.prog Ytfapnipmgmpgaaa.lays169_ren := {
  sizeBuilder := by kernel_rfl
  liesBuilder := by kernel_rfl
  t5 := Try.underlying5
  a5 := Try.isAgg5
  z5 := Try.sizeOf5
  v5 := Try.zeroValue5
  infoByte := by kernel_rfl
  cellsByte := by kernel_rfl
  sizeByte := by kernel_rfl
  neB5 := by decide }
end Go.Proofs
namespace Go.Proofs.Ytfapnipmgmpgaaa
open Go.RowKit

/-- A builder that holds these bytes. -/
def BuiltB (B b : Nat) (l : List UInt8) (w : World) : Prop := Lib.IsBuilder 149 5 B b (Lib.byteCells l) w
theorem BuiltB.string {B b : Nat} {l : List UInt8} {w : World} (h : BuiltB B b l w) (hBw : B ≤ w.heap.size) :
    Calls Try.prog 118 #[.pointer (some ⟨b, 0, none⟩)] w fun e w' => e = .returned (.string ⟨l.toArray⟩) ∧ Below B w w' := Any.Builder_String_any Ytfapnipmgmpgaaa.lays169 Ytfapnipmgmpgaaa.Builder_Extra_169 B b l w h hBw
theorem Try.infoBu : (Try.prog.info? 149).map (·.size) = some 2 := by kernel_rfl
theorem Try.liesBu : liesAt Try.prog Try.prog.depth 149 (2 / Try.prog.cellsOf 149) 0 149 1 = true := by kernel_rfl
theorem Try.infoU8 : (Try.prog.info? 5).map (fun i => (i.zero, i.size, i.bytes)) = some (some (.int .u8 0), 1, 1) := by kernel_rfl

set_option maxRecDepth 100000 in
set_option maxHeartbeats 1000000 in
theorem copyCheck_used (b : Nat) (w : World) (h0 : w.cell? ⟨b, 0, none⟩ = some (.pointer (some ⟨b, 0, none⟩))) :
    Calls Try.prog 160 #[.pointer (some ⟨b, 0, none⟩)] w fun e w' => e = .returned (.tuple #[]) ∧ w' = w := by
  obtain ⟨j, hj, _⟩ := Option.map_eq_some_iff.1 Try.infoBu
  go_enter Try.func160, Try.ntmps160
  go_wp2
  rw [Lib.run_neq_ptr_same w _ Try.underlying147 hj]
  go_wp2
  go_end0
  exact ⟨rfl, rfl⟩
set_option maxRecDepth 100000 in
set_option maxHeartbeats 1000000 in
theorem copyCheck_fresh (b : Nat) (w : World) (h0 : w.cell? ⟨b, 0, none⟩ = some (.pointer none)) (hsh : w.shape? b = some (149, 2)) (hfz : w.frozen? ⟨b, 0, none⟩ = false) :
    Calls Try.prog 160 #[.pointer (some ⟨b, 0, none⟩)] w fun e w' => e = .returned (.tuple #[]) ∧ w' = w.setCell ⟨b, 0, none⟩ (.pointer (some ⟨b, 0, none⟩)) := by
  obtain ⟨j, hj, hjs⟩ := Option.map_eq_some_iff.1 Try.infoBu
  go_enter Try.func160, Try.ntmps160
  go_wp2
  rw [Lib.run_to_unsafe w ⟨b, 0, none⟩ Try.underlying147 Try.underlying213 hj (by rw [hjs]; decide) hsh (Nat.zero_lt_succ 1)]
  simp only [Result.andThen]
  rw [Oper.upon_value]
  go_wp2
  rw [run_callFunc_extern Try.func175 (by kernel_rfl) (by kernel_rfl) (by kernel_rfl) (e := Extern.AbiNoEscape.same) (by kernel_rfl)]
  rw [Lib.run_noEscape]
  simp only [Result.andThen]
  rw [Oper.upon_value]
  go_wp2
  rw [Lib.run_from_unsafe w ⟨b, 0, none⟩ Try.underlying213 Try.underlying147 hj hsh Try.liesBu]
  simp only [Result.andThen]
  rw [Oper.upon_value]
  go_wp2
  go_end0
  exact ⟨rfl, rfl⟩
theorem copyCheck_k (B b : Nat) (l : List UInt8) (w : World) (h : BuiltB B b l w) :
    Calls Try.prog 160 #[.pointer (some ⟨b, 0, none⟩)] w fun e w' => e = .returned (.tuple #[]) ∧ Lib.BuilderAt 149 5 B b (.pointer (some ⟨b, 0, none⟩)) (Lib.byteCells l) w' ∧ Below B w w' ∧ Lib.OthersKept 5 (some b) w w' := by
  rcases h with h | h
  · refine (copyCheck_fresh b w h.cell0 h.shape h.frozen0).mono ?_
    rintro e w' ⟨rfl, rfl⟩
    exact ⟨rfl, h.used _, (Below.refl B w).setCell (p := ⟨b, 0, none⟩) h.1 _, (Lib.OthersKept.refl _ _ w).setCell ⟨b, 0, none⟩ rfl _⟩
  · refine (copyCheck_used b w h.cell0).mono ?_
    rintro e w' ⟨rfl, rfl⟩
    exact ⟨rfl, h, Below.refl B _, Lib.OthersKept.refl _ _ _⟩
set_option maxRecDepth 100000 in
set_option maxHeartbeats 2000000 in
theorem writeString_any (B b : Nat) (l : List UInt8) (s : ByteArray) (w : World) (h : BuiltB B b l w) (hlen : l.length + s.size ≤ 140737488355328) (hBw : B ≤ w.heap.size) :
    Calls Try.prog 116 #[.pointer (some ⟨b, 0, none⟩), .string s] w fun e w' => e = .returned (.tuple #[.int .i64 s.size, .nilIface]) ∧ BuiltB B b (l ++ s.data.toList) w' ∧ Below B w w' ∧ Lib.OthersKept 5 (some b) w w' := by
  obtain ⟨i0, hi, hz0, hz1, hz2⟩ := info_parts Try.infoU8
  have hbl : (Lib.byteCells l).length = l.length := by simp [Lib.byteCells]
  go_enter Try.func116, Try.ntmps116
  go_wp2_with fail
  refine (copyCheck_k B b l _ h).mono ?_
  rintro e w1 ⟨rfl, h1, hb1, hk1⟩
  obtain ⟨hB, v, hbk, hown, hne⟩ := h1
  rw [hbl] at hown
  have c0 : w1.cell? ⟨b, 0, none⟩ = some (.pointer (some ⟨b, 0, none⟩)) := by simp [World.cell?, hbk]
  have c1 : w1.cell? ⟨b, 1, none⟩ = some v := by simp [World.cell?, hbk]
  go_wp2_with (at_builtin; refine Lib.wpList_append_own_string _ rfl _ _ 56 9 rfl B 5 i0 Try.underlying56 Try.underlying9 hi hz0 hz1 hz2 v l.length (Lib.byteCells l) rfl hown s rfl ?c3 ?c4 ?c5 ?_)
  case c3 => unfold maxLen; omega
  case c4 => omega
  case c5 => have := hb1.size; omega
  intro v' w2 hown' hgrow _
  have hlt : b < w1.heap.size := (Array.getElem?_eq_some_iff.1 hbk).1
  have hb2 : w2.heap[b]? = some (.cells #[.pointer (some ⟨b, 0, none⟩), v] 149 (0, 0)) := by
    rw [hgrow.block b hlt (fun e => hne e.symm)]
    exact hbk
  have d0 : w2.cell? ⟨b, 0, none⟩ = some (.pointer (some ⟨b, 0, none⟩)) := by simp [World.cell?, hb2]
  have d1 : w2.cell? ⟨b, 1, none⟩ = some v := by simp [World.cell?, hb2]
  have f1 : w2.frozen? ⟨b, 1, none⟩ = false := by simp [World.frozen?, hb2]
  obtain ⟨ao, cap, rfl, _⟩ := own_nil hown'
  go_wp2
  go_ret2
  refine ⟨rfl, .inr ?_, ?_, (hk1.grown hgrow ?_).setCell ⟨b, 1, none⟩ rfl _⟩
  · have e : Lib.byteCells (l ++ s.data.toList) = Lib.byteCells l ++ Lib.strCells s := by simp [Lib.byteCells, Lib.strCells]
    rw [e]
    exact Lib.BuilderAt.put hB hb2 (bs' := Lib.byteCells l ++ Lib.strCells s) (by rw [show (Lib.byteCells l ++ Lib.strCells s).length = l.length + s.size by rw [List.length_append, hbl, Lib.strCells_length]]; exact hown') (by decide)
  · exact (hb1.grown hgrow (by have := hb1.size; omega) (fun k hk => (World.ownsRow.lt hown k hk).1)).setCell (p := ⟨b, 1, none⟩) hB _
  · intro g hg
    rcases hown.2 with ⟨rfl, _⟩ | ⟨g', cap', cur, rfl, _, hb', _⟩
    · cases hg
    · have : g' = g := by simpa [Value.ownBlock] using hg
      subst this; exact ⟨cur, _, hb'⟩
end Go.Proofs.Ytfapnipmgmpgaaa

namespace Go.Proofs
open Go.Shelf
def Ytfapnipmgmpgaaa.lays241_ren : Go.Shelf.Ren := ⟨fun | 241 => 161 | 277 => 176 | n => n, fun | 0 => 0 | 3 => 3 | 5 => 5 | 37 => 56 | 70 => 147 | 72 => 149 | n => n, fun | n => n⟩
theorem Ytfapnipmgmpgaaa.lays241 : Go.Proofs.Lays.n241 Try.prog Ytfapnipmgmpgaaa.lays241_ren := {
  mixed := by kernel_rfl
  f241 := Try.func161.trans (congrArg some (by kernel_rfl))
  f277 := Try.func176.trans (congrArg some (by kernel_rfl))
  t0 := Try.underlying0
  a0 := Try.isAgg0
  z0 := Try.sizeOf0
  v0 := Try.zeroValue0
  t3 := Try.underlying3
  a3 := Try.isAgg3
  z3 := Try.sizeOf3
  v3 := Try.zeroValue3
  t37 := Try.underlying56
  a37 := Try.isAgg56
  z37 := Try.sizeOf56
  v37 := Try.zeroValue56
  t70 := Try.underlying147
  a70 := Try.isAgg147
  z70 := Try.sizeOf147
  v70 := Try.zeroValue147
  t72 := Try.underlying149
  a72 := Try.isAgg149
  z72 := Try.sizeOf149
  v72 := Try.zeroValue149 }
theorem Ytfapnipmgmpgaaa.Builder_Extra_241 : Builder.Extra Try.prog Ytfapnipmgmpgaaa.lays241_ren := {
  sizeBuilder := by kernel_rfl
  liesBuilder := by kernel_rfl
  t5 := Try.underlying5
  a5 := Try.isAgg5
  z5 := Try.sizeOf5
  v5 := Try.zeroValue5
  infoByte := by kernel_rfl
  cellsByte := by kernel_rfl
  sizeByte := by kernel_rfl
  neB5 := by decide }
def Ytfapnipmgmpgaaa.lays170_ren : Go.Shelf.Ren := ⟨fun | 170 => 117 | n => n, fun | 0 => 0 | 3 => 3 | 5 => 5 | 37 => 56 | 70 => 147 | 72 => 149 | n => n, fun | n => n⟩
theorem Ytfapnipmgmpgaaa.lays170 : Go.Proofs.Lays.n170 Try.prog Ytfapnipmgmpgaaa.lays170_ren := {
  mixed := by kernel_rfl
  f170 := Try.func117.trans (congrArg some (by kernel_rfl))
  t0 := Try.underlying0
  a0 := Try.isAgg0
  z0 := Try.sizeOf0
  v0 := Try.zeroValue0
  t3 := Try.underlying3
  a3 := Try.isAgg3
  z3 := Try.sizeOf3
  v3 := Try.zeroValue3
  t37 := Try.underlying56
  a37 := Try.isAgg56
  z37 := Try.sizeOf56
  v37 := Try.zeroValue56
  t70 := Try.underlying147
  a70 := Try.isAgg147
  z70 := Try.sizeOf147
  v70 := Try.zeroValue147
  t72 := Try.underlying149
  a72 := Try.isAgg149
  z72 := Try.sizeOf149
  v72 := Try.zeroValue149 }
def Ytfapnipmgmpgaaa.lays212_ren : Go.Shelf.Ren := ⟨fun | 212 => 113 | 263 => 157 | 264 => 158 | n => n, fun | 46 => 143 | 51 => 196 | 53 => 178 | 146 => 197 | 148 => 199 | n => n, fun | n => n⟩
theorem Ytfapnipmgmpgaaa.lays212 : Go.Proofs.Lays.n212 Try.prog Ytfapnipmgmpgaaa.lays212_ren := {
  mixed := by kernel_rfl
  f212 := Try.func113.trans (congrArg some (by kernel_rfl))
  f263 := Try.func157.trans (congrArg some (by kernel_rfl))
  f264 := Try.func158.trans (congrArg some (by kernel_rfl))
  t46 := Try.underlying143
  a46 := Try.isAgg143
  z46 := Try.sizeOf143
  v46 := Try.zeroValue143
  t51 := Try.underlying196
  a51 := Try.isAgg196
  z51 := Try.sizeOf196
  v51 := Try.zeroValue196
  t53 := Try.underlying178
  a53 := Try.isAgg178
  z53 := Try.sizeOf178
  v53 := Try.zeroValue178
  t146 := Try.underlying197
  a146 := Try.isAgg197
  z146 := Try.sizeOf197
  v146 := Try.zeroValue197
  t148 := Try.underlying199
  a148 := Try.isAgg199
  z148 := Try.sizeOf199
  v148 := Try.zeroValue199 }
end Go.Proofs
namespace Go.Proofs.Ytfapnipmgmpgaaa
open Go.RowKit

/-- A builder that String has read, maybe. -/
def BuiltF (B b : Nat) (l : List UInt8) (w : World) : Prop := Lib.IsBuilderF 149 5 B b (Lib.byteCells l) w
theorem copyCheck_f (B b : Nat) (bs : List Value) (w : World) (h : Lib.IsBuilderF 149 5 B b bs w) :
    Calls Try.prog 160 #[.pointer (some ⟨b, 0, none⟩)] w fun e w' => e = .returned (.tuple #[]) ∧ Lib.BuilderAtF 149 5 B b (.pointer (some ⟨b, 0, none⟩)) bs w' ∧ Below B w w' := by
  rcases h with h | h
  · refine (copyCheck_fresh b w h.cell0 h.shape h.frozen0).mono ?_
    rintro e w' ⟨rfl, rfl⟩
    exact ⟨rfl, h.used _, (Below.refl B w).setCell (p := ⟨b, 0, none⟩) h.1 _⟩
  · refine (copyCheck_used b w h.cell0).mono ?_
    rintro e w' ⟨rfl, rfl⟩
    exact ⟨rfl, h, Below.refl B _⟩
set_option maxRecDepth 100000 in
set_option maxHeartbeats 2000000 in
theorem writeString_f (B b : Nat) (l : List UInt8) (s : ByteArray) (w : World) (h : BuiltF B b l w) (hlen : l.length + s.size ≤ 140737488355328) (hBw : B ≤ w.heap.size) :
    Calls Try.prog 116 #[.pointer (some ⟨b, 0, none⟩), .string s] w fun e w' => e = .returned (.tuple #[.int .i64 s.size, .nilIface]) ∧ BuiltF B b (l ++ s.data.toList) w' ∧ Below B w w' := by
  obtain ⟨i0, hi, hz0, hz1, hz2⟩ := info_parts Try.infoU8
  have hbl : (Lib.byteCells l).length = l.length := by simp [Lib.byteCells]
  go_enter Try.func116, Try.ntmps116
  go_wp2_with fail
  refine (copyCheck_f B b _ _ h).mono ?_
  rintro e w1 ⟨rfl, h1, hb1⟩
  obtain ⟨hB, v, hbk, hown, hne⟩ := h1
  rw [hbl] at hown
  have c0 : w1.cell? ⟨b, 0, none⟩ = some (.pointer (some ⟨b, 0, none⟩)) := by rw [Lib.cell_of_heap hbk]; rfl
  have c1 : w1.cell? ⟨b, 1, none⟩ = some v := by rw [Lib.cell_of_heap hbk]; rfl
  go_wp2_with (at_builtin; refine Lib.wpList_append_own_stringF _ rfl _ _ 56 9 rfl B 5 i0 Try.underlying56 Try.underlying9 hi hz0 hz1 hz2 v l.length (Lib.byteCells l) rfl hown s rfl ?c3 ?c4 ?c5 ?_)
  case c3 => unfold maxLen; omega
  case c4 => omega
  case c5 => have := hb1.size; omega
  intro v' w2 hown' hgrow _
  have hlt : b < w1.heap.size := (Array.getElem?_eq_some_iff.1 hbk).1
  have hb2 : w2.heap[b]? = some (.cells #[.pointer (some ⟨b, 0, none⟩), v] 149 (0, 0)) := by
    rw [hgrow.block b hlt (fun e => hne e.symm)]
    exact hbk
  have d0 : w2.cell? ⟨b, 0, none⟩ = some (.pointer (some ⟨b, 0, none⟩)) := by rw [Lib.cell_of_heap hb2]; rfl
  have d1 : w2.cell? ⟨b, 1, none⟩ = some v := by rw [Lib.cell_of_heap hb2]; rfl
  have f1 : w2.frozen? ⟨b, 1, none⟩ = false := Lib.frozen_of_heap hb2 1
  obtain ⟨ao, n', cap, rfl⟩ : ∃ ao n' cap, v' = .slice ao n' cap := by
    rcases hown'.2 with ⟨hv, _⟩ | ⟨g, cap, cur, fz, hv, _⟩
    · exact ⟨_, _, _, hv⟩
    · exact ⟨_, _, _, hv⟩
  go_wp2
  go_ret2
  refine ⟨rfl, .inr ?_, ?_⟩
  · have e : Lib.byteCells (l ++ s.data.toList) = Lib.byteCells l ++ Lib.strCells s := by simp [Lib.byteCells, Lib.strCells]
    rw [e]
    exact Lib.BuilderAtF.put hB hb2 (bs' := Lib.byteCells l ++ Lib.strCells s) (by rw [show (Lib.byteCells l ++ Lib.strCells s).length = l.length + s.size by rw [List.length_append, hbl, Lib.strCells_length]]; exact hown') (by decide)
  · exact (hb1.grown hgrow (by have := hb1.size; omega) (fun k hk => (hown.lt k hk).1)).setCell (p := ⟨b, 1, none⟩) hB _
set_option maxRecDepth 100000 in
set_option maxHeartbeats 2000000 in
theorem grow_fresh (B b n : Nat) (w : World) (hB : B ≤ b) (hbk : w.heap[b]? = some (.cells #[.pointer none, .slice none 0 0] 149 (0, 0))) (hBw : B ≤ w.heap.size) (hn : n ≤ 281474976710656) :
    Calls Try.prog 115 #[.pointer (some ⟨b, 0, none⟩), .int .i64 n] w fun e w' => e = .returned (.tuple #[]) ∧ BuiltF B b [] w' ∧ Below B w w' := by
  have hbk1 : (w.setCell ⟨b, 0, none⟩ (.pointer (some ⟨b, 0, none⟩))).heap[b]? = some (.cells #[.pointer (some ⟨b, 0, none⟩), .slice none 0 0] 149 (0, 0)) := by
    simp [World.setCell, Array.getElem?_modify, hbk]
  have c1 : (w.setCell ⟨b, 0, none⟩ (.pointer (some ⟨b, 0, none⟩))).cell? ⟨b, 1, none⟩ = some (.slice none 0 0) := by rw [Lib.cell_of_heap hbk1]; rfl
  have hb1 : Below B w (w.setCell ⟨b, 0, none⟩ (.pointer (some ⟨b, 0, none⟩))) := (Below.refl B w).setCell (p := ⟨b, 0, none⟩) hB _
  go_enter Try.func115, Try.ntmps115
  have hU : Lib.BuilderAt 149 5 B b (.pointer (some ⟨b, 0, none⟩)) [] (w.setCell ⟨b, 0, none⟩ (.pointer (some ⟨b, 0, none⟩))) := ⟨hB, .slice none 0 0, hbk1, World.ownsRow_nil _ _ _ _, by simp [Value.ownBlock]⟩
  have c1' : (w.setCell ⟨b, 0, none⟩ (.pointer (some ⟨b, 0, none⟩))).drew.cell? ⟨b, 1, none⟩ = some (.slice none 0 0) := c1
  have k0 : w.cell? ⟨b, 0, none⟩ = some (.pointer none) := by rw [Lib.cell_of_heap hbk]; rfl
  have k1 : w.shape? b = some (149, 2) := by simp [World.shape?, hbk]
  have k2 : w.frozen? ⟨b, 0, none⟩ = false := Lib.frozen_of_heap hbk 0
  go_wp2_with fail
  refine (copyCheck_fresh b w k0 k1 k2).mono ?_
  rintro e w' ⟨rfl, rfl⟩
  go_wp2_with fail
  have hmix := Ytfapnipmgmpgaaa.lays241.mixed
  have hBw2 : B ≤ (w.setCell ⟨b, 0, none⟩ (.pointer (some ⟨b, 0, none⟩))).drew.heap.size := Nat.le_trans hBw hb1.size
  have cG : Calls Try.prog 161 #[.pointer (some ⟨b, 0, none⟩), .int .i64 n] _ _ := Any.Builder_grow_fresh Ytfapnipmgmpgaaa.lays241 Ytfapnipmgmpgaaa.Builder_Extra_241 B b n (w.setCell ⟨b, 0, none⟩ (.pointer (some ⟨b, 0, none⟩))).drew hB hbk1 hBw2 hn
  go_region_o
  all_goals go_wp2_with fail
  · refine cG.mono ?_
    rintro e w' ⟨rfl, h1, h2⟩
    go_wp2_with fail
    go_end0
    exact ⟨rfl, Lib.IsBuilderF.of (Or.inr h1), hb1.drew.trans h2⟩
  · go_end0
    exact ⟨rfl, Lib.IsBuilderF.of (Or.inr hU.drew), hb1.drew⟩
theorem BuiltF.len {B b : Nat} {l : List UInt8} {w : World} (h : BuiltF B b l w) : Calls Try.prog 117 #[.pointer (some ⟨b, 0, none⟩)] w fun e w' => e = .returned (.int .i64 l.length) ∧ w' = w := by
  have := Any.Builder_Len_f Ytfapnipmgmpgaaa.lays170 B b _ w h
  rw [Lib.byteCells_length] at this
  exact this
theorem BuiltF.string {B b : Nat} {l : List UInt8} {w : World} (h : BuiltF B b l w) (hBw : B ≤ w.heap.size) : Calls Try.prog 118 #[.pointer (some ⟨b, 0, none⟩)] w fun e w' => e = .returned (.string ⟨l.toArray⟩) ∧ BuiltF B b l w' ∧ Below B w w' :=
  Any.Builder_String_any_f Ytfapnipmgmpgaaa.lays169 Ytfapnipmgmpgaaa.Builder_Extra_169 B b l w h hBw
theorem bits_mul (x y : Nat) (hx : x < 18446744073709551616) (hy : y < 18446744073709551616) (hxy : x * y < 18446744073709551616) (w : World) :
    Calls Try.prog 113 #[.int .u64 x, .int .u64 y] w fun e w' => e = .returned (.tuple #[.int .u64 0, .int .u64 ((x * y : Nat) : Int)]) ∧ w' = w := by
  have := Any.bits_Mul Ytfapnipmgmpgaaa.lays212 x y hx hy w
  rw [Nat.div_eq_of_lt hxy, Nat.mod_eq_of_lt hxy] at this
  exact this
theorem min_int3 {P : Program} {w : World} (ts : Array TypeId) (t : TypeId) (k k' k'' : IntKind) (x y z : Int) :
    (Builtin.min_ ts t #[.int k x, .int k' y, .int k'' z]).run P w = .ok (.int k (if z < (if y < x then y else x) then z else (if y < x then y else x))) w := by
  simp [Builtin.min_, Builtin.min2]
theorem repeatL_eq (l : List UInt8) : ∀ k, Lib.repeatL l k = repL l k
  | 0 => rfl
  | k + 1 => by rw [Lib.repeatL, repeatL_eq l k, repL, repL, List.replicate_succ, List.flatten_cons]
/-- The chunks: a whole number of words. -/
theorem repL_chunk (l : List UInt8) (q k : Nat) (hk : k ≤ q) : repL l q ++ (repL l q).take (k * l.length) = repL l (q + k) := by
  rw [← repeatL_eq, ← repeatL_eq]; exact Lib.step_ok l q k hk
end Go.Proofs.Ytfapnipmgmpgaaa

namespace Go.Proofs.Ytfapnipmgmpgaaa
open Go.RowKit

set_option maxRecDepth 100000 in
set_option maxHeartbeats 4000000 in
theorem repeat_main (s : ByteArray) (c : Nat) (w : World) (hc2 : 2 ≤ c) (hc : c ≤ 1000000000000000) (hlen : s.size * c ≤ 1000000) (h0 : 0 < s.size) (hl : 97 ≤ s[0].toNat) :
    Calls Try.prog 58 #[.string s, .int .i64 c] w fun e w' => e = .returned (.string ⟨(repL s.data.toList c).toArray⟩) ∧ Below w.heap.size w w' := by
  have hsz : s.size ≤ 1000000 := Nat.le_trans (Nat.le_mul_of_pos_right _ (by omega)) hlen
  have hMul := bits_mul s.size c (by omega) (by omega) (by omega) w
  obtain ⟨n, hn⟩ : ∃ n, s.size * c = n := ⟨_, rfl⟩
  rw [hn] at hMul hlen
  have HN : Hid (s.size * c = n) := hn
  clear hn
  have hq8 : wrap64 (8192 / (s.size : Int) * (s.size : Int)) = ((8192 / s.size * s.size : Nat) : Int) := by
    have e : (8192 : Int) / (s.size : Int) * (s.size : Int) = ((8192 / s.size * s.size : Nat) : Int) := by
      rw [Int.natCast_mul, Int.natCast_ediv]
      rfl
    have hle : 8192 / s.size * s.size ≤ 8192 := Nat.div_mul_le_self 8192 s.size
    rw [e]
    unfold wrap64
    omega
  go_enter Try.func58, Try.ntmps58
  go_upto_block 1 with (go_at_call 113; go_fit hMul; rintro e w' ⟨rfl, hw⟩; rw [hw])
  clear hMul
  go_cut [] (fun wx => w = wx)
  case first =>
    go_upto_if 43 with fail
    go_cut [43] (fun s43 wx => w = wx ∧ s43 = .bool false)
    case first =>
      go_wp2
      all_goals first
        | (exfalso; omega)
        | (go_meet; exact ⟨rfl, by first | rfl | (congr 1; rw [beq_eq_false_iff_ne]; omega)⟩)
    case rest =>
      obtain ⟨rfl, rfl⟩ := hcut
      go_wp2
      go_meet
      rfl
  case rest =>
    obtain rfl := hcut
    go_upto_if 96 with fail
    go_cut [8] (fun s8 wx => w = wx ∧ ∃ m : Nat, 1 ≤ m ∧ s8 = .int .i64 ((m * s.size : Nat) : Int))
    case first =>
      go_wp2
      · go_meet
        exact ⟨rfl, 1, Nat.le_refl _, by rw [Nat.one_mul]⟩
      · go_meet
        refine ⟨rfl, 8192 / s.size, ?_, by rw [hq8]⟩
        rcases Nat.eq_zero_or_pos (8192 / s.size) with hz | hz
        · rename_i hne
          have e0 : (8192 : Int) / (s.size : Int) = ((8192 / s.size : Nat) : Int) := by rw [Int.natCast_ediv]; rfl
          first | rw [hq8, hz] at hne | rw [e0, hz] at hne
          simp at hne
        · exact hz
      · go_meet
        exact ⟨rfl, c, by omega, by rw [Nat.mul_comm, HN.out]⟩
    case rest =>
      obtain ⟨rfl, m, hm1, rfl⟩ := hcut
      clear hq8
      obtain ⟨CM, hCM⟩ : ∃ CM, m * s.size = CM := ⟨_, rfl⟩
      rw [hCM]
      have HCM : Hid (m * s.size = CM) := hCM
      clear hCM
      have b0 : Below w.heap.size w (w.alloc (.cells #[.pointer none, .slice none 0 0] 149)) := (Below.refl _ w).alloc (Nat.le_refl _) _
      have cG := grow_fresh w.heap.size w.heap.size n (w.alloc (.cells #[.pointer none, .slice none 0 0] 149)) (Nat.le_refl _) (heap_alloc_new w _) b0.size (by omega)
      go_wp2_with (go_at_call 115; go_fit cG; rintro e W1 ⟨rfl, h1, b1⟩)
      clear cG
      have cW := writeString_f w.heap.size w.heap.size [] s W1 h1 (by simp; omega) (Nat.le_trans b0.size b1.size)
      go_wp2_with (go_at_call 116; go_fit cW; rintro e W2 ⟨rfl, h2, b2⟩)
      clear cW h1
      have h2' : BuiltF w.heap.size w.heap.size (repL s.data.toList 1) W2 := by
        rw [repL_succ, repL_zero]
        exact h2
      have b02 : Below w.heap.size w W2 := b0.trans (b1.trans b2)
      clear h2 b0 b1 b2
      go_loopg [] (c - 1) (fun g wx => ∃ q : Nat, 1 ≤ q ∧ q + g = c ∧ BuiltF w.heap.size w.heap.size (repL s.data.toList q) wx ∧ Below w.heap.size w wx)
      case atStart => exact ⟨1, Nat.le_refl _, by omega, h2', b02⟩
      case round =>
        obtain ⟨q, hq1, hqg, hB, hbx⟩ := hrel
        obtain ⟨Q, hQ⟩ : ∃ Q, q * s.size = Q := ⟨_, rfl⟩
        have hlq : (repL s.data.toList q).length = Q := by rw [repL_len, ← Lib.size_eq, hQ]
        have cLen := hB.len
        rw [hlq] at cLen
        have hnc : c * s.size = n := by rw [Nat.mul_comm]; exact HN.out
        obtain ⟨S, hS⟩ : ∃ S : ByteArray, (⟨(repL s.data.toList q).toArray⟩ : ByteArray) = S := ⟨_, rfl⟩
        have hSd : S.data.toList = repL s.data.toList q := by rw [← hS]
        have hSz : S.size = Q := by rw [Lib.size_eq, hSd, repL_len, ← Lib.size_eq, hQ]
        have cStr := hB.string hbx.size
        rw [hS] at cStr
        cases gk with
        | zero =>
          obtain rfl : q = c := by omega
          have hQn : ¬ ((Q : Int) < (n : Int)) := by omega
          go_wp2_with (first
            | (go_at_call 117; go_fit cLen; rintro e w' ⟨rfl, hw⟩; rw [hw])
            | (go_at_call 118; go_fit cStr; rintro e W3 ⟨rfl, h3, b3⟩))
          go_ret
          exact ⟨by rw [hS] <;> rfl, hbx.trans b3⟩
        | succ g =>
          have hqc : q < c := by omega
          obtain ⟨k, hk1, hkq, hkc, hmin⟩ := Lib.chunk_ok c q m s.size hq1 hqc hm1
          rw [hnc, hQ, HCM.out] at hmin
          obtain ⟨CH, hCH⟩ : ∃ CH, k * s.size = CH := ⟨_, rfl⟩
          rw [hCH] at hmin
          have hQn : (Q : Int) < (n : Int) := by
            have h1 : (q + 1) * s.size ≤ c * s.size := Nat.mul_le_mul_right _ hqc
            rw [Nat.succ_mul, hQ, hnc] at h1
            omega
          have hCHQ : CH ≤ Q := by rw [← hCH, ← hQ]; exact Nat.mul_le_mul_right _ hkq
          have hsum : Q + CH ≤ n := by
            have h1 : (q + k) * s.size ≤ c * s.size := Nat.mul_le_mul_right _ hkc
            rw [Nat.add_mul, hQ, hCH, hnc] at h1
            exact h1
          have hmin3 : ∀ (ts : Array TypeId) (t : TypeId) (W : World), (Builtin.min_ ts t #[.int .i64 ((n : Int) - (Q : Int)), .int .i64 (Q : Int), .int .i64 (CM : Int)]).run Try.prog W = .ok (.int .i64 (CH : Int)) W := fun ts t W => by
            rw [min_int3]
            congr 2
            rw [← hmin]
            omega
          clear hmin
          go_wp2_with (first
            | (go_at_call 117; go_fit cLen; rintro e w' ⟨rfl, hw⟩; rw [hw])
            | (go_at_call 118; go_fit cStr; rintro e W3 ⟨rfl, h3, b3⟩))
          have cWr := writeString_f w.heap.size w.heap.size _ (S.extract 0 CH) W3 h3 (by
            rw [hlq, Lib.size_eq, Lib.extract_data, hSd]
            simp only [List.drop_zero, Nat.sub_zero, List.length_take, repL_len]
            omega) (Nat.le_trans hbx.size b3.size)
          go_wp2_with (go_at_call 116; go_fit cWr; rintro e W4 ⟨rfl, h4, b4⟩)
          go_roundg (c - (q + k))
          case measure => omega
          case rel =>
            refine ⟨q + k, by omega, by omega, ?_, hbx.trans (b3.trans b4)⟩
            rw [Lib.extract_data, hSd] at h4
            simp only [List.drop_zero, Nat.sub_zero] at h4
            rw [← hCH, Lib.size_eq, repL_chunk _ _ _ hkq] at h4
            exact h4
set_option maxRecDepth 100000 in
theorem repeat_any (s : ByteArray) (c : Nat) (w : World) (hc : c ≤ 1000000000000000) (hlen : s.size * c ≤ 1000000) (h0 : c = 0 ∨ (0 < s.size ∧ ∀ (h : 0 < s.size), 97 ≤ s[0].toNat)) :
    Calls Try.prog 58 #[.string s, .int .i64 c] w fun e w' => e = .returned (.string ⟨(repL s.data.toList c).toArray⟩) ∧ Below w.heap.size w w' := by
  match c, hc, hlen, h0 with
  | 0, _, _, _ =>
    go_enter Try.func58, Try.ntmps58
    go_wp2
    go_ret
    exact ⟨rfl, Below.refl _ _⟩
  | 1, _, _, _ =>
    have e1 : (⟨(repL s.data.toList 1).toArray⟩ : ByteArray) = s := by rw [repL_succ, repL_zero, List.nil_append]
    rw [e1]
    go_enter Try.func58, Try.ntmps58
    go_wp2
    go_ret
    exact ⟨rfl, Below.refl _ _⟩
  | c + 2, hc, hlen, h0 =>
    rcases h0 with h0 | ⟨h0, h1⟩
    · omega
    · exact repeat_main s (c + 2) w (by omega) hc hlen h0 (h1 h0)
end Go.Proofs.Ytfapnipmgmpgaaa

