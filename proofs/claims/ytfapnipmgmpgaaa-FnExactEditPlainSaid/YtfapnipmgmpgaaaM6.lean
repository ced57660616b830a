import Derived.Test.YtfapnipmgmpgaaaM4
import Derived.Test.YtfapnipmgmpgaaaM5
namespace Go.Proofs.Ytfapnipmgmpgaaa
open Go.RowKit

set_option maxRecDepth 100000 in
theorem l07Less_any (b : Nat) (vR : Value) (e : GEdit) (p : Int) (w : World) (h : EditAt w w.heap.size b e vR) (hp : 0 ≤ p ∧ p ≤ 1000000000000000) (hi : 0 ≤ e.i ∧ e.i ≤ 1000000000000000) (hj : 0 ≤ e.j ∧ e.j ≤ 1000000000000000) :
    Calls Try.prog 120 #[.pointer (some ⟨b, 0, none⟩), .int .i64 p] w fun r w' => r = .returned (.int .i64 (lessP e p)) ∧ Below w.heap.size w w' := by
  obtain ⟨k, i, j, kk, part, map⟩ := e
  obtain ⟨⟨x0, x1, x2, x3, x4, x5⟩, hlt, _⟩ := h
  simp only at x0 x1 x2 x3 x4 x5 hi hj
  have wji : IntKind.i64.wrap (j - i) = j - i := IntWalk.i64_in _ (by omega)
  have wp : IntKind.i64.wrap (p - (j - i)) = p - (j - i) := IntWalk.i64_in _ (by omega)
  by_cases c1 : p ≤ i
  · go_enter Try.func120, Try.ntmps120
    go_wp2_with fail
    go_ret
    exact ⟨ret_int (by simp [lessP, c1]), (by repeat (first | exact Below.refl _ _ | (refine Below.alloc ?_ (by first | omega | (simp; done) | (simp; omega)) _) | refine below_drewN ?_ _ | refine Below.drew ?_))⟩
  · have g1 : decide (p ≤ i) = false := by simp; omega
    by_cases c2 : p < j
    · have C1 := Lib.hid c1
      go_enter Try.func120, Try.ntmps120
      go_wp2_with fail
      go_ret
      exact ⟨ret_int (by unfold lessP; rw [if_neg (by simp only; have := of_decide_eq_false g1; exact this), if_pos c2]), (by repeat (first | exact Below.refl _ _ | (refine Below.alloc ?_ (by first | omega | (simp; done) | (simp; omega)) _) | refine below_drewN ?_ _ | refine Below.drew ?_))⟩
    · have g2 : decide (p < j) = false := by simp; omega
      go_enter Try.func120, Try.ntmps120
      go_wp2_with fail
      try go_quiet (fail)
      go_wp2_with fail
      go_ret
      exact ⟨ret_int (by unfold lessP; rw [if_neg (of_decide_eq_false g1), if_neg (of_decide_eq_false g2)]), (by repeat (first | exact Below.refl _ _ | (refine Below.alloc ?_ (by first | omega | (simp; done) | (simp; omega)) _) | refine below_drewN ?_ _ | refine Below.drew ?_))⟩

def growV (e : GEdit) (n m : Int) : Int := if editLen e n ≤ m then editLen e n else -1
set_option maxRecDepth 100000 in
set_option maxHeartbeats 4000000 in
theorem l07Grows_any (b : Nat) (vR : Value) (e : GEdit) (n m : Int) (w : World) (h : EditAt w w.heap.size b e vR) (he : editOk e = true) (hsm : SmallL e.part) (hn : e.part.length ≤ 1099511627776) (hn0 : 0 ≤ n) (hn1 : n ≤ m) (hm : m ≤ 1000000000000000) (hf : editFits e n = true) :
    Calls Try.prog 45 #[.pointer (some ⟨b, 0, none⟩), .int .i64 n, .int .i64 m] w fun r w' => r = .returned (.int .i64 (growV e n m)) ∧ Below w.heap.size w w' := by
  obtain ⟨g1, g2, g3, g4, g5, g6, g7⟩ := editOk_get he
  clear he
  obtain ⟨k, i, j, kk, part, map⟩ := e
  have HH := Lib.hid h
  obtain ⟨⟨x0, x1, x2, x3, x4, x5⟩, hlt, hR⟩ := h
  have HR := Lib.hid hR
  simp only at g1 g2 g3 g4 g5 g6 g7 hn hsm x0 x1 x2 x3 x4 x5
  have hlb := gramLen_bounds part
  obtain ⟨_, ls, hl⟩ := gram_lens g7
  have Hl := Lib.hid hl
  have hgl := gramLen_of hl
  have wji : IntKind.i64.wrap (j - i) = j - i := IntWalk.i64_in _ (by omega)
  have Hf := Lib.hid hf
  clear hl g7 hf hR
  rcases kind7 g1 with rfl | rfl | rfl | rfl | rfl | rfl | rfl
  · have wn : IntKind.i64.wrap (n + lastI ls) = n + lastI ls := IntWalk.i64_in _ (by omega)
    have HG := Lib.hid hgl
    clear hgl
    by_cases c : n + lastI ls ≤ m
    · have c' : ¬ (m < n + lastI ls) := by omega
      have HC := Lib.hid c
      clear c
      go_enter Try.func45, Try.ntmps45
      go_wp2_with fail
      refine (l02Length_any b 4 _ part ls _ Hl.out x4 hlt HR.out hsm hn).mono ?_
      rintro r w1 ⟨rfl, hb1⟩
      go_wp2_with fail
      go_ret
      exact ⟨ret_int (by simp [growV, editLen, HG.out, HC.out]), hb1⟩
    · have c' : m < n + lastI ls := by omega
      have HC := Lib.hid c
      clear c
      go_enter Try.func45, Try.ntmps45
      go_wp2_with fail
      refine (l02Length_any b 4 _ part ls _ Hl.out x4 hlt HR.out hsm hn).mono ?_
      rintro r w1 ⟨rfl, hb1⟩
      go_wp2_with fail
      go_ret
      exact ⟨ret_int (by rw [growV, if_neg (by simpa [editLen, HG.out] using HC.out)]), hb1⟩
  · have hij := g5 (by omega)
    have wn : IntKind.i64.wrap (n - (j - i)) = n - (j - i) := IntWalk.i64_in _ (by omega)
    have c' : ¬ (m < n - (j - i)) := by omega
    have HC := Lib.hid (show n - (j - i) ≤ m by omega)
    go_enter Try.func45, Try.ntmps45
    go_wp2_with fail
    go_quiet (fail)
    go_wp2_with fail
    go_ret
    exact ⟨ret_int (by simp [growV, editLen, HC.out]), (by repeat (first | exact Below.refl _ _ | (refine Below.alloc ?_ (by first | omega | (simp; done) | (simp; omega)) _) | refine below_drewN ?_ _ | refine Below.drew ?_))⟩
  · have hij := g5 (by omega)
    have wn : IntKind.i64.wrap (n + (j - i)) = n + (j - i) := IntWalk.i64_in _ (by omega)
    by_cases c : n + (j - i) ≤ m
    · have c' : ¬ (m < n + (j - i)) := by omega
      have HC := Lib.hid c
      clear c
      go_enter Try.func45, Try.ntmps45
      go_wp2_with fail
      go_quiet (fail)
      go_wp2_with fail
      go_ret
      exact ⟨ret_int (by simp [growV, editLen, HC.out]), (by repeat (first | exact Below.refl _ _ | (refine Below.alloc ?_ (by first | omega | (simp; done) | (simp; omega)) _) | refine below_drewN ?_ _ | refine Below.drew ?_))⟩
    · have c' : m < n + (j - i) := by omega
      have HC := Lib.hid c
      clear c
      go_enter Try.func45, Try.ntmps45
      go_wp2_with fail
      go_quiet (fail)
      go_wp2_with fail
      go_ret
      exact ⟨ret_int (by rw [growV, if_neg (by simpa [editLen] using HC.out)]), (by repeat (first | exact Below.refl _ _ | (refine Below.alloc ?_ (by first | omega | (simp; done) | (simp; omega)) _) | refine below_drewN ?_ _ | refine Below.drew ?_))⟩
  · have c' : ¬ (m < n) := by omega
    have HC := Lib.hid hn1
    go_enter Try.func45, Try.ntmps45
    go_wp2_with fail
    go_ret
    exact ⟨ret_int (by simp [growV, editLen, HC.out]), (by repeat (first | exact Below.refl _ _ | (refine Below.alloc ?_ (by first | omega | (simp; done) | (simp; omega)) _) | refine below_drewN ?_ _ | refine Below.drew ?_))⟩
  · have c' : ¬ (m < n) := by omega
    have HC := Lib.hid hn1
    go_enter Try.func45, Try.ntmps45
    go_wp2_with fail
    go_ret
    exact ⟨ret_int (by simp [growV, editLen, HC.out]), (by repeat (first | exact Below.refl _ _ | (refine Below.alloc ?_ (by first | omega | (simp; done) | (simp; omega)) _) | refine below_drewN ?_ _ | refine Below.drew ?_))⟩
  · have hij := g5 (by omega)
    have hfit : j ≤ n := by simpa [editFits] using Hf.out
    have wn : IntKind.i64.wrap (n - (j - i)) = n - (j - i) := IntWalk.i64_in _ (by omega)
    by_cases c0 : i < j
    · have hd := div_le (m := m - (n - (j - i))) (p := j - i) (k := kk) (by omega)
      have Hd := Lib.hid hd
      have hz : (j - i) ≠ 0 := by omega
      have c0' : decide (i < j) = true := by simp [c0]
      have wm : IntKind.i64.wrap (m - (n - (j - i))) = m - (n - (j - i)) := IntWalk.i64_in _ (by omega)
      by_cases c1 : (m - (n - (j - i))) / (j - i) < kk
      · have c1' : decide ((m - (n - (j - i))) / (j - i) < kk) = true := by simp [c1]
        have hbad : ¬ (n - (j - i) + (j - i) * kk ≤ m) := by
          intro h
          have : kk * (j - i) ≤ m - (n - (j - i)) := by rw [Int.mul_comm]; omega
          have := Hd.out.2 this
          omega
        have Hbad := Lib.hid hbad
        clear hbad hd
        go_enter Try.func45, Try.ntmps45
        go_wp2_with fail
        go_quiet (fail)
        go_wp2_with fail
        go_quiet (fail)
        go_wp2_with fail
        go_ret
        exact ⟨ret_int (by rw [growV, if_neg (by simpa [editLen] using Hbad.out)]), (by repeat (first | exact Below.refl _ _ | (refine Below.alloc ?_ (by first | omega | (simp; done) | (simp; omega)) _) | refine below_drewN ?_ _ | refine Below.drew ?_))⟩
      · have c1' : decide ((m - (n - (j - i))) / (j - i) < kk) = false := by simp; omega
        have hgood : kk * (j - i) ≤ m - (n - (j - i)) := Hd.out.1 (by omega)
        have hlow : 0 ≤ kk * (j - i) := Int.mul_nonneg g4.1 (by omega)
        rw [Int.mul_comm] at hgood hlow
        have wmul : IntKind.i64.wrap ((j - i) * kk) = (j - i) * kk := IntWalk.i64_in _ (by omega)
        have wadd : IntKind.i64.wrap (n - (j - i) + (j - i) * kk) = n - (j - i) + (j - i) * kk := IntWalk.i64_in _ (by omega)
        have hle : decide (m < n - (j - i) + (j - i) * kk) = false := by simp; omega
        have Hg := Lib.hid (show n - (j - i) + (j - i) * kk ≤ m by omega)
        clear hgood hlow hd
        go_enter Try.func45, Try.ntmps45
        go_wp2_with fail
        go_quiet (fail)
        go_wp2_with fail
        go_quiet (fail)
        go_wp2_with fail
        go_ret
        exact ⟨ret_int (by simp [growV, editLen, Hg.out]), (by repeat (first | exact Below.refl _ _ | (refine Below.alloc ?_ (by first | omega | (simp; done) | (simp; omega)) _) | refine below_drewN ?_ _ | refine Below.drew ?_))⟩
    · have hj : j = i := by omega
      subst hj
      have wz : IntKind.i64.wrap (j - j) = 0 := by rw [show j - j = 0 by omega]; rfl
      have ws : j - j = 0 := by omega
      have wn' : IntKind.i64.wrap n = n := IntWalk.i64_in _ (by omega)
      have c' : ¬ (m < n) := by omega
      have HC := Lib.hid hn1
      go_enter Try.func45, Try.ntmps45
      go_wp2_with fail
      go_quiet (fail)
      go_wp2_with fail
      go_quiet (fail)
      go_wp2_with fail
      go_ret
      exact ⟨ret_int (by simp [growV, editLen, HC.out]), (by repeat (first | exact Below.refl _ _ | (refine Below.alloc ?_ (by first | omega | (simp; done) | (simp; omega)) _) | refine below_drewN ?_ _ | refine Below.drew ?_))⟩
  · have c' : ¬ (m < n) := by omega
    have HC := Lib.hid hn1
    go_enter Try.func45, Try.ntmps45
    go_wp2_with fail
    go_ret
    exact ⟨ret_int (by simp [growV, editLen, HC.out]), (by repeat (first | exact Below.refl _ _ | (refine Below.alloc ?_ (by first | omega | (simp; done) | (simp; omega)) _) | refine below_drewN ?_ _ | refine Below.drew ?_))⟩
end Go.Proofs.Ytfapnipmgmpgaaa

namespace Go.Proofs.Ytfapnipmgmpgaaa
open Go.RowKit

theorem l07Has_lit (s : ByteArray) (n : Int) (b : UInt8) (r : Bool) (hs : s.size ≤ maxLen) (hn : n = b.toNat) (h : hasByte s b = r) :
    Hid (∀ w, Calls Try.prog 105 #[.string s, .int .u8 n] w fun e w' => e = .returned (.bool r) ∧ w = w') := by
  subst h hn; exact fun w => l07Has_any s b w hs
theorem l07Number_lit (n : Int) (b r : Bool) (h : numOk n b = r) :
    Hid (∀ w, Calls Try.prog 104 #[.int .i64 n, .bool b] w fun e w' => e = .returned (.bool r) ∧ w = w') := by
  subst h; exact fun w => l07Number_any n b w

theorem keepEd {wr W W2 : World} {p : Addr} {a : Value} (h : Below wr.heap.size wr W ∧ W.cell? p = some a) (h2 : Below W.heap.size W W2) (hp : p.block < wr.heap.size) : Below wr.heap.size wr W2 ∧ W2.cell? p = some a :=
  ⟨h.1.trans (h2.mono h.1.size), (h2.cell (Nat.lt_of_lt_of_le hp h.1.size)).trans h.2⟩
set_option maxRecDepth 100000 in
set_option maxHeartbeats 4000000 in
theorem l07Ok_any (b : Nat) (vR : Value) (e : GEdit) (w : World) (h : EditAt w w.heap.size b e vR) (hsm : SmallL e.part) (hn : e.part.length ≤ 1099511627776) (hm : e.map.size ≤ maxLen) :
    Calls Try.prog 43 #[.pointer (some ⟨b, 0, none⟩)] w fun r w' => r = .returned (.bool (editOk e)) ∧ Below w.heap.size w w' := by
  have HH := Lib.hid h
  obtain ⟨⟨x0, x1, x2, x3, x4, x5⟩, hlt, hR⟩ := h
  have HR := Lib.hid hR
  obtain ⟨AR, cR, rfl, _⟩ := hR
  by_cases hk : inR e.kind 1 7 = true
  · have HK := Lib.hid hk
    have HE := Lib.hid (ok_split hk)
    obtain ⟨u1, u2, u3, u4, u5⟩ := uses_has hk
    obtain ⟨S, hS⟩ : ∃ S, usesS e.kind = S := ⟨_, rfl⟩
    rw [hS] at u1 u2 u3 u4 u5
    have HS := Lib.hid hS
    have hSm : S.size ≤ maxLen := by unfold maxLen; omega
    have HU := Lib.hid (And.intro u1 (And.intro u2 (And.intro u3 u4)))
    have H4 : (usesJ e.kind = false ∧ usesK e.kind = false ∧ (e.kind == 1) = true ∧ (e.kind == 7) = false) ∨ (usesJ e.kind = true ∧ usesK e.kind = false ∧ (e.kind == 1) = false ∧ (e.kind == 7) = false) ∨ (usesJ e.kind = true ∧ usesK e.kind = true ∧ (e.kind == 1) = false ∧ (e.kind == 7) = false) ∨ (usesJ e.kind = true ∧ usesK e.kind = false ∧ (e.kind == 1) = false ∧ (e.kind == 7) = true) := by
      rcases kind7 hk with h | h | h | h | h | h | h <;> rw [h] <;> simp [usesJ, usesK]
    clear hk hS u1 u2 u3 u4 u5
    go_enter Try.func43, Try.ntmps43
    go_wp2_with fail
    refine (l00In_yes _ _ _ _ HK.out).mono ?_
    rintro r w' ⟨rfl, rfl⟩
    go_wp2_with fail
    refine (l07Uses_any _ _ HK.out).mono ?_
    rintro r w1 ⟨rfl, hb1⟩
    rw [HS.out]
    have HH1 := Lib.hid (HH.out.up hb1)
    have HB1 := Lib.hid hb1
    have z1 : b < w1.heap.size := Nat.lt_of_lt_of_le hlt hb1.size
    clear hb1 x0 x1 x2 x3 x4 x5
    obtain ⟨x0, x1, x2, x3, x4, x5⟩ := HH1.out.box
    go_wp2_with fail
    rcases H4 with ⟨u1, u2, u3, u4⟩ | ⟨u1, u2, u3, u4⟩ | ⟨u1, u2, u3, u4⟩ | ⟨u1, u2, u3, u4⟩
    · rw [u1, u2, u3, u4] at HE HU
      obtain ⟨hJ', hK', hP', hM'⟩ := HU.out
      have CJ := l07Has_lit S 74 74 _ hSm rfl hJ'
      have CK := l07Has_lit S 75 75 _ hSm rfl hK'
      have CP := l07Has_lit S 80 80 _ hSm rfl hP'
      have CM := l07Has_lit S 77 77 _ hSm rfl hM'
      clear hJ' hK' hP' hM'
      clear u1 u2 u3 u4
      by_cases ni : numOk e.i true = true
      · have Ni := Lib.hid ni
        have Di := l07Number_lit e.i true _ ni
        clear ni
        by_cases nj : numOk e.j false = true
        · have Nj := Lib.hid nj
          have Dj := l07Number_lit e.j _ _ nj
          clear nj
          by_cases nk : numOk e.k false = true
          · have Nk := Lib.hid nk
            have Dk := l07Number_lit e.k _ _ nk
            clear nk
            go_quiet (first
              | (go_at_call 105; first | with_reducible exact quiet_left (CJ.out _) | with_reducible exact quiet_left (CK.out _))
              | (go_at_call 104; first | with_reducible exact quiet_left (Di.out _) | with_reducible exact quiet_left (Dj.out _) | with_reducible exact quiet_left (Dk.out _)))
            go_wp2_with fail
            have Ni2 := Lib.hid (show inR e.i 0 1000000000000000 = true from Ni.out)
            have HH2 := Lib.hid (HH1.out.up (below_drewN (Below.refl w1.heap.size w1) nq))
            have HB2 := Lib.hid (HB1.out.trans ((below_drewN (Below.refl w1.heap.size w1) nq).mono HB1.out.size))
            clear x0 x1 x2 x3 x4 x5 z1
            generalize w1.drewN nq = w2 at *
            have z2 : b < w2.heap.size := HH2.out.lt
            obtain ⟨x0, x1, x2, x3, x4, x5⟩ := HH2.out.box
            have KB := And.intro (Below.drew (Below.refl w2.heap.size w2)) (show w2.drew.cell? ⟨b, 4, none⟩ = _ from x4)
            have Y4 := Lib.hid KB.2
            have Z4 := Lib.hid (show b < w2.drew.heap.size from z2)
            have R4 := Lib.hid (HH2.out.sl.up (Below.drew (Below.refl w2.heap.size w2)))
            by_cases cl : 0 < e.part.length
            · have Cl := Lib.hid cl
              have cl' : decide (0 < e.part.length) = true := by simp [cl]
              by_cases cg : gramOk e.part = true
              · have Cg := Lib.hid cg
                go_region_held3 (fun w' => Below w2.heap.size w2 w' ∧ w'.cell? ⟨b, 4, none⟩ = some (.slice AR e.part.length cR))
                  (first | (with_reducible exact KB) | (with_reducible exact keepEd KB hb3 z2))
                  (first
                    | (go_at_call 105; refine (CP.out _).mono ?_; rintro r w' ⟨rfl, rfl⟩)
                    | (go_at_call 91; refine (l02Ok_any b 4 _ e.part _ Y4.out Z4.out R4.out hsm).mono ?_; rintro r w3 ⟨rfl, hb3⟩))
                have HB3 := Lib.hid (HB2.out.trans (((Below.drew (Below.refl w2.heap.size w2)).trans hb3).mono HB2.out.size))
                have y5 := (hb3.cell (p := ⟨b, 5, none⟩) z2).trans (show w2.drew.cell? ⟨b, 5, none⟩ = _ from x5)
                clear KB hb3 x0 x1 x2 x3 x4 x5
                go_wp2_with fail
                refine (CM.out _).mono ?_
                rintro r w' ⟨rfl, rfl⟩
                by_cases cm : e.map.size = 0
                · have Cm := Lib.hid cm
                  have gm := str_empty e.map
                  rw [show (e.map.size == 0) = true by simp [cm]] at gm
                  clear cm
                  go_wp2_with fail
                  go_ret
                  exact ⟨ret_bool (by rw [HE.out]; simp [Ni2.out, Nj.out, Nk.out, Cl.out, Cg.out, Cm.out]), (by repeat (first | exact HB3.out | (refine Below.alloc ?_ (by first | omega | (simp; done) | (simp; omega)) _) | refine below_drewN ?_ _ | refine Below.drew ?_))⟩
                · have Cm := Lib.hid cm
                  have gm := str_empty e.map
                  rw [show (e.map.size == 0) = false by simp [cm]] at gm
                  clear cm
                  go_wp2_with fail
                  go_ret
                  exact ⟨ret_bool (by rw [HE.out]; simp [Ni2.out, Nj.out, Nk.out, Cl.out, Cg.out, Cm.out]), (by repeat (first | exact HB3.out | (refine Below.alloc ?_ (by first | omega | (simp; done) | (simp; omega)) _) | refine below_drewN ?_ _ | refine Below.drew ?_))⟩
              · have cg' : gramOk e.part = false := by simpa using cg
                have Cg := Lib.hid cg'
                clear cg
                go_region_held3 (fun w' => Below w2.heap.size w2 w' ∧ w'.cell? ⟨b, 4, none⟩ = some (.slice AR e.part.length cR))
                  (first | (with_reducible exact KB) | (with_reducible exact keepEd KB hb3 z2))
                  (first
                    | (go_at_call 105; refine (CP.out _).mono ?_; rintro r w' ⟨rfl, rfl⟩)
                    | (go_at_call 91; refine (l02Ok_any b 4 _ e.part _ Y4.out Z4.out R4.out hsm).mono ?_; rintro r w3 ⟨rfl, hb3⟩))
                have HB3 := Lib.hid (HB2.out.trans (((Below.drew (Below.refl w2.heap.size w2)).trans hb3).mono HB2.out.size))
                have y5 := (hb3.cell (p := ⟨b, 5, none⟩) z2).trans (show w2.drew.cell? ⟨b, 5, none⟩ = _ from x5)
                clear KB hb3 x0 x1 x2 x3 x4 x5
                go_wp2_with fail
                go_ret
                exact ⟨ret_bool (by rw [HE.out]; simp [Cg.out]), (by repeat (first | exact HB3.out | (refine Below.alloc ?_ (by first | omega | (simp; done) | (simp; omega)) _) | refine below_drewN ?_ _ | refine Below.drew ?_))⟩
            · have hL : e.part.length = 0 := by omega
              have Cl := Lib.hid cl
              rw [hL] at KB Y4 R4 x4
              clear cl hL
              go_quiet ((go_at_call 105; with_reducible exact quiet_left (CP.out _)))
              have HB3 := Lib.hid (HB2.out.trans ((below_drewN (Below.refl w2.heap.size w2) nq).mono HB2.out.size))
              go_wp2_with fail
              go_ret
              exact ⟨ret_bool (by rw [HE.out]; simp [Cl.out]), (by repeat (first | exact HB3.out | (refine Below.alloc ?_ (by first | omega | (simp; done) | (simp; omega)) _) | refine below_drewN ?_ _ | refine Below.drew ?_))⟩
          · have nk' : numOk e.k false = false := by simpa using nk
            have Nk := Lib.hid nk'
            have Dk := l07Number_lit e.k _ _ nk'
            clear nk nk'
            go_quiet (first
              | (go_at_call 105; first | with_reducible exact quiet_left (CJ.out _) | with_reducible exact quiet_left (CK.out _))
              | (go_at_call 104; first | with_reducible exact quiet_left (Di.out _) | with_reducible exact quiet_left (Dj.out _) | with_reducible exact quiet_left (Dk.out _)))
            go_wp2_with fail
            go_ret
            exact ⟨ret_bool (by rw [HE.out]; simp [Nk.out]), (by repeat (first | exact HB1.out | (refine Below.alloc ?_ (by first | omega | (simp; done) | (simp; omega)) _) | refine below_drewN ?_ _ | refine Below.drew ?_))⟩
        · have nj' : numOk e.j false = false := by simpa using nj
          have Nj := Lib.hid nj'
          have Dj := l07Number_lit e.j _ _ nj'
          clear nj nj'
          go_quiet (first
            | (go_at_call 105; first | with_reducible exact quiet_left (CJ.out _) | with_reducible exact quiet_left (CK.out _))
            | (go_at_call 104; first | with_reducible exact quiet_left (Di.out _) | with_reducible exact quiet_left (Dj.out _) | with_reducible exact quiet_left (Dk.out _)))
          go_wp2_with fail
          go_ret
          exact ⟨ret_bool (by rw [HE.out]; simp [Nj.out]), (by repeat (first | exact HB1.out | (refine Below.alloc ?_ (by first | omega | (simp; done) | (simp; omega)) _) | refine below_drewN ?_ _ | refine Below.drew ?_))⟩
      · have ni' : numOk e.i true = false := by simpa using ni
        have Ni := Lib.hid ni'
        have Ni2 := Lib.hid (show inR e.i 0 1000000000000000 = false from ni')
        have Di := l07Number_lit e.i true _ ni'
        clear ni ni'
        go_quiet (first
          | (go_at_call 105; first | with_reducible exact quiet_left (CJ.out _) | with_reducible exact quiet_left (CK.out _))
          | (go_at_call 104; first | with_reducible exact quiet_left (Di.out _) | with_reducible exact quiet_left (Dj.out _) | with_reducible exact quiet_left (Dk.out _)))
        go_wp2_with fail
        go_ret
        exact ⟨ret_bool (by rw [HE.out]; simp [Ni2.out]), (by repeat (first | exact HB1.out | (refine Below.alloc ?_ (by first | omega | (simp; done) | (simp; omega)) _) | refine below_drewN ?_ _ | refine Below.drew ?_))⟩
    · rw [u1, u2, u3, u4] at HE HU
      obtain ⟨hJ', hK', hP', hM'⟩ := HU.out
      have CJ := l07Has_lit S 74 74 _ hSm rfl hJ'
      have CK := l07Has_lit S 75 75 _ hSm rfl hK'
      have CP := l07Has_lit S 80 80 _ hSm rfl hP'
      have CM := l07Has_lit S 77 77 _ hSm rfl hM'
      clear hJ' hK' hP' hM'
      clear u1 u2 u3 u4
      by_cases ni : numOk e.i true = true
      · have Ni := Lib.hid ni
        have Di := l07Number_lit e.i true _ ni
        clear ni
        by_cases nj : numOk e.j true = true
        · have Nj := Lib.hid nj
          have Dj := l07Number_lit e.j _ _ nj
          clear nj
          by_cases nk : numOk e.k false = true
          · have Nk := Lib.hid nk
            have Dk := l07Number_lit e.k _ _ nk
            clear nk
            by_cases nij : e.j < e.i
            · have Nij := Lib.hid nij
              go_quiet (first
                | (go_at_call 105; first | with_reducible exact quiet_left (CJ.out _) | with_reducible exact quiet_left (CK.out _))
                | (go_at_call 104; first | with_reducible exact quiet_left (Di.out _) | with_reducible exact quiet_left (Dj.out _) | with_reducible exact quiet_left (Dk.out _)))
              go_wp2_with fail
              go_ret
              exact ⟨ret_bool (by rw [HE.out]; simp [Nij.out]), (by repeat (first | exact HB1.out | (refine Below.alloc ?_ (by first | omega | (simp; done) | (simp; omega)) _) | refine below_drewN ?_ _ | refine Below.drew ?_))⟩
            · have nij' : decide (e.j < e.i) = false := by simp; omega
              have Nij := Lib.hid nij'
              go_quiet (first
                | (go_at_call 105; first | with_reducible exact quiet_left (CJ.out _) | with_reducible exact quiet_left (CK.out _))
                | (go_at_call 104; first | with_reducible exact quiet_left (Di.out _) | with_reducible exact quiet_left (Dj.out _) | with_reducible exact quiet_left (Dk.out _)))
              go_wp2_with fail
              have Ni2 := Lib.hid (show inR e.i 0 1000000000000000 = true from Ni.out)
              have HH2 := Lib.hid (HH1.out.up (below_drewN (Below.refl w1.heap.size w1) nq))
              have HB2 := Lib.hid (HB1.out.trans ((below_drewN (Below.refl w1.heap.size w1) nq).mono HB1.out.size))
              clear x0 x1 x2 x3 x4 x5 z1
              generalize w1.drewN nq = w2 at *
              have z2 : b < w2.heap.size := HH2.out.lt
              obtain ⟨x0, x1, x2, x3, x4, x5⟩ := HH2.out.box
              have KB := And.intro (Below.drew (Below.refl w2.heap.size w2)) (show w2.drew.cell? ⟨b, 4, none⟩ = _ from x4)
              have Y4 := Lib.hid KB.2
              have Z4 := Lib.hid (show b < w2.drew.heap.size from z2)
              have R4 := Lib.hid (HH2.out.sl.up (Below.drew (Below.refl w2.heap.size w2)))
              by_cases cl : 0 < e.part.length
              · have Cl := Lib.hid cl
                have cl' : decide (0 < e.part.length) = true := by simp [cl]
                go_quiet ((go_at_call 105; with_reducible exact quiet_left (CP.out _)))
                have HB3 := Lib.hid (HB2.out.trans ((below_drewN (Below.refl w2.heap.size w2) nq).mono HB2.out.size))
                go_wp2_with fail
                go_ret
                exact ⟨ret_bool (by rw [HE.out]; simp [Cl.out]), (by repeat (first | exact HB3.out | (refine Below.alloc ?_ (by first | omega | (simp; done) | (simp; omega)) _) | refine below_drewN ?_ _ | refine Below.drew ?_))⟩
              · have Cg := Lib.hid (emptyOk cl)
                have cg : gramOk e.part = true := emptyOk cl
                have hL : e.part.length = 0 := by omega
                have Cl := Lib.hid cl
                rw [hL] at KB Y4 R4 x4
                clear cl hL
                go_region_held3 (fun w' => Below w2.heap.size w2 w' ∧ w'.cell? ⟨b, 4, none⟩ = some (.slice AR 0 cR))
                  (first | (with_reducible exact KB) | (with_reducible exact keepEd KB hb3 z2))
                  (first
                    | (go_at_call 105; refine (CP.out _).mono ?_; rintro r w' ⟨rfl, rfl⟩)
                    | (go_at_call 91; refine (l02Ok_any b 4 _ e.part _ Y4.out Z4.out R4.out hsm).mono ?_; rintro r w3 ⟨rfl, hb3⟩))
                have HB3 := Lib.hid (HB2.out.trans (((Below.drew (Below.refl w2.heap.size w2)).trans hb3).mono HB2.out.size))
                have y5 := (hb3.cell (p := ⟨b, 5, none⟩) z2).trans (show w2.drew.cell? ⟨b, 5, none⟩ = _ from x5)
                clear KB hb3 x0 x1 x2 x3 x4 x5
                go_wp2_with fail
                refine (CM.out _).mono ?_
                rintro r w' ⟨rfl, rfl⟩
                by_cases cm : e.map.size = 0
                · have Cm := Lib.hid cm
                  have gm := str_empty e.map
                  rw [show (e.map.size == 0) = true by simp [cm]] at gm
                  clear cm
                  go_wp2_with fail
                  go_ret
                  exact ⟨ret_bool (by rw [HE.out]; simp [Ni2.out, Nj.out, Nk.out, Nij.out, Cl.out, Cg.out, Cm.out]), (by repeat (first | exact HB3.out | (refine Below.alloc ?_ (by first | omega | (simp; done) | (simp; omega)) _) | refine below_drewN ?_ _ | refine Below.drew ?_))⟩
                · have Cm := Lib.hid cm
                  have gm := str_empty e.map
                  rw [show (e.map.size == 0) = false by simp [cm]] at gm
                  clear cm
                  go_wp2_with fail
                  go_ret
                  exact ⟨ret_bool (by rw [HE.out]; simp [Ni2.out, Nj.out, Nk.out, Nij.out, Cl.out, Cg.out, Cm.out]), (by repeat (first | exact HB3.out | (refine Below.alloc ?_ (by first | omega | (simp; done) | (simp; omega)) _) | refine below_drewN ?_ _ | refine Below.drew ?_))⟩
          · have nk' : numOk e.k false = false := by simpa using nk
            have Nk := Lib.hid nk'
            have Dk := l07Number_lit e.k _ _ nk'
            clear nk nk'
            go_quiet (first
              | (go_at_call 105; first | with_reducible exact quiet_left (CJ.out _) | with_reducible exact quiet_left (CK.out _))
              | (go_at_call 104; first | with_reducible exact quiet_left (Di.out _) | with_reducible exact quiet_left (Dj.out _) | with_reducible exact quiet_left (Dk.out _)))
            go_wp2_with fail
            go_ret
            exact ⟨ret_bool (by rw [HE.out]; simp [Nk.out]), (by repeat (first | exact HB1.out | (refine Below.alloc ?_ (by first | omega | (simp; done) | (simp; omega)) _) | refine below_drewN ?_ _ | refine Below.drew ?_))⟩
        · have nj' : numOk e.j true = false := by simpa using nj
          have Nj := Lib.hid nj'
          have Dj := l07Number_lit e.j _ _ nj'
          clear nj nj'
          go_quiet (first
            | (go_at_call 105; first | with_reducible exact quiet_left (CJ.out _) | with_reducible exact quiet_left (CK.out _))
            | (go_at_call 104; first | with_reducible exact quiet_left (Di.out _) | with_reducible exact quiet_left (Dj.out _) | with_reducible exact quiet_left (Dk.out _)))
          go_wp2_with fail
          go_ret
          exact ⟨ret_bool (by rw [HE.out]; simp [Nj.out]), (by repeat (first | exact HB1.out | (refine Below.alloc ?_ (by first | omega | (simp; done) | (simp; omega)) _) | refine below_drewN ?_ _ | refine Below.drew ?_))⟩
      · have ni' : numOk e.i true = false := by simpa using ni
        have Ni := Lib.hid ni'
        have Ni2 := Lib.hid (show inR e.i 0 1000000000000000 = false from ni')
        have Di := l07Number_lit e.i true _ ni'
        clear ni ni'
        go_quiet (first
          | (go_at_call 105; first | with_reducible exact quiet_left (CJ.out _) | with_reducible exact quiet_left (CK.out _))
          | (go_at_call 104; first | with_reducible exact quiet_left (Di.out _) | with_reducible exact quiet_left (Dj.out _) | with_reducible exact quiet_left (Dk.out _)))
        go_wp2_with fail
        go_ret
        exact ⟨ret_bool (by rw [HE.out]; simp [Ni2.out]), (by repeat (first | exact HB1.out | (refine Below.alloc ?_ (by first | omega | (simp; done) | (simp; omega)) _) | refine below_drewN ?_ _ | refine Below.drew ?_))⟩
    · rw [u1, u2, u3, u4] at HE HU
      obtain ⟨hJ', hK', hP', hM'⟩ := HU.out
      have CJ := l07Has_lit S 74 74 _ hSm rfl hJ'
      have CK := l07Has_lit S 75 75 _ hSm rfl hK'
      have CP := l07Has_lit S 80 80 _ hSm rfl hP'
      have CM := l07Has_lit S 77 77 _ hSm rfl hM'
      clear hJ' hK' hP' hM'
      clear u1 u2 u3 u4
      by_cases ni : numOk e.i true = true
      · have Ni := Lib.hid ni
        have Di := l07Number_lit e.i true _ ni
        clear ni
        by_cases nj : numOk e.j true = true
        · have Nj := Lib.hid nj
          have Dj := l07Number_lit e.j _ _ nj
          clear nj
          by_cases nk : numOk e.k true = true
          · have Nk := Lib.hid nk
            have Dk := l07Number_lit e.k _ _ nk
            clear nk
            by_cases nij : e.j < e.i
            · have Nij := Lib.hid nij
              go_quiet (first
                | (go_at_call 105; first | with_reducible exact quiet_left (CJ.out _) | with_reducible exact quiet_left (CK.out _))
                | (go_at_call 104; first | with_reducible exact quiet_left (Di.out _) | with_reducible exact quiet_left (Dj.out _) | with_reducible exact quiet_left (Dk.out _)))
              go_wp2_with fail
              go_ret
              exact ⟨ret_bool (by rw [HE.out]; simp [Nij.out]), (by repeat (first | exact HB1.out | (refine Below.alloc ?_ (by first | omega | (simp; done) | (simp; omega)) _) | refine below_drewN ?_ _ | refine Below.drew ?_))⟩
            · have nij' : decide (e.j < e.i) = false := by simp; omega
              have Nij := Lib.hid nij'
              go_quiet (first
                | (go_at_call 105; first | with_reducible exact quiet_left (CJ.out _) | with_reducible exact quiet_left (CK.out _))
                | (go_at_call 104; first | with_reducible exact quiet_left (Di.out _) | with_reducible exact quiet_left (Dj.out _) | with_reducible exact quiet_left (Dk.out _)))
              go_wp2_with fail
              have Ni2 := Lib.hid (show inR e.i 0 1000000000000000 = true from Ni.out)
              have HH2 := Lib.hid (HH1.out.up (below_drewN (Below.refl w1.heap.size w1) nq))
              have HB2 := Lib.hid (HB1.out.trans ((below_drewN (Below.refl w1.heap.size w1) nq).mono HB1.out.size))
              clear x0 x1 x2 x3 x4 x5 z1
              generalize w1.drewN nq = w2 at *
              have z2 : b < w2.heap.size := HH2.out.lt
              obtain ⟨x0, x1, x2, x3, x4, x5⟩ := HH2.out.box
              have KB := And.intro (Below.drew (Below.refl w2.heap.size w2)) (show w2.drew.cell? ⟨b, 4, none⟩ = _ from x4)
              have Y4 := Lib.hid KB.2
              have Z4 := Lib.hid (show b < w2.drew.heap.size from z2)
              have R4 := Lib.hid (HH2.out.sl.up (Below.drew (Below.refl w2.heap.size w2)))
              by_cases cl : 0 < e.part.length
              · have Cl := Lib.hid cl
                have cl' : decide (0 < e.part.length) = true := by simp [cl]
                go_quiet ((go_at_call 105; with_reducible exact quiet_left (CP.out _)))
                have HB3 := Lib.hid (HB2.out.trans ((below_drewN (Below.refl w2.heap.size w2) nq).mono HB2.out.size))
                go_wp2_with fail
                go_ret
                exact ⟨ret_bool (by rw [HE.out]; simp [Cl.out]), (by repeat (first | exact HB3.out | (refine Below.alloc ?_ (by first | omega | (simp; done) | (simp; omega)) _) | refine below_drewN ?_ _ | refine Below.drew ?_))⟩
              · have Cg := Lib.hid (emptyOk cl)
                have cg : gramOk e.part = true := emptyOk cl
                have hL : e.part.length = 0 := by omega
                have Cl := Lib.hid cl
                rw [hL] at KB Y4 R4 x4
                clear cl hL
                go_region_held3 (fun w' => Below w2.heap.size w2 w' ∧ w'.cell? ⟨b, 4, none⟩ = some (.slice AR 0 cR))
                  (first | (with_reducible exact KB) | (with_reducible exact keepEd KB hb3 z2))
                  (first
                    | (go_at_call 105; refine (CP.out _).mono ?_; rintro r w' ⟨rfl, rfl⟩)
                    | (go_at_call 91; refine (l02Ok_any b 4 _ e.part _ Y4.out Z4.out R4.out hsm).mono ?_; rintro r w3 ⟨rfl, hb3⟩))
                have HB3 := Lib.hid (HB2.out.trans (((Below.drew (Below.refl w2.heap.size w2)).trans hb3).mono HB2.out.size))
                have y5 := (hb3.cell (p := ⟨b, 5, none⟩) z2).trans (show w2.drew.cell? ⟨b, 5, none⟩ = _ from x5)
                clear KB hb3 x0 x1 x2 x3 x4 x5
                go_wp2_with fail
                refine (CM.out _).mono ?_
                rintro r w' ⟨rfl, rfl⟩
                by_cases cm : e.map.size = 0
                · have Cm := Lib.hid cm
                  have gm := str_empty e.map
                  rw [show (e.map.size == 0) = true by simp [cm]] at gm
                  clear cm
                  go_wp2_with fail
                  go_ret
                  exact ⟨ret_bool (by rw [HE.out]; simp [Ni2.out, Nj.out, Nk.out, Nij.out, Cl.out, Cg.out, Cm.out]), (by repeat (first | exact HB3.out | (refine Below.alloc ?_ (by first | omega | (simp; done) | (simp; omega)) _) | refine below_drewN ?_ _ | refine Below.drew ?_))⟩
                · have Cm := Lib.hid cm
                  have gm := str_empty e.map
                  rw [show (e.map.size == 0) = false by simp [cm]] at gm
                  clear cm
                  go_wp2_with fail
                  go_ret
                  exact ⟨ret_bool (by rw [HE.out]; simp [Ni2.out, Nj.out, Nk.out, Nij.out, Cl.out, Cg.out, Cm.out]), (by repeat (first | exact HB3.out | (refine Below.alloc ?_ (by first | omega | (simp; done) | (simp; omega)) _) | refine below_drewN ?_ _ | refine Below.drew ?_))⟩
          · have nk' : numOk e.k true = false := by simpa using nk
            have Nk := Lib.hid nk'
            have Dk := l07Number_lit e.k _ _ nk'
            clear nk nk'
            go_quiet (first
              | (go_at_call 105; first | with_reducible exact quiet_left (CJ.out _) | with_reducible exact quiet_left (CK.out _))
              | (go_at_call 104; first | with_reducible exact quiet_left (Di.out _) | with_reducible exact quiet_left (Dj.out _) | with_reducible exact quiet_left (Dk.out _)))
            go_wp2_with fail
            go_ret
            exact ⟨ret_bool (by rw [HE.out]; simp [Nk.out]), (by repeat (first | exact HB1.out | (refine Below.alloc ?_ (by first | omega | (simp; done) | (simp; omega)) _) | refine below_drewN ?_ _ | refine Below.drew ?_))⟩
        · have nj' : numOk e.j true = false := by simpa using nj
          have Nj := Lib.hid nj'
          have Dj := l07Number_lit e.j _ _ nj'
          clear nj nj'
          go_quiet (first
            | (go_at_call 105; first | with_reducible exact quiet_left (CJ.out _) | with_reducible exact quiet_left (CK.out _))
            | (go_at_call 104; first | with_reducible exact quiet_left (Di.out _) | with_reducible exact quiet_left (Dj.out _) | with_reducible exact quiet_left (Dk.out _)))
          go_wp2_with fail
          go_ret
          exact ⟨ret_bool (by rw [HE.out]; simp [Nj.out]), (by repeat (first | exact HB1.out | (refine Below.alloc ?_ (by first | omega | (simp; done) | (simp; omega)) _) | refine below_drewN ?_ _ | refine Below.drew ?_))⟩
      · have ni' : numOk e.i true = false := by simpa using ni
        have Ni := Lib.hid ni'
        have Ni2 := Lib.hid (show inR e.i 0 1000000000000000 = false from ni')
        have Di := l07Number_lit e.i true _ ni'
        clear ni ni'
        go_quiet (first
          | (go_at_call 105; first | with_reducible exact quiet_left (CJ.out _) | with_reducible exact quiet_left (CK.out _))
          | (go_at_call 104; first | with_reducible exact quiet_left (Di.out _) | with_reducible exact quiet_left (Dj.out _) | with_reducible exact quiet_left (Dk.out _)))
        go_wp2_with fail
        go_ret
        exact ⟨ret_bool (by rw [HE.out]; simp [Ni2.out]), (by repeat (first | exact HB1.out | (refine Below.alloc ?_ (by first | omega | (simp; done) | (simp; omega)) _) | refine below_drewN ?_ _ | refine Below.drew ?_))⟩
    · rw [u1, u2, u3, u4] at HE HU
      obtain ⟨hJ', hK', hP', hM'⟩ := HU.out
      have CJ := l07Has_lit S 74 74 _ hSm rfl hJ'
      have CK := l07Has_lit S 75 75 _ hSm rfl hK'
      have CP := l07Has_lit S 80 80 _ hSm rfl hP'
      have CM := l07Has_lit S 77 77 _ hSm rfl hM'
      clear hJ' hK' hP' hM'
      clear u1 u2 u3 u4
      by_cases ni : numOk e.i true = true
      · have Ni := Lib.hid ni
        have Di := l07Number_lit e.i true _ ni
        clear ni
        by_cases nj : numOk e.j true = true
        · have Nj := Lib.hid nj
          have Dj := l07Number_lit e.j _ _ nj
          clear nj
          by_cases nk : numOk e.k false = true
          · have Nk := Lib.hid nk
            have Dk := l07Number_lit e.k _ _ nk
            clear nk
            by_cases nij : e.j < e.i
            · have Nij := Lib.hid nij
              go_quiet (first
                | (go_at_call 105; first | with_reducible exact quiet_left (CJ.out _) | with_reducible exact quiet_left (CK.out _))
                | (go_at_call 104; first | with_reducible exact quiet_left (Di.out _) | with_reducible exact quiet_left (Dj.out _) | with_reducible exact quiet_left (Dk.out _)))
              go_wp2_with fail
              go_ret
              exact ⟨ret_bool (by rw [HE.out]; simp [Nij.out]), (by repeat (first | exact HB1.out | (refine Below.alloc ?_ (by first | omega | (simp; done) | (simp; omega)) _) | refine below_drewN ?_ _ | refine Below.drew ?_))⟩
            · have nij' : decide (e.j < e.i) = false := by simp; omega
              have Nij := Lib.hid nij'
              go_quiet (first
                | (go_at_call 105; first | with_reducible exact quiet_left (CJ.out _) | with_reducible exact quiet_left (CK.out _))
                | (go_at_call 104; first | with_reducible exact quiet_left (Di.out _) | with_reducible exact quiet_left (Dj.out _) | with_reducible exact quiet_left (Dk.out _)))
              go_wp2_with fail
              have Ni2 := Lib.hid (show inR e.i 0 1000000000000000 = true from Ni.out)
              have HH2 := Lib.hid (HH1.out.up (below_drewN (Below.refl w1.heap.size w1) nq))
              have HB2 := Lib.hid (HB1.out.trans ((below_drewN (Below.refl w1.heap.size w1) nq).mono HB1.out.size))
              clear x0 x1 x2 x3 x4 x5 z1
              generalize w1.drewN nq = w2 at *
              have z2 : b < w2.heap.size := HH2.out.lt
              obtain ⟨x0, x1, x2, x3, x4, x5⟩ := HH2.out.box
              have KB := And.intro (Below.drew (Below.refl w2.heap.size w2)) (show w2.drew.cell? ⟨b, 4, none⟩ = _ from x4)
              have Y4 := Lib.hid KB.2
              have Z4 := Lib.hid (show b < w2.drew.heap.size from z2)
              have R4 := Lib.hid (HH2.out.sl.up (Below.drew (Below.refl w2.heap.size w2)))
              by_cases cl : 0 < e.part.length
              · have Cl := Lib.hid cl
                have cl' : decide (0 < e.part.length) = true := by simp [cl]
                go_quiet ((go_at_call 105; with_reducible exact quiet_left (CP.out _)))
                have HB3 := Lib.hid (HB2.out.trans ((below_drewN (Below.refl w2.heap.size w2) nq).mono HB2.out.size))
                go_wp2_with fail
                go_ret
                exact ⟨ret_bool (by rw [HE.out]; simp [Cl.out]), (by repeat (first | exact HB3.out | (refine Below.alloc ?_ (by first | omega | (simp; done) | (simp; omega)) _) | refine below_drewN ?_ _ | refine Below.drew ?_))⟩
              · have Cg := Lib.hid (emptyOk cl)
                have cg : gramOk e.part = true := emptyOk cl
                have hL : e.part.length = 0 := by omega
                have Cl := Lib.hid cl
                rw [hL] at KB Y4 R4 x4
                clear cl hL
                go_region_held3 (fun w' => Below w2.heap.size w2 w' ∧ w'.cell? ⟨b, 4, none⟩ = some (.slice AR 0 cR))
                  (first | (with_reducible exact KB) | (with_reducible exact keepEd KB hb3 z2))
                  (first
                    | (go_at_call 105; refine (CP.out _).mono ?_; rintro r w' ⟨rfl, rfl⟩)
                    | (go_at_call 91; refine (l02Ok_any b 4 _ e.part _ Y4.out Z4.out R4.out hsm).mono ?_; rintro r w3 ⟨rfl, hb3⟩))
                have HB3 := Lib.hid (HB2.out.trans (((Below.drew (Below.refl w2.heap.size w2)).trans hb3).mono HB2.out.size))
                have y5 := (hb3.cell (p := ⟨b, 5, none⟩) z2).trans (show w2.drew.cell? ⟨b, 5, none⟩ = _ from x5)
                clear KB hb3 x0 x1 x2 x3 x4 x5
                go_wp2_with fail
                refine (CM.out _).mono ?_
                rintro r w' ⟨rfl, rfl⟩
                by_cases cs : e.map.size = 4
                · have Cs := Lib.hid cs
                  have gs : ((e.map.size : Int) == 4) = true := by simp [cs]
                  clear cs
                  go_wp2_with fail
                  refine (l01Ok_any _ _ hm).mono ?_
                  rintro r w' ⟨rfl, rfl⟩
                  go_wp2_with fail
                  go_ret
                  exact ⟨ret_bool (by rw [HE.out]; simp [Ni2.out, Nj.out, Nk.out, Nij.out, Cl.out, Cg.out, Cs.out]), (by repeat (first | exact HB3.out | (refine Below.alloc ?_ (by first | omega | (simp; done) | (simp; omega)) _) | refine below_drewN ?_ _ | refine Below.drew ?_))⟩
                · have Cs := Lib.hid cs
                  have gs : ((e.map.size : Int) == 4) = false := by rw [beq_eq_false_iff_ne]; omega
                  clear cs
                  go_wp2_with fail
                  go_ret
                  exact ⟨ret_bool (by rw [HE.out]; simp [Cs.out]), (by repeat (first | exact HB3.out | (refine Below.alloc ?_ (by first | omega | (simp; done) | (simp; omega)) _) | refine below_drewN ?_ _ | refine Below.drew ?_))⟩
          · have nk' : numOk e.k false = false := by simpa using nk
            have Nk := Lib.hid nk'
            have Dk := l07Number_lit e.k _ _ nk'
            clear nk nk'
            go_quiet (first
              | (go_at_call 105; first | with_reducible exact quiet_left (CJ.out _) | with_reducible exact quiet_left (CK.out _))
              | (go_at_call 104; first | with_reducible exact quiet_left (Di.out _) | with_reducible exact quiet_left (Dj.out _) | with_reducible exact quiet_left (Dk.out _)))
            go_wp2_with fail
            go_ret
            exact ⟨ret_bool (by rw [HE.out]; simp [Nk.out]), (by repeat (first | exact HB1.out | (refine Below.alloc ?_ (by first | omega | (simp; done) | (simp; omega)) _) | refine below_drewN ?_ _ | refine Below.drew ?_))⟩
        · have nj' : numOk e.j true = false := by simpa using nj
          have Nj := Lib.hid nj'
          have Dj := l07Number_lit e.j _ _ nj'
          clear nj nj'
          go_quiet (first
            | (go_at_call 105; first | with_reducible exact quiet_left (CJ.out _) | with_reducible exact quiet_left (CK.out _))
            | (go_at_call 104; first | with_reducible exact quiet_left (Di.out _) | with_reducible exact quiet_left (Dj.out _) | with_reducible exact quiet_left (Dk.out _)))
          go_wp2_with fail
          go_ret
          exact ⟨ret_bool (by rw [HE.out]; simp [Nj.out]), (by repeat (first | exact HB1.out | (refine Below.alloc ?_ (by first | omega | (simp; done) | (simp; omega)) _) | refine below_drewN ?_ _ | refine Below.drew ?_))⟩
      · have ni' : numOk e.i true = false := by simpa using ni
        have Ni := Lib.hid ni'
        have Ni2 := Lib.hid (show inR e.i 0 1000000000000000 = false from ni')
        have Di := l07Number_lit e.i true _ ni'
        clear ni ni'
        go_quiet (first
          | (go_at_call 105; first | with_reducible exact quiet_left (CJ.out _) | with_reducible exact quiet_left (CK.out _))
          | (go_at_call 104; first | with_reducible exact quiet_left (Di.out _) | with_reducible exact quiet_left (Dj.out _) | with_reducible exact quiet_left (Dk.out _)))
        go_wp2_with fail
        go_ret
        exact ⟨ret_bool (by rw [HE.out]; simp [Ni2.out]), (by repeat (first | exact HB1.out | (refine Below.alloc ?_ (by first | omega | (simp; done) | (simp; omega)) _) | refine below_drewN ?_ _ | refine Below.drew ?_))⟩
  · have hk' : inR e.kind 1 7 = false := by simpa using hk
    have HK := Lib.hid hk'
    clear hk hk'
    go_enter Try.func43, Try.ntmps43
    go_wp2_with fail
    refine (l00In_no _ _ _ _ HK.out).mono ?_
    rintro r w' ⟨rfl, rfl⟩
    go_wp2_with fail
    go_ret
    exact ⟨ret_bool (by simp [editOk, HK.out]), (by repeat (first | exact Below.refl _ _ | (refine Below.alloc ?_ (by first | omega | (simp; done) | (simp; omega)) _) | refine below_drewN ?_ _ | refine Below.drew ?_))⟩
end Go.Proofs.Ytfapnipmgmpgaaa

namespace Go.Proofs.Ytfapnipmgmpgaaa
open Go.RowKit

theorem editLen_nonneg {e : GEdit} {n : Int} (h : editOk e = true) (hf : editFits e n = true) (hn : 0 ≤ n) : 0 ≤ editLen e n := by
  obtain ⟨g1, g2, g3, g4, g5, g6, g7⟩ := editOk_get h
  have hb := gramLen_bounds e.part
  unfold editLen
  rcases kind7 g1 with h | h | h | h | h | h | h
  · simp [h]; omega
  · simp [h]; simp [editFits, h] at hf; have := g5 (by omega); omega
  · simp [h]; have := g5 (by omega); omega
  · simp [h]; omega
  · simp [h]; omega
  · simp [h]; simp [editFits, h] at hf; have := g5 (by omega); have := Int.mul_nonneg (show 0 ≤ e.j - e.i by omega) g4.1; omega
  · simp [h]; omega
end Go.Proofs.Ytfapnipmgmpgaaa

namespace Go.Proofs.Ytfapnipmgmpgaaa

/-- The letters of a rule's word. -/
def wordR (xs : List GRule) : Nat → Nat → List UInt8
  | 0, _ => []
  | f + 1, r => if (getR xs r).pair then wordR xs f (getR xs r).left.toNat ++ wordR xs f (getR xs r).right.toNat else (getR xs r).letter.data.toList
def W1 (xs : List GRule) (r : Nat) : List UInt8 := wordR xs (r + 1) r
/-- The word of a grammar. -/
def wordG (xs : List GRule) : List UInt8 := if xs = [] then [] else W1 xs (xs.length - 1)
/-- What lies from i to j. -/
def cutL {α : Type} (l : List α) (i j : Int) : List α := (l.take j.toNat).drop i.toNat

theorem wordR_fuel {xs : List GRule} {ls : List Int} (h : lens xs = some ls) : ∀ (f r : Nat), r < f → r < xs.length → wordR xs f r = W1 xs r := by
  intro f
  induction f using Nat.strongRecOn with
  | _ f ih =>
    intro r hr hx
    obtain ⟨g, rfl⟩ : ∃ g, f = g + 1 := ⟨f - 1, by omega⟩
    unfold W1
    rw [wordR, wordR]
    cases hp : (getR xs r).pair with
    | false => rfl
    | true =>
      obtain ⟨q1, q2, q3, q4, q5⟩ := lens_pair h hx hp
      rw [if_pos rfl, if_pos rfl, ih g (by omega) _ (by omega) (by omega), ih g (by omega) _ (by omega) (by omega)]
      by_cases e : r = g
      · subst e
        rw [ih r (by omega) _ (by omega) (by omega), ih r (by omega) _ (by omega) (by omega)]
      · rw [ih r (by omega) _ q2 (by omega), ih r (by omega) _ q4 (by omega)]
theorem W1_pair {xs : List GRule} {ls : List Int} (h : lens xs = some ls) {r : Nat} (hx : r < xs.length) (hp : (getR xs r).pair = true) : W1 xs r = W1 xs (getR xs r).left.toNat ++ W1 xs (getR xs r).right.toNat := by
  obtain ⟨q1, q2, q3, q4, q5⟩ := lens_pair h hx hp
  rw [W1, wordR, if_pos hp, wordR_fuel h r _ q2 (by omega), wordR_fuel h r _ q4 (by omega)]
theorem W1_let {xs : List GRule} {r : Nat} (hp : (getR xs r).pair = false) : W1 xs r = (getR xs r).letter.data.toList := by
  rw [W1, wordR, if_neg (by simp [hp])]
theorem lens_isLet {xs : List GRule} {ls : List Int} (h : lens xs = some ls) {r : Nat} (hx : r < xs.length) (hp : (getR xs r).pair = false) : isLet (getR xs r).letter = true := by
  have h1 := (lens_steps h r _ (getR_at hx)).1
  unfold okRule at h1
  rw [if_neg (by simp [hp])] at h1
  simp at h1; exact h1.1.1
theorem isLet_size {s : ByteArray} (h : isLet s = true) : s.size = 1 := by unfold isLet at h; simp at h; exact h.1.1
theorem W1_len {xs : List GRule} {ls : List Int} (h : lens xs = some ls) : ∀ (r : Nat), r < xs.length → ((W1 xs r).length : Int) = ls.getD r 0 := by
  intro r
  induction r using Nat.strongRecOn with
  | _ r ih =>
    intro hx
    cases hp : (getR xs r).pair with
    | false =>
      rw [W1_let hp, lens_letter h hx hp]
      have := isLet_size (lens_isLet h hx hp)
      show (((getR xs r).letter.data.toList.length : Nat) : Int) = 1
      rw [Array.length_toList]
      exact congrArg _ this
    | true =>
      obtain ⟨q1, q2, q3, q4, q5⟩ := lens_pair h hx hp
      rw [W1_pair h hx hp, List.length_append, q5, ← ih _ q2 (by omega), ← ih _ q4 (by omega)]
      omega
theorem cutL_append {α : Type} (a b : List α) (i j : Int) : cutL (a ++ b) i j = cutL a i j ++ cutL b (i - a.length) (j - a.length) := by
  unfold cutL
  rw [List.take_append, List.drop_append]
  have e1 : (j - (a.length : Int)).toNat = j.toNat - a.length := by omega
  have e2 : (i - (a.length : Int)).toNat = i.toNat - a.length := by omega
  rw [e1, e2, List.length_take]
  congr 1
  by_cases hj : j.toNat ≤ a.length
  · have : List.take (j.toNat - a.length) b = [] := by rw [show j.toNat - a.length = 0 by omega]; rfl
    rw [this]; simp
  · rw [show min j.toNat a.length = a.length by omega]
theorem cutL_nil {α : Type} {l : List α} {i j : Int} (h : (l.length : Int) ≤ i ∨ j ≤ 0 ∨ j ≤ i) : cutL l i j = [] := by
  unfold cutL
  apply List.drop_eq_nil_of_le
  rw [List.length_take]; omega
theorem cutL_all {α : Type} {l : List α} {i j : Int} (hi : i ≤ 0) (hj : (l.length : Int) ≤ j) : cutL l i j = l := by
  unfold cutL
  rw [show i.toNat = 0 by omega, List.drop_zero, List.take_of_length_le (by omega)]
theorem cutL_len {α : Type} {l : List α} {i j : Int} (hi : 0 ≤ i) (hij : i ≤ j) (hj : j ≤ l.length) : ((cutL l i j).length : Int) = j - i := by
  unfold cutL
  rw [List.length_drop, List.length_take]; omega
/-- The words of a cover are what lies from i to j. -/
theorem cover_word {xs : List GRule} {ls : List Int} (h : lens xs = some ls) {i j : Int} : ∀ (f r : Nat) (p : Int), r < f → r < xs.length →
    (coverR xs ls i j f r p).flatMap (W1 xs) = cutL (W1 xs r) (i - p) (j - p) := by
  intro f
  induction f with
  | zero => intro r p hr; omega
  | succ f ih =>
    intro r p hr hx
    have hw := W1_len h r hx
    have h1 := lens_pos' h hx
    rw [coverR]
    split
    · rename_i c; rw [cutL_nil (by omega)]; rfl
    split
    · rename_i c; rw [cutL_all (by omega) (by omega)]; simp
    rename_i c1 c2
    cases hp : (getR xs r).pair with
    | false => have := lens_letter h hx hp; omega
    | true =>
      obtain ⟨q1, q2, q3, q4, q5⟩ := lens_pair h hx hp
      rw [List.flatMap_append, ih _ _ (by omega) (by omega), ih _ _ (by omega) (by omega), W1_pair h hx hp, cutL_append, W1_len h _ (by omega)]
      congr 2 <;> omega
theorem wordG_pos {xs : List GRule} (h : 0 < xs.length) : wordG xs = W1 xs (xs.length - 1) := by
  rw [wordG, if_neg (by intro e; subst e; simp at h)]
theorem lastI_at {xs : List GRule} {ls : List Int} (h : lens xs = some ls) (_h0 : 0 < xs.length) : lastI ls = ls.getD (xs.length - 1) 0 := by
  rw [lastI, lens_length h]
theorem wordG_len {xs : List GRule} {ls : List Int} (h : lens xs = some ls) : ((wordG xs).length : Int) = lastI ls := by
  by_cases h0 : 0 < xs.length
  · rw [wordG_pos h0, W1_len h _ (by omega), lastI_at h h0]
  · have hx : xs = [] := List.eq_nil_of_length_eq_zero (by omega)
    subst hx
    have : ls = [] := List.eq_nil_of_length_eq_zero (by rw [lens_length h]; rfl)
    subst this; rfl
theorem pieces_word {xs : List GRule} {ls : List Int} (h : lens xs = some ls) {i j : Int} : (piecesL xs ls i j).flatMap (W1 xs) = cutL (wordG xs) i j := by
  unfold piecesL
  split
  · rename_i c
    rw [cover_word h _ _ _ (by omega) (by omega), wordG_pos c.1, Int.sub_zero, Int.sub_zero]
  · rename_i c
    by_cases h0 : 0 < xs.length
    · rw [cutL_nil (by omega)]; rfl
    · have hx : xs = [] := List.eq_nil_of_length_eq_zero (by omega)
      subst hx
      simp [wordG, cutL]
/-- Down to the letter at a place. -/
def letAt (xs : List GRule) (ls : List Int) : Nat → Nat → Int → Nat
  | 0, r, _ => r
  | f + 1, r, i => if (getR xs r).pair then (if i < ls.getD (getR xs r).left.toNat 0 then letAt xs ls f (getR xs r).left.toNat i else letAt xs ls f (getR xs r).right.toNat (i - ls.getD (getR xs r).left.toNat 0)) else r
theorem letAt_word {xs : List GRule} {ls : List Int} (h : lens xs = some ls) : ∀ (f r : Nat) (i : Int), r < f → r < xs.length → 0 ≤ i → i < ls.getD r 0 →
    letAt xs ls f r i < xs.length ∧ (getR xs (letAt xs ls f r i)).pair = false ∧ (W1 xs r)[i.toNat]? = (getR xs (letAt xs ls f r i)).letter.data.toList[0]? := by
  intro f
  induction f with
  | zero => intro r i hr; omega
  | succ f ih =>
    intro r i hr hx hi hlt
    rw [letAt]
    cases hp : (getR xs r).pair with
    | false =>
      have := lens_letter h hx hp
      rw [if_neg (by simp)]
      refine ⟨hx, hp, ?_⟩
      rw [W1_let hp, show i.toNat = 0 by omega]
    | true =>
      obtain ⟨q1, q2, q3, q4, q5⟩ := lens_pair h hx hp
      have hl := W1_len h (getR xs r).left.toNat (by omega)
      rw [if_pos rfl, W1_pair h hx hp]
      by_cases c : i < ls.getD (getR xs r).left.toNat 0
      · rw [if_pos c, List.getElem?_append_left (by omega)]
        exact ih _ _ (by omega) (by omega) hi c
      · rw [if_neg c, List.getElem?_append_right (by omega)]
        have := ih (getR xs r).right.toNat (i - ls.getD (getR xs r).left.toNat 0) (by omega) (by omega) (by omega) (by omega)
        rw [show i.toNat - (W1 xs (getR xs r).left.toNat).length = (i - ls.getD (getR xs r).left.toNat 0).toNat by omega]
        exact this
theorem W1_ok {xs : List GRule} {ls : List Int} (h : lens xs = some ls) : ∀ (r : Nat), r < xs.length → (W1 xs r).all letOk = true := by
  intro r
  induction r using Nat.strongRecOn with
  | _ r ih =>
    intro hx
    cases hp : (getR xs r).pair with
    | false =>
      have hl := lens_isLet h hx hp
      rw [W1_let hp]
      have := wordOk_one (isLet_size hl)
      rw [hl] at this
      unfold wordOk at this
      simp only [Bool.and_eq_true] at this
      exact this.2
    | true =>
      obtain ⟨q1, q2, q3, q4, q5⟩ := lens_pair h hx hp
      rw [W1_pair h hx hp, List.all_append, ih _ q2 (by omega), ih _ q4 (by omega)]; rfl
end Go.Proofs.Ytfapnipmgmpgaaa

