import Derived.Test.YthidgjdjijjkoaaEdit5
import Derived.Test.YthidgjdjijjkoaaEditN
import Derived.Test.YthidgjdjijjkoaaEdit6
import Derived.Test.YthidgjdjijjkoaaEdit7
namespace Go.Proofs.Ythidgjdjijjkoaa
open Go.RowKit

set_option maxRecDepth 100000 in
set_option maxHeartbeats 4000000 in
theorem specPlaceAfter_any (n : Int) (v : Value) (e : GEdit) (p : Int) (w : World) (h : EditV w w.heap.size v e) (hsm : SmallL e.part) (hn : e.part.length ≤ 1099511627776) (hm : e.map.size ≤ maxLen) :
    Calls Try.prog 44 #[.int .i64 n, v, .int .i64 p] w fun r w' => r = .returned (.tuple #[.int .i64 (paV n e p), .int .i64 (paC n e p)]) ∧ Below w.heap.size w w' := by
  obtain ⟨vR, rfl, hR⟩ := h
  have hA : ∀ c : Obj, c = Obj.cells #[.int .i64 e.kind, .int .i64 e.i, .int .i64 e.j, .int .i64 e.k, vR, .string e.map] 79 → EditAt (w.alloc c) (w.alloc c).heap.size w.heap.size e vR := by
    rintro c rfl
    exact ⟨Box6.new (Below.refl _ _), by simp, (hR.below ((Below.refl _ _).alloc (Nat.le_refl _) _)).le (by simp)⟩
  have HA := Lib.hid hA
  clear hA hR
  go_enter Try.func44, Try.ntmps44
  go_wp2_with fail
  refine (l07Ok_any _ vR e _ (HA.out _ rfl) hsm hn hm).mono ?_
  rintro r w1 ⟨rfl, hb1⟩
  have E1 := Lib.hid ((HA.out _ rfl).up hb1)
  have B1 := Lib.hid (((Below.refl w.heap.size w).alloc (Nat.le_refl _) _).trans (hb1.mono (by simp)))
  clear hb1
  by_cases he : editOk e = true
  · have HE := Lib.hid he
    have g0 : (!editOk e) = false := by simp [he]
    have hG := (editOk_get he).1
    have HG := Lib.hid hG
    clear he hG
    by_cases c1 : inR n 0 1000000000000000 = true
    · have C1 := Lib.hid c1
      have hn0 : 0 ≤ n ∧ n ≤ 1000000000000000 := by simpa [inR] using c1
      have Hn := Lib.hid hn0
      clear c1 hn0
      go_wp2_with fail
      refine (l00In_yes _ _ _ _ C1.out).mono ?_
      rintro r w' ⟨rfl, rfl⟩
      by_cases c2 : inR p 0 n = true
      · have C2 := Lib.hid c2
        have hp0 : 0 ≤ p ∧ p ≤ n := by simpa [inR] using c2
        have Hp := Lib.hid hp0
        clear c2 hp0
        go_wp2_with fail
        refine (l00In_yes _ _ _ _ C2.out).mono ?_
        rintro r w' ⟨rfl, rfl⟩
        go_wp2_with fail
        refine (l07Range_any _ vR e n _ E1.out HG.out).mono ?_
        rintro r w2 ⟨rfl, hb2⟩
        have E2 := Lib.hid (E1.out.up hb2)
        have B2 := Lib.hid (B1.out.trans (hb2.mono B1.out.size))
        clear hb2
        by_cases c3 : editFits e n = true
        · have C3 := Lib.hid c3
          have g3 : (!editFits e n) = false := by simp [c3]
          clear c3
          have hall : (inR n 0 1000000000000000 && inR p 0 n && editFits e n) = true := by rw [C1.out, C2.out, C3.out]; rfl
          have Hall := Lib.hid hall
          clear hall
          go_wp2_with fail
          refine (l07Grows_any _ vR e n 1000000000000000 _ E2.out HE.out hsm hn Hn.out.1 Hn.out.2 (by omega) C3.out).mono ?_
          rintro r w3 ⟨rfl, hb3⟩
          have E3 := Lib.hid (E2.out.up hb3)
          have B3 := Lib.hid (B2.out.trans (hb3.mono B2.out.size))
          clear hb3
          have hlow : 0 ≤ editLen e n ∨ ¬ editLen e n ≤ 1000000000000000 := by
            by_cases c : editLen e n ≤ 1000000000000000
            · left; exact editLen_nonneg HE.out C3.out Hn.out.1
            · right; exact c
          by_cases c4 : editLen e n ≤ 1000000000000000
          · have C4 := Lib.hid c4
            have g4 : decide (growV e n 1000000000000000 < 0) = false := by
              have : growV e n 1000000000000000 = editLen e n := by rw [growV, if_pos c4]
              rw [this]; simp; omega
            obtain ⟨G, hGv⟩ : ∃ G, growV e n 1000000000000000 = G := ⟨_, rfl⟩
            rw [hGv] at g4
            rw [hGv]
            obtain ⟨pc, pv⟩ := paC_0 (p := p) HE.out Hall.out C4.out
            have PC := Lib.hid pc
            have PV := Lib.hid pv
            clear pc pv c4 hlow hGv g0 g3
            go_wp2_with fail
            refine (l07Place_any _ vR e n p _ E3.out HE.out hsm hn Hp.out Hn.out.2 C3.out C4.out).mono ?_
            rintro r w4 ⟨rfl, hb4⟩
            have B4 := Lib.hid (B3.out.trans (hb4.mono B3.out.size))
            clear hb4
            go_wp2_with fail
            go_ret2
            exact ⟨by rw [PC.out, PV.out]; rfl, B4.out⟩
          · have g4 : decide (growV e n 1000000000000000 < 0) = true := by
              have : growV e n 1000000000000000 = -1 := by rw [growV, if_neg c4]
              rw [this]; simp
            obtain ⟨G, hGv⟩ : ∃ G, growV e n 1000000000000000 = G := ⟨_, rfl⟩
            rw [hGv] at g4
            rw [hGv]
            obtain ⟨pc, pv⟩ := paC_3 (p := p) HE.out Hall.out c4
            have PC := Lib.hid pc
            have PV := Lib.hid pv
            clear pc pv c4 hlow hGv g0 g3
            go_wp2_with fail
            go_ret2
            exact ⟨by rw [PC.out, PV.out]; rfl, B3.out⟩
        · have c3' : editFits e n = false := by simpa using c3
          have g3 : (!editFits e n) = true := by simp [c3']
          obtain ⟨pc, pv⟩ := paC_2 (n := n) (p := p) HE.out (by rw [C1.out, C2.out, c3']; rfl)
          have PC := Lib.hid pc
          have PV := Lib.hid pv
          clear pc pv c3 c3'
          go_wp2_with fail
          go_ret2
          exact ⟨by rw [PC.out, PV.out]; rfl, B2.out⟩
      · have c2' : inR p 0 n = false := by simpa using c2
        obtain ⟨pc, pv⟩ := paC_2 (n := n) (p := p) HE.out (by rw [C1.out, c2']; rfl)
        have PC := Lib.hid pc
        have PV := Lib.hid pv
        have C2 := Lib.hid c2'
        clear pc pv c2 c2'
        go_wp2_with fail
        refine (l00In_no _ _ _ _ C2.out).mono ?_
        rintro r w' ⟨rfl, rfl⟩
        go_wp2_with fail
        go_ret2
        exact ⟨by rw [PC.out, PV.out]; rfl, B1.out⟩
    · have c1' : inR n 0 1000000000000000 = false := by simpa using c1
      obtain ⟨pc, pv⟩ := paC_2 (n := n) (p := p) HE.out (by rw [c1']; rfl)
      have PC := Lib.hid pc
      have PV := Lib.hid pv
      have C1 := Lib.hid c1'
      clear pc pv c1 c1'
      go_wp2_with fail
      refine (l00In_no _ _ _ _ C1.out).mono ?_
      rintro r w' ⟨rfl, rfl⟩
      go_wp2_with fail
      go_ret2
      exact ⟨by rw [PC.out, PV.out]; rfl, B1.out⟩
  · have he' : editOk e = false := by simpa using he
    have g0 : (!editOk e) = true := by simp [he']
    obtain ⟨pc, pv⟩ := paC_1 (n := n) (p := p) he'
    have PC := Lib.hid pc
    have PV := Lib.hid pv
    clear pc pv he he'
    go_wp2_with fail
    go_ret2
    exact ⟨by rw [PC.out, PV.out]; rfl, B1.out⟩
end Go.Proofs.Ythidgjdjijjkoaa
