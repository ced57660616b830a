import Derived.Test.YtagpjommhoedlaaM2
import Derived.Test.YtagpjommhoedlaaM1
import Derived.Deep.RegionLaw
import Derived.RangeFuncBox
import Derived.Deep.CutRange
import Derived.Deep.DeepCutAuto
namespace Go.Proofs.Ytagpjommhoedlaa
open Go.RowKit

theorem l07Has_lit (s : ByteArray) (n : Int) (b : UInt8) (r : Bool) (hs : s.size ≤ maxLen) (hn : n = b.toNat) (h : hasByte s b = r) :
    Hid (∀ w, Calls Try.prog 101 #[.string s, .int .u8 n] w fun e w' => e = .returned (.bool r) ∧ w = w') := by
  subst h hn; exact fun w => l07Has_any s b w hs
theorem l07Number_lit (n : Int) (b r : Bool) (h : numOk n b = r) :
    Hid (∀ w, Calls Try.prog 104 #[.int .i64 n, .bool b] w fun e w' => e = .returned (.bool r) ∧ w = w') := by
  subst h; exact fun w => l07Number_any n b w

theorem keepEd {wr W W2 : World} {p : Addr} {a : Value} (h : Below wr.heap.size wr W ∧ W.cell? p = some a) (h2 : Below W.heap.size W W2) (hp : p.block < wr.heap.size) : Below wr.heap.size wr W2 ∧ W2.cell? p = some a :=
  ⟨h.1.trans (h2.mono h.1.size), (h2.cell (Nat.lt_of_lt_of_le hp h.1.size)).trans h.2⟩
set_option maxRecDepth 100000 in
set_option maxHeartbeats 4000000 in
theorem l07Ok_any (b : Nat) (vR : Value) (e : GEdit) (w : World) (h : EditAt w w.heap.size b e vR) (hsm : SmallL e.part) (hn : e.part.length ≤ 1099511627776) (hm : e.map.size ≤ maxLen) :
    Calls Try.prog 47 #[.pointer (some ⟨b, 0, none⟩)] w fun r w' => r = .returned (.bool (editOk e)) ∧ Below w.heap.size w w' := by
  have HH := Lib.hid h
  obtain ⟨⟨x0, x1, x2, x3, x4, x5⟩, hlt, hR⟩ := h
  have HR := Lib.hid hR
  obtain ⟨AR, cR, rfl, _⟩ := hR
  by_cases hk : inR e.kind 1 7 = true
  · have HK := Lib.hid hk
    have HE := Lib.hid (ok_split hk)
    obtain ⟨u1, u2, u3, u4, u5⟩ := uses_has hk
    obtain ⟨S, hS⟩ : ∃ S, usesS e.kind = S := ⟨_, rfl⟩
    rw [hS] at u1 u2 u3 u4 u5
    have HS := Lib.hid hS
    have hSm : S.size ≤ maxLen := by unfold maxLen; omega
    have HU := Lib.hid (And.intro u1 (And.intro u2 (And.intro u3 u4)))
    have H4 : (usesJ e.kind = false ∧ usesK e.kind = false ∧ (e.kind == 1) = true ∧ (e.kind == 7) = false) ∨ (usesJ e.kind = true ∧ usesK e.kind = false ∧ (e.kind == 1) = false ∧ (e.kind == 7) = false) ∨ (usesJ e.kind = true ∧ usesK e.kind = true ∧ (e.kind == 1) = false ∧ (e.kind == 7) = false) ∨ (usesJ e.kind = true ∧ usesK e.kind = false ∧ (e.kind == 1) = false ∧ (e.kind == 7) = true) := by
      rcases kind7 hk with h | h | h | h | h | h | h <;> rw [h] <;> simp [usesJ, usesK]
    clear hk hS u1 u2 u3 u4 u5
    go_enter Try.func47, Try.ntmps47
    go_wp2_with fail
    refine (l00In_yes _ _ _ _ HK.out).mono ?_
    rintro r w' ⟨rfl, rfl⟩
    go_wp2_with fail
    refine (l07Uses_any _ _ HK.out).mono ?_
    rintro r w1 ⟨rfl, hb1⟩
    rw [HS.out]
    have HH1 := Lib.hid (HH.out.up hb1)
    have HB1 := Lib.hid hb1
    have z1 : b < w1.heap.size := Nat.lt_of_lt_of_le hlt hb1.size
    clear hb1 x0 x1 x2 x3 x4 x5
    obtain ⟨x0, x1, x2, x3, x4, x5⟩ := HH1.out.box
    go_wp2_with fail
    rcases H4 with ⟨u1, u2, u3, u4⟩ | ⟨u1, u2, u3, u4⟩ | ⟨u1, u2, u3, u4⟩ | ⟨u1, u2, u3, u4⟩
    · rw [u1, u2, u3, u4] at HE HU
      obtain ⟨hJ', hK', hP', hM'⟩ := HU.out
      have CJ := l07Has_lit S 74 74 _ hSm rfl hJ'
      have CK := l07Has_lit S 75 75 _ hSm rfl hK'
      have CP := l07Has_lit S 80 80 _ hSm rfl hP'
      have CM := l07Has_lit S 77 77 _ hSm rfl hM'
      clear hJ' hK' hP' hM'
      clear u1 u2 u3 u4
      by_cases ni : numOk e.i true = true
      · have Ni := Lib.hid ni
        have Di := l07Number_lit e.i true _ ni
        clear ni
        by_cases nj : numOk e.j false = true
        · have Nj := Lib.hid nj
          have Dj := l07Number_lit e.j _ _ nj
          clear nj
          by_cases nk : numOk e.k false = true
          · have Nk := Lib.hid nk
            have Dk := l07Number_lit e.k _ _ nk
            clear nk
            go_quiet (first
              | (go_at_call 101; first | with_reducible exact quiet_left (CJ.out _) | with_reducible exact quiet_left (CK.out _))
              | (go_at_call 104; first | with_reducible exact quiet_left (Di.out _) | with_reducible exact quiet_left (Dj.out _) | with_reducible exact quiet_left (Dk.out _)))
            go_wp2_with fail
            have Ni2 := Lib.hid (show inR e.i 0 1000000000000000 = true from Ni.out)
            have HH2 := Lib.hid (HH1.out.up (below_drewN (Below.refl w1.heap.size w1) nq))
            have HB2 := Lib.hid (HB1.out.trans ((below_drewN (Below.refl w1.heap.size w1) nq).mono HB1.out.size))
            clear x0 x1 x2 x3 x4 x5 z1
            generalize w1.drewN nq = w2 at *
            have z2 : b < w2.heap.size := HH2.out.lt
            obtain ⟨x0, x1, x2, x3, x4, x5⟩ := HH2.out.box
            have KB := And.intro (Below.drew (Below.refl w2.heap.size w2)) (show w2.drew.cell? ⟨b, 4, none⟩ = _ from x4)
            have Y4 := Lib.hid KB.2
            have Z4 := Lib.hid (show b < w2.drew.heap.size from z2)
            have R4 := Lib.hid (HH2.out.sl.up (Below.drew (Below.refl w2.heap.size w2)))
            by_cases cl : 0 < e.part.length
            · have Cl := Lib.hid cl
              have cl' : decide (0 < e.part.length) = true := by simp [cl]
              by_cases cg : gramOk e.part = true
              · have Cg := Lib.hid cg
                go_region_held3 (fun w' => Below w2.heap.size w2 w' ∧ w'.cell? ⟨b, 4, none⟩ = some (.slice AR e.part.length cR))
                  (first | (with_reducible exact KB) | (with_reducible exact keepEd KB hb3 z2))
                  (first
                    | (go_at_call 101; refine (CP.out _).mono ?_; rintro r w' ⟨rfl, rfl⟩)
                    | (go_at_call 63; refine (l02Ok_any b 4 _ e.part _ Y4.out Z4.out R4.out hsm).mono ?_; rintro r w3 ⟨rfl, hb3⟩))
                have HB3 := Lib.hid (HB2.out.trans (((Below.drew (Below.refl w2.heap.size w2)).trans hb3).mono HB2.out.size))
                have y5 := (hb3.cell (p := ⟨b, 5, none⟩) z2).trans (show w2.drew.cell? ⟨b, 5, none⟩ = _ from x5)
                clear KB hb3 x0 x1 x2 x3 x4 x5
                go_wp2_with fail
                refine (CM.out _).mono ?_
                rintro r w' ⟨rfl, rfl⟩
                by_cases cm : e.map.size = 0
                · have Cm := Lib.hid cm
                  have gm := str_empty e.map
                  rw [show (e.map.size == 0) = true by simp [cm]] at gm
                  clear cm
                  go_wp2_with fail
                  go_ret
                  exact ⟨ret_bool (by rw [HE.out]; simp [Ni2.out, Nj.out, Nk.out, Cl.out, Cg.out, Cm.out]), (by repeat (first | exact HB3.out | (refine Below.alloc ?_ (by first | omega | (simp; done) | (simp; omega)) _) | refine below_drewN ?_ _ | refine Below.drew ?_))⟩
                · have Cm := Lib.hid cm
                  have gm := str_empty e.map
                  rw [show (e.map.size == 0) = false by simp [cm]] at gm
                  clear cm
                  go_wp2_with fail
                  go_ret
                  exact ⟨ret_bool (by rw [HE.out]; simp [Ni2.out, Nj.out, Nk.out, Cl.out, Cg.out, Cm.out]), (by repeat (first | exact HB3.out | (refine Below.alloc ?_ (by first | omega | (simp; done) | (simp; omega)) _) | refine below_drewN ?_ _ | refine Below.drew ?_))⟩
              · have cg' : gramOk e.part = false := by simpa using cg
                have Cg := Lib.hid cg'
                clear cg
                go_region_held3 (fun w' => Below w2.heap.size w2 w' ∧ w'.cell? ⟨b, 4, none⟩ = some (.slice AR e.part.length cR))
                  (first | (with_reducible exact KB) | (with_reducible exact keepEd KB hb3 z2))
                  (first
                    | (go_at_call 101; refine (CP.out _).mono ?_; rintro r w' ⟨rfl, rfl⟩)
                    | (go_at_call 63; refine (l02Ok_any b 4 _ e.part _ Y4.out Z4.out R4.out hsm).mono ?_; rintro r w3 ⟨rfl, hb3⟩))
                have HB3 := Lib.hid (HB2.out.trans (((Below.drew (Below.refl w2.heap.size w2)).trans hb3).mono HB2.out.size))
                have y5 := (hb3.cell (p := ⟨b, 5, none⟩) z2).trans (show w2.drew.cell? ⟨b, 5, none⟩ = _ from x5)
                clear KB hb3 x0 x1 x2 x3 x4 x5
                go_wp2_with fail
                go_ret
                exact ⟨ret_bool (by rw [HE.out]; simp [Cg.out]), (by repeat (first | exact HB3.out | (refine Below.alloc ?_ (by first | omega | (simp; done) | (simp; omega)) _) | refine below_drewN ?_ _ | refine Below.drew ?_))⟩
            · have hL : e.part.length = 0 := by omega
              have Cl := Lib.hid cl
              rw [hL] at KB Y4 R4 x4
              clear cl hL
              go_quiet ((go_at_call 101; with_reducible exact quiet_left (CP.out _)))
              have HB3 := Lib.hid (HB2.out.trans ((below_drewN (Below.refl w2.heap.size w2) nq).mono HB2.out.size))
              go_wp2_with fail
              go_ret
              exact ⟨ret_bool (by rw [HE.out]; simp [Cl.out]), (by repeat (first | exact HB3.out | (refine Below.alloc ?_ (by first | omega | (simp; done) | (simp; omega)) _) | refine below_drewN ?_ _ | refine Below.drew ?_))⟩
          · have nk' : numOk e.k false = false := by simpa using nk
            have Nk := Lib.hid nk'
            have Dk := l07Number_lit e.k _ _ nk'
            clear nk nk'
            go_quiet (first
              | (go_at_call 101; first | with_reducible exact quiet_left (CJ.out _) | with_reducible exact quiet_left (CK.out _))
              | (go_at_call 104; first | with_reducible exact quiet_left (Di.out _) | with_reducible exact quiet_left (Dj.out _) | with_reducible exact quiet_left (Dk.out _)))
            go_wp2_with fail
            go_ret
            exact ⟨ret_bool (by rw [HE.out]; simp [Nk.out]), (by repeat (first | exact HB1.out | (refine Below.alloc ?_ (by first | omega | (simp; done) | (simp; omega)) _) | refine below_drewN ?_ _ | refine Below.drew ?_))⟩
        · have nj' : numOk e.j false = false := by simpa using nj
          have Nj := Lib.hid nj'
          have Dj := l07Number_lit e.j _ _ nj'
          clear nj nj'
          go_quiet (first
            | (go_at_call 101; first | with_reducible exact quiet_left (CJ.out _) | with_reducible exact quiet_left (CK.out _))
            | (go_at_call 104; first | with_reducible exact quiet_left (Di.out _) | with_reducible exact quiet_left (Dj.out _) | with_reducible exact quiet_left (Dk.out _)))
          go_wp2_with fail
          go_ret
          exact ⟨ret_bool (by rw [HE.out]; simp [Nj.out]), (by repeat (first | exact HB1.out | (refine Below.alloc ?_ (by first | omega | (simp; done) | (simp; omega)) _) | refine below_drewN ?_ _ | refine Below.drew ?_))⟩
      · have ni' : numOk e.i true = false := by simpa using ni
        have Ni := Lib.hid ni'
        have Ni2 := Lib.hid (show inR e.i 0 1000000000000000 = false from ni')
        have Di := l07Number_lit e.i true _ ni'
        clear ni ni'
        go_quiet (first
          | (go_at_call 101; first | with_reducible exact quiet_left (CJ.out _) | with_reducible exact quiet_left (CK.out _))
          | (go_at_call 104; first | with_reducible exact quiet_left (Di.out _) | with_reducible exact quiet_left (Dj.out _) | with_reducible exact quiet_left (Dk.out _)))
        go_wp2_with fail
        go_ret
        exact ⟨ret_bool (by rw [HE.out]; simp [Ni2.out]), (by repeat (first | exact HB1.out | (refine Below.alloc ?_ (by first | omega | (simp; done) | (simp; omega)) _) | refine below_drewN ?_ _ | refine Below.drew ?_))⟩
    · rw [u1, u2, u3, u4] at HE HU
      obtain ⟨hJ', hK', hP', hM'⟩ := HU.out
      have CJ := l07Has_lit S 74 74 _ hSm rfl hJ'
      have CK := l07Has_lit S 75 75 _ hSm rfl hK'
      have CP := l07Has_lit S 80 80 _ hSm rfl hP'
      have CM := l07Has_lit S 77 77 _ hSm rfl hM'
      clear hJ' hK' hP' hM'
      clear u1 u2 u3 u4
      by_cases ni : numOk e.i true = true
      · have Ni := Lib.hid ni
        have Di := l07Number_lit e.i true _ ni
        clear ni
        by_cases nj : numOk e.j true = true
        · have Nj := Lib.hid nj
          have Dj := l07Number_lit e.j _ _ nj
          clear nj
          by_cases nk : numOk e.k false = true
          · have Nk := Lib.hid nk
            have Dk := l07Number_lit e.k _ _ nk
            clear nk
            by_cases nij : e.j < e.i
            · have Nij := Lib.hid nij
              go_quiet (first
                | (go_at_call 101; first | with_reducible exact quiet_left (CJ.out _) | with_reducible exact quiet_left (CK.out _))
                | (go_at_call 104; first | with_reducible exact quiet_left (Di.out _) | with_reducible exact quiet_left (Dj.out _) | with_reducible exact quiet_left (Dk.out _)))
              go_wp2_with fail
              go_ret
              exact ⟨ret_bool (by rw [HE.out]; simp [Nij.out]), (by repeat (first | exact HB1.out | (refine Below.alloc ?_ (by first | omega | (simp; done) | (simp; omega)) _) | refine below_drewN ?_ _ | refine Below.drew ?_))⟩
            · have nij' : decide (e.j < e.i) = false := by simp; omega
              have Nij := Lib.hid nij'
              go_quiet (first
                | (go_at_call 101; first | with_reducible exact quiet_left (CJ.out _) | with_reducible exact quiet_left (CK.out _))
                | (go_at_call 104; first | with_reducible exact quiet_left (Di.out _) | with_reducible exact quiet_left (Dj.out _) | with_reducible exact quiet_left (Dk.out _)))
              go_wp2_with fail
              have Ni2 := Lib.hid (show inR e.i 0 1000000000000000 = true from Ni.out)
              have HH2 := Lib.hid (HH1.out.up (below_drewN (Below.refl w1.heap.size w1) nq))
              have HB2 := Lib.hid (HB1.out.trans ((below_drewN (Below.refl w1.heap.size w1) nq).mono HB1.out.size))
              clear x0 x1 x2 x3 x4 x5 z1
              generalize w1.drewN nq = w2 at *
              have z2 : b < w2.heap.size := HH2.out.lt
              obtain ⟨x0, x1, x2, x3, x4, x5⟩ := HH2.out.box
              have KB := And.intro (Below.drew (Below.refl w2.heap.size w2)) (show w2.drew.cell? ⟨b, 4, none⟩ = _ from x4)
              have Y4 := Lib.hid KB.2
              have Z4 := Lib.hid (show b < w2.drew.heap.size from z2)
              have R4 := Lib.hid (HH2.out.sl.up (Below.drew (Below.refl w2.heap.size w2)))
              by_cases cl : 0 < e.part.length
              · have Cl := Lib.hid cl
                have cl' : decide (0 < e.part.length) = true := by simp [cl]
                go_quiet ((go_at_call 101; with_reducible exact quiet_left (CP.out _)))
                have HB3 := Lib.hid (HB2.out.trans ((below_drewN (Below.refl w2.heap.size w2) nq).mono HB2.out.size))
                go_wp2_with fail
                go_ret
                exact ⟨ret_bool (by rw [HE.out]; simp [Cl.out]), (by repeat (first | exact HB3.out | (refine Below.alloc ?_ (by first | omega | (simp; done) | (simp; omega)) _) | refine below_drewN ?_ _ | refine Below.drew ?_))⟩
              · have Cg := Lib.hid (emptyOk cl)
                have cg : gramOk e.part = true := emptyOk cl
                have hL : e.part.length = 0 := by omega
                have Cl := Lib.hid cl
                rw [hL] at KB Y4 R4 x4
                clear cl hL
                go_region_held3 (fun w' => Below w2.heap.size w2 w' ∧ w'.cell? ⟨b, 4, none⟩ = some (.slice AR 0 cR))
                  (first | (with_reducible exact KB) | (with_reducible exact keepEd KB hb3 z2))
                  (first
                    | (go_at_call 101; refine (CP.out _).mono ?_; rintro r w' ⟨rfl, rfl⟩)
                    | (go_at_call 63; refine (l02Ok_any b 4 _ e.part _ Y4.out Z4.out R4.out hsm).mono ?_; rintro r w3 ⟨rfl, hb3⟩))
                have HB3 := Lib.hid (HB2.out.trans (((Below.drew (Below.refl w2.heap.size w2)).trans hb3).mono HB2.out.size))
                have y5 := (hb3.cell (p := ⟨b, 5, none⟩) z2).trans (show w2.drew.cell? ⟨b, 5, none⟩ = _ from x5)
                clear KB hb3 x0 x1 x2 x3 x4 x5
                go_wp2_with fail
                refine (CM.out _).mono ?_
                rintro r w' ⟨rfl, rfl⟩
                by_cases cm : e.map.size = 0
                · have Cm := Lib.hid cm
                  have gm := str_empty e.map
                  rw [show (e.map.size == 0) = true by simp [cm]] at gm
                  clear cm
                  go_wp2_with fail
                  go_ret
                  exact ⟨ret_bool (by rw [HE.out]; simp [Ni2.out, Nj.out, Nk.out, Nij.out, Cl.out, Cg.out, Cm.out]), (by repeat (first | exact HB3.out | (refine Below.alloc ?_ (by first | omega | (simp; done) | (simp; omega)) _) | refine below_drewN ?_ _ | refine Below.drew ?_))⟩
                · have Cm := Lib.hid cm
                  have gm := str_empty e.map
                  rw [show (e.map.size == 0) = false by simp [cm]] at gm
                  clear cm
                  go_wp2_with fail
                  go_ret
                  exact ⟨ret_bool (by rw [HE.out]; simp [Ni2.out, Nj.out, Nk.out, Nij.out, Cl.out, Cg.out, Cm.out]), (by repeat (first | exact HB3.out | (refine Below.alloc ?_ (by first | omega | (simp; done) | (simp; omega)) _) | refine below_drewN ?_ _ | refine Below.drew ?_))⟩
          · have nk' : numOk e.k false = false := by simpa using nk
            have Nk := Lib.hid nk'
            have Dk := l07Number_lit e.k _ _ nk'
            clear nk nk'
            go_quiet (first
              | (go_at_call 101; first | with_reducible exact quiet_left (CJ.out _) | with_reducible exact quiet_left (CK.out _))
              | (go_at_call 104; first | with_reducible exact quiet_left (Di.out _) | with_reducible exact quiet_left (Dj.out _) | with_reducible exact quiet_left (Dk.out _)))
            go_wp2_with fail
            go_ret
            exact ⟨ret_bool (by rw [HE.out]; simp [Nk.out]), (by repeat (first | exact HB1.out | (refine Below.alloc ?_ (by first | omega | (simp; done) | (simp; omega)) _) | refine below_drewN ?_ _ | refine Below.drew ?_))⟩
        · have nj' : numOk e.j true = false := by simpa using nj
          have Nj := Lib.hid nj'
          have Dj := l07Number_lit e.j _ _ nj'
          clear nj nj'
          go_quiet (first
            | (go_at_call 101; first | with_reducible exact quiet_left (CJ.out _) | with_reducible exact quiet_left (CK.out _))
            | (go_at_call 104; first | with_reducible exact quiet_left (Di.out _) | with_reducible exact quiet_left (Dj.out _) | with_reducible exact quiet_left (Dk.out _)))
          go_wp2_with fail
          go_ret
          exact ⟨ret_bool (by rw [HE.out]; simp [Nj.out]), (by repeat (first | exact HB1.out | (refine Below.alloc ?_ (by first | omega | (simp; done) | (simp; omega)) _) | refine below_drewN ?_ _ | refine Below.drew ?_))⟩
      · have ni' : numOk e.i true = false := by simpa using ni
        have Ni := Lib.hid ni'
        have Ni2 := Lib.hid (show inR e.i 0 1000000000000000 = false from ni')
        have Di := l07Number_lit e.i true _ ni'
        clear ni ni'
        go_quiet (first
          | (go_at_call 101; first | with_reducible exact quiet_left (CJ.out _) | with_reducible exact quiet_left (CK.out _))
          | (go_at_call 104; first | with_reducible exact quiet_left (Di.out _) | with_reducible exact quiet_left (Dj.out _) | with_reducible exact quiet_left (Dk.out _)))
        go_wp2_with fail
        go_ret
        exact ⟨ret_bool (by rw [HE.out]; simp [Ni2.out]), (by repeat (first | exact HB1.out | (refine Below.alloc ?_ (by first | omega | (simp; done) | (simp; omega)) _) | refine below_drewN ?_ _ | refine Below.drew ?_))⟩
    · rw [u1, u2, u3, u4] at HE HU
      obtain ⟨hJ', hK', hP', hM'⟩ := HU.out
      have CJ := l07Has_lit S 74 74 _ hSm rfl hJ'
      have CK := l07Has_lit S 75 75 _ hSm rfl hK'
      have CP := l07Has_lit S 80 80 _ hSm rfl hP'
      have CM := l07Has_lit S 77 77 _ hSm rfl hM'
      clear hJ' hK' hP' hM'
      clear u1 u2 u3 u4
      by_cases ni : numOk e.i true = true
      · have Ni := Lib.hid ni
        have Di := l07Number_lit e.i true _ ni
        clear ni
        by_cases nj : numOk e.j true = true
        · have Nj := Lib.hid nj
          have Dj := l07Number_lit e.j _ _ nj
          clear nj
          by_cases nk : numOk e.k true = true
          · have Nk := Lib.hid nk
            have Dk := l07Number_lit e.k _ _ nk
            clear nk
            by_cases nij : e.j < e.i
            · have Nij := Lib.hid nij
              go_quiet (first
                | (go_at_call 101; first | with_reducible exact quiet_left (CJ.out _) | with_reducible exact quiet_left (CK.out _))
                | (go_at_call 104; first | with_reducible exact quiet_left (Di.out _) | with_reducible exact quiet_left (Dj.out _) | with_reducible exact quiet_left (Dk.out _)))
              go_wp2_with fail
              go_ret
              exact ⟨ret_bool (by rw [HE.out]; simp [Nij.out]), (by repeat (first | exact HB1.out | (refine Below.alloc ?_ (by first | omega | (simp; done) | (simp; omega)) _) | refine below_drewN ?_ _ | refine Below.drew ?_))⟩
            · have nij' : decide (e.j < e.i) = false := by simp; omega
              have Nij := Lib.hid nij'
              go_quiet (first
                | (go_at_call 101; first | with_reducible exact quiet_left (CJ.out _) | with_reducible exact quiet_left (CK.out _))
                | (go_at_call 104; first | with_reducible exact quiet_left (Di.out _) | with_reducible exact quiet_left (Dj.out _) | with_reducible exact quiet_left (Dk.out _)))
              go_wp2_with fail
              have Ni2 := Lib.hid (show inR e.i 0 1000000000000000 = true from Ni.out)
              have HH2 := Lib.hid (HH1.out.up (below_drewN (Below.refl w1.heap.size w1) nq))
              have HB2 := Lib.hid (HB1.out.trans ((below_drewN (Below.refl w1.heap.size w1) nq).mono HB1.out.size))
              clear x0 x1 x2 x3 x4 x5 z1
              generalize w1.drewN nq = w2 at *
              have z2 : b < w2.heap.size := HH2.out.lt
              obtain ⟨x0, x1, x2, x3, x4, x5⟩ := HH2.out.box
              have KB := And.intro (Below.drew (Below.refl w2.heap.size w2)) (show w2.drew.cell? ⟨b, 4, none⟩ = _ from x4)
              have Y4 := Lib.hid KB.2
              have Z4 := Lib.hid (show b < w2.drew.heap.size from z2)
              have R4 := Lib.hid (HH2.out.sl.up (Below.drew (Below.refl w2.heap.size w2)))
              by_cases cl : 0 < e.part.length
              · have Cl := Lib.hid cl
                have cl' : decide (0 < e.part.length) = true := by simp [cl]
                go_quiet ((go_at_call 101; with_reducible exact quiet_left (CP.out _)))
                have HB3 := Lib.hid (HB2.out.trans ((below_drewN (Below.refl w2.heap.size w2) nq).mono HB2.out.size))
                go_wp2_with fail
                go_ret
                exact ⟨ret_bool (by rw [HE.out]; simp [Cl.out]), (by repeat (first | exact HB3.out | (refine Below.alloc ?_ (by first | omega | (simp; done) | (simp; omega)) _) | refine below_drewN ?_ _ | refine Below.drew ?_))⟩
              · have Cg := Lib.hid (emptyOk cl)
                have cg : gramOk e.part = true := emptyOk cl
                have hL : e.part.length = 0 := by omega
                have Cl := Lib.hid cl
                rw [hL] at KB Y4 R4 x4
                clear cl hL
                go_region_held3 (fun w' => Below w2.heap.size w2 w' ∧ w'.cell? ⟨b, 4, none⟩ = some (.slice AR 0 cR))
                  (first | (with_reducible exact KB) | (with_reducible exact keepEd KB hb3 z2))
                  (first
                    | (go_at_call 101; refine (CP.out _).mono ?_; rintro r w' ⟨rfl, rfl⟩)
                    | (go_at_call 63; refine (l02Ok_any b 4 _ e.part _ Y4.out Z4.out R4.out hsm).mono ?_; rintro r w3 ⟨rfl, hb3⟩))
                have HB3 := Lib.hid (HB2.out.trans (((Below.drew (Below.refl w2.heap.size w2)).trans hb3).mono HB2.out.size))
                have y5 := (hb3.cell (p := ⟨b, 5, none⟩) z2).trans (show w2.drew.cell? ⟨b, 5, none⟩ = _ from x5)
                clear KB hb3 x0 x1 x2 x3 x4 x5
                go_wp2_with fail
                refine (CM.out _).mono ?_
                rintro r w' ⟨rfl, rfl⟩
                by_cases cm : e.map.size = 0
                · have Cm := Lib.hid cm
                  have gm := str_empty e.map
                  rw [show (e.map.size == 0) = true by simp [cm]] at gm
                  clear cm
                  go_wp2_with fail
                  go_ret
                  exact ⟨ret_bool (by rw [HE.out]; simp [Ni2.out, Nj.out, Nk.out, Nij.out, Cl.out, Cg.out, Cm.out]), (by repeat (first | exact HB3.out | (refine Below.alloc ?_ (by first | omega | (simp; done) | (simp; omega)) _) | refine below_drewN ?_ _ | refine Below.drew ?_))⟩
                · have Cm := Lib.hid cm
                  have gm := str_empty e.map
                  rw [show (e.map.size == 0) = false by simp [cm]] at gm
                  clear cm
                  go_wp2_with fail
                  go_ret
                  exact ⟨ret_bool (by rw [HE.out]; simp [Ni2.out, Nj.out, Nk.out, Nij.out, Cl.out, Cg.out, Cm.out]), (by repeat (first | exact HB3.out | (refine Below.alloc ?_ (by first | omega | (simp; done) | (simp; omega)) _) | refine below_drewN ?_ _ | refine Below.drew ?_))⟩
          · have nk' : numOk e.k true = false := by simpa using nk
            have Nk := Lib.hid nk'
            have Dk := l07Number_lit e.k _ _ nk'
            clear nk nk'
            go_quiet (first
              | (go_at_call 101; first | with_reducible exact quiet_left (CJ.out _) | with_reducible exact quiet_left (CK.out _))
              | (go_at_call 104; first | with_reducible exact quiet_left (Di.out _) | with_reducible exact quiet_left (Dj.out _) | with_reducible exact quiet_left (Dk.out _)))
            go_wp2_with fail
            go_ret
            exact ⟨ret_bool (by rw [HE.out]; simp [Nk.out]), (by repeat (first | exact HB1.out | (refine Below.alloc ?_ (by first | omega | (simp; done) | (simp; omega)) _) | refine below_drewN ?_ _ | refine Below.drew ?_))⟩
        · have nj' : numOk e.j true = false := by simpa using nj
          have Nj := Lib.hid nj'
          have Dj := l07Number_lit e.j _ _ nj'
          clear nj nj'
          go_quiet (first
            | (go_at_call 101; first | with_reducible exact quiet_left (CJ.out _) | with_reducible exact quiet_left (CK.out _))
            | (go_at_call 104; first | with_reducible exact quiet_left (Di.out _) | with_reducible exact quiet_left (Dj.out _) | with_reducible exact quiet_left (Dk.out _)))
          go_wp2_with fail
          go_ret
          exact ⟨ret_bool (by rw [HE.out]; simp [Nj.out]), (by repeat (first | exact HB1.out | (refine Below.alloc ?_ (by first | omega | (simp; done) | (simp; omega)) _) | refine below_drewN ?_ _ | refine Below.drew ?_))⟩
      · have ni' : numOk e.i true = false := by simpa using ni
        have Ni := Lib.hid ni'
        have Ni2 := Lib.hid (show inR e.i 0 1000000000000000 = false from ni')
        have Di := l07Number_lit e.i true _ ni'
        clear ni ni'
        go_quiet (first
          | (go_at_call 101; first | with_reducible exact quiet_left (CJ.out _) | with_reducible exact quiet_left (CK.out _))
          | (go_at_call 104; first | with_reducible exact quiet_left (Di.out _) | with_reducible exact quiet_left (Dj.out _) | with_reducible exact quiet_left (Dk.out _)))
        go_wp2_with fail
        go_ret
        exact ⟨ret_bool (by rw [HE.out]; simp [Ni2.out]), (by repeat (first | exact HB1.out | (refine Below.alloc ?_ (by first | omega | (simp; done) | (simp; omega)) _) | refine below_drewN ?_ _ | refine Below.drew ?_))⟩
    · rw [u1, u2, u3, u4] at HE HU
      obtain ⟨hJ', hK', hP', hM'⟩ := HU.out
      have CJ := l07Has_lit S 74 74 _ hSm rfl hJ'
      have CK := l07Has_lit S 75 75 _ hSm rfl hK'
      have CP := l07Has_lit S 80 80 _ hSm rfl hP'
      have CM := l07Has_lit S 77 77 _ hSm rfl hM'
      clear hJ' hK' hP' hM'
      clear u1 u2 u3 u4
      by_cases ni : numOk e.i true = true
      · have Ni := Lib.hid ni
        have Di := l07Number_lit e.i true _ ni
        clear ni
        by_cases nj : numOk e.j true = true
        · have Nj := Lib.hid nj
          have Dj := l07Number_lit e.j _ _ nj
          clear nj
          by_cases nk : numOk e.k false = true
          · have Nk := Lib.hid nk
            have Dk := l07Number_lit e.k _ _ nk
            clear nk
            by_cases nij : e.j < e.i
            · have Nij := Lib.hid nij
              go_quiet (first
                | (go_at_call 101; first | with_reducible exact quiet_left (CJ.out _) | with_reducible exact quiet_left (CK.out _))
                | (go_at_call 104; first | with_reducible exact quiet_left (Di.out _) | with_reducible exact quiet_left (Dj.out _) | with_reducible exact quiet_left (Dk.out _)))
              go_wp2_with fail
              go_ret
              exact ⟨ret_bool (by rw [HE.out]; simp [Nij.out]), (by repeat (first | exact HB1.out | (refine Below.alloc ?_ (by first | omega | (simp; done) | (simp; omega)) _) | refine below_drewN ?_ _ | refine Below.drew ?_))⟩
            · have nij' : decide (e.j < e.i) = false := by simp; omega
              have Nij := Lib.hid nij'
              go_quiet (first
                | (go_at_call 101; first | with_reducible exact quiet_left (CJ.out _) | with_reducible exact quiet_left (CK.out _))
                | (go_at_call 104; first | with_reducible exact quiet_left (Di.out _) | with_reducible exact quiet_left (Dj.out _) | with_reducible exact quiet_left (Dk.out _)))
              go_wp2_with fail
              have Ni2 := Lib.hid (show inR e.i 0 1000000000000000 = true from Ni.out)
              have HH2 := Lib.hid (HH1.out.up (below_drewN (Below.refl w1.heap.size w1) nq))
              have HB2 := Lib.hid (HB1.out.trans ((below_drewN (Below.refl w1.heap.size w1) nq).mono HB1.out.size))
              clear x0 x1 x2 x3 x4 x5 z1
              generalize w1.drewN nq = w2 at *
              have z2 : b < w2.heap.size := HH2.out.lt
              obtain ⟨x0, x1, x2, x3, x4, x5⟩ := HH2.out.box
              have KB := And.intro (Below.drew (Below.refl w2.heap.size w2)) (show w2.drew.cell? ⟨b, 4, none⟩ = _ from x4)
              have Y4 := Lib.hid KB.2
              have Z4 := Lib.hid (show b < w2.drew.heap.size from z2)
              have R4 := Lib.hid (HH2.out.sl.up (Below.drew (Below.refl w2.heap.size w2)))
              by_cases cl : 0 < e.part.length
              · have Cl := Lib.hid cl
                have cl' : decide (0 < e.part.length) = true := by simp [cl]
                go_quiet ((go_at_call 101; with_reducible exact quiet_left (CP.out _)))
                have HB3 := Lib.hid (HB2.out.trans ((below_drewN (Below.refl w2.heap.size w2) nq).mono HB2.out.size))
                go_wp2_with fail
                go_ret
                exact ⟨ret_bool (by rw [HE.out]; simp [Cl.out]), (by repeat (first | exact HB3.out | (refine Below.alloc ?_ (by first | omega | (simp; done) | (simp; omega)) _) | refine below_drewN ?_ _ | refine Below.drew ?_))⟩
              · have Cg := Lib.hid (emptyOk cl)
                have cg : gramOk e.part = true := emptyOk cl
                have hL : e.part.length = 0 := by omega
                have Cl := Lib.hid cl
                rw [hL] at KB Y4 R4 x4
                clear cl hL
                go_region_held3 (fun w' => Below w2.heap.size w2 w' ∧ w'.cell? ⟨b, 4, none⟩ = some (.slice AR 0 cR))
                  (first | (with_reducible exact KB) | (with_reducible exact keepEd KB hb3 z2))
                  (first
                    | (go_at_call 101; refine (CP.out _).mono ?_; rintro r w' ⟨rfl, rfl⟩)
                    | (go_at_call 63; refine (l02Ok_any b 4 _ e.part _ Y4.out Z4.out R4.out hsm).mono ?_; rintro r w3 ⟨rfl, hb3⟩))
                have HB3 := Lib.hid (HB2.out.trans (((Below.drew (Below.refl w2.heap.size w2)).trans hb3).mono HB2.out.size))
                have y5 := (hb3.cell (p := ⟨b, 5, none⟩) z2).trans (show w2.drew.cell? ⟨b, 5, none⟩ = _ from x5)
                clear KB hb3 x0 x1 x2 x3 x4 x5
                go_wp2_with fail
                refine (CM.out _).mono ?_
                rintro r w' ⟨rfl, rfl⟩
                by_cases cs : e.map.size = 4
                · have Cs := Lib.hid cs
                  have gs : ((e.map.size : Int) == 4) = true := by simp [cs]
                  clear cs
                  go_wp2_with fail
                  refine (l01Ok_any _ _ hm).mono ?_
                  rintro r w' ⟨rfl, rfl⟩
                  go_wp2_with fail
                  go_ret
                  exact ⟨ret_bool (by rw [HE.out]; simp [Ni2.out, Nj.out, Nk.out, Nij.out, Cl.out, Cg.out, Cs.out]), (by repeat (first | exact HB3.out | (refine Below.alloc ?_ (by first | omega | (simp; done) | (simp; omega)) _) | refine below_drewN ?_ _ | refine Below.drew ?_))⟩
                · have Cs := Lib.hid cs
                  have gs : ((e.map.size : Int) == 4) = false := by rw [beq_eq_false_iff_ne]; omega
                  clear cs
                  go_wp2_with fail
                  go_ret
                  exact ⟨ret_bool (by rw [HE.out]; simp [Cs.out]), (by repeat (first | exact HB3.out | (refine Below.alloc ?_ (by first | omega | (simp; done) | (simp; omega)) _) | refine below_drewN ?_ _ | refine Below.drew ?_))⟩
          · have nk' : numOk e.k false = false := by simpa using nk
            have Nk := Lib.hid nk'
            have Dk := l07Number_lit e.k _ _ nk'
            clear nk nk'
            go_quiet (first
              | (go_at_call 101; first | with_reducible exact quiet_left (CJ.out _) | with_reducible exact quiet_left (CK.out _))
              | (go_at_call 104; first | with_reducible exact quiet_left (Di.out _) | with_reducible exact quiet_left (Dj.out _) | with_reducible exact quiet_left (Dk.out _)))
            go_wp2_with fail
            go_ret
            exact ⟨ret_bool (by rw [HE.out]; simp [Nk.out]), (by repeat (first | exact HB1.out | (refine Below.alloc ?_ (by first | omega | (simp; done) | (simp; omega)) _) | refine below_drewN ?_ _ | refine Below.drew ?_))⟩
        · have nj' : numOk e.j true = false := by simpa using nj
          have Nj := Lib.hid nj'
          have Dj := l07Number_lit e.j _ _ nj'
          clear nj nj'
          go_quiet (first
            | (go_at_call 101; first | with_reducible exact quiet_left (CJ.out _) | with_reducible exact quiet_left (CK.out _))
            | (go_at_call 104; first | with_reducible exact quiet_left (Di.out _) | with_reducible exact quiet_left (Dj.out _) | with_reducible exact quiet_left (Dk.out _)))
          go_wp2_with fail
          go_ret
          exact ⟨ret_bool (by rw [HE.out]; simp [Nj.out]), (by repeat (first | exact HB1.out | (refine Below.alloc ?_ (by first | omega | (simp; done) | (simp; omega)) _) | refine below_drewN ?_ _ | refine Below.drew ?_))⟩
      · have ni' : numOk e.i true = false := by simpa using ni
        have Ni := Lib.hid ni'
        have Ni2 := Lib.hid (show inR e.i 0 1000000000000000 = false from ni')
        have Di := l07Number_lit e.i true _ ni'
        clear ni ni'
        go_quiet (first
          | (go_at_call 101; first | with_reducible exact quiet_left (CJ.out _) | with_reducible exact quiet_left (CK.out _))
          | (go_at_call 104; first | with_reducible exact quiet_left (Di.out _) | with_reducible exact quiet_left (Dj.out _) | with_reducible exact quiet_left (Dk.out _)))
        go_wp2_with fail
        go_ret
        exact ⟨ret_bool (by rw [HE.out]; simp [Ni2.out]), (by repeat (first | exact HB1.out | (refine Below.alloc ?_ (by first | omega | (simp; done) | (simp; omega)) _) | refine below_drewN ?_ _ | refine Below.drew ?_))⟩
  · have hk' : inR e.kind 1 7 = false := by simpa using hk
    have HK := Lib.hid hk'
    clear hk hk'
    go_enter Try.func47, Try.ntmps47
    go_wp2_with fail
    refine (l00In_no _ _ _ _ HK.out).mono ?_
    rintro r w' ⟨rfl, rfl⟩
    go_wp2_with fail
    go_ret
    exact ⟨ret_bool (by simp [editOk, HK.out]), (by repeat (first | exact Below.refl _ _ | (refine Below.alloc ?_ (by first | omega | (simp; done) | (simp; omega)) _) | refine below_drewN ?_ _ | refine Below.drew ?_))⟩
end Go.Proofs.Ytagpjommhoedlaa

namespace Go.Proofs.Ytagpjommhoedlaa
open Go.RowKit

theorem editLen_nonneg {e : GEdit} {n : Int} (h : editOk e = true) (hf : editFits e n = true) (hn : 0 ≤ n) : 0 ≤ editLen e n := by
  obtain ⟨g1, g2, g3, g4, g5, g6, g7⟩ := editOk_get h
  have hb := gramLen_bounds e.part
  unfold editLen
  rcases kind7 g1 with h | h | h | h | h | h | h
  · simp [h]; omega
  · simp [h]; simp [editFits, h] at hf; have := g5 (by omega); omega
  · simp [h]; have := g5 (by omega); omega
  · simp [h]; omega
  · simp [h]; omega
  · simp [h]; simp [editFits, h] at hf; have := g5 (by omega); have := Int.mul_nonneg (show 0 ≤ e.j - e.i by omega) g4.1; omega
  · simp [h]; omega
end Go.Proofs.Ytagpjommhoedlaa

namespace Go.Proofs.Ytagpjommhoedlaa

/-- The letters of a rule's word. -/
def wordR (xs : List GRule) : Nat → Nat → List UInt8
  | 0, _ => []
  | f + 1, r => if (getR xs r).pair then wordR xs f (getR xs r).left.toNat ++ wordR xs f (getR xs r).right.toNat else (getR xs r).letter.data.toList
def W1 (xs : List GRule) (r : Nat) : List UInt8 := wordR xs (r + 1) r
/-- The word of a grammar. -/
def wordG (xs : List GRule) : List UInt8 := if xs = [] then [] else W1 xs (xs.length - 1)
/-- What lies from i to j. -/
def cutL {α : Type} (l : List α) (i j : Int) : List α := (l.take j.toNat).drop i.toNat

theorem wordR_fuel {xs : List GRule} {ls : List Int} (h : lens xs = some ls) : ∀ (f r : Nat), r < f → r < xs.length → wordR xs f r = W1 xs r := by
  intro f
  induction f using Nat.strongRecOn with
  | _ f ih =>
    intro r hr hx
    obtain ⟨g, rfl⟩ : ∃ g, f = g + 1 := ⟨f - 1, by omega⟩
    unfold W1
    rw [wordR, wordR]
    cases hp : (getR xs r).pair with
    | false => rfl
    | true =>
      obtain ⟨q1, q2, q3, q4, q5⟩ := lens_pair h hx hp
      rw [if_pos rfl, if_pos rfl, ih g (by omega) _ (by omega) (by omega), ih g (by omega) _ (by omega) (by omega)]
      by_cases e : r = g
      · subst e
        rw [ih r (by omega) _ (by omega) (by omega), ih r (by omega) _ (by omega) (by omega)]
      · rw [ih r (by omega) _ q2 (by omega), ih r (by omega) _ q4 (by omega)]
theorem W1_pair {xs : List GRule} {ls : List Int} (h : lens xs = some ls) {r : Nat} (hx : r < xs.length) (hp : (getR xs r).pair = true) : W1 xs r = W1 xs (getR xs r).left.toNat ++ W1 xs (getR xs r).right.toNat := by
  obtain ⟨q1, q2, q3, q4, q5⟩ := lens_pair h hx hp
  rw [W1, wordR, if_pos hp, wordR_fuel h r _ q2 (by omega), wordR_fuel h r _ q4 (by omega)]
theorem W1_let {xs : List GRule} {r : Nat} (hp : (getR xs r).pair = false) : W1 xs r = (getR xs r).letter.data.toList := by
  rw [W1, wordR, if_neg (by simp [hp])]
theorem lens_isLet {xs : List GRule} {ls : List Int} (h : lens xs = some ls) {r : Nat} (hx : r < xs.length) (hp : (getR xs r).pair = false) : isLet (getR xs r).letter = true := by
  have h1 := (lens_steps h r _ (getR_at hx)).1
  unfold okRule at h1
  rw [if_neg (by simp [hp])] at h1
  simp at h1; exact h1.1.1
theorem isLet_size {s : ByteArray} (h : isLet s = true) : s.size = 1 := by unfold isLet at h; simp at h; exact h.1.1
theorem W1_len {xs : List GRule} {ls : List Int} (h : lens xs = some ls) : ∀ (r : Nat), r < xs.length → ((W1 xs r).length : Int) = ls.getD r 0 := by
  intro r
  induction r using Nat.strongRecOn with
  | _ r ih =>
    intro hx
    cases hp : (getR xs r).pair with
    | false =>
      rw [W1_let hp, lens_letter h hx hp]
      have := isLet_size (lens_isLet h hx hp)
      show (((getR xs r).letter.data.toList.length : Nat) : Int) = 1
      rw [Array.length_toList]
      exact congrArg _ this
    | true =>
      obtain ⟨q1, q2, q3, q4, q5⟩ := lens_pair h hx hp
      rw [W1_pair h hx hp, List.length_append, q5, ← ih _ q2 (by omega), ← ih _ q4 (by omega)]
      omega
theorem cutL_nil {α : Type} {l : List α} {i j : Int} (h : (l.length : Int) ≤ i ∨ j ≤ 0 ∨ j ≤ i) : cutL l i j = [] := by
  unfold cutL
  apply List.drop_eq_nil_of_le
  rw [List.length_take]; omega
theorem cutL_all {α : Type} {l : List α} {i j : Int} (hi : i ≤ 0) (hj : (l.length : Int) ≤ j) : cutL l i j = l := by
  unfold cutL
  rw [show i.toNat = 0 by omega, List.drop_zero, List.take_of_length_le (by omega)]
theorem cutL_len {α : Type} {l : List α} {i j : Int} (hi : 0 ≤ i) (hij : i ≤ j) (hj : j ≤ l.length) : ((cutL l i j).length : Int) = j - i := by
  unfold cutL
  rw [List.length_drop, List.length_take]; omega
theorem wordG_pos {xs : List GRule} (h : 0 < xs.length) : wordG xs = W1 xs (xs.length - 1) := by
  rw [wordG, if_neg (by intro e; subst e; simp at h)]
theorem lastI_at {xs : List GRule} {ls : List Int} (h : lens xs = some ls) (_h0 : 0 < xs.length) : lastI ls = ls.getD (xs.length - 1) 0 := by
  rw [lastI, lens_length h]
theorem wordG_len {xs : List GRule} {ls : List Int} (h : lens xs = some ls) : ((wordG xs).length : Int) = lastI ls := by
  by_cases h0 : 0 < xs.length
  · rw [wordG_pos h0, W1_len h _ (by omega), lastI_at h h0]
  · have hx : xs = [] := List.eq_nil_of_length_eq_zero (by omega)
    subst hx
    have : ls = [] := List.eq_nil_of_length_eq_zero (by rw [lens_length h]; rfl)
    subst this; rfl
theorem W1_ok {xs : List GRule} {ls : List Int} (h : lens xs = some ls) : ∀ (r : Nat), r < xs.length → (W1 xs r).all letOk = true := by
  intro r
  induction r using Nat.strongRecOn with
  | _ r ih =>
    intro hx
    cases hp : (getR xs r).pair with
    | false =>
      have hl := lens_isLet h hx hp
      rw [W1_let hp]
      have := wordOk_one (isLet_size hl)
      rw [hl] at this
      unfold wordOk at this
      simp only [Bool.and_eq_true] at this
      exact this.2
    | true =>
      obtain ⟨q1, q2, q3, q4, q5⟩ := lens_pair h hx hp
      rw [W1_pair h hx hp, List.all_append, ih _ q2 (by omega), ih _ q4 (by omega)]; rfl
end Go.Proofs.Ytagpjommhoedlaa

namespace Go.Proofs.Ytagpjommhoedlaa
open Go.RowKit

set_option maxRecDepth 100000 in
set_option maxHeartbeats 2000000 in
theorem l02Letter_any (b o : Nat) (vR vL : Value) (xs : List GRule) (ls : List Int) (i : Int) (c : UInt8) (w : World) (hp : w.cell? ⟨b, o, none⟩ = some vR) (hR : Sl RuleE w w.heap.size vR xs) (hL : Sl IntE w w.heap.size vL ls)
    (hl : lens xs = some ls) (hn : xs.length ≤ 1099511627776) (hi : 0 ≤ i) (hc : (wordG xs)[i.toNat]? = some c) :
    Calls Try.prog 105 #[.pointer (some ⟨b, o, none⟩), vL, .int .i64 i] w fun e w' => e = .returned (.int .u8 c.toNat) ∧ w = w' := by
  have h0 : 0 < xs.length := by
    refine Nat.pos_of_ne_zero fun e => ?_
    have hx : xs = [] := List.eq_nil_of_length_eq_zero e
    subst hx
    simp [wordG] at hc
  have hll := lens_length hl
  rw [wordG_pos h0] at hc
  have hlt := (List.getElem?_eq_some_iff.1 hc).1
  have hWl := W1_len hl (xs.length - 1) (by omega)
  obtain ⟨AR, cR, rfl, _, hmR, hrowR⟩ := hR
  obtain ⟨AL, cL, rfl, _, hmL, hrowL⟩ := hL
  unfold maxLen at hmR hmL
  obtain ⟨bR, oR, rfl, hbR, hcR⟩ := hrowR.rule h0
  obtain ⟨bL, oL, rfl, hbL, hcL⟩ := hrowL.int (k := 0) (by omega)
  have HcR := Lib.hid hcR
  have HcL := Lib.hid hcL
  have Hll := Lib.hid hll
  have Hl := Lib.hid hl
  have hm1 : (xs.length : Int) - 1 = ((xs.length - 1 : Nat) : Int) := by omega
  obtain ⟨m, hm⟩ : ∃ m, xs.length - 1 = m := ⟨_, rfl⟩
  rw [hm] at hm1 hc hlt hWl
  have hmx : m < xs.length := by omega
  have Hc := Lib.hid hc
  have hq0 : i < ls.getD m 0 := by omega
  have Hq0 := Lib.hid hq0
  have Hm1 := Lib.hid hm1
  clear hrowR hrowL hcR hcL hll hl hc hlt hWl hm hq0
  go_enter Try.func105, Try.ntmps105
  go_wp2_with fail
  go_loopw [2, 7] (fun q a wx => ∃ (r : Nat) (z : Int), r < xs.length ∧ a = .int .i64 (r : Int) ∧ q = .int .i64 z ∧ 0 ≤ z ∧ z < ls.getD r 0 ∧ (W1 xs r)[z.toNat]? = some c ∧ wx = w) (fun _ a _ => (intOf a).toNat)
  case atStart => exact ⟨m, i, hmx, rfl, rfl, hi, Hq0.out, Hc.out, rfl⟩
  case round =>
    obtain ⟨r, z, hr, rfl, rfl, hz, hzl, hw, rfl⟩ := hrel
    obtain ⟨k0, k1, k2⟩ := HcR.out r _ (getR_at hr)
    have hri : (r : Int) < (xs.length : Int) := by omega
    have Hw := Lib.hid hw
    have Hzl := Lib.hid hzl
    obtain ⟨R, hR⟩ : ∃ R, getR xs r = R := ⟨_, rfl⟩
    rw [hR] at k0 k1 k2
    have HR := Lib.hid hR
    clear hw hzl hR hm1
    by_cases hp2 : R.letter.toList.isEmpty = true
    · have hpr : (getR xs r).pair = true := by rw [HR.out]; rw [isEmpty_size] at hp2; exact hp2
      obtain ⟨q1, q2, q3, q4, q5⟩ := lens_pair Hl.out hr hpr
      have hW := W1_pair Hl.out hr hpr
      rw [HR.out] at q1 q2 q3 q4 q5 hW
      obtain ⟨la, hla⟩ := Int.eq_ofNat_of_zero_le q1
      obtain ⟨ra, hra⟩ := Int.eq_ofNat_of_zero_le q3
      rw [hla] at q2 k1
      rw [hra] at q4 k2
      rw [hla, hra] at hW q5
      simp only [Int.toNat_natCast] at q2 q4 q5 hW
      have hlw := W1_len Hl.out la (by omega)
      have cl := HcL.out la (by have := Hll.out; omega)
      have hli : (la : Int) < (ls.length : Int) := by have := Hll.out; omega
      have hpl := lens_pos' Hl.out (r := la) (by omega)
      have hpr2 := lens_pos' Hl.out (r := r) hr
      obtain ⟨LA, hLA⟩ : ∃ x, ls.getD la 0 = x := ⟨_, rfl⟩
      rw [hLA] at cl hlw hpl q5
      have HLA := Lib.hid hLA
      have Hq5 := Lib.hid q5
      have Hlw := Lib.hid hlw
      have HW := Lib.hid hW
      have hzb : z ≤ 1000000000000000 := by have := Hzl.out; omega
      clear hpr q1 q3 hla hra hLA q5 hlw hW hpr2
      by_cases hc1 : z < LA
      · go_wp2_with fail
        refine ⟨⟨la, z, by omega, rfl, rfl, hz, by rw [HLA.out]; exact hc1, ?_, trivial⟩, by simp [intOf]; omega⟩
        have := Hw.out
        rwa [HW.out, List.getElem?_append_left (by have := Hlw.out; omega)] at this
      · go_wp2_with fail
        refine ⟨⟨ra, z - LA, by omega, rfl, rfl, by omega, by have := Hq5.out; have := Hzl.out; omega, ?_, trivial⟩, by simp [intOf]; omega⟩
        have := Hw.out
        rw [HW.out, List.getElem?_append_right (by have := Hlw.out; omega)] at this
        rwa [show z.toNat - (W1 xs la).length = (z - LA).toNat by have := Hlw.out; omega] at this
    · have hp3 : R.letter.toList.isEmpty = false := by simpa using hp2
      have hpr : (getR xs r).pair = false := by rw [HR.out]; rw [isEmpty_size] at hp3; exact hp3
      have hsz := isLet_size (lens_isLet Hl.out hr hpr)
      have hone := lens_letter Hl.out hr hpr
      have hW := W1_let hpr
      rw [HR.out] at hsz hW
      have hz0 : z = 0 := by have := Hzl.out; omega
      have hcc : R.letter.data.toList[0]? = some c := by
        have := Hw.out
        rw [hW, hz0] at this; exact this
      have hs0 : 0 < R.letter.size := by omega
      have hget : R.letter[0]'hs0 = c := by
        rw [toList_getElem? _ _ hs0] at hcc
        exact Option.some.inj hcc
      have Hget := Lib.hid hget
      clear hp2 hpr hone hW hz0 hcc hget
      go_wp2_with fail
      go_ret
      exact ⟨by rw [← Hget.out]; rfl, rfl⟩
end Go.Proofs.Ytagpjommhoedlaa

namespace Go.Proofs.Ytagpjommhoedlaa
open Go.RowKit

theorem cutL_snoc {l : List UInt8} {i z : Int} {c : UInt8} (hi : 0 ≤ i) (hz : i ≤ z) (hc : l[z.toNat]? = some c) : cutL l i (z + 1) = cutL l i z ++ [c] := by
  have hlt := (List.getElem?_eq_some_iff.1 hc).1
  unfold cutL
  rw [show (z + 1).toNat = z.toNat + 1 by omega, List.take_add_one, hc, Option.toList_some, List.drop_append_of_le_length (by rw [List.length_take]; omega)]
theorem cutL_none (l : List UInt8) (i : Int) : cutL l i i = [] := cutL_nil (by omega)

set_option maxRecDepth 100000 in
set_option maxHeartbeats 2000000 in
theorem l02Unpack_any (b o : Nat) (v : Value) (xs : List GRule) (ls : List Int) (i j : Int) (w : World) (hp : w.cell? ⟨b, o, none⟩ = some v) (hbl : b < w.heap.size) (h : Sl RuleE w w.heap.size v xs) (hsm : SmallL xs) (hl : lens xs = some ls)
    (hn : xs.length ≤ 400) (hi : 0 ≤ i) (hij : i ≤ j) (hj : j ≤ lastI ls) (hbig : j - i ≤ 1000000) :
    Calls Try.prog 50 #[.pointer (some ⟨b, o, none⟩), .int .i64 i, .int .i64 j] w fun e w' => e = .returned (.string ⟨(cutL (wordG xs) i j).toArray⟩) ∧ Below w.heap.size w w' := by
  have HR := Lib.hid h
  obtain ⟨AR, cR, rfl, _⟩ := h
  have Hl := Lib.hid hl
  have hwl := wordG_len hl
  have hlb := (lastI_bounds hl).2
  have hd4 : decide (xs.length ≤ 400) = true := by simp [hn]
  clear hl
  go_enter Try.func50, Try.ntmps50
  go_wp2_with fail
  refine (l02Lengths_any _ _ _ xs _ hp hbl HR.out hsm).mono ?_
  rintro e w2 ⟨hb2, v2, ls', rfl, own2, hls⟩
  have e4 : ls' = ls := hls hn ls Hl.out
  subst e4
  obtain ⟨A2, c2, rfl, _⟩ := own_nil own2
  have p2 := (hb2.cell (p := ⟨b, o, none⟩) hbl).trans hp
  have z2 : b < w2.heap.size := Nat.lt_of_lt_of_le hbl hb2.size
  have HL2 := Lib.hid own2.sl
  have HR2 := Lib.hid (HR.out.up hb2)
  have HB2 := Lib.hid hb2
  clear hb2 own2 hls hp
  go_wp2_with fail
  go_loopw [9, 10] (fun q a wx => ∃ (k : Nat) (z : Int) (g c : Nat) (l : List UInt8), z = i + k ∧ z ≤ j ∧ a = .int .i64 z ∧ q = .slice (some ⟨g, 0, none⟩) l.length c ∧ l = cutL (wordG xs) i z ∧ OwnB wx w2.heap.size q l ∧ Below w2.heap.size w2 wx) (fun _ a _ => (j - intOf a).toNat)
  case atStart => exact ⟨0, i, _, 0, [], by omega, hij, rfl, rfl, (cutL_none _ _).symm, OwnB.empty rfl (Nat.le_refl _), (Below.refl _ _).alloc (Nat.le_refl _) _⟩
  case round =>
    obtain ⟨k, z, g, c, l, hz, hzj, rfl, rfl, hlc, hown, hb3⟩ := hrel
    have Hown := Lib.hid hown
    have HB3 := Lib.hid hb3
    have Hlc := Lib.hid hlc
    have hll : (l.length : Int) = z - i := by rw [hlc]; exact cutL_len hi (by omega) (by omega)
    have p3 := (hb3.cell (p := ⟨b, o, none⟩) z2).trans p2
    have HL3 := Lib.hid ((HL2.out.below hb3).le hb3.size)
    have HR3 := Lib.hid ((HR2.out.below hb3).le hb3.size)
    have hcv := OwnB.string hown
    have HLL : Hid (l.length ≤ 1099511627776) := by rw [Hid]; omega
    have hs3 : w2.heap.size ≤ wr.heap.size := hb3.size
    have Hz0 := Lib.hid hz
    have hiz : i ≤ z := by omega
    clear hown hb3 hlc hz
    by_cases hlt : z < j
    · obtain ⟨x, hx⟩ : ∃ x, (wordG xs)[z.toNat]? = some x := ⟨_, List.getElem?_eq_getElem (by omega)⟩
      have Hx := Lib.hid hx
      have Lt := Lib.hid (l02Letter_any b o _ (.slice A2 ls'.length c2) xs ls' z x wr p3 HR3.out HL3.out Hl.out (by omega) (by omega) hx)
      have hzm : z ≤ 1000000000000000 := by omega
      have Hll := Lib.hid hll
      clear hx hcv hll
      go_wp2_with fail
      (with_reducible refine Lt.out.mono ?_)
      rintro e w4 ⟨rfl, rfl⟩
      go_wp2_with (first
        | (at_builtin; refine push_byte (base := w2.heap.size) (v := .slice (some ⟨g, 0, none⟩) l.length c) (l := l) (y := x) rfl _ _ rfl rfl rfl rfl Hown.out HLL.out hs3 ?_; intro v5 w5 own5 hg5 hb5; obtain ⟨g5, c5, rfl⟩ := own5.some_ (by simp)))
      have e5 : (l ++ [x]).length = l.length + 1 := by simp
      refine ⟨⟨k + 1, z + 1, g5, c5, l ++ [x], by have := Hz0.out; omega, by omega, rfl, by rw [e5], ?_, by rw [← e5]; exact own5, HB3.out.trans hb5⟩, by simp [intOf]; omega⟩
      rw [cutL_snoc hi (by omega) Hx.out, Hlc.out]
    · have hzj2 : z = j := by omega
      have Hz := Lib.hid hzj2
      clear hll hzj2
      go_wp2_with fail
      go_ret
      exact ⟨by rw [← Hz.out, ← Hlc.out]; rfl, HB2.out.trans (HB3.out.mono HB2.out.size)⟩
end Go.Proofs.Ytagpjommhoedlaa

namespace Go.Proofs.Ytagpjommhoedlaa
open Go.RowKit

/-- Seven cells of a block. -/
def Box7 (w : World) (b : Nat) (c0 c1 c2 c3 c4 c5 c6 : Value) : Prop := w.cell? ⟨b, 0, none⟩ = some c0 ∧ w.cell? ⟨b, 1, none⟩ = some c1 ∧ w.cell? ⟨b, 2, none⟩ = some c2 ∧ w.cell? ⟨b, 3, none⟩ = some c3 ∧ w.cell? ⟨b, 4, none⟩ = some c4 ∧ w.cell? ⟨b, 5, none⟩ = some c5 ∧ w.cell? ⟨b, 6, none⟩ = some c6
theorem Box7.up {w w' : World} {b N : Nat} {c0 c1 c2 c3 c4 c5 c6 : Value} (h : Box7 w b c0 c1 c2 c3 c4 c5 c6) (hb : Below N w w') (hlt : b < N) : Box7 w' b c0 c1 c2 c3 c4 c5 c6 := by
  obtain ⟨h0, h1, h2, h3, h4, h5, h6⟩ := h
  have k : ∀ {o : Nat} {v : Value}, w.cell? ⟨b, o, none⟩ = some v → w'.cell? ⟨b, o, none⟩ = some v := fun {o v} hc => (hb.cell (p := ⟨b, o, none⟩) hlt).trans hc
  exact ⟨k h0, k h1, k h2, k h3, k h4, k h5, k h6⟩
theorem Box7.new {w w' : World} {c0 c1 c2 c3 c4 c5 c6 : Value} {t : TypeId} (hb : Below (w.alloc (.cells #[c0, c1, c2, c3, c4, c5, c6] t)).heap.size (w.alloc (.cells #[c0, c1, c2, c3, c4, c5, c6] t)) w') : Box7 w' w.heap.size c0 c1 c2 c3 c4 c5 c6 :=
  Box7.up (w := w.alloc (.cells #[c0, c1, c2, c3, c4, c5, c6] t)) ⟨by simp [go_sem], by simp [go_sem], by simp [go_sem], by simp [go_sem], by simp [go_sem], by simp [go_sem], by simp [go_sem]⟩ hb (by simp)

end Go.Proofs.Ytagpjommhoedlaa

namespace Go.Proofs.Ytagpjommhoedlaa
open Go.RowKit

end Go.Proofs.Ytagpjommhoedlaa

namespace Go.Proofs.Ytagpjommhoedlaa
open Go.RowKit

theorem step_push_rule {W : World} {ops : Array Oper} {o : Oper} {a : Act} {K : Act → World → Prop} {Q : Exit → Act → World → Prop} {E : Prop} (hgd : o.guard = none) (s x : Operand)
    (ho : o.op = .call { callee := .builtin .append, args := #[s, x], argTypes := #[24, 24] }) {t : ByteArray} {p q : Int} {base : Nat} {v : Value} {l : List GRule}
    (hs : a.eval s = v) {N : Nat} (hx : a.eval x = .slice (some ⟨N, 0, none⟩) 1 1) (hN : N = W.heap.size) (hown : OwnRules W base v l) (hlen : l.length ≤ 1099511627775) (hbase : base ≤ W.heap.size)
    (h : ∀ v' w', OwnRules w' base v' (l ++ [⟨t, p, q⟩]) → (W.alloc (.cells #[.string t, .int .i64 p, .int .i64 q] 126)).grownBy w' v.ownBlock → Below base (W.alloc (.cells #[.string t, .int .i64 p, .int .i64 q] 126)) w' → K (a.put o.dst v') w') :
    if Region.wanted o (yielded ops a.tmps) = true then Oper.wp Try.prog o a (W.alloc (.cells #[.string t, .int .i64 p, .int .i64 q] 126)) K Q else E := by
  subst hN
  refine step_append_rules (ys := [⟨t, p, q⟩]) (S := fun b => b = W.heap.size) hgd s x ho hs hx (hown.alloc _) ⟨_, 1, rfl, Nat.le_refl _, by simp [maxLen], fun _ => ⟨W.heap.size, 0, rfl, rfl, fun k r hk => ⟨r.cells, rfl, fun j u hu => ?_⟩⟩⟩ (by simp; omega) (by simp; omega) h
  have hk0 : k = 0 := by
    have := (List.getElem?_eq_some_iff.1 hk).1
    simp at this; exact this
  subst hk0
  simp at hk
  subst hk
  have hc : (W.alloc (.cells #[.string t, .int .i64 p, .int .i64 q] 126)).cell? ⟨W.heap.size, j, none⟩ = (#[Value.string t, .int .i64 p, .int .i64 q] : Array Value)[j]? := cell_of_row _ _ _ _ 126 (0, 0) (heap_alloc_new W _)
  simp only [Nat.zero_mul, Nat.zero_add]
  rw [hc]
  simpa [GRule.cells] using hu

theorem Boxed.up {w w' : World} {B N : Nat} {t : TypeId} {v : Value} (h : Boxed w B t v) (hb : Below N w w') (hlt : B < N) : Boxed w' B t v := (hb.block B hlt).trans h
theorem Boxed.grown {w w' : World} {B base e s n : Nat} {t : TypeId} {v : Value} {xs : List Value} {o : Obj} (h : Boxed w B t v) (hte : t ≠ e) (own : w.ownsRow base e s v n xs) (hg : (w.alloc o).grownBy w' v.ownBlock) : Boxed w' B t v := (h.alloc o).kept hg (h.not_row hte own)

end Go.Proofs.Ytagpjommhoedlaa

namespace Go.Proofs.Ytagpjommhoedlaa
open Go.RowKit

end Go.Proofs.Ytagpjommhoedlaa

namespace Go.Proofs.Ytagpjommhoedlaa
open Go.RowKit

section
variable {α : Type} {E : Enc α} {w w1 w2 : World} {o : Obj} {v : Value} {xs : List α}
end

end Go.Proofs.Ytagpjommhoedlaa

namespace Go.Proofs.Ytagpjommhoedlaa
open Go.RowKit

theorem drewB {w : World} : Below w.heap.size w w.drew := Below.drew (Below.refl _ _)

end Go.Proofs.Ytagpjommhoedlaa

namespace Go.Proofs.Ytagpjommhoedlaa
open Go.RowKit

end Go.Proofs.Ytagpjommhoedlaa

namespace Go.Proofs.Ytagpjommhoedlaa
open Go.RowKit

end Go.Proofs.Ytagpjommhoedlaa

namespace Go.Proofs.Ytagpjommhoedlaa
open Go.RowKit

/-- The rules by which the first n letters of a rule's word are read. -/
def aftR (xs : List GRule) (ls : List Int) : Nat → Nat → Int → List Nat
  | 0, _, _ => []
  | f + 1, r, n => if n ≤ 0 then [] else if n = ls.getD r 0 then [r] else
      if ls.getD (getR xs r).left.toNat 0 ≤ n then (getR xs r).left.toNat :: aftR xs ls f (getR xs r).right.toNat (n - ls.getD (getR xs r).left.toNat 0) else aftR xs ls f (getR xs r).left.toNat n
/-- What the loop of l04After keeps. -/
def AftInv (xs : List GRule) (ls : List Int) (maps : List (List Int)) (n T : Nat) (r : Int) (s : Nat) (m : Int) : Prop :=
  s < n ∧ ((m ≤ 0 ∧ s = T) ∨ (0 < m ∧ ∃ rn f : Nat, r = rn ∧ rn < f ∧ rn < xs.length ∧ m ≤ ls.getD rn 0 ∧ (aftR xs ls f rn m).foldl (stepM maps) s = T))
theorem AftInv.fin {xs : List GRule} {ls : List Int} {maps : List (List Int)} {n T s : Nat} {r m : Int} (h : AftInv xs ls maps n T r s m) (hm : m ≤ 0) : s = T := by
  rcases h.2 with h | h <;> omega
end Go.Proofs.Ytagpjommhoedlaa

namespace Go.Proofs.Ytagpjommhoedlaa
open Go.RowKit

theorem keepG3 {wr W W2 : World} {p q r : Addr} {a b c : Value} (h : Below wr.heap.size wr W ∧ W.cell? p = some a ∧ W.cell? q = some b ∧ W.cell? r = some c) (h2 : Below W.heap.size W W2)
    (hp : p.block < wr.heap.size) (hq : q.block < wr.heap.size) (hr : r.block < wr.heap.size) : Below wr.heap.size wr W2 ∧ W2.cell? p = some a ∧ W2.cell? q = some b ∧ W2.cell? r = some c :=
  ⟨h.1.trans (h2.mono h.1.size), (h2.cell (Nat.lt_of_lt_of_le hp h.1.size)).trans h.2.1, (h2.cell (Nat.lt_of_lt_of_le hq h.1.size)).trans h.2.2.1, (h2.cell (Nat.lt_of_lt_of_le hr h.1.size)).trans h.2.2.2⟩
end Go.Proofs.Ytagpjommhoedlaa

namespace Go.Proofs.Ytagpjommhoedlaa
open Go.RowKit

/-- The word behind an edit. -/
def plainB (s : ByteArray) (e : GEdit) : ByteArray :=
  if e.kind = 1 then s.extract 0 e.i.toNat ++ ⟨(wordG e.part).toArray⟩ ++ s.extract e.i.toNat s.size
  else if e.kind = 2 then s.extract 0 e.i.toNat ++ s.extract e.j.toNat s.size
  else if e.kind = 3 then s.extract 0 e.k.toNat ++ s.extract e.i.toNat e.j.toNat ++ s.extract e.k.toNat s.size
  else if e.kind = 4 then (if e.k ≤ e.i then s.extract 0 e.k.toNat ++ s.extract e.i.toNat e.j.toNat ++ s.extract e.k.toNat e.i.toNat ++ s.extract e.j.toNat s.size else s.extract 0 e.i.toNat ++ s.extract e.j.toNat e.k.toNat ++ s.extract e.i.toNat e.j.toNat ++ s.extract e.k.toNat s.size)
  else if e.kind = 5 then s.extract 0 e.i.toNat ++ ⟨(s.extract e.i.toNat e.j.toNat).data.toList.reverse.toArray⟩ ++ s.extract e.j.toNat s.size
  else if e.kind = 6 then (if e.i = e.j then s else s.extract 0 e.i.toNat ++ ⟨(repL (s.extract e.i.toNat e.j.toNat).data.toList e.k.toNat).toArray⟩ ++ s.extract e.j.toNat s.size)
  else s.extract 0 e.i.toNat ++ ⟨((s.extract e.i.toNat e.j.toNat).data.toList.map (mapB e.map)).toArray⟩ ++ s.extract e.j.toNat s.size
/-- What EditPlain answers. -/
def epC (s : ByteArray) (e : GEdit) : Int := if wordOk s then if editOk e then if editFits e s.size then if editLen e s.size ≤ 2000 then 0 else 3 else 2 else 1 else 1
def epV (s : ByteArray) (e : GEdit) : ByteArray := if epC s e = 0 then plainB s e else ⟨#[]⟩
theorem epC_1 {s : ByteArray} {e : GEdit} (h : wordOk s = false ∨ editOk e = false) : epC s e = 1 ∧ epV s e = ⟨#[]⟩ := by
  have : epC s e = 1 := by
    unfold epC
    rcases h with h | h
    · rw [if_neg (by simp [h])]
    · rw [if_neg (c := editOk e = true) (by simp [h])]; split <;> rfl
  exact ⟨this, by rw [epV, this]; rfl⟩
theorem epC_2 {s : ByteArray} {e : GEdit} (h : wordOk s = true) (h2 : editOk e = true) (h3 : editFits e s.size = false) : epC s e = 2 ∧ epV s e = ⟨#[]⟩ := by
  have : epC s e = 2 := by rw [epC, if_pos h, if_pos h2, if_neg (by simp [h3])]
  exact ⟨this, by rw [epV, this]; rfl⟩
theorem epC_3 {s : ByteArray} {e : GEdit} (h : wordOk s = true) (h2 : editOk e = true) (h3 : editFits e s.size = true) (h4 : ¬ editLen e s.size ≤ 2000) : epC s e = 3 ∧ epV s e = ⟨#[]⟩ := by
  have : epC s e = 3 := by rw [epC, if_pos h, if_pos h2, if_pos h3, if_neg h4]
  exact ⟨this, by rw [epV, this]; rfl⟩
theorem epC_0 {s : ByteArray} {e : GEdit} (h : wordOk s = true) (h2 : editOk e = true) (h3 : editFits e s.size = true) (h4 : editLen e s.size ≤ 2000) : epC s e = 0 ∧ epV s e = plainB s e := by
  have : epC s e = 0 := by rw [epC, if_pos h, if_pos h2, if_pos h3, if_pos h4]
  exact ⟨this, by rw [epV, if_pos this]⟩
theorem editOk_map {e : GEdit} (h : editOk e = true) (hk : e.kind = 7) : e.map.size = 4 := by
  simp only [editOk, Bool.and_eq_true] at h
  have := h.2
  rw [if_pos (by simp [hk])] at this
  simp at this; exact this.1
theorem wordOk_let {s : ByteArray} (h : wordOk s = true) : s.size ≤ 2000 ∧ ∀ k (hk : k < s.size), 97 ≤ s[k].toNat ∧ s[k].toNat ≤ 100 := by
  simp only [wordOk, Bool.and_eq_true, decide_eq_true_eq, List.all_eq_true] at h
  refine ⟨by omega, fun k hk => ?_⟩
  have := h.2 s[k] (by rw [List.mem_iff_getElem?]; exact ⟨k, toList_getElem? s k hk⟩)
  simp [letOk] at this; omega
theorem extract_let {s : ByteArray} {i j : Nat} (h : ∀ k (hk : k < s.size), 97 ≤ s[k].toNat ∧ s[k].toNat ≤ 100) : ∀ k (hk : k < (s.extract i j).size), 97 ≤ (s.extract i j)[k].toNat ∧ (s.extract i j)[k].toNat ≤ 100 := by
  intro k hk
  have hk2 : i + k < s.size := by simp at hk; omega
  have := h (i + k) hk2
  rw [ByteArray.getElem_extract]
  exact this
theorem editFits_get {e : GEdit} {n : Int} (hk : inR e.kind 1 7 = true) (h : editFits e n = true) : (e.kind = 1 → e.i ≤ n) ∧ (2 ≤ e.kind → e.j ≤ n) ∧ (e.kind = 3 ∨ e.kind = 4 → e.k ≤ n ∨ e.k ≤ e.i) ∧ (e.kind = 4 → e.k ≤ e.i ∨ e.j ≤ e.k) ∧ (e.kind = 3 → e.k ≤ n) := by
  unfold editFits at h
  have h7 := kind7 hk
  split at h
  · simp at h; omega
  split at h
  · simp at h; omega
  split at h
  · simp at h; omega
  · simp at h; omega

theorem plainB_1 {s : ByteArray} {e : GEdit} {ι : Nat} (hk : e.kind = 1) (hi : e.i = ι) : plainB s e = s.extract 0 ι ++ ⟨(wordG e.part).toArray⟩ ++ s.extract ι s.size := by simp [plainB, hk, hi]
theorem plainB_2 {s : ByteArray} {e : GEdit} {ι φ : Nat} (hk : e.kind = 2) (hi : e.i = ι) (hj : e.j = φ) : plainB s e = s.extract 0 ι ++ s.extract φ s.size := by simp [plainB, hk, hi, hj]
theorem plainB_3 {s : ByteArray} {e : GEdit} {ι φ κ : Nat} (hk : e.kind = 3) (hi : e.i = ι) (hj : e.j = φ) (hkk : e.k = κ) : plainB s e = s.extract 0 κ ++ s.extract ι φ ++ s.extract κ s.size := by simp [plainB, hk, hi, hj, hkk]
theorem plainB_4a {s : ByteArray} {e : GEdit} {ι φ κ : Nat} (hk : e.kind = 4) (hi : e.i = ι) (hj : e.j = φ) (hkk : e.k = κ) (hc : κ ≤ ι) : plainB s e = s.extract 0 κ ++ s.extract ι φ ++ s.extract κ ι ++ s.extract φ s.size := by
  have : (κ : Int) ≤ ι := by omega
  simp [plainB, hk, hi, hj, hkk, this]
theorem plainB_4b {s : ByteArray} {e : GEdit} {ι φ κ : Nat} (hk : e.kind = 4) (hi : e.i = ι) (hj : e.j = φ) (hkk : e.k = κ) (hc : ¬ κ ≤ ι) : plainB s e = s.extract 0 ι ++ s.extract φ κ ++ s.extract ι φ ++ s.extract κ s.size := by
  have : ¬ (κ : Int) ≤ ι := by omega
  simp only [plainB, hk, hi, hj, hkk, this, Int.toNat_natCast]
  simp
theorem plainB_5 {s : ByteArray} {e : GEdit} {ι φ : Nat} (hk : e.kind = 5) (hi : e.i = ι) (hj : e.j = φ) : plainB s e = s.extract 0 ι ++ ⟨(s.extract ι φ).data.toList.reverse.toArray⟩ ++ s.extract φ s.size := by simp only [plainB, hk, hi, hj, Int.toNat_natCast]; simp
theorem plainB_6a {s : ByteArray} {e : GEdit} {ι φ : Nat} (hk : e.kind = 6) (hi : e.i = ι) (hj : e.j = φ) (hc : ι = φ) : plainB s e = s := by
  have : (ι : Int) = φ := by omega
  simp [plainB, hk, hi, hj, this]
theorem plainB_6b {s : ByteArray} {e : GEdit} {ι φ κ : Nat} (hk : e.kind = 6) (hi : e.i = ι) (hj : e.j = φ) (hkk : e.k = κ) (hc : ¬ ι = φ) : plainB s e = s.extract 0 ι ++ ⟨(repL (s.extract ι φ).data.toList κ).toArray⟩ ++ s.extract φ s.size := by
  have : ¬ (ι : Int) = φ := by omega
  simp only [plainB, hk, hi, hj, hkk, this, Int.toNat_natCast]
  simp
theorem plainB_7 {s : ByteArray} {e : GEdit} {ι φ : Nat} (hk : e.kind = 7) (hi : e.i = ι) (hj : e.j = φ) : plainB s e = s.extract 0 ι ++ ⟨((s.extract ι φ).data.toList.map (mapB e.map)).toArray⟩ ++ s.extract φ s.size := by simp only [plainB, hk, hi, hj, Int.toNat_natCast]; simp
set_option maxRecDepth 100000 in
set_option maxHeartbeats 4000000 in
theorem specEditPlain_any (s : ByteArray) (v : Value) (e : GEdit) (w : World) (h : EditV w w.heap.size v e) (hsm : SmallL e.part) (hn : e.part.length ≤ 1048576) (hm : e.map.size ≤ maxLen) (hs : s.size ≤ maxLen) :
    Calls Try.prog 12 #[.string s, v] w fun r w' => r = .returned (.tuple #[.string (epV s e), .int .i64 (epC s e)]) ∧ Below w.heap.size w w' := by
  obtain ⟨vR, rfl, hR⟩ := h
  have hA : ∀ c : Obj, c = Obj.cells #[.int .i64 e.kind, .int .i64 e.i, .int .i64 e.j, .int .i64 e.k, vR, .string e.map] 30 → EditAt (w.alloc c) (w.alloc c).heap.size w.heap.size e vR := by
    rintro c rfl
    exact ⟨Box6.new (Below.refl _ _), by simp, (hR.below ((Below.refl _ _).alloc (Nat.le_refl _) _)).le (by simp)⟩
  have HA := Lib.hid hA
  clear hA hR
  go_enter Try.func12, Try.ntmps12
  go_wp2_with fail
  refine (l01Ok_any s _ hs).mono ?_
  rintro r w' ⟨rfl, rfl⟩
  by_cases hw : wordOk s = true
  · have HW := Lib.hid hw
    have g0 : (!wordOk s) = false := by simp [hw]
    obtain ⟨hs2, hlet⟩ := wordOk_let hw
    have HLet := Lib.hid hlet
    clear hw hlet hs
    go_wp2_with fail
    refine (l07Ok_any _ vR e _ (HA.out _ rfl) hsm (by omega) hm).mono ?_
    rintro r w1 ⟨rfl, hb1⟩
    have E1 := Lib.hid ((HA.out _ rfl).up hb1)
    have B1 := Lib.hid (((Below.refl w.heap.size w).alloc (Nat.le_refl _) _).trans (hb1.mono (by simp)))
    clear hb1 HA g0
    by_cases he : editOk e = true
    · have HE := Lib.hid he
      have g0 : (!editOk e) = false := by simp [he]
      have hG := editOk_get he
      have HG := Lib.hid hG.1
      clear he
      go_wp2_with fail
      refine (l07Range_any _ vR e s.size _ E1.out HG.out).mono ?_
      rintro r w2 ⟨rfl, hb2⟩
      have E2 := Lib.hid (E1.out.up hb2)
      have B2 := Lib.hid (B1.out.trans (hb2.mono B1.out.size))
      clear hb2
      by_cases c3 : editFits e s.size = true
      · have C3 := Lib.hid c3
        have g3 : (!editFits e s.size) = false := by simp [c3]
        have hF := editFits_get hG.1 c3
        clear c3
        have hnn := editLen_nonneg HE.out C3.out (Int.natCast_nonneg s.size)
        go_wp2_with fail
        refine (l07Grows_any _ vR e s.size 2000 _ E2.out HE.out hsm (by omega) (Int.natCast_nonneg _) (by omega) (by omega) C3.out).mono ?_
        rintro r w3 ⟨rfl, hb3⟩
        have E3 := Lib.hid (E2.out.up hb3)
        have B3 := Lib.hid (B2.out.trans (hb3.mono B2.out.size))
        clear hb3
        by_cases c4 : editLen e s.size ≤ 2000
        · have g4 : decide (growV e s.size 2000 < 0) = false := by
            have : growV e s.size 2000 = editLen e s.size := by rw [growV, if_pos c4]
            rw [this]; simp; omega
          obtain ⟨G, hGv⟩ : ∃ G, growV e s.size 2000 = G := ⟨_, rfl⟩
          rw [hGv] at g4
          rw [hGv]
          obtain ⟨pc, pv⟩ := epC_0 HW.out HE.out C3.out c4
          have PC := Lib.hid pc
          have PV := Lib.hid pv
          have C4 := Lib.hid c4
          have HE7 := Lib.hid (fun hk => editOk_map HE.out hk)
          obtain ⟨ls, hls⟩ := (gram_lens hG.2.2.2.2.2.2).2
          have hn400 := (gram_lens hG.2.2.2.2.2.2).1
          have hwl := wordG_len hls
          have hgl : gramLen e.part = lastI ls := gramLen_of hls
          have Hls := Lib.hid hls
          have Hgl := Lib.hid hgl
          clear pc pv hGv hnn HE C3 c4 hls hgl
          obtain ⟨x0, x1, x2, x3, x4, x5⟩ := E3.out.box
          obtain ⟨ι, hι⟩ := Int.eq_ofNat_of_zero_le hG.2.1.1
          obtain ⟨φ, hφ⟩ := Int.eq_ofNat_of_zero_le hG.2.2.1.1
          obtain ⟨κ, hκ⟩ := Int.eq_ofNat_of_zero_le hG.2.2.2.1.1
          have hij := hG.2.2.2.2.1
          have hκ15 := hG.2.2.2.1.2
          rw [hκ] at hκ15
          have Hκ15 := Lib.hid hκ15
          clear hκ15
          obtain ⟨hF1, hF2, hF3, hF4, C3k⟩ := hF
          rw [hκ] at C3k
          rw [hι] at x1 hij hF1 hF3 hF4
          rw [hφ] at x2 hij hF2 hF4
          rw [hκ] at x3 hF3 hF4
          have Hι := Lib.hid hι
          have Hφ := Lib.hid hφ
          have Hκ := Lib.hid hκ
          have z3 := E3.out.lt
          clear hG hι hφ hκ
          rcases kind7 HG.out with hk | hk | hk | hk | hk | hk | hk
          · have hf := hF1 hk
            have hP := plainB_1 hk Hι.out (s := s)
            have HP := Lib.hid hP
            have hlen1 : lastI ls ≤ 2000 := by
              have h := C4.out
              rw [editLen, if_pos hk, Hgl.out] at h
              omega
            rw [hk] at x0
            clear hF1 hF2 hF3 hF4 C3k hij hk hP
            have l1 : ι ≤ s.size := by omega
            have hP0 : cutL (wordG e.part) 0 (lastI ls) = wordG e.part := cutL_all (by omega) (by omega)
            have hTl : (wordG e.part).length ≤ 2000 := by omega
            have hbds : 0 ≤ lastI ls := by omega
            have hb2000 : lastI ls - 0 ≤ 1000000 := by omega
            have HU := Lib.hid (fun (W : World) (hc : W.cell? ⟨w.heap.size, 4, none⟩ = some vR) (hlt : w.heap.size < W.heap.size) (hs : Sl RuleE W W.heap.size vR e.part) => l02Unpack_any w.heap.size 4 vR e.part ls 0 (lastI ls) W hc hlt hs hsm Hls.out hn400 (Int.le_refl 0) hbds (Int.le_refl _) hb2000)
            rw [hP0] at HU
            obtain ⟨T, hT⟩ : ∃ T, wordG e.part = T := ⟨_, rfl⟩
            rw [hT] at HU HP hTl
            have n1 : ¬ 9223372036854775807 < ι + T.length := by omega
            have n2 : ¬ 9223372036854775807 < ι + T.length + (s.size - ι) := by omega
            have HLn := Lib.hid (fun (W : World) (hc : W.cell? ⟨w.heap.size, 4, none⟩ = some vR) (hlt : w.heap.size < W.heap.size) (hs : Sl RuleE W W.heap.size vR e.part) => l02Length_any w.heap.size 4 vR e.part ls W Hls.out hc hlt hs hsm (by omega))
            have ED := Lib.hid (E3.out.sl.up (drewB (w := w3)))
            have z3d : w.heap.size < w3.drew.heap.size := z3
            clear hP0 hT hbds hb2000 hwl hlen1
            go_wp2_with fail
            have KB := And.intro (drewB (w := w3)) (And.intro (show w3.drew.cell? ⟨w.heap.size, 1, none⟩ = _ from x1) (show w3.drew.cell? ⟨w.heap.size, 4, none⟩ = _ from x4))
            go_region_held3 (fun w' => Below w3.heap.size w3 w' ∧ w'.cell? ⟨w.heap.size, 1, none⟩ = some (.int .i64 (ι : Int)) ∧ w'.cell? ⟨w.heap.size, 4, none⟩ = some vR)
              (first | (with_reducible exact KB) | (with_reducible exact keepC KB hb4 z3 z3) | (with_reducible exact keepC (keepC KB hb4 z3 z3) hb5 z3 z3))
              (first
                | (go_at_call 51; (with_reducible refine (HLn.out _ KB.2.2 z3d ED.out).mono ?_); rintro r w4 ⟨rfl, hb4⟩)
                | (go_at_call 50; (with_reducible refine (HU.out _ (keepC KB hb4 z3 z3).2.2 (Nat.lt_of_lt_of_le z3d hb4.size) (ED.out.up hb4)).mono ?_); rintro r w5 ⟨rfl, hb5⟩))
            go_wp2_with fail
            go_ret2
            exact ⟨by rw [PC.out, PV.out, HP.out]; rfl, B3.out.trans (((drewB (w := w3)).trans (hb4.trans (hb5.mono hb4.size))).mono B3.out.size)⟩
          · have hf := hF2 (by omega)
            have hi := hij (by omega)
            have hP := plainB_2 hk Hι.out Hφ.out (s := s)
            have HP := Lib.hid hP
            rw [hk] at x0
            clear hF1 hF2 hF3 hF4 hij hk hP
            have l1 : ι ≤ s.size := by omega
            have l2 : φ ≤ s.size := by omega
            go_wp2_with fail
            go_quiet (fail)
            go_wp2_with fail
            go_ret2
            exact ⟨by rw [PC.out, PV.out, HP.out]; rfl, B3.out.trans ((below_drewN (Below.refl _ _) _).mono B3.out.size)⟩
          · have hf := hF2 (by omega)
            have hi := hij (by omega)
            have hc := hF3 (by omega)
            have hP := plainB_3 hk Hι.out Hφ.out Hκ.out (s := s)
            have HP := Lib.hid hP
            rw [hk] at x0
            have l0 : κ ≤ s.size := by
              have := C3k hk
              omega
            clear hF1 hF2 hF3 hF4 hij hk hP
            have l1 : ι ≤ s.size := by omega
            have l2 : φ ≤ s.size := by omega
            have l3 : ι ≤ φ := by omega
            go_wp2_with fail
            go_quiet (fail)
            go_wp2_with fail
            go_ret2
            exact ⟨by rw [PC.out, PV.out, HP.out]; rfl, B3.out.trans ((below_drewN (Below.refl _ _) _).mono B3.out.size)⟩
          · have hf := hF2 (by omega)
            have hi := hij (by omega)
            have hc := hF3 (by omega)
            have hd := hF4 (by omega)
            rw [hk] at x0
            have l1 : ι ≤ s.size := by omega
            have l2 : φ ≤ s.size := by omega
            have l3 : ι ≤ φ := by omega
            by_cases hki : κ ≤ ι
            · have hP := plainB_4a hk Hι.out Hφ.out Hκ.out hki (s := s)
              have HP := Lib.hid hP
              have l0 : κ ≤ s.size := by omega
              clear hF1 hF2 hF3 hF4 hij hk hP hc hd
              go_wp2_with fail
              go_quiet (fail)
              go_wp2_with fail
              go_ret2
              exact ⟨by rw [PC.out, PV.out, HP.out]; rfl, B3.out.trans ((below_drewN (Below.refl _ _) _).mono B3.out.size)⟩
            · have hP := plainB_4b hk Hι.out Hφ.out Hκ.out hki (s := s)
              have HP := Lib.hid hP
              have l0 : κ ≤ s.size := by omega
              have l4 : φ ≤ κ := by omega
              clear hF1 hF2 hF3 hF4 hij hk hP hc hd
              go_wp2_with fail
              go_quiet (fail)
              go_wp2_with fail
              go_ret2
              exact ⟨by rw [PC.out, PV.out, HP.out]; rfl, B3.out.trans ((below_drewN (Below.refl _ _) _).mono B3.out.size)⟩
          · have hf := hF2 (by omega)
            have hi := hij (by omega)
            have hP := plainB_5 hk Hι.out Hφ.out (s := s)
            have HP := Lib.hid hP
            rw [hk] at x0
            clear hF1 hF2 hF3 hF4 C3k hij hk hP
            have l1 : ι ≤ s.size := by omega
            have l2 : φ ≤ s.size := by omega
            have l3 : ι ≤ φ := by omega
            obtain ⟨T, hT⟩ : ∃ T, (s.extract ι φ).data.toList.reverse = T := ⟨_, rfl⟩
            have hTl : T.length ≤ 2000 := by rw [← hT]; simp; omega
            have HT := Lib.hid (fun W => l01Turn_any (s.extract ι φ) W (by simp; omega))
            rw [hT] at HT HP
            have n1 : ¬ 9223372036854775807 < ι + T.length := by omega
            have n2 : ¬ 9223372036854775807 < ι + T.length + (s.size - φ) := by omega
            clear hT
            go_wp2_with fail
            have KB := And.intro (drewB (w := w3)) (And.intro (show w3.drew.cell? ⟨w.heap.size, 1, none⟩ = _ from x1) (And.intro (show w3.drew.cell? ⟨w.heap.size, 2, none⟩ = _ from x2) (show w3.drew.cell? ⟨w.heap.size, 3, none⟩ = _ from x3)))
            go_region_held3 (fun w' => Below w3.heap.size w3 w' ∧ w'.cell? ⟨w.heap.size, 1, none⟩ = some (.int .i64 (ι : Int)) ∧ w'.cell? ⟨w.heap.size, 2, none⟩ = some (.int .i64 (φ : Int)) ∧ w'.cell? ⟨w.heap.size, 3, none⟩ = some (.int .i64 (κ : Int)))
              (first | (with_reducible exact KB) | (with_reducible exact keepG3 KB hb4 z3 z3 z3))
              (first
                | (go_at_call 52; (with_reducible refine (HT.out _).mono ?_); rintro r w4 ⟨rfl, hb4⟩))
            go_wp2_with fail
            go_ret2
            exact ⟨by rw [PC.out, PV.out, HP.out]; rfl, B3.out.trans (((drewB (w := w3)).trans hb4).mono B3.out.size)⟩
          · have hf := hF2 (by omega)
            have hi := hij (by omega)
            have hlen6 : (φ - ι) * κ ≤ 2000 := by
              have h := C4.out
              rw [editLen, if_neg (by omega), if_neg (by omega), if_neg (by omega), if_pos hk, Hι.out, Hφ.out, Hκ.out] at h
              have e1 : ((φ : Int) - ι) * κ = (((φ - ι) * κ : Nat) : Int) := by rw [Int.natCast_mul, Int.natCast_sub (by omega)]
              rw [e1] at h
              omega
            rw [hk] at x0
            have l1 : ι ≤ s.size := by omega
            have l2 : φ ≤ s.size := by omega
            have l3 : ι ≤ φ := by omega
            have lκ : κ ≤ 1000000000000000 := by have := Hκ15.out; omega
            by_cases heq : ι = φ
            · have hP := plainB_6a hk Hι.out Hφ.out heq (s := s)
              have HP := Lib.hid hP
              have g6 : ((ι : Int) == (φ : Int)) = true := by simp [heq]
              clear hF1 hF2 hF3 hF4 C3k hij hk hP heq hlen6
              go_wp2_with fail
              go_ret2
              exact ⟨by rw [PC.out, PV.out, HP.out]; rfl, B3.out⟩
            · have hP := plainB_6b hk Hι.out Hφ.out Hκ.out heq (s := s)
              have HP := Lib.hid hP
              have g6 : ((ι : Int) == (φ : Int)) = false := by rw [beq_eq_false_iff_ne]; omega
              obtain ⟨T, hT⟩ : ∃ T, repL (s.extract ι φ).data.toList κ = T := ⟨_, rfl⟩
              have hTl : T.length ≤ 2000 := by
                rw [← hT, repL_len]
                have : (s.extract ι φ).data.toList.length = φ - ι := by simp; omega
                rw [this, Nat.mul_comm]; exact hlen6
              have HT := Lib.hid (fun W => l01Times_any (s.extract ι φ) κ W lκ (by
                have : (s.extract ι φ).size = φ - ι := by simp; omega
                rw [this, Nat.mul_comm]; exact Nat.le_trans hlen6 (by decide)) (by simp; omega))
              rw [hT] at HT HP
              have n1 : ¬ 9223372036854775807 < ι + T.length := by omega
              have n2 : ¬ 9223372036854775807 < ι + T.length + (s.size - φ) := by omega
              clear hF1 hF2 hF3 hF4 C3k hij hk hP heq hlen6 hT
              go_wp2_with fail
              have KB := And.intro (drewB (w := w3)) (And.intro (show w3.drew.cell? ⟨w.heap.size, 1, none⟩ = _ from x1) (And.intro (show w3.drew.cell? ⟨w.heap.size, 2, none⟩ = _ from x2) (show w3.drew.cell? ⟨w.heap.size, 3, none⟩ = _ from x3)))
              go_region_held3 (fun w' => Below w3.heap.size w3 w' ∧ w'.cell? ⟨w.heap.size, 1, none⟩ = some (.int .i64 (ι : Int)) ∧ w'.cell? ⟨w.heap.size, 2, none⟩ = some (.int .i64 (φ : Int)) ∧ w'.cell? ⟨w.heap.size, 3, none⟩ = some (.int .i64 (κ : Int)))
                (first | (with_reducible exact KB) | (with_reducible exact keepG3 KB hb4 z3 z3 z3))
                (first
                  | (go_at_call 53; (with_reducible refine (HT.out _).mono ?_); rintro r w4 ⟨rfl, hb4⟩))
              go_wp2_with fail
              go_ret2
              exact ⟨by rw [PC.out, PV.out, HP.out]; rfl, B3.out.trans (((drewB (w := w3)).trans hb4).mono B3.out.size)⟩
          · have hf := hF2 (by omega)
            have hi := hij (by omega)
            have hP := plainB_7 hk Hι.out Hφ.out (s := s)
            have HP := Lib.hid hP
            have hm4 := HE7.out hk
            rw [hk] at x0
            clear hF1 hF2 hF3 hF4 C3k hij hk hP
            have l1 : ι ≤ s.size := by omega
            have l2 : φ ≤ s.size := by omega
            have l3 : ι ≤ φ := by omega
            obtain ⟨T, hT⟩ : ∃ T, (s.extract ι φ).data.toList.map (mapB e.map) = T := ⟨_, rfl⟩
            have hTl : T.length ≤ 2000 := by rw [← hT]; simp; omega
            have HT := Lib.hid (fun W => l07Mapped_any (s.extract ι φ) e.map W (by simp; omega) hm4 (extract_let HLet.out))
            rw [hT] at HT HP
            have n1 : ¬ 9223372036854775807 < ι + T.length := by omega
            have n2 : ¬ 9223372036854775807 < ι + T.length + (s.size - φ) := by omega
            clear hT hm4
            go_wp2_with fail
            have KB := And.intro (drewB (w := w3)) (And.intro (show w3.drew.cell? ⟨w.heap.size, 1, none⟩ = _ from x1) (And.intro (show w3.drew.cell? ⟨w.heap.size, 2, none⟩ = _ from x2) (show w3.drew.cell? ⟨w.heap.size, 5, none⟩ = _ from x5)))
            go_region_held3 (fun w' => Below w3.heap.size w3 w' ∧ w'.cell? ⟨w.heap.size, 1, none⟩ = some (.int .i64 (ι : Int)) ∧ w'.cell? ⟨w.heap.size, 2, none⟩ = some (.int .i64 (φ : Int)) ∧ w'.cell? ⟨w.heap.size, 5, none⟩ = some (.string e.map))
              (first | (with_reducible exact KB) | (with_reducible exact keepG3 KB hb4 z3 z3 z3))
              (first
                | (go_at_call 54; (with_reducible refine (HT.out _).mono ?_); rintro r w4 ⟨rfl, hb4⟩))
            go_wp2_with fail
            go_ret2
            exact ⟨by rw [PC.out, PV.out, HP.out]; rfl, B3.out.trans (((drewB (w := w3)).trans hb4).mono B3.out.size)⟩
        · have g4 : decide (growV e s.size 2000 < 0) = true := by
            have : growV e s.size 2000 = -1 := by rw [growV, if_neg c4]
            rw [this]; simp
          obtain ⟨G, hGv⟩ : ∃ G, growV e s.size 2000 = G := ⟨_, rfl⟩
          rw [hGv] at g4
          rw [hGv]
          obtain ⟨pc, pv⟩ := epC_3 HW.out HE.out C3.out c4
          have PC := Lib.hid pc
          have PV := Lib.hid pv
          clear pc pv c4 hGv hnn hF
          go_wp2_with fail
          go_ret2
          exact ⟨by rw [PC.out, PV.out]; rfl, B3.out⟩
      · have c3' : editFits e s.size = false := by simpa using c3
        have g3 : (!editFits e s.size) = true := by simp [c3']
        obtain ⟨pc, pv⟩ := epC_2 HW.out HE.out c3'
        have PC := Lib.hid pc
        have PV := Lib.hid pv
        clear pc pv c3 c3'
        go_wp2_with fail
        go_ret2
        exact ⟨by rw [PC.out, PV.out]; rfl, B2.out⟩
    · have he' : editOk e = false := by simpa using he
      have g0 : (!editOk e) = true := by simp [he']
      obtain ⟨pc, pv⟩ := epC_1 (s := s) (e := e) (.inr he')
      have PC := Lib.hid pc
      have PV := Lib.hid pv
      clear pc pv he he'
      go_wp2_with fail
      go_ret2
      exact ⟨by rw [PC.out, PV.out]; rfl, B1.out⟩
  · have hw' : wordOk s = false := by simpa using hw
    have g0 : (!wordOk s) = true := by simp [hw']
    obtain ⟨pc, pv⟩ := epC_1 (s := s) (e := e) (.inl hw')
    have PC := Lib.hid pc
    have PV := Lib.hid pv
    clear pc pv hw hw' hs
    go_wp2_with fail
    go_ret2
    exact ⟨by rw [PC.out, PV.out]; rfl, (by repeat (first | exact Below.refl _ _ | (refine Below.alloc ?_ (by first | omega | (simp; done) | (simp; omega)) _) | refine below_drewN ?_ _ | refine Below.drew ?_))⟩
end Go.Proofs.Ytagpjommhoedlaa

