import Derived.Test.YthidgjdjijjkoaaEdit2
import Derived.Test.YthidgjdjijjkoaaEdit1
namespace Go.Proofs.Ythidgjdjijjkoaa
open Go.RowKit

theorem l07Has_lit (s : ByteArray) (n : Int) (b : UInt8) (r : Bool) (hs : s.size ≤ maxLen) (hn : n = b.toNat) (h : hasByte s b = r) :
    Hid (∀ w, Calls Try.prog 135 #[.string s, .int .u8 n] w fun e w' => e = .returned (.bool r) ∧ w = w') := by
  subst h hn; exact fun w => l07Has_any s b w hs
theorem l07Number_lit (n : Int) (b r : Bool) (h : numOk n b = r) :
    Hid (∀ w, Calls Try.prog 134 #[.int .i64 n, .bool b] w fun e w' => e = .returned (.bool r) ∧ w = w') := by
  subst h; exact fun w => l07Number_any n b w

theorem keepEd {wr W W2 : World} {p : Addr} {a : Value} (h : Below wr.heap.size wr W ∧ W.cell? p = some a) (h2 : Below W.heap.size W W2) (hp : p.block < wr.heap.size) : Below wr.heap.size wr W2 ∧ W2.cell? p = some a :=
  ⟨h.1.trans (h2.mono h.1.size), (h2.cell (Nat.lt_of_lt_of_le hp h.1.size)).trans h.2⟩
set_option maxRecDepth 100000 in
set_option maxHeartbeats 4000000 in
theorem l07Ok_any (b : Nat) (vR : Value) (e : GEdit) (w : World) (h : EditAt w w.heap.size b e vR) (hsm : SmallL e.part) (hn : e.part.length ≤ 1099511627776) (hm : e.map.size ≤ maxLen) :
    Calls Try.prog 100 #[.pointer (some ⟨b, 0, none⟩)] w fun r w' => r = .returned (.bool (editOk e)) ∧ Below w.heap.size w w' := by
  have HH := Lib.hid h
  obtain ⟨⟨x0, x1, x2, x3, x4, x5⟩, hlt, hR⟩ := h
  have HR := Lib.hid hR
  obtain ⟨AR, cR, rfl, _⟩ := hR
  by_cases hk : inR e.kind 1 7 = true
  · have HK := Lib.hid hk
    have HE := Lib.hid (ok_split hk)
    obtain ⟨u1, u2, u3, u4, u5⟩ := uses_has hk
    obtain ⟨S, hS⟩ : ∃ S, usesS e.kind = S := ⟨_, rfl⟩
    rw [hS] at u1 u2 u3 u4 u5
    have HS := Lib.hid hS
    have hSm : S.size ≤ maxLen := by unfold maxLen; omega
    have HU := Lib.hid (And.intro u1 (And.intro u2 (And.intro u3 u4)))
    have H4 : (usesJ e.kind = false ∧ usesK e.kind = false ∧ (e.kind == 1) = true ∧ (e.kind == 7) = false) ∨ (usesJ e.kind = true ∧ usesK e.kind = false ∧ (e.kind == 1) = false ∧ (e.kind == 7) = false) ∨ (usesJ e.kind = true ∧ usesK e.kind = true ∧ (e.kind == 1) = false ∧ (e.kind == 7) = false) ∨ (usesJ e.kind = true ∧ usesK e.kind = false ∧ (e.kind == 1) = false ∧ (e.kind == 7) = true) := by
      rcases kind7 hk with h | h | h | h | h | h | h <;> rw [h] <;> simp [usesJ, usesK]
    clear hk hS u1 u2 u3 u4 u5
    go_enter Try.func100, Try.ntmps100
    go_wp2_with fail
    refine (l00In_yes _ _ _ _ HK.out).mono ?_
    rintro r w' ⟨rfl, rfl⟩
    go_wp2_with fail
    refine (l07Uses_any _ _ HK.out).mono ?_
    rintro r w1 ⟨rfl, hb1⟩
    rw [HS.out]
    have HH1 := Lib.hid (HH.out.up hb1)
    have HB1 := Lib.hid hb1
    have z1 : b < w1.heap.size := Nat.lt_of_lt_of_le hlt hb1.size
    clear hb1 x0 x1 x2 x3 x4 x5
    obtain ⟨x0, x1, x2, x3, x4, x5⟩ := HH1.out.box
    go_wp2_with fail
    rcases H4 with ⟨u1, u2, u3, u4⟩ | ⟨u1, u2, u3, u4⟩ | ⟨u1, u2, u3, u4⟩ | ⟨u1, u2, u3, u4⟩
    · rw [u1, u2, u3, u4] at HE HU
      obtain ⟨hJ', hK', hP', hM'⟩ := HU.out
      have CJ := l07Has_lit S 74 74 _ hSm rfl hJ'
      have CK := l07Has_lit S 75 75 _ hSm rfl hK'
      have CP := l07Has_lit S 80 80 _ hSm rfl hP'
      have CM := l07Has_lit S 77 77 _ hSm rfl hM'
      clear hJ' hK' hP' hM'
      clear u1 u2 u3 u4
      by_cases ni : numOk e.i true = true
      · have Ni := Lib.hid ni
        have Di := l07Number_lit e.i true _ ni
        clear ni
        by_cases nj : numOk e.j false = true
        · have Nj := Lib.hid nj
          have Dj := l07Number_lit e.j _ _ nj
          clear nj
          by_cases nk : numOk e.k false = true
          · have Nk := Lib.hid nk
            have Dk := l07Number_lit e.k _ _ nk
            clear nk
            go_quiet (first
              | (go_at_call 135; first | with_reducible exact quiet_left (CJ.out _) | with_reducible exact quiet_left (CK.out _))
              | (go_at_call 134; first | with_reducible exact quiet_left (Di.out _) | with_reducible exact quiet_left (Dj.out _) | with_reducible exact quiet_left (Dk.out _)))
            go_wp2_with fail
            have Ni2 := Lib.hid (show inR e.i 0 1000000000000000 = true from Ni.out)
            have HH2 := Lib.hid (HH1.out.up (below_drewN (Below.refl w1.heap.size w1) nq))
            have HB2 := Lib.hid (HB1.out.trans ((below_drewN (Below.refl w1.heap.size w1) nq).mono HB1.out.size))
            clear x0 x1 x2 x3 x4 x5 z1
            generalize w1.drewN nq = w2 at *
            have z2 : b < w2.heap.size := HH2.out.lt
            obtain ⟨x0, x1, x2, x3, x4, x5⟩ := HH2.out.box
            have KB := And.intro (Below.drew (Below.refl w2.heap.size w2)) (show w2.drew.cell? ⟨b, 4, none⟩ = _ from x4)
            have Y4 := Lib.hid KB.2
            have Z4 := Lib.hid (show b < w2.drew.heap.size from z2)
            have R4 := Lib.hid (HH2.out.sl.up (Below.drew (Below.refl w2.heap.size w2)))
            by_cases cl : 0 < e.part.length
            · have Cl := Lib.hid cl
              have cl' : decide (0 < e.part.length) = true := by simp [cl]
              by_cases cg : gramOk e.part = true
              · have Cg := Lib.hid cg
                go_region_held3 (fun w' => Below w2.heap.size w2 w' ∧ w'.cell? ⟨b, 4, none⟩ = some (.slice AR e.part.length cR))
                  (first | (with_reducible exact KB) | (with_reducible exact keepEd KB hb3 z2))
                  (first
                    | (go_at_call 135; refine (CP.out _).mono ?_; rintro r w' ⟨rfl, rfl⟩)
                    | (go_at_call 73; refine (l02Ok_any b 4 _ e.part _ Y4.out Z4.out R4.out hsm).mono ?_; rintro r w3 ⟨rfl, hb3⟩))
                have HB3 := Lib.hid (HB2.out.trans (((Below.drew (Below.refl w2.heap.size w2)).trans hb3).mono HB2.out.size))
                have y5 := (hb3.cell (p := ⟨b, 5, none⟩) z2).trans (show w2.drew.cell? ⟨b, 5, none⟩ = _ from x5)
                clear KB hb3 x0 x1 x2 x3 x4 x5
                go_wp2_with fail
                refine (CM.out _).mono ?_
                rintro r w' ⟨rfl, rfl⟩
                by_cases cm : e.map.size = 0
                · have Cm := Lib.hid cm
                  have gm := str_empty e.map
                  rw [show (e.map.size == 0) = true by simp [cm]] at gm
                  clear cm
                  go_wp2_with fail
                  go_ret
                  exact ⟨ret_bool (by rw [HE.out]; simp [Ni2.out, Nj.out, Nk.out, Cl.out, Cg.out, Cm.out]), (by repeat (first | exact HB3.out | (refine Below.alloc ?_ (by first | omega | (simp; done) | (simp; omega)) _) | refine below_drewN ?_ _ | refine Below.drew ?_))⟩
                · have Cm := Lib.hid cm
                  have gm := str_empty e.map
                  rw [show (e.map.size == 0) = false by simp [cm]] at gm
                  clear cm
                  go_wp2_with fail
                  go_ret
                  exact ⟨ret_bool (by rw [HE.out]; simp [Ni2.out, Nj.out, Nk.out, Cl.out, Cg.out, Cm.out]), (by repeat (first | exact HB3.out | (refine Below.alloc ?_ (by first | omega | (simp; done) | (simp; omega)) _) | refine below_drewN ?_ _ | refine Below.drew ?_))⟩
              · have cg' : gramOk e.part = false := by simpa using cg
                have Cg := Lib.hid cg'
                clear cg
                go_region_held3 (fun w' => Below w2.heap.size w2 w' ∧ w'.cell? ⟨b, 4, none⟩ = some (.slice AR e.part.length cR))
                  (first | (with_reducible exact KB) | (with_reducible exact keepEd KB hb3 z2))
                  (first
                    | (go_at_call 135; refine (CP.out _).mono ?_; rintro r w' ⟨rfl, rfl⟩)
                    | (go_at_call 73; refine (l02Ok_any b 4 _ e.part _ Y4.out Z4.out R4.out hsm).mono ?_; rintro r w3 ⟨rfl, hb3⟩))
                have HB3 := Lib.hid (HB2.out.trans (((Below.drew (Below.refl w2.heap.size w2)).trans hb3).mono HB2.out.size))
                have y5 := (hb3.cell (p := ⟨b, 5, none⟩) z2).trans (show w2.drew.cell? ⟨b, 5, none⟩ = _ from x5)
                clear KB hb3 x0 x1 x2 x3 x4 x5
                go_wp2_with fail
                go_ret
                exact ⟨ret_bool (by rw [HE.out]; simp [Cg.out]), (by repeat (first | exact HB3.out | (refine Below.alloc ?_ (by first | omega | (simp; done) | (simp; omega)) _) | refine below_drewN ?_ _ | refine Below.drew ?_))⟩
            · have hL : e.part.length = 0 := by omega
              have Cl := Lib.hid cl
              rw [hL] at KB Y4 R4 x4
              clear cl hL
              go_quiet ((go_at_call 135; with_reducible exact quiet_left (CP.out _)))
              have HB3 := Lib.hid (HB2.out.trans ((below_drewN (Below.refl w2.heap.size w2) nq).mono HB2.out.size))
              go_wp2_with fail
              go_ret
              exact ⟨ret_bool (by rw [HE.out]; simp [Cl.out]), (by repeat (first | exact HB3.out | (refine Below.alloc ?_ (by first | omega | (simp; done) | (simp; omega)) _) | refine below_drewN ?_ _ | refine Below.drew ?_))⟩
          · have nk' : numOk e.k false = false := by simpa using nk
            have Nk := Lib.hid nk'
            have Dk := l07Number_lit e.k _ _ nk'
            clear nk nk'
            go_quiet (first
              | (go_at_call 135; first | with_reducible exact quiet_left (CJ.out _) | with_reducible exact quiet_left (CK.out _))
              | (go_at_call 134; first | with_reducible exact quiet_left (Di.out _) | with_reducible exact quiet_left (Dj.out _) | with_reducible exact quiet_left (Dk.out _)))
            go_wp2_with fail
            go_ret
            exact ⟨ret_bool (by rw [HE.out]; simp [Nk.out]), (by repeat (first | exact HB1.out | (refine Below.alloc ?_ (by first | omega | (simp; done) | (simp; omega)) _) | refine below_drewN ?_ _ | refine Below.drew ?_))⟩
        · have nj' : numOk e.j false = false := by simpa using nj
          have Nj := Lib.hid nj'
          have Dj := l07Number_lit e.j _ _ nj'
          clear nj nj'
          go_quiet (first
            | (go_at_call 135; first | with_reducible exact quiet_left (CJ.out _) | with_reducible exact quiet_left (CK.out _))
            | (go_at_call 134; first | with_reducible exact quiet_left (Di.out _) | with_reducible exact quiet_left (Dj.out _) | with_reducible exact quiet_left (Dk.out _)))
          go_wp2_with fail
          go_ret
          exact ⟨ret_bool (by rw [HE.out]; simp [Nj.out]), (by repeat (first | exact HB1.out | (refine Below.alloc ?_ (by first | omega | (simp; done) | (simp; omega)) _) | refine below_drewN ?_ _ | refine Below.drew ?_))⟩
      · have ni' : numOk e.i true = false := by simpa using ni
        have Ni := Lib.hid ni'
        have Ni2 := Lib.hid (show inR e.i 0 1000000000000000 = false from ni')
        have Di := l07Number_lit e.i true _ ni'
        clear ni ni'
        go_quiet (first
          | (go_at_call 135; first | with_reducible exact quiet_left (CJ.out _) | with_reducible exact quiet_left (CK.out _))
          | (go_at_call 134; first | with_reducible exact quiet_left (Di.out _) | with_reducible exact quiet_left (Dj.out _) | with_reducible exact quiet_left (Dk.out _)))
        go_wp2_with fail
        go_ret
        exact ⟨ret_bool (by rw [HE.out]; simp [Ni2.out]), (by repeat (first | exact HB1.out | (refine Below.alloc ?_ (by first | omega | (simp; done) | (simp; omega)) _) | refine below_drewN ?_ _ | refine Below.drew ?_))⟩
    · rw [u1, u2, u3, u4] at HE HU
      obtain ⟨hJ', hK', hP', hM'⟩ := HU.out
      have CJ := l07Has_lit S 74 74 _ hSm rfl hJ'
      have CK := l07Has_lit S 75 75 _ hSm rfl hK'
      have CP := l07Has_lit S 80 80 _ hSm rfl hP'
      have CM := l07Has_lit S 77 77 _ hSm rfl hM'
      clear hJ' hK' hP' hM'
      clear u1 u2 u3 u4
      by_cases ni : numOk e.i true = true
      · have Ni := Lib.hid ni
        have Di := l07Number_lit e.i true _ ni
        clear ni
        by_cases nj : numOk e.j true = true
        · have Nj := Lib.hid nj
          have Dj := l07Number_lit e.j _ _ nj
          clear nj
          by_cases nk : numOk e.k false = true
          · have Nk := Lib.hid nk
            have Dk := l07Number_lit e.k _ _ nk
            clear nk
            by_cases nij : e.j < e.i
            · have Nij := Lib.hid nij
              go_quiet (first
                | (go_at_call 135; first | with_reducible exact quiet_left (CJ.out _) | with_reducible exact quiet_left (CK.out _))
                | (go_at_call 134; first | with_reducible exact quiet_left (Di.out _) | with_reducible exact quiet_left (Dj.out _) | with_reducible exact quiet_left (Dk.out _)))
              go_wp2_with fail
              go_ret
              exact ⟨ret_bool (by rw [HE.out]; simp [Nij.out]), (by repeat (first | exact HB1.out | (refine Below.alloc ?_ (by first | omega | (simp; done) | (simp; omega)) _) | refine below_drewN ?_ _ | refine Below.drew ?_))⟩
            · have nij' : decide (e.j < e.i) = false := by simp; omega
              have Nij := Lib.hid nij'
              go_quiet (first
                | (go_at_call 135; first | with_reducible exact quiet_left (CJ.out _) | with_reducible exact quiet_left (CK.out _))
                | (go_at_call 134; first | with_reducible exact quiet_left (Di.out _) | with_reducible exact quiet_left (Dj.out _) | with_reducible exact quiet_left (Dk.out _)))
              go_wp2_with fail
              have Ni2 := Lib.hid (show inR e.i 0 1000000000000000 = true from Ni.out)
              have HH2 := Lib.hid (HH1.out.up (below_drewN (Below.refl w1.heap.size w1) nq))
              have HB2 := Lib.hid (HB1.out.trans ((below_drewN (Below.refl w1.heap.size w1) nq).mono HB1.out.size))
              clear x0 x1 x2 x3 x4 x5 z1
              generalize w1.drewN nq = w2 at *
              have z2 : b < w2.heap.size := HH2.out.lt
              obtain ⟨x0, x1, x2, x3, x4, x5⟩ := HH2.out.box
              have KB := And.intro (Below.drew (Below.refl w2.heap.size w2)) (show w2.drew.cell? ⟨b, 4, none⟩ = _ from x4)
              have Y4 := Lib.hid KB.2
              have Z4 := Lib.hid (show b < w2.drew.heap.size from z2)
              have R4 := Lib.hid (HH2.out.sl.up (Below.drew (Below.refl w2.heap.size w2)))
              by_cases cl : 0 < e.part.length
              · have Cl := Lib.hid cl
                have cl' : decide (0 < e.part.length) = true := by simp [cl]
                go_quiet ((go_at_call 135; with_reducible exact quiet_left (CP.out _)))
                have HB3 := Lib.hid (HB2.out.trans ((below_drewN (Below.refl w2.heap.size w2) nq).mono HB2.out.size))
                go_wp2_with fail
                go_ret
                exact ⟨ret_bool (by rw [HE.out]; simp [Cl.out]), (by repeat (first | exact HB3.out | (refine Below.alloc ?_ (by first | omega | (simp; done) | (simp; omega)) _) | refine below_drewN ?_ _ | refine Below.drew ?_))⟩
              · have Cg := Lib.hid (emptyOk cl)
                have cg : gramOk e.part = true := emptyOk cl
                have hL : e.part.length = 0 := by omega
                have Cl := Lib.hid cl
                rw [hL] at KB Y4 R4 x4
                clear cl hL
                go_region_held3 (fun w' => Below w2.heap.size w2 w' ∧ w'.cell? ⟨b, 4, none⟩ = some (.slice AR 0 cR))
                  (first | (with_reducible exact KB) | (with_reducible exact keepEd KB hb3 z2))
                  (first
                    | (go_at_call 135; refine (CP.out _).mono ?_; rintro r w' ⟨rfl, rfl⟩)
                    | (go_at_call 73; refine (l02Ok_any b 4 _ e.part _ Y4.out Z4.out R4.out hsm).mono ?_; rintro r w3 ⟨rfl, hb3⟩))
                have HB3 := Lib.hid (HB2.out.trans (((Below.drew (Below.refl w2.heap.size w2)).trans hb3).mono HB2.out.size))
                have y5 := (hb3.cell (p := ⟨b, 5, none⟩) z2).trans (show w2.drew.cell? ⟨b, 5, none⟩ = _ from x5)
                clear KB hb3 x0 x1 x2 x3 x4 x5
                go_wp2_with fail
                refine (CM.out _).mono ?_
                rintro r w' ⟨rfl, rfl⟩
                by_cases cm : e.map.size = 0
                · have Cm := Lib.hid cm
                  have gm := str_empty e.map
                  rw [show (e.map.size == 0) = true by simp [cm]] at gm
                  clear cm
                  go_wp2_with fail
                  go_ret
                  exact ⟨ret_bool (by rw [HE.out]; simp [Ni2.out, Nj.out, Nk.out, Nij.out, Cl.out, Cg.out, Cm.out]), (by repeat (first | exact HB3.out | (refine Below.alloc ?_ (by first | omega | (simp; done) | (simp; omega)) _) | refine below_drewN ?_ _ | refine Below.drew ?_))⟩
                · have Cm := Lib.hid cm
                  have gm := str_empty e.map
                  rw [show (e.map.size == 0) = false by simp [cm]] at gm
                  clear cm
                  go_wp2_with fail
                  go_ret
                  exact ⟨ret_bool (by rw [HE.out]; simp [Ni2.out, Nj.out, Nk.out, Nij.out, Cl.out, Cg.out, Cm.out]), (by repeat (first | exact HB3.out | (refine Below.alloc ?_ (by first | omega | (simp; done) | (simp; omega)) _) | refine below_drewN ?_ _ | refine Below.drew ?_))⟩
          · have nk' : numOk e.k false = false := by simpa using nk
            have Nk := Lib.hid nk'
            have Dk := l07Number_lit e.k _ _ nk'
            clear nk nk'
            go_quiet (first
              | (go_at_call 135; first | with_reducible exact quiet_left (CJ.out _) | with_reducible exact quiet_left (CK.out _))
              | (go_at_call 134; first | with_reducible exact quiet_left (Di.out _) | with_reducible exact quiet_left (Dj.out _) | with_reducible exact quiet_left (Dk.out _)))
            go_wp2_with fail
            go_ret
            exact ⟨ret_bool (by rw [HE.out]; simp [Nk.out]), (by repeat (first | exact HB1.out | (refine Below.alloc ?_ (by first | omega | (simp; done) | (simp; omega)) _) | refine below_drewN ?_ _ | refine Below.drew ?_))⟩
        · have nj' : numOk e.j true = false := by simpa using nj
          have Nj := Lib.hid nj'
          have Dj := l07Number_lit e.j _ _ nj'
          clear nj nj'
          go_quiet (first
            | (go_at_call 135; first | with_reducible exact quiet_left (CJ.out _) | with_reducible exact quiet_left (CK.out _))
            | (go_at_call 134; first | with_reducible exact quiet_left (Di.out _) | with_reducible exact quiet_left (Dj.out _) | with_reducible exact quiet_left (Dk.out _)))
          go_wp2_with fail
          go_ret
          exact ⟨ret_bool (by rw [HE.out]; simp [Nj.out]), (by repeat (first | exact HB1.out | (refine Below.alloc ?_ (by first | omega | (simp; done) | (simp; omega)) _) | refine below_drewN ?_ _ | refine Below.drew ?_))⟩
      · have ni' : numOk e.i true = false := by simpa using ni
        have Ni := Lib.hid ni'
        have Ni2 := Lib.hid (show inR e.i 0 1000000000000000 = false from ni')
        have Di := l07Number_lit e.i true _ ni'
        clear ni ni'
        go_quiet (first
          | (go_at_call 135; first | with_reducible exact quiet_left (CJ.out _) | with_reducible exact quiet_left (CK.out _))
          | (go_at_call 134; first | with_reducible exact quiet_left (Di.out _) | with_reducible exact quiet_left (Dj.out _) | with_reducible exact quiet_left (Dk.out _)))
        go_wp2_with fail
        go_ret
        exact ⟨ret_bool (by rw [HE.out]; simp [Ni2.out]), (by repeat (first | exact HB1.out | (refine Below.alloc ?_ (by first | omega | (simp; done) | (simp; omega)) _) | refine below_drewN ?_ _ | refine Below.drew ?_))⟩
    · rw [u1, u2, u3, u4] at HE HU
      obtain ⟨hJ', hK', hP', hM'⟩ := HU.out
      have CJ := l07Has_lit S 74 74 _ hSm rfl hJ'
      have CK := l07Has_lit S 75 75 _ hSm rfl hK'
      have CP := l07Has_lit S 80 80 _ hSm rfl hP'
      have CM := l07Has_lit S 77 77 _ hSm rfl hM'
      clear hJ' hK' hP' hM'
      clear u1 u2 u3 u4
      by_cases ni : numOk e.i true = true
      · have Ni := Lib.hid ni
        have Di := l07Number_lit e.i true _ ni
        clear ni
        by_cases nj : numOk e.j true = true
        · have Nj := Lib.hid nj
          have Dj := l07Number_lit e.j _ _ nj
          clear nj
          by_cases nk : numOk e.k true = true
          · have Nk := Lib.hid nk
            have Dk := l07Number_lit e.k _ _ nk
            clear nk
            by_cases nij : e.j < e.i
            · have Nij := Lib.hid nij
              go_quiet (first
                | (go_at_call 135; first | with_reducible exact quiet_left (CJ.out _) | with_reducible exact quiet_left (CK.out _))
                | (go_at_call 134; first | with_reducible exact quiet_left (Di.out _) | with_reducible exact quiet_left (Dj.out _) | with_reducible exact quiet_left (Dk.out _)))
              go_wp2_with fail
              go_ret
              exact ⟨ret_bool (by rw [HE.out]; simp [Nij.out]), (by repeat (first | exact HB1.out | (refine Below.alloc ?_ (by first | omega | (simp; done) | (simp; omega)) _) | refine below_drewN ?_ _ | refine Below.drew ?_))⟩
            · have nij' : decide (e.j < e.i) = false := by simp; omega
              have Nij := Lib.hid nij'
              go_quiet (first
                | (go_at_call 135; first | with_reducible exact quiet_left (CJ.out _) | with_reducible exact quiet_left (CK.out _))
                | (go_at_call 134; first | with_reducible exact quiet_left (Di.out _) | with_reducible exact quiet_left (Dj.out _) | with_reducible exact quiet_left (Dk.out _)))
              go_wp2_with fail
              have Ni2 := Lib.hid (show inR e.i 0 1000000000000000 = true from Ni.out)
              have HH2 := Lib.hid (HH1.out.up (below_drewN (Below.refl w1.heap.size w1) nq))
              have HB2 := Lib.hid (HB1.out.trans ((below_drewN (Below.refl w1.heap.size w1) nq).mono HB1.out.size))
              clear x0 x1 x2 x3 x4 x5 z1
              generalize w1.drewN nq = w2 at *
              have z2 : b < w2.heap.size := HH2.out.lt
              obtain ⟨x0, x1, x2, x3, x4, x5⟩ := HH2.out.box
              have KB := And.intro (Below.drew (Below.refl w2.heap.size w2)) (show w2.drew.cell? ⟨b, 4, none⟩ = _ from x4)
              have Y4 := Lib.hid KB.2
              have Z4 := Lib.hid (show b < w2.drew.heap.size from z2)
              have R4 := Lib.hid (HH2.out.sl.up (Below.drew (Below.refl w2.heap.size w2)))
              by_cases cl : 0 < e.part.length
              · have Cl := Lib.hid cl
                have cl' : decide (0 < e.part.length) = true := by simp [cl]
                go_quiet ((go_at_call 135; with_reducible exact quiet_left (CP.out _)))
                have HB3 := Lib.hid (HB2.out.trans ((below_drewN (Below.refl w2.heap.size w2) nq).mono HB2.out.size))
                go_wp2_with fail
                go_ret
                exact ⟨ret_bool (by rw [HE.out]; simp [Cl.out]), (by repeat (first | exact HB3.out | (refine Below.alloc ?_ (by first | omega | (simp; done) | (simp; omega)) _) | refine below_drewN ?_ _ | refine Below.drew ?_))⟩
              · have Cg := Lib.hid (emptyOk cl)
                have cg : gramOk e.part = true := emptyOk cl
                have hL : e.part.length = 0 := by omega
                have Cl := Lib.hid cl
                rw [hL] at KB Y4 R4 x4
                clear cl hL
                go_region_held3 (fun w' => Below w2.heap.size w2 w' ∧ w'.cell? ⟨b, 4, none⟩ = some (.slice AR 0 cR))
                  (first | (with_reducible exact KB) | (with_reducible exact keepEd KB hb3 z2))
                  (first
                    | (go_at_call 135; refine (CP.out _).mono ?_; rintro r w' ⟨rfl, rfl⟩)
                    | (go_at_call 73; refine (l02Ok_any b 4 _ e.part _ Y4.out Z4.out R4.out hsm).mono ?_; rintro r w3 ⟨rfl, hb3⟩))
                have HB3 := Lib.hid (HB2.out.trans (((Below.drew (Below.refl w2.heap.size w2)).trans hb3).mono HB2.out.size))
                have y5 := (hb3.cell (p := ⟨b, 5, none⟩) z2).trans (show w2.drew.cell? ⟨b, 5, none⟩ = _ from x5)
                clear KB hb3 x0 x1 x2 x3 x4 x5
                go_wp2_with fail
                refine (CM.out _).mono ?_
                rintro r w' ⟨rfl, rfl⟩
                by_cases cm : e.map.size = 0
                · have Cm := Lib.hid cm
                  have gm := str_empty e.map
                  rw [show (e.map.size == 0) = true by simp [cm]] at gm
                  clear cm
                  go_wp2_with fail
                  go_ret
                  exact ⟨ret_bool (by rw [HE.out]; simp [Ni2.out, Nj.out, Nk.out, Nij.out, Cl.out, Cg.out, Cm.out]), (by repeat (first | exact HB3.out | (refine Below.alloc ?_ (by first | omega | (simp; done) | (simp; omega)) _) | refine below_drewN ?_ _ | refine Below.drew ?_))⟩
                · have Cm := Lib.hid cm
                  have gm := str_empty e.map
                  rw [show (e.map.size == 0) = false by simp [cm]] at gm
                  clear cm
                  go_wp2_with fail
                  go_ret
                  exact ⟨ret_bool (by rw [HE.out]; simp [Ni2.out, Nj.out, Nk.out, Nij.out, Cl.out, Cg.out, Cm.out]), (by repeat (first | exact HB3.out | (refine Below.alloc ?_ (by first | omega | (simp; done) | (simp; omega)) _) | refine below_drewN ?_ _ | refine Below.drew ?_))⟩
          · have nk' : numOk e.k true = false := by simpa using nk
            have Nk := Lib.hid nk'
            have Dk := l07Number_lit e.k _ _ nk'
            clear nk nk'
            go_quiet (first
              | (go_at_call 135; first | with_reducible exact quiet_left (CJ.out _) | with_reducible exact quiet_left (CK.out _))
              | (go_at_call 134; first | with_reducible exact quiet_left (Di.out _) | with_reducible exact quiet_left (Dj.out _) | with_reducible exact quiet_left (Dk.out _)))
            go_wp2_with fail
            go_ret
            exact ⟨ret_bool (by rw [HE.out]; simp [Nk.out]), (by repeat (first | exact HB1.out | (refine Below.alloc ?_ (by first | omega | (simp; done) | (simp; omega)) _) | refine below_drewN ?_ _ | refine Below.drew ?_))⟩
        · have nj' : numOk e.j true = false := by simpa using nj
          have Nj := Lib.hid nj'
          have Dj := l07Number_lit e.j _ _ nj'
          clear nj nj'
          go_quiet (first
            | (go_at_call 135; first | with_reducible exact quiet_left (CJ.out _) | with_reducible exact quiet_left (CK.out _))
            | (go_at_call 134; first | with_reducible exact quiet_left (Di.out _) | with_reducible exact quiet_left (Dj.out _) | with_reducible exact quiet_left (Dk.out _)))
          go_wp2_with fail
          go_ret
          exact ⟨ret_bool (by rw [HE.out]; simp [Nj.out]), (by repeat (first | exact HB1.out | (refine Below.alloc ?_ (by first | omega | (simp; done) | (simp; omega)) _) | refine below_drewN ?_ _ | refine Below.drew ?_))⟩
      · have ni' : numOk e.i true = false := by simpa using ni
        have Ni := Lib.hid ni'
        have Ni2 := Lib.hid (show inR e.i 0 1000000000000000 = false from ni')
        have Di := l07Number_lit e.i true _ ni'
        clear ni ni'
        go_quiet (first
          | (go_at_call 135; first | with_reducible exact quiet_left (CJ.out _) | with_reducible exact quiet_left (CK.out _))
          | (go_at_call 134; first | with_reducible exact quiet_left (Di.out _) | with_reducible exact quiet_left (Dj.out _) | with_reducible exact quiet_left (Dk.out _)))
        go_wp2_with fail
        go_ret
        exact ⟨ret_bool (by rw [HE.out]; simp [Ni2.out]), (by repeat (first | exact HB1.out | (refine Below.alloc ?_ (by first | omega | (simp; done) | (simp; omega)) _) | refine below_drewN ?_ _ | refine Below.drew ?_))⟩
    · rw [u1, u2, u3, u4] at HE HU
      obtain ⟨hJ', hK', hP', hM'⟩ := HU.out
      have CJ := l07Has_lit S 74 74 _ hSm rfl hJ'
      have CK := l07Has_lit S 75 75 _ hSm rfl hK'
      have CP := l07Has_lit S 80 80 _ hSm rfl hP'
      have CM := l07Has_lit S 77 77 _ hSm rfl hM'
      clear hJ' hK' hP' hM'
      clear u1 u2 u3 u4
      by_cases ni : numOk e.i true = true
      · have Ni := Lib.hid ni
        have Di := l07Number_lit e.i true _ ni
        clear ni
        by_cases nj : numOk e.j true = true
        · have Nj := Lib.hid nj
          have Dj := l07Number_lit e.j _ _ nj
          clear nj
          by_cases nk : numOk e.k false = true
          · have Nk := Lib.hid nk
            have Dk := l07Number_lit e.k _ _ nk
            clear nk
            by_cases nij : e.j < e.i
            · have Nij := Lib.hid nij
              go_quiet (first
                | (go_at_call 135; first | with_reducible exact quiet_left (CJ.out _) | with_reducible exact quiet_left (CK.out _))
                | (go_at_call 134; first | with_reducible exact quiet_left (Di.out _) | with_reducible exact quiet_left (Dj.out _) | with_reducible exact quiet_left (Dk.out _)))
              go_wp2_with fail
              go_ret
              exact ⟨ret_bool (by rw [HE.out]; simp [Nij.out]), (by repeat (first | exact HB1.out | (refine Below.alloc ?_ (by first | omega | (simp; done) | (simp; omega)) _) | refine below_drewN ?_ _ | refine Below.drew ?_))⟩
            · have nij' : decide (e.j < e.i) = false := by simp; omega
              have Nij := Lib.hid nij'
              go_quiet (first
                | (go_at_call 135; first | with_reducible exact quiet_left (CJ.out _) | with_reducible exact quiet_left (CK.out _))
                | (go_at_call 134; first | with_reducible exact quiet_left (Di.out _) | with_reducible exact quiet_left (Dj.out _) | with_reducible exact quiet_left (Dk.out _)))
              go_wp2_with fail
              have Ni2 := Lib.hid (show inR e.i 0 1000000000000000 = true from Ni.out)
              have HH2 := Lib.hid (HH1.out.up (below_drewN (Below.refl w1.heap.size w1) nq))
              have HB2 := Lib.hid (HB1.out.trans ((below_drewN (Below.refl w1.heap.size w1) nq).mono HB1.out.size))
              clear x0 x1 x2 x3 x4 x5 z1
              generalize w1.drewN nq = w2 at *
              have z2 : b < w2.heap.size := HH2.out.lt
              obtain ⟨x0, x1, x2, x3, x4, x5⟩ := HH2.out.box
              have KB := And.intro (Below.drew (Below.refl w2.heap.size w2)) (show w2.drew.cell? ⟨b, 4, none⟩ = _ from x4)
              have Y4 := Lib.hid KB.2
              have Z4 := Lib.hid (show b < w2.drew.heap.size from z2)
              have R4 := Lib.hid (HH2.out.sl.up (Below.drew (Below.refl w2.heap.size w2)))
              by_cases cl : 0 < e.part.length
              · have Cl := Lib.hid cl
                have cl' : decide (0 < e.part.length) = true := by simp [cl]
                go_quiet ((go_at_call 135; with_reducible exact quiet_left (CP.out _)))
                have HB3 := Lib.hid (HB2.out.trans ((below_drewN (Below.refl w2.heap.size w2) nq).mono HB2.out.size))
                go_wp2_with fail
                go_ret
                exact ⟨ret_bool (by rw [HE.out]; simp [Cl.out]), (by repeat (first | exact HB3.out | (refine Below.alloc ?_ (by first | omega | (simp; done) | (simp; omega)) _) | refine below_drewN ?_ _ | refine Below.drew ?_))⟩
              · have Cg := Lib.hid (emptyOk cl)
                have cg : gramOk e.part = true := emptyOk cl
                have hL : e.part.length = 0 := by omega
                have Cl := Lib.hid cl
                rw [hL] at KB Y4 R4 x4
                clear cl hL
                go_region_held3 (fun w' => Below w2.heap.size w2 w' ∧ w'.cell? ⟨b, 4, none⟩ = some (.slice AR 0 cR))
                  (first | (with_reducible exact KB) | (with_reducible exact keepEd KB hb3 z2))
                  (first
                    | (go_at_call 135; refine (CP.out _).mono ?_; rintro r w' ⟨rfl, rfl⟩)
                    | (go_at_call 73; refine (l02Ok_any b 4 _ e.part _ Y4.out Z4.out R4.out hsm).mono ?_; rintro r w3 ⟨rfl, hb3⟩))
                have HB3 := Lib.hid (HB2.out.trans (((Below.drew (Below.refl w2.heap.size w2)).trans hb3).mono HB2.out.size))
                have y5 := (hb3.cell (p := ⟨b, 5, none⟩) z2).trans (show w2.drew.cell? ⟨b, 5, none⟩ = _ from x5)
                clear KB hb3 x0 x1 x2 x3 x4 x5
                go_wp2_with fail
                refine (CM.out _).mono ?_
                rintro r w' ⟨rfl, rfl⟩
                by_cases cs : e.map.size = 4
                · have Cs := Lib.hid cs
                  have gs : ((e.map.size : Int) == 4) = true := by simp [cs]
                  clear cs
                  go_wp2_with fail
                  refine (l01Ok_any _ _ hm).mono ?_
                  rintro r w' ⟨rfl, rfl⟩
                  go_wp2_with fail
                  go_ret
                  exact ⟨ret_bool (by rw [HE.out]; simp [Ni2.out, Nj.out, Nk.out, Nij.out, Cl.out, Cg.out, Cs.out]), (by repeat (first | exact HB3.out | (refine Below.alloc ?_ (by first | omega | (simp; done) | (simp; omega)) _) | refine below_drewN ?_ _ | refine Below.drew ?_))⟩
                · have Cs := Lib.hid cs
                  have gs : ((e.map.size : Int) == 4) = false := by rw [beq_eq_false_iff_ne]; omega
                  clear cs
                  go_wp2_with fail
                  go_ret
                  exact ⟨ret_bool (by rw [HE.out]; simp [Cs.out]), (by repeat (first | exact HB3.out | (refine Below.alloc ?_ (by first | omega | (simp; done) | (simp; omega)) _) | refine below_drewN ?_ _ | refine Below.drew ?_))⟩
          · have nk' : numOk e.k false = false := by simpa using nk
            have Nk := Lib.hid nk'
            have Dk := l07Number_lit e.k _ _ nk'
            clear nk nk'
            go_quiet (first
              | (go_at_call 135; first | with_reducible exact quiet_left (CJ.out _) | with_reducible exact quiet_left (CK.out _))
              | (go_at_call 134; first | with_reducible exact quiet_left (Di.out _) | with_reducible exact quiet_left (Dj.out _) | with_reducible exact quiet_left (Dk.out _)))
            go_wp2_with fail
            go_ret
            exact ⟨ret_bool (by rw [HE.out]; simp [Nk.out]), (by repeat (first | exact HB1.out | (refine Below.alloc ?_ (by first | omega | (simp; done) | (simp; omega)) _) | refine below_drewN ?_ _ | refine Below.drew ?_))⟩
        · have nj' : numOk e.j true = false := by simpa using nj
          have Nj := Lib.hid nj'
          have Dj := l07Number_lit e.j _ _ nj'
          clear nj nj'
          go_quiet (first
            | (go_at_call 135; first | with_reducible exact quiet_left (CJ.out _) | with_reducible exact quiet_left (CK.out _))
            | (go_at_call 134; first | with_reducible exact quiet_left (Di.out _) | with_reducible exact quiet_left (Dj.out _) | with_reducible exact quiet_left (Dk.out _)))
          go_wp2_with fail
          go_ret
          exact ⟨ret_bool (by rw [HE.out]; simp [Nj.out]), (by repeat (first | exact HB1.out | (refine Below.alloc ?_ (by first | omega | (simp; done) | (simp; omega)) _) | refine below_drewN ?_ _ | refine Below.drew ?_))⟩
      · have ni' : numOk e.i true = false := by simpa using ni
        have Ni := Lib.hid ni'
        have Ni2 := Lib.hid (show inR e.i 0 1000000000000000 = false from ni')
        have Di := l07Number_lit e.i true _ ni'
        clear ni ni'
        go_quiet (first
          | (go_at_call 135; first | with_reducible exact quiet_left (CJ.out _) | with_reducible exact quiet_left (CK.out _))
          | (go_at_call 134; first | with_reducible exact quiet_left (Di.out _) | with_reducible exact quiet_left (Dj.out _) | with_reducible exact quiet_left (Dk.out _)))
        go_wp2_with fail
        go_ret
        exact ⟨ret_bool (by rw [HE.out]; simp [Ni2.out]), (by repeat (first | exact HB1.out | (refine Below.alloc ?_ (by first | omega | (simp; done) | (simp; omega)) _) | refine below_drewN ?_ _ | refine Below.drew ?_))⟩
  · have hk' : inR e.kind 1 7 = false := by simpa using hk
    have HK := Lib.hid hk'
    clear hk hk'
    go_enter Try.func100, Try.ntmps100
    go_wp2_with fail
    refine (l00In_no _ _ _ _ HK.out).mono ?_
    rintro r w' ⟨rfl, rfl⟩
    go_wp2_with fail
    go_ret
    exact ⟨ret_bool (by simp [editOk, HK.out]), (by repeat (first | exact Below.refl _ _ | (refine Below.alloc ?_ (by first | omega | (simp; done) | (simp; omega)) _) | refine below_drewN ?_ _ | refine Below.drew ?_))⟩
end Go.Proofs.Ythidgjdjijjkoaa
