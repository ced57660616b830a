import Derived.Test.YtdacndamehiglaaGreatDoorM12
set_option maxRecDepth 100000
set_option maxHeartbeats 8000000
namespace Go.Proofs.YtdacndamehiglaaGreatDoor
open Go.RowKit
theorem zaW (s : ByteArray) (n : Int) (b : UInt8) (r : Bool) (hs : s.size <= maxLen) (hn : n = b.toNat) (h : zdh s b = r) :
  yh (∀ w, Calls Tryz.prog 73 #[.string s, .int .u8 n] w fun e w' => e = .returned (.bool r) /\ w = w') := by
 subst h hn; exact fun w => zkN s b w hs
theorem zaw (n : Int) (b r : Bool) (h : za3 n b = r) :
  yh (∀ w, Calls Tryz.prog 87 #[.int .i64 n, .bool b] w fun e w' => e = .returned (.bool r) /\ w = w') := by
 subst h; exact fun w => zhJ n b w
theorem zis {wr W W2 : World} {p : Addr} {a : Value} (h : Below wr.heap.size wr W /\ W.cell? p = some a) (h2 : Below W.heap.size W W2) (hp : p.block < wr.heap.size) : Below wr.heap.size wr W2 /\ W2.cell? p = some a :=
 ⟨h.1.trans (h2.mono h.1.size), (h2.cell (Nat.lt_of_lt_of_le hp h.1.size)).trans h.2⟩
theorem zit (b : Nat) (vR : Value) (e : zap) (w : World) (h : zfR w w.heap.size b e vR) (hsm : za5 e.part) (hn : e.part.length <= 1099511627776) (hm : e.map.size <= maxLen) :
  Calls Tryz.prog 36 #[.pointer (some ⟨b, 0, none⟩)] w fun r w' => r = .returned (.bool (zaA e)) /\ Below w.heap.size w w' := by
 have HH := yq h; obtain ⟨⟨x0, x1, x2, x3, x4, x5⟩, hlt, hR⟩ := h; have HR := yq hR; obtain ⟨AR, cR, rfl, _⟩ := hR; by_cases hk : inR e.kind 1 7 = true
 · have HK := yq hk
   have HE := yq (zj7 hk); obtain ⟨u1, u2, u3, u4, u5⟩ := zj6 hk; obtain ⟨S, hS⟩ : ∃ S, zip e.kind = S := ⟨_, rfl⟩
   rw [hS] at u1 u2 u3 u4 u5; have HS := yq hS; have hSm : S.size <= maxLen := by unfold maxLen; omega
   have HU := yq (And.intro u1 (And.intro u2 (And.intro u3 u4)))
   have H4 : (zcd e.kind = false /\ zcm e.kind = false /\ (e.kind == 1) = true /\ (e.kind == 7) = false) \/ (zcd e.kind = true /\ zcm e.kind = false /\ (e.kind == 1) = false /\ (e.kind == 7) = false) \/ (zcd e.kind = true /\ zcm e.kind = true /\ (e.kind == 1) = false /\ (e.kind == 7) = false) \/ (zcd e.kind = true /\ zcm e.kind = false /\ (e.kind == 1) = false /\ (e.kind == 7) = true) := by
    rcases zdl hk with h | h | h | h | h | h | h <;> rw [h] <;> simp [zcd, zcm]
   clear hk hS u1 u2 u3 u4 u5; go_enter Tryz.func36, Tryz.ntmps36
   go_wp2_with fail
   refine (zly _ _ _ _ HK.o).mono ?_
   rintro r w' ⟨rfl, rfl⟩; go_wp2_with fail
   refine (zgy _ _ HK.o).mono ?_
   rintro r w1 ⟨rfl, hb1⟩; rw [HS.o]; have HH1 := yq (HH.o.up hb1); have HB1 := yq hb1; have z1 : b < w1.heap.size := Nat.lt_of_lt_of_le hlt hb1.size; clear hb1 x0 x1 x2 x3 x4 x5; obtain ⟨x0, x1, x2, x3, x4, x5⟩ := HH1.o.box; go_wp2_with fail
   rcases H4 with ⟨u1, u2, u3, u4⟩ | ⟨u1, u2, u3, u4⟩ | ⟨u1, u2, u3, u4⟩ | ⟨u1, u2, u3, u4⟩
   · rw [u1, u2, u3, u4] at HE HU
     obtain ⟨hJ', hK', hP', hM'⟩ := HU.o; have CJ := zaW S 74 74 _ hSm rfl hJ'; have CK := zaW S 75 75 _ hSm rfl hK'; have CP := zaW S 80 80 _ hSm rfl hP'; have CM := zaW S 77 77 _ hSm rfl hM'; clear hJ' hK' hP' hM'; clear u1 u2 u3 u4; by_cases ni : za3 e.i true = true
     · have Ni := yq ni
       have Di := zaw e.i true _ ni; clear ni; by_cases nj : za3 e.j false = true
       · have Nj := yq nj
         have Dj := zaw e.j _ _ nj; clear nj; by_cases nk : za3 e.k false = true
         · have Nk := yq nk
           have Dk := zaw e.k _ _ nk; clear nk
           go_quiet (first
            | (go_at_call 73; first | with_reducible exact zad (CJ.o _) | with_reducible exact zad (CK.o _))
            | (go_at_call 87; first | with_reducible exact zad (Di.o _) | with_reducible exact zad (Dj.o _) | with_reducible exact zad (Dk.o _)))
           go_wp2_with fail
           have Ni2 := yq (show inR e.i 0 1000000000000000 = true from Ni.o); have HH2 := yq (HH1.o.up (zat (Below.refl w1.heap.size w1) nq)); have HB2 := yq (HB1.o.trans ((zat (Below.refl w1.heap.size w1) nq).mono HB1.o.size)); clear x0 x1 x2 x3 x4 x5 z1; generalize w1.drewN nq = w2 at *; have z2 : b < w2.heap.size := HH2.o.lt; obtain ⟨x0, x1, x2, x3, x4, x5⟩ := HH2.o.box; have KB := And.intro (Below.drew (Below.refl w2.heap.size w2)) (show w2.drew.cell? ⟨b, 4, none⟩ = _ from x4); have Y4 := yq KB.2; have Z4 := yq (show b < w2.drew.heap.size from z2); have R4 := yq (HH2.o.sl.up (Below.drew (Below.refl w2.heap.size w2))); by_cases cl : 0 < e.part.length
           · have Cl := yq cl
             have cl' : decide (0 < e.part.length) = true := by simp [cl]
             by_cases cg : zaf e.part = true
             · have Cg := yq cg
               go_region_held3 (fun w' => Below w2.heap.size w2 w' /\ w'.cell? ⟨b, 4, none⟩ = some (.slice AR e.part.length cR))
                (first | (with_reducible exact KB) | (with_reducible exact zis KB hb3 z2))
                (first
                  | (go_at_call 73; refine (CP.o _).mono ?_; rintro r w' ⟨rfl, rfl⟩)
                  | (go_at_call 35; refine (zbf b 4 _ e.part _ Y4.o Z4.o R4.o hsm).mono ?_; rintro r w3 ⟨rfl, hb3⟩))
               have HB3 := yq (HB2.o.trans (((Below.drew (Below.refl w2.heap.size w2)).trans hb3).mono HB2.o.size)); have y5 := (hb3.cell (p := ⟨b, 5, none⟩) z2).trans (show w2.drew.cell? ⟨b, 5, none⟩ = _ from x5); clear KB hb3 x0 x1 x2 x3 x4 x5; go_wp2_with fail
               refine (CM.o _).mono ?_
               rintro r w' ⟨rfl, rfl⟩; by_cases cm : e.map.size = 0
               · have Cm := yq cm
                 have gm := zbO e.map; rw [show (e.map.size == 0) = true by simp [cm]] at gm; clear cm; go_wp2_with fail
                 go_ret
                 exact ⟨zak (by rw [HE.o]; simp [Ni2.o, Nj.o, Nk.o, Cl.o, Cg.o, Cm.o]), (have yx := HB3.o; yb)⟩
               · have Cm := yq cm
                 have gm := zbO e.map; rw [show (e.map.size == 0) = false by simp [cm]] at gm; clear cm; go_wp2_with fail
                 go_ret
                 exact ⟨zak (by rw [HE.o]; simp [Ni2.o, Nj.o, Nk.o, Cl.o, Cg.o, Cm.o]), (have yx := HB3.o; yb)⟩
             · have cg' : zaf e.part = false := by simpa using cg
               have Cg := yq cg'; clear cg
               go_region_held3 (fun w' => Below w2.heap.size w2 w' /\ w'.cell? ⟨b, 4, none⟩ = some (.slice AR e.part.length cR))
                (first | (with_reducible exact KB) | (with_reducible exact zis KB hb3 z2))
                (first
                  | (go_at_call 73; refine (CP.o _).mono ?_; rintro r w' ⟨rfl, rfl⟩)
                  | (go_at_call 35; refine (zbf b 4 _ e.part _ Y4.o Z4.o R4.o hsm).mono ?_; rintro r w3 ⟨rfl, hb3⟩))
               have HB3 := yq (HB2.o.trans (((Below.drew (Below.refl w2.heap.size w2)).trans hb3).mono HB2.o.size)); have y5 := (hb3.cell (p := ⟨b, 5, none⟩) z2).trans (show w2.drew.cell? ⟨b, 5, none⟩ = _ from x5); clear KB hb3 x0 x1 x2 x3 x4 x5; go_wp2_with fail
               go_ret
               exact ⟨zak (by rw [HE.o]; simp [Cg.o]), (have yx := HB3.o; yb)⟩
           · have hL : e.part.length = 0 := by omega
             have Cl := yq cl; rw [hL] at KB Y4 R4 x4; clear cl hL; go_quiet ((go_at_call 73; with_reducible exact zad (CP.o _)))
             have HB3 := yq (HB2.o.trans ((zat (Below.refl w2.heap.size w2) nq).mono HB2.o.size)); go_wp2_with fail
             go_ret
             exact ⟨zak (by rw [HE.o]; simp [Cl.o]), (have yx := HB3.o; yb)⟩
         · have nk' : za3 e.k false = false := by simpa using nk
           have Nk := yq nk'; have Dk := zaw e.k _ _ nk'; clear nk nk'
           go_quiet (first
            | (go_at_call 73; first | with_reducible exact zad (CJ.o _) | with_reducible exact zad (CK.o _))
            | (go_at_call 87; first | with_reducible exact zad (Di.o _) | with_reducible exact zad (Dj.o _) | with_reducible exact zad (Dk.o _)))
           go_wp2_with fail
           go_ret
           exact ⟨zak (by rw [HE.o]; simp [Nk.o]), (have yx := HB1.o; yb)⟩
       · have nj' : za3 e.j false = false := by simpa using nj
         have Nj := yq nj'; have Dj := zaw e.j _ _ nj'; clear nj nj'
         go_quiet (first
          | (go_at_call 73; first | with_reducible exact zad (CJ.o _) | with_reducible exact zad (CK.o _))
          | (go_at_call 87; first | with_reducible exact zad (Di.o _) | with_reducible exact zad (Dj.o _) | with_reducible exact zad (Dk.o _)))
         go_wp2_with fail
         go_ret
         exact ⟨zak (by rw [HE.o]; simp [Nj.o]), (have yx := HB1.o; yb)⟩
     · have ni' : za3 e.i true = false := by simpa using ni
       have Ni := yq ni'; have Ni2 := yq (show inR e.i 0 1000000000000000 = false from ni'); have Di := zaw e.i true _ ni'; clear ni ni'
       go_quiet (first
        | (go_at_call 73; first | with_reducible exact zad (CJ.o _) | with_reducible exact zad (CK.o _))
        | (go_at_call 87; first | with_reducible exact zad (Di.o _) | with_reducible exact zad (Dj.o _) | with_reducible exact zad (Dk.o _)))
       go_wp2_with fail
       go_ret
       exact ⟨zak (by rw [HE.o]; simp [Ni2.o]), (have yx := HB1.o; yb)⟩
   · rw [u1, u2, u3, u4] at HE HU
     obtain ⟨hJ', hK', hP', hM'⟩ := HU.o; have CJ := zaW S 74 74 _ hSm rfl hJ'; have CK := zaW S 75 75 _ hSm rfl hK'; have CP := zaW S 80 80 _ hSm rfl hP'; have CM := zaW S 77 77 _ hSm rfl hM'; clear hJ' hK' hP' hM'; clear u1 u2 u3 u4; by_cases ni : za3 e.i true = true
     · have Ni := yq ni
       have Di := zaw e.i true _ ni; clear ni; by_cases nj : za3 e.j true = true
       · have Nj := yq nj
         have Dj := zaw e.j _ _ nj; clear nj; by_cases nk : za3 e.k false = true
         · have Nk := yq nk
           have Dk := zaw e.k _ _ nk; clear nk; by_cases nij : e.j < e.i
           · have Nij := yq nij
             go_quiet (first
              | (go_at_call 73; first | with_reducible exact zad (CJ.o _) | with_reducible exact zad (CK.o _))
              | (go_at_call 87; first | with_reducible exact zad (Di.o _) | with_reducible exact zad (Dj.o _) | with_reducible exact zad (Dk.o _)))
             go_wp2_with fail
             go_ret
             exact ⟨zak (by rw [HE.o]; simp [Nij.o]), (have yx := HB1.o; yb)⟩
           · have nij' : decide (e.j < e.i) = false := by simp; omega
             have Nij := yq nij'
             go_quiet (first
              | (go_at_call 73; first | with_reducible exact zad (CJ.o _) | with_reducible exact zad (CK.o _))
              | (go_at_call 87; first | with_reducible exact zad (Di.o _) | with_reducible exact zad (Dj.o _) | with_reducible exact zad (Dk.o _)))
             go_wp2_with fail
             have Ni2 := yq (show inR e.i 0 1000000000000000 = true from Ni.o); have HH2 := yq (HH1.o.up (zat (Below.refl w1.heap.size w1) nq)); have HB2 := yq (HB1.o.trans ((zat (Below.refl w1.heap.size w1) nq).mono HB1.o.size)); clear x0 x1 x2 x3 x4 x5 z1; generalize w1.drewN nq = w2 at *; have z2 : b < w2.heap.size := HH2.o.lt; obtain ⟨x0, x1, x2, x3, x4, x5⟩ := HH2.o.box; have KB := And.intro (Below.drew (Below.refl w2.heap.size w2)) (show w2.drew.cell? ⟨b, 4, none⟩ = _ from x4); have Y4 := yq KB.2; have Z4 := yq (show b < w2.drew.heap.size from z2); have R4 := yq (HH2.o.sl.up (Below.drew (Below.refl w2.heap.size w2))); by_cases cl : 0 < e.part.length
             · have Cl := yq cl
               have cl' : decide (0 < e.part.length) = true := by simp [cl]
               go_quiet ((go_at_call 73; with_reducible exact zad (CP.o _)))
               have HB3 := yq (HB2.o.trans ((zat (Below.refl w2.heap.size w2) nq).mono HB2.o.size)); go_wp2_with fail
               go_ret
               exact ⟨zak (by rw [HE.o]; simp [Cl.o]), (have yx := HB3.o; yb)⟩
             · have Cg := yq (zdL cl)
               have cg : zaf e.part = true := zdL cl; have hL : e.part.length = 0 := by omega
               have Cl := yq cl; rw [hL] at KB Y4 R4 x4; clear cl hL
               go_region_held3 (fun w' => Below w2.heap.size w2 w' /\ w'.cell? ⟨b, 4, none⟩ = some (.slice AR 0 cR))
                (first | (with_reducible exact KB) | (with_reducible exact zis KB hb3 z2))
                (first
                  | (go_at_call 73; refine (CP.o _).mono ?_; rintro r w' ⟨rfl, rfl⟩)
                  | (go_at_call 35; refine (zbf b 4 _ e.part _ Y4.o Z4.o R4.o hsm).mono ?_; rintro r w3 ⟨rfl, hb3⟩))
               have HB3 := yq (HB2.o.trans (((Below.drew (Below.refl w2.heap.size w2)).trans hb3).mono HB2.o.size)); have y5 := (hb3.cell (p := ⟨b, 5, none⟩) z2).trans (show w2.drew.cell? ⟨b, 5, none⟩ = _ from x5); clear KB hb3 x0 x1 x2 x3 x4 x5; go_wp2_with fail
               refine (CM.o _).mono ?_
               rintro r w' ⟨rfl, rfl⟩; by_cases cm : e.map.size = 0
               · have Cm := yq cm
                 have gm := zbO e.map; rw [show (e.map.size == 0) = true by simp [cm]] at gm; clear cm; go_wp2_with fail
                 go_ret
                 exact ⟨zak (by rw [HE.o]; simp [Ni2.o, Nj.o, Nk.o, Nij.o, Cl.o, Cg.o, Cm.o]), (have yx := HB3.o; yb)⟩
               · have Cm := yq cm
                 have gm := zbO e.map; rw [show (e.map.size == 0) = false by simp [cm]] at gm; clear cm; go_wp2_with fail
                 go_ret
                 exact ⟨zak (by rw [HE.o]; simp [Ni2.o, Nj.o, Nk.o, Nij.o, Cl.o, Cg.o, Cm.o]), (have yx := HB3.o; yb)⟩
         · have nk' : za3 e.k false = false := by simpa using nk
           have Nk := yq nk'; have Dk := zaw e.k _ _ nk'; clear nk nk'
           go_quiet (first
            | (go_at_call 73; first | with_reducible exact zad (CJ.o _) | with_reducible exact zad (CK.o _))
            | (go_at_call 87; first | with_reducible exact zad (Di.o _) | with_reducible exact zad (Dj.o _) | with_reducible exact zad (Dk.o _)))
           go_wp2_with fail
           go_ret
           exact ⟨zak (by rw [HE.o]; simp [Nk.o]), (have yx := HB1.o; yb)⟩
       · have nj' : za3 e.j true = false := by simpa using nj
         have Nj := yq nj'; have Dj := zaw e.j _ _ nj'; clear nj nj'
         go_quiet (first
          | (go_at_call 73; first | with_reducible exact zad (CJ.o _) | with_reducible exact zad (CK.o _))
          | (go_at_call 87; first | with_reducible exact zad (Di.o _) | with_reducible exact zad (Dj.o _) | with_reducible exact zad (Dk.o _)))
         go_wp2_with fail
         go_ret
         exact ⟨zak (by rw [HE.o]; simp [Nj.o]), (have yx := HB1.o; yb)⟩
     · have ni' : za3 e.i true = false := by simpa using ni
       have Ni := yq ni'; have Ni2 := yq (show inR e.i 0 1000000000000000 = false from ni'); have Di := zaw e.i true _ ni'; clear ni ni'
       go_quiet (first
        | (go_at_call 73; first | with_reducible exact zad (CJ.o _) | with_reducible exact zad (CK.o _))
        | (go_at_call 87; first | with_reducible exact zad (Di.o _) | with_reducible exact zad (Dj.o _) | with_reducible exact zad (Dk.o _)))
       go_wp2_with fail
       go_ret
       exact ⟨zak (by rw [HE.o]; simp [Ni2.o]), (have yx := HB1.o; yb)⟩
   · rw [u1, u2, u3, u4] at HE HU
     obtain ⟨hJ', hK', hP', hM'⟩ := HU.o; have CJ := zaW S 74 74 _ hSm rfl hJ'; have CK := zaW S 75 75 _ hSm rfl hK'; have CP := zaW S 80 80 _ hSm rfl hP'; have CM := zaW S 77 77 _ hSm rfl hM'; clear hJ' hK' hP' hM'; clear u1 u2 u3 u4; by_cases ni : za3 e.i true = true
     · have Ni := yq ni
       have Di := zaw e.i true _ ni; clear ni; by_cases nj : za3 e.j true = true
       · have Nj := yq nj
         have Dj := zaw e.j _ _ nj; clear nj; by_cases nk : za3 e.k true = true
         · have Nk := yq nk
           have Dk := zaw e.k _ _ nk; clear nk; by_cases nij : e.j < e.i
           · have Nij := yq nij
             go_quiet (first
              | (go_at_call 73; first | with_reducible exact zad (CJ.o _) | with_reducible exact zad (CK.o _))
              | (go_at_call 87; first | with_reducible exact zad (Di.o _) | with_reducible exact zad (Dj.o _) | with_reducible exact zad (Dk.o _)))
             go_wp2_with fail
             go_ret
             exact ⟨zak (by rw [HE.o]; simp [Nij.o]), (have yx := HB1.o; yb)⟩
           · have nij' : decide (e.j < e.i) = false := by simp; omega
             have Nij := yq nij'
             go_quiet (first
              | (go_at_call 73; first | with_reducible exact zad (CJ.o _) | with_reducible exact zad (CK.o _))
              | (go_at_call 87; first | with_reducible exact zad (Di.o _) | with_reducible exact zad (Dj.o _) | with_reducible exact zad (Dk.o _)))
             go_wp2_with fail
             have Ni2 := yq (show inR e.i 0 1000000000000000 = true from Ni.o); have HH2 := yq (HH1.o.up (zat (Below.refl w1.heap.size w1) nq)); have HB2 := yq (HB1.o.trans ((zat (Below.refl w1.heap.size w1) nq).mono HB1.o.size)); clear x0 x1 x2 x3 x4 x5 z1; generalize w1.drewN nq = w2 at *; have z2 : b < w2.heap.size := HH2.o.lt; obtain ⟨x0, x1, x2, x3, x4, x5⟩ := HH2.o.box; have KB := And.intro (Below.drew (Below.refl w2.heap.size w2)) (show w2.drew.cell? ⟨b, 4, none⟩ = _ from x4); have Y4 := yq KB.2; have Z4 := yq (show b < w2.drew.heap.size from z2); have R4 := yq (HH2.o.sl.up (Below.drew (Below.refl w2.heap.size w2))); by_cases cl : 0 < e.part.length
             · have Cl := yq cl
               have cl' : decide (0 < e.part.length) = true := by simp [cl]
               go_quiet ((go_at_call 73; with_reducible exact zad (CP.o _)))
               have HB3 := yq (HB2.o.trans ((zat (Below.refl w2.heap.size w2) nq).mono HB2.o.size)); go_wp2_with fail
               go_ret
               exact ⟨zak (by rw [HE.o]; simp [Cl.o]), (have yx := HB3.o; yb)⟩
             · have Cg := yq (zdL cl)
               have cg : zaf e.part = true := zdL cl; have hL : e.part.length = 0 := by omega
               have Cl := yq cl; rw [hL] at KB Y4 R4 x4; clear cl hL
               go_region_held3 (fun w' => Below w2.heap.size w2 w' /\ w'.cell? ⟨b, 4, none⟩ = some (.slice AR 0 cR))
                (first | (with_reducible exact KB) | (with_reducible exact zis KB hb3 z2))
                (first
                  | (go_at_call 73; refine (CP.o _).mono ?_; rintro r w' ⟨rfl, rfl⟩)
                  | (go_at_call 35; refine (zbf b 4 _ e.part _ Y4.o Z4.o R4.o hsm).mono ?_; rintro r w3 ⟨rfl, hb3⟩))
               have HB3 := yq (HB2.o.trans (((Below.drew (Below.refl w2.heap.size w2)).trans hb3).mono HB2.o.size)); have y5 := (hb3.cell (p := ⟨b, 5, none⟩) z2).trans (show w2.drew.cell? ⟨b, 5, none⟩ = _ from x5); clear KB hb3 x0 x1 x2 x3 x4 x5; go_wp2_with fail
               refine (CM.o _).mono ?_
               rintro r w' ⟨rfl, rfl⟩; by_cases cm : e.map.size = 0
               · have Cm := yq cm
                 have gm := zbO e.map; rw [show (e.map.size == 0) = true by simp [cm]] at gm; clear cm; go_wp2_with fail
                 go_ret
                 exact ⟨zak (by rw [HE.o]; simp [Ni2.o, Nj.o, Nk.o, Nij.o, Cl.o, Cg.o, Cm.o]), (have yx := HB3.o; yb)⟩
               · have Cm := yq cm
                 have gm := zbO e.map; rw [show (e.map.size == 0) = false by simp [cm]] at gm; clear cm; go_wp2_with fail
                 go_ret
                 exact ⟨zak (by rw [HE.o]; simp [Ni2.o, Nj.o, Nk.o, Nij.o, Cl.o, Cg.o, Cm.o]), (have yx := HB3.o; yb)⟩
         · have nk' : za3 e.k true = false := by simpa using nk
           have Nk := yq nk'; have Dk := zaw e.k _ _ nk'; clear nk nk'
           go_quiet (first
            | (go_at_call 73; first | with_reducible exact zad (CJ.o _) | with_reducible exact zad (CK.o _))
            | (go_at_call 87; first | with_reducible exact zad (Di.o _) | with_reducible exact zad (Dj.o _) | with_reducible exact zad (Dk.o _)))
           go_wp2_with fail
           go_ret
           exact ⟨zak (by rw [HE.o]; simp [Nk.o]), (have yx := HB1.o; yb)⟩
       · have nj' : za3 e.j true = false := by simpa using nj
         have Nj := yq nj'; have Dj := zaw e.j _ _ nj'; clear nj nj'
         go_quiet (first
          | (go_at_call 73; first | with_reducible exact zad (CJ.o _) | with_reducible exact zad (CK.o _))
          | (go_at_call 87; first | with_reducible exact zad (Di.o _) | with_reducible exact zad (Dj.o _) | with_reducible exact zad (Dk.o _)))
         go_wp2_with fail
         go_ret
         exact ⟨zak (by rw [HE.o]; simp [Nj.o]), (have yx := HB1.o; yb)⟩
     · have ni' : za3 e.i true = false := by simpa using ni
       have Ni := yq ni'; have Ni2 := yq (show inR e.i 0 1000000000000000 = false from ni'); have Di := zaw e.i true _ ni'; clear ni ni'
       go_quiet (first
        | (go_at_call 73; first | with_reducible exact zad (CJ.o _) | with_reducible exact zad (CK.o _))
        | (go_at_call 87; first | with_reducible exact zad (Di.o _) | with_reducible exact zad (Dj.o _) | with_reducible exact zad (Dk.o _)))
       go_wp2_with fail
       go_ret
       exact ⟨zak (by rw [HE.o]; simp [Ni2.o]), (have yx := HB1.o; yb)⟩
   · rw [u1, u2, u3, u4] at HE HU
     obtain ⟨hJ', hK', hP', hM'⟩ := HU.o; have CJ := zaW S 74 74 _ hSm rfl hJ'; have CK := zaW S 75 75 _ hSm rfl hK'; have CP := zaW S 80 80 _ hSm rfl hP'; have CM := zaW S 77 77 _ hSm rfl hM'; clear hJ' hK' hP' hM'; clear u1 u2 u3 u4; by_cases ni : za3 e.i true = true
     · have Ni := yq ni
       have Di := zaw e.i true _ ni; clear ni; by_cases nj : za3 e.j true = true
       · have Nj := yq nj
         have Dj := zaw e.j _ _ nj; clear nj; by_cases nk : za3 e.k false = true
         · have Nk := yq nk
           have Dk := zaw e.k _ _ nk; clear nk; by_cases nij : e.j < e.i
           · have Nij := yq nij
             go_quiet (first
              | (go_at_call 73; first | with_reducible exact zad (CJ.o _) | with_reducible exact zad (CK.o _))
              | (go_at_call 87; first | with_reducible exact zad (Di.o _) | with_reducible exact zad (Dj.o _) | with_reducible exact zad (Dk.o _)))
             go_wp2_with fail
             go_ret
             exact ⟨zak (by rw [HE.o]; simp [Nij.o]), (have yx := HB1.o; yb)⟩
           · have nij' : decide (e.j < e.i) = false := by simp; omega
             have Nij := yq nij'
             go_quiet (first
              | (go_at_call 73; first | with_reducible exact zad (CJ.o _) | with_reducible exact zad (CK.o _))
              | (go_at_call 87; first | with_reducible exact zad (Di.o _) | with_reducible exact zad (Dj.o _) | with_reducible exact zad (Dk.o _)))
             go_wp2_with fail
             have Ni2 := yq (show inR e.i 0 1000000000000000 = true from Ni.o); have HH2 := yq (HH1.o.up (zat (Below.refl w1.heap.size w1) nq)); have HB2 := yq (HB1.o.trans ((zat (Below.refl w1.heap.size w1) nq).mono HB1.o.size)); clear x0 x1 x2 x3 x4 x5 z1; generalize w1.drewN nq = w2 at *; have z2 : b < w2.heap.size := HH2.o.lt; obtain ⟨x0, x1, x2, x3, x4, x5⟩ := HH2.o.box; have KB := And.intro (Below.drew (Below.refl w2.heap.size w2)) (show w2.drew.cell? ⟨b, 4, none⟩ = _ from x4); have Y4 := yq KB.2; have Z4 := yq (show b < w2.drew.heap.size from z2); have R4 := yq (HH2.o.sl.up (Below.drew (Below.refl w2.heap.size w2))); by_cases cl : 0 < e.part.length
             · have Cl := yq cl
               have cl' : decide (0 < e.part.length) = true := by simp [cl]
               go_quiet ((go_at_call 73; with_reducible exact zad (CP.o _)))
               have HB3 := yq (HB2.o.trans ((zat (Below.refl w2.heap.size w2) nq).mono HB2.o.size)); go_wp2_with fail
               go_ret
               exact ⟨zak (by rw [HE.o]; simp [Cl.o]), (have yx := HB3.o; yb)⟩
             · have Cg := yq (zdL cl)
               have cg : zaf e.part = true := zdL cl; have hL : e.part.length = 0 := by omega
               have Cl := yq cl; rw [hL] at KB Y4 R4 x4; clear cl hL
               go_region_held3 (fun w' => Below w2.heap.size w2 w' /\ w'.cell? ⟨b, 4, none⟩ = some (.slice AR 0 cR))
                (first | (with_reducible exact KB) | (with_reducible exact zis KB hb3 z2))
                (first
                  | (go_at_call 73; refine (CP.o _).mono ?_; rintro r w' ⟨rfl, rfl⟩)
                  | (go_at_call 35; refine (zbf b 4 _ e.part _ Y4.o Z4.o R4.o hsm).mono ?_; rintro r w3 ⟨rfl, hb3⟩))
               have HB3 := yq (HB2.o.trans (((Below.drew (Below.refl w2.heap.size w2)).trans hb3).mono HB2.o.size)); have y5 := (hb3.cell (p := ⟨b, 5, none⟩) z2).trans (show w2.drew.cell? ⟨b, 5, none⟩ = _ from x5); clear KB hb3 x0 x1 x2 x3 x4 x5; go_wp2_with fail
               refine (CM.o _).mono ?_
               rintro r w' ⟨rfl, rfl⟩; by_cases cs : e.map.size = 4
               · have Cs := yq cs
                 have gs : ((e.map.size : Int) == 4) = true := by simp [cs]
                 clear cs; go_wp2_with fail
                 refine (zeQ _ _ hm).mono ?_
                 rintro r w' ⟨rfl, rfl⟩; go_wp2_with fail
                 go_ret
                 exact ⟨zak (by rw [HE.o]; simp [Ni2.o, Nj.o, Nk.o, Nij.o, Cl.o, Cg.o, Cs.o]), (have yx := HB3.o; yb)⟩
               · have Cs := yq cs
                 have gs : ((e.map.size : Int) == 4) = false := by rw [beq_eq_false_iff_ne]; omega
                 clear cs; go_wp2_with fail
                 go_ret
                 exact ⟨zak (by rw [HE.o]; simp [Cs.o]), (have yx := HB3.o; yb)⟩
         · have nk' : za3 e.k false = false := by simpa using nk
           have Nk := yq nk'; have Dk := zaw e.k _ _ nk'; clear nk nk'
           go_quiet (first
            | (go_at_call 73; first | with_reducible exact zad (CJ.o _) | with_reducible exact zad (CK.o _))
            | (go_at_call 87; first | with_reducible exact zad (Di.o _) | with_reducible exact zad (Dj.o _) | with_reducible exact zad (Dk.o _)))
           go_wp2_with fail
           go_ret
           exact ⟨zak (by rw [HE.o]; simp [Nk.o]), (have yx := HB1.o; yb)⟩
       · have nj' : za3 e.j true = false := by simpa using nj
         have Nj := yq nj'; have Dj := zaw e.j _ _ nj'; clear nj nj'
         go_quiet (first
          | (go_at_call 73; first | with_reducible exact zad (CJ.o _) | with_reducible exact zad (CK.o _))
          | (go_at_call 87; first | with_reducible exact zad (Di.o _) | with_reducible exact zad (Dj.o _) | with_reducible exact zad (Dk.o _)))
         go_wp2_with fail
         go_ret
         exact ⟨zak (by rw [HE.o]; simp [Nj.o]), (have yx := HB1.o; yb)⟩
     · have ni' : za3 e.i true = false := by simpa using ni
       have Ni := yq ni'; have Ni2 := yq (show inR e.i 0 1000000000000000 = false from ni'); have Di := zaw e.i true _ ni'; clear ni ni'
       go_quiet (first
        | (go_at_call 73; first | with_reducible exact zad (CJ.o _) | with_reducible exact zad (CK.o _))
        | (go_at_call 87; first | with_reducible exact zad (Di.o _) | with_reducible exact zad (Dj.o _) | with_reducible exact zad (Dk.o _)))
       go_wp2_with fail
       go_ret
       exact ⟨zak (by rw [HE.o]; simp [Ni2.o]), (have yx := HB1.o; yb)⟩
 · have hk' : inR e.kind 1 7 = false := by simpa using hk
   have HK := yq hk'; clear hk hk'; go_enter Tryz.func36, Tryz.ntmps36
   go_wp2_with fail
   refine (zmW _ _ _ _ HK.o).mono ?_
   rintro r w' ⟨rfl, rfl⟩; go_wp2_with fail
   go_ret
   exact ⟨zak (by simp [zaA, HK.o]), yb⟩
theorem zhK (xs ys : List zaa) : zaX (xs ++ ys) = ys.foldl zaR (zaX xs) := by simp [zaX, List.foldl_append]
theorem ze6 {xs ys : List zaa} {l : List Int} (h : zaX (xs ++ ys) = some l) : ∃ l1 t, zaX xs = some l1 /\ l = l1 ++ t := by
 rw [zhK] at h; cases hx : zaX xs with
 | none => rw [hx, zcB] at h; cases h
 | some l1 =>
   rw [hx] at h
   suffices H : ∀ (ys : List zaa) (a o : List Int), ys.foldl zaR (some a) = some o -> ∃ t, o = a ++ t by
    obtain ⟨t, ht⟩ := H ys l1 l h; exact ⟨l1, t, rfl, ht⟩
   intro ys
   induction ys with
   | nil => intro a o h; simp at h; exact ⟨[], by simp [h]⟩
   | cons y ys ih =>
     intro a o h; rw [List.foldl_cons] at h; cases hs : zaR (some a) y with
     | none => rw [hs, zcB] at h; cases h
     | some b =>
       rw [hs] at h; obtain ⟨t, rfl⟩ := ih b o h; simp only [zaR, Option.bind_some] at hs
       split at hs
       · cases hs; exact ⟨_, by rw [List.append_assoc]⟩
       · cases hs
theorem znh {xs ys : List zaa} {r : Nat} (h : r < xs.length) : zav (xs ++ ys) r = zav xs r := by
 unfold zav; rw [yg, List.getElem?_append_left h, yg]
theorem zlY {xs ys : List zaa} {ls : List Int} (h : zaX xs = some ls) : ∀ (f r : Nat), r < xs.length -> zcJ (xs ++ ys) f r = zcJ xs f r := by
 intro f
 induction f with
 | zero => intro r _; rfl
 | succ f ih =>
   intro r hr; rw [zcJ, zcJ, znh hr]; cases hp : (zav xs r).pair with
   | false => rfl
   | true =>
     obtain ⟨q1, q2, q3, q4, q5⟩ := zbg h hr hp; rw [if_pos rfl, if_pos rfl, ih _ yO, ih _ yO]
theorem zeK {xs ys : List zaa} {ls : List Int} (h : zaX xs = some ls) {r : Nat} (hr : r < xs.length) : W1 (xs ++ ys) r = W1 xs r := zlY h _ _ hr
theorem zka (xs : List zaa) (x : zaa) : zav (xs ++ [x]) xs.length = x := by
 unfold zav; rw [yg, List.getElem?_append_right yL, Nat.sub_self]; rfl
theorem zgz {xs : List zaa} {l : List Int} {a b : Nat} (h : zaX (xs ++ [zaK a b]) = some l) (ha : a < xs.length) (hb : b < xs.length) : W1 (xs ++ [zaK a b]) xs.length = W1 xs a ++ W1 xs b := by
 obtain ⟨l1, t, h1, _⟩ := ze6 h; have hp : (zav (xs ++ [zaK a b]) xs.length).pair = true := by rw [zka]; exact zfk _ _
 rw [zd4 h yS hp, zka]; show W1 (xs ++ [zaK a b]) (Int.toNat (a : Int)) ++ W1 (xs ++ [zaK a b]) (Int.toNat (b : Int)) = _
 rw [Int.toNat_natCast, Int.toNat_natCast, zeK h1 ha, zeK h1 hb]
theorem ziu {xs : List zaa} {ls : List Int} {a b : Nat} (h : zaX xs = some ls) (ha : a < xs.length) (hb : b < xs.length) (hm : ls.getD a 0 + ls.getD b 0 <= zdQ) : zaX (xs ++ [zaK a b]) = some (ls ++ [ls.getD a 0 + ls.getD b 0]) := by
 rw [zhK, h]; have hl := zaF h
 have hr : zaV ls (zaK a b) = ls.getD a 0 + ls.getD b 0 := by
  unfold zaV; rw [if_pos (zfk _ _)]; show ls.getD (Int.toNat (a : Int)) 0 + ls.getD (Int.toNat (b : Int)) 0 = _
  rw [Int.toNat_natCast, Int.toNat_natCast]
 simp only [List.foldl_cons, List.foldl_nil, zaR, Option.bind_some]
 rw [hr, if_pos ⟨zbV ⟨by omega, by omega⟩ ⟨by omega, by omega⟩, hm⟩]
theorem zfu {xs : List zaa} {x : zaa} : zau (xs ++ [x]) = W1 (xs ++ [x]) xs.length := by
 rw [za7 yS]; simp
theorem zlZ {xs : List zaa} {ls : List Int} (h : zaX xs = some ls) : ∀ (cs : List Nat) (L : List zaa) (l0 : List Int) (t : Nat) (w : List UInt8), zaX L = some l0 -> (∃ y, L = xs ++ y) -> t < L.length -> W1 L t = w -> (∀ c ∈ cs, c < xs.length) ->
  ((w ++ cs.flatMap (W1 xs)).length : Int) <= zdQ -> ∃ (l1 : List Int) (T : Nat), zaX (cs.foldl zbp (L, (t : Int))).1 = some l1 /\ (cs.foldl zbp (L, (t : Int))).2 = (T : Int) /\ T < (cs.foldl zbp (L, (t : Int))).1.length /\ W1 (cs.foldl zbp (L, (t : Int))).1 T = w ++ cs.flatMap (W1 xs) /\ (cs ≠ [] -> T = (cs.foldl zbp (L, (t : Int))).1.length - 1) := by
 intro cs
 induction cs with
 | nil => intro L l0 t w h1 _ ht hw _ _; exact ⟨l0, t, h1, rfl, ht, by simpa using hw, fun h => absurd rfl h⟩
 | cons c cs ih =>
   intro L l0 t w h1 hy ht hw hc hm; obtain ⟨y, rfl⟩ := hy; have hcl : c < xs.length := hc c yS; have hcL : c < (xs ++ y).length := by simp; omega
   have hwc : W1 (xs ++ y) c = W1 xs c := zeK h hcl; have e1 := zd5 h1 t ht; have e2 := zd5 h1 c hcL; rw [hw] at e1; rw [hwc] at e2; rw [List.flatMap_cons, <- List.append_assoc] at hm
   have hsum : l0.getD t 0 + l0.getD c 0 <= zdQ := by
    rw [List.length_append, List.length_append] at hm; omega
   have h2 := ziu h1 ht hcL hsum; have hw2 := zgz h2 ht hcL; rw [hw, hwc] at hw2; obtain ⟨l1, T, k1, k2, k3, k4, k5⟩ := ih ((xs ++ y) ++ [zaK t c]) _ (xs ++ y).length (w ++ W1 xs c) h2 ⟨y ++ [zaK t c], by rw [List.append_assoc]⟩ yS hw2 (fun d hd => hc d (by simp [hd])) hm; have e : (c :: cs).foldl zbp (xs ++ y, (t : Int)) = cs.foldl zbp ((xs ++ y) ++ [zaK t c], (((xs ++ y).length : Nat) : Int)) := rfl; rw [e]; refine ⟨l1, T, k1, k2, k3, by rw [k4, List.flatMap_cons, List.append_assoc], fun _ => ?_⟩
   by_cases hcs : cs = []
   · subst hcs
     have : T = (xs ++ y).length := by
      have h3 : (((xs ++ y).length : Nat) : Int) = (T : Int) := k2; omega
     rw [this]; simp
   · exact k5 hcs
theorem ziv {xs : List zaa} {ls : List Int} (h : zaX xs = some ls) (cs : List Nat) (hc : ∀ c ∈ cs, c < xs.length) (hm : ((cs.flatMap (W1 xs)).length : Int) <= zdQ) : ∃ l1, zaX (zif xs cs) = some l1 /\ zau (zif xs cs) = cs.flatMap (W1 xs) := by
 match cs with
 | [] => exact ⟨[], rfl, rfl⟩
 | [c] =>
   have hcl : c < xs.length := hc c yS; have hx : xs.take (c + 1) ++ xs.drop (c + 1) = xs := List.take_append_drop _ _; obtain ⟨l1, t, h1, _⟩ := ze6 (xs := xs.take (c + 1)) (ys := xs.drop (c + 1)) (by rw [hx]; exact h); refine ⟨l1, h1, ?_⟩
   show zau (xs.take (c + 1)) = _
   have hl : (xs.take (c + 1)).length = c + 1 := by rw [List.length_take]; omega
   rw [za7 yO, hl, List.flatMap_cons, List.flatMap_nil, List.append_nil]; have := zeK (ys := xs.drop (c + 1)) h1 (r := c) yO; rw [hx] at this; rw [this]; rfl
 | c :: d :: cs =>
   obtain ⟨l1, T, k1, k2, k3, k4, k5⟩ := zlZ h (d :: cs) xs ls c (W1 xs c) h ⟨[], by simp⟩ (hc c yS) rfl (fun x hx => hc x (by simp at hx; simp; exact .inr hx)) (by simpa using hm); refine ⟨l1, k1, ?_⟩
   have hT := k5 yS; show zau ((d :: cs).foldl zbp (xs, (c : Int))).1 = _
   rw [za7 yO, <- hT, k4]; simp
theorem zdv {xs : List zaa} {ls : List Int} (h : zaX xs = some ls) {i j : Int} (hi : 0 <= i) (hij : i <= j) (hj : j <= zai ls) : ∃ l1, zaX (zam xs ls i j) = some l1 /\ zau (zam xs ls i j) = zbD (zau xs) i j := by
 have hw := zeE h (i := i) (j := j); have hlen := zaQ h; have hb := zaM xs; rw [zaq h] at hb
 have hm : (((za0 xs ls i j).flatMap (W1 xs)).length : Int) <= zdQ := by
  rw [hw, zcz hi hij yO]; unfold zdQ; omega
 obtain ⟨l1, h1, h2⟩ := ziv h _ (zcO h i j) hm; obtain ⟨l2, h3, h4, _⟩ := zdr h1; exact ⟨l2, h3, by unfold zam; rw [h4, h2, hw]⟩
theorem zcj {xs : List zaa} {ls : List Int} (h : zaX xs = some ls) {i j : Int} (hi : 0 <= i) (hij : i <= j) (hj : j <= zai ls) : zao (zam xs ls i j) = j - i := by
 obtain ⟨l1, h1, h2⟩ := zdv h hi hij hj; have hlen := zaQ h; rw [zaq h1, <- zaQ h1, h2, zcz hi hij yO]
def zgX (w : List UInt8) (n : Nat) : List UInt8 := (List.replicate n w).flatten
theorem zhL (w : List UInt8) (m n : Nat) : zgX w (m + n) = zgX w m ++ zgX w n := by
 unfold zgX; rw [<- List.replicate_append_replicate, List.flatten_append]
theorem zkb (w : List UInt8) : zgX w 1 = w := by simp [zgX]
theorem ze7 (w : List UInt8) (n : Nat) : (zgX w n).length = n * w.length := by simp [zgX]
def zoB (m : Nat) (d : UInt8) : Nat := 2 * m + (if d = 49 then 1 else 0)
theorem zjv (root : Int) (L : List zaa) (ds : List UInt8) : ∃ t, ds.foldl (zaZ root) L = L ++ t := by
 induction ds generalizing L with
 | nil => exact ⟨[], by simp⟩
 | cons d ds ih =>
   obtain ⟨t, ht⟩ := ih (zaZ root L d); rw [List.foldl_cons, ht]; unfold zaZ; exact ⟨_, by simp only [List.append_assoc]; rfl⟩
theorem ziw {w : List UInt8} {root : Nat} : ∀ (ds : List UInt8) (L : List zaa) (l : List Int) (m : Nat), zaX (ds.foldl (zaZ (root : Int)) L) = some l -> 0 < L.length -> root < L.length -> W1 L root = w -> zau L = zgX w m ->
  zau (ds.foldl (zaZ (root : Int)) L) = zgX w (ds.foldl zoB m) := by
 intro ds
 induction ds with
 | nil => intro L l m _ _ _ _ h; exact h
 | cons d ds ih =>
   intro L l m hl h0 hr hw hm; rw [List.foldl_cons] at hl |-
   rw [List.foldl_cons]; obtain ⟨t, ht⟩ := zjv root (zaZ root L d) ds; obtain ⟨l1, _, h1, _⟩ := ze6 (by rw [<- ht]; exact hl); have e0 : ((L.length : Int) - 1) = ((L.length - 1 : Nat) : Int) := by omega
   have hS : zaZ root L d = (L ++ [zaK ((L.length - 1 : Nat) : Int) ((L.length - 1 : Nat) : Int)]) ++ (if d = 49 then [zaK (L.length : Int) root] else []) := by
    unfold zaZ; rw [e0]
   rw [hS] at h1; obtain ⟨l2, _, h2, _⟩ := ze6 h1; obtain ⟨l3, _, h3, _⟩ := ze6 h2; have w2 := zgz h2 yO yO; have hlast : W1 L (L.length - 1) = zgX w m := by rw [<- hm, za7 h0]
   rw [hlast] at w2; refine ih _ l _ hl ?_ ?_ ?_ ?_
   · rw [hS]; simp only [List.length_append]; omega
   · rw [hS]; simp only [List.length_append]; omega
   · rw [hS, List.append_assoc, zeK h3 hr, hw]
   · rw [hS]
     by_cases hd : d = 49
     · rw [if_pos hd] at h1 |-
       have hl2 : (L ++ [zaK ((L.length - 1 : Nat) : Int) ((L.length - 1 : Nat) : Int)]).length = L.length + 1 := by simp
       have w3 := zgz (a := L.length) (b := root) h1 yO yO; rw [zfu, w3, w2, zeK h3 hr, hw]; unfold zoB; rw [if_pos hd, Nat.two_mul, zhL, zhL, zkb]
     · rw [if_neg hd, List.append_nil, zfu, w2]
       unfold zoB; rw [if_neg hd, Nat.two_mul, Nat.add_zero, zhL]
theorem zni (n : Nat) : (zet n).foldl zoB 0 = n := by
 induction n using Nat.strongRecOn with
 | ind n ih =>
   by_cases c : n < 2
   · rw [zdI c]
     rcases (by omega : n = 0 \/ n = 1) with rfl | rfl <;> rfl
   · rw [zdJ c, List.foldl_append, ih (n / 2) yO]
     simp only [List.foldl_cons, List.foldl_nil, zoB]
     rcases (by omega : n % 2 = 0 \/ n % 2 = 1) with h | h
     · rw [h]; simp; omega
     · rw [h]; simp; omega
theorem zl0 (n : Nat) (h : 0 < n) : ∃ t, zet n = 49 :: t := by
 induction n using Nat.strongRecOn with
 | ind n ih =>
   by_cases c : n < 2
   · rw [zdI c, show n = 1 by omega]; exact ⟨[], rfl⟩
   · obtain ⟨t, ht⟩ := ih (n / 2) yO yO
     rw [zdJ c, ht]; exact ⟨_, rfl⟩
theorem zix {xs : List zaa} {ls l : List Int} (h : zaX xs = some ls) {n : Nat} (hp : zaX (zdz xs n) = some l) : zau (zdz xs n) = zgX (zau xs) n := by
 unfold zdz at hp |-
 split
 · rename_i hc
   rcases hc with rfl | hc
   · rfl
   · have : xs = [] := yn hc
     subst this; simp [zgX, zau]
 · rename_i hc
   rw [if_neg hc] at hp; have h0 : 0 < xs.length := by omega
   obtain ⟨t, ht⟩ := zl0 n yO; have hv := zni n; rw [ht] at hp hv |-
   rw [List.tail_cons] at hp |-
   have e0 : ((xs.length : Int) - 1) = ((xs.length - 1 : Nat) : Int) := by omega
   rw [e0] at hp |-
   have := ziw (w := zau xs) t xs l 1 hp h0 yO (by rw [za7 h0]) (zkb _).symm; rw [this]; rw [List.foldl_cons] at hv; have e1 : zoB 0 49 = 1 := rfl; rw [e1] at hv; rw [hv]
theorem ziy {xs : List zaa} {n : Nat} (h : zaf xs = true) (hp : zaf (zdz xs n) = true) : zao (zdz xs n) = n * zao xs := by
 obtain ⟨_, ls, h1⟩ := zag h; obtain ⟨_, l, h2⟩ := zag hp; rw [zaq h2, zaq h1, <- zaQ h2, <- zaQ h1, zix h1 h2, ze7]; simp
def zjw (e : zap) : Prop := e.kind = 5 \/ (e.kind = 6 /\ 0 <= e.k /\ e.k <= 1000000000000000) \/ (e.kind = 7 /\ zay e.map = true /\ e.map.size = 4)
theorem zeL (E b K : Nat) (e : zap) (vR : Value) (xs : List zaa) (ls : List Int) (s : Option (List zaa)) (w : World) (hK : Blk w K #[.pointer (some ⟨b, 0, none⟩)] 129) (hA : Asm w b xs ls s) (hE : Blk w E (zbd e vR) 30)
  (hk : zjw e) (hl : zaX xs = some ls) (hn : xs.length <= 1048576) (htab : Lib.TabIs Tryz.prog w "math/bits.deBruijn64tab" .u8 ze4) :
  Calls Tryz.prog 94 #[.func (.func 98) #[] #[.pointer (some ⟨E, 0, none⟩)], .pointer (some ⟨K, 0, none⟩), .pointer (some ⟨E, 0, none⟩)] w
   fun e' w' => zkH e' /\ But b w w' /\ Asm w' b xs ls (zbu s ((zbj (zam xs ls e.i e.j)).bind (zc8 e))) := by
 have HA := yq hA; have HL := yq hl; have HT := yq htab; have HK := yq hk; have hlt := hA.lt; have x1 := hE.cell (i := 1) (v := .int .i64 e.i) rfl; have x2 := hE.cell (i := 2) (v := .int .i64 e.j) rfl; have xK := hK.cell (i := 0) (v := .pointer (some ⟨b, 0, none⟩)) rfl; have hE0 := yq hE; have hK0 := yq hK; clear hA hl htab hk hE hK; go_enter Tryz.func94, Tryz.ntmps94
 go_wp2_with fail
 refine (zgq b xs ls s e.i e.j _ HA.o HL.o hn).mono ?_
 rintro e1 w1 ⟨hb1, v1, own1, rfl⟩; have hE1 := yq (hE0.o.up hb1); have hK1 := yq (hK0.o.up hb1); have HA1 := yq (HA.o.up hb1); have HT1 := yq (zkM HT.o hb1); have HO1 := yq own1; have HB1 := yq hb1; have lim1 := zhf (zam xs ls e.i e.j); obtain ⟨A1, k1, rfl, _⟩ := zae own1; have z1 := hb1.size; clear HA hE0 hK0 HT own1 hb1 x1 x2 xK; cases hg : zaf (zam xs ls e.i e.j) with
 | true =>
   have q1 : zaH (zam xs ls e.i e.j) = zam xs ls e.i e.j := by unfold zaH; rw [hg]; rfl
   have q2 : zaB (zam xs ls e.i e.j) = 0 := by unfold zaB; rw [hg]; rfl
   have q3 : zbj (zam xs ls e.i e.j) = some (zam xs ls e.i e.j) := by unfold zbj; rw [hg]; rfl
   have Q3 := yq q3; have HG := yq hg; rw [q1] at HO1 lim1; rw [q1, q2]; clear q1 q2 q3 hg; generalize hpq : zam xs ls e.i e.j = p at *; have HPQ := yq hpq; clear hpq; have lK := hK1.o.lt; have hHO := HO1.o; go_wp2_with fail
   refine (zof E e vR _ p _ (hE1.o.alloc _) (zpd hHO.sl yL yb) HG.o HK.o (zkM HT1.o yb)).mono ?_
   rintro e2 w2 ⟨hb2, v2, out, c2, own2, hc2, rfl⟩; obtain ⟨hb3, K4⟩ := Below.unalloc hb2; have z3 := hb3.size; have hK2 := yq (hK1.o.up hb3); have HS3 := yq (fun (v : Value) => Below.setCell hb3 (show w1.heap.size <= (⟨w1.heap.size, 0, none⟩ : Addr).block from Nat.le_refl _) v); have HO2 := yq own2; have HC2 := yq hc2; have xK := hK2.o.cell (i := 0) (v := .pointer (some ⟨b, 0, none⟩)) rfl; have c4 := Blk.cell (i := 0) (v := .slice A1 p.length k1) K4 rfl; have f4 := Blk.frozen K4 0; have l4 := Blk.lt K4; have lK2 := hK2.o.lt; obtain ⟨A2, k2, rfl, _⟩ := zae own2; have hne : K ≠ w1.heap.size := by omega
   clear hHO hb2 hb3 own2 hc2 hK1 hE1; go_wp2_with fail
   refine (zeo b xs ls s (zc8 e p) (.slice A2 out.length k2) out c2 _ (HA1.o.up (HS3.o _)) ?_ HC2.o).mono ?_
   · exact zeF (ownsRow_setCell_below HO2.o (a := ⟨w1.heap.size, 0, none⟩) yS _) (by simp; omega)
   rintro e3 w3 ⟨rfl, hb4, ha4⟩; go_wp2
   go_end0
   rw [HPQ.o, Q3.o]; exact ⟨rfl, (But.of (Below.tr HB1.o (HS3.o _))).trans hb4, ha4⟩
 | false =>
   have q1 : zaH (zam xs ls e.i e.j) = [] := by unfold zaH; rw [hg]; rfl
   have q2 : zaB (zam xs ls e.i e.j) = 3 := by unfold zaB; rw [hg]; rfl
   have q3 : zbj (zam xs ls e.i e.j) = none := by unfold zbj; rw [hg]; rfl
   have Q3 := yq q3; rw [q1] at HO1; rw [q1, q2]; clear q1 q2 q3 hg lim1; have xK := hK1.o.cell (i := 0) (v := .pointer (some ⟨b, 0, none⟩)) rfl; have lK := hK1.o.lt; go_wp2_with fail
   refine (zeo b xs ls s none (.slice A1 0 k1) [] 3 _ (HA1.o.up yb) ?_ (.inr ⟨rfl, rfl⟩)).mono ?_
   · exact zeF (World.ownsRow.alloc HO1.o _) hlt
   rintro e3 w3 ⟨rfl, hb4, ha4⟩; go_wp2
   go_end0
   rw [Q3.o]; exact ⟨rfl, (But.of (HB1.o.alloc z1 _)).trans hb4, ha4⟩
end Go.Proofs.YtdacndamehiglaaGreatDoor
