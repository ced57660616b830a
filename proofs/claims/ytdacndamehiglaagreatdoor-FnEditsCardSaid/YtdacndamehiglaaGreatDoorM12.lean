import Derived.Test.YtdacndamehiglaaGreatDoorM11
set_option maxRecDepth 100000
set_option maxHeartbeats 8000000
namespace Go.Proofs.YtdacndamehiglaaGreatDoor
open Go.RowKit
def zip (k : Int) : ByteArray := if k = 1 then ⟨#[73, 80]⟩ else if k = 2 then ⟨#[73, 74]⟩ else if k = 3 then ⟨#[73, 74, 75]⟩ else if k = 4 then ⟨#[73, 74, 75]⟩ else if k = 5 then ⟨#[73, 74]⟩ else if k = 6 then ⟨#[73, 74, 75]⟩ else ⟨#[73, 74, 77]⟩
def zdh (s : ByteArray) (b : UInt8) : Bool := s.data.toList.any (· == b)
theorem zj6 {k : Int} (h : inR k 1 7 = true) : zdh (zip k) 74 = zcd k /\ zdh (zip k) 75 = zcm k /\ zdh (zip k) 80 = (k == 1) /\ zdh (zip k) 77 = (k == 7) /\ (zip k).size <= 3 := by
 rcases zdl h with rfl | rfl | rfl | rfl | rfl | rfl | rfl <;> decide
theorem zgy (k : Int) (w : World) (h : inR k 1 7 = true) :
  Calls Tryz.prog 72 #[.int .i64 k] w fun e w' => e = .returned (.string (zip k)) /\ Below w.heap.size w w' := by
 rcases zdl h with rfl | rfl | rfl | rfl | rfl | rfl | rfl <;>
 · clear h
   go_enter Tryz.func72, Tryz.ntmps72
   go_wp2
   go_ret
   exact ⟨rfl, yb⟩
theorem znf {s : ByteArray} {b : UInt8} {k : Nat} (h : k < s.size) (e : s[k] = b) : zdh s b = true := by
 unfold zdh; rw [List.any_eq_true]; exact ⟨s[k], by rw [Array.mem_toList_iff]; exact Array.getElem_mem h, by simp [e]⟩
theorem zlU {s : ByteArray} {b : UInt8} (h : ∀ j (hj : j < s.size), s[j] ≠ b) : zdh s b = false := by
 unfold zdh; rw [List.any_eq_false]; intro x hx; rw [Array.mem_toList_iff] at hx; obtain ⟨j, hj, rfl⟩ := Array.getElem_of_mem hx; have := h j hj; simp only [beq_iff_eq]
 exact this
theorem zkN (s : ByteArray) (b : UInt8) (w : World) (hs : s.size <= maxLen) :
  Calls Tryz.prog 73 #[.string s, .int .u8 b.toNat] w fun e w' => e = .returned (.bool (zdh s b)) /\ w = w' := by
 unfold maxLen at hs; go_enter Tryz.func73, Tryz.ntmps73
 go_wp2_with fail
 go_loop [5] (fun i => ∃ k : Nat, k <= s.size /\ i = .int .i64 k /\ ∀ j (hj : j < s.size), j < k -> s[j] ≠ b) (fun i => s.size - (intOf i).toNat)
 case atStart => exact ⟨0, Nat.zero_le _, rfl, fun j hj h => absurd h yO⟩
 case round =>
  obtain ⟨k, hk, rfl, hno⟩ := hrel; have Hno := yq hno; clear hno; by_cases hlt : k < s.size
  · by_cases hp : s[k] = b
    · have Hp := yq hp
      have g : ((s[k].toNat : Int) == (b.toNat : Int)) = true := by rw [hp]; simp
      clear hp; go_wp2
      go_ret
      exact ⟨zak (znf hlt Hp.o).symm, rfl⟩
    · have Hp := yq hp
      have g : ((s[k].toNat : Int) == (b.toNat : Int)) = false := by
       rw [beq_eq_false_iff_ne]; intro h; exact hp (UInt8.toNat_inj.1 yO)
      clear hp; go_wp2
      go_round
      case rel =>
       refine ⟨k + 1, by omega, by go_num, fun j hj h => ?_⟩
       by_cases e : j = k
       · subst e; exact Hp.o
       · exact Hno.o j hj yO
      case measure => simp [intOf]; omega
  · go_wp2
    go_ret
    exact ⟨zak (zlU (fun j hj => Hno.o j hj yO)).symm, rfl⟩
theorem zhJ (n : Int) (b : Bool) (w : World) :
  Calls Tryz.prog 87 #[.int .i64 n, .bool b] w fun r w' => r = .returned (.bool (za3 n b)) /\ w = w' := by
 cases b
 · go_enter Tryz.func87, Tryz.ntmps87
   go_wp2_with fail
   go_ret
   exact ⟨rfl, rfl⟩
 · go_enter Tryz.func87, Tryz.ntmps87
   go_wp2_with fail
   refine (zdX _ _ _ _).mono ?_
   rintro r w' ⟨rfl, rfl⟩; go_wp2_with fail
   go_ret
   exact ⟨rfl, rfl⟩
structure zfR (w : World) (B b : Nat) (e : zap) (vR : Value) : Prop where
 box : zmR w b (.int .i64 e.kind) (.int .i64 e.i) (.int .i64 e.j) (.int .i64 e.k) vR (.string e.map)
 lt : b < B
 sl : Sl zas w B vR e.part
theorem zfR.up {w w' : World} {b : Nat} {e : zap} {vR : Value} (h : zfR w w.heap.size b e vR) (hb : Below w.heap.size w w') : zfR w' w'.heap.size b e vR :=
 ⟨h.box.up hb h.lt, Nat.lt_of_lt_of_le h.lt hb.size, h.sl.up hb⟩
theorem ziq (b : Nat) (vR : Value) (e : zap) (n : Int) (w : World) (h : zfR w w.heap.size b e vR) (hk : inR e.kind 1 7 = true) :
  Calls Tryz.prog 42 #[.pointer (some ⟨b, 0, none⟩), .int .i64 n] w fun r w' => r = .returned (.bool (zar e n)) /\ Below w.heap.size w w' := by
 obtain ⟨k, i, j, kk, part, map⟩ := e; obtain ⟨⟨x0, x1, x2, x3, x4, x5⟩, hlt, _⟩ := h; simp only at hk x0 x1 x2 x3 x4 x5
 rcases zdl hk with rfl | rfl | rfl | rfl | rfl | rfl | rfl
 all_goals clear hk
 rotate_left 3
 · by_cases c1 : j <= n
   · by_cases c2 : kk <= i
     · go_enter Tryz.func42, Tryz.ntmps42
       go_wp2_with fail
       go_quiet (fail)
       go_wp2_with fail
       go_ret
       exact ⟨zak (by simp [zar, c1, c2]), yb⟩
     · have g2 : decide (kk <= i) = false := by simp; omega
       by_cases c3 : j <= kk
       · go_enter Tryz.func42, Tryz.ntmps42
         go_wp2_with fail
         go_quiet (fail)
         go_wp2_with fail
         go_ret
         exact ⟨zak (by simp [zar, c1, g2, c3]), yb⟩
       · have g3 : decide (j <= kk) = false := by simp; omega
         have C3 := yq c3; go_enter Tryz.func42, Tryz.ntmps42
         go_wp2_with fail
         go_quiet (fail)
         go_wp2_with fail
         go_ret
         exact ⟨zak (by simp [zar, c1, g2, g3]), yb⟩
   · have g1 : decide (j <= n) = false := by simp; omega
     go_enter Tryz.func42, Tryz.ntmps42
     go_wp2_with fail
     go_quiet (fail)
     go_wp2_with fail
     go_ret
     exact ⟨zak (by simp [zar, g1]), yb⟩
 all_goals
  go_enter Tryz.func42, Tryz.ntmps42
  go_wp2_with fail
  all_goals
   go_ret
   refine ⟨zak ?_, yb⟩
   rw [Bool.eq_iff_iff]; simp [zar] at *
   try omega
def zng (k : Int) (w : World) (e : Ending) (w' : World) : Prop :=
 ∃ s, e = .returned (.tuple #[.agg #[.string s, .bool (inR k 1 7 && zcd k), .bool (inR k 1 7 && zcm k), .bool (k == 1), .bool (k == 7)], .bool (inR k 1 7)]) /\ Below w.heap.size w w'
theorem zkO (k : Int) (w : World) : Calls Tryz.prog 56 #[.int .i64 k] w (zng k w) := by
 by_cases h : 1 <= k /\ k <= 7
 · have : k = 1 \/ k = 2 \/ k = 3 \/ k = 4 \/ k = 5 \/ k = 6 \/ k = 7 := by omega
   rcases this with rfl | rfl | rfl | rfl | rfl | rfl | rfl
   · clear h
     go_enter Tryz.func56, Tryz.ntmps56
     go_wp2
     refine bodyPost_ret (v := .tuple #[.agg #[.string ⟨#[105, 110, 115, 101, 114, 116]⟩, .bool false, .bool false, .bool true, .bool false], .bool true]) (by simp [results, Tryz.results56, go_sem]) rfl ⟨_, rfl, ?_⟩
     exact yb
   · clear h
     go_enter Tryz.func56, Tryz.ntmps56
     go_wp2
     refine bodyPost_ret (v := .tuple #[.agg #[.string ⟨#[100, 101, 108, 101, 116, 101]⟩, .bool true, .bool false, .bool false, .bool false], .bool true]) (by simp [results, Tryz.results56, go_sem]) rfl ⟨_, rfl, ?_⟩
     exact yb
   · clear h
     go_enter Tryz.func56, Tryz.ntmps56
     go_wp2
     refine bodyPost_ret (v := .tuple #[.agg #[.string ⟨#[99, 111, 112, 121]⟩, .bool true, .bool true, .bool false, .bool false], .bool true]) (by simp [results, Tryz.results56, go_sem]) rfl ⟨_, rfl, ?_⟩
     exact yb
   · clear h
     go_enter Tryz.func56, Tryz.ntmps56
     go_wp2
     refine bodyPost_ret (v := .tuple #[.agg #[.string ⟨#[109, 111, 118, 101]⟩, .bool true, .bool true, .bool false, .bool false], .bool true]) (by simp [results, Tryz.results56, go_sem]) rfl ⟨_, rfl, ?_⟩
     exact yb
   · clear h
     go_enter Tryz.func56, Tryz.ntmps56
     go_wp2
     refine bodyPost_ret (v := .tuple #[.agg #[.string ⟨#[116, 117, 114, 110]⟩, .bool true, .bool false, .bool false, .bool false], .bool true]) (by simp [results, Tryz.results56, go_sem]) rfl ⟨_, rfl, ?_⟩
     exact yb
   · clear h
     go_enter Tryz.func56, Tryz.ntmps56
     go_wp2
     refine bodyPost_ret (v := .tuple #[.agg #[.string ⟨#[114, 101, 112, 101, 97, 116]⟩, .bool true, .bool true, .bool false, .bool false], .bool true]) (by simp [results, Tryz.results56, go_sem]) rfl ⟨_, rfl, ?_⟩
     exact yb
   · clear h
     go_enter Tryz.func56, Tryz.ntmps56
     go_wp2
     refine bodyPost_ret (v := .tuple #[.agg #[.string ⟨#[109, 97, 112]⟩, .bool true, .bool false, .bool false, .bool true], .bool true]) (by simp [results, Tryz.results56, go_sem]) rfl ⟨_, rfl, ?_⟩
     exact yb
 · have h1 : (k == 1) = false := by simp; omega
   have h2 : (k == 2) = false := by simp; omega
   have h3 : (k == 3) = false := by simp; omega
   have h4 : (k == 4) = false := by simp; omega
   have h5 : (k == 5) = false := by simp; omega
   have h6 : (k == 6) = false := by simp; omega
   have h7 : (k == 7) = false := by simp; omega
   have h8 : inR k 1 7 = false := by simp [inR]; omega
   have H := yq h8; have H1 := yq h1; have H7 := yq h7; clear h h8; go_enter Tryz.func56, Tryz.ntmps56
   go_wp2
   refine bodyPost_ret (v := .tuple #[.agg #[.string ⟨#[]⟩, .bool false, .bool false, .bool false, .bool false], .bool false]) (by simp [results, Tryz.results56, go_sem]) rfl ⟨_, by rw [H.o, H1.o, H7.o]; rfl, ?_⟩
   exact yb
theorem zlV (s : ByteArray) (w : World) (hs : s.size <= maxLen) :
  Calls Tryz.prog 59 #[.string s] w fun e w' => e = .returned (.bool (s.size == 4 && zay s)) /\ w = w' := by
 by_cases h : s.size = 4
 · have g : ((s.size : Int) == 4) = true := by simp [h]
   have H := yq h; clear h; go_enter Tryz.func59, Tryz.ntmps59
   go_wp2_with fail
   refine (zdB _ _ hs).mono ?_
   rintro e w' ⟨rfl, rfl⟩; go_wp2
   go_ret
   exact ⟨zak (by simp [H.o]), rfl⟩
 · have g : ((s.size : Int) == 4) = false := by rw [beq_eq_false_iff_ne]; omega
   have H := yq h; clear h; go_enter Tryz.func59, Tryz.ntmps59
   go_wp2
   go_ret
   exact ⟨zak (by simp [H.o]), rfl⟩
theorem zj7 {e : zap} (hk : inR e.kind 1 7 = true) : zaA e = (inR e.i 0 1000000000000000 && za3 e.j (zcd e.kind) && za3 e.k (zcm e.kind) && !(zcd e.kind && decide (e.j < e.i)) &&
  (decide (0 < e.part.length) == (e.kind == 1)) && zaf e.part && (if e.kind == 7 then e.map.size == 4 && zay e.map else e.map.size == 0)) := by
 unfold zaA; rw [hk]; simp
theorem zj8 {n : Int} {b : Bool} (h : inR n 0 1000000000000000 = false) : za3 n b = false := by
 cases b
 · have : ¬ (n = 0) := by rintro rfl; simp [inR] at h
   simpa [za3] using this
 · simpa [za3] using h
theorem zbO (s : ByteArray) : s.toList.isEmpty = (s.size == 0) := by
 rw [ByteArray.toList_eq]; obtain ⟨⟨l⟩⟩ := s; cases l with
 | nil => rfl
 | cons a l => rfl
theorem zdL {e : zap} (h : ¬ 0 < e.part.length) : zaf e.part = true := by
 have : e.part = [] := yn yO; rw [this]; decide
theorem zbY (v : Value) (e : zap) (w : World) (h : zdF w w.heap.size v e) (hn : e.part.length <= 1099511627776) (hm : e.map.size <= maxLen) :
  Calls Tryz.prog 15 #[v] w fun r w' => r = .returned (.bool (zaA e)) /\ Below w.heap.size w w' := by
 obtain ⟨vR, rfl, hR⟩ := h; have HR := yq hR; obtain ⟨AR, cR, rfl, _⟩ := hR; go_enter Tryz.func15, Tryz.ntmps15
 go_wp2_with fail
 refine (zkO _ _).mono ?_
 rintro r w1 ⟨s, rfl, hb1⟩; have z1 : w.heap.size < w1.heap.size := Nat.lt_of_lt_of_le yS hb1.size; have X1 := yq (zmR.new hb1); have B1 := yq (((Below.refl w.heap.size w).alloc yL _).trans (hb1.mono yS)); clear hb1; obtain ⟨x0, x1, x2, x3, x4, x5⟩ := X1.o; by_cases hk : inR e.kind 1 7 = true
 · rw [hk, Bool.true_and, Bool.true_and]
   have HE := yq (zj7 hk)
   have H4 : (zcd e.kind = false /\ zcm e.kind = false /\ (e.kind == 1) = true /\ (e.kind == 7) = false) \/ (zcd e.kind = true /\ zcm e.kind = false /\ (e.kind == 1) = false /\ (e.kind == 7) = false) \/ (zcd e.kind = true /\ zcm e.kind = true /\ (e.kind == 1) = false /\ (e.kind == 7) = false) \/ (zcd e.kind = true /\ zcm e.kind = false /\ (e.kind == 1) = false /\ (e.kind == 7) = true) := by
    rcases zdl hk with h | h | h | h | h | h | h <;> rw [h] <;> simp [zcd, zcm]
   have HK := yq hk; clear hk; have HV : ∀ o, Sl zas (w1.alloc o) (w1.alloc o).heap.size (.slice AR e.part.length cR) e.part := fun o => ((HR.o.below B1.o).below ((Below.refl _ _).alloc yO o)).le (by simp; omega); have HV := yq HV; go_wp2_with fail
   by_cases c1 : inR e.i 0 1000000000000000 = true
   · have C1 := yq c1
     clear c1; refine (zcN _ _ _ _ C1.o).mono ?_
     rintro r w' ⟨rfl, rfl⟩; go_wp2_with fail
     by_cases c2 : inR e.j 0 1000000000000000 = true
     · have C2 := yq c2
       clear c2; refine (zcN _ _ _ _ C2.o).mono ?_
       rintro r w' ⟨rfl, rfl⟩; go_wp2_with fail
       by_cases c3 : inR e.k 0 1000000000000000 = true
       · have C3 := yq c3
         clear c3; refine (zcN _ _ _ _ C3.o).mono ?_
         rintro r w' ⟨rfl, rfl⟩; rcases H4 with ⟨u1, u2, u3, u4⟩ | ⟨u1, u2, u3, u4⟩ | ⟨u1, u2, u3, u4⟩ | ⟨u1, u2, u3, u4⟩
         · rw [u1, u2, u3, u4] at HE
           rw [u1, u2, u3, u4]; have U := yq (And.intro u1 (And.intro u2 (And.intro u3 u4))); clear u1 u2 u3 u4; by_cases cj' : ¬ (e.j = 0)
           · have G := yq cj'
             have g0 : (e.j != 0) = true := by simp [cj']
             clear cj'; go_wp2_with fail
             go_ret
             exact ⟨zak (by rw [HE.o]; simp [za3, C1.o, G.o]), (have yx := B1.o; yb)⟩
           · have cj : e.j = 0 := Decidable.not_not.1 cj'
             have Gcj := yq cj; have gcj : (e.j != 0) = false := by simp [cj]
             clear cj' cj; by_cases ck' : ¬ (e.k = 0)
             · have G := yq ck'
               have g0 : (e.k != 0) = true := by simp [ck']
               clear ck'; go_wp2_with fail
               go_ret
               exact ⟨zak (by rw [HE.o]; simp [za3, C1.o, G.o]), (have yx := B1.o; yb)⟩
             · have ck : e.k = 0 := Decidable.not_not.1 ck'
               have Gck := yq ck; have gck : (e.k != 0) = false := by simp [ck]
               clear ck' ck; by_cases cl' : ¬ (0 < e.part.length)
               · have G := yq cl'
                 have g0 : e.part.length = 0 := by omega
                 go_wp2_with fail
                 go_ret
                 exact ⟨zak (by rw [HE.o]; simp [za3, C1.o, G.o]), (have yx := B1.o; yb)⟩
               · have cl : 0 < e.part.length := Decidable.not_not.1 cl'
                 have Gcl := yq cl; clear cl'; go_wp2_with fail
                 refine (zbN _ e.part _ (HV.o _) hn).mono ?_
                 rintro r w2 ⟨rfl, hb2⟩; have B2 := yq (B1.o.trans ((((Below.refl w1.heap.size w1).alloc yL _).trans (hb2.mono yS)).mono yO)); have x5 := (hb2.cell (p := ⟨w.heap.size, 5, none⟩) (by simp; omega)).trans ((((Below.refl w1.heap.size w1).alloc yL _).cell (p := ⟨w.heap.size, 5, none⟩) z1).trans X1.o.2.2.2.2.2); have y4 := (hb2.cell (p := ⟨w1.heap.size, 4, none⟩) yS).trans (show _ = some (Value.bool false) by simp [go_sem]); clear hb2 x0 x1 x2 x3 x4; by_cases cg : zaf e.part = true
                 · have Gcg := yq cg
                   by_cases cm : e.map.size = 0
                   · have Gcm := yq cm
                     have gm := zbO e.map; rw [show (e.map.size == 0) = true by simp [cm]] at gm; clear cm; go_wp2_with fail
                     go_ret
                     exact ⟨zak (by rw [HE.o]; simp [za3, C1.o, Gcj.o, Gck.o, Gcl.o, Gcg.o, Gcm.o]), (have yx := B2.o; yb)⟩
                   · have Gcm := yq cm
                     have gm := zbO e.map; rw [show (e.map.size == 0) = false by simp [cm]] at gm; clear cm; go_wp2_with fail
                     go_ret
                     exact ⟨zak (by rw [HE.o]; simp [za3, C1.o, Gcj.o, Gck.o, Gcl.o, Gcg.o, Gcm.o]), (have yx := B2.o; yb)⟩
                 · have cg' : zaf e.part = false := by simpa using cg
                   have Gcg := yq cg'; clear cg; go_wp2_with fail
                   go_ret
                   exact ⟨zak (by rw [HE.o]; simp [za3, C1.o, Gcg.o]), (have yx := B2.o; yb)⟩
         · rw [u1, u2, u3, u4] at HE
           rw [u1, u2, u3, u4]; have U := yq (And.intro u1 (And.intro u2 (And.intro u3 u4))); clear u1 u2 u3 u4; by_cases ci : e.j < e.i
           · have G := yq ci
             go_wp2_with fail
             go_ret
             exact ⟨zak (by rw [HE.o]; simp [za3, C1.o, C2.o, G.o]), (have yx := B1.o; yb)⟩
           · have c' : e.i <= e.j := by omega
             have Gci := yq ci; by_cases ck' : ¬ (e.k = 0)
             · have G := yq ck'
               have g0 : (e.k != 0) = true := by simp [ck']
               clear ck'; go_wp2_with fail
               go_ret
               exact ⟨zak (by rw [HE.o]; simp [za3, C1.o, C2.o, G.o]), (have yx := B1.o; yb)⟩
             · have ck : e.k = 0 := Decidable.not_not.1 ck'
               have Gck := yq ck; have gck : (e.k != 0) = false := by simp [ck]
               clear ck' ck; by_cases cl' : 0 < e.part.length
               · have G := yq cl'
                 go_wp2_with fail
                 go_ret
                 exact ⟨zak (by rw [HE.o]; simp [za3, C1.o, C2.o, G.o]), (have yx := B1.o; yb)⟩
               · have cl : e.part.length = 0 := by omega
                 have Gcl := yq cl; have Gcg := yq (zdL cl'); clear cl'; by_cases cm : e.map.size = 0
                 · have Gcm := yq cm
                   have gm := zbO e.map; rw [show (e.map.size == 0) = true by simp [cm]] at gm; clear cm; go_wp2_with fail
                   go_ret
                   exact ⟨zak (by rw [HE.o]; simp [za3, C1.o, C2.o, Gci.o, Gck.o, Gcl.o, Gcg.o, Gcm.o]), (have yx := B1.o; yb)⟩
                 · have Gcm := yq cm
                   have gm := zbO e.map; rw [show (e.map.size == 0) = false by simp [cm]] at gm; clear cm; go_wp2_with fail
                   go_ret
                   exact ⟨zak (by rw [HE.o]; simp [za3, C1.o, C2.o, Gci.o, Gck.o, Gcl.o, Gcg.o, Gcm.o]), (have yx := B1.o; yb)⟩
         · rw [u1, u2, u3, u4] at HE
           rw [u1, u2, u3, u4]; have U := yq (And.intro u1 (And.intro u2 (And.intro u3 u4))); clear u1 u2 u3 u4; by_cases ci : e.j < e.i
           · have G := yq ci
             go_wp2_with fail
             go_ret
             exact ⟨zak (by rw [HE.o]; simp [za3, C1.o, C2.o, C3.o, G.o]), (have yx := B1.o; yb)⟩
           · have c' : e.i <= e.j := by omega
             have Gci := yq ci; by_cases cl' : 0 < e.part.length
             · have G := yq cl'
               go_wp2_with fail
               go_ret
               exact ⟨zak (by rw [HE.o]; simp [za3, C1.o, C2.o, C3.o, G.o]), (have yx := B1.o; yb)⟩
             · have cl : e.part.length = 0 := by omega
               have Gcl := yq cl; have Gcg := yq (zdL cl'); clear cl'; by_cases cm : e.map.size = 0
               · have Gcm := yq cm
                 have gm := zbO e.map; rw [show (e.map.size == 0) = true by simp [cm]] at gm; clear cm; go_wp2_with fail
                 go_ret
                 exact ⟨zak (by rw [HE.o]; simp [za3, C1.o, C2.o, C3.o, Gci.o, Gcl.o, Gcg.o, Gcm.o]), (have yx := B1.o; yb)⟩
               · have Gcm := yq cm
                 have gm := zbO e.map; rw [show (e.map.size == 0) = false by simp [cm]] at gm; clear cm; go_wp2_with fail
                 go_ret
                 exact ⟨zak (by rw [HE.o]; simp [za3, C1.o, C2.o, C3.o, Gci.o, Gcl.o, Gcg.o, Gcm.o]), (have yx := B1.o; yb)⟩
         · rw [u1, u2, u3, u4] at HE
           rw [u1, u2, u3, u4]; have U := yq (And.intro u1 (And.intro u2 (And.intro u3 u4))); clear u1 u2 u3 u4; by_cases ci : e.j < e.i
           · have G := yq ci
             go_wp2_with fail
             go_ret
             exact ⟨zak (by rw [HE.o]; simp [za3, C1.o, C2.o, G.o]), (have yx := B1.o; yb)⟩
           · have c' : e.i <= e.j := by omega
             have Gci := yq ci; by_cases ck' : ¬ (e.k = 0)
             · have G := yq ck'
               have g0 : (e.k != 0) = true := by simp [ck']
               clear ck'; go_wp2_with fail
               go_ret
               exact ⟨zak (by rw [HE.o]; simp [za3, C1.o, C2.o, G.o]), (have yx := B1.o; yb)⟩
             · have ck : e.k = 0 := Decidable.not_not.1 ck'
               have Gck := yq ck; have gck : (e.k != 0) = false := by simp [ck]
               clear ck' ck; by_cases cl' : 0 < e.part.length
               · have G := yq cl'
                 go_wp2_with fail
                 go_ret
                 exact ⟨zak (by rw [HE.o]; simp [za3, C1.o, C2.o, G.o]), (have yx := B1.o; yb)⟩
               · have cl : e.part.length = 0 := by omega
                 have Gcl := yq cl; have Gcg := yq (zdL cl'); clear cl'; go_wp2_with fail
                 refine (zlV _ _ hm).mono ?_
                 rintro r w2 ⟨rfl, rfl⟩; have gb : ∃ b, (e.map.size == 4 && zay e.map) = b := ⟨_, rfl⟩
                 obtain ⟨b, gb⟩ := gb; have Gb := yq gb; rw [gb]; clear gb; cases b
                 · go_wp2_with fail
                   go_ret
                   exact ⟨zak (by rw [HE.o, Gb.o]; simp [za3, C1.o, C2.o, Gck.o, Gcl.o, Gcg.o]), (have yx := B1.o; yb)⟩
                 · go_wp2_with fail
                   go_ret
                   exact ⟨zak (by rw [HE.o, Gb.o]; simp [za3, C1.o, C2.o, Gci.o, Gck.o, Gcl.o, Gcg.o]), (have yx := B1.o; yb)⟩
       · have c3' : inR e.k 0 1000000000000000 = false := by simpa using c3
         have C3 := yq c3'; clear c3 c3'; refine (zeV _ _ _ _ C3.o).mono ?_
         rintro r w' ⟨rfl, rfl⟩; go_wp2_with fail
         go_ret
         exact ⟨zak (by rw [HE.o, zj8 C3.o]; simp), (have yx := B1.o; yb)⟩
     · have c2' : inR e.j 0 1000000000000000 = false := by simpa using c2
       have C2 := yq c2'; clear c2 c2'; refine (zeV _ _ _ _ C2.o).mono ?_
       rintro r w' ⟨rfl, rfl⟩; go_wp2_with fail
       go_ret
       exact ⟨zak (by rw [HE.o, zj8 C2.o]; simp), (have yx := B1.o; yb)⟩
   · have c1' : inR e.i 0 1000000000000000 = false := by simpa using c1
     have C1 := yq c1'; clear c1 c1'; refine (zeV _ _ _ _ C1.o).mono ?_
     rintro r w' ⟨rfl, rfl⟩; go_wp2_with fail
     go_ret
     exact ⟨zak (by rw [HE.o, C1.o]; simp), (have yx := B1.o; yb)⟩
 · have hk' : inR e.kind 1 7 = false := by simpa using hk
   have HK := yq hk'; rw [hk']; clear hk hk'; go_wp2_with fail
   go_ret
   exact ⟨zak (by simp [zaA, HK.o]), (have yx := B1.o; yb)⟩
theorem zj9 (v : Value) (e : zap) (n : Int) (w : World) (h : zdF w w.heap.size v e) (hk : inR e.kind 1 7 = true) (hij : 2 <= e.kind -> e.i <= e.j) :
  Calls Tryz.prog 39 #[v, .int .i64 n] w fun r w' => r = .returned (.bool (zar e n)) /\ Below w.heap.size w w' := by
 obtain ⟨k, i, j, kk, part, map⟩ := e; obtain ⟨vR, rfl, hR⟩ := h; obtain ⟨AR, cR, rfl, _⟩ := hR; simp only at hk hij
 rcases zdl hk with rfl | rfl | rfl | rfl | rfl | rfl | rfl <;>
 · have Hij := yq hij
   clear hij hk; go_enter Tryz.func39, Tryz.ntmps39
   go_wp2
   all_goals
    go_ret
    refine ⟨zak ?_, yb⟩
    have := Hij.o; rw [Bool.eq_iff_iff]; simp [zar] at *
    try omega
def zlW (e : zap) (n : Int) (w : World) (r : Ending) (w' : World) : Prop :=
 ∃ out, r = .returned (.tuple #[.int .i64 out, .bool (decide (zax e n <= 1000000000000000))]) /\ (zax e n <= 1000000000000000 -> out = zax e n - n) /\ Below w.heap.size w w'
theorem znT {m p k : Int} (hp : 0 < p) : (k <= m / p) ↔ k * p <= m := Int.le_ediv_iff_mul_le hp
theorem zlX (v : Value) (e : zap) (n : Int) (w : World) (h : zdF w w.heap.size v e) (he : zaA e = true) (hn : e.part.length <= 1099511627776) (hn0 : 0 <= n) (hn1 : n <= 1000000000000000) (hf : zar e n = true) :
  Calls Tryz.prog 51 #[v, .int .i64 n] w (zlW e n w) := by
 obtain ⟨g1, g2, g3, g4, g5, g6, g7⟩ := zbh he; clear he; have H1 := fun o => (h.below ((Below.refl w.heap.size w).alloc yL o)).le (B' := (w.alloc o).heap.size) yS; obtain ⟨k, i, j, kk, part, map⟩ := e; obtain ⟨vR, rfl, hR⟩ := h; have HR := fun o => (hR.below ((Below.refl w.heap.size w).alloc yL o)).le (B' := (w.alloc o).heap.size) yS; have HR := yq HR; obtain ⟨AR, cR, rfl, _⟩ := hR; simp only at g1 g2 g3 g4 g5 g6 g7 hn
 clear H1; have G7 := yq g7; have wji : IntKind.i64.wrap (j - i) = j - i := IntWalk.i64_in _ yO; have wm : IntKind.i64.wrap (1000000000000000 - n) = 1000000000000000 - n := IntWalk.i64_in _ yO; have wk : IntKind.i64.wrap (kk - 1) = kk - 1 := IntWalk.i64_in _ yO; have hlb := zaM part; rcases zdl g1 with rfl | rfl | rfl | rfl | rfl | rfl | rfl
 · have wn : IntKind.i64.wrap (n + zao part) = n + zao part := IntWalk.i64_in _ yO
   have hv : zjW part = zao part := by rw [zjW, if_pos g7]
   have Hv := yq hv; clear hv g7; go_enter Tryz.func51, Tryz.ntmps51
   go_wp2_with fail
   refine (zc5 _ part _ (HR.o _) hn).mono ?_
   rintro r w1 ⟨rfl, hb1⟩; rw [Hv.o]; have HB := yq (((Below.refl w.heap.size w).alloc yL _).trans (hb1.mono yS)); clear hb1; go_wp2_with fail
   go_ret2
   exact ⟨zao part, by simp [zax], fun _ => by simp [zax]; omega, HB.o⟩
 · clear HR g7
   have hij := g5 yO; have wn : IntKind.i64.wrap (n + -(j - i)) = n + -(j - i) := IntWalk.i64_in _ yO; have wg : IntKind.i64.wrap (-(j - i)) = -(j - i) := IntWalk.i64_in _ yO; go_enter Tryz.func51, Tryz.ntmps51
   go_wp2_with fail
   go_ret2
   exact ⟨-(j - i), by simp [zax]; omega, fun _ => by simp [zax]; omega, yb⟩
 · clear HR g7
   have hij := g5 yO; have wn : IntKind.i64.wrap (n + (j - i)) = n + (j - i) := IntWalk.i64_in _ yO; go_enter Tryz.func51, Tryz.ntmps51
   go_wp2_with fail
   go_ret2
   exact ⟨j - i, by simp [zax], fun _ => by simp [zax]; omega, yb⟩
 · clear HR g7
   go_enter Tryz.func51, Tryz.ntmps51
   go_wp2_with fail
   go_ret2
   exact ⟨0, by simp [zax]; try omega, fun _ => by simp [zax], yb⟩
 · clear HR g7
   go_enter Tryz.func51, Tryz.ntmps51
   go_wp2_with fail
   go_ret2
   exact ⟨0, by simp [zax]; try omega, fun _ => by simp [zax], yb⟩
 · clear HR g7
   have hij := g5 yO; by_cases c0 : 0 < j - i
   · have hd := znT (m := 1000000000000000 - n) (p := j - i) (k := kk - 1) c0
     have Hd := yq hd; have hz : (j - i) ≠ 0 := by omega
     have c0' : decide (i < j) = true := by simp; omega
     have c0'' : i < j := by omega
     by_cases c1 : ((1000000000000000 - n) / (j - i)) < kk - 1
     · have c1' : decide (((1000000000000000 - n) / (j - i)) < kk - 1) = true := by simp [c1]
       have hbad : ¬ (n - (j - i) + (j - i) * kk <= 1000000000000000) := by
        intro h; have : (kk - 1) * (j - i) <= 1000000000000000 - n := by rw [Int.sub_mul, Int.mul_comm kk]; omega
        have := Hd.o.2 this; omega
       have Hbad := yq hbad; clear hbad hd; go_enter Tryz.func51, Tryz.ntmps51
       go_wp2_with fail
       go_quiet (fail)
       go_wp2_with fail
       go_ret2
       exact ⟨0, by simp [zax, Hbad.o], fun h => absurd h (by simpa [zax] using Hbad.o), yb⟩
     · have c1' : decide (((1000000000000000 - n) / (j - i)) < kk - 1) = false := by simp; omega
       have hgood : (kk - 1) * (j - i) <= 1000000000000000 - n := Hd.o.1 yO
       have hlow : -(j - i) <= (kk - 1) * (j - i) := by
        have := Int.mul_nonneg g4.1 (show 0 <= j - i by omega); rw [Int.sub_mul]; omega
       have wmul : IntKind.i64.wrap ((kk - 1) * (j - i)) = (kk - 1) * (j - i) := IntWalk.i64_in _ yO; have wadd : IntKind.i64.wrap (n + (kk - 1) * (j - i)) = n + (kk - 1) * (j - i) := IntWalk.i64_in _ yO; have hle : decide (n + (kk - 1) * (j - i) <= 1000000000000000) = true := by simp; omega
       have hE : n - (j - i) + (j - i) * kk = n + (kk - 1) * (j - i) := by rw [Int.mul_comm (j - i) kk, Int.sub_mul]; omega
       have HE := yq hE; have Hg := yq hgood; clear hE hgood hlow hd; go_enter Tryz.func51, Tryz.ntmps51
       go_wp2_with fail
       go_quiet (fail)
       go_wp2_with fail
       go_ret2
       have hx := Hg.o; exact ⟨(kk - 1) * (j - i), by simp [zax, HE.o]; omega, fun _ => by simp [zax, HE.o]; omega, yb⟩
   · have hz : j - i = 0 := by omega
     have hj : j = i := by omega
     subst hj; have wz : IntKind.i64.wrap (j - j) = 0 := by rw [show j - j = 0 by omega]; rfl
     have ws : j - j = 0 := by omega
     go_enter Tryz.func51, Tryz.ntmps51
     go_wp2_with fail
     go_quiet (fail)
     go_wp2_with fail
     go_ret2
     exact ⟨0, by simp [zax]; try omega, fun _ => by simp [zax], yb⟩
 · clear HR g7
   go_enter Tryz.func51, Tryz.ntmps51
   go_wp2_with fail
   go_ret2
   exact ⟨0, by simp [zax]; try omega, fun _ => by simp [zax], yb⟩
def zdu (e : zap) (n m : Int) : Int := if zax e n <= m then zax e n else -1
theorem zir (b : Nat) (vR : Value) (e : zap) (n m : Int) (w : World) (h : zfR w w.heap.size b e vR) (he : zaA e = true) (hsm : za5 e.part) (hn : e.part.length <= 1099511627776) (hn0 : 0 <= n) (hn1 : n <= m) (hm : m <= 1000000000000000) (hf : zar e n = true) :
  Calls Tryz.prog 43 #[.pointer (some ⟨b, 0, none⟩), .int .i64 n, .int .i64 m] w fun r w' => r = .returned (.int .i64 (zdu e n m)) /\ Below w.heap.size w w' := by
 obtain ⟨g1, g2, g3, g4, g5, g6, g7⟩ := zbh he; clear he; obtain ⟨k, i, j, kk, part, map⟩ := e; have HH := yq h; obtain ⟨⟨x0, x1, x2, x3, x4, x5⟩, hlt, hR⟩ := h; have HR := yq hR; simp only at g1 g2 g3 g4 g5 g6 g7 hn hsm x0 x1 x2 x3 x4 x5
 have hlb := zaM part; obtain ⟨_, ls, hl⟩ := zag g7; have Hl := yq hl; have hgl := zaq hl; have wji : IntKind.i64.wrap (j - i) = j - i := IntWalk.i64_in _ yO; have Hf := yq hf; clear hl g7 hf hR; rcases zdl g1 with rfl | rfl | rfl | rfl | rfl | rfl | rfl
 · have wn : IntKind.i64.wrap (n + zai ls) = n + zai ls := IntWalk.i64_in _ yO
   have HG := yq hgl; clear hgl; by_cases c : n + zai ls <= m
   · have c' : ¬ (m < n + zai ls) := by omega
     have HC := yq c; clear c; go_enter Tryz.func43, Tryz.ntmps43
     go_wp2_with fail
     refine (zbn b 4 _ part ls _ Hl.o x4 hlt HR.o hsm hn).mono ?_
     rintro r w1 ⟨rfl, hb1⟩; go_wp2_with fail
     go_ret
     exact ⟨zbz (by simp [zdu, zax, HG.o, HC.o]), hb1⟩
   · have c' : m < n + zai ls := by omega
     have HC := yq c; clear c; go_enter Tryz.func43, Tryz.ntmps43
     go_wp2_with fail
     refine (zbn b 4 _ part ls _ Hl.o x4 hlt HR.o hsm hn).mono ?_
     rintro r w1 ⟨rfl, hb1⟩; go_wp2_with fail
     go_ret
     exact ⟨zbz (by rw [zdu, if_neg (by simpa [zax, HG.o] using HC.o)]), hb1⟩
 · have hij := g5 yO
   have wn : IntKind.i64.wrap (n - (j - i)) = n - (j - i) := IntWalk.i64_in _ yO; have c' : ¬ (m < n - (j - i)) := by omega
   have HC := yq (show n - (j - i) <= m by omega); go_enter Tryz.func43, Tryz.ntmps43
   go_wp2_with fail
   go_quiet (fail)
   go_wp2_with fail
   go_ret
   exact ⟨zbz (by simp [zdu, zax, HC.o]), yb⟩
 · have hij := g5 yO
   have wn : IntKind.i64.wrap (n + (j - i)) = n + (j - i) := IntWalk.i64_in _ yO; by_cases c : n + (j - i) <= m
   · have c' : ¬ (m < n + (j - i)) := by omega
     have HC := yq c; clear c; go_enter Tryz.func43, Tryz.ntmps43
     go_wp2_with fail
     go_quiet (fail)
     go_wp2_with fail
     go_ret
     exact ⟨zbz (by simp [zdu, zax, HC.o]), yb⟩
   · have c' : m < n + (j - i) := by omega
     have HC := yq c; clear c; go_enter Tryz.func43, Tryz.ntmps43
     go_wp2_with fail
     go_quiet (fail)
     go_wp2_with fail
     go_ret
     exact ⟨zbz (by rw [zdu, if_neg (by simpa [zax] using HC.o)]), yb⟩
 · have c' : ¬ (m < n) := by omega
   have HC := yq hn1; go_enter Tryz.func43, Tryz.ntmps43
   go_wp2_with fail
   go_ret
   exact ⟨zbz (by simp [zdu, zax, HC.o]), yb⟩
 · have c' : ¬ (m < n) := by omega
   have HC := yq hn1; go_enter Tryz.func43, Tryz.ntmps43
   go_wp2_with fail
   go_ret
   exact ⟨zbz (by simp [zdu, zax, HC.o]), yb⟩
 · have hij := g5 yO
   have hfit : j <= n := by simpa [zar] using Hf.o
   have wn : IntKind.i64.wrap (n - (j - i)) = n - (j - i) := IntWalk.i64_in _ yO; by_cases c0 : i < j
   · have hd := znT (m := m - (n - (j - i))) (p := j - i) (k := kk) yO
     have Hd := yq hd; have hz : (j - i) ≠ 0 := by omega
     have c0' : decide (i < j) = true := by simp [c0]
     have wm : IntKind.i64.wrap (m - (n - (j - i))) = m - (n - (j - i)) := IntWalk.i64_in _ yO; by_cases c1 : (m - (n - (j - i))) / (j - i) < kk
     · have c1' : decide ((m - (n - (j - i))) / (j - i) < kk) = true := by simp [c1]
       have hbad : ¬ (n - (j - i) + (j - i) * kk <= m) := by
        intro h; have : kk * (j - i) <= m - (n - (j - i)) := by rw [Int.mul_comm]; omega
        have := Hd.o.2 this; omega
       have Hbad := yq hbad; clear hbad hd; go_enter Tryz.func43, Tryz.ntmps43
       go_wp2_with fail
       go_quiet (fail)
       go_wp2_with fail
       go_quiet (fail)
       go_wp2_with fail
       go_ret
       exact ⟨zbz (by rw [zdu, if_neg (by simpa [zax] using Hbad.o)]), yb⟩
     · have c1' : decide ((m - (n - (j - i))) / (j - i) < kk) = false := by simp; omega
       have hgood : kk * (j - i) <= m - (n - (j - i)) := Hd.o.1 yO; have hlow : 0 <= kk * (j - i) := Int.mul_nonneg g4.1 yO; rw [Int.mul_comm] at hgood hlow; have wmul : IntKind.i64.wrap ((j - i) * kk) = (j - i) * kk := IntWalk.i64_in _ yO; have wadd : IntKind.i64.wrap (n - (j - i) + (j - i) * kk) = n - (j - i) + (j - i) * kk := IntWalk.i64_in _ yO; have hle : decide (m < n - (j - i) + (j - i) * kk) = false := by simp; omega
       have Hg := yq (show n - (j - i) + (j - i) * kk <= m by omega); clear hgood hlow hd; go_enter Tryz.func43, Tryz.ntmps43
       go_wp2_with fail
       go_quiet (fail)
       go_wp2_with fail
       go_quiet (fail)
       go_wp2_with fail
       go_ret
       exact ⟨zbz (by simp [zdu, zax, Hg.o]), yb⟩
   · have hj : j = i := by omega
     subst hj; have wz : IntKind.i64.wrap (j - j) = 0 := by rw [show j - j = 0 by omega]; rfl
     have ws : j - j = 0 := by omega
     have wn' : IntKind.i64.wrap n = n := IntWalk.i64_in _ yO; have c' : ¬ (m < n) := by omega
     have HC := yq hn1; go_enter Tryz.func43, Tryz.ntmps43
     go_wp2_with fail
     go_quiet (fail)
     go_wp2_with fail
     go_quiet (fail)
     go_wp2_with fail
     go_ret
     exact ⟨zbz (by simp [zdu, zax, HC.o]), yb⟩
 · have c' : ¬ (m < n) := by omega
   have HC := yq hn1; go_enter Tryz.func43, Tryz.ntmps43
   go_wp2_with fail
   go_ret
   exact ⟨zbz (by simp [zdu, zax, HC.o]), yb⟩
theorem zex {e : zap} {n : Int} (h : zaA e = true) (hf : zar e n = true) (hn : 0 <= n) : 0 <= zax e n := by
 obtain ⟨g1, g2, g3, g4, g5, g6, g7⟩ := zbh h; have hb := zaM e.part; unfold zax; rcases zdl g1 with h | h | h | h | h | h | h
 · simp [h]; omega
 · simp [h]; simp [zar, h] at hf; have := g5 yO; omega
 · simp [h]; have := g5 yO; omega
 · simp [h]; omega
 · simp [h]; omega
 · simp [h]; simp [zar, h] at hf; have := g5 yO; have := Int.mul_nonneg (show 0 <= e.j - e.i by omega) g4.1; omega
 · simp [h]; omega
end Go.Proofs.YtdacndamehiglaaGreatDoor
