import Derived.Test.YtejgbfgocaggfaaGreatDoorM11
set_option maxRecDepth 100000
set_option maxHeartbeats 8000000
namespace Go.Proofs.YtejgbfgocaggfaaGreatDoor
open Go.RowKit
def zcN (k : Int) : ByteArray := if k = 1 then ⟨#[73, 80]⟩ else if k = 2 then ⟨#[73, 74]⟩ else if k = 3 then ⟨#[73, 74, 75]⟩ else if k = 4 then ⟨#[73, 74, 75]⟩ else if k = 5 then ⟨#[73, 74]⟩ else if k = 6 then ⟨#[73, 74, 75]⟩ else ⟨#[73, 74, 77]⟩
def zdA (s : ByteArray) (b : UInt8) : Bool := s.data.toList.any (· == b)
theorem zgC {k : Int} (h : inR k 1 7 = true) : zdA (zcN k) 74 = zbq k /\ zdA (zcN k) 75 = zbu k /\ zdA (zcN k) 80 = (k == 1) /\ zdA (zcN k) 77 = (k == 7) /\ (zcN k).size <= 3 := by
 rcases zeo h with rfl | rfl | rfl | rfl | rfl | rfl | rfl <;> decide
theorem zd4 (k : Int) (w : World) (h : inR k 1 7 = true) :
  Calls Tryz.prog 35 #[.int .i64 k] w fun e w' => e = .returned (.string (zcN k)) /\ Below w.heap.size w w' := by
 rcases zeo h with rfl | rfl | rfl | rfl | rfl | rfl | rfl <;>
 · clear h
   go_enter Tryz.func35, Tryz.ntmps35
   go_wp2
   go_ret
   exact ⟨rfl, yb⟩
theorem zn5 {s : ByteArray} {b : UInt8} {k : Nat} (h : k < s.size) (e : s[k] = b) : zdA s b = true := by
 unfold zdA; rw [List.any_eq_true]; exact ⟨s[k], by rw [Array.mem_toList_iff]; exact Array.getElem_mem h, by simp [e]⟩
theorem zmG {s : ByteArray} {b : UInt8} (h : ∀ j (hj : j < s.size), s[j] ≠ b) : zdA s b = false := by
 unfold zdA; rw [List.any_eq_false]; intro x hx; rw [Array.mem_toList_iff] at hx; obtain ⟨j, hj, rfl⟩ := Array.getElem_of_mem hx; have := h j hj; simp only [beq_iff_eq]
 exact this
theorem zdO (s : ByteArray) (b : UInt8) (w : World) (hs : s.size <= maxLen) :
  Calls Tryz.prog 36 #[.string s, .int .u8 b.toNat] w fun e w' => e = .returned (.bool (zdA s b)) /\ w = w' := by
 unfold maxLen at hs; go_enter Tryz.func36, Tryz.ntmps36
 go_wp2_with fail
 go_loop [5] (fun i => ∃ k : Nat, k <= s.size /\ i = .int .i64 k /\ ∀ j (hj : j < s.size), j < k -> s[j] ≠ b) (fun i => s.size - (intOf i).toNat)
 case atStart => exact ⟨0, Nat.zero_le _, rfl, fun j hj h => absurd h yO⟩
 case round =>
  obtain ⟨k, hk, rfl, hno⟩ := hrel; have Hno := yq hno; clear hno; by_cases hlt : k < s.size
  · by_cases hp : s[k] = b
    · have Hp := yq hp
      have g : ((s[k].toNat : Int) == (b.toNat : Int)) = true := by rw [hp]; simp
      clear hp; go_wp2
      go_ret
      exact ⟨zaf (zn5 hlt Hp.o).symm, rfl⟩
    · have Hp := yq hp
      have g : ((s[k].toNat : Int) == (b.toNat : Int)) = false := by
       rw [beq_eq_false_iff_ne]; intro h; exact hp (UInt8.toNat_inj.1 yO)
      clear hp; go_wp2
      go_round
      case rel =>
       refine ⟨k + 1, by omega, by go_num, fun j hj h => ?_⟩
       by_cases e : j = k
       · subst e; exact Hp.o
       · exact Hno.o j hj yO
      case measure => simp [intOf]; omega
  · go_wp2
    go_ret
    exact ⟨zaf (zmG (fun j hj => Hno.o j hj yO)).symm, rfl⟩
theorem ziy (n : Int) (b : Bool) (w : World) :
  Calls Tryz.prog 67 #[.int .i64 n, .bool b] w fun r w' => r = .returned (.bool (zaK n b)) /\ w = w' := by
 cases b
 · go_enter Tryz.func67, Tryz.ntmps67
   go_wp2_with fail
   go_ret
   exact ⟨rfl, rfl⟩
 · go_enter Tryz.func67, Tryz.ntmps67
   go_wp2_with fail
   refine (zdF _ _ _ _).mono ?_
   rintro r w' ⟨rfl, rfl⟩; go_wp2_with fail
   go_ret
   exact ⟨rfl, rfl⟩
structure zjl (w : World) (B b : Nat) (e : zam) (vR : Value) : Prop where
 box : znI w b (.int .i64 e.kind) (.int .i64 e.i) (.int .i64 e.j) (.int .i64 e.k) vR (.string e.map)
 lt : b < B
 sl : Sl zar w B vR e.part
theorem zjl.up {w w' : World} {b : Nat} {e : zam} {vR : Value} (h : zjl w w.heap.size b e vR) (hb : Below w.heap.size w w') : zjl w' w'.heap.size b e vR :=
 ⟨h.box.up hb h.lt, Nat.lt_of_lt_of_le h.lt hb.size, h.sl.up hb⟩
def zn6 (k : Int) (w : World) (e : Ending) (w' : World) : Prop :=
 ∃ s, e = .returned (.tuple #[.agg #[.string s, .bool (inR k 1 7 && zbq k), .bool (inR k 1 7 && zbu k), .bool (k == 1), .bool (k == 7)], .bool (inR k 1 7)]) /\ Below w.heap.size w w'
theorem zlw (k : Int) (w : World) : Calls Tryz.prog 42 #[.int .i64 k] w (zn6 k w) := by
 by_cases h : 1 <= k /\ k <= 7
 · have : k = 1 \/ k = 2 \/ k = 3 \/ k = 4 \/ k = 5 \/ k = 6 \/ k = 7 := by omega
   rcases this with rfl | rfl | rfl | rfl | rfl | rfl | rfl
   · clear h
     go_enter Tryz.func42, Tryz.ntmps42
     go_wp2
     refine bodyPost_ret (v := .tuple #[.agg #[.string ⟨#[105, 110, 115, 101, 114, 116]⟩, .bool false, .bool false, .bool true, .bool false], .bool true]) (by simp [results, Tryz.results42, go_sem]) rfl ⟨_, rfl, ?_⟩
     exact yb
   · clear h
     go_enter Tryz.func42, Tryz.ntmps42
     go_wp2
     refine bodyPost_ret (v := .tuple #[.agg #[.string ⟨#[100, 101, 108, 101, 116, 101]⟩, .bool true, .bool false, .bool false, .bool false], .bool true]) (by simp [results, Tryz.results42, go_sem]) rfl ⟨_, rfl, ?_⟩
     exact yb
   · clear h
     go_enter Tryz.func42, Tryz.ntmps42
     go_wp2
     refine bodyPost_ret (v := .tuple #[.agg #[.string ⟨#[99, 111, 112, 121]⟩, .bool true, .bool true, .bool false, .bool false], .bool true]) (by simp [results, Tryz.results42, go_sem]) rfl ⟨_, rfl, ?_⟩
     exact yb
   · clear h
     go_enter Tryz.func42, Tryz.ntmps42
     go_wp2
     refine bodyPost_ret (v := .tuple #[.agg #[.string ⟨#[109, 111, 118, 101]⟩, .bool true, .bool true, .bool false, .bool false], .bool true]) (by simp [results, Tryz.results42, go_sem]) rfl ⟨_, rfl, ?_⟩
     exact yb
   · clear h
     go_enter Tryz.func42, Tryz.ntmps42
     go_wp2
     refine bodyPost_ret (v := .tuple #[.agg #[.string ⟨#[116, 117, 114, 110]⟩, .bool true, .bool false, .bool false, .bool false], .bool true]) (by simp [results, Tryz.results42, go_sem]) rfl ⟨_, rfl, ?_⟩
     exact yb
   · clear h
     go_enter Tryz.func42, Tryz.ntmps42
     go_wp2
     refine bodyPost_ret (v := .tuple #[.agg #[.string ⟨#[114, 101, 112, 101, 97, 116]⟩, .bool true, .bool true, .bool false, .bool false], .bool true]) (by simp [results, Tryz.results42, go_sem]) rfl ⟨_, rfl, ?_⟩
     exact yb
   · clear h
     go_enter Tryz.func42, Tryz.ntmps42
     go_wp2
     refine bodyPost_ret (v := .tuple #[.agg #[.string ⟨#[109, 97, 112]⟩, .bool true, .bool false, .bool false, .bool true], .bool true]) (by simp [results, Tryz.results42, go_sem]) rfl ⟨_, rfl, ?_⟩
     exact yb
 · have h1 : (k == 1) = false := by simp; omega
   have h2 : (k == 2) = false := by simp; omega
   have h3 : (k == 3) = false := by simp; omega
   have h4 : (k == 4) = false := by simp; omega
   have h5 : (k == 5) = false := by simp; omega
   have h6 : (k == 6) = false := by simp; omega
   have h7 : (k == 7) = false := by simp; omega
   have h8 : inR k 1 7 = false := by simp [inR]; omega
   have H := yq h8; have H1 := yq h1; have H7 := yq h7; clear h h8; go_enter Tryz.func42, Tryz.ntmps42
   go_wp2
   refine bodyPost_ret (v := .tuple #[.agg #[.string ⟨#[]⟩, .bool false, .bool false, .bool false, .bool false], .bool false]) (by simp [results, Tryz.results42, go_sem]) rfl ⟨_, by rw [H.o, H1.o, H7.o]; rfl, ?_⟩
   exact yb
theorem zmH (s : ByteArray) (w : World) (hs : s.size <= maxLen) :
  Calls Tryz.prog 77 #[.string s] w fun e w' => e = .returned (.bool (s.size == 4 && zaB s)) /\ w = w' := by
 by_cases h : s.size = 4
 · have g : ((s.size : Int) == 4) = true := by simp [h]
   have H := yq h; clear h; go_enter Tryz.func77, Tryz.ntmps77
   go_wp2_with fail
   refine (zc2 _ _ hs).mono ?_
   rintro e w' ⟨rfl, rfl⟩; go_wp2
   go_ret
   exact ⟨zaf (by simp [H.o]), rfl⟩
 · have g : ((s.size : Int) == 4) = false := by rw [beq_eq_false_iff_ne]; omega
   have H := yq h; clear h; go_enter Tryz.func77, Tryz.ntmps77
   go_wp2
   go_ret
   exact ⟨zaf (by simp [H.o]), rfl⟩
theorem ziz {e : zam} (hk : inR e.kind 1 7 = true) : zat e = (inR e.i 0 1000000000000000 && zaK e.j (zbq e.kind) && zaK e.k (zbu e.kind) && !(zbq e.kind && decide (e.j < e.i)) &&
  (decide (0 < e.part.length) == (e.kind == 1)) && zag e.part && (if e.kind == 7 then e.map.size == 4 && zaB e.map else e.map.size == 0)) := by
 unfold zat; rw [hk]; simp
theorem zkV {n : Int} {b : Bool} (h : inR n 0 1000000000000000 = false) : zaK n b = false := by
 cases b
 · have : ¬ (n = 0) := by rintro rfl; simp [inR] at h
   simpa [zaK] using this
 · simpa [zaK] using h
theorem zbk (s : ByteArray) : s.toList.isEmpty = (s.size == 0) := by
 rw [ByteArray.toList_eq]; obtain ⟨⟨l⟩⟩ := s; cases l with
 | nil => rfl
 | cons a l => rfl
theorem zcq {e : zam} (h : ¬ 0 < e.part.length) : zag e.part = true := by
 have : e.part = [] := yn yO; rw [this]; decide
theorem zcf (v : Value) (e : zam) (w : World) (h : ze0 w w.heap.size v e) (hn : e.part.length <= 1099511627776) (hm : e.map.size <= maxLen) :
  Calls Tryz.prog 44 #[v] w fun r w' => r = .returned (.bool (zat e)) /\ Below w.heap.size w w' := by
 obtain ⟨vR, rfl, hR⟩ := h; have HR := yq hR; obtain ⟨AR, cR, rfl, _⟩ := hR; go_enter Tryz.func44, Tryz.ntmps44
 go_wp2_with fail
 refine (zlw _ _).mono ?_
 rintro r w1 ⟨s, rfl, hb1⟩; have z1 : w.heap.size < w1.heap.size := Nat.lt_of_lt_of_le yS hb1.size; have X1 := yq (znI.new hb1); have B1 := yq (((Below.refl w.heap.size w).alloc yL _).trans (hb1.mono yS)); clear hb1; obtain ⟨x0, x1, x2, x3, x4, x5⟩ := X1.o; by_cases hk : inR e.kind 1 7 = true
 · rw [hk, Bool.true_and, Bool.true_and]
   have HE := yq (ziz hk)
   have H4 : (zbq e.kind = false /\ zbu e.kind = false /\ (e.kind == 1) = true /\ (e.kind == 7) = false) \/ (zbq e.kind = true /\ zbu e.kind = false /\ (e.kind == 1) = false /\ (e.kind == 7) = false) \/ (zbq e.kind = true /\ zbu e.kind = true /\ (e.kind == 1) = false /\ (e.kind == 7) = false) \/ (zbq e.kind = true /\ zbu e.kind = false /\ (e.kind == 1) = false /\ (e.kind == 7) = true) := by
    rcases zeo hk with h | h | h | h | h | h | h <;> rw [h] <;> simp [zbq, zbu]
   have HK := yq hk; clear hk; have HV : ∀ o, Sl zar (w1.alloc o) (w1.alloc o).heap.size (.slice AR e.part.length cR) e.part := fun o => ((HR.o.below B1.o).below ((Below.refl _ _).alloc yO o)).le (by simp; omega); have HV := yq HV; go_wp2_with fail
   by_cases c1 : inR e.i 0 1000000000000000 = true
   · have C1 := yq c1
     clear c1; refine (zc5 _ _ _ _ C1.o).mono ?_
     rintro r w' ⟨rfl, rfl⟩; go_wp2_with fail
     by_cases c2 : inR e.j 0 1000000000000000 = true
     · have C2 := yq c2
       clear c2; refine (zc5 _ _ _ _ C2.o).mono ?_
       rintro r w' ⟨rfl, rfl⟩; go_wp2_with fail
       by_cases c3 : inR e.k 0 1000000000000000 = true
       · have C3 := yq c3
         clear c3; refine (zc5 _ _ _ _ C3.o).mono ?_
         rintro r w' ⟨rfl, rfl⟩; rcases H4 with ⟨u1, u2, u3, u4⟩ | ⟨u1, u2, u3, u4⟩ | ⟨u1, u2, u3, u4⟩ | ⟨u1, u2, u3, u4⟩
         · rw [u1, u2, u3, u4] at HE
           rw [u1, u2, u3, u4]; have U := yq (And.intro u1 (And.intro u2 (And.intro u3 u4))); clear u1 u2 u3 u4; by_cases cj' : ¬ (e.j = 0)
           · have G := yq cj'
             have g0 : (e.j != 0) = true := by simp [cj']
             clear cj'; go_wp2_with fail
             go_ret
             exact ⟨zaf (by rw [HE.o]; simp [zaK, C1.o, G.o]), (have yx := B1.o; yb)⟩
           · have cj : e.j = 0 := Decidable.not_not.1 cj'
             have Gcj := yq cj; have gcj : (e.j != 0) = false := by simp [cj]
             clear cj' cj; by_cases ck' : ¬ (e.k = 0)
             · have G := yq ck'
               have g0 : (e.k != 0) = true := by simp [ck']
               clear ck'; go_wp2_with fail
               go_ret
               exact ⟨zaf (by rw [HE.o]; simp [zaK, C1.o, G.o]), (have yx := B1.o; yb)⟩
             · have ck : e.k = 0 := Decidable.not_not.1 ck'
               have Gck := yq ck; have gck : (e.k != 0) = false := by simp [ck]
               clear ck' ck; by_cases cl' : ¬ (0 < e.part.length)
               · have G := yq cl'
                 have g0 : e.part.length = 0 := by omega
                 go_wp2_with fail
                 go_ret
                 exact ⟨zaf (by rw [HE.o]; simp [zaK, C1.o, G.o]), (have yx := B1.o; yb)⟩
               · have cl : 0 < e.part.length := Decidable.not_not.1 cl'
                 have Gcl := yq cl; clear cl'; go_wp2_with fail
                 refine (zbG _ e.part _ (HV.o _) hn).mono ?_
                 rintro r w2 ⟨rfl, hb2⟩; have B2 := yq (B1.o.trans ((((Below.refl w1.heap.size w1).alloc yL _).trans (hb2.mono yS)).mono yO)); have x5 := (hb2.cell (p := ⟨w.heap.size, 5, none⟩) (by simp; omega)).trans ((((Below.refl w1.heap.size w1).alloc yL _).cell (p := ⟨w.heap.size, 5, none⟩) z1).trans X1.o.2.2.2.2.2); have y4 := (hb2.cell (p := ⟨w1.heap.size, 4, none⟩) yS).trans (show _ = some (Value.bool false) by simp [go_sem]); clear hb2 x0 x1 x2 x3 x4; by_cases cg : zag e.part = true
                 · have Gcg := yq cg
                   by_cases cm : e.map.size = 0
                   · have Gcm := yq cm
                     have gm := zbk e.map; rw [show (e.map.size == 0) = true by simp [cm]] at gm; clear cm; go_wp2_with fail
                     go_ret
                     exact ⟨zaf (by rw [HE.o]; simp [zaK, C1.o, Gcj.o, Gck.o, Gcl.o, Gcg.o, Gcm.o]), (have yx := B2.o; yb)⟩
                   · have Gcm := yq cm
                     have gm := zbk e.map; rw [show (e.map.size == 0) = false by simp [cm]] at gm; clear cm; go_wp2_with fail
                     go_ret
                     exact ⟨zaf (by rw [HE.o]; simp [zaK, C1.o, Gcj.o, Gck.o, Gcl.o, Gcg.o, Gcm.o]), (have yx := B2.o; yb)⟩
                 · have cg' : zag e.part = false := by simpa using cg
                   have Gcg := yq cg'; clear cg; go_wp2_with fail
                   go_ret
                   exact ⟨zaf (by rw [HE.o]; simp [zaK, C1.o, Gcg.o]), (have yx := B2.o; yb)⟩
         · rw [u1, u2, u3, u4] at HE
           rw [u1, u2, u3, u4]; have U := yq (And.intro u1 (And.intro u2 (And.intro u3 u4))); clear u1 u2 u3 u4; by_cases ci : e.j < e.i
           · have G := yq ci
             go_wp2_with fail
             go_ret
             exact ⟨zaf (by rw [HE.o]; simp [zaK, C1.o, C2.o, G.o]), (have yx := B1.o; yb)⟩
           · have c' : e.i <= e.j := by omega
             have Gci := yq ci; by_cases ck' : ¬ (e.k = 0)
             · have G := yq ck'
               have g0 : (e.k != 0) = true := by simp [ck']
               clear ck'; go_wp2_with fail
               go_ret
               exact ⟨zaf (by rw [HE.o]; simp [zaK, C1.o, C2.o, G.o]), (have yx := B1.o; yb)⟩
             · have ck : e.k = 0 := Decidable.not_not.1 ck'
               have Gck := yq ck; have gck : (e.k != 0) = false := by simp [ck]
               clear ck' ck; by_cases cl' : 0 < e.part.length
               · have G := yq cl'
                 go_wp2_with fail
                 go_ret
                 exact ⟨zaf (by rw [HE.o]; simp [zaK, C1.o, C2.o, G.o]), (have yx := B1.o; yb)⟩
               · have cl : e.part.length = 0 := by omega
                 have Gcl := yq cl; have Gcg := yq (zcq cl'); clear cl'; by_cases cm : e.map.size = 0
                 · have Gcm := yq cm
                   have gm := zbk e.map; rw [show (e.map.size == 0) = true by simp [cm]] at gm; clear cm; go_wp2_with fail
                   go_ret
                   exact ⟨zaf (by rw [HE.o]; simp [zaK, C1.o, C2.o, Gci.o, Gck.o, Gcl.o, Gcg.o, Gcm.o]), (have yx := B1.o; yb)⟩
                 · have Gcm := yq cm
                   have gm := zbk e.map; rw [show (e.map.size == 0) = false by simp [cm]] at gm; clear cm; go_wp2_with fail
                   go_ret
                   exact ⟨zaf (by rw [HE.o]; simp [zaK, C1.o, C2.o, Gci.o, Gck.o, Gcl.o, Gcg.o, Gcm.o]), (have yx := B1.o; yb)⟩
         · rw [u1, u2, u3, u4] at HE
           rw [u1, u2, u3, u4]; have U := yq (And.intro u1 (And.intro u2 (And.intro u3 u4))); clear u1 u2 u3 u4; by_cases ci : e.j < e.i
           · have G := yq ci
             go_wp2_with fail
             go_ret
             exact ⟨zaf (by rw [HE.o]; simp [zaK, C1.o, C2.o, C3.o, G.o]), (have yx := B1.o; yb)⟩
           · have c' : e.i <= e.j := by omega
             have Gci := yq ci; by_cases cl' : 0 < e.part.length
             · have G := yq cl'
               go_wp2_with fail
               go_ret
               exact ⟨zaf (by rw [HE.o]; simp [zaK, C1.o, C2.o, C3.o, G.o]), (have yx := B1.o; yb)⟩
             · have cl : e.part.length = 0 := by omega
               have Gcl := yq cl; have Gcg := yq (zcq cl'); clear cl'; by_cases cm : e.map.size = 0
               · have Gcm := yq cm
                 have gm := zbk e.map; rw [show (e.map.size == 0) = true by simp [cm]] at gm; clear cm; go_wp2_with fail
                 go_ret
                 exact ⟨zaf (by rw [HE.o]; simp [zaK, C1.o, C2.o, C3.o, Gci.o, Gcl.o, Gcg.o, Gcm.o]), (have yx := B1.o; yb)⟩
               · have Gcm := yq cm
                 have gm := zbk e.map; rw [show (e.map.size == 0) = false by simp [cm]] at gm; clear cm; go_wp2_with fail
                 go_ret
                 exact ⟨zaf (by rw [HE.o]; simp [zaK, C1.o, C2.o, C3.o, Gci.o, Gcl.o, Gcg.o, Gcm.o]), (have yx := B1.o; yb)⟩
         · rw [u1, u2, u3, u4] at HE
           rw [u1, u2, u3, u4]; have U := yq (And.intro u1 (And.intro u2 (And.intro u3 u4))); clear u1 u2 u3 u4; by_cases ci : e.j < e.i
           · have G := yq ci
             go_wp2_with fail
             go_ret
             exact ⟨zaf (by rw [HE.o]; simp [zaK, C1.o, C2.o, G.o]), (have yx := B1.o; yb)⟩
           · have c' : e.i <= e.j := by omega
             have Gci := yq ci; by_cases ck' : ¬ (e.k = 0)
             · have G := yq ck'
               have g0 : (e.k != 0) = true := by simp [ck']
               clear ck'; go_wp2_with fail
               go_ret
               exact ⟨zaf (by rw [HE.o]; simp [zaK, C1.o, C2.o, G.o]), (have yx := B1.o; yb)⟩
             · have ck : e.k = 0 := Decidable.not_not.1 ck'
               have Gck := yq ck; have gck : (e.k != 0) = false := by simp [ck]
               clear ck' ck; by_cases cl' : 0 < e.part.length
               · have G := yq cl'
                 go_wp2_with fail
                 go_ret
                 exact ⟨zaf (by rw [HE.o]; simp [zaK, C1.o, C2.o, G.o]), (have yx := B1.o; yb)⟩
               · have cl : e.part.length = 0 := by omega
                 have Gcl := yq cl; have Gcg := yq (zcq cl'); clear cl'; go_wp2_with fail
                 refine (zmH _ _ hm).mono ?_
                 rintro r w2 ⟨rfl, rfl⟩; have gb : ∃ b, (e.map.size == 4 && zaB e.map) = b := ⟨_, rfl⟩
                 obtain ⟨b, gb⟩ := gb; have Gb := yq gb; rw [gb]; clear gb; cases b
                 · go_wp2_with fail
                   go_ret
                   exact ⟨zaf (by rw [HE.o, Gb.o]; simp [zaK, C1.o, C2.o, Gck.o, Gcl.o, Gcg.o]), (have yx := B1.o; yb)⟩
                 · go_wp2_with fail
                   go_ret
                   exact ⟨zaf (by rw [HE.o, Gb.o]; simp [zaK, C1.o, C2.o, Gci.o, Gck.o, Gcl.o, Gcg.o]), (have yx := B1.o; yb)⟩
       · have c3' : inR e.k 0 1000000000000000 = false := by simpa using c3
         have C3 := yq c3'; clear c3 c3'; refine (zft _ _ _ _ C3.o).mono ?_
         rintro r w' ⟨rfl, rfl⟩; go_wp2_with fail
         go_ret
         exact ⟨zaf (by rw [HE.o, zkV C3.o]; simp), (have yx := B1.o; yb)⟩
     · have c2' : inR e.j 0 1000000000000000 = false := by simpa using c2
       have C2 := yq c2'; clear c2 c2'; refine (zft _ _ _ _ C2.o).mono ?_
       rintro r w' ⟨rfl, rfl⟩; go_wp2_with fail
       go_ret
       exact ⟨zaf (by rw [HE.o, zkV C2.o]; simp), (have yx := B1.o; yb)⟩
   · have c1' : inR e.i 0 1000000000000000 = false := by simpa using c1
     have C1 := yq c1'; clear c1 c1'; refine (zft _ _ _ _ C1.o).mono ?_
     rintro r w' ⟨rfl, rfl⟩; go_wp2_with fail
     go_ret
     exact ⟨zaf (by rw [HE.o, C1.o]; simp), (have yx := B1.o; yb)⟩
 · have hk' : inR e.kind 1 7 = false := by simpa using hk
   have HK := yq hk'; rw [hk']; clear hk hk'; go_wp2_with fail
   go_ret
   exact ⟨zaf (by simp [zat, HK.o]), (have yx := B1.o; yb)⟩
theorem zn7 (v : Value) (e : zam) (n : Int) (w : World) (h : ze0 w w.heap.size v e) (hk : inR e.kind 1 7 = true) (hij : 2 <= e.kind -> e.i <= e.j) :
  Calls Tryz.prog 63 #[v, .int .i64 n] w fun r w' => r = .returned (.bool (zbp e n)) /\ Below w.heap.size w w' := by
 obtain ⟨k, i, j, kk, part, map⟩ := e; obtain ⟨vR, rfl, hR⟩ := h; obtain ⟨AR, cR, rfl, _⟩ := hR; simp only at hk hij
 rcases zeo hk with rfl | rfl | rfl | rfl | rfl | rfl | rfl <;>
 · have Hij := yq hij
   clear hij hk; go_enter Tryz.func63, Tryz.ntmps63
   go_wp2
   all_goals
    go_ret
    refine ⟨zaf ?_, yb⟩
    have := Hij.o; rw [Bool.eq_iff_iff]; simp [zbp] at *
    try omega
theorem zaw (s : ByteArray) (n : Int) (b : UInt8) (r : Bool) (hs : s.size <= maxLen) (hn : n = b.toNat) (h : zdA s b = r) :
  yh (∀ w, Calls Tryz.prog 36 #[.string s, .int .u8 n] w fun e w' => e = .returned (.bool r) /\ w = w') := by
 subst h hn; exact fun w => zdO s b w hs
theorem zaj (n : Int) (b r : Bool) (h : zaK n b = r) :
  yh (∀ w, Calls Tryz.prog 67 #[.int .i64 n, .bool b] w fun e w' => e = .returned (.bool r) /\ w = w') := by
 subst h; exact fun w => ziy n b w
theorem ze7 {wr W W2 : World} {p : Addr} {a : Value} (h : Below wr.heap.size wr W /\ W.cell? p = some a) (h2 : Below W.heap.size W W2) (hp : p.block < wr.heap.size) : Below wr.heap.size wr W2 /\ W2.cell? p = some a :=
 ⟨h.1.trans (h2.mono h.1.size), (h2.cell (Nat.lt_of_lt_of_le hp h.1.size)).trans h.2⟩
theorem zmI (b : Nat) (vR : Value) (e : zam) (w : World) (h : zjl w w.heap.size b e vR) (hsm : zaY e.part) (hn : e.part.length <= 1099511627776) (hm : e.map.size <= maxLen) :
  Calls Tryz.prog 32 #[.pointer (some ⟨b, 0, none⟩)] w fun r w' => r = .returned (.bool (zat e)) /\ Below w.heap.size w w' := by
 have HH := yq h; obtain ⟨⟨x0, x1, x2, x3, x4, x5⟩, hlt, hR⟩ := h; have HR := yq hR; obtain ⟨AR, cR, rfl, _⟩ := hR; by_cases hk : inR e.kind 1 7 = true
 · have HK := yq hk
   have HE := yq (ziz hk); obtain ⟨u1, u2, u3, u4, u5⟩ := zgC hk; obtain ⟨S, hS⟩ : ∃ S, zcN e.kind = S := ⟨_, rfl⟩
   rw [hS] at u1 u2 u3 u4 u5; have HS := yq hS; have hSm : S.size <= maxLen := by unfold maxLen; omega
   have HU := yq (And.intro u1 (And.intro u2 (And.intro u3 u4)))
   have H4 : (zbq e.kind = false /\ zbu e.kind = false /\ (e.kind == 1) = true /\ (e.kind == 7) = false) \/ (zbq e.kind = true /\ zbu e.kind = false /\ (e.kind == 1) = false /\ (e.kind == 7) = false) \/ (zbq e.kind = true /\ zbu e.kind = true /\ (e.kind == 1) = false /\ (e.kind == 7) = false) \/ (zbq e.kind = true /\ zbu e.kind = false /\ (e.kind == 1) = false /\ (e.kind == 7) = true) := by
    rcases zeo hk with h | h | h | h | h | h | h <;> rw [h] <;> simp [zbq, zbu]
   clear hk hS u1 u2 u3 u4 u5; go_enter Tryz.func32, Tryz.ntmps32
   go_wp2_with fail
   refine (zi5 _ _ _ _ HK.o).mono ?_
   rintro r w' ⟨rfl, rfl⟩; go_wp2_with fail
   refine (zd4 _ _ HK.o).mono ?_
   rintro r w1 ⟨rfl, hb1⟩; rw [HS.o]; have HH1 := yq (HH.o.up hb1); have HB1 := yq hb1; have z1 : b < w1.heap.size := Nat.lt_of_lt_of_le hlt hb1.size; clear hb1 x0 x1 x2 x3 x4 x5; obtain ⟨x0, x1, x2, x3, x4, x5⟩ := HH1.o.box; go_wp2_with fail
   rcases H4 with ⟨u1, u2, u3, u4⟩ | ⟨u1, u2, u3, u4⟩ | ⟨u1, u2, u3, u4⟩ | ⟨u1, u2, u3, u4⟩
   · rw [u1, u2, u3, u4] at HE HU
     obtain ⟨hJ', hK', hP', hM'⟩ := HU.o; have CJ := zaw S 74 74 _ hSm rfl hJ'; have CK := zaw S 75 75 _ hSm rfl hK'; have CP := zaw S 80 80 _ hSm rfl hP'; have CM := zaw S 77 77 _ hSm rfl hM'; clear hJ' hK' hP' hM'; clear u1 u2 u3 u4; by_cases ni : zaK e.i true = true
     · have Ni := yq ni
       have Di := zaj e.i true _ ni; clear ni; by_cases nj : zaK e.j false = true
       · have Nj := yq nj
         have Dj := zaj e.j _ _ nj; clear nj; by_cases nk : zaK e.k false = true
         · have Nk := yq nk
           have Dk := zaj e.k _ _ nk; clear nk
           go_quiet (first
            | (go_at_call 36; first | with_reducible exact zab (CJ.o _) | with_reducible exact zab (CK.o _))
            | (go_at_call 67; first | with_reducible exact zab (Di.o _) | with_reducible exact zab (Dj.o _) | with_reducible exact zab (Dk.o _)))
           go_wp2_with fail
           have Ni2 := yq (show inR e.i 0 1000000000000000 = true from Ni.o); have HH2 := yq (HH1.o.up (zal (Below.refl w1.heap.size w1) nq)); have HB2 := yq (HB1.o.trans ((zal (Below.refl w1.heap.size w1) nq).mono HB1.o.size)); clear x0 x1 x2 x3 x4 x5 z1; generalize w1.drewN nq = w2 at *; have z2 : b < w2.heap.size := HH2.o.lt; obtain ⟨x0, x1, x2, x3, x4, x5⟩ := HH2.o.box; have KB := And.intro (Below.drew (Below.refl w2.heap.size w2)) (show w2.drew.cell? ⟨b, 4, none⟩ = _ from x4); have Y4 := yq KB.2; have Z4 := yq (show b < w2.drew.heap.size from z2); have R4 := yq (HH2.o.sl.up (Below.drew (Below.refl w2.heap.size w2))); by_cases cl : 0 < e.part.length
           · have Cl := yq cl
             have cl' : decide (0 < e.part.length) = true := by simp [cl]
             by_cases cg : zag e.part = true
             · have Cg := yq cg
               go_region_held3 (fun w' => Below w2.heap.size w2 w' /\ w'.cell? ⟨b, 4, none⟩ = some (.slice AR e.part.length cR))
                (first | (with_reducible exact KB) | (with_reducible exact ze7 KB hb3 z2))
                (first
                  | (go_at_call 36; refine (CP.o _).mono ?_; rintro r w' ⟨rfl, rfl⟩)
                  | (go_at_call 19; refine (zaZ b 4 _ e.part _ Y4.o Z4.o R4.o hsm).mono ?_; rintro r w3 ⟨rfl, hb3⟩))
               have HB3 := yq (HB2.o.trans (((Below.drew (Below.refl w2.heap.size w2)).trans hb3).mono HB2.o.size)); have y5 := (hb3.cell (p := ⟨b, 5, none⟩) z2).trans (show w2.drew.cell? ⟨b, 5, none⟩ = _ from x5); clear KB hb3 x0 x1 x2 x3 x4 x5; go_wp2_with fail
               refine (CM.o _).mono ?_
               rintro r w' ⟨rfl, rfl⟩; by_cases cm : e.map.size = 0
               · have Cm := yq cm
                 have gm := zbk e.map; rw [show (e.map.size == 0) = true by simp [cm]] at gm; clear cm; go_wp2_with fail
                 go_ret
                 exact ⟨zaf (by rw [HE.o]; simp [Ni2.o, Nj.o, Nk.o, Cl.o, Cg.o, Cm.o]), (have yx := HB3.o; yb)⟩
               · have Cm := yq cm
                 have gm := zbk e.map; rw [show (e.map.size == 0) = false by simp [cm]] at gm; clear cm; go_wp2_with fail
                 go_ret
                 exact ⟨zaf (by rw [HE.o]; simp [Ni2.o, Nj.o, Nk.o, Cl.o, Cg.o, Cm.o]), (have yx := HB3.o; yb)⟩
             · have cg' : zag e.part = false := by simpa using cg
               have Cg := yq cg'; clear cg
               go_region_held3 (fun w' => Below w2.heap.size w2 w' /\ w'.cell? ⟨b, 4, none⟩ = some (.slice AR e.part.length cR))
                (first | (with_reducible exact KB) | (with_reducible exact ze7 KB hb3 z2))
                (first
                  | (go_at_call 36; refine (CP.o _).mono ?_; rintro r w' ⟨rfl, rfl⟩)
                  | (go_at_call 19; refine (zaZ b 4 _ e.part _ Y4.o Z4.o R4.o hsm).mono ?_; rintro r w3 ⟨rfl, hb3⟩))
               have HB3 := yq (HB2.o.trans (((Below.drew (Below.refl w2.heap.size w2)).trans hb3).mono HB2.o.size)); have y5 := (hb3.cell (p := ⟨b, 5, none⟩) z2).trans (show w2.drew.cell? ⟨b, 5, none⟩ = _ from x5); clear KB hb3 x0 x1 x2 x3 x4 x5; go_wp2_with fail
               go_ret
               exact ⟨zaf (by rw [HE.o]; simp [Cg.o]), (have yx := HB3.o; yb)⟩
           · have hL : e.part.length = 0 := by omega
             have Cl := yq cl; rw [hL] at KB Y4 R4 x4; clear cl hL; go_quiet ((go_at_call 36; with_reducible exact zab (CP.o _)))
             have HB3 := yq (HB2.o.trans ((zal (Below.refl w2.heap.size w2) nq).mono HB2.o.size)); go_wp2_with fail
             go_ret
             exact ⟨zaf (by rw [HE.o]; simp [Cl.o]), (have yx := HB3.o; yb)⟩
         · have nk' : zaK e.k false = false := by simpa using nk
           have Nk := yq nk'; have Dk := zaj e.k _ _ nk'; clear nk nk'
           go_quiet (first
            | (go_at_call 36; first | with_reducible exact zab (CJ.o _) | with_reducible exact zab (CK.o _))
            | (go_at_call 67; first | with_reducible exact zab (Di.o _) | with_reducible exact zab (Dj.o _) | with_reducible exact zab (Dk.o _)))
           go_wp2_with fail
           go_ret
           exact ⟨zaf (by rw [HE.o]; simp [Nk.o]), (have yx := HB1.o; yb)⟩
       · have nj' : zaK e.j false = false := by simpa using nj
         have Nj := yq nj'; have Dj := zaj e.j _ _ nj'; clear nj nj'
         go_quiet (first
          | (go_at_call 36; first | with_reducible exact zab (CJ.o _) | with_reducible exact zab (CK.o _))
          | (go_at_call 67; first | with_reducible exact zab (Di.o _) | with_reducible exact zab (Dj.o _) | with_reducible exact zab (Dk.o _)))
         go_wp2_with fail
         go_ret
         exact ⟨zaf (by rw [HE.o]; simp [Nj.o]), (have yx := HB1.o; yb)⟩
     · have ni' : zaK e.i true = false := by simpa using ni
       have Ni := yq ni'; have Ni2 := yq (show inR e.i 0 1000000000000000 = false from ni'); have Di := zaj e.i true _ ni'; clear ni ni'
       go_quiet (first
        | (go_at_call 36; first | with_reducible exact zab (CJ.o _) | with_reducible exact zab (CK.o _))
        | (go_at_call 67; first | with_reducible exact zab (Di.o _) | with_reducible exact zab (Dj.o _) | with_reducible exact zab (Dk.o _)))
       go_wp2_with fail
       go_ret
       exact ⟨zaf (by rw [HE.o]; simp [Ni2.o]), (have yx := HB1.o; yb)⟩
   · rw [u1, u2, u3, u4] at HE HU
     obtain ⟨hJ', hK', hP', hM'⟩ := HU.o; have CJ := zaw S 74 74 _ hSm rfl hJ'; have CK := zaw S 75 75 _ hSm rfl hK'; have CP := zaw S 80 80 _ hSm rfl hP'; have CM := zaw S 77 77 _ hSm rfl hM'; clear hJ' hK' hP' hM'; clear u1 u2 u3 u4; by_cases ni : zaK e.i true = true
     · have Ni := yq ni
       have Di := zaj e.i true _ ni; clear ni; by_cases nj : zaK e.j true = true
       · have Nj := yq nj
         have Dj := zaj e.j _ _ nj; clear nj; by_cases nk : zaK e.k false = true
         · have Nk := yq nk
           have Dk := zaj e.k _ _ nk; clear nk; by_cases nij : e.j < e.i
           · have Nij := yq nij
             go_quiet (first
              | (go_at_call 36; first | with_reducible exact zab (CJ.o _) | with_reducible exact zab (CK.o _))
              | (go_at_call 67; first | with_reducible exact zab (Di.o _) | with_reducible exact zab (Dj.o _) | with_reducible exact zab (Dk.o _)))
             go_wp2_with fail
             go_ret
             exact ⟨zaf (by rw [HE.o]; simp [Nij.o]), (have yx := HB1.o; yb)⟩
           · have nij' : decide (e.j < e.i) = false := by simp; omega
             have Nij := yq nij'
             go_quiet (first
              | (go_at_call 36; first | with_reducible exact zab (CJ.o _) | with_reducible exact zab (CK.o _))
              | (go_at_call 67; first | with_reducible exact zab (Di.o _) | with_reducible exact zab (Dj.o _) | with_reducible exact zab (Dk.o _)))
             go_wp2_with fail
             have Ni2 := yq (show inR e.i 0 1000000000000000 = true from Ni.o); have HH2 := yq (HH1.o.up (zal (Below.refl w1.heap.size w1) nq)); have HB2 := yq (HB1.o.trans ((zal (Below.refl w1.heap.size w1) nq).mono HB1.o.size)); clear x0 x1 x2 x3 x4 x5 z1; generalize w1.drewN nq = w2 at *; have z2 : b < w2.heap.size := HH2.o.lt; obtain ⟨x0, x1, x2, x3, x4, x5⟩ := HH2.o.box; have KB := And.intro (Below.drew (Below.refl w2.heap.size w2)) (show w2.drew.cell? ⟨b, 4, none⟩ = _ from x4); have Y4 := yq KB.2; have Z4 := yq (show b < w2.drew.heap.size from z2); have R4 := yq (HH2.o.sl.up (Below.drew (Below.refl w2.heap.size w2))); by_cases cl : 0 < e.part.length
             · have Cl := yq cl
               have cl' : decide (0 < e.part.length) = true := by simp [cl]
               go_quiet ((go_at_call 36; with_reducible exact zab (CP.o _)))
               have HB3 := yq (HB2.o.trans ((zal (Below.refl w2.heap.size w2) nq).mono HB2.o.size)); go_wp2_with fail
               go_ret
               exact ⟨zaf (by rw [HE.o]; simp [Cl.o]), (have yx := HB3.o; yb)⟩
             · have Cg := yq (zcq cl)
               have cg : zag e.part = true := zcq cl; have hL : e.part.length = 0 := by omega
               have Cl := yq cl; rw [hL] at KB Y4 R4 x4; clear cl hL
               go_region_held3 (fun w' => Below w2.heap.size w2 w' /\ w'.cell? ⟨b, 4, none⟩ = some (.slice AR 0 cR))
                (first | (with_reducible exact KB) | (with_reducible exact ze7 KB hb3 z2))
                (first
                  | (go_at_call 36; refine (CP.o _).mono ?_; rintro r w' ⟨rfl, rfl⟩)
                  | (go_at_call 19; refine (zaZ b 4 _ e.part _ Y4.o Z4.o R4.o hsm).mono ?_; rintro r w3 ⟨rfl, hb3⟩))
               have HB3 := yq (HB2.o.trans (((Below.drew (Below.refl w2.heap.size w2)).trans hb3).mono HB2.o.size)); have y5 := (hb3.cell (p := ⟨b, 5, none⟩) z2).trans (show w2.drew.cell? ⟨b, 5, none⟩ = _ from x5); clear KB hb3 x0 x1 x2 x3 x4 x5; go_wp2_with fail
               refine (CM.o _).mono ?_
               rintro r w' ⟨rfl, rfl⟩; by_cases cm : e.map.size = 0
               · have Cm := yq cm
                 have gm := zbk e.map; rw [show (e.map.size == 0) = true by simp [cm]] at gm; clear cm; go_wp2_with fail
                 go_ret
                 exact ⟨zaf (by rw [HE.o]; simp [Ni2.o, Nj.o, Nk.o, Nij.o, Cl.o, Cg.o, Cm.o]), (have yx := HB3.o; yb)⟩
               · have Cm := yq cm
                 have gm := zbk e.map; rw [show (e.map.size == 0) = false by simp [cm]] at gm; clear cm; go_wp2_with fail
                 go_ret
                 exact ⟨zaf (by rw [HE.o]; simp [Ni2.o, Nj.o, Nk.o, Nij.o, Cl.o, Cg.o, Cm.o]), (have yx := HB3.o; yb)⟩
         · have nk' : zaK e.k false = false := by simpa using nk
           have Nk := yq nk'; have Dk := zaj e.k _ _ nk'; clear nk nk'
           go_quiet (first
            | (go_at_call 36; first | with_reducible exact zab (CJ.o _) | with_reducible exact zab (CK.o _))
            | (go_at_call 67; first | with_reducible exact zab (Di.o _) | with_reducible exact zab (Dj.o _) | with_reducible exact zab (Dk.o _)))
           go_wp2_with fail
           go_ret
           exact ⟨zaf (by rw [HE.o]; simp [Nk.o]), (have yx := HB1.o; yb)⟩
       · have nj' : zaK e.j true = false := by simpa using nj
         have Nj := yq nj'; have Dj := zaj e.j _ _ nj'; clear nj nj'
         go_quiet (first
          | (go_at_call 36; first | with_reducible exact zab (CJ.o _) | with_reducible exact zab (CK.o _))
          | (go_at_call 67; first | with_reducible exact zab (Di.o _) | with_reducible exact zab (Dj.o _) | with_reducible exact zab (Dk.o _)))
         go_wp2_with fail
         go_ret
         exact ⟨zaf (by rw [HE.o]; simp [Nj.o]), (have yx := HB1.o; yb)⟩
     · have ni' : zaK e.i true = false := by simpa using ni
       have Ni := yq ni'; have Ni2 := yq (show inR e.i 0 1000000000000000 = false from ni'); have Di := zaj e.i true _ ni'; clear ni ni'
       go_quiet (first
        | (go_at_call 36; first | with_reducible exact zab (CJ.o _) | with_reducible exact zab (CK.o _))
        | (go_at_call 67; first | with_reducible exact zab (Di.o _) | with_reducible exact zab (Dj.o _) | with_reducible exact zab (Dk.o _)))
       go_wp2_with fail
       go_ret
       exact ⟨zaf (by rw [HE.o]; simp [Ni2.o]), (have yx := HB1.o; yb)⟩
   · rw [u1, u2, u3, u4] at HE HU
     obtain ⟨hJ', hK', hP', hM'⟩ := HU.o; have CJ := zaw S 74 74 _ hSm rfl hJ'; have CK := zaw S 75 75 _ hSm rfl hK'; have CP := zaw S 80 80 _ hSm rfl hP'; have CM := zaw S 77 77 _ hSm rfl hM'; clear hJ' hK' hP' hM'; clear u1 u2 u3 u4; by_cases ni : zaK e.i true = true
     · have Ni := yq ni
       have Di := zaj e.i true _ ni; clear ni; by_cases nj : zaK e.j true = true
       · have Nj := yq nj
         have Dj := zaj e.j _ _ nj; clear nj; by_cases nk : zaK e.k true = true
         · have Nk := yq nk
           have Dk := zaj e.k _ _ nk; clear nk; by_cases nij : e.j < e.i
           · have Nij := yq nij
             go_quiet (first
              | (go_at_call 36; first | with_reducible exact zab (CJ.o _) | with_reducible exact zab (CK.o _))
              | (go_at_call 67; first | with_reducible exact zab (Di.o _) | with_reducible exact zab (Dj.o _) | with_reducible exact zab (Dk.o _)))
             go_wp2_with fail
             go_ret
             exact ⟨zaf (by rw [HE.o]; simp [Nij.o]), (have yx := HB1.o; yb)⟩
           · have nij' : decide (e.j < e.i) = false := by simp; omega
             have Nij := yq nij'
             go_quiet (first
              | (go_at_call 36; first | with_reducible exact zab (CJ.o _) | with_reducible exact zab (CK.o _))
              | (go_at_call 67; first | with_reducible exact zab (Di.o _) | with_reducible exact zab (Dj.o _) | with_reducible exact zab (Dk.o _)))
             go_wp2_with fail
             have Ni2 := yq (show inR e.i 0 1000000000000000 = true from Ni.o); have HH2 := yq (HH1.o.up (zal (Below.refl w1.heap.size w1) nq)); have HB2 := yq (HB1.o.trans ((zal (Below.refl w1.heap.size w1) nq).mono HB1.o.size)); clear x0 x1 x2 x3 x4 x5 z1; generalize w1.drewN nq = w2 at *; have z2 : b < w2.heap.size := HH2.o.lt; obtain ⟨x0, x1, x2, x3, x4, x5⟩ := HH2.o.box; have KB := And.intro (Below.drew (Below.refl w2.heap.size w2)) (show w2.drew.cell? ⟨b, 4, none⟩ = _ from x4); have Y4 := yq KB.2; have Z4 := yq (show b < w2.drew.heap.size from z2); have R4 := yq (HH2.o.sl.up (Below.drew (Below.refl w2.heap.size w2))); by_cases cl : 0 < e.part.length
             · have Cl := yq cl
               have cl' : decide (0 < e.part.length) = true := by simp [cl]
               go_quiet ((go_at_call 36; with_reducible exact zab (CP.o _)))
               have HB3 := yq (HB2.o.trans ((zal (Below.refl w2.heap.size w2) nq).mono HB2.o.size)); go_wp2_with fail
               go_ret
               exact ⟨zaf (by rw [HE.o]; simp [Cl.o]), (have yx := HB3.o; yb)⟩
             · have Cg := yq (zcq cl)
               have cg : zag e.part = true := zcq cl; have hL : e.part.length = 0 := by omega
               have Cl := yq cl; rw [hL] at KB Y4 R4 x4; clear cl hL
               go_region_held3 (fun w' => Below w2.heap.size w2 w' /\ w'.cell? ⟨b, 4, none⟩ = some (.slice AR 0 cR))
                (first | (with_reducible exact KB) | (with_reducible exact ze7 KB hb3 z2))
                (first
                  | (go_at_call 36; refine (CP.o _).mono ?_; rintro r w' ⟨rfl, rfl⟩)
                  | (go_at_call 19; refine (zaZ b 4 _ e.part _ Y4.o Z4.o R4.o hsm).mono ?_; rintro r w3 ⟨rfl, hb3⟩))
               have HB3 := yq (HB2.o.trans (((Below.drew (Below.refl w2.heap.size w2)).trans hb3).mono HB2.o.size)); have y5 := (hb3.cell (p := ⟨b, 5, none⟩) z2).trans (show w2.drew.cell? ⟨b, 5, none⟩ = _ from x5); clear KB hb3 x0 x1 x2 x3 x4 x5; go_wp2_with fail
               refine (CM.o _).mono ?_
               rintro r w' ⟨rfl, rfl⟩; by_cases cm : e.map.size = 0
               · have Cm := yq cm
                 have gm := zbk e.map; rw [show (e.map.size == 0) = true by simp [cm]] at gm; clear cm; go_wp2_with fail
                 go_ret
                 exact ⟨zaf (by rw [HE.o]; simp [Ni2.o, Nj.o, Nk.o, Nij.o, Cl.o, Cg.o, Cm.o]), (have yx := HB3.o; yb)⟩
               · have Cm := yq cm
                 have gm := zbk e.map; rw [show (e.map.size == 0) = false by simp [cm]] at gm; clear cm; go_wp2_with fail
                 go_ret
                 exact ⟨zaf (by rw [HE.o]; simp [Ni2.o, Nj.o, Nk.o, Nij.o, Cl.o, Cg.o, Cm.o]), (have yx := HB3.o; yb)⟩
         · have nk' : zaK e.k true = false := by simpa using nk
           have Nk := yq nk'; have Dk := zaj e.k _ _ nk'; clear nk nk'
           go_quiet (first
            | (go_at_call 36; first | with_reducible exact zab (CJ.o _) | with_reducible exact zab (CK.o _))
            | (go_at_call 67; first | with_reducible exact zab (Di.o _) | with_reducible exact zab (Dj.o _) | with_reducible exact zab (Dk.o _)))
           go_wp2_with fail
           go_ret
           exact ⟨zaf (by rw [HE.o]; simp [Nk.o]), (have yx := HB1.o; yb)⟩
       · have nj' : zaK e.j true = false := by simpa using nj
         have Nj := yq nj'; have Dj := zaj e.j _ _ nj'; clear nj nj'
         go_quiet (first
          | (go_at_call 36; first | with_reducible exact zab (CJ.o _) | with_reducible exact zab (CK.o _))
          | (go_at_call 67; first | with_reducible exact zab (Di.o _) | with_reducible exact zab (Dj.o _) | with_reducible exact zab (Dk.o _)))
         go_wp2_with fail
         go_ret
         exact ⟨zaf (by rw [HE.o]; simp [Nj.o]), (have yx := HB1.o; yb)⟩
     · have ni' : zaK e.i true = false := by simpa using ni
       have Ni := yq ni'; have Ni2 := yq (show inR e.i 0 1000000000000000 = false from ni'); have Di := zaj e.i true _ ni'; clear ni ni'
       go_quiet (first
        | (go_at_call 36; first | with_reducible exact zab (CJ.o _) | with_reducible exact zab (CK.o _))
        | (go_at_call 67; first | with_reducible exact zab (Di.o _) | with_reducible exact zab (Dj.o _) | with_reducible exact zab (Dk.o _)))
       go_wp2_with fail
       go_ret
       exact ⟨zaf (by rw [HE.o]; simp [Ni2.o]), (have yx := HB1.o; yb)⟩
   · rw [u1, u2, u3, u4] at HE HU
     obtain ⟨hJ', hK', hP', hM'⟩ := HU.o; have CJ := zaw S 74 74 _ hSm rfl hJ'; have CK := zaw S 75 75 _ hSm rfl hK'; have CP := zaw S 80 80 _ hSm rfl hP'; have CM := zaw S 77 77 _ hSm rfl hM'; clear hJ' hK' hP' hM'; clear u1 u2 u3 u4; by_cases ni : zaK e.i true = true
     · have Ni := yq ni
       have Di := zaj e.i true _ ni; clear ni; by_cases nj : zaK e.j true = true
       · have Nj := yq nj
         have Dj := zaj e.j _ _ nj; clear nj; by_cases nk : zaK e.k false = true
         · have Nk := yq nk
           have Dk := zaj e.k _ _ nk; clear nk; by_cases nij : e.j < e.i
           · have Nij := yq nij
             go_quiet (first
              | (go_at_call 36; first | with_reducible exact zab (CJ.o _) | with_reducible exact zab (CK.o _))
              | (go_at_call 67; first | with_reducible exact zab (Di.o _) | with_reducible exact zab (Dj.o _) | with_reducible exact zab (Dk.o _)))
             go_wp2_with fail
             go_ret
             exact ⟨zaf (by rw [HE.o]; simp [Nij.o]), (have yx := HB1.o; yb)⟩
           · have nij' : decide (e.j < e.i) = false := by simp; omega
             have Nij := yq nij'
             go_quiet (first
              | (go_at_call 36; first | with_reducible exact zab (CJ.o _) | with_reducible exact zab (CK.o _))
              | (go_at_call 67; first | with_reducible exact zab (Di.o _) | with_reducible exact zab (Dj.o _) | with_reducible exact zab (Dk.o _)))
             go_wp2_with fail
             have Ni2 := yq (show inR e.i 0 1000000000000000 = true from Ni.o); have HH2 := yq (HH1.o.up (zal (Below.refl w1.heap.size w1) nq)); have HB2 := yq (HB1.o.trans ((zal (Below.refl w1.heap.size w1) nq).mono HB1.o.size)); clear x0 x1 x2 x3 x4 x5 z1; generalize w1.drewN nq = w2 at *; have z2 : b < w2.heap.size := HH2.o.lt; obtain ⟨x0, x1, x2, x3, x4, x5⟩ := HH2.o.box; have KB := And.intro (Below.drew (Below.refl w2.heap.size w2)) (show w2.drew.cell? ⟨b, 4, none⟩ = _ from x4); have Y4 := yq KB.2; have Z4 := yq (show b < w2.drew.heap.size from z2); have R4 := yq (HH2.o.sl.up (Below.drew (Below.refl w2.heap.size w2))); by_cases cl : 0 < e.part.length
             · have Cl := yq cl
               have cl' : decide (0 < e.part.length) = true := by simp [cl]
               go_quiet ((go_at_call 36; with_reducible exact zab (CP.o _)))
               have HB3 := yq (HB2.o.trans ((zal (Below.refl w2.heap.size w2) nq).mono HB2.o.size)); go_wp2_with fail
               go_ret
               exact ⟨zaf (by rw [HE.o]; simp [Cl.o]), (have yx := HB3.o; yb)⟩
             · have Cg := yq (zcq cl)
               have cg : zag e.part = true := zcq cl; have hL : e.part.length = 0 := by omega
               have Cl := yq cl; rw [hL] at KB Y4 R4 x4; clear cl hL
               go_region_held3 (fun w' => Below w2.heap.size w2 w' /\ w'.cell? ⟨b, 4, none⟩ = some (.slice AR 0 cR))
                (first | (with_reducible exact KB) | (with_reducible exact ze7 KB hb3 z2))
                (first
                  | (go_at_call 36; refine (CP.o _).mono ?_; rintro r w' ⟨rfl, rfl⟩)
                  | (go_at_call 19; refine (zaZ b 4 _ e.part _ Y4.o Z4.o R4.o hsm).mono ?_; rintro r w3 ⟨rfl, hb3⟩))
               have HB3 := yq (HB2.o.trans (((Below.drew (Below.refl w2.heap.size w2)).trans hb3).mono HB2.o.size)); have y5 := (hb3.cell (p := ⟨b, 5, none⟩) z2).trans (show w2.drew.cell? ⟨b, 5, none⟩ = _ from x5); clear KB hb3 x0 x1 x2 x3 x4 x5; go_wp2_with fail
               refine (CM.o _).mono ?_
               rintro r w' ⟨rfl, rfl⟩; by_cases cs : e.map.size = 4
               · have Cs := yq cs
                 have gs : ((e.map.size : Int) == 4) = true := by simp [cs]
                 clear cs; go_wp2_with fail
                 refine (zfp _ _ hm).mono ?_
                 rintro r w' ⟨rfl, rfl⟩; go_wp2_with fail
                 go_ret
                 exact ⟨zaf (by rw [HE.o]; simp [Ni2.o, Nj.o, Nk.o, Nij.o, Cl.o, Cg.o, Cs.o]), (have yx := HB3.o; yb)⟩
               · have Cs := yq cs
                 have gs : ((e.map.size : Int) == 4) = false := by rw [beq_eq_false_iff_ne]; omega
                 clear cs; go_wp2_with fail
                 go_ret
                 exact ⟨zaf (by rw [HE.o]; simp [Cs.o]), (have yx := HB3.o; yb)⟩
         · have nk' : zaK e.k false = false := by simpa using nk
           have Nk := yq nk'; have Dk := zaj e.k _ _ nk'; clear nk nk'
           go_quiet (first
            | (go_at_call 36; first | with_reducible exact zab (CJ.o _) | with_reducible exact zab (CK.o _))
            | (go_at_call 67; first | with_reducible exact zab (Di.o _) | with_reducible exact zab (Dj.o _) | with_reducible exact zab (Dk.o _)))
           go_wp2_with fail
           go_ret
           exact ⟨zaf (by rw [HE.o]; simp [Nk.o]), (have yx := HB1.o; yb)⟩
       · have nj' : zaK e.j true = false := by simpa using nj
         have Nj := yq nj'; have Dj := zaj e.j _ _ nj'; clear nj nj'
         go_quiet (first
          | (go_at_call 36; first | with_reducible exact zab (CJ.o _) | with_reducible exact zab (CK.o _))
          | (go_at_call 67; first | with_reducible exact zab (Di.o _) | with_reducible exact zab (Dj.o _) | with_reducible exact zab (Dk.o _)))
         go_wp2_with fail
         go_ret
         exact ⟨zaf (by rw [HE.o]; simp [Nj.o]), (have yx := HB1.o; yb)⟩
     · have ni' : zaK e.i true = false := by simpa using ni
       have Ni := yq ni'; have Ni2 := yq (show inR e.i 0 1000000000000000 = false from ni'); have Di := zaj e.i true _ ni'; clear ni ni'
       go_quiet (first
        | (go_at_call 36; first | with_reducible exact zab (CJ.o _) | with_reducible exact zab (CK.o _))
        | (go_at_call 67; first | with_reducible exact zab (Di.o _) | with_reducible exact zab (Dj.o _) | with_reducible exact zab (Dk.o _)))
       go_wp2_with fail
       go_ret
       exact ⟨zaf (by rw [HE.o]; simp [Ni2.o]), (have yx := HB1.o; yb)⟩
 · have hk' : inR e.kind 1 7 = false := by simpa using hk
   have HK := yq hk'; clear hk hk'; go_enter Tryz.func32, Tryz.ntmps32
   go_wp2_with fail
   refine (zkK _ _ _ _ HK.o).mono ?_
   rintro r w' ⟨rfl, rfl⟩; go_wp2_with fail
   go_ret
   exact ⟨zaf (by simp [zat, HK.o]), yb⟩
end Go.Proofs.YtejgbfgocaggfaaGreatDoor
