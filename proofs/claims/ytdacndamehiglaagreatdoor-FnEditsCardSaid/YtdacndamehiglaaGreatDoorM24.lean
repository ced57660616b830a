import Derived.Test.YtdacndamehiglaaGreatDoorM23
import Derived.OrdersHeld
import Derived.StillTail
set_option maxRecDepth 100000
set_option maxHeartbeats 8000000
namespace Go.Proofs.YtdacndamehiglaaGreatDoor
open Go.RowKit
theorem zcI (v : Value) (xs : List zaa) (w : World) (h : Sl zas w w.heap.size v xs) (hsm : za5 xs) :
  Calls Tryz.prog 16 #[.agg #[v]] w fun e w' => e = .returned (.bool (zaf xs)) /\ Below w.heap.size w w' := by
 have HG := yq h; obtain ⟨A, c, rfl, _⟩ := h; have ba := (Below.refl _ w).alloc yL (.cells #[.slice A xs.length c] 26); have HA := yq (HG.o.up ba); have KB := Blk.new w #[.slice A xs.length c] 26; have cB := Blk.cell (i := 0) (v := .slice A xs.length c) KB rfl; have lB := KB.lt; have HBA := yq ba; clear ba KB; go_enter Tryz.func16, Tryz.ntmps16
 go_wp2_with fail
 refine (zbf w.heap.size 0 _ xs _ cB lB HA.o hsm).mono ?_
 rintro r w1 ⟨rfl, hb1⟩; have HB := yq (Below.tr HBA.o hb1); go_wp2_with fail
 go_ret
 exact ⟨rfl, HB.o⟩
theorem zli (v : Value) (xs : List zaa) (u : ByteArray) (w : World) (h : Sl zas w w.heap.size v xs) (hsm : za5 xs) (hg : zaf xs = true) (hu : (⟨(upV xs).toArray⟩ : ByteArray) = u) :
  Calls Tryz.prog 17 #[.agg #[v], .string u] w fun e w' => e = .returned (.bool true) /\ Below w.heap.size w w' := by
 have HG := yq h; obtain ⟨A, c, rfl, _⟩ := h; have ba := (Below.refl _ w).alloc yL (.cells #[.slice A xs.length c] 26); have HA := yq (HG.o.up ba); have KB := yq (Blk.new w #[.slice A xs.length c] 26); have cB := Blk.cell (i := 0) (v := .slice A xs.length c) KB.o rfl; have lB := KB.o.lt; have HBA := yq ba; have HSM := yq hsm; clear ba hsm; go_enter Tryz.func17, Tryz.ntmps17
 go_wp2_with fail
 refine (zcI _ xs _ HA.o HSM.o).mono ?_
 rintro r w1 ⟨rfl, hb1⟩; rw [hg]; have HB := yq (Below.tr HBA.o hb1); have K1 := KB.o.up hb1; have HA1 := yq (HA.o.up hb1); have c1 := Blk.cell (i := 0) (v := .slice A xs.length c) K1 rfl; have l1 := K1.lt; clear cB lB KB HA HBA hb1 K1; go_wp2_with fail
 refine (zfV _ xs _ HA1.o HSM.o).mono ?_
 rintro r w2 ⟨rfl, hb2⟩; rw [hu]; have HB2 := yq (Below.tr HB.o hb2); clear hb2 hu hg; go_wp2_with fail
 go_ret
 exact ⟨by first | rfl | simp, HB2.o⟩
end Go.Proofs.YtdacndamehiglaaGreatDoor
namespace Go.Proofs
open Go.Shelf Go.RowKit
def Tryz.lays264_ren : Go.Shelf.Ren := ⟨fun | 264 => 147 | n => n, fun | 53 => 113 | 46 => 142 | n => n, fun | n => n⟩
theorem Tryz.lays264 : Go.Proofs.Lays.n264 Tryz.prog Tryz.lays264_ren := {
 mixed := by kernel_rfl
 f264 := Tryz.func147.trans (congrArg some (by kernel_rfl))
 t46 := Tryz.underlying142
 a46 := Tryz.isAgg142
 z46 := Tryz.sizeOf142
 v46 := Tryz.zeroValue142
 t53 := Tryz.underlying113
 a53 := Tryz.isAgg113
 z53 := Tryz.sizeOf113
 v53 := Tryz.zeroValue113 }
open Go.RowKit Go.Lib in
theorem Tryz.bits_Mul64 (x y : Nat) (hx : x < 18446744073709551616) (hy : y < 18446744073709551616) (w : World) :
  Calls Tryz.prog 147 #[.int .u64 x, .int .u64 y] w fun e w' => e = .returned (.tuple #[.int .u64 ((x * y / 18446744073709551616 : Nat) : Int), .int .u64 ((x * y % 18446744073709551616 : Nat) : Int)]) ∧ w' = w := Any.bits_Mul64 Tryz.lays264 x y hx hy w
end Go.Proofs
namespace Go.Proofs.YtdacndamehiglaaGreatDoor
open Go.RowKit
def pF : Nat := 2305843009213693951
theorem zmw (n : Nat) (h : n < 18446744073709551616) : bits BinOp.and IntKind.u64 (n : Int) 2305843009213693951 = ((n % 2305843009213693952 : Nat) : Int) := by
 have h1 := bits_and_u64_nat n 2305843009213693951 h (by decide); have e : n &&& 2305843009213693951 = n % 2305843009213693952 := Nat.and_two_pow_sub_one_eq_mod n 61; rw [e] at h1; exact h1
theorem zo5 (x h : Nat) (hx : x < 8) (hh : h < 1152921504606846976) : bits BinOp.or IntKind.u64 (x : Int) ((h * 8 : Nat) : Int) = ((x + h * 8 : Nat) : Int) := by
 rw [bits_or_u64_nat x (h * 8) yO yO]; have e := Nat.shiftLeft_add_eq_or_of_lt (i := 3) (b := x) yO h; rw [Nat.shiftLeft_eq] at e; rw [Nat.or_comm, <- e]; congr 1
 omega
theorem zpn (X : Nat) (hX : X <= 2305843009213693950 * 2305843009213693950) :
  X / 18446744073709551616 < 1152921504606846976 /\ X % 18446744073709551616 / 2305843009213693952 < 8 /\
  X % 18446744073709551616 % 2305843009213693952 + (X % 18446744073709551616 / 2305843009213693952 + X / 18446744073709551616 * 8) < 4611686018427387904 /\
  (∀ o, o = X % 18446744073709551616 % 2305843009213693952 + (X % 18446744073709551616 / 2305843009213693952 + X / 18446744073709551616 * 8) ->
    (o % 2305843009213693952 + o / 2305843009213693952 < 2305843009213693953) /\
    (2305843009213693951 <= o % 2305843009213693952 + o / 2305843009213693952 -> o % 2305843009213693952 + o / 2305843009213693952 - 2305843009213693951 = X % 2305843009213693951) /\
    (o % 2305843009213693952 + o / 2305843009213693952 < 2305843009213693951 -> o % 2305843009213693952 + o / 2305843009213693952 = X % 2305843009213693951)) := by
 have e : 2305843009213693950 * 2305843009213693950 = 5316911983139663482391856204266602500 := by decide
 rw [e] at hX; refine ⟨by omega, by omega, by omega, ?_⟩
 intro o ho; refine ⟨by omega, ?_, ?_⟩
 · intro h; omega
 · intro h; omega
theorem zfW (a b : Nat) (w : World) (ha : a < pF) (hb : b < pF) :
  Calls Tryz.prog 184 #[.int .u64 a, .int .u64 b] w fun e w' => e = .returned (.int .u64 ((a * b % pF : Nat) : Int)) /\ w = w' := by
 unfold pF at ha hb |-
 obtain ⟨f1, f2, f3, f4⟩ := zpn (a * b) (Nat.mul_le_mul yO yO); go_enter Tryz.func184, Tryz.ntmps184
 go_wp2_with fail
 refine (Tryz.bits_Mul64 a b yO yO _).mono ?_
 rintro e w1 ⟨rfl, rfl⟩; obtain ⟨X, hX⟩ : ∃ X, a * b = X := ⟨_, rfl⟩
 have HX := yq hX; rw [hX] at f1 f2 f3 f4 |-
 obtain ⟨hi, hhi⟩ : ∃ h, X / 18446744073709551616 = h := ⟨_, rfl⟩
 obtain ⟨lo, hlo⟩ : ∃ h, X % 18446744073709551616 = h := ⟨_, rfl⟩
 rw [hhi, hlo] at f3 f4; rw [hhi] at f1; rw [hlo] at f2; rw [hhi, hlo]; have hlo2 : lo < 18446744073709551616 := by rw [<- hlo]; exact Nat.mod_lt _ (by decide)
 have e1 := zmw lo hlo2; have e2 : IntKind.u64.wrap ((hi : Int) * 8) = (hi : Int) * 8 := IntWalk.u64_in _ yO
 have e3 : bits BinOp.or IntKind.u64 ((lo : Int) / 2305843009213693952) ((hi : Int) * 8) = (lo : Int) / 2305843009213693952 + (hi : Int) * 8 := by
  have := zo5 (lo / 2305843009213693952) hi f2 f1; rw [Int.natCast_add, Int.natCast_mul, Int.natCast_ediv] at this; exact this
 obtain ⟨o, ho⟩ : ∃ o, lo % 2305843009213693952 + (lo / 2305843009213693952 + hi * 8) = o := ⟨_, rfl⟩
 rw [ho] at f3; obtain ⟨g1, g2, g3⟩ := f4 o ho.symm
 have e4 : IntKind.u64.wrap ((lo : Int) % 2305843009213693952 + ((lo : Int) / 2305843009213693952 + (hi : Int) * 8)) = (o : Int) := by
  rw [<- ho]; rw [IntWalk.u64_in _ yO]; omega
 have e5 := zmw o yO; have e6 : IntKind.u64.wrap ((o : Int) % 2305843009213693952 + (o : Int) / 2305843009213693952) = (o : Int) % 2305843009213693952 + (o : Int) / 2305843009213693952 := IntWalk.u64_in _ yO; clear hhi hlo f4 ho hX; obtain ⟨R, hR⟩ : ∃ R, X % 2305843009213693951 = R := ⟨_, rfl⟩
 rw [hR] at g2 g3; have HR := yq (show a * b % 2305843009213693951 = R by rw [HX.o]; exact hR); clear hR; obtain ⟨T, hT⟩ : ∃ T, o % 2305843009213693952 + o / 2305843009213693952 = T := ⟨_, rfl⟩
 rw [hT] at g1 g2 g3; have hTI : (o : Int) % 2305843009213693952 + (o : Int) / 2305843009213693952 = (T : Int) := by rw [<- hT]; omega
 rw [hTI] at e6; clear hT; by_cases hge : 2305843009213693951 <= T
 · have hgI : (2305843009213693951 : Int) <= (T : Int) := by omega
   have e7 : IntKind.u64.wrap ((T : Int) - 2305843009213693951) = (T : Int) - 2305843009213693951 := IntWalk.u64_in _ yO; have hfin : (T : Int) - 2305843009213693951 = (R : Int) := by have := g2 hge; omega
   have HF := yq hfin; clear hfin g2 g3 hge; go_wp2_with fail
   go_ret
   refine ⟨?_, rfl⟩
   rw [HR.o, <- HF.o]; rfl
 · have hgI : (T : Int) < 2305843009213693951 := by omega
   have hfin : T = R := g3 yO; subst hfin; clear g2 g3 hge; go_upto_if 28 with fail
   rw [show (decide ((2305843009213693951 : Int) <= (T : Int))) = false from decide_eq_false yO]; clear hgI g1 hTI e1 e2 e3 e4 e5 e6 f3 hlo2 f1 f2 ha hb; go_wp2_with fail
   go_ret
   exact ⟨by rw [HR.o]; rfl, rfl⟩
theorem zfX (a b : Nat) (w : World) (ha : a < pF) (hb : b < pF) :
  Calls Tryz.prog 185 #[.int .u64 a, .int .u64 b] w fun e w' => e = .returned (.int .u64 (((a + b) % pF : Nat) : Int)) /\ w = w' := by
 unfold pF at ha hb |-
 have e1 : IntKind.u64.wrap ((a : Int) + (b : Int)) = (a : Int) + (b : Int) := IntWalk.u64_in _ yO; by_cases hge : 2305843009213693951 <= a + b
 · have HF := yq (show ((a : Int) + (b : Int)) - 2305843009213693951 = (((a + b) % 2305843009213693951 : Nat) : Int) by omega)
   have e2 : IntKind.u64.wrap (((a : Int) + (b : Int)) - 2305843009213693951) = ((a : Int) + (b : Int)) - 2305843009213693951 := IntWalk.u64_in _ yO; go_enter Tryz.func185, Tryz.ntmps185
   go_upto_if 9 with fail
   rw [show (decide ((2305843009213693951 : Int) <= (a : Int) + (b : Int))) = true from decide_eq_true yO]; clear hge ha hb; go_wp2_with fail
   go_ret
   refine ⟨?_, rfl⟩
   rw [<- HF.o]; rfl
 · have HF := yq (show ((a : Int) + (b : Int)) = (((a + b) % 2305843009213693951 : Nat) : Int) by omega)
   go_enter Tryz.func185, Tryz.ntmps185
   go_upto_if 9 with fail
   rw [show (decide ((2305843009213693951 : Int) <= (a : Int) + (b : Int))) = false from decide_eq_false yO]; clear hge ha hb e1; go_wp2_with fail
   go_ret
   refine ⟨?_, rfl⟩
   rw [<- HF.o]; rfl
def prV (a b : Nat) : Value := .agg #[.int .u64 (a : Int), .int .u64 (b : Int)]
theorem zgL (a0 a1 b0 b1 : Nat) (w : World) (ha0 : a0 < pF) (ha1 : a1 < pF) (hb0 : b0 < pF) (hb1 : b1 < pF) :
  Calls Tryz.prog 155 #[.agg #[.int .u64 a0, .int .u64 a1], .agg #[.int .u64 b0, .int .u64 b1]] w fun e w' => Below w.heap.size w w' /\ e = .returned (.agg #[.int .u64 (((a0 * b0) % pF : Nat) : Int), .int .u64 (((a1 * b1) % pF : Nat) : Int)]) := by
 have M0 := yq (fun W => (zfW a0 b0 W ha0 hb0).mono (R' := fun e w'' => e = .returned (.int .u64 (((a0 * b0) % pF : Nat) : Int)) /\ w'' = W) fun e w' ⟨h1, h2⟩ => ⟨h1, h2.symm⟩); have M1 := yq (fun W => (zfW a1 b1 W ha1 hb1).mono (R' := fun e w'' => e = .returned (.int .u64 (((a1 * b1) % pF : Nat) : Int)) /\ w'' = W) fun e w' ⟨h1, h2⟩ => ⟨h1, h2.symm⟩); obtain ⟨p0, hp0⟩ : ∃ p, (a0 * b0) % pF = p := ⟨_, rfl⟩
 obtain ⟨p1, hp1⟩ : ∃ p, (a1 * b1) % pF = p := ⟨_, rfl⟩
 rw [hp0] at M0 |-
 rw [hp1] at M1 |-
 clear hp0 hp1 ha0 ha1 hb0 hb1; have HB := yq (fun o o' o'' => (((Below.refl w.heap.size w).alloc yL o).alloc yS o').alloc (by simp; omega) o''); have K0 := yq (((Blk.new w #[.int .u64 (a0 : Int), .int .u64 (a1 : Int)] 191).alloc (.cells #[.int .u64 (b0 : Int), .int .u64 (b1 : Int)] 191)).alloc (.cells #[.int .u64 0, .int .u64 0] 191)); have K1 := yq ((Blk.new (w.alloc (.cells #[.int .u64 (a0 : Int), .int .u64 (a1 : Int)] 191)) #[.int .u64 (b0 : Int), .int .u64 (b1 : Int)] 191).alloc (.cells #[.int .u64 0, .int .u64 0] 191)); have K2 := yq (Blk.new ((w.alloc (.cells #[.int .u64 (a0 : Int), .int .u64 (a1 : Int)] 191)).alloc (.cells #[.int .u64 (b0 : Int), .int .u64 (b1 : Int)] 191)) #[.int .u64 0, .int .u64 0] 191); have z1 : (w.alloc (.cells #[.int .u64 (a0 : Int), .int .u64 (a1 : Int)] 191)).heap.size = w.heap.size + 1 := by simp
 have z2 : ((w.alloc (.cells #[.int .u64 (a0 : Int), .int .u64 (a1 : Int)] 191)).alloc (.cells #[.int .u64 (b0 : Int), .int .u64 (b1 : Int)] 191)).heap.size = w.heap.size + 1 + 1 := by simp
 rw [z1] at K1; rw [z2] at K2; have HBB := yq (HB.o (.cells #[.int .u64 (a0 : Int), .int .u64 (a1 : Int)] 191) (.cells #[.int .u64 (b0 : Int), .int .u64 (b1 : Int)] 191) (.cells #[.int .u64 0, .int .u64 0] 191)); clear HB z1 z2; go_enter Tryz.func155, Tryz.ntmps155
 go_upto_region 1 with fail
 revert K0 K1 K2 HBB; generalize (((w.alloc (.cells #[.int .u64 (a0 : Int), .int .u64 (a1 : Int)] 191)).alloc (.cells #[.int .u64 (b0 : Int), .int .u64 (b1 : Int)] 191)).alloc (.cells #[.int .u64 0, .int .u64 0] 191)) = W; intro K0 K1 K2 HBB; have c0 := Blk.cell (i := 0) (v := .int .u64 (a0 : Int)) K0.o rfl; have c1 := Blk.cell (i := 1) (v := .int .u64 (a1 : Int)) K0.o rfl; have c2 := Blk.cell (i := 0) (v := .int .u64 (b0 : Int)) K1.o rfl; have c3 := Blk.cell (i := 1) (v := .int .u64 (b1 : Int)) K1.o rfl; have c4 := Blk.cell (i := 0) (v := .int .u64 0) K2.o rfl; have c5 := Blk.cell (i := 1) (v := .int .u64 0) K2.o rfl; have f4 := Blk.frozen K2.o 0; have f5 := Blk.frozen K2.o 1; have l2 := Blk.lt K2.o; have l1 := Blk.lt K1.o; have l0 := Blk.lt K0.o; refine wp_region_still_tail 10 yk yk ?_
 simp only [List.take_succ_cons, List.take_zero, List.drop_succ_cons, List.drop_zero]
 still_step
 still_step
 still_step
 still_step
 still_call (M0.o _)
 still_step
 still_step
 still_step
 still_step
 still_call (M1.o _)
 refine wpStill_nil ?_
 go_wp2_with fail
 refine bodyPost_ret (v := .agg #[.int .u64 (p0 : Int), .int .u64 (p1 : Int)]) (by simp [results, Tryz.results155, go_sem, c4, c5]) rfl ⟨?_, rfl⟩
 exact Below.setCell (Below.setCell (Below.drew HBB.o) (by show w.heap.size <= w.heap.size + 1 + 1; omega) _) (by show w.heap.size <= w.heap.size + 1 + 1; omega) _
theorem zkp (a0 a1 b0 b1 : Nat) (w : World) (ha0 : a0 < pF) (ha1 : a1 < pF) (hb0 : b0 < pF) (hb1 : b1 < pF) :
  Calls Tryz.prog 156 #[.agg #[.int .u64 a0, .int .u64 a1], .agg #[.int .u64 b0, .int .u64 b1]] w fun e w' => Below w.heap.size w w' /\ e = .returned (.agg #[.int .u64 (((a0 + b0) % pF : Nat) : Int), .int .u64 (((a1 + b1) % pF : Nat) : Int)]) := by
 have M0 := yq (fun W => (zfX a0 b0 W ha0 hb0).mono (R' := fun e w'' => e = .returned (.int .u64 (((a0 + b0) % pF : Nat) : Int)) /\ w'' = W) fun e w' ⟨h1, h2⟩ => ⟨h1, h2.symm⟩); have M1 := yq (fun W => (zfX a1 b1 W ha1 hb1).mono (R' := fun e w'' => e = .returned (.int .u64 (((a1 + b1) % pF : Nat) : Int)) /\ w'' = W) fun e w' ⟨h1, h2⟩ => ⟨h1, h2.symm⟩); obtain ⟨p0, hp0⟩ : ∃ p, (a0 + b0) % pF = p := ⟨_, rfl⟩
 obtain ⟨p1, hp1⟩ : ∃ p, (a1 + b1) % pF = p := ⟨_, rfl⟩
 rw [hp0] at M0 |-
 rw [hp1] at M1 |-
 clear hp0 hp1 ha0 ha1 hb0 hb1; have HB := yq (fun o o' o'' => (((Below.refl w.heap.size w).alloc yL o).alloc yS o').alloc (by simp; omega) o''); have K0 := yq (((Blk.new w #[.int .u64 (a0 : Int), .int .u64 (a1 : Int)] 191).alloc (.cells #[.int .u64 (b0 : Int), .int .u64 (b1 : Int)] 191)).alloc (.cells #[.int .u64 0, .int .u64 0] 191)); have K1 := yq ((Blk.new (w.alloc (.cells #[.int .u64 (a0 : Int), .int .u64 (a1 : Int)] 191)) #[.int .u64 (b0 : Int), .int .u64 (b1 : Int)] 191).alloc (.cells #[.int .u64 0, .int .u64 0] 191)); have K2 := yq (Blk.new ((w.alloc (.cells #[.int .u64 (a0 : Int), .int .u64 (a1 : Int)] 191)).alloc (.cells #[.int .u64 (b0 : Int), .int .u64 (b1 : Int)] 191)) #[.int .u64 0, .int .u64 0] 191); have z1 : (w.alloc (.cells #[.int .u64 (a0 : Int), .int .u64 (a1 : Int)] 191)).heap.size = w.heap.size + 1 := by simp
 have z2 : ((w.alloc (.cells #[.int .u64 (a0 : Int), .int .u64 (a1 : Int)] 191)).alloc (.cells #[.int .u64 (b0 : Int), .int .u64 (b1 : Int)] 191)).heap.size = w.heap.size + 1 + 1 := by simp
 rw [z1] at K1; rw [z2] at K2; have HBB := yq (HB.o (.cells #[.int .u64 (a0 : Int), .int .u64 (a1 : Int)] 191) (.cells #[.int .u64 (b0 : Int), .int .u64 (b1 : Int)] 191) (.cells #[.int .u64 0, .int .u64 0] 191)); clear HB z1 z2; go_enter Tryz.func156, Tryz.ntmps156
 go_upto_region 1 with fail
 revert K0 K1 K2 HBB; generalize (((w.alloc (.cells #[.int .u64 (a0 : Int), .int .u64 (a1 : Int)] 191)).alloc (.cells #[.int .u64 (b0 : Int), .int .u64 (b1 : Int)] 191)).alloc (.cells #[.int .u64 0, .int .u64 0] 191)) = W; intro K0 K1 K2 HBB; have c0 := Blk.cell (i := 0) (v := .int .u64 (a0 : Int)) K0.o rfl; have c1 := Blk.cell (i := 1) (v := .int .u64 (a1 : Int)) K0.o rfl; have c2 := Blk.cell (i := 0) (v := .int .u64 (b0 : Int)) K1.o rfl; have c3 := Blk.cell (i := 1) (v := .int .u64 (b1 : Int)) K1.o rfl; have c4 := Blk.cell (i := 0) (v := .int .u64 0) K2.o rfl; have c5 := Blk.cell (i := 1) (v := .int .u64 0) K2.o rfl; have f4 := Blk.frozen K2.o 0; have f5 := Blk.frozen K2.o 1; have l2 := Blk.lt K2.o; have l1 := Blk.lt K1.o; have l0 := Blk.lt K0.o; refine wp_region_still_tail 10 yk yk ?_
 simp only [List.take_succ_cons, List.take_zero, List.drop_succ_cons, List.drop_zero]
 still_step
 still_step
 still_step
 still_step
 still_call (M0.o _)
 still_step
 still_step
 still_step
 still_step
 still_call (M1.o _)
 refine wpStill_nil ?_
 go_wp2_with fail
 refine bodyPost_ret (v := .agg #[.int .u64 (p0 : Int), .int .u64 (p1 : Int)]) (by simp [results, Tryz.results156, go_sem, c4, c5]) rfl ⟨?_, rfl⟩
 exact Below.setCell (Below.setCell (Below.drew HBB.o) (by show w.heap.size <= w.heap.size + 1 + 1; omega) _) (by show w.heap.size <= w.heap.size + 1 + 1; omega) _
def ziY (b : Nat) (w : List UInt8) : Nat := w.foldl (fun a c => (a * b + c.toNat) % pF) 0
def zg2 (b n : Nat) : Nat := b ^ n % pF
theorem zmx : 0 < pF := by decide
theorem zjO (b : Nat) (w : List UInt8) : ziY b w < pF := by
 unfold ziY
 suffices H : ∀ (w : List UInt8) (a : Nat), a < pF -> w.foldl (fun a c => (a * b + c.toNat) % pF) a < pF from H w 0 zmx
 intro w
 induction w with
 | nil => intro a h; exact h
 | cons c w ih => intro a _; exact ih _ (Nat.mod_lt _ zmx)
theorem zmy (b n : Nat) : zg2 b n < pF := Nat.mod_lt _ zmx
theorem zh0 (b m n : Nat) : zg2 b (m + n) = zg2 b m * zg2 b n % pF := by
 unfold zg2; rw [Nat.pow_add, <- Nat.mul_mod]
theorem zkq {b : Nat} (h : b < pF) : zg2 b 1 = b := by
 unfold zg2; rw [Nat.pow_one, Nat.mod_eq_of_lt h]
theorem zmz (b : Nat) : ∀ (v : List UInt8) (a : Nat), v.foldl (fun a c => (a * b + c.toNat) % pF) (a % pF) = (a * zg2 b v.length + ziY b v) % pF := by
 intro v
 induction v with
 | nil =>
   intro a; show a % pF = (a * zg2 b 0 + 0) % pF
   have : zg2 b 0 = 1 := by unfold zg2; rw [Nat.pow_zero]; decide
   rw [this, Nat.mul_one, Nat.add_zero]
 | cons c v ih =>
   intro a; rw [List.foldl_cons]
   have e1 : (a % pF * b + c.toNat) % pF = (a * b + c.toNat) % pF := by
    rw [Nat.add_mod, Nat.mul_mod, Nat.mod_mod, <- Nat.mul_mod, <- Nat.add_mod]
   have e0 : ziY b (c :: v) = (c.toNat * zg2 b v.length + ziY b v) % pF := by
    unfold ziY; rw [List.foldl_cons, Nat.zero_mul, Nat.zero_add]; exact ih c.toNat
   rw [e1, ih (a * b + c.toNat), e0, List.length_cons, Nat.add_comm v.length 1, zh0]
   have e2 : a * (zg2 b 1 * zg2 b v.length % pF) % pF = a * b * zg2 b v.length % pF := by
    unfold zg2; rw [Nat.pow_one, <- Nat.mul_mod, Nat.mul_mod, Nat.mod_mod, <- Nat.mul_mod, <- Nat.mul_assoc, Nat.mul_mod _ (b ^ _ % pF), Nat.mod_mod, <- Nat.mul_mod]
   rw [Nat.add_mul, Nat.add_assoc, Nat.add_mod, Nat.add_mod (a * (zg2 b 1 * zg2 b v.length % pF)), e2, Nat.mod_mod]
theorem zkr (b : Nat) (u v : List UInt8) : ziY b (u ++ v) = (ziY b u * zg2 b v.length % pF + ziY b v) % pF := by
 have h := zmz b v (ziY b u); rw [Nat.mod_eq_of_lt (zjO b u)] at h; unfold ziY at h |-
 rw [List.foldl_append, h]; exact (Nat.mod_add_mod _ _ _).symm
theorem zks (b : Nat) (c : UInt8) : ziY b [c] = c.toNat := by
 unfold ziY; have h : c.toNat < 256 := c.toNat_lt; rw [List.foldl_cons, List.foldl_nil, Nat.zero_mul, Nat.zero_add, Nat.mod_eq_of_lt]; unfold pF; omega
def bA : Nat := 1234567890123456789
def bB : Nat := 987654321987654321
theorem zpo : bA < pF := by decide
theorem zpp : bB < pF := by decide
def zed (p : Nat × Nat) : List Value := [.int .u64 (p.1 : Int), .int .u64 (p.2 : Int)]
def zdy (w : World) (base : Nat) (v : Value) (l : List (Nat × Nat)) : Prop := w.ownsRow base 191 2 v l.length (l.flatMap zed)
theorem zpq {l : List (Nat × Nat)} {k : Nat} {p : Nat × Nat} (h : l[k]? = some p) : (l.flatMap zed)[k * 2]? = some (.int .u64 (p.1 : Int)) /\ (l.flatMap zed)[k * 2 + 1]? = some (.int .u64 (p.2 : Int)) := by
 induction l generalizing k with
 | nil => simp at h
 | cons x xs ih =>
   cases k with
   | zero => simp at h; subst h; exact ⟨rfl, rfl⟩
   | succ k =>
     have h2 : xs[k]? = some p := by simpa using h
     obtain ⟨i1, i2⟩ := ih h2; rw [List.flatMap_cons]; have e : (zed x).length = 2 := rfl; rw [List.getElem?_append_right (by rw [e]; omega), List.getElem?_append_right (by rw [e]; omega), e]
     exact ⟨by rw [show (k + 1) * 2 - 2 = k * 2 by omega]; exact i1, by rw [show (k + 1) * 2 + 1 - 2 = k * 2 + 1 by omega]; exact i2⟩
theorem zdy.cells {w : World} {base : Nat} {v : Value} {l : List (Nat × Nat)} (h : zdy w base v l) {k : Nat} {p : Nat × Nat} (hk : l[k]? = some p) :
  ∃ g cap, v = .slice (some ⟨g, 0, none⟩) l.length cap /\ base <= g /\ g < w.heap.size /\ w.cell? ⟨g, k * 2, none⟩ = some (.int .u64 (p.1 : Int)) /\ w.cell? ⟨g, k * 2 + 1, none⟩ = some (.int .u64 (p.2 : Int)) := by
 have hl : k < l.length := (List.getElem?_eq_some_iff.1 hk).1
 obtain ⟨g, cap, rfl, hb, hg, _, hc⟩ := zcx h yO; obtain ⟨p1, p2⟩ := zpq hk; exact ⟨g, cap, rfl, hb, hg, hc _ _ p1, hc _ _ p2⟩
def zdU (xs : List zaa) (k : Nat) : Nat × Nat := (ziY bA (W1 xs k), ziY bB (W1 xs k))
def zdS (xs : List zaa) (k : Nat) : Nat × Nat := (zg2 bA (W1 xs k).length, zg2 bB (W1 xs k).length)
def zi1 (xs : List zaa) (n : Nat) : List (Nat × Nat) := (List.range n).map (zdU xs)
def zi2 (xs : List zaa) (n : Nat) : List (Nat × Nat) := (List.range n).map (zdS xs)
theorem zmA (xs : List zaa) (n : Nat) : (zi1 xs n).length = n := by simp [zi1]
theorem zmB (xs : List zaa) (n : Nat) : (zi2 xs n).length = n := by simp [zi2]
theorem zmC {xs : List zaa} {n k : Nat} (h : k < n) : (zi1 xs n)[k]? = some (zdU xs k) := by simp [zi1, List.getElem?_range h]
theorem zmD {xs : List zaa} {n k : Nat} (h : k < n) : (zi2 xs n)[k]? = some (zdS xs k) := by simp [zi2, List.getElem?_range h]
theorem znJ (xs : List zaa) (n : Nat) : zi1 xs (n + 1) = zi1 xs n ++ [zdU xs n] := by simp [zi1, List.range_succ]
theorem znK (xs : List zaa) (n : Nat) : zi2 xs (n + 1) = zi2 xs n ++ [zdS xs n] := by simp [zi2, List.range_succ]
theorem zou {xs : List zaa} {ls : List Int} (h : zaX xs = some ls) {k : Nat} (hk : k < xs.length) (hp : (zav xs k).pair = true) :
  zdU xs k = (((zdU xs (zav xs k).left.toNat).1 * (zdS xs (zav xs k).right.toNat).1 % pF + (zdU xs (zav xs k).right.toNat).1) % pF, ((zdU xs (zav xs k).left.toNat).2 * (zdS xs (zav xs k).right.toNat).2 % pF + (zdU xs (zav xs k).right.toNat).2) % pF) := by
 unfold zdU zdS; rw [zd4 h hk hp, zkr, zkr]
theorem zov {xs : List zaa} {ls : List Int} (h : zaX xs = some ls) {k : Nat} (hk : k < xs.length) (hp : (zav xs k).pair = true) :
  zdS xs k = ((zdS xs (zav xs k).left.toNat).1 * (zdS xs (zav xs k).right.toNat).1 % pF, (zdS xs (zav xs k).left.toNat).2 * (zdS xs (zav xs k).right.toNat).2 % pF) := by
 unfold zdS; rw [zd4 h hk hp, List.length_append, zh0, zh0]
theorem zo6 {xs : List zaa} {k : Nat} {c : UInt8} (hp : (zav xs k).pair = false) (hc : (zav xs k).letter = ⟨#[c]⟩) : zdU xs k = (c.toNat, c.toNat) /\ zdS xs k = (bA, bB) := by
 have hw : W1 xs k = [c] := by rw [zcH hp, hc]
 unfold zdU zdS; rw [hw, zks, zks]; exact ⟨rfl, by rw [List.length_singleton, zkq zpo, zkq zpp]⟩
theorem zmE (xs : List zaa) (k : Nat) : (zdU xs k).1 < pF /\ (zdU xs k).2 < pF := ⟨zjO _ _, zjO _ _⟩
theorem zow (xs : List zaa) (k : Nat) : (zdS xs k).1 < pF /\ (zdS xs k).2 < pF := ⟨zmy _ _, zmy _ _⟩
theorem zmF (w : World) : Calls Tryz.prog 154 #[] w fun e w' => Below w.heap.size w w' /\ e = .returned (.agg #[.int .u64 1234567890123456789, .int .u64 987654321987654321]) := by
 go_enter Tryz.func154, Tryz.ntmps154
 go_wp2_with fail
 exact bodyPost_ret (v := .agg #[.int .u64 1234567890123456789, .int .u64 987654321987654321]) (by simp [results, Tryz.results154, go_sem]) rfl ⟨(Below.refl _ _).alloc yL _, rfl⟩
theorem Tryz.infoPr : (Tryz.prog.info? 191).map (fun i => (i.zero, i.size, i.bytes)) = some (some (.agg #[.int .u64 0, .int .u64 0]), 2, 16) := by kernel_rfl
theorem zcc {W : World} {ops : Array Oper} {o : Oper} {a : Act} {K : Act -> World -> Prop} {Q : Exit -> Act -> World -> Prop} {E : Prop} (hgd : o.guard = none) (s x : Operand)
  (ho : o.op = .call { callee := .builtin .append, args := #[s, x], argTypes := #[187, 187] }) {p : Nat × Nat} {base n c N : Nat} {A : Option Addr} {l : List (Nat × Nat)}
  (hs : a.eval s = .slice A n c) (hx : a.eval x = .slice (some ⟨N, 0, none⟩) 1 1) (hN : W.heap[N]? = some (.cells #[.int .u64 (p.1 : Int), .int .u64 (p.2 : Int)] 191 (0, 0))) (hn : n = l.length) (hown : zdy W base (.slice A n c) l) (hlen : l.length <= 1048576) (hbase : base <= W.heap.size)
  (h : ∀ A' c' w', zdy w' base (.slice A' (n + 1) c') (l ++ [p]) -> ((Value.slice A' (n + 1) c').ownBlock = (Value.slice A n c).ownBlock \/ ∃ g, (Value.slice A' (n + 1) c').ownBlock = some g /\ W.heap.size <= g) -> W.grownBy w' (Value.slice A n c).ownBlock -> Below base W w' -> K (a.put o.dst (.slice A' (n + 1) c')) w') :
  if Region.wanted o (yielded ops a.tmps) = true then Oper.wp Tryz.prog o a W K Q else E := by
 subst hn; have hw : Region.wanted o (yielded ops a.tmps) = true := by simp [Region.wanted, hgd]
 rw [if_pos hw]; obtain ⟨i0, hi0, hz0, hz1, hz2⟩ := info_parts Tryz.infoPr
 obtain ⟨v', w', hrun, k1, k2, _, k3⟩ := run_append_own_at (P := Tryz.prog) W base 187 o.type 191 i0 _ 2 16 Tryz.underlying187 hi0 hz0 hz1 hz2 rfl (by decide) (.slice A l.length c) l.length _ hown ⟨N, 0, none⟩ 1 1 (zed p) rfl
  (fun j y hy => by
    have : W.cell? ⟨N, j, none⟩ = (#[Value.int .u64 (p.1 : Int), .int .u64 (p.2 : Int)] : Array Value)[j]? := cell_of_row _ _ _ _ 191 (0, 0) hN; have ha : (⟨N, 0, none⟩ : Addr).add j = ⟨N, j, none⟩ := by unfold Addr.add; split <;> simp_all
    rw [ha, this]; simpa [zed] using hy) (by simp [zed, Value.oneCell']) (by simp only [maxLen]; omega) yO hbase
 unfold Oper.wp execOp; simp only [ho, resolve, invoke, builtin, Sem.run_bind, Sem.run_pure, Result.andThen_ok, List.map_toArray, List.map_cons, List.map_nil, hs, hx, hrun]
 have k1' : zdy w' base v' (l ++ [p]) := by
  unfold zdy; simpa [zed] using k1
 obtain ⟨A', c', rfl, _⟩ := zae k1'; have el : (l ++ [p]).length = l.length + 1 := by simp
 rw [el] at k1' k3 |-
 refine h A' c' w' k1' ?_ k2 ((Below.refl base W).grown k2 hbase (fun y hy => (World.ownsRow.lt hown y hy).1))
 rcases k3 with k3 | k3
 · exact .inl k3
 · exact .inr ⟨_, k3, Nat.le_refl _⟩
structure znX (w wx : World) (P : Nat) (vR vL : Value) (xs : List zaa) (ls : List Int) (k : Nat) (AM : Option Addr) (cM : Nat) (AS : Option Addr) (cS : Nat) : Prop where
 bel : Below w.heap.size w wx
 box : Blk wx P #[vR, vL, .slice AM k cM, .slice AS k cS] 189
 len : zal wx w.heap.size vL ls
 low : ∀ g, vL.ownBlock = some g -> g < P
 mrk : zdy wx (P + 1) (.slice AM k cM) (zi1 xs k)
 stp : zdy wx (P + 1) (.slice AS k cS) (zi2 xs k)
 ne : ∀ g, (Value.slice AM k cM).ownBlock = some g -> (Value.slice AS k cS).ownBlock ≠ some g
theorem znX.up {w wx w' : World} {P : Nat} {vR vL : Value} {xs : List zaa} {ls : List Int} {k : Nat} {AM AS : Option Addr} {cM cS : Nat} (h : znX w wx P vR vL xs ls k AM cM AS cS) (hb : Below wx.heap.size wx w') : znX w w' P vR vL xs ls k AM cM AS cS :=
 ⟨Below.tr h.bel hb, h.box.up hb, zaI h.len hb, h.low, zaI h.mrk hb, zaI h.stp hb, h.ne⟩
theorem zhq (rs : ByteArray) (rl rr : Int) : (⟨rs, rl, rr⟩ : zaa).pair = rs.toList.isEmpty := by
 rw [ByteArray.toList_eq]; obtain ⟨⟨l⟩⟩ := rs; cases l with
 | nil => rfl
 | cons x t => rfl
theorem znL {s : ByteArray} (h : zdV s = true) : ∃ c, s = ⟨#[c]⟩ := by
 have h1 := zcQ h; obtain ⟨⟨l⟩⟩ := s; have hl : l.length = 1 := h1; obtain ⟨c, rfl⟩ := List.length_eq_one_iff.1 hl; exact ⟨c, rfl⟩
def prB (w : World) (b : Nat) (p : Nat × Nat) : Prop := Blk w b #[.int .u64 (p.1 : Int), .int .u64 (p.2 : Int)] 191
def zmG (xs : List zaa) (vR : Value) (w : World) (e : Ending) (w' : World) : Prop :=
 ∃ P ls vL AM cM AS cS, e = .returned (.tuple #[.pointer (some ⟨P, 0, none⟩), .bool true]) /\ zaX xs = some ls /\ w.heap.size <= P /\ znX w w' P vR vL xs ls xs.length AM cM AS cS
structure CI (w : World) (p : Addr) (v : Value) : Prop where
 c : w.cell? p = some v
 lt : p.block < w.heap.size
theorem CI.up {w W : World} {p : Addr} {v : Value} (h : CI w p v) (hb : Below w.heap.size w W) : W.cell? p = some v := (hb.cell h.lt).trans h.c
theorem Blk.ci {w : World} {b : Nat} {a : Array Value} {t : TypeId} (h : Blk w b a t) {i : Nat} {v : Value} (hi : a[i]? = some v) : CI w ⟨b, i, none⟩ v := ⟨h.cell hi, h.lt⟩
theorem zmH {w W : World} {p1 p2 p3 p4 p5 p6 p7 : Addr} {v1 v2 v3 v4 v5 v6 v7 : Value} (h1 : CI w p1 v1) (h2 : CI w p2 v2) (h3 : CI w p3 v3) (h4 : CI w p4 v4) (h5 : CI w p5 v5) (h6 : CI w p6 v6) (h7 : CI w p7 v7) (hb : Below w.heap.size w W) : Below w.heap.size w W /\ W.cell? p1 = some v1 /\ W.cell? p2 = some v2 /\ W.cell? p3 = some v3 /\ W.cell? p4 = some v4 /\ W.cell? p5 = some v5 /\ W.cell? p6 = some v6 /\ W.cell? p7 = some v7 :=
 ⟨hb, h1.up hb, h2.up hb, h3.up hb, h4.up hb, h5.up hb, h6.up hb, h7.up hb⟩
theorem zh1 {w W : World} {p1 p2 p3 p4 p5 p6 p7 p8 p9 p10 : Addr} {v1 v2 v3 v4 v5 v6 v7 v8 v9 v10 : Value} (h1 : CI w p1 v1) (h2 : CI w p2 v2) (h3 : CI w p3 v3) (h4 : CI w p4 v4) (h5 : CI w p5 v5) (h6 : CI w p6 v6) (h7 : CI w p7 v7) (h8 : CI w p8 v8) (h9 : CI w p9 v9) (h10 : CI w p10 v10) (hb : Below w.heap.size w W) : Below w.heap.size w W /\ W.cell? p1 = some v1 /\ W.cell? p2 = some v2 /\ W.cell? p3 = some v3 /\ W.cell? p4 = some v4 /\ W.cell? p5 = some v5 /\ W.cell? p6 = some v6 /\ W.cell? p7 = some v7 /\ W.cell? p8 = some v8 /\ W.cell? p9 = some v9 /\ W.cell? p10 = some v10 :=
 ⟨hb, h1.up hb, h2.up hb, h3.up hb, h4.up hb, h5.up hb, h6.up hb, h7.up hb, h8.up hb, h9.up hb, h10.up hb⟩
theorem zdy.two {w : World} {base n c : Nat} {A : Option Addr} {l : List (Nat × Nat)} (h : zdy w base (.slice A n c) l) {i j : Nat} {p q : Nat × Nat} (hi : l[i]? = some p) (hj : l[j]? = some q) :
  ∃ g, A = some ⟨g, 0, none⟩ /\ CI w ⟨g, i * 2, none⟩ (.int .u64 (p.1 : Int)) /\ CI w ⟨g, i * 2 + 1, none⟩ (.int .u64 (p.2 : Int)) /\ CI w ⟨g, j * 2, none⟩ (.int .u64 (q.1 : Int)) /\ CI w ⟨g, j * 2 + 1, none⟩ (.int .u64 (q.2 : Int)) := by
 obtain ⟨g, cap, e, _, hg, h1, h2⟩ := h.cells hi; obtain ⟨g', cap', e', _, _, h3, h4⟩ := h.cells hj; injection e with e1 _ _; injection e' with e1' _ _; subst e1; injection e1' with e2; injection e2 with e3; subst e3; exact ⟨g, rfl, ⟨h1, hg⟩, ⟨h2, hg⟩, ⟨h3, hg⟩, ⟨h4, hg⟩⟩
structure Psh (w W : World) (P M0 : Nat) (bx : Array Value) (vL : Value) (ls : List Int) (m s : Nat × Nat) (vM vS : Value) (lM lS : List (Nat × Nat)) : Prop where
 bel : Below w.heap.size w W
 hP : w.heap.size <= P
 box : Blk W P bx 189
 len : zal W w.heap.size vL ls
 low : ∀ g, vL.ownBlock = some g -> g < P
 pm : Blk W M0 #[.int .u64 (m.1 : Int), .int .u64 (m.2 : Int)] 191
 ps : Blk W (M0 + 1) #[.int .u64 (s.1 : Int), .int .u64 (s.2 : Int)] 191
 mrk : zdy W (P + 1) vM lM
 stp : zdy W (P + 1) vS lS
 ne : ∀ g, vM.ownBlock = some g -> vS.ownBlock ≠ some g
 nm : ∀ g, vM.ownBlock = some g -> g ≠ M0 /\ g ≠ M0 + 1
 ns : ∀ g, vS.ownBlock = some g -> g ≠ M0 /\ g ≠ M0 + 1
section
variable {w W W' : World} {P M0 : Nat} {bx : Array Value} {vL : Value} {ls : List Int} {m s : Nat × Nat} {vM vS v' : Value} {lM lS l' : List (Nat × Nat)}
theorem Psh.up (h : Psh w W P M0 bx vL ls m s vM vS lM lS) (hb : Below W.heap.size W W') : Psh w W' P M0 bx vL ls m s vM vS lM lS :=
 ⟨Below.tr h.bel hb, h.hP, h.box.up hb, zaI h.len hb, h.low, h.pm.up hb, h.ps.up hb, zaI h.mrk hb, zaI h.stp hb, h.ne, h.nm, h.ns⟩
theorem Psh.drew (h : Psh w W P M0 bx vL ls m s vM vS lM lS) : Psh w W.drew P M0 bx vL ls m s vM vS lM lS := h.up (Below.drew (Below.refl _ _))
theorem Psh.alloc (h : Psh w W P M0 bx vL ls m s vM vS lM lS) (o : Obj) : Psh w (W.alloc o) P M0 bx vL ls m s vM vS lM lS := h.up (Below.alloc (Below.refl _ _) yL o)
theorem Psh.cells {vR : Value} {AM AS : Option Addr} {n c c' : Nat} (h : Psh w W P M0 #[vR, vL, .slice AM n c, .slice AS n c'] vL ls m s vM vS lM lS) : W.cell? ⟨P, 2, none⟩ = some (.slice AM n c) /\ W.cell? ⟨P, 3, none⟩ = some (.slice AS n c') /\ W.cell? ⟨M0, 0, none⟩ = some (.int .u64 (m.1 : Int)) /\ W.cell? ⟨M0, 1, none⟩ = some (.int .u64 (m.2 : Int)) /\ W.cell? ⟨M0 + 1, 0, none⟩ = some (.int .u64 (s.1 : Int)) /\ W.cell? ⟨M0 + 1, 1, none⟩ = some (.int .u64 (s.2 : Int)) :=
 ⟨h.box.cell rfl, h.box.cell rfl, h.pm.cell rfl, h.pm.cell rfl, h.ps.cell rfl, h.ps.cell rfl⟩
theorem Psh.push1 (h : Psh w W P M0 bx vL ls m s vM vS lM lS) (ho : zdy W' (P + 1) v' l') (hv : v'.ownBlock = vM.ownBlock \/ ∃ g, v'.ownBlock = some g /\ W.heap.size <= g) (hg : W.grownBy W' vM.ownBlock) (hb : Below (P + 1) W W') :
  Psh w W' P M0 bx vL ls m s v' vS l' lS := by
 have hM := h.pm.lt; have hS := h.ps.lt; have hb2 : Below w.heap.size W W' := hb.mono (by have := h.hP; omega)
 have hne : ∀ g, v'.ownBlock = some g -> vS.ownBlock ≠ some g := by
  intro g e; rcases hv with hv | ⟨g2, e2, h2⟩
  · rw [hv] at e
    exact h.ne g e
  · rw [e] at e2; cases e2
    intro e3; exact absurd (World.ownsRow.lt h.stp g e3).2 yO
 have hnn : ∀ g, v'.ownBlock = some g -> g ≠ M0 /\ g ≠ M0 + 1 := by
  intro g e; rcases hv with hv | ⟨g2, e2, h2⟩
  · rw [hv] at e; exact h.nm g e
  · rw [e] at e2; cases e2; omega
 have hmm : Blk W' M0 #[.int .u64 (m.1 : Int), .int .u64 (m.2 : Int)] 191 := (hg.block M0 hM (fun e => (h.nm M0 e.symm).1 rfl)).trans h.pm; have hss : Blk W' (M0 + 1) #[.int .u64 (s.1 : Int), .int .u64 (s.2 : Int)] 191 := (hg.block (M0 + 1) hS (fun e => (h.nm (M0 + 1) e.symm).2 rfl)).trans h.ps; have hoo : zdy W' (P + 1) vS lS := zbe h.stp (fun g e => hg.block g (World.ownsRow.lt h.stp g e).2 (fun e3 => h.ne g e3.symm e)); have hl : zal W' w.heap.size vL ls := zbe h.len (fun g e => hb.block g (by have := h.low g e; omega)); exact ⟨h.bel.trans hb2, h.hP, h.box.upB hb (Nat.lt_succ_self _), hl, h.low, hmm, hss, ho, hoo, hne, hnn, h.ns⟩
theorem Psh.push2 (h : Psh w W P M0 bx vL ls m s vM vS lM lS) (ho : zdy W' (P + 1) v' l') (hv : v'.ownBlock = vS.ownBlock \/ ∃ g, v'.ownBlock = some g /\ W.heap.size <= g) (hg : W.grownBy W' vS.ownBlock) (hb : Below (P + 1) W W') :
  Psh w W' P M0 bx vL ls m s vM v' lM l' := by
 have hM := h.pm.lt; have hS := h.ps.lt; have hb2 : Below w.heap.size W W' := hb.mono (by have := h.hP; omega)
 have hne : ∀ g, v'.ownBlock = some g -> vM.ownBlock ≠ some g := by
  intro g e; rcases hv with hv | ⟨g2, e2, h2⟩
  · rw [hv] at e
    exact fun e3 => h.ne g e3 e
  · rw [e] at e2; cases e2
    intro e3; exact absurd (World.ownsRow.lt h.mrk g e3).2 yO
 have hnn : ∀ g, v'.ownBlock = some g -> g ≠ M0 /\ g ≠ M0 + 1 := by
  intro g e; rcases hv with hv | ⟨g2, e2, h2⟩
  · rw [hv] at e; exact h.ns g e
  · rw [e] at e2; cases e2; omega
 have hmm : Blk W' M0 #[.int .u64 (m.1 : Int), .int .u64 (m.2 : Int)] 191 := (hg.block M0 hM (fun e => (h.ns M0 e.symm).1 rfl)).trans h.pm; have hss : Blk W' (M0 + 1) #[.int .u64 (s.1 : Int), .int .u64 (s.2 : Int)] 191 := (hg.block (M0 + 1) hS (fun e => (h.ns (M0 + 1) e.symm).2 rfl)).trans h.ps; have hoo : zdy W' (P + 1) vM lM := zbe h.mrk (fun g e => hg.block g (World.ownsRow.lt h.mrk g e).2 (fun e3 => h.ne g e e3.symm)); have hl : zal W' w.heap.size vL ls := zbe h.len (fun g e => hb.block g (by have := h.low g e; omega)); exact ⟨h.bel.trans hb2, h.hP, h.box.upB hb (Nat.lt_succ_self _), hl, h.low, hmm, hss, hoo, ho, fun g e e3 => hne g e3 e, h.nm, hnn⟩
theorem zh2 (hg : W.grownBy W' vM.ownBlock) {N : Nat} (hN : ∀ g, vM.ownBlock = some g -> g < N) : ∀ k o, N <= k -> W.heap[k]? = some o -> W'.heap[k]? = some o := fun k o hNk hk =>
 (hg.block k (Array.getElem?_eq_some_iff.1 hk).1 (fun e => absurd (hN k e.symm) yO)).trans hk
theorem zmI {o : Obj} {k : Nat} (hk : k = W.heap.size) : (W.alloc o).heap[k]? = some o := by subst hk; exact heap_alloc_new W o
theorem zjP {o : Obj} {k : Nat} (hk : k = W.heap.size) : (W.alloc o).drew.heap[k]? = some o := by subst hk; exact heap_alloc_new W o
theorem zo7 {o o' : Obj} {k : Nat} (h : W.heap[k]? = some o) : (W.alloc o').heap[k]? = some o := (Below.heap_alloc W o' k (Array.getElem?_eq_some_iff.1 h).1).trans h
theorem Psh.done {vR : Value} {AM AS AM' AS' : Option Addr} {n n' c c' d d' : Nat} {xs : List zaa} (h : Psh w W P M0 #[vR, vL, .slice AM n c, .slice AS n c'] vL ls (zdU xs n) (zdS xs n) (.slice AM' n' d) (.slice AS' n' d') (zi1 xs n ++ [zdU xs n]) (zi2 xs n ++ [zdS xs n])) (hn : n' = n + 1) :
  znX w ((W.setCell ⟨P, 2, none⟩ (.slice AM' n' d)).setCell ⟨P, 3, none⟩ (.slice AS' n' d')) P vR vL xs ls (n + 1) AM' d AS' d' := by
 subst hn; have hb : Below P W ((W.setCell ⟨P, 2, none⟩ (.slice AM' (n + 1) d)).setCell ⟨P, 3, none⟩ (.slice AS' (n + 1) d')) := ((Below.refl P W).setCell (p := ⟨P, 2, none⟩) yL _).setCell (p := ⟨P, 3, none⟩) yL _
 have hk : ∀ g, g ≠ P -> ((W.setCell ⟨P, 2, none⟩ (.slice AM' (n + 1) d)).setCell ⟨P, 3, none⟩ (.slice AS' (n + 1) d')).heap[g]? = W.heap[g]? := fun g hg =>
  (Below.heap_setCell _ ⟨P, 3, none⟩ _ g hg).trans (Below.heap_setCell _ ⟨P, 2, none⟩ _ g hg)
 refine ⟨h.bel.trans (hb.mono h.hP), (h.box.set 2 _).set 3 _, zbe h.len (fun g e => hk g (by have := h.low g e; omega)), h.low, ?_, ?_, h.ne⟩
 · rw [znJ]; exact zbe h.mrk (fun g e => hk g (by have := (World.ownsRow.lt h.mrk g e).1; omega))
 · rw [znK]; exact zbe h.stp (fun g e => hk g (by have := (World.ownsRow.lt h.stp g e).1; omega))
end
open Go
section
variable {P : Program} {ops : Array Oper} {Q : Exit -> Act -> World -> Prop} {md : Region.Mode} {S : World -> Prop} {n : Nat}
def zkt (P : Program) (md : Region.Mode) (ops : Array Oper) (Q : Exit -> Act -> World -> Prop) (S : World -> Prop) (n : Nat) (L : Array Bool -> Act -> World -> Prop) : Nat -> Array Bool -> Act -> World -> Prop
 | 0, listed, a, w => L listed a w
 | f + 1, listed, a, w => Region.ready md ops listed ≠ [] /\ ∀ i ∈ Region.ready md ops listed, i < n /\ wpOp P ops Q i (fun a' w' => S w' /\ zkt P md ops Q S n L f (listed.setIfInBounds i true) a' w') a w
theorem zeO {g : Nat} {L : Array Bool -> Act -> World -> Prop} (hL : ∀ listed a w, L listed a w -> wpAny P md ops Q g listed a w) :
  ∀ (f : Nat) (listed : Array Bool) (a : Act) (w : World), zkt P md ops Q S n L f listed a w -> wpAny P md ops Q (f + g) listed a w
 | 0, listed, a, w, h => by rw [Nat.zero_add]; exact hL _ _ _ h
 | f + 1, listed, a, w, h => by
   rw [show f + 1 + g = (f + g) + 1 by omega]; exact ⟨fun h0 => absurd h0 h.1, fun i hi => wpOp_mono (fun a' w' h' => zeO hL f _ a' w' h'.2) (h.2 i hi).2⟩
def zox (md : Region.Mode) (ops : Array Oper) (n : Nat) (l0 : Array Bool) : Bool :=
 (List.range n).all fun i => l0.getD i false || (List.range (n + 1)).any fun j => decide (i < j) && Region.waitsFor md ops j i
structure zoD (md : Region.Mode) (ops : Array Oper) (n : Nat) (l0 listed : Array Bool) : Prop where
 inv : HeadInv md ops n listed
 low : ∀ i, l0.getD i false = true -> listed.getD i false = true
theorem zoD.set {n i : Nat} {l0 listed : Array Bool} (h : zoD md ops n l0 listed) (hi : i ∈ Region.ready md ops listed) (hin : i < n) : zoD md ops n l0 (listed.setIfInBounds i true) :=
 ⟨h.inv.set hi hin, fun k hk => getD_set_true (h.low k hk)⟩
theorem zgM {n : Nat} {l0 listed : Array Bool} (hs : zox md ops n l0 = true) (hc : Region.chainB md ops n = true) (hn : n < ops.size) (H : zoD md ops n l0 listed) :
  ∀ (d i : Nat), n - i = d -> i < n -> listed.getD i true = false -> ∀ t, n <= t -> t ∉ Region.ready md ops listed := by
 have inv := H.inv; intro d
 induction d using Nat.strongRecOn with
 | _ d ih =>
   intro i hd hi hun t ht hr; obtain ⟨_, ot, hot, hall⟩ := mem_ready.1 hr; have htlt : t < ops.size := (Array.getElem?_eq_some_iff.1 hot).1
   by_cases htn : t = n
   · subst htn
     have h1 := List.all_eq_true.1 hs i (List.mem_range.2 hi); rw [Bool.or_eq_true] at h1; rcases h1 with h1 | h1
     · have := H.low i h1
       rw [getD_both hun] at this; cases this
     obtain ⟨j, hj, hj2⟩ := List.any_eq_true.1 h1; simp only [Bool.and_eq_true, decide_eq_true_eq] at hj2
     obtain ⟨oj, hoj, e, he, hb, hon⟩ := Region.waitsFor_spec hj2.2; have hjle : j <= t := by have := List.mem_range.1 hj; omega
     by_cases hjt : j = t
     · subst hjt
       have : oj = ot := Option.some.inj (hoj.symm.trans hot); subst this; have h2 := hall e he hb; rw [hon, getD_both hun] at h2; cases h2
     · cases hl : listed.getD j false with
       | true =>
         have h2 := inv.closed j oj hoj hl e he hb; rw [hon, getD_both hun] at h2; cases h2
       | false =>
         have hjs : j < listed.size := by rw [inv.size]; omega
         exact ih (t - j) yO j rfl yO (getD_in hjs hl) t yL hr
   · have h1 := List.all_eq_true.1 hc t (List.mem_range.2 htlt)
     simp only [Bool.or_eq_true, decide_eq_true_eq] at h1
     rcases h1 with h1 | h1
     · omega
     · obtain ⟨o', ho', e, he, hb, hon⟩ := Region.waitsFor_spec h1
       have : o' = ot := Option.some.inj (ho'.symm.trans hot); subst this; have h2 := hall e he hb; rw [hon, getD_both (inv.tail (t - 1) yO yO)] at h2; cases h2
theorem zlj {i : Nat} {l0 : Array Bool} {oi : Oper} {v : Value} {L : Array Bool -> Act -> World -> Prop} (hi : ops[i]? = some oi) (hsel : ∀ (j : Nat) (o : Oper) cs b, ops[j]? = some o -> o.op ≠ .select cs b)
  (hs : zox md ops n l0 = true) (hc : Region.chainB md ops n = true) (hn : n < ops.size) (hin : i < n)
  (hdone : ∀ listed a w, L listed a w -> ∀ j ∈ Region.ready md ops listed, n <= j) (hQ : ∀ c a w, Q (.panic c) (a.put oi.dst v) w -> Q (.panic c) a w) :
  ∀ (f : Nat) (listed : Array Bool) (a : Act) (w : World), zoD md ops n l0 listed ->
   (∀ j oj, ops[j]? = some oj -> j ≠ i -> listed.getD j true = false -> (∀ e ∈ oj.after, Region.binds md e = true -> e.on ≠ i) -> oi.apart ops oj = true) ->
   i ∈ Region.ready md ops listed -> YieldsIf P ops S oi v a -> S w ->
   zkt P md ops Q S n L f (listed.setIfInBounds i true) (a.put oi.dst v) w -> zkt P md ops Q S n L (f + 1) listed a w := by
 intro f
 induction f with
 | zero =>
   intro listed a w inv _ hr hy hS H; have hun := (mem_ready.1 hr).1; refine ⟨fun h => (by rw [h] at hr; cases hr), fun j hj => ?_⟩
   have hjn : j < n := by
    rcases Nat.lt_or_ge j n with h | h
    · exact h
    · exact absurd hj (zgM hs hc hn inv _ i rfl hin hun j h)
   refine ⟨hjn, ?_⟩
   by_cases hji : j = i
   · subst hji; exact hy.wpOp hi hS ⟨hS, H⟩
   · have := hdone _ _ _ H j (ready_mono hj hji)
     omega
 | succ f ih =>
   intro listed a w inv hfree hr hy hS H; have hun := (mem_ready.1 hr).1; refine ⟨fun h => (by rw [h] at hr; cases hr), fun j hj => ?_⟩
   have hjn : j < n := by
    rcases Nat.lt_or_ge j n with h | h
    · exact h
    · exact absurd hj (zgM hs hc hn inv _ i rfl hin hun j h)
   refine ⟨hjn, ?_⟩
   by_cases hji : j = i
   · subst hji; exact hy.wpOp hi hS ⟨hS, H⟩
   · have h1 := (H.2 j (ready_mono hj hji)).2
     obtain ⟨hjun, oj, hoj, hall⟩ := mem_ready.1 hj
     have hnot : ∀ e ∈ oj.after, Region.binds md e = true -> e.on ≠ i := fun e he hb heq => by
      have h1 := hall e he hb; rw [heq, getD_both hun] at h1; cases h1
     have h2 := wpOp_putIf hoj (hfree j oj hoj hji hjun hnot) (fun cs b => hsel i oi cs b hi) (fun cs b => hsel j oj cs b hoj) hQ hy h1
     have hfree' : ∀ k ok, ops[k]? = some ok -> k ≠ i -> (listed.setIfInBounds j true).getD k true = false ->
       (∀ e ∈ ok.after, Region.binds md e = true -> e.on ≠ i) -> oi.apart ops ok = true := fun k ok hk hki hun hno => by
      refine hfree k ok hk hki ?_ hno
      by_cases hjk : j = k
      · subst hjk; exact hjun
      · rw [getD_set_ne true hjk] at hun; exact hun
     refine wpOp_mono (fun a' w' h3 => ⟨h3.2.1, ih (listed.setIfInBounds j true) a' w' (inv.set hj hjn) hfree' (ready_mono hr (Ne.symm hji)) h3.1 h3.2.1 ?_⟩) h2
     rw [Array.setIfInBounds_comm _ _ hji]; exact h3.2.2
def znM (md : Region.Mode) (ops : Array Oper) (n : Nat) (l0 listed : Array Bool) : Bool :=
 decide (listed.size = ops.size) && decide (l0.size = ops.size) && (List.range ops.size).all fun j => (!l0.getD j false || listed.getD j false) && (decide (j < n) || !listed.getD j true) && (!listed.getD j false || (match ops[j]? with
  | some o => o.after.all fun e => !Region.binds md e || listed.getD e.on false
  | none => true))
theorem zlk {l0 listed : Array Bool} (h : znM md ops n l0 listed = true) : zoD md ops n l0 listed := by
 unfold znM at h; simp only [Bool.and_eq_true, decide_eq_true_eq, List.all_eq_true, List.mem_range, Bool.or_eq_true, Bool.not_eq_true'] at h
 refine ⟨⟨h.1.1, fun j oj hj hl e he hb => ?_, fun t ht hts => ?_⟩, fun i hi => ?_⟩
 · have hjs : j < ops.size := (Array.getElem?_eq_some_iff.1 hj).1
   have h2 := (h.2 j hjs).2; rw [hj] at h2; rcases h2 with h2 | h2
   · rw [h2] at hl; cases hl
   · have h3 := Array.all_eq_true_iff_forall_mem.1 h2 e he
     rw [hb] at h3; simpa using h3
 · rcases (h.2 t hts).1.2 with h1 | h1
   · omega
   · exact h1
 · have his : i < ops.size := by
    rcases Nat.lt_or_ge i l0.size with h' | h'
    · have := h.1.2; omega
    · simp [Array.getElem?_eq_none h'] at hi
   rcases (h.2 i his).1.1 with h1 | h1
   · rw [h1] at hi; cases hi
   · exact h1
def zh3 (md : Region.Mode) (ops : Array Oper) (g n : Nat) (K : Act -> World -> Prop) (listed : Array Bool) (a : Act) (w : World) : Prop := Region.seqB md ops g n listed = true /\ K a w
def zmJ (md : Region.Mode) (ops : Array Oper) (n : Nat) (l0 : Array Bool) : Bool := Region.noSelect ops && decide (n < ops.size) && zox md ops n l0 && Region.chainB md ops n
theorem zmK (l0 : Array Bool) (i : Nat) (oi : Oper) (v : Value) {g f : Nat} {K : Act -> World -> Prop} {listed : Array Bool} {a : Act} {w : World} (hH : zmJ md ops n l0 = true) (hi : ops[i]? = some oi)
  (hb : (decide (i < n) && znM md ops n l0 listed && Region.free md ops listed i && (Region.ready md ops listed).contains i) = true)
  (hQ : ∀ c a w, Q (.panic c) (a.put oi.dst v) w -> Q (.panic c) a w) (hy : YieldsIf P ops S oi v a) (hS : S w)
  (h : zkt P md ops Q S n (zh3 md ops g n K) f (listed.setIfInBounds i true) (a.put oi.dst v) w) : zkt P md ops Q S n (zh3 md ops g n K) (f + 1) listed a w := by
 simp only [zmJ, Bool.and_eq_true, decide_eq_true_eq] at hH hb
 exact zlj hi (Region.noSelect_spec hH.1.1.1) hH.1.2 hH.2 hH.1.1.2 hb.1.1.1 (fun listed a w hL => seqB_ready hL.1) hQ f listed a w (zlk hb.1.1.2) (Region.free_spec hi hb.1.2) (by simpa using hb.2) hy hS h
theorem zaJ (l0 : Array Bool) (i : Nat) (oi : Oper) (v : Value) {g f : Nat} {K : Act -> World -> Prop} {listed : Array Bool} {a : Act} {w : World} (hH : zmJ md ops n l0 = true) (hi : ops[i]? = some oi)
  (hb : (decide (i < n) && znM md ops n l0 listed && Region.free md ops listed i && (Region.ready md ops listed).contains i) = true)
  (hQ : ∀ c a w, Q (.panic c) (a.put oi.dst v) w -> Q (.panic c) a w) (hw : Region.wanted oi (yielded ops a.tmps) = true) (hy : ∀ w, S w -> (execOp a.eval oi).run P w = .ok (.value v) w) (hS : S w)
  (h : zkt P md ops Q S n (zh3 md ops g n K) f (listed.setIfInBounds i true) (a.put oi.dst v) w) : zkt P md ops Q S n (zh3 md ops g n K) (f + 1) listed a w :=
 zmK l0 i oi v hH hi hb hQ (.inl ⟨hw, hy⟩) hS h
def zaE (P : Program) (md : Region.Mode) (ops : Array Oper) (Q : Exit -> Act -> World -> Prop) (S : World -> Prop) (n : Nat) (L : Array Bool -> Act -> World -> Prop) (fuel : Nat) (listed : Array Bool) (a : Act) (w : World) (rs : List Nat) : Prop :=
 ∀ i ∈ rs, wpOp P ops Q i (fun a' w' => S w' /\ zkt P md ops Q S n L fuel (listed.setIfInBounds i true) a' w') a w
theorem zaE.nil {L : Array Bool -> Act -> World -> Prop} {fuel : Nat} {listed : Array Bool} {a : Act} {w : World} : zaE P md ops Q S n L fuel listed a w [] := fun _ h => by cases h
theorem zaE.cons {L : Array Bool -> Act -> World -> Prop} {fuel : Nat} {listed : Array Bool} {a : Act} {w : World} {i : Nat} {o : Oper} {rs : List Nat} (ho : ops[i]? = some o)
  (h : ∀ K' : Act -> World -> Prop, Shut (∀ a w, S w -> (S w -> zkt P md ops Q S n L fuel (listed.setIfInBounds i true) a w) -> K' a w) -> if Region.wanted o (yielded ops a.tmps) = true then Oper.wp P o a w K' Q else K' (a.put o.dst undef) w)
  (hs : zaE P md ops Q S n L fuel listed a w rs) : zaE P md ops Q S n L fuel listed a w (i :: rs) := fun j hj => by
 rcases List.mem_cons.1 hj with rfl | hj
 · exact wpOp_step ho (fun K' hK => h K' (fun a w hS hW => hK a w ⟨hS, hW hS⟩))
 · exact hs j hj
theorem zbL (rs : List Nat) {L : Array Bool -> Act -> World -> Prop} {fuel : Nat} {listed : Array Bool} {a : Act} {w : World} (hr : (decide (Region.ready md ops listed = rs) && decide (rs ≠ []) && rs.all fun i => decide (i < n)) = true)
  (h : zaE P md ops Q S n L fuel listed a w rs) : zkt P md ops Q S n L (fuel + 1) listed a w := by
 simp only [Bool.and_eq_true, decide_eq_true_eq, List.all_eq_true] at hr
 exact ⟨hr.1.1 ▸ hr.1.2, fun i hi => ⟨hr.2 i (hr.1.1 ▸ hi), h i (hr.1.1 ▸ hi)⟩⟩
theorem zff {g : Nat} {K : Act -> World -> Prop} {listed : Array Bool} {a : Act} {w : World} (hB : Region.seqB md ops g n listed = true) (h : K a w) : zkt P md ops Q S n (zh3 md ops g n K) 0 listed a w := ⟨hB, h⟩
theorem zg3 {id : Nat} {a : Act} {w : World} {l : List Oper} (S : World -> Prop) (n : Nat) (hm : P.follows .mixedOrders = true) (hB : decide (n < l.length) = true) (hS : S w.drew)
  (h : S w.drew -> zkt P .any l.toArray Q S n (zh3 .any l.toArray (l.length - n) n (wpList P l.toArray Q (l.drop n))) n (Array.replicate l.toArray.size false) a w.drew) : (Code.region id l.toArray true).wp P Q a w := by
 have hn : n < l.length := by simpa using hB
 refine wp_region_any hm ?_
 have := zeO (P := P) (md := .any) (ops := l.toArray) (Q := Q) (S := S) (n := n) (g := l.length - n) (fun listed a' w' (hL : zh3 .any l.toArray (l.length - n) n (wpList P l.toArray Q (l.drop n)) listed a' w') => by
  have := wpAny_of_seq (md := .any) (Q' := Q) (l.drop n) n listed a' w' (fun j => by simp [List.getElem?_drop]) (by rw [List.length_drop]; exact hL.1) hL.2
  rwa [List.length_drop] at this) n _ a w.drew (h hS)
 rw [show n + (l.length - n) = l.toArray.size by simp; omega] at this; exact this
theorem zgN {id : Nat} {a : Act} {w : World} {l : List Oper} (S : World -> Prop) (n p : Nat) (op : Oper) (v : Value) (hm : P.follows .mixedOrders = true)
  (hB : (decide (n < l.length) && decide (0 < n) && Region.noSelect l.toArray && Region.free .any l.toArray (Array.replicate l.toArray.size false) p && (Region.ready .any l.toArray (Array.replicate l.toArray.size false)).contains p) = true) (hp : l.toArray[p]? = some op)
  (hQ : ∀ c a w, Q (.panic c) (a.put op.dst v) w -> Q (.panic c) a w) (hw : Region.wanted op (yielded l.toArray a.tmps) = true) (hy : ∀ w, (execOp a.eval op).run P w = .ok (.value v) w) (hS : S w.drew)
  (h : S w.drew -> zkt P .any l.toArray Q S n (zh3 .any l.toArray (l.length - n) n (wpList P l.toArray Q (l.drop n))) (n - 1) ((Array.replicate l.toArray.size false).setIfInBounds p true) (a.put op.dst v) w.drew) : (Code.region id l.toArray true).wp P Q a w := by
 simp only [Bool.and_eq_true, decide_eq_true_eq] at hB
 obtain ⟨⟨⟨⟨hn, hn0⟩, hsel⟩, hf⟩, hr⟩ := hB; refine wp_region_any hm ?_
 have := zeO (P := P) (md := .any) (ops := l.toArray) (Q := Q) (S := S) (n := n) (g := l.length - n) (fun listed a' w' (hL : zh3 .any l.toArray (l.length - n) n (wpList P l.toArray Q (l.drop n)) listed a' w') => by
  have := wpAny_of_seq (md := .any) (Q' := Q) (l.drop n) n listed a' w' (fun j => by simp [List.getElem?_drop]) (by rw [List.length_drop]; exact hL.1) hL.2
  rwa [List.length_drop] at this) (n - 1) _ _ w.drew (h hS)
 rw [show l.toArray.size = (n - 1 + (l.length - n)) + 1 by simp; omega]
 have e : Array.replicate ((n - 1 + (l.length - n)) + 1) false = Array.replicate l.toArray.size false := by
  congr 1; simp; omega
 rw [e]; exact wpAny_take hp hsel hf hr hQ (.inl ⟨hw, hy⟩) this
end
end Go.Proofs.YtdacndamehiglaaGreatDoor
