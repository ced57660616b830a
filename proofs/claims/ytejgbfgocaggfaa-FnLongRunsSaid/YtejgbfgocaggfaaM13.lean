import Derived.Test.YtejgbfgocaggfaaM8
import Derived.Test.YtejgbfgocaggfaaM11
import Derived.Test.YtejgbfgocaggfaaM12
import Derived.Test.YtejgbfgocaggfaaRows
import Derived.WalkKit
import Derived.ProofKit
import Derived.Below
import Derived.ChangeSame
import Derived.Lib.SmallJoins
import Derived.Carry
import Derived.WideKeyArgs
import Derived.OpenShut
import Derived.Test.YtejgbfgocaggfaaM1
import Derived.Deep.Slices
import Derived.Deep.Fields
import Derived.Test.YtejgbfgocaggfaaM2
namespace Go.Proofs.Ytejgbfgocaggfaa
open Go.RowKit
theorem f6big_any (v : Value) (l : List UInt8) (w : World) (h : Sl ByteE w w.heap.size v l) :
    Calls Try.prog 19 #[v] w fun e w' => e = .returned (.bool (decide ((4096 : Int) < l.length))) ∧ w = w' := by
  obtain ⟨A, c, rfl, _⟩ := h
  go_enter Try.func19, Try.ntmps19
  go_wp2
  go_ret
  exact ⟨rfl, rfl⟩
def sumP (V : List Nat) (k : Nat) : Nat := ((List.range k).map (fun x => V.getD x 0)).sum
theorem sumP_succ (V : List Nat) (k : Nat) : sumP V (k + 1) = sumP V k + V.getD k 0 := by
  unfold sumP
  rw [List.range_succ, List.map_append, List.sum_append]; simp
theorem sumP_le (V : List Nat) : ∀ {k n : Nat}, k ≤ n → sumP V k ≤ sumP V n := by
  intro k n h
  induction n with
  | zero => rw [show k = 0 by omega]; exact Nat.le_refl _
  | succ n ih =>
    by_cases e : k = n + 1
    · subst e; exact Nat.le_refl _
    · rw [sumP_succ]; have := ih (by omega); omega
theorem mapN_get (V : List Nat) (k : Nat) : (V.map Int.ofNat).getD k 0 = ((V.getD k 0 : Nat) : Int) := by
  rw [List.getD_eq_getElem?_getD, List.getElem?_map, List.getD_eq_getElem?_getD]
  cases V[k]? <;> rfl
set_option maxRecDepth 100000 in
set_option maxHeartbeats 8000000 in
theorem lawLongRuns_any (v v' : Value) (l l' : List UInt8) (w : World) (h : Sl ByteE w w.heap.size v l) (h' : Sl ByteE w w.heap.size v' l') :
    Calls Try.prog 5 #[v, v'] w fun r w' => r = .returned (.bool true) ∧ Below w.heap.size w w' := by
  have HL := Lib.hid h
  have HM := Lib.hid h'
  obtain ⟨A, c, rfl, _⟩ := h
  obtain ⟨A', c', rfl, _⟩ := h'
  go_enter Try.func5, Try.ntmps5
  by_cases hl1 : (4096 : Int) < l.length
  · have e1 : decide ((4096 : Int) < l.length) = true := decide_eq_true hl1
    have F1 := Lib.hid (fun w h => f6big_any (.slice A l.length c) l w h)
    go_wp2_with fail
    refine (F1.out _ HL.out).mono ?_
    rintro r w0 ⟨rfl, rfl⟩
    rw [e1]
    go_wp2_with fail
    go_ret
    exact ⟨rfl, Below.refl _ _⟩
  have e1 : decide ((4096 : Int) < l.length) = false := decide_eq_false hl1
  by_cases hl2 : (4096 : Int) < l'.length
  · have e2 : decide ((4096 : Int) < l'.length) = true := decide_eq_true hl2
    go_wp2_with fail
    refine (f6big_any _ l _ HL.out).mono ?_
    rintro r w0 ⟨rfl, rfl⟩
    rw [e1]
    go_wp2_with fail
    refine (f6big_any _ l' _ HM.out).mono ?_
    rintro r w0 ⟨rfl, rfl⟩
    rw [e2]
    go_wp2_with fail
    go_ret
    exact ⟨rfl, Below.refl _ _⟩
  have e2 : decide ((4096 : Int) < l'.length) = false := decide_eq_false hl2
  go_wp2_with fail
  refine (f6big_any _ l _ HL.out).mono ?_
  rintro r w0 ⟨rfl, rfl⟩
  rw [e1]
  go_wp2_with fail
  refine (f6big_any _ l' _ HM.out).mono ?_
  rintro r w0 ⟨rfl, rfl⟩
  rw [e2]
  clear hl1 hl2 e1 e2
  go_wp2_with fail
  refine (P6Auto_any _ l' _ HM.out).mono ?_
  rintro r w1 ⟨u, a, rfl, hV, hok, hb⟩
  have Ha := Lib.hid hok
  obtain ⟨h1, h2, h3, _⟩ := autoOk_get hok
  obtain ⟨h4, h5⟩ := autoOk_start hok
  obtain ⟨S, hS⟩ : ∃ S, a.next.length = S := ⟨_, rfl⟩
  have HS := Lib.hid hS
  have hst : a.states = (S : Int) := by omega
  have hS24 : S ≤ 24 := by omega
  have Hst := Lib.hid hst
  obtain ⟨s0, hs0⟩ := Int.eq_ofNat_of_zero_le h4
  have Hs0 := Lib.hid hs0
  obtain ⟨vF, vN, rfl, hF, hN⟩ := (id hV : AutoV w1 w1.heap.size u a)
  obtain ⟨AF, cF, rfl, _⟩ := hF
  obtain ⟨AN, cN, rfl, _⟩ := hN
  rw [hs0, hst] at hV
  rw [hs0, hst]
  clear hok h1 h2 h3 h4 h5 hS hst hs0
  have HB0 := Lib.hid (Below.refl w.heap.size w)
  have hVA := hV
  have ba := hb.alloc hb.size (Obj.cells #[.int .i64 (S : Int), .int .i64 (s0 : Int), .slice AF a.finals.length cF, .slice AN a.next.length cN] 45)
  have b1 := (Below.refl _ w1).alloc (Nat.le_refl _) (Obj.cells #[.int .i64 (S : Int), .int .i64 (s0 : Int), .slice AF a.finals.length cF, .slice AN a.next.length cN] 45)
  have nK := Blk.new w1 #[.int .i64 (S : Int), .int .i64 (s0 : Int), .slice AF a.finals.length cF, .slice AN a.next.length cN] 45
  have nVA := (hVA).up b1
  have HB1 := Lib.hid (Below.tr HB0.out ba)
  clear HB0
  have KA1 := Lib.hid nK
  have VA1 := Lib.hid nVA
  clear nK ba b1 hb nVA
  go_upto_region 4 with fail
  generalize (w1.alloc (Obj.cells #[.int .i64 (S : Int), .int .i64 (s0 : Int), .slice AF a.finals.length cF, .slice AN a.next.length cN] 45)) = W1 at KA1 VA1 HB1 ⊢
  go_wp2_with fail
  refine (P6Huge_any _ l _ (HL.out.up HB1.out)).mono ?_
  rintro r w2 ⟨u2, xs, rfl, hsl, hg, hb⟩
  obtain ⟨AX, cX, rfl, _⟩ := (id hsl : Sl RuleE w2 w2.heap.size u2 xs)
  obtain ⟨_, lx, hlx⟩ := gram_lens hg
  have HG := Lib.hid hg
  have HX := Lib.hid hlx
  clear hg hlx
  have ba := hb.alloc hb.size (Obj.cells #[.slice AX xs.length cX] 31)
  have b1 := (Below.refl _ w2).alloc (Nat.le_refl _) (Obj.cells #[.slice AX xs.length cX] 31)
  have nK := Blk.new w2 #[.slice AX xs.length cX] 31
  have nSG := (hsl).up b1
  have KA2 := Lib.hid (KA1.out.up ba)
  have VA2 := Lib.hid (VA1.out.up ba)
  have HB2 := Lib.hid (Below.tr HB1.out ba)
  clear KA1 VA1 HB1
  have KG2 := Lib.hid nK
  have SG2 := Lib.hid nSG
  clear nK ba b1 hb nSG
  go_upto_region 5 with fail
  generalize (w2.alloc (Obj.cells #[.slice AX xs.length cX] 31)) = W2 at KA2 VA2 KG2 SG2 HB2 ⊢
  have cG0 := Blk.cell (i := 0) (v := .slice AX xs.length cX) KG2.out rfl
  have lG := Blk.lt KG2.out
  go_wp2_with fail
  refine (specLengthOf_any _ xs lx _ SG2.out HG.out HX.out).mono ?_
  rintro r w3 ⟨rfl, hb⟩
  have KA3 := Lib.hid (KA2.out.up hb)
  have VA3 := Lib.hid (VA2.out.up hb)
  have KG3 := Lib.hid (KG2.out.up hb)
  have SG3 := Lib.hid (SG2.out.up hb)
  have HB3 := Lib.hid (Below.tr HB2.out hb)
  clear KA2 VA2 KG2 SG2 HB2
  clear hb cG0 lG
  obtain ⟨n0, n1⟩ := lastI_bounds HX.out
  obtain ⟨n, hn⟩ := Int.eq_ofNat_of_zero_le n0
  have Hn := Lib.hid hn
  rw [hn] at n1
  rw [hn]
  have hwn : IntKind.i64.wrap ((n : Int) + 1) = (n : Int) + 1 := IntWalk.i64_in _ (by omega)
  clear n0 hn
  go_wp2_with fail
  refine (P6Pick_any _ l' _ _ (HM.out.up HB3.out)).mono ?_
  rintro r w4 ⟨i, rfl, hi, _, hb⟩
  have hin : i ≤ n := by omega
  have KA4 := Lib.hid (KA3.out.up hb)
  have VA4 := Lib.hid (VA3.out.up hb)
  have KG4 := Lib.hid (KG3.out.up hb)
  have SG4 := Lib.hid (SG3.out.up hb)
  have HB4 := Lib.hid (Below.tr HB3.out hb)
  clear KA3 VA3 KG3 SG3 HB3
  clear hb hi hwn
  have hx400 : xs.length ≤ 1048576 := by have := (gram_lens HG.out).1; omega
  have Hsm := Lib.hid (gram_small1 HG.out)
  have cG0 := Blk.cell (i := 0) (v := .slice AX xs.length cX) KG4.out rfl
  have lG := Blk.lt KG4.out
  go_wp2_with fail
  refine (specPart_any _ xs 0 (i : Int) _ SG4.out hx400 Hsm.out).mono ?_
  rintro r w5 ⟨hb, vL, own, rfl⟩
  obtain ⟨L, hL⟩ : ∃ O, partOut xs 0 (i : Int) = O := ⟨_, rfl⟩
  obtain ⟨cL, hcL⟩ : ∃ O, partCode xs 0 (i : Int) = O := ⟨_, rfl⟩
  rw [hL] at own
  rw [hcL]
  have PL := Lib.hid (And.intro hL hcL)
  obtain ⟨AL, cLx, rfl, _⟩ := own_nil own
  have hsl := OwnRules.sl own
  clear hL hcL own cG0 lG
  have ba := hb.alloc hb.size (Obj.cells #[.slice AL L.length cLx] 31)
  have b1 := (Below.refl _ w5).alloc (Nat.le_refl _) (Obj.cells #[.slice AL L.length cLx] 31)
  have nK := Blk.new w5 #[.slice AL L.length cLx] 31
  have nSL := (hsl).up b1
  have KA5 := Lib.hid (KA4.out.up ba)
  have VA5 := Lib.hid (VA4.out.up ba)
  have KG5 := Lib.hid (KG4.out.up ba)
  have SG5 := Lib.hid (SG4.out.up ba)
  have HB5 := Lib.hid (Below.tr HB4.out ba)
  clear KA4 VA4 KG4 SG4 HB4
  have KL5 := Lib.hid nK
  have SL5 := Lib.hid nSL
  clear nK ba b1 hb nSL
  go_upto_region 8 with fail
  generalize (w5.alloc (Obj.cells #[.slice AL L.length cLx] 31)) = W5 at KA5 VA5 KG5 SG5 KL5 SL5 HB5 ⊢
  have cG0 := Blk.cell (i := 0) (v := .slice AX xs.length cX) KG5.out rfl
  have lG := Blk.lt KG5.out
  go_wp2_with fail
  refine (specPart_any _ xs (i : Int) (n : Int) _ SG5.out hx400 Hsm.out).mono ?_
  rintro r w6 ⟨hb, vR, own, rfl⟩
  obtain ⟨R, hR⟩ : ∃ O, partOut xs (i : Int) (n : Int) = O := ⟨_, rfl⟩
  obtain ⟨cR, hcR⟩ : ∃ O, partCode xs (i : Int) (n : Int) = O := ⟨_, rfl⟩
  rw [hR] at own
  rw [hcR]
  have PR := Lib.hid (And.intro hR hcR)
  obtain ⟨AR, cRx, rfl, _⟩ := own_nil own
  have hsl := OwnRules.sl own
  clear hR hcR own cG0 lG
  have ba := hb.alloc hb.size (Obj.cells #[.slice AR R.length cRx] 31)
  have b1 := (Below.refl _ w6).alloc (Nat.le_refl _) (Obj.cells #[.slice AR R.length cRx] 31)
  have nK := Blk.new w6 #[.slice AR R.length cRx] 31
  have nSR := (hsl).up b1
  have KA6 := Lib.hid (KA5.out.up ba)
  have VA6 := Lib.hid (VA5.out.up ba)
  have KG6 := Lib.hid (KG5.out.up ba)
  have SG6 := Lib.hid (SG5.out.up ba)
  have KL6 := Lib.hid (KL5.out.up ba)
  have SL6 := Lib.hid (SL5.out.up ba)
  have HB6 := Lib.hid (Below.tr HB5.out ba)
  clear KA5 VA5 KG5 SG5 KL5 SL5 HB5
  have KR6 := Lib.hid nK
  have SR6 := Lib.hid nSR
  clear nK ba b1 hb nSR
  go_upto_region 9 with fail
  generalize (w6.alloc (Obj.cells #[.slice AR R.length cRx] 31)) = W6 at KA6 VA6 KG6 SG6 KL6 SL6 KR6 SR6 HB6 ⊢
  have q1 : cL = 3 ∨ (cL = 0 ∧ gramOk L = true ∧ wordG L = cutL (wordG xs) 0 (i : Int)) := by
    have := part_yes HG.out HX.out (i := 0) (j := (i : Int)) ⟨by omega, by omega, by rw [Hn.out]; omega⟩
    rwa [PL.out.1, PL.out.2] at this
  have q2 : cR = 3 ∨ (cR = 0 ∧ gramOk R = true ∧ wordG R = cutL (wordG xs) (i : Int) (lastI lx)) := by
    have := part_yes HG.out HX.out (i := (i : Int)) (j := (n : Int)) ⟨by omega, by omega, by rw [Hn.out]; omega⟩
    rw [PR.out.1, PR.out.2] at this
    rwa [Hn.out]
  rcases q1 with rfl | ⟨rfl, gL, wL⟩
  · clear q2
    go_wp2_with fail
    go_ret
    exact ⟨rfl, HB6.out⟩
  rcases q2 with rfl | ⟨rfl, gR, wR⟩
  · clear gL wL
    go_wp2_with fail
    go_ret
    exact ⟨rfl, HB6.out⟩
  obtain ⟨_, lsL, hlL⟩ := gram_lens gL
  obtain ⟨_, lsR, hlR⟩ := gram_lens gR
  have HLL := Lib.hid (And.intro gL hlL)
  have HRR := Lib.hid (And.intro gR hlR)
  obtain ⟨s, u, hF⟩ := lr_all Ha.out HG.out HX.out gL hlL gR hlR (i := (i : Int)) (by omega) (by rw [Hn.out]; omega) wL wR
  have HF := Lib.hid hF
  have hLn : L.length ≤ 1099511627776 := by have := (gram_lens gL).1; omega
  have hRn : R.length ≤ 1099511627776 := by have := (gram_lens gR).1; omega
  have hxn : xs.length ≤ 1099511627776 := by omega
  clear hF gL wL gR wR hlL hlR
  have cA0 := Blk.cell (i := 0) (v := .int .i64 (S : Int)) KA6.out rfl
  have cA1 := Blk.cell (i := 1) (v := .int .i64 (s0 : Int)) KA6.out rfl
  have cA2 := Blk.cell (i := 2) (v := .slice AF a.finals.length cF) KA6.out rfl
  have cA3 := Blk.cell (i := 3) (v := .slice AN a.next.length cN) KA6.out rfl
  have lA := Blk.lt KA6.out
  have cG0 := Blk.cell (i := 0) (v := .slice AX xs.length cX) KG6.out rfl
  have lG := Blk.lt KG6.out
  go_wp2_with fail
  refine (implStateAfter_any _ _ a (i : Int) xs _ VA6.out SG6.out hxn).mono ?_
  rintro r w7 ⟨rfl, hb⟩
  rw [HF.out.sv, HF.out.sc]
  have KA7 := Lib.hid (KA6.out.up hb)
  have VA7 := Lib.hid (VA6.out.up hb)
  have KG7 := Lib.hid (KG6.out.up hb)
  have SG7 := Lib.hid (SG6.out.up hb)
  have KL7 := Lib.hid (KL6.out.up hb)
  have SL7 := Lib.hid (SL6.out.up hb)
  have KR7 := Lib.hid (KR6.out.up hb)
  have SR7 := Lib.hid (SR6.out.up hb)
  have HB7 := Lib.hid (Below.tr HB6.out hb)
  clear KA6 VA6 KG6 SG6 KL6 SL6 KR6 SR6 HB6
  clear hb cA0 cA1 cA2 cA3 lA cG0 lG
  have cA0 := Blk.cell (i := 0) (v := .int .i64 (S : Int)) KA7.out rfl
  have cA1 := Blk.cell (i := 1) (v := .int .i64 (s0 : Int)) KA7.out rfl
  have cA2 := Blk.cell (i := 2) (v := .slice AF a.finals.length cF) KA7.out rfl
  have cA3 := Blk.cell (i := 3) (v := .slice AN a.next.length cN) KA7.out rfl
  have lA := Blk.lt KA7.out
  have cL0 := Blk.cell (i := 0) (v := .slice AL L.length cLx) KL7.out rfl
  have lL := Blk.lt KL7.out
  go_wp2_with fail
  refine (implRunGrammar_any _ _ a (s0 : Int) L _ VA7.out SL7.out hLn).mono ?_
  rintro r w8 ⟨rfl, hb⟩
  rw [← Hs0.out, HF.out.lv, HF.out.lc]
  have KA8 := Lib.hid (KA7.out.up hb)
  have VA8 := Lib.hid (VA7.out.up hb)
  have KG8 := Lib.hid (KG7.out.up hb)
  have SG8 := Lib.hid (SG7.out.up hb)
  have KL8 := Lib.hid (KL7.out.up hb)
  have SL8 := Lib.hid (SL7.out.up hb)
  have KR8 := Lib.hid (KR7.out.up hb)
  have SR8 := Lib.hid (SR7.out.up hb)
  have HB8 := Lib.hid (Below.tr HB7.out hb)
  clear KA7 VA7 KG7 SG7 KL7 SL7 KR7 SR7 HB7
  clear hb cA0 cA1 cA2 cA3 lA cL0 lL
  have cA0 := Blk.cell (i := 0) (v := .int .i64 (S : Int)) KA8.out rfl
  have cA1 := Blk.cell (i := 1) (v := .int .i64 (s0 : Int)) KA8.out rfl
  have cA2 := Blk.cell (i := 2) (v := .slice AF a.finals.length cF) KA8.out rfl
  have cA3 := Blk.cell (i := 3) (v := .slice AN a.next.length cN) KA8.out rfl
  have lA := Blk.lt KA8.out
  have cR0 := Blk.cell (i := 0) (v := .slice AR R.length cRx) KR8.out rfl
  have lR := Blk.lt KR8.out
  go_wp2_with fail
  refine (implRunGrammar_any _ _ a (s : Int) R _ VA8.out SR8.out hRn).mono ?_
  rintro r w9 ⟨rfl, hb⟩
  rw [HF.out.rv, HF.out.rc]
  have KA9 := Lib.hid (KA8.out.up hb)
  have VA9 := Lib.hid (VA8.out.up hb)
  have KG9 := Lib.hid (KG8.out.up hb)
  have SG9 := Lib.hid (SG8.out.up hb)
  have KL9 := Lib.hid (KL8.out.up hb)
  have SL9 := Lib.hid (SL8.out.up hb)
  have KR9 := Lib.hid (KR8.out.up hb)
  have SR9 := Lib.hid (SR8.out.up hb)
  have HB9 := Lib.hid (Below.tr HB8.out hb)
  clear KA8 VA8 KG8 SG8 KL8 SL8 KR8 SR8 HB8
  clear hb cA0 cA1 cA2 cA3 lA cR0 lR
  have cA0 := Blk.cell (i := 0) (v := .int .i64 (S : Int)) KA9.out rfl
  have cA1 := Blk.cell (i := 1) (v := .int .i64 (s0 : Int)) KA9.out rfl
  have cA2 := Blk.cell (i := 2) (v := .slice AF a.finals.length cF) KA9.out rfl
  have cA3 := Blk.cell (i := 3) (v := .slice AN a.next.length cN) KA9.out rfl
  have lA := Blk.lt KA9.out
  have cG0 := Blk.cell (i := 0) (v := .slice AX xs.length cX) KG9.out rfl
  have lG := Blk.lt KG9.out
  go_wp2_with fail
  refine (implRunGrammar_any _ _ a (s0 : Int) xs _ VA9.out SG9.out hxn).mono ?_
  rintro r w10 ⟨rfl, hb⟩
  rw [← Hs0.out, HF.out.gv, HF.out.gc]
  have KA10 := Lib.hid (KA9.out.up hb)
  have VA10 := Lib.hid (VA9.out.up hb)
  have KG10 := Lib.hid (KG9.out.up hb)
  have SG10 := Lib.hid (SG9.out.up hb)
  have KL10 := Lib.hid (KL9.out.up hb)
  have SL10 := Lib.hid (SL9.out.up hb)
  have KR10 := Lib.hid (KR9.out.up hb)
  have SR10 := Lib.hid (SR9.out.up hb)
  have HB10 := Lib.hid (Below.tr HB9.out hb)
  clear KA9 VA9 KG9 SG9 KL9 SL9 KR9 SR9 HB9
  clear hb cA0 cA1 cA2 cA3 lA cG0 lG
  have hslt : s < S := by have := HF.out.slt; rw [HS.out] at this; exact this
  have hs1 : ¬ ((S : Int) ≤ (s : Int)) := by omega
  have hs2 : ((s : Int) != (s : Int)) = false := by simp
  have hs3 : ((u : Int) != (u : Int)) = false := by simp
  have cA0 := Blk.cell (i := 0) (v := .int .i64 (S : Int)) KA10.out rfl
  have cA1 := Blk.cell (i := 1) (v := .int .i64 (s0 : Int)) KA10.out rfl
  have cA2 := Blk.cell (i := 2) (v := .slice AF a.finals.length cF) KA10.out rfl
  have cA3 := Blk.cell (i := 3) (v := .slice AN a.next.length cN) KA10.out rfl
  have lA := Blk.lt KA10.out
  go_upto_region 18 with fail
  clear hs1 hs2 hs3
  have ba := (Below.refl _ w10).alloc (Nat.le_refl _) (Obj.cells #[.int .i64 (S : Int), .int .i64 (s : Int), .slice AF a.finals.length cF, .slice AN a.next.length cN] 45)
  have nK := Blk.new w10 #[.int .i64 (S : Int), .int .i64 (s : Int), .slice AF a.finals.length cF, .slice AN a.next.length cN] 45
  have nV : AutoV w10 w10.heap.size (.agg #[.int .i64 (S : Int), .int .i64 (s : Int), .slice AF a.finals.length cF, .slice AN a.next.length cN]) ⟨a.states, (s : Int), a.finals, a.next⟩ := by
    obtain ⟨vF, vN, e, h1, h2⟩ := VA10.out
    injection e with e; simp at e; obtain ⟨_, _, rfl, rfl⟩ := e
    exact ⟨_, _, by rw [Hst.out], h1, h2⟩
  have nV' := nV.up ba
  have KA11 := Lib.hid (KA10.out.up ba)
  have VA11 := Lib.hid (VA10.out.up ba)
  have KG11 := Lib.hid (KG10.out.up ba)
  have SG11 := Lib.hid (SG10.out.up ba)
  have KL11 := Lib.hid (KL10.out.up ba)
  have SL11 := Lib.hid (SL10.out.up ba)
  have KR11 := Lib.hid (KR10.out.up ba)
  have SR11 := Lib.hid (SR10.out.up ba)
  have HB11 := Lib.hid (Below.tr HB10.out ba)
  clear KA10 VA10 KG10 SG10 KL10 SL10 KR10 SR10 HB10
  have KB11 := Lib.hid nK
  have VB11 := Lib.hid nV'
  clear nK nV nV' ba cA0 cA1 cA2 cA3 lA
  generalize (w10.alloc (Obj.cells #[.int .i64 (S : Int), .int .i64 (s : Int), .slice AF a.finals.length cF, .slice AN a.next.length cN] 45)) = W11 at KA11 VA11 KG11 SG11 KL11 SL11 KR11 SR11 KB11 VB11 HB11 ⊢
  have Hb := Lib.hid (auto_from Ha.out HF.out.slt)
  have cA0 := Blk.cell (i := 0) (v := .int .i64 (S : Int)) KA11.out rfl
  have cA1 := Blk.cell (i := 1) (v := .int .i64 (s0 : Int)) KA11.out rfl
  have cA2 := Blk.cell (i := 2) (v := .slice AF a.finals.length cF) KA11.out rfl
  have cA3 := Blk.cell (i := 3) (v := .slice AN a.next.length cN) KA11.out rfl
  have lA := Blk.lt KA11.out
  have cL0 := Blk.cell (i := 0) (v := .slice AL L.length cLx) KL11.out rfl
  have lL := Blk.lt KL11.out
  go_wp2_with fail
  refine (implVisitCounts_any _ _ a L lsL _ VA11.out SL11.out Ha.out HLL.out.1 HLL.out.2).mono ?_
  rintro r wx ⟨ux, rfl, hU, hb⟩
  obtain ⟨Vx, hVx⟩ : ∃ V, visOut a L lsL (lastI lsL) = V := ⟨_, rfl⟩
  rw [hVx] at hU
  have Ex := Lib.hid hVx
  have Lx : (Vx.map Int.ofNat).length = S := by rw [List.length_map, ← hVx, HF.out.vl, HS.out]
  have HUx := Lib.hid hU
  obtain ⟨Ax, cx, rfl, _⟩ := hU
  rw [Lx]
  have Qx := Lib.hid Lx
  clear hVx Lx
  have KA12 := Lib.hid (KA11.out.up hb)
  have VA12 := Lib.hid (VA11.out.up hb)
  have KG12 := Lib.hid (KG11.out.up hb)
  have SG12 := Lib.hid (SG11.out.up hb)
  have KL12 := Lib.hid (KL11.out.up hb)
  have SL12 := Lib.hid (SL11.out.up hb)
  have KR12 := Lib.hid (KR11.out.up hb)
  have SR12 := Lib.hid (SR11.out.up hb)
  have KB12 := Lib.hid (KB11.out.up hb)
  have VB12 := Lib.hid (VB11.out.up hb)
  have HB12 := Lib.hid (Below.tr HB11.out hb)
  clear KA11 VA11 KG11 SG11 KL11 SL11 KR11 SR11 KB11 VB11 HB11
  clear hb cA0 cA1 cA2 cA3 lA cL0 lL
  have Ux12 := HUx
  have cB0 := Blk.cell (i := 0) (v := .int .i64 (S : Int)) KB12.out rfl
  have cB1 := Blk.cell (i := 1) (v := .int .i64 (s : Int)) KB12.out rfl
  have cB2 := Blk.cell (i := 2) (v := .slice AF a.finals.length cF) KB12.out rfl
  have cB3 := Blk.cell (i := 3) (v := .slice AN a.next.length cN) KB12.out rfl
  have lB := Blk.lt KB12.out
  have cR0 := Blk.cell (i := 0) (v := .slice AR R.length cRx) KR12.out rfl
  have lR := Blk.lt KR12.out
  go_wp2_with fail
  refine (implVisitCounts_any _ _ ⟨a.states, (s : Int), a.finals, a.next⟩ R lsR _ VB12.out SR12.out Hb.out HRR.out.1 HRR.out.2).mono ?_
  rintro r wy ⟨uy, rfl, hU, hb⟩
  obtain ⟨Vy, hVy⟩ : ∃ V, visOut ⟨a.states, (s : Int), a.finals, a.next⟩ R lsR (lastI lsR) = V := ⟨_, rfl⟩
  rw [hVy] at hU
  have Ey := Lib.hid hVy
  have Ly : (Vy.map Int.ofNat).length = S := by rw [List.length_map, ← hVy, HF.out.vr, HS.out]
  have HUy := Lib.hid hU
  obtain ⟨Ay, cy, rfl, _⟩ := hU
  rw [Ly]
  have Qy := Lib.hid Ly
  clear hVy Ly
  have KA13 := Lib.hid (KA12.out.up hb)
  have VA13 := Lib.hid (VA12.out.up hb)
  have KG13 := Lib.hid (KG12.out.up hb)
  have SG13 := Lib.hid (SG12.out.up hb)
  have KL13 := Lib.hid (KL12.out.up hb)
  have SL13 := Lib.hid (SL12.out.up hb)
  have KR13 := Lib.hid (KR12.out.up hb)
  have SR13 := Lib.hid (SR12.out.up hb)
  have KB13 := Lib.hid (KB12.out.up hb)
  have VB13 := Lib.hid (VB12.out.up hb)
  have Ux13 := Lib.hid (Ux12.out.up hb)
  have HB13 := Lib.hid (Below.tr HB12.out hb)
  clear KA12 VA12 KG12 SG12 KL12 SL12 KR12 SR12 KB12 VB12 Ux12 HB12
  clear hb cB0 cB1 cB2 cB3 lB cR0 lR
  have Uy13 := HUy
  have cA0 := Blk.cell (i := 0) (v := .int .i64 (S : Int)) KA13.out rfl
  have cA1 := Blk.cell (i := 1) (v := .int .i64 (s0 : Int)) KA13.out rfl
  have cA2 := Blk.cell (i := 2) (v := .slice AF a.finals.length cF) KA13.out rfl
  have cA3 := Blk.cell (i := 3) (v := .slice AN a.next.length cN) KA13.out rfl
  have lA := Blk.lt KA13.out
  have cG0 := Blk.cell (i := 0) (v := .slice AX xs.length cX) KG13.out rfl
  have lG := Blk.lt KG13.out
  go_wp2_with fail
  refine (implVisitCounts_any _ _ a xs lx _ VA13.out SG13.out Ha.out HG.out HX.out).mono ?_
  rintro r wz ⟨uz, rfl, hU, hb⟩
  obtain ⟨Vz, hVz⟩ : ∃ V, visOut a xs lx (lastI lx) = V := ⟨_, rfl⟩
  rw [hVz] at hU
  have Ez := Lib.hid hVz
  have Lz : (Vz.map Int.ofNat).length = S := by rw [List.length_map, ← hVz, HF.out.vg, HS.out]
  have HUz := Lib.hid hU
  obtain ⟨Az, cz, rfl, _⟩ := hU
  rw [Lz]
  have Qz := Lib.hid Lz
  clear hVz Lz
  have KA14 := Lib.hid (KA13.out.up hb)
  have VA14 := Lib.hid (VA13.out.up hb)
  have KG14 := Lib.hid (KG13.out.up hb)
  have SG14 := Lib.hid (SG13.out.up hb)
  have KL14 := Lib.hid (KL13.out.up hb)
  have SL14 := Lib.hid (SL13.out.up hb)
  have KR14 := Lib.hid (KR13.out.up hb)
  have SR14 := Lib.hid (SR13.out.up hb)
  have KB14 := Lib.hid (KB13.out.up hb)
  have VB14 := Lib.hid (VB13.out.up hb)
  have Ux14 := Lib.hid (Ux13.out.up hb)
  have Uy14 := Lib.hid (Uy13.out.up hb)
  have HB14 := Lib.hid (Below.tr HB13.out hb)
  clear KA13 VA13 KG13 SG13 KL13 SL13 KR13 SR13 KB13 VB13 Ux13 Uy13 HB13
  clear hb cA0 cA1 cA2 cA3 lA cG0 lG
  have Uz14 := HUz
  have cA0 := Blk.cell (i := 0) (v := .int .i64 (S : Int)) KA14.out rfl
  have cA1 := Blk.cell (i := 1) (v := .int .i64 (s0 : Int)) KA14.out rfl
  have cA2 := Blk.cell (i := 2) (v := .slice AF a.finals.length cF) KA14.out rfl
  have cA3 := Blk.cell (i := 3) (v := .slice AN a.next.length cN) KA14.out rfl
  have lA := Blk.lt KA14.out
  have hSS : ((S : Int) != (S : Int)) = false := by simp
  go_wp2_with fail
  clear hSS cA1 cA2 cA3
  obtain ⟨WW, hWW⟩ : ∃ x : World, x = wz := ⟨_, rfl⟩
  have hadd : ∀ x, Vx.getD x 0 + Vy.getD x 0 = Vz.getD x 0 := fun x => by rw [← Ex.out, ← Ey.out, ← Ez.out]; exact HF.out.add x
  have hsum : sumP Vz S = n := by unfold sumP; rw [← Ez.out, ← HS.out, HF.out.sum, Hn.out]; simp
  have Hadd := Lib.hid hadd
  have Hsum := Lib.hid hsum
  clear hadd hsum hWW
  go_loopw [29, 30] (fun t i wx => ∃ k : Nat, k ≤ S ∧ i = .int .i64 k ∧ t = .int .i64 (sumP Vz k : Nat) ∧ Below wz.heap.size wz wx) (fun _ i _ => S - (intOf i).toNat)
  case atStart => exact ⟨0, Nat.zero_le _, rfl, rfl, Below.refl _ _⟩
  case round =>
    obtain ⟨k, hk, rfl, rfl, hb⟩ := hrel
    have cA := (hb.cell (p := ⟨w1.heap.size, 0, none⟩) lA).trans cA0
    have zA := Nat.lt_of_lt_of_le lA hb.size
    have HBB := Lib.hid (HB14.out.trans (hb.mono (by have := HB14.out.size; omega)))
    by_cases hkS : k < S
    · have hks2 : (k : Int) < (S : Int) := by omega
      obtain ⟨_, _, ex, _, _, hx⟩ := Ux14.out.up hb
      obtain ⟨abx, aox, qx, zx, gx⟩ := hx.int (k := k) (by rw [Qx.out]; exact hkS)
      injection ex with ex _ ecx
      subst ecx
      rw [qx] at ex
      subst ex
      have dx := gx k (by rw [Qx.out]; exact hkS)
      rw [show (Vx.map Int.ofNat).getD k 0 = ((Vx.getD k 0 : Nat) : Int) from mapN_get _ _] at dx
      clear hx gx qx
      obtain ⟨_, _, ey, _, _, hy⟩ := Uy14.out.up hb
      obtain ⟨aby, aoy, qy, zy, gy⟩ := hy.int (k := k) (by rw [Qy.out]; exact hkS)
      injection ey with ey _ ecy
      subst ecy
      rw [qy] at ey
      subst ey
      have dy := gy k (by rw [Qy.out]; exact hkS)
      rw [show (Vy.map Int.ofNat).getD k 0 = ((Vy.getD k 0 : Nat) : Int) from mapN_get _ _] at dy
      clear hy gy qy
      obtain ⟨_, _, ez, _, _, hz⟩ := Uz14.out.up hb
      obtain ⟨abz, aoz, qz, zz, gz⟩ := hz.int (k := k) (by rw [Qz.out]; exact hkS)
      injection ez with ez _ ecz
      subst ecz
      rw [qz] at ez
      subst ez
      have dz := gz k (by rw [Qz.out]; exact hkS)
      rw [show (Vz.map Int.ofNat).getD k 0 = ((Vz.getD k 0 : Nat) : Int) from mapN_get _ _] at dz
      clear hz gz qz
      have h1 := Hadd.out k
      have h2 := sumP_le Vz (show k + 1 ≤ S by omega)
      rw [Hsum.out, sumP_succ] at h2
      have h3 : sumP Vz (k + 1) = sumP Vz k + Vz.getD k 0 := sumP_succ _ _
      have H3 := Lib.hid h3
      generalize sumP Vz k = T at *
      generalize Vx.getD k 0 = X at *
      generalize Vy.getD k 0 = Y at *
      generalize Vz.getD k 0 = Z at *
      have hw1 : IntKind.i64.wrap ((T : Int) + (Z : Int)) = (T : Int) + (Z : Int) := IntWalk.i64_in _ (by omega)
      have hw2 : IntKind.i64.wrap ((X : Int) + (Y : Int)) = (Z : Int) := by rw [IntWalk.i64_in _ (by omega)]; omega
      have hbw := hb
      clear h1 h2 h3 hb
      go_wp2_with fail
      go_quiet (fail)
      have E1 : Value.int .i64 ((T : Int) + (Z : Int)) = .int .i64 ((sumP Vz (k + 1) : Nat) : Int) := by rw [H3.out]; rfl
      have E2 : Value.int .i64 ((k : Int) + 1) = .int .i64 ((k + 1 : Nat) : Int) := rfl
      have E3 : k + 1 ≤ S := hkS
      have hbn := below_drewN hbw nq
      have F1 := Lib.hid E1
      have F2 := Lib.hid E2
      clear dx dy dz hw2 hw1 hbw E1 E2
      go_wp2_with fail
      go_roundw
      case rel =>
        refine ⟨k + 1, E3, ?_, ?_, ?_⟩
        · exact F2.out
        · exact F1.out
        · exact hbn
      case measure => simp [intOf]; omega
    · have hkk : k = S := by omega
      subst hkk
      rw [Hsum.out]
      go_wp2_with fail
      go_ret
      exact ⟨rfl, HBB.out⟩
open Go.RowKit Go.WideShapes Go.ChangeShapes
section
variable {H : Type} {enc : TypeId × Value → H} {P : Program}
theorem post_of_below {f : Func} {s : ChangeSpec} {apart fresh handsOn again : Bool} {W W' : World} {args : Array Value} {v : Value} {ds gs : List (DataW H)} {before pa pv : List MemPlace}
    (hW : DataW.Whole enc P f.params.toList s.vars apart W args.toList ds gs before)
    (hres : ∀ (b : Nat) (sp : Nat → Bool) (hd : Bool), DataW.TrodAll enc P W' b sp hd f.resultTypes.toList (v.resultList f.resultTypes.size) (s.fn H (ds ++ gs)).results [])
    (hargs : ∀ sp : Nat → Bool, (∀ p ∈ before, sp p.block = true) → DataW.TrodAll enc P W' 0 sp true f.params.toList args.toList (s.fn H (ds ++ gs)).args pa)
    (hvars : ∀ sp : Nat → Bool, (∀ p ∈ before, sp p.block = true) → DataW.TrodVars enc P W' sp s.vars (s.fn H (ds ++ gs)).vars pv)
    (hps : before = pa ++ pv) (hb : Below W.heap.size W W')
    (hok : ∀ (j : Nat) (t : TypeId) (r : Value), f.resultTypes[j]? = some t → (v.resultList f.resultTypes.size)[j]? = some r → Value.okWide P W' .any 0 t r) :
    s.post enc P f apart fresh handsOn again W args v W' := by
  have hlt : ∀ p ∈ before, p.block < W.heap.size := fun p hp => hW.lt p hp
  have hold : ∀ p ∈ before, (fun b => decide (b < W.heap.size)) p.block = true := fun p hp => by simpa using hlt p hp
  refine ⟨ds, gs, before, [], pa, pv, hW, hres _ _ _, hargs _ hold, hvars _ hold, World.keptBut_mono (fun p hp => ⟨hp, ?_⟩) (hb.frame (· ∈ before)), fun _ => ?_⟩
  · rw [hps, List.mem_append] at hp
    exact Or.inr hp
  · obtain ⟨_, _, _, _, _, hz, hn⟩ := hW
    refine ⟨hok, _, _, ([] ++ pa) ++ pv, ⟨[] ++ pa, pv, trodAll_append (hargs _ (fun _ _ => rfl)) (hres _ _ _), hvars _ (fun _ _ => rfl), rfl, ?_, ?_⟩, ?_⟩
    · intro b off hp
      have hin : MemPlace.cell b off ∈ before := by rw [hps]; simpa using hp
      rw [hb.frozen (hlt _ hin)]
      exact hz b off hin
    · intro ha
      have := hn ha
      rw [hps] at this
      simpa using this
    · intro p hp _
      rw [hps]
      simpa using hp
theorem trodAll_below (hl : laidOutB P = true) {W W' : World} (hb : Below W.heap.size W W') : ∀ {ts : List TypeId} {vs : List Value} {ds : List (DataW H)} {ps : List MemPlace},
    (∀ t ∈ ts, P.readableRec t = true ∧ t < P.types.size) → DataW.TrodAll enc P W 0 (fun _ => true) true ts vs ds ps → (∀ x ∈ ps, x.block < W.heap.size) → ∀ sp : Nat → Bool, (∀ p ∈ ps, sp p.block = true) →
    DataW.TrodAll enc P W' 0 sp true ts vs ds ps
  | [], _, _, _, _, h, _, _, _ => by
    obtain ⟨rfl, rfl, rfl⟩ := trodAll_nil h
    exact trodAll_mk0
  | t :: ts, vs, ds, ps, hts, h, hlt, sp, hsp => by
    obtain ⟨v, vs', d, ds', p, q, rfl, rfl, rfl, h0, r0⟩ := trodAll_cons h
    refine trodAll_cons_mk (WideElems.Trod_stays hl (hts t (by simp)).1 (hts t (by simp)).2 h0 (fun x hx => hb.same (hlt x (by simp [hx]))) (fun x hx => hsp x (by simp [hx]))) ?_
    exact trodAll_below hl hb (fun t ht => hts t (by simp [ht])) r0 (fun x hx => hlt x (by simp [hx])) sp (fun x hx => hsp x (by simp [hx]))
end
theorem laidOut : laidOutB Try.prog = true := by kernel_rfl
theorem own : ownKnob Try.prog.godebug = none := by kernel_rfl
open Go.RowKit Go.ChangeShapes Go.WideShapes Go.Deep
section
variable {H : Type} {enc : TypeId × Value → H} {P : Program} {w : World} {base : Nat} {spare : Nat → Bool} {held : Bool}
theorem add_plain (b o n : Nat) : (⟨b, o, none⟩ : Addr).add n = ⟨b, o + n, none⟩ := by unfold Addr.add; split <;> simp_all
theorem spot_none {a : Addr} {v : Value} (h : w.cell? a = some v) : a = ⟨a.block, a.off, none⟩ ∧ a.block < w.heap.size := by
  have hl := World.block_lt_of_cell? w a h
  refine ⟨?_, hl⟩
  obtain ⟨b, o, s⟩ := a
  unfold World.cell? at h
  cases s with
  | none => rfl
  | some s => split at h <;> simp at h
theorem len_map_range {α : Type} (f : Nat → α) (n : Nat) : ((List.range n).map f).length = n := by simp
end
open Go.RowKit Go.ChangeShapes Go.WideShapes Go.Deep
def Opens {α : Type} (P : Program) (E : Enc α) (Q : α → Prop) (t : TypeId) : Prop :=
  ∀ {H : Type} (enc : TypeId × Value → H) (w : World) (base : Nat) (spare : Nat → Bool) (held : Bool) (fuel : Nat) (cs : List Value) (x : DataW H × List MemPlace), DataW.trod enc P w base spare held fuel t cs = some x → ∃ a, E.cells w (· < w.heap.size) a cs ∧ Q a
instance : Inhabited GRule := ⟨⟨⟨#[]⟩, 0, 0⟩⟩
theorem opens_slice {α : Type} {P : Program} {E : Enc α} {Q : α → Prop} {t e : TypeId} [Inhabited α] (hE : Opens P E Q e) (ht : P.underlying t = some (.slice e)) (hC : P.cellsOf e = E.size) : Opens P (SliceE E) (fun xs => ∀ x ∈ xs, Q x) t := by
  intro H enc w base spare held fuel cs x h
  rcases open_slice ht h with ⟨h0, _⟩ | ⟨a, len, cap, m, n, D, Pl, hcs, hb, hl, hm, hmm, hx, hi⟩
  · exact ⟨[], ⟨_, h0, SlS.nil _ _⟩, fun x hx => by simp at hx⟩
  · have hmle : len ≤ m := by rw [hmm]; split <;> omega
    have Hh : ∀ i, i < len → ∃ r : α, ∃ cs', E.cells w (· < w.heap.size) r cs' ∧ (∀ j u, cs'[j]? = some u → w.cell? (a.add (i * E.size + j)) = some u) ∧ Q r := by
      intro i hil
      obtain ⟨cs', hc, ht'⟩ := hi i (by omega)
      obtain ⟨r, hr, hq⟩ := hE enc w base spare held n cs' _ ht'
      obtain ⟨_, hcl, hat⟩ := World.cells?_some hc
      refine ⟨r, cs', hr, fun j u hu => ?_, hq⟩
      have hj : j < cs'.length := (List.getElem?_eq_some_iff.1 hu).1
      rw [← Go.Deep.add_add, ← hC, hat j (by omega), hu]
    obtain ⟨F, hF⟩ := choose_lt Hh
    clear Hh
    refine ⟨(List.range len).map F, ⟨.slice (some a) len cap, hcs, some a, cap, by rw [len_map_range], by rw [len_map_range]; exact hl, hm, fun hn => ?_⟩, ?_⟩
    · rw [len_map_range] at hn
      obtain ⟨cs', h1, h2, _⟩ := hF 0 hn
      have hlen := E.len h1
      have hpos := E.pos
      have g0 := h2 0 cs'[0] (List.getElem?_eq_getElem (by omega))
      have ha : a.add (0 * E.size + 0) = a := by simp [Addr.add]
      rw [ha] at g0
      obtain ⟨hsp, hlt⟩ := spot_none g0
      refine ⟨a.block, a.off, by rw [← hsp], hlt, fun k r hr => ?_⟩
      have hk : k < len := by
        have := (List.getElem?_eq_some_iff.1 hr).1
        rw [len_map_range] at this; exact this
      have er : F k = r := by
        rw [List.getElem?_map, List.getElem?_range hk] at hr; simpa using hr
      obtain ⟨cs'', h3, h4, _⟩ := hF k hk
      rw [er] at h3
      refine ⟨cs'', h3, fun j u hu => ?_⟩
      have := h4 j u hu
      rw [hsp, add_plain] at this
      exact this
    · intro r hr
      rw [List.mem_map] at hr
      obtain ⟨k, hk, rfl⟩ := hr
      exact (hF k (by simpa using hk)).choose_spec.2.2
open Go.ChangeShapes Go.WideShapes Go.ChangeAt Go.RowKit Go.Joins Go.Deep
theorem opens_byte {P : Program} {t : TypeId} (ht : P.underlying t = some (.int .u8)) : Opens P ByteE (fun _ => True) t := by
  intro H enc w base spare held fuel cs x h
  obtain ⟨p, e1, _, e2⟩ := DataW.trod_int ht h
  have hp : 0 ≤ p ∧ p < 256 := by
    have h1 : IntKind.u8.min ≤ p ∧ p ≤ IntKind.u8.max := by simpa [Lit.wf] using e2
    have m1 : IntKind.u8.min = 0 := by decide
    have m2 : IntKind.u8.max = 255 := by decide
    rw [m1, m2] at h1
    omega
  refine ⟨UInt8.ofNat p.toNat, ?_, trivial⟩
  rw [e1]
  have : (UInt8.ofNat p.toNat).toNat = p.toNat := by rw [UInt8.toNat_ofNat']; omega
  show [Value.int .u8 p] = [.int .u8 ((UInt8.ofNat p.toNat).toNat : Int)]
  rw [this]
  congr 2
  omega
instance : Inhabited UInt8 := ⟨0⟩
set_option maxRecDepth 100000 in
theorem opensBytes : Opens Try.prog (SliceE ByteE) (fun xs => ∀ x ∈ xs, True) 41 := opens_slice (opens_byte Try.underlying5) Try.underlying41 (by kernel_rfl)
set_option maxRecDepth 100000 in
theorem open_bytes {H : Type} {enc : TypeId × Value → H} {w : World} {base : Nat} {spare : Nat → Bool} {held : Bool} {r : Reach} {b0 : Nat} {v : Value} {d : DataW H} {p : List MemPlace}
    (hv : Value.okWide Try.prog w r b0 41 v) (h : DataW.Trod enc Try.prog w base spare held 41 v d p) : ∃ xs, Sl ByteE w w.heap.size v xs := by
  obtain ⟨a, len, cap, rfl⟩ := okWide_slice Try.underlying41 hv
  obtain ⟨fuel, hf⟩ := h
  obtain ⟨xs, ⟨u, e1, hsl⟩, _⟩ := opensBytes enc w base spare held fuel [.slice a len cap] _ (by simpa [Value.cells] using hf)
  simp at e1
  subst e1
  exact ⟨xs, hsl⟩
end Go.Proofs.Ytejgbfgocaggfaa
