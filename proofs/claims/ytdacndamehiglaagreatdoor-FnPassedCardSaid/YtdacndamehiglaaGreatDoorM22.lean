import Derived.Test.YtdacndamehiglaaGreatDoorM3
import Derived.Test.YtdacndamehiglaaGreatDoorM10
import Derived.Test.YtdacndamehiglaaGreatDoorM11
import Derived.Test.YtdacndamehiglaaGreatDoorM17
import Derived.Test.YtdacndamehiglaaGreatDoorM20
import Derived.Test.YtdacndamehiglaaGreatDoorM21
import Derived.Test.YtdacndamehiglaaGreatDoorM16
import Derived.Test.YtdacndamehiglaaGreatDoorRows
import Derived.WalkKit
import Derived.ProofKit
import Derived.Below
import Derived.ChangeSame
import Derived.Lib.SmallJoins
import Derived.Carry
import Derived.WideKeyArgs
import Derived.OpenShut
import Derived.Test.YtdacndamehiglaaGreatDoorM1
import Derived.Deep.Slices
import Derived.Deep.Fields
import Derived.Test.YtdacndamehiglaaGreatDoorM14
import Derived.SevenTiedAt
namespace Go.Proofs.YtdacndamehiglaaGreatDoor
open Go.RowKit
set_option maxRecDepth 100000 in
set_option maxHeartbeats 8000000 in
theorem lawPassed_any (v v' : Value) (l l' : List UInt8) (w : World) (h : Sl ByteE w w.heap.size v l) (h' : Sl ByteE w w.heap.size v' l') (htab : Lib.TabIs Tryz.prog w "math/bits.deBruijn64tab" .u8 deB64) :
    Calls Tryz.prog 5 #[v, v'] w fun r w' => r = .returned (.bool true) ∧ Below w.heap.size w w' := by
  have HL := Lib.hid h
  have HM := Lib.hid h'
  have HT := Lib.hid htab
  obtain ⟨A, c, rfl, _⟩ := h
  obtain ⟨A', c', rfl, _⟩ := h'
  clear htab
  go_enter Tryz.func5, Tryz.ntmps5
  go_wp2_with fail
  refine (a2Long_any _ _ l l' _ HL.out HM.out).mono ?_
  rintro r w0 ⟨rfl, rfl⟩
  cases hlong : (decide ((3000 : Int) < l.length) || decide ((3000 : Int) < l'.length)) with
  | true =>
    go_wp2_with fail
    go_ret
    exact ⟨rfl, Below.refl _ _⟩
  | false =>
    clear hlong
    go_wp2_with fail
    refine (A2Grammar_any _ l 30 _ HL.out).mono ?_
    rintro r w1 ⟨u1, xs, rfl, hsl, hdr, hl14, hb1⟩
    obtain ⟨AX, cX, rfl, _⟩ := (id hsl : Sl RuleE w1 w1.heap.size u1 xs)
    obtain ⟨d1, d2, d3, d4⟩ := drawnW hdr (by omega) (by omega)
    have HGX := Lib.hid hdr.1
    have HSX := Lib.hid hdr.2.2.2
    have HD1 := Lib.hid d1
    have HD := Lib.hid (And.intro d3 d4)
    have ba := (Below.refl _ w1).alloc (Nat.le_refl _) (Obj.cells #[.slice AX xs.length cX] 26)
    have KG1 := Lib.hid (Blk.new w1 #[.slice AX xs.length cX] 26)
    have SG1 := Lib.hid (hsl.up ba)
    have HB1 := Lib.hid (Below.tr hb1 ba)
    clear hb1 hdr hsl ba d1 d2 d3 d4
    go_upto_region 4 with fail
    generalize (w1.alloc (Obj.cells #[.slice AX xs.length cX] 26)) = W1 at KG1 SG1 HB1 ⊢
    generalize w1.heap.size = NG at KG1 ⊢
    have cG := Blk.cell (i := 0) (v := .slice AX xs.length cX) KG1.out rfl
    have lG := Blk.lt KG1.out
    go_wp2_with fail
    refine (Unpacked_any _ xs _ SG1.out HSX.out).mono ?_
    rintro r w2 ⟨rfl, hb⟩
    have KG2 := Lib.hid (KG1.out.up hb)
    have SG2 := Lib.hid (SG1.out.up hb)
    have HB2 := Lib.hid (Below.tr HB1.out hb)
    clear KG1 SG1 HB1
    clear hb cG lG
    have hsz : ((upV xs).length : Int) = gramLen xs := by rw [HD1.out]; exact HD.out.1
    have hn30 : gramLen xs ≤ 30 := by have h1 := HD.out; omega
    have hn0 := (gramLen_bounds xs).1
    obtain ⟨n, hn⟩ : ∃ n, gramLen xs = n := ⟨_, rfl⟩
    rw [hn] at hsz hn30 hn0
    have HN := Lib.hid hn
    clear hn
    go_wp2_with fail
    clear hsz
    refine (A2Plainly_any _ l' n _ (HM.out.up HB2.out) (by omega)).mono ?_
    rintro r wEE ⟨u, e, rfl, hEV, hPl, hSm, hb⟩
    obtain ⟨vRE, rfl, hR⟩ := hEV
    obtain ⟨AE, cEx, rfl, _⟩ := (id hR : Sl RuleE wEE wEE.heap.size vRE e.part)
    have ba := hb.alloc hb.size (Obj.cells #[.int .i64 e.kind, .int .i64 e.i, .int .i64 e.j, .int .i64 e.k, .slice AE e.part.length cEx, .string e.map] 30)
    have nK := Blk.new wEE #[.int .i64 e.kind, .int .i64 e.i, .int .i64 e.j, .int .i64 e.k, .slice AE e.part.length cEx, .string e.map] 30
    have nV : EditV (wEE.alloc (Obj.cells #[.int .i64 e.kind, .int .i64 e.i, .int .i64 e.j, .int .i64 e.k, .slice AE e.part.length cEx, .string e.map] 30)) (wEE.alloc (Obj.cells #[.int .i64 e.kind, .int .i64 e.i, .int .i64 e.j, .int .i64 e.k, .slice AE e.part.length cEx, .string e.map] 30)).heap.size (.agg #[.int .i64 e.kind, .int .i64 e.i, .int .i64 e.j, .int .i64 e.k, .slice AE e.part.length cEx, .string e.map]) e := ⟨_, rfl, hR.up ((Below.refl _ wEE).alloc (Nat.le_refl _) (Obj.cells #[.int .i64 e.kind, .int .i64 e.i, .int .i64 e.j, .int .i64 e.k, .slice AE e.part.length cEx, .string e.map] 30))⟩
    have KG3 := Lib.hid (KG2.out.up ba)
    have SG3 := Lib.hid (SG2.out.up ba)
    have HB3 := Lib.hid (Below.tr HB2.out ba)
    clear KG2 SG2 HB2
    have KE3 := Lib.hid nK
    have VE3 := Lib.hid nV
    have HPE := Lib.hid hPl
    have HSE := Lib.hid hSm
    clear hb ba nK nV hPl hSm hR
    go_upto_region 6 with fail
    generalize (wEE.alloc (Obj.cells #[.int .i64 e.kind, .int .i64 e.i, .int .i64 e.j, .int .i64 e.k, .slice AE e.part.length cEx, .string e.map] 30)) = W3 at KG3 SG3 KE3 VE3 HB3 ⊢
    generalize wEE.heap.size = NE at KE3 ⊢
    go_wp2_with fail
    refine (A2Plainly_any _ l n _ (HL.out.up HB3.out) (by omega)).mono ?_
    rintro r wEF ⟨u, f, rfl, hEV, hPl, hSm, hb⟩
    obtain ⟨vRF, rfl, hR⟩ := hEV
    obtain ⟨AF, cFx, rfl, _⟩ := (id hR : Sl RuleE wEF wEF.heap.size vRF f.part)
    have ba := hb.alloc hb.size (Obj.cells #[.int .i64 f.kind, .int .i64 f.i, .int .i64 f.j, .int .i64 f.k, .slice AF f.part.length cFx, .string f.map] 30)
    have nK := Blk.new wEF #[.int .i64 f.kind, .int .i64 f.i, .int .i64 f.j, .int .i64 f.k, .slice AF f.part.length cFx, .string f.map] 30
    have nV : EditV (wEF.alloc (Obj.cells #[.int .i64 f.kind, .int .i64 f.i, .int .i64 f.j, .int .i64 f.k, .slice AF f.part.length cFx, .string f.map] 30)) (wEF.alloc (Obj.cells #[.int .i64 f.kind, .int .i64 f.i, .int .i64 f.j, .int .i64 f.k, .slice AF f.part.length cFx, .string f.map] 30)).heap.size (.agg #[.int .i64 f.kind, .int .i64 f.i, .int .i64 f.j, .int .i64 f.k, .slice AF f.part.length cFx, .string f.map]) f := ⟨_, rfl, hR.up ((Below.refl _ wEF).alloc (Nat.le_refl _) (Obj.cells #[.int .i64 f.kind, .int .i64 f.i, .int .i64 f.j, .int .i64 f.k, .slice AF f.part.length cFx, .string f.map] 30))⟩
    have KG4 := Lib.hid (KG3.out.up ba)
    have SG4 := Lib.hid (SG3.out.up ba)
    have KE4 := Lib.hid (KE3.out.up ba)
    have VE4 := Lib.hid (VE3.out.up ba)
    have HB4 := Lib.hid (Below.tr HB3.out ba)
    clear KG3 SG3 KE3 VE3 HB3
    have KF4 := Lib.hid nK
    have VF4 := Lib.hid nV
    have HPF := Lib.hid hPl
    have HSF := Lib.hid hSm
    clear hb ba nK nV hPl hSm hR
    go_upto_region 7 with fail
    generalize (wEF.alloc (Obj.cells #[.int .i64 f.kind, .int .i64 f.i, .int .i64 f.j, .int .i64 f.k, .slice AF f.part.length cFx, .string f.map] 30)) = W4 at KG4 SG4 KE4 VE4 KF4 VF4 HB4 ⊢
    generalize wEF.heap.size = NF at KF4 ⊢
    have HA := Lib.hid (pass_all2 HGX.out (by rw [HN.out]; exact hn30) (by rw [HN.out]; exact HPE.out) (by rw [HN.out]; exact HPF.out))
    have hE5 := plE_ok HPE.out (by omega)
    have hF5 := plE_ok HPF.out (by omega)
    have e14 := hE5.2.2.2.1
    have f14 := hF5.2.2.2.1
    have em0 : e.map.size ≤ maxLen := by rw [hE5.2.2.2.2]; exact Nat.zero_le _
    have fm0 : f.map.size ≤ maxLen := by rw [hF5.2.2.2.2]; exact Nat.zero_le _
    have HOF := Lib.hid (show f.part.length ≤ 14 ∧ editOk f = true from ⟨f14, hF5.1⟩)
    have HOE := Lib.hid (show e.part.length ≤ 14 ∧ editOk e = true from ⟨e14, hE5.1⟩)
    clear hE5 hF5 hn30 hn0
    have cG := Blk.cell (i := 0) (v := .slice AX xs.length cX) KG4.out rfl
    have lG := Blk.lt KG4.out
    have cE0 := Blk.cell (i := 0) (v := .int .i64 e.kind) KE4.out rfl
    have cE1 := Blk.cell (i := 1) (v := .int .i64 e.i) KE4.out rfl
    have cE2 := Blk.cell (i := 2) (v := .int .i64 e.j) KE4.out rfl
    have cE3 := Blk.cell (i := 3) (v := .int .i64 e.k) KE4.out rfl
    have cE4 := Blk.cell (i := 4) (v := .slice AE e.part.length cEx) KE4.out rfl
    have cE5 := Blk.cell (i := 5) (v := .string e.map) KE4.out rfl
    have lE := Blk.lt KE4.out
    go_wp2_with fail
    refine (implApply_any _ _ xs e _ SG4.out VE4.out (by omega) (by omega) em0 (tabB HT.out HB4.out)).mono ?_
    rintro r wqP ⟨hb, vP, own, rfl⟩
    rw [HA.out.c1]
    obtain ⟨O1, hO1⟩ : ∃ O, applyOut xs e = O := ⟨_, rfl⟩
    rw [hO1] at own
    have HO1 := Lib.hid hO1
    obtain ⟨AP, cPx, rfl, _⟩ := own_nil own
    have ba := hb.alloc hb.size (Obj.cells #[.slice AP O1.length cPx] 26)
    have nK := Blk.new wqP #[.slice AP O1.length cPx] 26
    have nS := (OwnRules.sl own).up ((Below.refl _ wqP).alloc (Nat.le_refl _) (Obj.cells #[.slice AP O1.length cPx] 26))
    have KG5 := Lib.hid (KG4.out.up ba)
    have SG5 := Lib.hid (SG4.out.up ba)
    have KE5 := Lib.hid (KE4.out.up ba)
    have VE5 := Lib.hid (VE4.out.up ba)
    have KF5 := Lib.hid (KF4.out.up ba)
    have VF5 := Lib.hid (VF4.out.up ba)
    have HB5 := Lib.hid (Below.tr HB4.out ba)
    clear KG4 SG4 KE4 VE4 KF4 VF4 HB4
    have KP5 := Lib.hid nK
    have SP5 := Lib.hid nS
    clear hb ba nK nS own hO1 cG lG cE0 cE1 cE2 cE3 cE4 cE5 lE
    go_upto_region 8 with fail
    generalize (wqP.alloc (Obj.cells #[.slice AP O1.length cPx] 26)) = W5 at KG5 SG5 KE5 VE5 KF5 VF5 KP5 SP5 HB5 ⊢
    generalize wqP.heap.size = NP at KP5 ⊢
    have cF0 := Blk.cell (i := 0) (v := .int .i64 f.kind) KF5.out rfl
    have cF1 := Blk.cell (i := 1) (v := .int .i64 f.i) KF5.out rfl
    have cF2 := Blk.cell (i := 2) (v := .int .i64 f.j) KF5.out rfl
    have cF3 := Blk.cell (i := 3) (v := .int .i64 f.k) KF5.out rfl
    have cF4 := Blk.cell (i := 4) (v := .slice AF f.part.length cFx) KF5.out rfl
    have cF5 := Blk.cell (i := 5) (v := .string f.map) KF5.out rfl
    have lF := Blk.lt KF5.out
    have cE0 := Blk.cell (i := 0) (v := .int .i64 e.kind) KE5.out rfl
    have cE1 := Blk.cell (i := 1) (v := .int .i64 e.i) KE5.out rfl
    have cE2 := Blk.cell (i := 2) (v := .int .i64 e.j) KE5.out rfl
    have cE3 := Blk.cell (i := 3) (v := .int .i64 e.k) KE5.out rfl
    have cE4 := Blk.cell (i := 4) (v := .slice AE e.part.length cEx) KE5.out rfl
    have cE5 := Blk.cell (i := 5) (v := .string e.map) KE5.out rfl
    have lE := Blk.lt KE5.out
    go_wp2_with fail
    refine (implPassEdit_any _ _ f e false _ VF5.out VE5.out (by omega) (by omega) fm0 em0).mono ?_
    rintro r wpfe ⟨hb, vpfe, rfl, own⟩
    rw [HA.out.p1]
    obtain ⟨L1, hL1⟩ : ∃ O, pasOut f e false = O := ⟨_, rfl⟩
    rw [hL1] at own
    have HL1 := Lib.hid hL1
    obtain ⟨Apfe, cpfe, rfl, _⟩ := own.sl
    have nO := own
    have KG6 := Lib.hid (KG5.out.up hb)
    have SG6 := Lib.hid (SG5.out.up hb)
    have KE6 := Lib.hid (KE5.out.up hb)
    have VE6 := Lib.hid (VE5.out.up hb)
    have KF6 := Lib.hid (KF5.out.up hb)
    have VF6 := Lib.hid (VF5.out.up hb)
    have KP6 := Lib.hid (KP5.out.up hb)
    have SP6 := Lib.hid (SP5.out.up hb)
    have HB6 := Lib.hid (Below.tr HB5.out hb)
    clear KG5 SG5 KE5 VE5 KF5 VF5 KP5 SP5 HB5
    have Ofe6 := Lib.hid nO
    have HLfe := Lib.hid (show L1.length ≤ 2 ∧ ∀ b ∈ L1, b.part.length ≤ 1048576 ∧ b.map.size ≤ maxLen from by
      have h1 := pass_small (e := f) (f := e) (first := false) HOF.out.2
      have h2 : pasOut f e false = passE f e false := by unfold pasOut; rw [if_pos HA.out.p1]
      rw [← HL1.out, h2]
      exact ⟨h1.1, fun b hb => ⟨by have := (h1.2 b hb).1; omega, by rw [(h1.2 b hb).2]; exact Nat.zero_le _⟩⟩)
    clear hb own nO hL1 cF0 cF1 cF2 cF3 cF4 cF5 lF cE0 cE1 cE2 cE3 cE4 cE5 lE
    have cP := Blk.cell (i := 0) (v := .slice AP O1.length cPx) KP6.out rfl
    have lP := Blk.lt KP6.out
    go_wp2_with fail
    refine (implApplyEdits_any _ _ O1 L1 _ SP6.out Ofe6.out.sl (by have h4 := (gram_lens (show gramOk O1 = true by rw [← HO1.out]; exact applyOut_ok _ _)).1; omega) HLfe.out.2 (tabB HT.out HB6.out)).mono ?_
    rintro r waT ⟨hb, vaT, own, rfl⟩
    have hc : aesCode O1 L1 = 0 := by rw [← HO1.out, ← HL1.out]; exact HA.out.x1
    have hm : aesN O1 L1 = (L1.length : Nat) := by rw [← HO1.out, ← HL1.out]; exact HA.out.x2
    rw [hc, hm]
    obtain ⟨O2, hO2⟩ : ∃ O, aesOut O1 L1 = O := ⟨_, rfl⟩
    rw [hO2] at own
    have HO2 := Lib.hid hO2
    obtain ⟨AT, cTx, rfl, _⟩ := own_nil own
    have ba := hb.alloc hb.size (Obj.cells #[.slice AT O2.length cTx] 26)
    have nK := Blk.new waT #[.slice AT O2.length cTx] 26
    have nS := (OwnRules.sl own).up ((Below.refl _ waT).alloc (Nat.le_refl _) (Obj.cells #[.slice AT O2.length cTx] 26))
    have KG7 := Lib.hid (KG6.out.up ba)
    have SG7 := Lib.hid (SG6.out.up ba)
    have KE7 := Lib.hid (KE6.out.up ba)
    have VE7 := Lib.hid (VE6.out.up ba)
    have KF7 := Lib.hid (KF6.out.up ba)
    have VF7 := Lib.hid (VF6.out.up ba)
    have KP7 := Lib.hid (KP6.out.up ba)
    have SP7 := Lib.hid (SP6.out.up ba)
    have Ofe7 := Lib.hid (Ofe6.out.up ba)
    have HB7 := Lib.hid (Below.tr HB6.out ba)
    clear KG6 SG6 KE6 VE6 KF6 VF6 KP6 SP6 Ofe6 HB6
    have KT7 := Lib.hid nK
    have ST7 := Lib.hid nS
    clear hb ba nK nS own hO2 hc hm cP lP
    go_upto_region 10 with fail
    generalize (waT.alloc (Obj.cells #[.slice AT O2.length cTx] 26)) = W7 at KG7 SG7 KE7 VE7 KF7 VF7 KP7 SP7 Ofe7 KT7 ST7 HB7 ⊢
    generalize waT.heap.size = NT at KT7 ⊢
    have cG := Blk.cell (i := 0) (v := .slice AX xs.length cX) KG7.out rfl
    have lG := Blk.lt KG7.out
    have cF0 := Blk.cell (i := 0) (v := .int .i64 f.kind) KF7.out rfl
    have cF1 := Blk.cell (i := 1) (v := .int .i64 f.i) KF7.out rfl
    have cF2 := Blk.cell (i := 2) (v := .int .i64 f.j) KF7.out rfl
    have cF3 := Blk.cell (i := 3) (v := .int .i64 f.k) KF7.out rfl
    have cF4 := Blk.cell (i := 4) (v := .slice AF f.part.length cFx) KF7.out rfl
    have cF5 := Blk.cell (i := 5) (v := .string f.map) KF7.out rfl
    have lF := Blk.lt KF7.out
    go_wp2_with fail
    refine (implApply_any _ _ xs f _ SG7.out VF7.out (by omega) (by omega) fm0 (tabB HT.out HB7.out)).mono ?_
    rintro r wqQ ⟨hb, vQ, own, rfl⟩
    rw [HA.out.c2]
    obtain ⟨O3, hO3⟩ : ∃ O, applyOut xs f = O := ⟨_, rfl⟩
    rw [hO3] at own
    have HO3 := Lib.hid hO3
    obtain ⟨AQ, cQx, rfl, _⟩ := own_nil own
    have ba := hb.alloc hb.size (Obj.cells #[.slice AQ O3.length cQx] 26)
    have nK := Blk.new wqQ #[.slice AQ O3.length cQx] 26
    have nS := (OwnRules.sl own).up ((Below.refl _ wqQ).alloc (Nat.le_refl _) (Obj.cells #[.slice AQ O3.length cQx] 26))
    have KG8 := Lib.hid (KG7.out.up ba)
    have SG8 := Lib.hid (SG7.out.up ba)
    have KE8 := Lib.hid (KE7.out.up ba)
    have VE8 := Lib.hid (VE7.out.up ba)
    have KF8 := Lib.hid (KF7.out.up ba)
    have VF8 := Lib.hid (VF7.out.up ba)
    have KP8 := Lib.hid (KP7.out.up ba)
    have SP8 := Lib.hid (SP7.out.up ba)
    have Ofe8 := Lib.hid (Ofe7.out.up ba)
    have KT8 := Lib.hid (KT7.out.up ba)
    have ST8 := Lib.hid (ST7.out.up ba)
    have HB8 := Lib.hid (Below.tr HB7.out ba)
    clear KG7 SG7 KE7 VE7 KF7 VF7 KP7 SP7 Ofe7 KT7 ST7 HB7
    have KQ8 := Lib.hid nK
    have SQ8 := Lib.hid nS
    clear hb ba nK nS own hO3 cG lG cF0 cF1 cF2 cF3 cF4 cF5 lF
    go_upto_region 11 with fail
    generalize (wqQ.alloc (Obj.cells #[.slice AQ O3.length cQx] 26)) = W8 at KG8 SG8 KE8 VE8 KF8 VF8 KP8 SP8 Ofe8 KT8 ST8 KQ8 SQ8 HB8 ⊢
    generalize wqQ.heap.size = NQ at KQ8 ⊢
    have cE0 := Blk.cell (i := 0) (v := .int .i64 e.kind) KE8.out rfl
    have cE1 := Blk.cell (i := 1) (v := .int .i64 e.i) KE8.out rfl
    have cE2 := Blk.cell (i := 2) (v := .int .i64 e.j) KE8.out rfl
    have cE3 := Blk.cell (i := 3) (v := .int .i64 e.k) KE8.out rfl
    have cE4 := Blk.cell (i := 4) (v := .slice AE e.part.length cEx) KE8.out rfl
    have cE5 := Blk.cell (i := 5) (v := .string e.map) KE8.out rfl
    have lE := Blk.lt KE8.out
    have cF0 := Blk.cell (i := 0) (v := .int .i64 f.kind) KF8.out rfl
    have cF1 := Blk.cell (i := 1) (v := .int .i64 f.i) KF8.out rfl
    have cF2 := Blk.cell (i := 2) (v := .int .i64 f.j) KF8.out rfl
    have cF3 := Blk.cell (i := 3) (v := .int .i64 f.k) KF8.out rfl
    have cF4 := Blk.cell (i := 4) (v := .slice AF f.part.length cFx) KF8.out rfl
    have cF5 := Blk.cell (i := 5) (v := .string f.map) KF8.out rfl
    have lF := Blk.lt KF8.out
    go_wp2_with fail
    refine (implPassEdit_any _ _ e f true _ VE8.out VF8.out (by omega) (by omega) em0 fm0).mono ?_
    rintro r wpef ⟨hb, vpef, rfl, own⟩
    rw [HA.out.p2]
    obtain ⟨L2, hL2⟩ : ∃ O, pasOut e f true = O := ⟨_, rfl⟩
    rw [hL2] at own
    have HL2 := Lib.hid hL2
    obtain ⟨Apef, cpef, rfl, _⟩ := own.sl
    have nO := own
    have KG9 := Lib.hid (KG8.out.up hb)
    have SG9 := Lib.hid (SG8.out.up hb)
    have KE9 := Lib.hid (KE8.out.up hb)
    have VE9 := Lib.hid (VE8.out.up hb)
    have KF9 := Lib.hid (KF8.out.up hb)
    have VF9 := Lib.hid (VF8.out.up hb)
    have KP9 := Lib.hid (KP8.out.up hb)
    have SP9 := Lib.hid (SP8.out.up hb)
    have Ofe9 := Lib.hid (Ofe8.out.up hb)
    have KT9 := Lib.hid (KT8.out.up hb)
    have ST9 := Lib.hid (ST8.out.up hb)
    have KQ9 := Lib.hid (KQ8.out.up hb)
    have SQ9 := Lib.hid (SQ8.out.up hb)
    have HB9 := Lib.hid (Below.tr HB8.out hb)
    clear KG8 SG8 KE8 VE8 KF8 VF8 KP8 SP8 Ofe8 KT8 ST8 KQ8 SQ8 HB8
    have Oef9 := Lib.hid nO
    have HLef := Lib.hid (show L2.length ≤ 2 ∧ ∀ b ∈ L2, b.part.length ≤ 1048576 ∧ b.map.size ≤ maxLen from by
      have h1 := pass_small (e := e) (f := f) (first := true) HOE.out.2
      have h2 : pasOut e f true = passE e f true := by unfold pasOut; rw [if_pos HA.out.p2]
      rw [← HL2.out, h2]
      exact ⟨h1.1, fun b hb => ⟨by have := (h1.2 b hb).1; omega, by rw [(h1.2 b hb).2]; exact Nat.zero_le _⟩⟩)
    clear hb own nO hL2 cE0 cE1 cE2 cE3 cE4 cE5 lE cF0 cF1 cF2 cF3 cF4 cF5 lF
    have cQ := Blk.cell (i := 0) (v := .slice AQ O3.length cQx) KQ9.out rfl
    have lQ := Blk.lt KQ9.out
    go_wp2_with fail
    refine (implApplyEdits_any _ _ O3 L2 _ SQ9.out Oef9.out.sl (by have h4 := (gram_lens (show gramOk O3 = true by rw [← HO3.out]; exact applyOut_ok _ _)).1; omega) HLef.out.2 (tabB HT.out HB9.out)).mono ?_
    rintro r waU ⟨hb, vaU, own, rfl⟩
    have hc : aesCode O3 L2 = 0 := by rw [← HO3.out, ← HL2.out]; exact HA.out.y1
    have hm : aesN O3 L2 = (L2.length : Nat) := by rw [← HO3.out, ← HL2.out]; exact HA.out.y2
    rw [hc, hm]
    obtain ⟨O4, hO4⟩ : ∃ O, aesOut O3 L2 = O := ⟨_, rfl⟩
    rw [hO4] at own
    have HO4 := Lib.hid hO4
    obtain ⟨AU, cUx, rfl, _⟩ := own_nil own
    have ba := hb.alloc hb.size (Obj.cells #[.slice AU O4.length cUx] 26)
    have nK := Blk.new waU #[.slice AU O4.length cUx] 26
    have nS := (OwnRules.sl own).up ((Below.refl _ waU).alloc (Nat.le_refl _) (Obj.cells #[.slice AU O4.length cUx] 26))
    have KG10 := Lib.hid (KG9.out.up ba)
    have SG10 := Lib.hid (SG9.out.up ba)
    have KE10 := Lib.hid (KE9.out.up ba)
    have VE10 := Lib.hid (VE9.out.up ba)
    have KF10 := Lib.hid (KF9.out.up ba)
    have VF10 := Lib.hid (VF9.out.up ba)
    have KP10 := Lib.hid (KP9.out.up ba)
    have SP10 := Lib.hid (SP9.out.up ba)
    have Ofe10 := Lib.hid (Ofe9.out.up ba)
    have KT10 := Lib.hid (KT9.out.up ba)
    have ST10 := Lib.hid (ST9.out.up ba)
    have KQ10 := Lib.hid (KQ9.out.up ba)
    have SQ10 := Lib.hid (SQ9.out.up ba)
    have Oef10 := Lib.hid (Oef9.out.up ba)
    have HB10 := Lib.hid (Below.tr HB9.out ba)
    clear KG9 SG9 KE9 VE9 KF9 VF9 KP9 SP9 Ofe9 KT9 ST9 KQ9 SQ9 Oef9 HB9
    have KU10 := Lib.hid nK
    have SU10 := Lib.hid nS
    clear hb ba nK nS own hO4 hc hm cQ lQ
    go_upto_region 13 with fail
    generalize (waU.alloc (Obj.cells #[.slice AU O4.length cUx] 26)) = W10 at KG10 SG10 KE10 VE10 KF10 VF10 KP10 SP10 Ofe10 KT10 ST10 KQ10 SQ10 Oef10 KU10 SU10 HB10 ⊢
    generalize waU.heap.size = NU at KU10 ⊢
    have cG := Blk.cell (i := 0) (v := .slice AX xs.length cX) KG10.out rfl
    have lG := Blk.lt KG10.out
    have cE0 := Blk.cell (i := 0) (v := .int .i64 e.kind) KE10.out rfl
    have cE1 := Blk.cell (i := 1) (v := .int .i64 e.i) KE10.out rfl
    have cE2 := Blk.cell (i := 2) (v := .int .i64 e.j) KE10.out rfl
    have cE3 := Blk.cell (i := 3) (v := .int .i64 e.k) KE10.out rfl
    have cE4 := Blk.cell (i := 4) (v := .slice AE e.part.length cEx) KE10.out rfl
    have cE5 := Blk.cell (i := 5) (v := .string e.map) KE10.out rfl
    have lE := Blk.lt KE10.out
    have cF0 := Blk.cell (i := 0) (v := .int .i64 f.kind) KF10.out rfl
    have cF1 := Blk.cell (i := 1) (v := .int .i64 f.i) KF10.out rfl
    have cF2 := Blk.cell (i := 2) (v := .int .i64 f.j) KF10.out rfl
    have cF3 := Blk.cell (i := 3) (v := .int .i64 f.k) KF10.out rfl
    have cF4 := Blk.cell (i := 4) (v := .slice AF f.part.length cFx) KF10.out rfl
    have cF5 := Blk.cell (i := 5) (v := .string f.map) KF10.out rfl
    have lF := Blk.lt KF10.out
    go_wp2_with fail
    refine (implMerge_any _ _ _ xs e f _ SG10.out VE10.out VF10.out (by omega) (by omega) (by omega) em0 fm0 (tabB HT.out HB10.out)).mono ?_
    rintro r wm ⟨hb, vm, own, rfl⟩
    rw [HA.out.m1]
    obtain ⟨O5, hO5⟩ : ∃ O, mrgOut xs e f = O := ⟨_, rfl⟩
    rw [hO5] at own
    have HO5 := Lib.hid hO5
    obtain ⟨AZ, cZx, rfl, _⟩ := own_nil own
    have ba := hb.alloc hb.size (Obj.cells #[.slice AZ O5.length cZx] 26)
    have nK := Blk.new wm #[.slice AZ O5.length cZx] 26
    have nS := (OwnRules.sl own).up ((Below.refl _ wm).alloc (Nat.le_refl _) (Obj.cells #[.slice AZ O5.length cZx] 26))
    have KG11 := Lib.hid (KG10.out.up ba)
    have SG11 := Lib.hid (SG10.out.up ba)
    have KE11 := Lib.hid (KE10.out.up ba)
    have VE11 := Lib.hid (VE10.out.up ba)
    have KF11 := Lib.hid (KF10.out.up ba)
    have VF11 := Lib.hid (VF10.out.up ba)
    have KP11 := Lib.hid (KP10.out.up ba)
    have SP11 := Lib.hid (SP10.out.up ba)
    have Ofe11 := Lib.hid (Ofe10.out.up ba)
    have KT11 := Lib.hid (KT10.out.up ba)
    have ST11 := Lib.hid (ST10.out.up ba)
    have KQ11 := Lib.hid (KQ10.out.up ba)
    have SQ11 := Lib.hid (SQ10.out.up ba)
    have Oef11 := Lib.hid (Oef10.out.up ba)
    have KU11 := Lib.hid (KU10.out.up ba)
    have SU11 := Lib.hid (SU10.out.up ba)
    have HB11 := Lib.hid (Below.tr HB10.out ba)
    clear KG10 SG10 KE10 VE10 KF10 VF10 KP10 SP10 Ofe10 KT10 ST10 KQ10 SQ10 Oef10 KU10 SU10 HB10
    have KZ11 := Lib.hid nK
    have SZ11 := Lib.hid nS
    clear hb ba nK nS own hO5 cG lG cE0 cE1 cE2 cE3 cE4 cE5 lE cF0 cF1 cF2 cF3 cF4 cF5 lF
    go_upto_region 14 with fail
    generalize (wm.alloc (Obj.cells #[.slice AZ O5.length cZx] 26)) = W11 at KG11 SG11 KE11 VE11 KF11 VF11 KP11 SP11 Ofe11 KT11 ST11 KQ11 SQ11 Oef11 KU11 SU11 KZ11 SZ11 HB11 ⊢
    generalize wm.heap.size = NZ at KZ11 ⊢
    have hgX : gramOk O2 = true := by rw [← HO2.out, ← HO1.out, ← HL1.out]; exact HA.out.gx
    have hgY : gramOk O4 = true := by rw [← HO4.out, ← HO3.out, ← HL2.out]; exact HA.out.gy
    have hgZ : gramOk O5 = true := by rw [← HO5.out]; exact HA.out.gm
    have hw1 : wordG O2 = wordG O4 := by rw [← HO2.out, ← HO1.out, ← HL1.out, ← HO4.out, ← HO3.out, ← HL2.out]; exact HA.out.w1
    have hw2 : wordG O5 = wordG O2 := by rw [← HO5.out, ← HO2.out, ← HO1.out, ← HL1.out]; exact HA.out.w2
    have q1 := eqG_of hgX hgY hw1
    have q2 := eqG_of hgZ hgX hw2
    have HGX2 := Lib.hid hgX
    have HGY2 := Lib.hid hgY
    have HGZ2 := Lib.hid hgZ
    have HQ1 := Lib.hid q1
    have HQ2 := Lib.hid q2
    clear hgX hgY hgZ hw1 hw2 q1 q2 HA HO1 HO2 HO3 HO4 HO5 HL1 HL2
    have cT := Blk.cell (i := 0) (v := .slice AT O2.length cTx) KT11.out rfl
    have lT := Blk.lt KT11.out
    have cU := Blk.cell (i := 0) (v := .slice AU O4.length cUx) KU11.out rfl
    have lU := Blk.lt KU11.out
    go_wp2_with fail
    refine (equalWords_any _ _ O2 O4 _ ST11.out SU11.out HGX2.out HGY2.out).mono ?_
    rintro r wz1 ⟨rfl, hb⟩
    rw [HQ1.out]
    have KG12 := Lib.hid (KG11.out.up hb)
    have SG12 := Lib.hid (SG11.out.up hb)
    have KE12 := Lib.hid (KE11.out.up hb)
    have VE12 := Lib.hid (VE11.out.up hb)
    have KF12 := Lib.hid (KF11.out.up hb)
    have VF12 := Lib.hid (VF11.out.up hb)
    have KP12 := Lib.hid (KP11.out.up hb)
    have SP12 := Lib.hid (SP11.out.up hb)
    have Ofe12 := Lib.hid (Ofe11.out.up hb)
    have KT12 := Lib.hid (KT11.out.up hb)
    have ST12 := Lib.hid (ST11.out.up hb)
    have KQ12 := Lib.hid (KQ11.out.up hb)
    have SQ12 := Lib.hid (SQ11.out.up hb)
    have Oef12 := Lib.hid (Oef11.out.up hb)
    have KU12 := Lib.hid (KU11.out.up hb)
    have SU12 := Lib.hid (SU11.out.up hb)
    have KZ12 := Lib.hid (KZ11.out.up hb)
    have SZ12 := Lib.hid (SZ11.out.up hb)
    have HB12 := Lib.hid (Below.tr HB11.out hb)
    clear KG11 SG11 KE11 VE11 KF11 VF11 KP11 SP11 Ofe11 KT11 ST11 KQ11 SQ11 Oef11 KU11 SU11 KZ11 SZ11 HB11
    clear hb cT lT cU lU
    have cZ := Blk.cell (i := 0) (v := .slice AZ O5.length cZx) KZ12.out rfl
    have lZ := Blk.lt KZ12.out
    have cT := Blk.cell (i := 0) (v := .slice AT O2.length cTx) KT12.out rfl
    have lT := Blk.lt KT12.out
    go_wp2_with fail
    refine (equalWords_any _ _ O5 O2 _ SZ12.out ST12.out HGZ2.out HGX2.out).mono ?_
    rintro r wz2 ⟨rfl, hb⟩
    rw [HQ2.out]
    have HBF := Lib.hid (Below.tr HB12.out hb)
    clear hb cZ lZ cT lT
    go_wp2_with fail
    go_ret
    exact ⟨rfl, HBF.out⟩
open Go.RowKit Go.WideShapes Go.ChangeShapes
section
variable {H : Type} {enc : TypeId × Value → H} {P : Program}
theorem post_of_below {f : Func} {s : ChangeSpec} {apart fresh handsOn again : Bool} {W W' : World} {args : Array Value} {v : Value} {ds gs : List (DataW H)} {before pa pv : List MemPlace}
    (hW : DataW.Whole enc P f.params.toList s.vars apart W args.toList ds gs before)
    (hres : ∀ (b : Nat) (sp : Nat → Bool) (hd : Bool), DataW.TrodAll enc P W' b sp hd f.resultTypes.toList (v.resultList f.resultTypes.size) (s.fn H (ds ++ gs)).results [])
    (hargs : ∀ sp : Nat → Bool, (∀ p ∈ before, sp p.block = true) → DataW.TrodAll enc P W' 0 sp true f.params.toList args.toList (s.fn H (ds ++ gs)).args pa)
    (hvars : ∀ sp : Nat → Bool, (∀ p ∈ before, sp p.block = true) → DataW.TrodVars enc P W' sp s.vars (s.fn H (ds ++ gs)).vars pv)
    (hps : before = pa ++ pv) (hb : Below W.heap.size W W')
    (hok : ∀ (j : Nat) (t : TypeId) (r : Value), f.resultTypes[j]? = some t → (v.resultList f.resultTypes.size)[j]? = some r → Value.okWide P W' .any 0 t r) :
    s.post enc P f apart fresh handsOn again W args v W' := by
  have hlt : ∀ p ∈ before, p.block < W.heap.size := fun p hp => hW.lt p hp
  have hold : ∀ p ∈ before, (fun b => decide (b < W.heap.size)) p.block = true := fun p hp => by simpa using hlt p hp
  refine ⟨ds, gs, before, [], pa, pv, hW, hres _ _ _, hargs _ hold, hvars _ hold, World.keptBut_mono (fun p hp => ⟨hp, ?_⟩) (hb.frame (· ∈ before)), fun _ => ?_⟩
  · rw [hps, List.mem_append] at hp
    exact Or.inr hp
  · obtain ⟨_, _, _, _, _, hz, hn⟩ := hW
    refine ⟨hok, _, _, ([] ++ pa) ++ pv, ⟨[] ++ pa, pv, trodAll_append (hargs _ (fun _ _ => rfl)) (hres _ _ _), hvars _ (fun _ _ => rfl), rfl, ?_, ?_⟩, ?_⟩
    · intro b off hp
      have hin : MemPlace.cell b off ∈ before := by rw [hps]; simpa using hp
      rw [hb.frozen (hlt _ hin)]
      exact hz b off hin
    · intro ha
      have := hn ha
      rw [hps] at this
      simpa using this
    · intro p hp _
      rw [hps]
      simpa using hp
theorem trodAll_below (hl : laidOutB P = true) {W W' : World} (hb : Below W.heap.size W W') : ∀ {ts : List TypeId} {vs : List Value} {ds : List (DataW H)} {ps : List MemPlace},
    (∀ t ∈ ts, P.readableRec t = true ∧ t < P.types.size) → DataW.TrodAll enc P W 0 (fun _ => true) true ts vs ds ps → (∀ x ∈ ps, x.block < W.heap.size) → ∀ sp : Nat → Bool, (∀ p ∈ ps, sp p.block = true) →
    DataW.TrodAll enc P W' 0 sp true ts vs ds ps
  | [], _, _, _, _, h, _, _, _ => by
    obtain ⟨rfl, rfl, rfl⟩ := trodAll_nil h
    exact trodAll_mk0
  | t :: ts, vs, ds, ps, hts, h, hlt, sp, hsp => by
    obtain ⟨v, vs', d, ds', p, q, rfl, rfl, rfl, h0, r0⟩ := trodAll_cons h
    refine trodAll_cons_mk (WideElems.Trod_stays hl (hts t (by simp)).1 (hts t (by simp)).2 h0 (fun x hx => hb.same (hlt x (by simp [hx]))) (fun x hx => hsp x (by simp [hx]))) ?_
    exact trodAll_below hl hb (fun t ht => hts t (by simp [ht])) r0 (fun x hx => hlt x (by simp [hx])) sp (fun x hx => hsp x (by simp [hx]))
end
theorem laidOut : laidOutB Tryz.prog = true := by kernel_rfl
theorem own : ownKnob Tryz.prog.godebug = none := by kernel_rfl
open Go.RowKit Go.ChangeShapes Go.WideShapes Go.Deep
section
variable {H : Type} {enc : TypeId × Value → H} {P : Program} {w : World} {base : Nat} {spare : Nat → Bool} {held : Bool}
theorem add_plain (b o n : Nat) : (⟨b, o, none⟩ : Addr).add n = ⟨b, o + n, none⟩ := by unfold Addr.add; split <;> simp_all
theorem spot_none {a : Addr} {v : Value} (h : w.cell? a = some v) : a = ⟨a.block, a.off, none⟩ ∧ a.block < w.heap.size := by
  have hl := World.block_lt_of_cell? w a h
  refine ⟨?_, hl⟩
  obtain ⟨b, o, s⟩ := a
  unfold World.cell? at h
  cases s with
  | none => rfl
  | some s => split at h <;> simp at h
theorem len_map_range {α : Type} (f : Nat → α) (n : Nat) : ((List.range n).map f).length = n := by simp
end
open Go.RowKit Go.ChangeShapes Go.WideShapes Go.Deep
def Opens {α : Type} (P : Program) (E : Enc α) (Q : α → Prop) (t : TypeId) : Prop :=
  ∀ {H : Type} (enc : TypeId × Value → H) (w : World) (base : Nat) (spare : Nat → Bool) (held : Bool) (fuel : Nat) (cs : List Value) (x : DataW H × List MemPlace), DataW.trod enc P w base spare held fuel t cs = some x → ∃ a, E.cells w (· < w.heap.size) a cs ∧ Q a
instance : Inhabited GRule := ⟨⟨⟨#[]⟩, 0, 0⟩⟩
theorem opens_slice {α : Type} {P : Program} {E : Enc α} {Q : α → Prop} {t e : TypeId} [Inhabited α] (hE : Opens P E Q e) (ht : P.underlying t = some (.slice e)) (hC : P.cellsOf e = E.size) : Opens P (SliceE E) (fun xs => ∀ x ∈ xs, Q x) t := by
  intro H enc w base spare held fuel cs x h
  rcases open_slice ht h with ⟨h0, _⟩ | ⟨a, len, cap, m, n, D, Pl, hcs, hb, hl, hm, hmm, hx, hi⟩
  · exact ⟨[], ⟨_, h0, SlS.nil _ _⟩, fun x hx => by simp at hx⟩
  · have hmle : len ≤ m := by rw [hmm]; split <;> omega
    have Hh : ∀ i, i < len → ∃ r : α, ∃ cs', E.cells w (· < w.heap.size) r cs' ∧ (∀ j u, cs'[j]? = some u → w.cell? (a.add (i * E.size + j)) = some u) ∧ Q r := by
      intro i hil
      obtain ⟨cs', hc, ht'⟩ := hi i (by omega)
      obtain ⟨r, hr, hq⟩ := hE enc w base spare held n cs' _ ht'
      obtain ⟨_, hcl, hat⟩ := World.cells?_some hc
      refine ⟨r, cs', hr, fun j u hu => ?_, hq⟩
      have hj : j < cs'.length := (List.getElem?_eq_some_iff.1 hu).1
      rw [← Go.Deep.add_add, ← hC, hat j (by omega), hu]
    obtain ⟨F, hF⟩ := choose_lt Hh
    clear Hh
    refine ⟨(List.range len).map F, ⟨.slice (some a) len cap, hcs, some a, cap, by rw [len_map_range], by rw [len_map_range]; exact hl, hm, fun hn => ?_⟩, ?_⟩
    · rw [len_map_range] at hn
      obtain ⟨cs', h1, h2, _⟩ := hF 0 hn
      have hlen := E.len h1
      have hpos := E.pos
      have g0 := h2 0 cs'[0] (List.getElem?_eq_getElem (by omega))
      have ha : a.add (0 * E.size + 0) = a := by simp [Addr.add]
      rw [ha] at g0
      obtain ⟨hsp, hlt⟩ := spot_none g0
      refine ⟨a.block, a.off, by rw [← hsp], hlt, fun k r hr => ?_⟩
      have hk : k < len := by
        have := (List.getElem?_eq_some_iff.1 hr).1
        rw [len_map_range] at this; exact this
      have er : F k = r := by
        rw [List.getElem?_map, List.getElem?_range hk] at hr; simpa using hr
      obtain ⟨cs'', h3, h4, _⟩ := hF k hk
      rw [er] at h3
      refine ⟨cs'', h3, fun j u hu => ?_⟩
      have := h4 j u hu
      rw [hsp, add_plain] at this
      exact this
    · intro r hr
      rw [List.mem_map] at hr
      obtain ⟨k, hk, rfl⟩ := hr
      exact (hF k (by simpa using hk)).choose_spec.2.2
open Go.ChangeShapes Go.WideShapes Go.ChangeAt Go.RowKit Go.Joins Go.Deep
theorem opens_byte {P : Program} {t : TypeId} (ht : P.underlying t = some (.int .u8)) : Opens P ByteE (fun _ => True) t := by
  intro H enc w base spare held fuel cs x h
  obtain ⟨p, e1, _, e2⟩ := DataW.trod_int ht h
  have hp : 0 ≤ p ∧ p < 256 := by
    have h1 : IntKind.u8.min ≤ p ∧ p ≤ IntKind.u8.max := by simpa [Lit.wf] using e2
    have m1 : IntKind.u8.min = 0 := by decide
    have m2 : IntKind.u8.max = 255 := by decide
    rw [m1, m2] at h1
    omega
  refine ⟨UInt8.ofNat p.toNat, ?_, trivial⟩
  rw [e1]
  have : (UInt8.ofNat p.toNat).toNat = p.toNat := by rw [UInt8.toNat_ofNat']; omega
  show [Value.int .u8 p] = [.int .u8 ((UInt8.ofNat p.toNat).toNat : Int)]
  rw [this]
  congr 2
  omega
instance : Inhabited UInt8 := ⟨0⟩
set_option maxRecDepth 100000 in
theorem opensBytes : Opens Tryz.prog (SliceE ByteE) (fun xs => ∀ x ∈ xs, True) 22 := opens_slice (opens_byte Tryz.underlying5) Tryz.underlying22 (by kernel_rfl)
set_option maxRecDepth 100000 in
theorem open_bytes {H : Type} {enc : TypeId × Value → H} {w : World} {base : Nat} {spare : Nat → Bool} {held : Bool} {r : Reach} {b0 : Nat} {v : Value} {d : DataW H} {p : List MemPlace}
    (hv : Value.okWide Tryz.prog w r b0 22 v) (h : DataW.Trod enc Tryz.prog w base spare held 22 v d p) : ∃ xs, Sl ByteE w w.heap.size v xs := by
  obtain ⟨a, len, cap, rfl⟩ := okWide_slice Tryz.underlying22 hv
  obtain ⟨fuel, hf⟩ := h
  obtain ⟨xs, ⟨u, e1, hsl⟩, _⟩ := opensBytes enc w base spare held fuel [.slice a len cap] _ (by simpa [Value.cells] using hf)
  simp at e1
  subst e1
  exact ⟨xs, hsl⟩
theorem goes_none {P : Program} (h : P.funcs.any Func.goes = false) (f : FuncId) : P.goes f = false := by
  have h1 : ∀ g : Nat, (P.funcs[g]?).any Func.goes = false := by
    intro g
    cases hg : P.funcs[g]? with
    | none => rfl
    | some x =>
      obtain ⟨hi, rfl⟩ := Array.getElem?_eq_some_iff.1 hg
      have := Array.any_eq_false.1 h g hi
      simpa using this
  unfold Program.goes
  rw [h]
  simp only [h1]
  simp
theorem goes_by {c : OpenClaim} {P : Program} (h : P.funcs.any Func.goes = false) (hs : c.start = .entering) : false = c.goesBy P := by
  unfold OpenClaim.goesBy Program.goesAt Program.goesFrom
  rw [hs]
  cases P.funcNamed c.func with
  | none => rfl
  | some f => simp [goes_none h f]
theorem Tryz.no_go : Tryz.pinned.checked.prog.funcs.any Func.goes = false := by kernel_rfl
end Go.Proofs.YtdacndamehiglaaGreatDoor
