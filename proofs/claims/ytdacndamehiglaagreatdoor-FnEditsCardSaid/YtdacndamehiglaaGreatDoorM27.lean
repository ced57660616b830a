import Derived.Test.YtdacndamehiglaaGreatDoorM26
import Derived.Below
import Derived.ChangeSame
import Derived.Lib.SmallJoins
import Derived.Carry
import Derived.WideKeyArgs
import Derived.OpenShut
import Derived.Deep.Slices
import Derived.Deep.Fields
import Derived.SevenTiedAt
set_option maxRecDepth 100000
set_option maxHeartbeats 8000000
namespace Go.Proofs.YtdacndamehiglaaGreatDoor
open Go.RowKit
theorem zi0 (v v' : Value) (l l' : List UInt8) (w : World) (h : Sl zfB w w.heap.size v l) (h' : Sl zfB w w.heap.size v' l') (htab : Lib.TabIs Tryz.prog w "math/bits.deBruijn64tab" .u8 ze4) :
  Calls Tryz.prog 3 #[v, v'] w fun r w' => r = .returned (.bool true) /\ Below w.heap.size w w' := by
 have HL := yq h; have HM := yq h'; have HT := yq htab; obtain ⟨A, c, rfl, _⟩ := h; obtain ⟨A', c', rfl, _⟩ := h'; clear htab; go_enter Tryz.func3, Tryz.ntmps3
 go_wp2_with fail
 refine (zlg _ _ l l' _ HL.o HM.o).mono ?_
 rintro r w0 ⟨rfl, rfl⟩; cases hlong : (decide ((3000 : Int) < l.length) || decide ((3000 : Int) < l'.length)) with
 | true =>
   go_wp2_with fail
   go_ret
   exact ⟨rfl, Below.refl _ _⟩
 | false =>
   clear hlong; go_wp2_with fail
   refine (zhZ _ l 40 _ HL.o).mono ?_
   rintro r w1 ⟨u1, xs, rfl, hsl, hdr, hl14, hb1⟩; obtain ⟨AX, cX, rfl, _⟩ := (id hsl : Sl zas w1 w1.heap.size u1 xs)
   obtain ⟨d1, d2, d3, d4⟩ := zo4 hdr yO yO; have HGX := yq hdr.1; have HSX := yq hdr.2.2.2; have HD1 := yq d1; have HD := yq (And.intro d3 d4); have ba := (Below.refl _ w1).alloc yL (Obj.cells #[.slice AX xs.length cX] 26); have KG1 := yq (Blk.new w1 #[.slice AX xs.length cX] 26); have SG1 := yq (hsl.up ba); have HB1 := yq (Below.tr hb1 ba); clear hb1 hdr hsl ba d1 d2 d3 d4; go_upto_region 4 with fail
   generalize (w1.alloc (Obj.cells #[.slice AX xs.length cX] 26)) = W1 at KG1 SG1 HB1 |-
   generalize w1.heap.size = NG at KG1 |-
   have cG := Blk.cell (i := 0) (v := .slice AX xs.length cX) KG1.o rfl; have lG := Blk.lt KG1.o; go_wp2_with fail
   refine (zfV _ xs _ SG1.o HSX.o).mono ?_
   rintro r w2 ⟨rfl, hb⟩; have KG2 := yq (KG1.o.up hb); have SG2 := yq (SG1.o.up hb); have HB2 := yq (Below.tr HB1.o hb); clear KG1 SG1 HB1; clear hb cG lG; have hn40 : zao xs <= 40 := by have h1 := HD.o; omega
   have hn0 := (zaM xs).1
   have hsz0 : (((⟨(upV xs).toArray⟩ : ByteArray)).size : Int) = zao xs := by
    have h1 := HD.o.1; show (((upV xs).toArray.size : Nat) : Int) = _
    rw [HD1.o, List.size_toArray]; exact h1
   obtain ⟨T, hT⟩ : ∃ T : ByteArray, (⟨(upV xs).toArray⟩ : ByteArray) = T := ⟨_, rfl⟩
   have hTl : T.data.toList = zau xs := by rw [<- hT]; exact HD1.o
   rw [hT] at hsz0; rw [hT]; obtain ⟨n, hn⟩ : ∃ n, zao xs = n := ⟨_, rfl⟩
   rw [hn] at hsz0 hn40 hn0; have HTL := yq hTl; have HN := yq hn; have HSZ := yq hsz0; have hTm : T.size <= maxLen := by unfold maxLen; omega
   have HTM := yq hTm; clear hn hTl hT hsz0 hTm; go_wp2_with fail
   refine (zlh _ l' _ _ (HM.o.up HB2.o) (by have h1 := HSZ.o; omega)).mono ?_
   rintro r wEE ⟨u, e, rfl, hEV, h14, hSm, hok, hm4, hb⟩; obtain ⟨vRE, rfl, hR⟩ := hEV; obtain ⟨AE, cEx, rfl, _⟩ := (id hR : Sl zas wEE wEE.heap.size vRE e.part)
   have ba := hb.alloc hb.size (Obj.cells #[.int .i64 e.kind, .int .i64 e.i, .int .i64 e.j, .int .i64 e.k, .slice AE e.part.length cEx, .string e.map] 30); have nK := Blk.new wEE #[.int .i64 e.kind, .int .i64 e.i, .int .i64 e.j, .int .i64 e.k, .slice AE e.part.length cEx, .string e.map] 30; have nV : zdF (wEE.alloc (Obj.cells #[.int .i64 e.kind, .int .i64 e.i, .int .i64 e.j, .int .i64 e.k, .slice AE e.part.length cEx, .string e.map] 30)) (wEE.alloc (Obj.cells #[.int .i64 e.kind, .int .i64 e.i, .int .i64 e.j, .int .i64 e.k, .slice AE e.part.length cEx, .string e.map] 30)).heap.size (.agg #[.int .i64 e.kind, .int .i64 e.i, .int .i64 e.j, .int .i64 e.k, .slice AE e.part.length cEx, .string e.map]) e := ⟨_, rfl, hR.up ((Below.refl _ wEE).alloc yL (Obj.cells #[.int .i64 e.kind, .int .i64 e.i, .int .i64 e.j, .int .i64 e.k, .slice AE e.part.length cEx, .string e.map] 30))⟩
   have KG3 := yq (KG2.o.up ba); have SG3 := yq (SG2.o.up ba); have HB3 := yq (Below.tr HB2.o ba); clear KG2 SG2 HB2; have KE3 := yq nK; have VE3 := yq nV; have HSE := yq hSm; have HOK := yq hok; have em0 : e.map.size <= maxLen := by unfold maxLen; omega
   clear hb ba nK nV hSm hR hok; go_upto_region 6 with fail
   generalize (wEE.alloc (Obj.cells #[.int .i64 e.kind, .int .i64 e.i, .int .i64 e.j, .int .i64 e.k, .slice AE e.part.length cEx, .string e.map] 30)) = W3 at KG3 SG3 KE3 VE3 HB3 |-
   generalize wEE.heap.size = NE at KE3 |-
   have HIV := yq (zo2 (xs := xs) (e := e) (by rw [HN.o]; exact hn40)); have HA := yq (fun (ha : zah xs e = 0) => zo3 (xs := xs) (e := e) (by rw [HN.o]; exact hn40) ha); obtain ⟨ac, hac⟩ : ∃ c, zah xs e = c := ⟨_, rfl⟩
   have HAC := yq hac; clear hac; have cG := Blk.cell (i := 0) (v := .slice AX xs.length cX) KG3.o rfl; have lG := Blk.lt KG3.o; have cE0 := Blk.cell (i := 0) (v := .int .i64 e.kind) KE3.o rfl; have cE1 := Blk.cell (i := 1) (v := .int .i64 e.i) KE3.o rfl; have cE2 := Blk.cell (i := 2) (v := .int .i64 e.j) KE3.o rfl; have cE3 := Blk.cell (i := 3) (v := .int .i64 e.k) KE3.o rfl; have cE4 := Blk.cell (i := 4) (v := .slice AE e.part.length cEx) KE3.o rfl; have cE5 := Blk.cell (i := 5) (v := .string e.map) KE3.o rfl; have lE := Blk.lt KE3.o; go_wp2_with fail
   refine (zhR _ _ xs e _ SG3.o VE3.o yO HSX.o HSE.o em0).mono ?_
   rintro r wq1 ⟨hb, v1, own, rfl⟩; rw [HAC.o]; obtain ⟨A1x, c1x, rfl, _⟩ := zae own; have ba := hb.alloc hb.size (Obj.cells #[.slice A1x (zaj xs e).length c1x] 26); have KG4 := yq (KG3.o.up ba); have SG4 := yq (SG3.o.up ba); have KE4 := yq (KE3.o.up ba); have VE4 := yq (VE3.o.up ba); have HB4 := yq (Below.tr HB3.o ba); clear KG3 SG3 KE3 VE3 HB3; clear hb ba own cG lG cE0 cE1 cE2 cE3 cE4 cE5 lE; go_upto_region 7 with fail
   generalize (wq1.alloc (Obj.cells #[.slice A1x (zaj xs e).length c1x] 26)) = W4 at KG4 SG4 KE4 VE4 HB4 |-
   have cG := Blk.cell (i := 0) (v := .slice AX xs.length cX) KG4.o rfl; have lG := Blk.lt KG4.o; have cE0 := Blk.cell (i := 0) (v := .int .i64 e.kind) KE4.o rfl; have cE1 := Blk.cell (i := 1) (v := .int .i64 e.i) KE4.o rfl; have cE2 := Blk.cell (i := 2) (v := .int .i64 e.j) KE4.o rfl; have cE3 := Blk.cell (i := 3) (v := .int .i64 e.k) KE4.o rfl; have cE4 := Blk.cell (i := 4) (v := .slice AE e.part.length cEx) KE4.o rfl; have cE5 := Blk.cell (i := 5) (v := .string e.map) KE4.o rfl; have lE := Blk.lt KE4.o; go_wp2_with fail
   refine (zdM _ _ xs e _ SG4.o VE4.o yO yO em0 (zkM HT.o HB4.o)).mono ?_
   rintro r wq2 ⟨hb, v2, own, rfl⟩; rw [HAC.o]; obtain ⟨O1, hO1⟩ : ∃ O, zaj xs e = O := ⟨_, rfl⟩
   rw [hO1] at own; have HO1 := yq hO1; obtain ⟨AP, cPx, rfl, _⟩ := zae own; have ba := hb.alloc hb.size (Obj.cells #[.slice AP O1.length cPx] 26); have nK := Blk.new wq2 #[.slice AP O1.length cPx] 26; have nS := (zab.sl own).up ((Below.refl _ wq2).alloc yL (Obj.cells #[.slice AP O1.length cPx] 26)); have KG5 := yq (KG4.o.up ba); have SG5 := yq (SG4.o.up ba); have KE5 := yq (KE4.o.up ba); have VE5 := yq (VE4.o.up ba); have HB5 := yq (Below.tr HB4.o ba); clear KG4 SG4 KE4 VE4 HB4; have KP5 := yq nK; have SP5 := yq nS; clear hb ba nK nS own hO1 cG lG cE0 cE1 cE2 cE3 cE4 cE5 lE; go_upto_region 8 with fail
   generalize (wq2.alloc (Obj.cells #[.slice AP O1.length cPx] 26)) = W5 at KG5 SG5 KE5 VE5 KP5 SP5 HB5 |-
   generalize wq2.heap.size = NP at KP5 |-
   obtain ⟨pc, hpc⟩ : ∃ c, epC T e = c := ⟨_, rfl⟩
   have HPC := yq hpc; clear hpc; obtain ⟨PV, hpv⟩ : ∃ c, epV T e = c := ⟨_, rfl⟩
   have HPV := yq hpv; clear hpv; have cE0 := Blk.cell (i := 0) (v := .int .i64 e.kind) KE5.o rfl; have cE1 := Blk.cell (i := 1) (v := .int .i64 e.i) KE5.o rfl; have cE2 := Blk.cell (i := 2) (v := .int .i64 e.j) KE5.o rfl; have cE3 := Blk.cell (i := 3) (v := .int .i64 e.k) KE5.o rfl; have cE4 := Blk.cell (i := 4) (v := .slice AE e.part.length cEx) KE5.o rfl; have cE5 := Blk.cell (i := 5) (v := .string e.map) KE5.o rfl; have lE := Blk.lt KE5.o; go_wp2_with fail
   refine (zfA T _ e _ VE5.o HSE.o yO em0 HTM.o).mono ?_
   rintro r wz ⟨rfl, hb⟩; rw [HPC.o, HPV.o]; have KG6 := yq (KG5.o.up hb); have SG6 := yq (SG5.o.up hb); have KE6 := yq (KE5.o.up hb); have VE6 := yq (VE5.o.up hb); have KP6 := yq (KP5.o.up hb); have SP6 := yq (SP5.o.up hb); have HB6 := yq (Below.tr HB5.o hb); clear KG5 SG5 KE5 VE5 KP5 SP5 HB5; clear hb cE0 cE1 cE2 cE3 cE4 cE5 lE; have cE0 := Blk.cell (i := 0) (v := .int .i64 e.kind) KE6.o rfl; have cE1 := Blk.cell (i := 1) (v := .int .i64 e.i) KE6.o rfl; have cE2 := Blk.cell (i := 2) (v := .int .i64 e.j) KE6.o rfl; have cE3 := Blk.cell (i := 3) (v := .int .i64 e.k) KE6.o rfl; have cE4 := Blk.cell (i := 4) (v := .slice AE e.part.length cEx) KE6.o rfl; have cE5 := Blk.cell (i := 5) (v := .string e.map) KE6.o rfl; have lE := Blk.lt KE6.o; go_wp2_with fail
   refine (zfG T _ e _ VE6.o yO em0 HTM.o).mono ?_
   rintro r wz ⟨rfl, hb⟩; rw [HPC.o, HPV.o]; have KG7 := yq (KG6.o.up hb); have SG7 := yq (SG6.o.up hb); have KE7 := yq (KE6.o.up hb); have VE7 := yq (VE6.o.up hb); have KP7 := yq (KP6.o.up hb); have SP7 := yq (SP6.o.up hb); have HB7 := yq (Below.tr HB6.o hb); clear KG6 SG6 KE6 VE6 KP6 SP6 HB6; clear hb cE0 cE1 cE2 cE3 cE4 cE5 lE; have cG := Blk.cell (i := 0) (v := .slice AX xs.length cX) KG7.o rfl; have lG := Blk.lt KG7.o; have cE0 := Blk.cell (i := 0) (v := .int .i64 e.kind) KE7.o rfl; have cE1 := Blk.cell (i := 1) (v := .int .i64 e.i) KE7.o rfl; have cE2 := Blk.cell (i := 2) (v := .int .i64 e.j) KE7.o rfl; have cE3 := Blk.cell (i := 3) (v := .int .i64 e.k) KE7.o rfl; have cE4 := Blk.cell (i := 4) (v := .slice AE e.part.length cEx) KE7.o rfl; have cE5 := Blk.cell (i := 5) (v := .string e.map) KE7.o rfl; have lE := Blk.lt KE7.o; go_wp2_with fail
   refine (zgP _ _ xs e _ SG7.o VE7.o yO yO em0 (zkM HT.o HB7.o)).mono ?_
   rintro r wi ⟨hb, vi, rfl, own⟩; rw [HIV.o, HAC.o]; obtain ⟨bs, hbs⟩ : ∃ O, zbm xs e = O := ⟨_, rfl⟩
   rw [hbs] at own; have HBS := yq hbs; obtain ⟨AB, cB, rfl, _⟩ := own.sl; have nO := own; have KG8 := yq (KG7.o.up hb); have SG8 := yq (SG7.o.up hb); have KE8 := yq (KE7.o.up hb); have VE8 := yq (VE7.o.up hb); have KP8 := yq (KP7.o.up hb); have SP8 := yq (SP7.o.up hb); have HB8 := yq (Below.tr HB7.o hb); clear KG7 SG7 KE7 VE7 KP7 SP7 HB7; have OB8 := yq nO; clear hb own nO hbs cG lG cE0 cE1 cE2 cE3 cE4 cE5 lE; have cE0 := Blk.cell (i := 0) (v := .int .i64 e.kind) KE8.o rfl; have cE1 := Blk.cell (i := 1) (v := .int .i64 e.i) KE8.o rfl; have cE2 := Blk.cell (i := 2) (v := .int .i64 e.j) KE8.o rfl; have cE3 := Blk.cell (i := 3) (v := .int .i64 e.k) KE8.o rfl; have cE4 := Blk.cell (i := 4) (v := .slice AE e.part.length cEx) KE8.o rfl; have cE5 := Blk.cell (i := 5) (v := .string e.map) KE8.o rfl; have lE := Blk.lt KE8.o; go_wp2_with fail
   refine (zbY _ e _ VE8.o yO em0).mono ?_
   rintro r wv ⟨rfl, hb⟩; rw [HOK.o]; have KG9 := yq (KG8.o.up hb); have SG9 := yq (SG8.o.up hb); have KE9 := yq (KE8.o.up hb); have VE9 := yq (VE8.o.up hb); have KP9 := yq (KP8.o.up hb); have SP9 := yq (SP8.o.up hb); have OB9 := yq (OB8.o.up hb); have HB9 := yq (Below.tr HB8.o hb); clear KG8 SG8 KE8 VE8 KP8 SP8 OB8 HB8; clear hb cE0 cE1 cE2 cE3 cE4 cE5 lE; have HBV := yq HB9.o; by_cases hz : ac = 0
   · have hA := HA.o (HAC.o.trans hz)
     subst hz; obtain ⟨k1, k2, x1, x2, gx, ww, up⟩ := hA; rw [HBS.o] at k1 k2 x1 x2 gx ww; rw [HO1.o] at x1 x2 gx ww up; have hg1 : zaf O1 = true := by rw [<- HO1.o]; exact zcv _ _
     have HG1 := yq hg1; have h14 := (zag hg1).1
     have HBP := yq (fun (b : zap) (hb : b ∈ bs) => show b.part.length <= 1048576 /\ b.map.size <= maxLen from by
      have h1 := k1 b hb; have h3 := (zag (zbh h1).2.2.2.2.2.2).1; have h4 := zor h1
      exact ⟨by omega, by unfold maxLen; omega⟩)
     have HX1 := yq x1; have HX2 := yq x2; have HGO := yq gx; have HWW := yq ww; have HUP := yq (fun (hp : pc = 0) => (up T HTL.o (HPC.o.trans hp)).trans HPV.o); clear k1 k2 x1 x2 gx ww up hg1 HA HIV HAC HBS HO1; have cP := Blk.cell (i := 0) (v := .slice AP O1.length cPx) KP9.o rfl; have lP := Blk.lt KP9.o; go_wp2_with fail
     refine (zcI _ O1 _ SP9.o (zkn HG1.o)).mono ?_
     rintro r wg ⟨rfl, hb⟩; rw [HG1.o]; have KG10 := yq (KG9.o.up hb); have SG10 := yq (SG9.o.up hb); have KE10 := yq (KE9.o.up hb); have VE10 := yq (VE9.o.up hb); have KP10 := yq (KP9.o.up hb); have SP10 := yq (SP9.o.up hb); have OB10 := yq (OB9.o.up hb); have HB10 := yq (Below.tr HB9.o hb); clear KG9 SG9 KE9 VE9 KP9 SP9 OB9 HB9; clear hb cP lP; by_cases hp : pc = 0
     · have hU := HUP.o hp
       subst hp; have cP := Blk.cell (i := 0) (v := .slice AP O1.length cPx) KP10.o rfl; have lP := Blk.lt KP10.o; go_wp2_with fail
       refine (zli _ O1 PV _ SP10.o (zkn HG1.o) HG1.o hU).mono ?_
       rintro r wy ⟨rfl, hb⟩; have KG11 := yq (KG10.o.up hb); have SG11 := yq (SG10.o.up hb); have KE11 := yq (KE10.o.up hb); have VE11 := yq (VE10.o.up hb); have KP11 := yq (KP10.o.up hb); have SP11 := yq (SP10.o.up hb); have OB11 := yq (OB10.o.up hb); have HB11 := yq (Below.tr HB10.o hb); clear KG10 SG10 KE10 VE10 KP10 SP10 OB10 HB10; clear hb hU cP lP; have cP := Blk.cell (i := 0) (v := .slice AP O1.length cPx) KP11.o rfl; have lP := Blk.lt KP11.o; go_wp2_with fail
       refine (zc9 _ _ O1 bs _ SP11.o OB11.o.sl yO HBP.o (zkM HT.o HB11.o)).mono ?_
       rintro r wa ⟨hb, va, own, rfl⟩; rw [HX1.o, HX2.o]; obtain ⟨O3, hO3⟩ : ∃ O, zcZ O1 bs = O := ⟨_, rfl⟩
       rw [hO3] at own; have HO3 := yq hO3; obtain ⟨AS, cSx, rfl, _⟩ := zae own; have ba := hb.alloc hb.size (Obj.cells #[.slice AS O3.length cSx] 26); have nK := Blk.new wa #[.slice AS O3.length cSx] 26; have nS := (zab.sl own).up ((Below.refl _ wa).alloc yL (Obj.cells #[.slice AS O3.length cSx] 26)); have KG12 := yq (KG11.o.up ba); have SG12 := yq (SG11.o.up ba); have KE12 := yq (KE11.o.up ba); have VE12 := yq (VE11.o.up ba); have KP12 := yq (KP11.o.up ba); have SP12 := yq (SP11.o.up ba); have OB12 := yq (OB11.o.up ba); have HB12 := yq (Below.tr HB11.o ba); clear KG11 SG11 KE11 VE11 KP11 SP11 OB11 HB11; have KS12 := yq nK; have SS12 := yq nS; clear hb ba nK nS own hO3 cP lP; go_upto_region 18 with fail
       generalize (wa.alloc (Obj.cells #[.slice AS O3.length cSx] 26)) = W12 at KG12 SG12 KE12 VE12 KP12 SP12 OB12 KS12 SS12 HB12 |-
       generalize wa.heap.size = NS at KS12 |-
       have cS := Blk.cell (i := 0) (v := .slice AS O3.length cSx) KS12.o rfl; have lS := Blk.lt KS12.o; have cG := Blk.cell (i := 0) (v := .slice AX xs.length cX) KG12.o rfl; have lG := Blk.lt KG12.o; go_wp2_with fail
       refine (zeB _ _ O3 xs _ SS12.o SG12.o (by rw [<- HO3.o]; exact HGO.o) HGX.o).mono ?_
       rintro r we ⟨rfl, hb⟩; rw [znY (xs := O3) (ys := xs) (by rw [<- HO3.o]; exact HGO.o) HGX.o (by rw [<- HO3.o]; exact HWW.o)]; have HBF := yq (Below.tr HB12.o hb); clear hb cS lS cG lG; go_wp2_with fail
       go_ret
       exact ⟨rfl, HBF.o⟩
     · have hpn : (pc == 0) = false := by rw [beq_eq_false_iff_ne]; exact hp
       have hpn2 : ¬ pc = 0 := hp; have cP := Blk.cell (i := 0) (v := .slice AP O1.length cPx) KP10.o rfl; have lP := Blk.lt KP10.o; go_wp2_with fail
       refine (zc9 _ _ O1 bs _ SP10.o OB10.o.sl yO HBP.o (zkM HT.o HB10.o)).mono ?_
       rintro r wa ⟨hb, va, own, rfl⟩; rw [HX1.o, HX2.o]; obtain ⟨O3, hO3⟩ : ∃ O, zcZ O1 bs = O := ⟨_, rfl⟩
       rw [hO3] at own; have HO3 := yq hO3; obtain ⟨AS, cSx, rfl, _⟩ := zae own; have ba := hb.alloc hb.size (Obj.cells #[.slice AS O3.length cSx] 26); have nK := Blk.new wa #[.slice AS O3.length cSx] 26; have nS := (zab.sl own).up ((Below.refl _ wa).alloc yL (Obj.cells #[.slice AS O3.length cSx] 26)); have KG11 := yq (KG10.o.up ba); have SG11 := yq (SG10.o.up ba); have KE11 := yq (KE10.o.up ba); have VE11 := yq (VE10.o.up ba); have KP11 := yq (KP10.o.up ba); have SP11 := yq (SP10.o.up ba); have OB11 := yq (OB10.o.up ba); have HB11 := yq (Below.tr HB10.o ba); clear KG10 SG10 KE10 VE10 KP10 SP10 OB10 HB10; have KS11 := yq nK; have SS11 := yq nS; clear hb ba nK nS own hO3 cP lP; go_upto_region 18 with fail
       generalize (wa.alloc (Obj.cells #[.slice AS O3.length cSx] 26)) = W11 at KG11 SG11 KE11 VE11 KP11 SP11 OB11 KS11 SS11 HB11 |-
       generalize wa.heap.size = NS at KS11 |-
       have cS := Blk.cell (i := 0) (v := .slice AS O3.length cSx) KS11.o rfl; have lS := Blk.lt KS11.o; have cG := Blk.cell (i := 0) (v := .slice AX xs.length cX) KG11.o rfl; have lG := Blk.lt KG11.o; go_wp2_with fail
       refine (zeB _ _ O3 xs _ SS11.o SG11.o (by rw [<- HO3.o]; exact HGO.o) HGX.o).mono ?_
       rintro r we ⟨rfl, hb⟩; rw [znY (xs := O3) (ys := xs) (by rw [<- HO3.o]; exact HGO.o) HGX.o (by rw [<- HO3.o]; exact HWW.o)]; have HBF := yq (Below.tr HB11.o hb); clear hb cS lS cG lG; go_wp2_with fail
       go_ret
       exact ⟨rfl, HBF.o⟩
   · have hzn : (ac == 0) = false := by rw [beq_eq_false_iff_ne]; exact hz
     have hzn2 : ¬ ac = 0 := hz; clear HA HAC HIV; go_wp2_with fail
     go_ret
     exact ⟨rfl, HBV.o⟩
open Go.RowKit Go.WideShapes Go.ChangeShapes
section
variable {H : Type} {enc : TypeId × Value -> H} {P : Program}
theorem zh4 {f : Func} {s : ChangeSpec} {apart fresh handsOn again : Bool} {W W' : World} {args : Array Value} {v : Value} {ds gs : List (DataW H)} {before pa pv : List MemPlace}
  (hW : DataW.Whole enc P f.params.toList s.vars apart W args.toList ds gs before)
  (hres : ∀ (b : Nat) (sp : Nat -> Bool) (hd : Bool), DataW.TrodAll enc P W' b sp hd f.resultTypes.toList (v.resultList f.resultTypes.size) (s.fn H (ds ++ gs)).results [])
  (hargs : ∀ sp : Nat -> Bool, (∀ p ∈ before, sp p.block = true) -> DataW.TrodAll enc P W' 0 sp true f.params.toList args.toList (s.fn H (ds ++ gs)).args pa)
  (hvars : ∀ sp : Nat -> Bool, (∀ p ∈ before, sp p.block = true) -> DataW.TrodVars enc P W' sp s.vars (s.fn H (ds ++ gs)).vars pv)
  (hps : before = pa ++ pv) (hb : Below W.heap.size W W')
  (hok : ∀ (j : Nat) (t : TypeId) (r : Value), f.resultTypes[j]? = some t -> (v.resultList f.resultTypes.size)[j]? = some r -> Value.okWide P W' .any 0 t r) :
  s.post enc P f apart fresh handsOn again W args v W' := by
 have hlt : ∀ p ∈ before, p.block < W.heap.size := fun p hp => hW.lt p hp; have hold : ∀ p ∈ before, (fun b => decide (b < W.heap.size)) p.block = true := fun p hp => by simpa using hlt p hp
 refine ⟨ds, gs, before, [], pa, pv, hW, hres _ _ _, hargs _ hold, hvars _ hold, World.keptBut_mono (fun p hp => ⟨hp, ?_⟩) (hb.frame (· ∈ before)), fun _ => ?_⟩
 · rw [hps, List.mem_append] at hp
   exact Or.inr hp
 · obtain ⟨_, _, _, _, _, hz, hn⟩ := hW
   refine ⟨hok, _, _, ([] ++ pa) ++ pv, ⟨[] ++ pa, pv, trodAll_append (hargs _ (fun _ _ => rfl)) (hres _ _ _), hvars _ (fun _ _ => rfl), rfl, ?_, ?_⟩, ?_⟩
   · intro b off hp
     have hin : MemPlace.cell b off ∈ before := by rw [hps]; simpa using hp
     rw [hb.frozen (hlt _ hin)]; exact hz b off hin
   · intro ha
     have := hn ha; rw [hps] at this; simpa using this
   · intro p hp _
     rw [hps]; simpa using hp
theorem zfg (hl : laidOutB P = true) {W W' : World} (hb : Below W.heap.size W W') : ∀ {ts : List TypeId} {vs : List Value} {ds : List (DataW H)} {ps : List MemPlace},
  (∀ t ∈ ts, P.readableRec t = true /\ t < P.types.size) -> DataW.TrodAll enc P W 0 (fun _ => true) true ts vs ds ps -> (∀ x ∈ ps, x.block < W.heap.size) -> ∀ sp : Nat -> Bool, (∀ p ∈ ps, sp p.block = true) ->
  DataW.TrodAll enc P W' 0 sp true ts vs ds ps
 | [], _, _, _, _, h, _, _, _ => by
   obtain ⟨rfl, rfl, rfl⟩ := trodAll_nil h; exact trodAll_mk0
 | t :: ts, vs, ds, ps, hts, h, hlt, sp, hsp => by
   obtain ⟨v, vs', d, ds', p, q, rfl, rfl, rfl, h0, r0⟩ := trodAll_cons h; refine trodAll_cons_mk (WideElems.Trod_stays hl (hts t yS).1 (hts t yS).2 h0 (fun x hx => hb.same (hlt x (by simp [hx]))) (fun x hx => hsp x (by simp [hx]))) ?_
   exact zfg hl hb (fun t ht => hts t (by simp [ht])) r0 (fun x hx => hlt x (by simp [hx])) sp (fun x hx => hsp x (by simp [hx]))
end
theorem zoz : laidOutB Tryz.prog = true := by kernel_rfl
theorem own : ownKnob Tryz.prog.godebug = none := by kernel_rfl
open Go.RowKit Go.ChangeShapes Go.WideShapes Go.Deep
section
variable {H : Type} {enc : TypeId × Value -> H} {P : Program} {w : World} {base : Nat} {spare : Nat -> Bool} {held : Bool}
theorem zmO (b o n : Nat) : (⟨b, o, none⟩ : Addr).add n = ⟨b, o + n, none⟩ := by unfold Addr.add; split <;> simp_all
theorem zmP {a : Addr} {v : Value} (h : w.cell? a = some v) : a = ⟨a.block, a.off, none⟩ /\ a.block < w.heap.size := by
 have hl := World.block_lt_of_cell? w a h; refine ⟨?_, hl⟩
 obtain ⟨b, o, s⟩ := a; unfold World.cell? at h; cases s with
 | none => rfl
 | some s => split at h <;> simp at h
theorem zcL {α : Type} (f : Nat -> α) (n : Nat) : ((List.range n).map f).length = n := by simp
end
open Go.RowKit Go.ChangeShapes Go.WideShapes Go.Deep
def znO {α : Type} (P : Program) (E : Enc α) (Q : α -> Prop) (t : TypeId) : Prop :=
 ∀ {H : Type} (enc : TypeId × Value -> H) (w : World) (base : Nat) (spare : Nat -> Bool) (held : Bool) (fuel : Nat) (cs : List Value) (x : DataW H × List MemPlace), DataW.trod enc P w base spare held fuel t cs = some x -> ∃ a, E.cells w (· < w.heap.size) a cs /\ Q a
instance : Inhabited zaa := ⟨⟨⟨#[]⟩, 0, 0⟩⟩
theorem zjT {α : Type} {P : Program} {E : Enc α} {Q : α -> Prop} {t e : TypeId} [Inhabited α] (hE : znO P E Q e) (ht : P.underlying t = some (.slice e)) (hC : P.cellsOf e = E.size) : znO P (zgc E) (fun xs => ∀ x ∈ xs, Q x) t := by
 intro H enc w base spare held fuel cs x h; rcases open_slice ht h with ⟨h0, _⟩ | ⟨a, len, cap, m, n, D, Pl, hcs, hb, hl, hm, hmm, hx, hi⟩
 · exact ⟨[], ⟨_, h0, SlS.nil _ _⟩, fun x hx => by simp at hx⟩
 · have hmle : len <= m := by rw [hmm]; split <;> omega
   have Hh : ∀ i, i < len -> ∃ r : α, ∃ cs', E.cells w (· < w.heap.size) r cs' /\ (∀ j u, cs'[j]? = some u -> w.cell? (a.add (i * E.size + j)) = some u) /\ Q r := by
    intro i hil; obtain ⟨cs', hc, ht'⟩ := hi i yO; obtain ⟨r, hr, hq⟩ := hE enc w base spare held n cs' _ ht'; obtain ⟨_, hcl, hat⟩ := World.cells?_some hc
    refine ⟨r, cs', hr, fun j u hu => ?_, hq⟩
    have hj : j < cs'.length := (List.getElem?_eq_some_iff.1 hu).1
    rw [<- Go.Deep.add_add, <- hC, hat j yO, hu]
   obtain ⟨F, hF⟩ := choose_lt Hh; clear Hh; refine ⟨(List.range len).map F, ⟨.slice (some a) len cap, hcs, some a, cap, by rw [zcL], by rw [zcL]; exact hl, hm, fun hn => ?_⟩, ?_⟩
   · rw [zcL] at hn
     obtain ⟨cs', h1, h2, _⟩ := hF 0 hn; have hlen := E.len h1; have hpos := E.pos; have g0 := h2 0 cs'[0] (ye yO); have ha : a.add (0 * E.size + 0) = a := by simp [Addr.add]
     rw [ha] at g0; obtain ⟨hsp, hlt⟩ := zmP g0; refine ⟨a.block, a.off, by rw [<- hsp], hlt, fun k r hr => ?_⟩
     have hk : k < len := by
      have := (List.getElem?_eq_some_iff.1 hr).1
      rw [zcL] at this; exact this
     have er : F k = r := by
      rw [List.getElem?_map, List.getElem?_range hk] at hr; simpa using hr
     obtain ⟨cs'', h3, h4, _⟩ := hF k hk; rw [er] at h3; refine ⟨cs'', h3, fun j u hu => ?_⟩
     have := h4 j u hu; rw [hsp, zmO] at this; exact this
   · intro r hr
     rw [List.mem_map] at hr; obtain ⟨k, hk, rfl⟩ := hr; exact (hF k (by simpa using hk)).choose_spec.2.2
open Go.ChangeShapes Go.WideShapes Go.ChangeAt Go.RowKit Go.Joins Go.Deep
theorem zln {P : Program} {t : TypeId} (ht : P.underlying t = some (.int .u8)) : znO P zfB (fun _ => True) t := by
 intro H enc w base spare held fuel cs x h; obtain ⟨p, e1, _, e2⟩ := DataW.trod_int ht h
 have hp : 0 <= p /\ p < 256 := by
  have h1 : IntKind.u8.min <= p /\ p <= IntKind.u8.max := by simpa [Lit.wf] using e2
  have m1 : IntKind.u8.min = 0 := by decide
  have m2 : IntKind.u8.max = 255 := by decide
  rw [m1, m2] at h1; omega
 refine ⟨UInt8.ofNat p.toNat, ?_, trivial⟩
 rw [e1]; have : (UInt8.ofNat p.toNat).toNat = p.toNat := by rw [UInt8.toNat_ofNat']; omega
 show [Value.int .u8 p] = [.int .u8 ((UInt8.ofNat p.toNat).toNat : Int)]
 rw [this]; congr 2
 omega
instance : Inhabited UInt8 := ⟨0⟩
theorem zlo : znO Tryz.prog (zgc zfB) (fun xs => ∀ x ∈ xs, True) 22 := zjT (zln Tryz.underlying5) Tryz.underlying22 yk
theorem zhr {H : Type} {enc : TypeId × Value -> H} {w : World} {base : Nat} {spare : Nat -> Bool} {held : Bool} {r : Reach} {b0 : Nat} {v : Value} {d : DataW H} {p : List MemPlace}
  (hv : Value.okWide Tryz.prog w r b0 22 v) (h : DataW.Trod enc Tryz.prog w base spare held 22 v d p) : ∃ xs, Sl zfB w w.heap.size v xs := by
 obtain ⟨a, len, cap, rfl⟩ := okWide_slice Tryz.underlying22 hv; obtain ⟨fuel, hf⟩ := h; obtain ⟨xs, ⟨u, e1, hsl⟩, _⟩ := zlo enc w base spare held fuel [.slice a len cap] _ (by simpa [Value.cells] using hf); simp at e1
 subst e1; exact ⟨xs, hsl⟩
theorem zmQ {P : Program} (h : P.funcs.any Func.goes = false) (f : FuncId) : P.goes f = false := by
 have h1 : ∀ g : Nat, (P.funcs[g]?).any Func.goes = false := by
  intro g; cases hg : P.funcs[g]? with
  | none => rfl
  | some x =>
    obtain ⟨hi, rfl⟩ := Array.getElem?_eq_some_iff.1 hg
    have := Array.any_eq_false.1 h g hi; simpa using this
 unfold Program.goes; rw [h]; simp only [h1]
 simp
theorem zoA {c : OpenClaim} {P : Program} (h : P.funcs.any Func.goes = false) (hs : c.start = .entering) : false = c.goesBy P := by
 unfold OpenClaim.goesBy Program.goesAt Program.goesFrom; rw [hs]; cases P.funcNamed c.func with
 | none => rfl
 | some f => simp [zmQ h f]
theorem Tryz.no_go : Tryz.pinned.checked.prog.funcs.any Func.goes = false := by kernel_rfl
end Go.Proofs.YtdacndamehiglaaGreatDoor
