import Derived.Test.YtejgbfgocaggfaaGreatDoorM13
set_option maxRecDepth 100000
set_option maxHeartbeats 8000000
namespace Go.Proofs.YtejgbfgocaggfaaGreatDoor
open Go.RowKit
theorem ziB (b o : Nat) (vR vL : Value) (xs : List zaa) (ls : List Int) (i : Int) (c : UInt8) (w : World) (hp : w.cell? ⟨b, o, none⟩ = some vR) (hR : Sl zar w w.heap.size vR xs) (hL : Sl zgt w w.heap.size vL ls)
  (hl : zaW xs = some ls) (hn : xs.length <= 1099511627776) (hi : 0 <= i) (hc : (zau xs)[i.toNat]? = some c) :
  Calls Tryz.prog 70 #[.pointer (some ⟨b, o, none⟩), vL, .int .i64 i] w fun e w' => e = .returned (.int .u8 c.toNat) /\ w = w' := by
 have h0 : 0 < xs.length := by
  refine Nat.pos_of_ne_zero fun e => ?_
  have hx : xs = [] := yn e; subst hx; simp [zau] at hc
 have hll := zaG hl; rw [za6 h0] at hc; have hlt := (List.getElem?_eq_some_iff.1 hc).1
 have hWl := zeb hl (xs.length - 1) yO; obtain ⟨AR, cR, rfl, _, hmR, hrowR⟩ := hR; obtain ⟨AL, cL, rfl, _, hmL, hrowL⟩ := hL; unfold maxLen at hmR hmL; obtain ⟨bR, oR, rfl, hbR, hcR⟩ := hrowR.rule h0; obtain ⟨bL, oL, rfl, hbL, hcL⟩ := hrowL.int (k := 0) yO; have HcR := yq hcR; have HcL := yq hcL; have Hll := yq hll; have Hl := yq hl; have hm1 : (xs.length : Int) - 1 = ((xs.length - 1 : Nat) : Int) := by omega
 obtain ⟨m, hm⟩ : ∃ m, xs.length - 1 = m := ⟨_, rfl⟩
 rw [hm] at hm1 hc hlt hWl; have hmx : m < xs.length := by omega
 have Hc := yq hc; have hq0 : i < ls.getD m 0 := by omega
 have Hq0 := yq hq0; have Hm1 := yq hm1; clear hrowR hrowL hcR hcL hll hl hc hlt hWl hm hq0; go_enter Tryz.func70, Tryz.ntmps70
 go_wp2_with fail
 go_loopw [2, 7] (fun q a wx => ∃ (r : Nat) (z : Int), r < xs.length /\ a = .int .i64 (r : Int) /\ q = .int .i64 z /\ 0 <= z /\ z < ls.getD r 0 /\ (W1 xs r)[z.toNat]? = some c /\ wx = w) (fun _ a _ => (intOf a).toNat)
 case atStart => exact ⟨m, i, hmx, rfl, rfl, hi, Hq0.o, Hc.o, rfl⟩
 case round =>
  obtain ⟨r, z, hr, rfl, rfl, hz, hzl, hw, rfl⟩ := hrel; obtain ⟨k0, k1, k2⟩ := HcR.o r _ (zcm hr); have hri : (r : Int) < (xs.length : Int) := by omega
  have Hw := yq hw; have Hzl := yq hzl; obtain ⟨R, hR⟩ : ∃ R, zaA xs r = R := ⟨_, rfl⟩
  rw [hR] at k0 k1 k2; have HR := yq hR; clear hw hzl hR hm1; by_cases hp2 : R.letter.toList.isEmpty = true
  · have hpr : (zaA xs r).pair = true := by rw [HR.o]; rw [zaq] at hp2; exact hp2
    obtain ⟨q1, q2, q3, q4, q5⟩ := zbi Hl.o hr hpr; have hW := zes Hl.o hr hpr; rw [HR.o] at q1 q2 q3 q4 q5 hW; obtain ⟨la, hla⟩ := Int.eq_ofNat_of_zero_le q1; obtain ⟨ra, hra⟩ := Int.eq_ofNat_of_zero_le q3; rw [hla] at q2 k1; rw [hra] at q4 k2; rw [hla, hra] at hW q5; simp only [Int.toNat_natCast] at q2 q4 q5 hW
    have hlw := zeb Hl.o la yO; have cl := HcL.o la (by have := Hll.o; omega); have hli : (la : Int) < (ls.length : Int) := by have := Hll.o; omega
    have hpl := zaO Hl.o (r := la) yO; have hpr2 := zaO Hl.o (r := r) hr; obtain ⟨LA, hLA⟩ : ∃ x, ls.getD la 0 = x := ⟨_, rfl⟩
    rw [hLA] at cl hlw hpl q5; have HLA := yq hLA; have Hq5 := yq q5; have Hlw := yq hlw; have HW := yq hW; have hzb : z <= 1000000000000000 := by have := Hzl.o; omega
    clear hpr q1 q3 hla hra hLA q5 hlw hW hpr2; by_cases hc1 : z < LA
    · go_wp2_with fail
      refine ⟨⟨la, z, by omega, rfl, rfl, hz, by rw [HLA.o]; exact hc1, ?_, trivial⟩, by simp [intOf]; omega⟩
      have := Hw.o; rwa [HW.o, List.getElem?_append_left (by have := Hlw.o; omega)] at this
    · go_wp2_with fail
      refine ⟨⟨ra, z - LA, by omega, rfl, rfl, by omega, by have := Hq5.o; have := Hzl.o; omega, ?_, trivial⟩, by simp [intOf]; omega⟩
      have := Hw.o; rw [HW.o, List.getElem?_append_right (by have := Hlw.o; omega)] at this
      rwa [show z.toNat - (W1 xs la).length = (z - LA).toNat by have := Hlw.o; omega] at this
  · have hp3 : R.letter.toList.isEmpty = false := by simpa using hp2
    have hpr : (zaA xs r).pair = false := by rw [HR.o]; rw [zaq] at hp3; exact hp3
    have hsz := zc7 (zc6 Hl.o hr hpr); have hone := zbL Hl.o hr hpr; have hW := zda hpr; rw [HR.o] at hsz hW; have hz0 : z = 0 := by have := Hzl.o; omega
    have hcc : R.letter.data.toList[0]? = some c := by
     have := Hw.o; rw [hW, hz0] at this; exact this
    have hs0 : 0 < R.letter.size := by omega
    have hget : R.letter[0]'hs0 = c := by
     rw [zbd _ _ hs0] at hcc; exact Option.some.inj hcc
    have Hget := yq hget; clear hp2 hpr hone hW hz0 hcc hget; go_wp2_with fail
    go_ret
    exact ⟨by rw [<- Hget.o]; rfl, rfl⟩
theorem zmP {l : List UInt8} {i z : Int} {c : UInt8} (hi : 0 <= i) (hz : i <= z) (hc : l[z.toNat]? = some c) : zb4 l i (z + 1) = zb4 l i z ++ [c] := by
 have hlt := (List.getElem?_eq_some_iff.1 hc).1
 unfold zb4; rw [show (z + 1).toNat = z.toNat + 1 by omega, List.take_add_one, hc, Option.toList_some, List.drop_append_of_le_length (by rw [List.length_take]; omega)]
theorem zmQ (l : List UInt8) (i : Int) : zb4 l i i = [] := zig yO
theorem ziC (b o : Nat) (v : Value) (xs : List zaa) (ls : List Int) (i j : Int) (w : World) (hp : w.cell? ⟨b, o, none⟩ = some v) (hbl : b < w.heap.size) (h : Sl zar w w.heap.size v xs) (hsm : zaY xs) (hl : zaW xs = some ls)
  (hn : xs.length <= 400) (hi : 0 <= i) (hij : i <= j) (hj : j <= zao ls) (hbig : j - i <= 1000000) :
  Calls Tryz.prog 38 #[.pointer (some ⟨b, o, none⟩), .int .i64 i, .int .i64 j] w fun e w' => e = .returned (.string ⟨(zb4 (zau xs) i j).toArray⟩) /\ Below w.heap.size w w' := by
 have HR := yq h; obtain ⟨AR, cR, rfl, _⟩ := h; have Hl := yq hl; have hwl := zbf hl; have hlb := (zgd hl).2; have hd4 : decide (xs.length <= 400) = true := by simp [hn]
 clear hl; go_enter Tryz.func38, Tryz.ntmps38
 go_wp2_with fail
 refine (zdv _ _ _ xs _ hp hbl HR.o hsm).mono ?_
 rintro e w2 ⟨hb2, v2, ls', rfl, own2, hls⟩; have e4 : ls' = ls := hls hn ls Hl.o; subst e4; obtain ⟨A2, c2, rfl, _⟩ := zae own2; have p2 := (hb2.cell (p := ⟨b, o, none⟩) hbl).trans hp; have z2 : b < w2.heap.size := Nat.lt_of_lt_of_le hbl hb2.size; have HL2 := yq own2.sl; have HR2 := yq (HR.o.up hb2); have HB2 := yq hb2; clear hb2 own2 hls hp; go_wp2_with fail
 go_loopw [9, 10] (fun q a wx => ∃ (k : Nat) (z : Int) (g c : Nat) (l : List UInt8), z = i + k /\ z <= j /\ a = .int .i64 z /\ q = .slice (some ⟨g, 0, none⟩) l.length c /\ l = zb4 (zau xs) i z /\ zkR wx w2.heap.size q l /\ Below w2.heap.size w2 wx) (fun _ a _ => (j - intOf a).toNat)
 case atStart => exact ⟨0, i, _, 0, [], by omega, hij, rfl, rfl, (zmQ _ _).symm, zkR.empty rfl yL, (Below.refl _ _).alloc yL _⟩
 case round =>
  obtain ⟨k, z, g, c, l, hz, hzj, rfl, rfl, hlc, hown, hb3⟩ := hrel; have Hown := yq hown; have HB3 := yq hb3; have Hlc := yq hlc; have hll : (l.length : Int) = z - i := by rw [hlc]; exact zeS hi yO yO
  have p3 := (hb3.cell (p := ⟨b, o, none⟩) z2).trans p2; have HL3 := yq ((HL2.o.below hb3).le hb3.size); have HR3 := yq ((HR2.o.below hb3).le hb3.size); have hcv := zkR.string hown; have HLL : yh (l.length <= 1099511627776) := by rw [yh]; omega
  have hs3 : w2.heap.size <= wr.heap.size := hb3.size; have Hz0 := yq hz; have hiz : i <= z := by omega
  clear hown hb3 hlc hz; by_cases hlt : z < j
  · obtain ⟨x, hx⟩ : ∃ x, (zau xs)[z.toNat]? = some x := ⟨_, ye yO⟩
    have Hx := yq hx; have Lt := yq (ziB b o _ (.slice A2 ls'.length c2) xs ls' z x wr p3 HR3.o HL3.o Hl.o yO yO hx); have hzm : z <= 1000000000000000 := by omega
    have Hll := yq hll; clear hx hcv hll; go_wp2_with fail
    (with_reducible refine Lt.o.mono ?_)
    rintro e w4 ⟨rfl, rfl⟩
    go_wp2_with (first
     | (at_builtin; refine zmz (base := w2.heap.size) (v := .slice (some ⟨g, 0, none⟩) l.length c) (l := l) (y := x) rfl _ _ rfl rfl rfl rfl Hown.o HLL.o hs3 ?_; intro v5 w5 own5 hg5 hb5; obtain ⟨g5, c5, rfl⟩ := own5.some_ yS))
    have e5 : (l ++ [x]).length = l.length + 1 := by simp
    refine ⟨⟨k + 1, z + 1, g5, c5, l ++ [x], by have := Hz0.o; omega, by omega, rfl, by rw [e5], ?_, by rw [<- e5]; exact own5, HB3.o.trans hb5⟩, by simp [intOf]; omega⟩
    rw [zmP hi yO Hx.o, Hlc.o]
  · have hzj2 : z = j := by omega
    have Hz := yq hzj2; clear hll hzj2; go_wp2_with fail
    go_ret
    exact ⟨by rw [<- Hz.o, <- Hlc.o]; rfl, HB2.o.trans (HB3.o.mono HB2.o.size)⟩
def zcO (k : Int) : List UInt8 := if k = 1 then [105, 110, 115, 101, 114, 116] else if k = 2 then [100, 101, 108, 101, 116, 101] else if k = 3 then [99, 111, 112, 121] else if k = 4 then [109, 111, 118, 101] else if k = 5 then [116, 117, 114, 110] else if k = 6 then [114, 101, 112, 101, 97, 116] else [109, 97, 112]
def etL (e : zam) : List UInt8 := zcO e.kind ++ (32 :: dec e.i) ++ (if zbq e.kind then 32 :: dec e.j else []) ++ (if zbu e.kind then 32 :: dec e.k else []) ++ (if e.kind == 1 then 32 :: zau e.part else []) ++ (if e.kind == 7 then 32 :: e.map.data.toList else [])
def etV (e : zam) : List UInt8 := if zat e then (if e.kind == 1 && decide (2000 < (zau e.part).length) then [] else etL e) else []
theorem zg4 {k : Int} (h : inR k 1 7 = true) : (zcO k).length <= 6 := by
 rcases zeo h with rfl | rfl | rfl | rfl | rfl | rfl | rfl <;> decide
theorem zcA {a : Int} (h : 0 <= a /\ a <= 1000000000000000) : (dec a).length <= 16 := by
 unfold dec; rw [Lib.decDigits_length]; exact zhY 15 _ yO
theorem zfg (a : Int) (h : 0 <= a /\ a <= 1000000000000000) (w : World) : Calls Tryz.prog 34 #[.int .i64 a] w fun e w' => e = .returned (.string ⟨(dec a).toArray⟩) /\ Below w.heap.size w w' := by
 obtain ⟨n, rfl⟩ := Int.eq_ofNat_of_zero_le h.1; exact zkf n yO w
theorem zpG : (⟨#[32]⟩ : ByteArray) = ⟨[32].toArray⟩ := rfl
theorem zmR {k : Int} (h : inR k 1 7 = true) : (zbq k = false /\ zbu k = false /\ (k == 1) = true /\ (k == 7) = false) \/ (zbq k = true /\ zbu k = false /\ (k == 1) = false /\ (k == 7) = false) \/ (zbq k = true /\ zbu k = true /\ (k == 1) = false /\ (k == 7) = false) \/ (zbq k = true /\ zbu k = false /\ (k == 1) = false /\ (k == 7) = true) := by
 rcases zeo h with rfl | rfl | rfl | rfl | rfl | rfl | rfl <;> decide
theorem zg5 (k : Int) (w : World) (h : inR k 1 7 = true) : Calls Tryz.prog 42 #[.int .i64 k] w fun e w' =>
  e = .returned (.tuple #[.agg #[.string ⟨(zcO k).toArray⟩, .bool (zbq k), .bool (zbu k), .bool (k == 1), .bool (k == 7)], .bool true]) /\ Below w.heap.size w w' := by
 rcases zeo h with rfl | rfl | rfl | rfl | rfl | rfl | rfl
 · clear h
   go_enter Tryz.func42, Tryz.ntmps42
   go_wp2
   refine bodyPost_ret (v := .tuple #[.agg #[.string ⟨#[105, 110, 115, 101, 114, 116]⟩, .bool false, .bool false, .bool true, .bool false], .bool true]) (by simp [results, Tryz.results42, go_sem]) rfl ⟨rfl, ?_⟩
   exact yb
 · clear h
   go_enter Tryz.func42, Tryz.ntmps42
   go_wp2
   refine bodyPost_ret (v := .tuple #[.agg #[.string ⟨#[100, 101, 108, 101, 116, 101]⟩, .bool true, .bool false, .bool false, .bool false], .bool true]) (by simp [results, Tryz.results42, go_sem]) rfl ⟨rfl, ?_⟩
   exact yb
 · clear h
   go_enter Tryz.func42, Tryz.ntmps42
   go_wp2
   refine bodyPost_ret (v := .tuple #[.agg #[.string ⟨#[99, 111, 112, 121]⟩, .bool true, .bool true, .bool false, .bool false], .bool true]) (by simp [results, Tryz.results42, go_sem]) rfl ⟨rfl, ?_⟩
   exact yb
 · clear h
   go_enter Tryz.func42, Tryz.ntmps42
   go_wp2
   refine bodyPost_ret (v := .tuple #[.agg #[.string ⟨#[109, 111, 118, 101]⟩, .bool true, .bool true, .bool false, .bool false], .bool true]) (by simp [results, Tryz.results42, go_sem]) rfl ⟨rfl, ?_⟩
   exact yb
 · clear h
   go_enter Tryz.func42, Tryz.ntmps42
   go_wp2
   refine bodyPost_ret (v := .tuple #[.agg #[.string ⟨#[116, 117, 114, 110]⟩, .bool true, .bool false, .bool false, .bool false], .bool true]) (by simp [results, Tryz.results42, go_sem]) rfl ⟨rfl, ?_⟩
   exact yb
 · clear h
   go_enter Tryz.func42, Tryz.ntmps42
   go_wp2
   refine bodyPost_ret (v := .tuple #[.agg #[.string ⟨#[114, 101, 112, 101, 97, 116]⟩, .bool true, .bool true, .bool false, .bool false], .bool true]) (by simp [results, Tryz.results42, go_sem]) rfl ⟨rfl, ?_⟩
   exact yb
 · clear h
   go_enter Tryz.func42, Tryz.ntmps42
   go_wp2
   refine bodyPost_ret (v := .tuple #[.agg #[.string ⟨#[109, 97, 112]⟩, .bool true, .bool false, .bool false, .bool true], .bool true]) (by simp [results, Tryz.results42, go_sem]) rfl ⟨rfl, ?_⟩
   exact yb
theorem zb8 {e : zam} (h : zat e = true) : inR e.kind 1 7 = true /\ (0 <= e.i /\ e.i <= 1000000000000000) /\ (0 <= e.j /\ e.j <= 1000000000000000) /\ (0 <= e.k /\ e.k <= 1000000000000000) /\ zag e.part = true /\ e.map.size <= 4 := by
 unfold zat at h; simp only [Bool.and_eq_true] at h
 obtain ⟨⟨⟨⟨⟨⟨⟨h1, h2⟩, h3⟩, h4⟩, h5⟩, h6⟩, h7⟩, h8⟩ := h
 have num : ∀ n b, zaK n b = true -> 0 <= n /\ n <= 1000000000000000 := by
  intro n b hn; unfold zaK at hn; split at hn
  · simpa [inR] using hn
  · simp at hn; omega
 refine ⟨h1, by simpa [inR] using h2, num _ _ h3, num _ _ h4, h7, ?_⟩
 split at h8
 · simp at h8; omega
 · have : e.map.size = 0 := by simpa using h8
   omega
theorem zc0 (v : Value) (e : zam) (w : World) (h : ze0 w w.heap.size v e) (hn : e.part.length <= 1048576) (hm : e.map.size <= maxLen) (htab : Lib.TabIs Tryz.prog w "internal/strconv.uint64pow10" .u64 Lib.pow10Tab) :
  Calls Tryz.prog 13 #[v] w fun r w' => r = .returned (.string ⟨(etV e).toArray⟩) /\ Below w.heap.size w w' := by
 have HT := yq htab; have hV := fun o => (h.below ((Below.refl w.heap.size w).alloc yL o)).le (B' := (w.alloc o).heap.size) yS; have HV := yq hV; clear hV htab; obtain ⟨vR, rfl, hR⟩ := h; have HR := yq hR; obtain ⟨AR, cR, rfl, _⟩ := hR; go_enter Tryz.func13, Tryz.ntmps13
 go_wp2_with fail
 refine (zcf _ e _ (HV.o _) yO hm).mono ?_
 rintro r w1 ⟨rfl, hb1⟩; have z1 : w.heap.size < w1.heap.size := Nat.lt_of_lt_of_le yS hb1.size; have X1 := yq (znI.new hb1); have B1 := yq (((Below.refl w.heap.size w).alloc yL _).trans (hb1.mono yS)); clear hb1; obtain ⟨x0, x1, x2, x3, x4, x5⟩ := X1.o; by_cases he : zat e = true
 · have HE := yq he
   have g0 : (!zat e) = false := by simp [he]
   obtain ⟨hk, hi, hj, hkk, hg, hmp⟩ := zb8 he; have Hk := yq hk; have hWl := zg4 hk; have hI := zcA hi; have hJ := zcA hj; have hK := zcA hkk; have Hi := yq hi; have Hj := yq hj; have Hkk := yq hkk; have Hg := yq hg; obtain ⟨WL, hWL⟩ : ∃ WL, zcO e.kind = WL := ⟨_, rfl⟩
   have HWL := yq hWL; rw [hWL] at hWl; clear he hk hi hj hkk hg hWL; go_wp2_with fail
   refine (zg5 e.kind _ Hk.o).mono ?_
   rintro r w2 ⟨rfl, hb2⟩; rw [HWL.o]; have z2 : w.heap.size < w2.heap.size := Nat.lt_of_lt_of_le z1 hb2.size; have X2 := yq (X1.o.up hb2 z1); have B2 := yq (B1.o.trans (hb2.mono B1.o.size)); clear hb2 x0 x1 x2 x3 x4 x5; have hcm := zmR Hk.o; obtain ⟨fJ, hfJ⟩ : ∃ b, zbq e.kind = b := ⟨_, rfl⟩
   obtain ⟨fK, hfK⟩ : ∃ b, zbu e.kind = b := ⟨_, rfl⟩
   obtain ⟨fP, hfP⟩ : ∃ b, (e.kind == 1) = b := ⟨_, rfl⟩
   obtain ⟨fM, hfM⟩ : ∃ b, (e.kind == 7) = b := ⟨_, rfl⟩
   have hV0 : etV e = if fP && decide (2000 < (zau e.part).length) then [] else WL ++ (32 :: dec e.i) ++ (if fJ then 32 :: dec e.j else []) ++ (if fK then 32 :: dec e.k else []) ++ (if fP then 32 :: zau e.part else []) ++ (if fM then 32 :: e.map.data.toList else []) := by
    rw [etV, if_pos HE.o, etL, HWL.o, hfJ, hfK, hfP, hfM]
   have HV0 := yq hV0; rw [hfJ, hfK, hfP, hfM] at hcm; rw [hfJ, hfK, hfP, hfM]; clear hfJ hfK hfP hfM hV0; have n1 : ¬ (9223372036854775807 < WL.length + 1) := by omega
   have n2 : ¬ (9223372036854775807 < WL.length + 1 + (dec e.i).length) := by omega
   have hBF : ∀ o, Below w2.heap.size w2 (w2.alloc o) := fun o => (Below.refl _ _).alloc yL _; have D1 := yq (fun W hb => zfb e.i W Hi.o (zdN HT.o hb)); obtain ⟨x0, x1, x2, x3, x4, x5⟩ := X2.o; go_upto_region 4 with fail
   have f0 : (w2.alloc (Obj.cells #[.string ⟨WL.toArray⟩, .bool fJ, .bool fK, .bool fP, .bool fM] 75)).cell? ⟨w2.heap.size, 0, none⟩ = some (.string ⟨WL.toArray⟩) := by simp [go_sem]
   have f1 : (w2.alloc (Obj.cells #[.string ⟨WL.toArray⟩, .bool fJ, .bool fK, .bool fP, .bool fM] 75)).cell? ⟨w2.heap.size, 1, none⟩ = some (.bool fJ) := by simp [go_sem]
   have f2 : (w2.alloc (Obj.cells #[.string ⟨WL.toArray⟩, .bool fJ, .bool fK, .bool fP, .bool fM] 75)).cell? ⟨w2.heap.size, 2, none⟩ = some (.bool fK) := by simp [go_sem]
   have f3 : (w2.alloc (Obj.cells #[.string ⟨WL.toArray⟩, .bool fJ, .bool fK, .bool fP, .bool fM] 75)).cell? ⟨w2.heap.size, 3, none⟩ = some (.bool fP) := by simp [go_sem]
   have f4 : (w2.alloc (Obj.cells #[.string ⟨WL.toArray⟩, .bool fJ, .bool fK, .bool fP, .bool fM] 75)).cell? ⟨w2.heap.size, 4, none⟩ = some (.bool fM) := by simp [go_sem]
   have hb3 := hBF (Obj.cells #[.string ⟨WL.toArray⟩, .bool fJ, .bool fK, .bool fP, .bool fM] 75); have hl3 : w2.heap.size < (w2.alloc (Obj.cells #[.string ⟨WL.toArray⟩, .bool fJ, .bool fK, .bool fP, .bool fM] 75)).heap.size := by simp
   generalize w2.alloc (Obj.cells #[.string ⟨WL.toArray⟩, .bool fJ, .bool fK, .bool fP, .bool fM] 75) = w3 at *; have z3 : w.heap.size < w3.heap.size := by omega
   have X3 := yq (X2.o.up hb3 z2); have B3 := yq (B2.o.trans (hb3.mono B2.o.size)); have D1d := yq (D1.o w3.drew (Below.drew B3.o)); have F1 := yq f1; have F2 := yq f2; have F3 := yq f3; have F4 := yq f4; clear hb3 hBF x0 x1 x2 x3 x4 x5; obtain ⟨x0, x1, x2, x3, x4, x5⟩ := X3.o; go_cut [5] from 17 to 23 (fun q wx => q = .string ⟨(WL ++ (32 :: dec e.i)).toArray⟩ /\ Below w3.heap.size w3 wx)
   case first =>
    go_region_law (go_simp; go_at_call 45; (with_reducible refine D1d.o.mono ?_); rintro r w4 ⟨rfl, hb4⟩; have f40 := (hb4.cell (p := ⟨w2.heap.size, 0, none⟩) hl3).trans f0)
    all_goals
     go_wp2_with fail
     go_meet
     exact ⟨by simp [zdz], (Below.drew (Below.refl _ _)).trans hb4⟩
   case rest =>
    revert hcut; generalize wc = w4; intro hcut; obtain ⟨rfl, hb4⟩ := hcut; have z4 : w.heap.size < w4.heap.size := Nat.lt_of_lt_of_le z3 hb4.size; have X4 := yq (X3.o.up hb4 z3); have B4 := yq (B3.o.trans (hb4.mono B3.o.size)); have h1 := (hb4.cell (p := ⟨w2.heap.size, 1, none⟩) hl3).trans F1.o; have h2 := (hb4.cell (p := ⟨w2.heap.size, 2, none⟩) hl3).trans F2.o; have h3 := (hb4.cell (p := ⟨w2.heap.size, 3, none⟩) hl3).trans F3.o; have h4 := (hb4.cell (p := ⟨w2.heap.size, 4, none⟩) hl3).trans F4.o; have l4 : w2.heap.size < w4.heap.size := Nat.lt_of_lt_of_le hl3 hb4.size; clear f0 f1 f2 f3 f4 x0 x1 x2 x3 x4 x5 hb4 n1 n2; obtain ⟨x0, x1, x2, x3, x4, x5⟩ := X4.o; obtain ⟨L, hL⟩ : ∃ L, WL ++ (32 :: dec e.i) = L := ⟨_, rfl⟩
    have hLl : L.length <= 23 := by rw [<- hL]; simp; omega
    rw [hL]; rw [hL] at HV0; clear hL; obtain ⟨DJ, hDJ⟩ : ∃ D, dec e.j = D := ⟨_, rfl⟩
    obtain ⟨DK, hDK⟩ : ∃ D, dec e.k = D := ⟨_, rfl⟩
    have DecJ := yq (fun W hb => zfb e.j W Hj.o (zdN HT.o hb)); have DecK := yq (fun W hb => zfb e.k W Hkk.o (zdN HT.o hb)); rw [hDJ] at hJ HV0 DecJ; rw [hDK] at hK HV0 DecK; have n1 : ¬ (9223372036854775807 < 1 + DJ.length) := by omega
    have n2 : ¬ (9223372036854775807 < 1 + DK.length) := by omega
    have n3 : ¬ (9223372036854775807 < L.length + (1 + DJ.length)) := by omega
    have n4 : ¬ (9223372036854775807 < L.length + (1 + DJ.length) + (1 + DK.length)) := by omega
    have n5 : ¬ (9223372036854775807 < 1 + e.map.size) := by omega
    have n6 : ¬ (9223372036854775807 < L.length + (1 + DJ.length) + (1 + e.map.size)) := by omega
    clear hDJ hDK; rcases hcm with ⟨rfl, rfl, rfl, rfl⟩ | ⟨rfl, rfl, rfl, rfl⟩ | ⟨rfl, rfl, rfl, rfl⟩ | ⟨rfl, rfl, rfl, rfl⟩
    · have S4 := yq ((HR.o.below B4.o).le (Nat.le_of_lt z4))
      have U := zhC _ e.part w4 S4.o hn; by_cases hb : (zau e.part).length <= 2000
      · have e1 : upV e.part = zau e.part := by simp [upV, Hg.o, hb]
        have e2 : upC e.part = 0 := by simp [upC, Hg.o, hb]
        rw [e1, e2] at U; have hE : etV e = L ++ 32 :: zau e.part := by rw [HV0.o]; simp [show ¬ 2000 < (zau e.part).length by omega]
        have HE2 := yq hE; have HU := yq U; obtain ⟨P, hP⟩ : ∃ P, zau e.part = P := ⟨_, rfl⟩
        rw [hP] at HU HE2 hb; have m1 : ¬ (9223372036854775807 < 1 + P.length) := by omega
        have m2 : ¬ (9223372036854775807 < L.length + (1 + P.length)) := by omega
        clear e1 e2 U hE hP HV0; go_wp2_with fail
        refine HU.o.mono ?_
        rintro r w5 ⟨rfl, hb5⟩; have B5 := yq (B4.o.trans (hb5.mono B4.o.size)); have k4 := (hb5.cell (p := ⟨w2.heap.size, 4, none⟩) l4).trans h4; clear hb5; go_wp2_with fail
        go_ret
        exact ⟨by rw [HE2.o]; simp [zdz], B5.o⟩
      · have e1 : upV e.part = [] := by simp [upV, hb]
        have e2 : upC e.part = 3 := by simp [upC, Hg.o, hb]
        rw [e1, e2] at U; have hE : etV e = [] := by rw [HV0.o]; simp [show 2000 < (zau e.part).length by omega]
        have HE2 := yq hE; have HU := yq U; clear e1 e2 U hE HV0; go_wp2_with fail
        refine HU.o.mono ?_
        rintro r w5 ⟨rfl, hb5⟩; have B5 := yq (B4.o.trans (hb5.mono B4.o.size)); clear hb5; go_wp2_with fail
        go_ret
        exact ⟨by rw [HE2.o]; rfl, B5.o⟩
    · have hE : etV e = L ++ 32 :: DJ := by rw [HV0.o]; simp
      have HE2 := yq hE; clear hE HV0; go_wp2_with fail
      refine (DecJ.o _ B4.o).mono ?_
      rintro r w5 ⟨rfl, hb5⟩; have B5 := yq (B4.o.trans (hb5.mono B4.o.size)); have k2 := (hb5.cell (p := ⟨w2.heap.size, 2, none⟩) l4).trans h2; have k3 := (hb5.cell (p := ⟨w2.heap.size, 3, none⟩) l4).trans h3; have k4 := (hb5.cell (p := ⟨w2.heap.size, 4, none⟩) l4).trans h4; clear hb5; go_wp2_with fail
      go_ret
      exact ⟨by rw [HE2.o]; simp [zdz], B5.o⟩
    · have hE : etV e = L ++ 32 :: DJ ++ 32 :: DK := by rw [HV0.o]; simp
      have HE2 := yq hE; clear hE HV0; go_wp2_with fail
      refine (DecJ.o _ B4.o).mono ?_
      rintro r w5 ⟨rfl, hb5⟩; have X5 := yq (X4.o.up hb5 z4); have B5 := yq (B4.o.trans (hb5.mono B4.o.size)); have k2 := (hb5.cell (p := ⟨w2.heap.size, 2, none⟩) l4).trans h2; have k3 := (hb5.cell (p := ⟨w2.heap.size, 3, none⟩) l4).trans h3; have k4 := (hb5.cell (p := ⟨w2.heap.size, 4, none⟩) l4).trans h4; have l5 : w2.heap.size < w5.heap.size := Nat.lt_of_lt_of_le l4 hb5.size; clear hb5 x0 x1 x2 x3 x4 x5; obtain ⟨x0, x1, x2, x3, x4, x5⟩ := X5.o; go_wp2_with fail
      refine (DecK.o _ B5.o).mono ?_
      rintro r w6 ⟨rfl, hb6⟩; have B6 := yq (B5.o.trans (hb6.mono B5.o.size)); have j3 := (hb6.cell (p := ⟨w2.heap.size, 3, none⟩) l5).trans k3; have j4 := (hb6.cell (p := ⟨w2.heap.size, 4, none⟩) l5).trans k4; clear hb6; go_wp2_with fail
      go_ret
      exact ⟨by rw [HE2.o]; simp [zdz], B6.o⟩
    · have hE : etV e = L ++ 32 :: DJ ++ 32 :: e.map.data.toList := by rw [HV0.o]; simp
      have HE2 := yq hE; clear hE HV0; go_wp2_with fail
      refine (DecJ.o _ B4.o).mono ?_
      rintro r w5 ⟨rfl, hb5⟩; have X5 := yq (X4.o.up hb5 z4); have B5 := yq (B4.o.trans (hb5.mono B4.o.size)); have k2 := (hb5.cell (p := ⟨w2.heap.size, 2, none⟩) l4).trans h2; have k3 := (hb5.cell (p := ⟨w2.heap.size, 3, none⟩) l4).trans h3; have k4 := (hb5.cell (p := ⟨w2.heap.size, 4, none⟩) l4).trans h4; clear hb5 x0 x1 x2 x3 x4 x5; obtain ⟨x0, x1, x2, x3, x4, x5⟩ := X5.o; go_wp2_with fail
      go_ret
      refine ⟨?_, B5.o⟩
      have key : (((⟨L.toArray⟩ : ByteArray) ++ (⟨#[32]⟩ ++ ⟨DJ.toArray⟩)) ++ (⟨#[32]⟩ ++ e.map)) = ⟨(L ++ 32 :: DJ ++ 32 :: e.map.data.toList).toArray⟩ := by
       apply ByteArray.ext
       simp [ByteArray.data_append]
      rw [HE2.o, <- key]; rfl
 · have g0 : (!zat e) = true := by simpa using he
   have hV0 : etV e = [] := by rw [etV, if_neg he]
   have HV0 := yq hV0; clear he hV0; go_wp2_with fail
   go_ret
   exact ⟨by rw [HV0.o]; rfl, B1.o⟩
def zlA (w : World) (e : Ending) (w' : World) : Prop :=
 ∃ B, e = .returned (.slice (some ⟨B, 0, none⟩) 8 8) /\ Below w.heap.size w w' /\ B < w'.heap.size /\ ∀ k : Nat, inR (k : Int) 1 7 = true -> w'.cell? ⟨B, k, none⟩ = some (.string ⟨(zcO (k : Int)).toArray⟩)
theorem zjo (w : World) : Calls Tryz.prog 33 #[] w (zlA w) := by
 go_enter Tryz.func33, Tryz.ntmps33
 go_wp2
 go_ret
 refine ⟨_, rfl, yb, by simp, ?_⟩
 intro k h; have h2 : 1 <= k /\ k <= 7 := by simp [inR] at h; omega
 have : k = 1 \/ k = 2 \/ k = 3 \/ k = 4 \/ k = 5 \/ k = 6 \/ k = 7 := by omega
 clear h h2; rcases this with rfl | rfl | rfl | rfl | rfl | rfl | rfl <;> simp [go_sem, zcO]
theorem zgv (v : Value) (e : zam) (w : World) (h : ze0 w w.heap.size v e) (hsm : zaY e.part) (hn : e.part.length <= 1048576) (hm : e.map.size <= maxLen) :
  Calls Tryz.prog 11 #[v] w fun r w' => r = .returned (.string ⟨(etV e).toArray⟩) /\ Below w.heap.size w w' := by
 obtain ⟨vR, rfl, hR⟩ := h
 have hA : ∀ c : Obj, c = Obj.cells #[.int .i64 e.kind, .int .i64 e.i, .int .i64 e.j, .int .i64 e.k, vR, .string e.map] 37 -> zjl (w.alloc c) (w.alloc c).heap.size w.heap.size e vR := by
  rintro c rfl; exact ⟨znI.new (Below.refl _ _), by simp, (hR.below ((Below.refl _ _).alloc yL _)).le yS⟩
 have HA := yq hA; clear hA hR; go_enter Tryz.func11, Tryz.ntmps11
 go_wp2_with fail
 refine (zmI _ vR e _ (HA.o _ rfl) hsm yO hm).mono ?_
 rintro r w1 ⟨rfl, hb1⟩; have E1 := yq ((HA.o _ rfl).up hb1); have B1 := yq (((Below.refl w.heap.size w).alloc yL _).trans (hb1.mono yS)); clear hb1; by_cases he : zat e = true
 · have HE := yq he
   have g0 : (!zat e) = false := by simp [he]
   obtain ⟨hk, hi, hj, hkk, hg, hmp⟩ := zb8 he; have Hk := yq hk; have hWl := zg4 hk; have hI := zcA hi; have hJ := zcA hj; have hK := zcA hkk; have Hi := yq hi; have Hj := yq hj; have Hkk := yq hkk; have Hg := yq hg; obtain ⟨hu1, hu2, hu3, hu4, hu5⟩ := zgC hk; have hk7 : 1 <= e.kind /\ e.kind <= 7 := by simpa [inR] using hk
   obtain ⟨κ, hκ⟩ := Int.eq_ofNat_of_zero_le (show 0 <= e.kind by omega); have hκ8 : (κ : Int) < 8 := by omega
   obtain ⟨WL, hWL⟩ : ∃ WL, zcO e.kind = WL := ⟨_, rfl⟩
   have HWL := yq hWL; rw [hWL] at hWl; clear he hi hj hkk hg hWL hk7; have n1 : ¬ (9223372036854775807 < WL.length + 1) := by omega
   have n2 : ¬ (9223372036854775807 < WL.length + 1 + (dec e.i).length) := by omega
   have z1 : w.heap.size < w1.heap.size := E1.o.lt; have D1 := yq (fun W => zfg e.i Hi.o W); have Hκ := yq hκ; obtain ⟨x0, x1, x2, x3, x4, x5⟩ := E1.o.box; have X1 := And.intro x0 x1; rw [hκ] at x0; have hkκ : inR (κ : Int) 1 7 = true := by rw [<- hκ]; exact hk
   have hWκ : zcO (κ : Int) = WL := by rw [<- hκ]; exact HWL.o
   have Hkκ := yq hkκ; have HWκ := yq hWκ; clear hκ hk hkκ hWκ; go_upto_region 3 with fail
   go_cut [3] from 7 to 16 (fun q wx => q = .string ⟨(WL ++ (32 :: dec e.i)).toArray⟩ /\ Below w1.heap.size w1 wx)
   case first =>
    go_region_law (first
     | (go_simp; go_at_call 33; refine (zjo _).mono ?_; rintro r w2 ⟨B, rfl, hb2, hB, hw2⟩; have hcw := hw2 κ Hkκ.o; rw [HWκ.o] at hcw; clear hw2; (first | (have y0 := (hb2.cell (p := ⟨w.heap.size, 0, none⟩) z3).trans u0; have y1 := (hb2.cell (p := ⟨w.heap.size, 1, none⟩) z3).trans u1; have z2 := Nat.lt_of_lt_of_le z3 hb2.size) | (have y0 := (hb2.cell (p := ⟨w.heap.size, 0, none⟩) z1).trans x0; have y1 := (hb2.cell (p := ⟨w.heap.size, 1, none⟩) z1).trans x1; have z2 := Nat.lt_of_lt_of_le z1 hb2.size)))
     | (go_simp; go_at_call 34; (with_reducible refine (D1.o _).mono ?_); rintro r w3 ⟨rfl, hb3⟩; (first | (have u0 := (hb3.cell (p := ⟨w.heap.size, 0, none⟩) z2).trans y0; have u1 := (hb3.cell (p := ⟨w.heap.size, 1, none⟩) z2).trans y1; have z3 := Nat.lt_of_lt_of_le z2 hb3.size; have hcw' := (hb3.cell (p := ⟨B, κ, none⟩) hB).trans hcw) | (have u0 := (hb3.cell (p := ⟨w.heap.size, 0, none⟩) z1).trans x0; have u1 := (hb3.cell (p := ⟨w.heap.size, 1, none⟩) z1).trans x1; have z3 := Nat.lt_of_lt_of_le z1 hb3.size))))
    all_goals
     go_wp2_with fail
     go_meet
     first
      | exact ⟨by simp [zdz], (Below.drew (Below.refl w1.heap.size w1)).trans (hb2.trans (hb3.mono hb2.size))⟩
      | exact ⟨by simp [zdz, zpG], (Below.drew (Below.refl w1.heap.size w1)).trans (hb3.trans (hb2.mono hb3.size))⟩
   case rest =>
    revert hcut; generalize wc = w4; intro hcut; obtain ⟨rfl, hb4⟩ := hcut; have E4 := yq (E1.o.up hb4); have B4 := yq (B1.o.trans (hb4.mono B1.o.size)); clear hb4 x0 x1 x2 x3 x4 x5 X1 n1 n2; obtain ⟨x0, x1, x2, x3, x4, x5⟩ := E4.o.box; obtain ⟨L, hL⟩ : ∃ L, WL ++ (32 :: dec e.i) = L := ⟨_, rfl⟩
    have hLl : L.length <= 23 := by rw [<- hL]; simp; omega
    have hV0 : etV e = if (e.kind == 1) && decide (2000 < (zau e.part).length) then [] else L ++ (if zbq e.kind then 32 :: dec e.j else []) ++ (if zbu e.kind then 32 :: dec e.k else []) ++ (if e.kind == 1 then 32 :: zau e.part else []) ++ (if e.kind == 7 then 32 :: e.map.data.toList else []) := by
     rw [etV, if_pos HE.o, etL, HWL.o, hL]
    rw [hL]; have HV0 := yq hV0; obtain ⟨DJ, hDJ⟩ : ∃ D, dec e.j = D := ⟨_, rfl⟩
    obtain ⟨DK, hDK⟩ : ∃ D, dec e.k = D := ⟨_, rfl⟩
    have DecJ := yq (fun W => zfg e.j Hj.o W); have DecK := yq (fun W => zfg e.k Hkk.o W); rw [hDJ] at hJ HV0 DecJ; rw [hDK] at hK HV0 DecK; have m1 : ¬ (9223372036854775807 < 1 + DJ.length) := by omega
    have m2 : ¬ (9223372036854775807 < 1 + DK.length) := by omega
    have m3 : ¬ (9223372036854775807 < L.length + (1 + DJ.length)) := by omega
    have m4 : ¬ (9223372036854775807 < L.length + (1 + DJ.length) + (1 + DK.length)) := by omega
    have m5 : ¬ (9223372036854775807 < 1 + e.map.size) := by omega
    have m6 : ¬ (9223372036854775807 < L.length + (1 + DJ.length) + (1 + e.map.size)) := by omega
    have hcm := zmR Hk.o; have hus : (zcN e.kind).size <= maxLen := Nat.le_trans hu5 (by decide); have HasJ := yq (fun W => zdO (zcN e.kind) 74 W hus); have HasK := yq (fun W => zdO (zcN e.kind) 75 W hus); have HasP := yq (fun W => zdO (zcN e.kind) 80 W hus); have HasM := yq (fun W => zdO (zcN e.kind) 77 W hus); rw [hu1] at HasJ; rw [hu2] at HasK; rw [hu3] at HasP; rw [hu4] at HasM; clear hDJ hDK hL hV0 hu1 hu2 hu3 hu4; rcases hcm with ⟨c1, c2, c3, c4⟩ | ⟨c1, c2, c3, c4⟩ | ⟨c1, c2, c3, c4⟩ | ⟨c1, c2, c3, c4⟩
    all_goals
     rw [c1] at HasJ HV0; rw [c2] at HasK HV0; rw [c3] at HasP HV0; rw [c4] at HasM HV0; clear c1 c2 c3 c4; go_wp2_with fail
     refine (zd4 e.kind _ Hk.o).mono ?_
     rintro r w5 ⟨rfl, hb5⟩; have E5 := yq (E4.o.up hb5); have B5 := yq (B4.o.trans (hb5.mono B4.o.size)); clear hb5 x0 x1 x2 x3 x4 x5; obtain ⟨x0, x1, x2, x3, x4, x5⟩ := E5.o.box; go_wp2_with fail
     refine (HasJ.o _).mono ?_
     rintro r w' ⟨rfl, rfl⟩
    · go_wp2_with fail
      refine (HasK.o _).mono ?_
      rintro r w' ⟨rfl, rfl⟩; go_wp2_with fail
      refine (HasP.o _).mono ?_
      rintro r w' ⟨rfl, rfl⟩; go_wp2_with fail
      obtain ⟨ls, hls⟩ := (zai Hg.o).2; have hn400 := (zai Hg.o).1; have hwl := zbf hls; refine (zbm _ 4 _ e.part ls _ hls x4 E5.o.lt E5.o.sl hsm yO).mono ?_
      rintro r w6 ⟨rfl, hb6⟩; have E6 := yq (E5.o.up hb6); have B6 := yq (B5.o.trans (hb6.mono B5.o.size)); clear hb6 x0 x1 x2 x3 x4 x5; obtain ⟨x0, x1, x2, x3, x4, x5⟩ := E6.o.box; by_cases hbig : 2000 < zao ls
      · have hE : etV e = [] := by
         rw [HV0.o]; have : 2000 < (zau e.part).length := by omega
         simp [this]
        have HE2 := yq hE; have d1 : decide (2000 < zao ls) = true := by simp [hbig]
        clear hE HV0 hwl; go_wp2_with fail
        go_ret
        exact ⟨by rw [HE2.o]; rfl, B6.o⟩
      · have d1 : decide (2000 < zao ls) = false := by simp [hbig]
        have hE : etV e = L ++ 32 :: zau e.part := by
         rw [HV0.o]; have : ¬ 2000 < (zau e.part).length := by omega
         simp [this]
        have HE2 := yq hE; have hP : zb4 (zau e.part) 0 (zao ls) = zau e.part := zih yO yO; have hPl : (zau e.part).length <= 2000 := by omega
        have hbds : 0 <= zao ls := by omega
        have hb2000 : zao ls - 0 <= 1000000 := by omega
        obtain ⟨P, hPe⟩ : ∃ P, zau e.part = P := ⟨_, rfl⟩
        have HU := yq (fun (W : World) (hc : W.cell? ⟨w.heap.size, 4, none⟩ = some vR) (hlt : w.heap.size < W.heap.size) (hs : Sl zar W W.heap.size vR e.part) => ziC w.heap.size 4 vR e.part ls 0 (zao ls) W hc hlt hs hsm hls hn400 (Int.le_refl 0) hbds (Int.le_refl _) hb2000); rw [hP, hPe] at HU; rw [hPe] at HE2 hPl; have m7 : ¬ 9223372036854775807 < 1 + P.length := by omega
        have m8 : ¬ 9223372036854775807 < L.length + (1 + P.length) := by omega
        clear hE HV0 hwl hP hPe hbig hb2000 hbds; go_wp2_with fail
        refine (zbm _ 4 _ e.part ls _ hls x4 E6.o.lt E6.o.sl hsm yO).mono ?_
        rintro r w7 ⟨rfl, hb7⟩; have E7 := yq (E6.o.up hb7); have B7 := yq (B6.o.trans (hb7.mono B6.o.size)); clear hb7 x0 x1 x2 x3 x4 x5; obtain ⟨x0, x1, x2, x3, x4, x5⟩ := E7.o.box; go_wp2_with fail
        refine (HU.o _ x4 E7.o.lt E7.o.sl).mono ?_
        rintro r w8 ⟨rfl, hb8⟩; have B8 := yq (B7.o.trans (hb8.mono B7.o.size)); clear hb8; go_wp2_with fail
        refine (HasM.o _).mono ?_
        rintro r w' ⟨rfl, rfl⟩; go_wp2_with fail
        go_ret
        exact ⟨by rw [HE2.o]; simp [zdz], B8.o⟩
    · have hE : etV e = L ++ 32 :: DJ := by rw [HV0.o]; simp
      have HE2 := yq hE; clear hE HV0; go_wp2_with fail
      refine (DecJ.o _).mono ?_
      rintro r w6 ⟨rfl, hb6⟩; have E6 := yq (E5.o.up hb6); have B6 := yq (B5.o.trans (hb6.mono B5.o.size)); clear hb6; go_wp2_with fail
      refine (HasK.o _).mono ?_
      rintro r w' ⟨rfl, rfl⟩; go_wp2_with fail
      refine (HasP.o _).mono ?_
      rintro r w' ⟨rfl, rfl⟩; go_wp2_with fail
      refine (HasM.o _).mono ?_
      rintro r w' ⟨rfl, rfl⟩; go_wp2_with fail
      go_ret
      exact ⟨by rw [HE2.o]; simp [zdz], B6.o⟩
    · have hE : etV e = L ++ 32 :: DJ ++ 32 :: DK := by rw [HV0.o]; simp
      have HE2 := yq hE; clear hE HV0; go_wp2_with fail
      refine (DecJ.o _).mono ?_
      rintro r w6 ⟨rfl, hb6⟩; have E6 := yq (E5.o.up hb6); have B6 := yq (B5.o.trans (hb6.mono B5.o.size)); clear hb6 x0 x1 x2 x3 x4 x5; obtain ⟨x0, x1, x2, x3, x4, x5⟩ := E6.o.box; go_wp2_with fail
      refine (HasK.o _).mono ?_
      rintro r w' ⟨rfl, rfl⟩; go_wp2_with fail
      refine (DecK.o _).mono ?_
      rintro r w7 ⟨rfl, hb7⟩; have B7 := yq (B6.o.trans (hb7.mono B6.o.size)); clear hb7; go_wp2_with fail
      refine (HasP.o _).mono ?_
      rintro r w' ⟨rfl, rfl⟩; go_wp2_with fail
      refine (HasM.o _).mono ?_
      rintro r w' ⟨rfl, rfl⟩; go_wp2_with fail
      go_ret
      exact ⟨by rw [HE2.o]; simp [zdz], B7.o⟩
    · have hE : etV e = L ++ 32 :: DJ ++ 32 :: e.map.data.toList := by rw [HV0.o]; simp
      have HE2 := yq hE; clear hE HV0; go_wp2_with fail
      refine (DecJ.o _).mono ?_
      rintro r w6 ⟨rfl, hb6⟩; have E6 := yq (E5.o.up hb6); have B6 := yq (B5.o.trans (hb6.mono B5.o.size)); clear hb6 x0 x1 x2 x3 x4 x5; obtain ⟨x0, x1, x2, x3, x4, x5⟩ := E6.o.box; go_wp2_with fail
      refine (HasK.o _).mono ?_
      rintro r w' ⟨rfl, rfl⟩; go_wp2_with fail
      refine (HasP.o _).mono ?_
      rintro r w' ⟨rfl, rfl⟩; go_wp2_with fail
      refine (HasM.o _).mono ?_
      rintro r w' ⟨rfl, rfl⟩; go_wp2_with fail
      go_ret
      refine ⟨?_, B6.o⟩
      have key : (((⟨L.toArray⟩ : ByteArray) ++ (⟨#[32]⟩ ++ ⟨DJ.toArray⟩)) ++ (⟨#[32]⟩ ++ e.map)) = ⟨(L ++ 32 :: DJ ++ 32 :: e.map.data.toList).toArray⟩ := by
       apply ByteArray.ext
       simp [ByteArray.data_append]
      rw [HE2.o, <- key]; rfl
 · have g0 : (!zat e) = true := by simpa using he
   have hV0 : etV e = [] := by rw [etV, if_neg he]
   have HV0 := yq hV0; clear he hV0; go_wp2_with fail
   go_ret
   exact ⟨by rw [HV0.o]; rfl, B1.o⟩
def zez (s : ByteArray) (c : UInt8) (k : Nat) : List Int := ((List.range k).filter (fun j => s.data.getD j 0 == c)).map fun (j : Nat) => (j : Int)
theorem zkk (s : ByteArray) (c : UInt8) (k : Nat) : zez s c (k + 1) = if s.data.getD k 0 = c then zez s c k ++ [(k : Int)] else zez s c k := by
 unfold zez; rw [List.range_succ, List.filter_append, List.map_append]; by_cases h : s.data.getD k 0 = c
 · rw [if_pos h]; simp at h; simp [h]
 · rw [if_neg h]; simp at h; simp [h]
theorem zlB (s : ByteArray) (c : UInt8) (k : Nat) : (zez s c k).length <= k := by
 unfold zez; rw [List.length_map]; exact Nat.le_trans (List.length_filter_le _ _) yS
theorem zlC (s : ByteArray) (c : UInt8) : 0 < (zez s c s.size).length ↔ zhW s c = true := by
 unfold zez zhW; rw [List.length_map, List.length_pos_iff_exists_mem, List.contains_iff_mem]; constructor
 · rintro ⟨j, hj⟩
   obtain ⟨h1, h2⟩ := List.mem_filter.1 hj; have h3 := List.mem_range.1 h1; rw [zbQ h3] at h2; have : s[j] = c := by simpa using h2
   rw [<- this]; exact List.mem_of_getElem? (zbd s j h3)
 · intro h
   obtain ⟨j, hj⟩ := List.mem_iff_getElem?.1 h; have hlt : j < s.size := by have := (List.getElem?_eq_some_iff.1 hj).1; simpa using this
   refine ⟨j, List.mem_filter.2 ⟨List.mem_range.2 hlt, ?_⟩⟩
   rw [zbd s j hlt] at hj; rw [zbQ hlt]; simpa using hj
theorem zo7 (s : ByteArray) (i : Nat) (h : i < s.size) : s.extract i (i + 1) = ⟨#[s.data.getD i 0]⟩ := by
 rw [zbQ h]; apply ByteArray.ext
 apply Array.ext'
 show (s.extract i (i + 1)).data.toList = [s[i]]
 rw [Lib.extract_data, show i + 1 - i = 1 by omega]; have h1 := zbd s i h; have hl : i < s.data.toList.length := (List.getElem?_eq_some_iff.1 h1).1
 rw [List.drop_eq_getElem_cons hl]
 have h2 : s.data.toList[i] = s[i] := by
  have := ye hl; rw [h1] at this; exact (Option.some.inj this).symm
 rw [h2]; rfl
theorem zjp (s : ByteArray) (c : UInt8) (w : World) (hs : s.size <= 1048576) :
  Calls Tryz.prog 161 #[.string ⟨#[c]⟩, .string s] w fun e w' => ∃ v, e = .returned v /\ zan w' w.heap.size v (zez s c s.size) /\ Below w.heap.size w w' := by
 go_enter Tryz.func161, Tryz.ntmps161
 go_wp2_with fail
 go_loopw [5, 6] (fun out q wr => ∃ (i : Nat), i <= s.size /\ q = .int .i64 (i : Int) /\ Below w.heap.size w wr /\ zan wr w.heap.size out (zez s c i)) (fun _ q _ => s.size - (intOf q).toNat)
 case atStart => exact ⟨0, by omega, rfl, yb, zan.empty yS yS⟩
 case round =>
  obtain ⟨i, hi, rfl, hb, hown⟩ := hrel; have HB := yq hb; have HO := yq hown; have hsz : w.heap.size <= wr.heap.size := hb.size; have hfl := zlB s c i; clear hb; by_cases hlt : i < s.size
  · have hE := zo7 s i hlt
    have HF := yq (zkk s c i); by_cases hc : s.data.getD i 0 = c
    · have HC := yq hc
      rw [hc] at hE; clear hc
      go_wp2_with (first
       | (at_builtin; go_must (refine zdD rfl _ _ rfl rfl rfl yS (by repeat (first | exact hown | apply zan.alloc)) yO (by first | omega | (simp; omega)) ?_)
          intro v' w1 hown1 hgrow hbw))
      go_roundw
      case rel => exact ⟨i + 1, by omega, by go_num, HB.o.trans hbw, by rw [HF.o, if_pos HC.o]; exact hown1⟩
      case measure => simp [intOf]; omega
    · have HC := yq hc
      have hne : ¬ (⟨#[s.data.getD i 0]⟩ : ByteArray) = ⟨#[c]⟩ := fun h => hc (by
       have h2 := congrArg ByteArray.data h
       simpa using h2)
      obtain ⟨d, hd⟩ : ∃ d, s.data.getD i 0 = d := ⟨_, rfl⟩
      rw [hd] at hne hE hc; have hbq : (d == c) = false := by simpa using hc
      clear hd; go_wp2_with fail
      go_roundw
      case rel => exact ⟨i + 1, by omega, by go_num, HB.o, by rw [HF.o, if_neg HC.o]; exact HO.o⟩
      case measure => simp [intOf]; omega
  · have hi2 : i = s.size := by omega
    subst hi2; go_wp2_with fail
    go_ret
    exact ⟨_, rfl, HO.o, HB.o⟩
theorem zpH (s : ByteArray) {k : Nat} (hk : k < 4) (h : zhW s (ltr k) = true) : zhw s (ltr k) = (zbb s k).length := by
 have : k = 0 \/ k = 1 \/ k = 2 \/ k = 3 := by omega
 have e01 : zdn (ltr 0) ≠ zdn (ltr 1) := by decide
 unfold zhw zbb; rcases this with rfl | rfl | rfl | rfl <;> simp only [List.range_succ, List.range_zero, List.nil_append, List.cons_append, List.filter_cons, h] <;> (repeat' split) <;> first | rfl | decide | (simp_all; done)
def zoE (s : ByteArray) (T : List Int) (k : Nat) : Prop := T.length = 4 /\ ∀ j, j < k -> zhW s (ltr j) = true -> T.getD j 0 = (zhw s (ltr j) : Nat)
theorem zoE.next {s : ByteArray} {T : List Int} {k : Nat} (h : zoE s T k) (hn : ¬ zhW s (ltr k) = true) : zoE s T (k + 1) :=
 ⟨h.1, fun j hj hc => by
  rcases Nat.lt_succ_iff_lt_or_eq.1 hj with h1 | rfl
  · exact h.2 j h1 hc
  · exact absurd hc hn⟩
theorem zoE.put {s : ByteArray} {T : List Int} {k : Nat} (h : zoE s T k) (hk : k < 4) (hc : zhW s (ltr k) = true) : zoE s (T.set k ((zbb s k).length : Nat)) (k + 1) :=
 ⟨by rw [List.length_set]; exact h.1, fun j hj hcj => by
  rw [ziq (by rw [h.1]; exact hk)]; split
  · rename_i e; subst e; rw [zpH s hk hc]
  · exact h.2 j yO hcj⟩
theorem zg6 (W : World) {W' : World} {ops : Array Oper} {o : Oper} {a : Act} {K : Act -> World -> Prop} {Q : Exit -> Act -> World -> Prop} {E : Prop} {t : ByteArray} {p q : Int} (hW : W' = W.alloc (.cells #[.string t, .int .i64 p, .int .i64 q] 88)) (hgd : o.guard = none) (s x : Operand)
  (ho : o.op = .call { callee := .builtin .append, args := #[s, x], argTypes := #[24, 24] }) {base : Nat} {v : Value} {l : List zaa}
  (hs : a.eval s = v) {N : Nat} (hx : a.eval x = .slice (some ⟨N, 0, none⟩) 1 1) (hN : N = W.heap.size) (hown : zac W base v l) (hlen : l.length <= 1099511627775) (hbase : base <= W.heap.size)
  (h : ∀ v' w', zac w' base v' (l ++ [⟨t, p, q⟩]) -> (W.alloc (.cells #[.string t, .int .i64 p, .int .i64 q] 88)).grownBy w' v.ownBlock -> Below base (W.alloc (.cells #[.string t, .int .i64 p, .int .i64 q] 88)) w' -> K (a.put o.dst v') w') :
  if Region.wanted o (yielded ops a.tmps) = true then Oper.wp Tryz.prog o a W' K Q else E := by
 subst hW; exact zbc hgd s x ho hs hx hN hown hlen hbase h
theorem zjq {s : ByteArray} {T : List Int} (hw : zaB s = true) (hT : zoE s T 4) {i : Nat} (h : i < s.size) : ∃ j : Nat, j < 4 /\ ((s[i].toNat : Int) - 97) % 256 = (j : Int) /\ IntKind.u8.wrap ((s[i].toNat : Int) - 97) = (j : Int) /\ T.getD j 0 = ((zhw s (s.data.getD i 0) : Nat) : Int) := by
 obtain ⟨j, hj, e⟩ := zj8 (zim hw h); have hc := zmy h; rw [zbQ h]; rw [e] at hc |-
 have h1 : (((ltr j).toNat : Int) - 97) % 256 = (j : Int) := by
  rw [<- zgX hj]; omega
 exact ⟨j, hj, h1, h1, hT.2 j hj hc⟩
theorem zjr (s : ByteArray) (w : World) (hs : zaB s = true) :
  Calls Tryz.prog 129 #[.string s] w (znO (zaM s) w) := by
 have hsz : s.size <= 2000 := by unfold zaB at hs; simp only [Bool.and_eq_true, decide_eq_true_eq] at hs; omega
 have HS := yq hs; clear hs
 have hmk : ∀ W : World, (Instr.makeSlice 94 (.int .i64 4) (.int .i64 4)).run Tryz.prog W = .ok (.slice (some ⟨W.heap.size, 0, none⟩) 4 4) (W.alloc (.cells #[.int .i64 0, .int .i64 0, .int .i64 0, .int .i64 0] 2)) :=
  fun W => by
   have h := run_make_row' (P := Tryz.prog) 94 2 (.int .i64 0) 8 Tryz.underlying94 Tryz.infoI rfl .i64 .i64 4 yO yO W
   have e : madeCells #[Value.int .i64 0] 4 = #[.int .i64 0, .int .i64 0, .int .i64 0, .int .i64 0] := by
    have hr : Array.range 4 = #[0, 1, 2, 3] := by decide
    simp [madeCells, hr]
   rw [e] at h; exact h
 go_enter Tryz.func129, Tryz.ntmps129
 go_wp2_with fail
 go_loopw [5, 6] (fun q u6 wr => ∃ (k : Nat) (vo : Value) (T : List Int), k <= 4 /\ q = .int .i64 (k : Int) /\ Below w.heap.size w wr /\ Blk wr w.heap.size #[.slice none 0 0] 26 /\ Boxed wr (w.heap.size + 1) 26 vo /\ zac wr (w.heap.size + 3) vo (zbb s k) /\ Blk wr (w.heap.size + 2) ((T.map (Value.int .i64)).toArray) 2 /\ zoE s T k) (fun q _ _ => 4 - (intOf q).toNat)
 case atStart =>
  refine ⟨0, .slice none 0 0, [0, 0, 0, 0], by omega, rfl, yb, ?_, ?_, World.ownsRow_nil _ _ _ _, ?_, rfl, fun j hj => by omega⟩
  · repeat (first | (apply Blk.new'; simp; done) | apply Blk.alloc | apply Blk.drew)
  · show Blk _ _ #[.slice none 0 0] _
    repeat (first | (apply Blk.new'; simp; done) | apply Blk.alloc | apply Blk.drew)
  · show Blk _ _ #[.int .i64 0, .int .i64 0, .int .i64 0, .int .i64 0] _
    repeat (first | (apply Blk.new'; simp; done) | apply Blk.alloc | apply Blk.drew)
 case round =>
  obtain ⟨k, vo, T, hk, rfl, hb, h0, hbox, hown, hT, htab⟩ := hrel; have HB := yq hb; have H0 := yq h0; have Hbox := yq hbox; have Hown := yq hown; have HT := yq hT; have HTab := yq htab; obtain ⟨Ao, co, rfl, _⟩ := zae hown; clear hb h0 hbox hown hT htab; by_cases hlt : k < 4
  · have hcv : (convert 22 9 (.slice (some ⟨wr.heap.size, 0, none⟩) 1 1)).run Tryz.prog (wr.alloc (.cells #[.int .u8 (97 + (k : Int))] 5)) = .ok (.string (zdn (ltr k)).letter) (wr.alloc (.cells #[.int .u8 (97 + (k : Int))] 5)) := by
     have := zoW wr _ rfl (ltr k); rw [<- zgX hlt, show ((97 + k : Nat) : Int) = 97 + (k : Int) by omega] at this; exact this
    have HSu := yq (zhX s k); have hTl := HTab.o.1; have cT := HT.o.cell (i := k) (zcX yO); have fT := HT.o.frozen k; have lT := HT.o.lt; have cb := Hbox.o.cell; have fb := Hbox.o.frozen; have lb := Hbox.o.lt; have hll := zew s k; go_wp2_with fail
    refine (zjp s (ltr k) _ yO).mono ?_
    rintro e w2 ⟨v2, rfl, own2, hb2⟩; obtain ⟨A2, c2, rfl, _⟩ := zan.sl own2; obtain ⟨hb3, _⟩ := Below.unalloc hb2; have z2 : wr.heap.size <= w2.heap.size := hb3.size; have HB2 := yq (HB.o.trans (hb3.mono HB.o.size)); have H02 := yq (H0.o.up hb3); have Hbox2 := yq (Boxed.up Hbox.o hb3 Hbox.o.lt); have Hown2 := yq (zac.below Hown.o hb3); have HT2 := yq (HT.o.up hb3); have cT2 := HT2.o.cell (i := k) (zcX yO); have fT2 := HT2.o.frozen k; have lT2 := HT2.o.lt; have cb2 := Hbox2.o.cell; have fb2 := Hbox2.o.frozen; have lb2 := Hbox2.o.lt; have hpos := zlC s (ltr k); generalize (zez s (ltr k) s.size).length = M at *; clear hb2 own2 cT fT lT cb fb lb HB H0 Hbox Hown HT hb3; by_cases hc : zhW s (ltr k) = true
    · have hM : 0 < M := hpos.2 hc
      have HC := yq hc; clear hpos hc; have KX : ∀ v, Boxed (w2.setCell ⟨w.heap.size + 2, k, none⟩ v) (w.heap.size + 1) 26 (.slice Ao (zbb s k).length co) := fun v => Blk.other Hbox2.o (by show w.heap.size + 1 ≠ w.heap.size + 2; omega) v; have HKX := yq KX; have HOX := yq (fun v => ownsRow_setCell_below Hown2.o (a := ⟨w.heap.size + 2, k, none⟩) (by show w.heap.size + 2 < w.heap.size + 3; omega) v); clear KX
      go_wp2_with (first
       | (at_builtin; refine za5 (base := w.heap.size + 3) (t := ⟨#[ltr k]⟩) (p := 0) (q := 0) rfl _ _ rfl rfl rfl yS (HOX.o _) yO (by simp; omega) ?_; intro v3 w3 own3 hg3 hb3; have bx3 : Boxed w3 (w.heap.size + 1) 26 _ := Boxed.grown (HKX.o _) (by decide) (HOX.o _) hg3; obtain ⟨A3, c3, rfl, _⟩ := zae own3; have hcb3 := bx3.cell; have hfb3 := bx3.frozen; have hlb3 := bx3.lt))
      have hbz : Below (w.heap.size + 3) (w2.setCell ⟨w.heap.size + 2, k, none⟩ (.int .i64 ((zbb s k).length : Nat))) w3 := ((Below.refl _ _).alloc (by simp; omega) _).trans hb3; have hby : Below w.heap.size w w3 := (HB2.o.setCell (by show w.heap.size <= w.heap.size + 2; omega) _).trans (hbz.mono yO); go_roundw
      case rel =>
       refine ⟨k + 1, _, T.set k ((zbb s k).length : Nat), by omega, by go_num, hby.setCell (by show w.heap.size <= w.heap.size + 1; omega) _, ((H02.o.other (by show w.heap.size ≠ w.heap.size + 2; omega) _).upB hbz yO).other (by show w.heap.size ≠ w.heap.size + 1; omega) _, Boxed.set _ bx3, ?_, ?_, HTab.o.put hlt HC.o⟩
       · rw [HSu.o, if_pos HC.o]
         exact zcK bx3 own3 rfl yS
       · rw [<- zip]
         exact ((HT2.o.set k _).upB hbz yO).other (by show w.heap.size + 2 ≠ w.heap.size + 1; omega) _
      case measure => simp [intOf]; omega
    · have hM : M = 0 := by
       rcases Nat.eq_zero_or_pos M with h | h
       · exact h
       · exact absurd (hpos.1 h) hc
      subst hM; have HC := yq hc; clear hpos hc; go_wp2_with fail
      go_roundw
      case rel => exact ⟨k + 1, _, T, by omega, by go_num, HB2.o, H02.o, Hbox2.o, by rw [HSu.o, if_neg HC.o]; exact Hown2.o, HT2.o, HTab.o.next HC.o⟩
      case measure => simp [intOf]; omega
  · have hk4 : k = 4 := by omega
    subst hk4; rw [show ((4 : Nat) : Int) = 4 from rfl]; have hlen4 := zew s 4; obtain ⟨wo, rfl⟩ : ∃ wo : World, wo = wr := ⟨_, rfl⟩
    have hTl := HTab.o.1; go_wp2_with fail
    go_loopw [7, 8] (fun q u8 wx => ∃ (i : Nat) (vo : Value), 1 <= i /\ (i <= s.size \/ i = 1) /\ q = .int .i64 (i : Int) /\ Below w.heap.size w wx /\ Blk wx w.heap.size #[.slice none 0 0] 26 /\ Boxed wx (w.heap.size + 1) 26 vo /\
     zac wx (w.heap.size + 3) vo (zbJ s (i - 1)) /\ Blk wx (w.heap.size + 2) ((T.map (Value.int .i64)).toArray) 2) (fun q _ _ => s.size + 1 - (intOf q).toNat)
    case atStart =>
     refine ⟨1, _, Nat.le_refl _, .inr rfl, rfl, HB.o, H0.o, Hbox.o, ?_, HT.o⟩
     rw [show 1 - 1 = 0 from rfl, zcp]; exact Hown.o
    case round =>
     obtain ⟨i, vo, hi1, hi2, rfl, hb, h0, hbox, hown, hT⟩ := hrel; have HB2 := yq hb; have HK0 := yq h0; have HX := yq hbox; have HO := yq hown; have HT2 := yq hT; have cb' := hbox.cell; have fb' := hbox.frozen; have lb' := hbox.lt; have lT' := hT.lt; have hlp := yq (zcM s (i - 1)); obtain ⟨A2, c2, rfl, _⟩ := zae hown; clear hb h0 hbox hown hT HB H0 Hbox Hown HT; by_cases hlt2 : i < s.size
     · have HP := yq (zd0 s (i - 1))
       have HLn := yq (show (zbJ s (i - 1)).length <= 1099511627775 by rw [hlp.o]; omega); have hpos : 0 < s.size := by omega
       have hpl1 : 1 <= (zbJ s (i - 1)).length := by have := zdc HS.o hpos; rw [hlp.o]; omega
       have hpl2 : (zbJ s (i - 1)).length <= 4000 := by rw [hlp.o]; omega
       obtain ⟨j1, hj1, hn1, hw1, ht1⟩ := zjq HS.o HTab.o hlt2; have hj1' : (j1 : Int) < 4 := by omega
       have cT1 := HT2.o.cell (i := j1) (zcX yO); obtain ⟨I, hI⟩ : ∃ I : Nat, I = zhw s (s.data.getD i 0) := ⟨_, rfl⟩
       rw [ht1, <- hI] at cT1; obtain ⟨B, hB⟩ : ∃ B : Nat, (if i - 1 = 0 then (zhw s (s.data.getD 0 0) : Nat) else (zbb s 4).length + (i - 1) - 1) = B := ⟨_, rfl⟩
       have hBp : zev s (i - 1) = zaP (B : Int) (I : Int) := by
        unfold zev; rw [show i - 1 + 1 = i by omega, <- hB, <- hI]; split <;> rfl
       have HBp := yq hBp; have HBq := yq hB; clear hBp hB hI ht1; go_upto_if 49 with fail
       go_cut [8] (fun u8 wx => u8 = .int .i64 (B : Int) /\ wx = wr)
       case first =>
        by_cases h1i : i = 1
        · subst h1i
          obtain ⟨j0, hj0, hn0, hw0, ht0⟩ := zjq HS.o HTab.o hpos; have cT0 := HT2.o.cell (i := j0) (zcX yO); rw [ht0] at cT0; go_wp2_with fail
          go_meet
          exact ⟨by rw [<- HBq.o, if_pos trivial, zbQ hpos]; rfl, rfl⟩
        · have hb1 : ((i : Int) == 1) = false := by rw [beq_eq_false_iff_ne]; omega
          go_wp2
          go_meet
          refine ⟨?_, rfl⟩
          rw [<- HBq.o, if_neg yO, hlp.o]; congr 1; omega
       case rest =>
        obtain ⟨rfl, rfl⟩ := hcut; go_wp2_with fail
        go_region_law (refine zg6 wc.drew (base := w.heap.size + 3) yR yR _ _ yR yR (by first | rfl | simp) rfl HO.o.drew HLn.o (by show w.heap.size + 3 <= wc.heap.size; omega) ?_; intro v3 w3 own3 hg3 hb3; have bx3 : Boxed w3 (w.heap.size + 1) 26 _ := Boxed.grown (show Boxed wc.drew (w.heap.size + 1) 26 _ from HX.o) (by decide) HO.o.drew hg3; obtain ⟨A3, c3, rfl, _⟩ := zae own3; have hcb3 := bx3.cell; have hfb3 := bx3.frozen; have hlb3 := bx3.lt)
        all_goals
         have hbz : Below (w.heap.size + 3) wc w3 := (Below.drew (Below.refl _ _)).trans (((Below.refl _ _).alloc (by show w.heap.size + 3 <= wc.heap.size; omega) _).trans hb3); have HBZ := yq hbz; have HO3 := yq own3; have HX3 := yq bx3; clear hbz own3 bx3 hb3 hg3; go_wp2
         go_roundw
         case rel =>
          refine ⟨i + 1, _, by omega, .inl yO, by go_num, (HB2.o.trans (HBZ.o.mono yO)).setCell (by show w.heap.size <= w.heap.size + 1; omega) _, (HK0.o.upB HBZ.o yO).other (by show w.heap.size ≠ w.heap.size + 1; omega) _, Boxed.set _ HX3.o, ?_, (HT2.o.upB HBZ.o yO).other (by show w.heap.size + 2 ≠ w.heap.size + 1; omega) _⟩
          rw [show i + 1 - 1 = (i - 1) + 1 by omega, HP.o, HBp.o]; exact zcK HX3.o HO3.o rfl yS
         case measure => simp [intOf]; omega
     · have HE := yq (show zbJ s (i - 1) = zaM s by rw [zaM]; congr 1; omega)
       have r1 := HK0.o.cell (i := 0) (v := .slice none 0 0) rfl; have r2 := HK0.o.frozen 0; have r3 := HK0.o.lt; go_wp2
       rw [HE.o] at HO HX; refine bodyPost_ret (v := .agg #[.slice A2 (zaM s).length c2]) (by simp [results, Tryz.results129, go_sem, r1, HE.o]) rfl ⟨HB2.o.setCell (by show w.heap.size <= w.heap.size; omega) _, _, ?_, rfl⟩
       exact zad (ownsRow_setCell_below HO.o (a := ⟨w.heap.size, 0, none⟩) (by show w.heap.size < w.heap.size + 3; omega) _) yO
end Go.Proofs.YtejgbfgocaggfaaGreatDoor
