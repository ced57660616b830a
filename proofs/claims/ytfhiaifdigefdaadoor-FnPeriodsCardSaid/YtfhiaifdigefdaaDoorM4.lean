import Derived.Test.YtfhiaifdigefdaaDoorM3
import Derived.Deep.CutRange
import Derived.Deep.DeepCutAuto
import Derived.Test.YtfhiaifdigefdaaDoorM2
import Derived.ChangeKeysEq
namespace Go.Proofs.YtfhiaifdigefdaaDoor
open Go.RowKit
set_option maxRecDepth 100000 in
set_option maxHeartbeats 8000000 in
theorem newWeave_any (v : Value) (xs : List GRule) (w : World) (h : Sl RuleE w w.heap.size v xs) (hg : gramOk xs = true) :
    Calls Tryd.prog 39 #[.agg #[v]] w (WeavePost xs v w) := by
  have HG := Lib.hid h
  have h4 := (gram_lens hg).1
  obtain ⟨AR, cR, rfl, hcR, hmR, _⟩ := h
  have ba := (Below.refl w.heap.size w).alloc (Nat.le_refl _) (Obj.cells #[.slice AR xs.length cR] 26)
  have HBA := Lib.hid ba
  have HKA := Lib.hid (Blk.new w #[.slice AR xs.length cR] 26)
  clear ba hcR hmR
  go_enter Tryd.func39, Tryd.ntmps39
  go_wp2_with fail
  refine (lengths_any _ xs _ (HG.out.up HBA.out) (by omega)).mono ?_
  rintro e w1 ⟨hb1, hpost⟩
  rcases hpost with ⟨ls, vL, hl, rfl, own⟩ | ⟨hl, rfl⟩
  · have h400 : decide (xs.length ≤ 400) = true := by simpa using h4
    rw [h400]
    have HLS := Lib.hid (lens_length hl)
    have HL := Lib.hid hl
    obtain ⟨AL, cL, rfl, _⟩ := own_nil own
    have HB1 := Lib.hid (Below.tr HBA.out hb1)
    have HK1 := Lib.hid (HKA.out.up hb1)
    have HO1 := Lib.hid (show OwnInts w1 w.heap.size (.slice AL ls.length cL) ls from ownsRow_more own (by simp))
    have xG := Blk.cell (i := 0) (v := .slice AR xs.length cR) HK1.out rfl
    have lG := HK1.out.lt
    have b2 := (Below.refl _ w1).alloc (Nat.le_refl _) (Obj.cells #[.slice AR xs.length cR, .slice AL ls.length cL, .slice none 0 0, .slice none 0 0] 101)
    have HST := Lib.hid (show WvSt w (w1.alloc (Obj.cells #[.slice AR xs.length cR, .slice AL ls.length cL, .slice none 0 0, .slice none 0 0] 101)) w1.heap.size (.slice AR xs.length cR) (.slice AL ls.length cL) xs ls 0 none 0 none 0 from
      ⟨Below.tr HB1.out b2, Blk.new _ _ _, ownsRow_below HO1.out b2, fun g hg => (World.ownsRow.lt HO1.out g hg).2, World.ownsRow_nil _ _ _ _, World.ownsRow_nil _ _ _ _, fun g hg => by simp [Value.ownBlock] at hg⟩)
    have HK2 := Lib.hid (HK1.out.up b2)
    have hzP := HB1.out.size
    clear own hb1 hl h400 b2 xG lG
    have xG := Blk.cell (i := 0) (v := .slice AR xs.length cR) HK1.out rfl
    have lG := HK1.out.lt
    go_upto_region 5 with fail
    revert HST HK2
    generalize (w1.alloc (Obj.cells #[.slice AR xs.length cR, .slice AL ls.length cL, .slice none 0 0, .slice none 0 0] 101)) = w2
    intro HST HK2
    obtain ⟨P, hP⟩ : ∃ P, w1.heap.size = P := ⟨_, rfl⟩
    rw [hP] at HST hzP
    rw [hP]
    clear xG lG
    have xG := Blk.cell (i := 0) (v := .slice AR xs.length cR) HK2.out rfl
    have lG := HK2.out.lt
    go_wp2_with fail
    go_loopw [26] (fun i wx => ∃ (k : Nat) (AM : Option Addr) (cM : Nat) (AS : Option Addr) (cS : Nat), k ≤ xs.length ∧ i = .int .i64 k ∧ Hid (WvSt w wx P (.slice AR xs.length cR) (.slice AL ls.length cL) xs ls k AM cM AS cS)) (fun i _ => xs.length - (intOf i).toNat)
    case atStart => exact ⟨0, none, 0, none, 0, Nat.zero_le _, rfl, HST⟩
    case round =>
      obtain ⟨k, AM, cM, AS, cS, hk, rfl, St⟩ := hrel
      by_cases hlt : k < xs.length
      · have hki : (k : Int) < (xs.length : Int) := by omega
        obtain ⟨_, _, ev, _, _, hrow⟩ := HG.out.up St.out.bel
        injection ev with e1 e2 e3
        subst e1 e3
        obtain ⟨b, o, rfl, hbl, hcell⟩ := hrow.rule (k := k) hlt
        obtain ⟨k0, k1, k2⟩ := hcell k _ (getR_at hlt)
        have HPA := Lib.hid (fun (hp : (getR xs k).pair = true) => lens_pair HL.out hlt hp)
        have HMP := Lib.hid (fun (hp : (getR xs k).pair = true) => mk_pair HL.out hlt hp)
        have HSP := Lib.hid (fun (hp : (getR xs k).pair = true) => st_pair HL.out hlt hp)
        have HLT := Lib.hid (fun (hp : (getR xs k).pair = false) => lens_isLet HL.out hlt hp)
        have HML := Lib.hid (fun (c : UInt8) (hp : (getR xs k).pair = false) (hc : (getR xs k).letter = ⟨#[c]⟩) => mk_let hp hc)
        generalize hR : getR xs k = R at *
        obtain ⟨rs, rl, rr⟩ := R
        have b4 := (Below.refl _ wr).alloc (Nat.le_refl _) (Obj.cells #[.string rs, .int .i64 rl, .int .i64 rr] 42)
        have HKR := Lib.hid (Blk.new wr #[.string rs, .int .i64 rl, .int .i64 rr] 42)
        have St4 := Lib.hid (St.out.up b4)
        clear b4 hcell hrow hR
        go_upto_region 8 with fail
        revert HKR St4
        generalize (wr.alloc (Obj.cells #[.string rs, .int .i64 rl, .int .i64 rr] 42)) = w4
        intro HKR St4
        obtain ⟨Rb, hRb⟩ : ∃ Rb, wr.heap.size = Rb := ⟨_, rfl⟩
        have hPR : P < Rb := by rw [← hRb]; exact St.out.box.lt
        rw [hRb] at HKR
        rw [hRb]
        clear k0 k1 k2 St
        go_wp2_with fail
        refine (bases_any _).mono ?_
        rintro e w5 ⟨hb5, rfl⟩
        have b6 := ((Below.refl _ w5).alloc (Nat.le_refl _) (Obj.cells #[.int .u64 0, .int .u64 0] 103)).alloc (by simp) (Obj.cells #[.int .u64 1234567890123456789, .int .u64 987654321987654321] 103)
        have b46 := Below.tr hb5 b6
        have St5 := Lib.hid (St4.out.up hb5)
        have HB56 := Lib.hid b6
        have HKR6 := Lib.hid (HKR.out.up b46)
        have St6 := Lib.hid (St4.out.up b46)
        have HKM6 := Lib.hid ((Blk.new w5 #[.int .u64 0, .int .u64 0] 103).alloc (Obj.cells #[.int .u64 1234567890123456789, .int .u64 987654321987654321] 103))
        have HKS6 := Lib.hid (show Blk ((w5.alloc (Obj.cells #[.int .u64 0, .int .u64 0] 103)).alloc (Obj.cells #[.int .u64 1234567890123456789, .int .u64 987654321987654321] 103)) (w5.heap.size + 1) #[.int .u64 1234567890123456789, .int .u64 987654321987654321] 103 by have := Blk.new (w5.alloc (Obj.cells #[.int .u64 0, .int .u64 0] 103)) #[.int .u64 1234567890123456789, .int .u64 987654321987654321] 103; simpa using this)
        have HKR5 := Lib.hid (HKR.out.up hb5)
        have hRM : Rb < w5.heap.size := Nat.lt_of_lt_of_le HKR.out.lt hb5.size
        clear hb5 b6 b46 HKR St4
        go_upto_region 9 with fail
        revert HB56 HKR6 St6 HKM6 HKS6
        generalize ((w5.alloc (Obj.cells #[.int .u64 0, .int .u64 0] 103)).alloc (Obj.cells #[.int .u64 1234567890123456789, .int .u64 987654321987654321] 103)) = w6
        intro HB56 HKR6 St6 HKM6 HKS6
        obtain ⟨M0, hM0⟩ : ∃ M0, w5.heap.size = M0 := ⟨_, rfl⟩
        have HM0 := Lib.hid hM0
        rw [hM0] at HKM6 HKS6 hRM HB56
        rw [hM0]
        have r0 := Blk.cell (i := 0) (v := .string rs) HKR6.out rfl
        have r1 := Blk.cell (i := 1) (v := .int .i64 rl) HKR6.out rfl
        have r2 := Blk.cell (i := 2) (v := .int .i64 rr) HKR6.out rfl
        have rL := HKR6.out.lt
        go_wp2_with fail
        refine (isPair_any rs rl rr _).mono ?_
        rintro e w7 ⟨rfl, hw7⟩
        have b7 : Below w6.heap.size w6 w7 := by rw [← hw7]; exact (Below.refl _ _).alloc (Nat.le_refl _) _
        have HB57 := Lib.hid (show Below M0 w5 w7 from HB56.out.trans (b7.mono (by have := HB56.out.size; have := HM0.out; omega)))
        have HKR7 := Lib.hid (HKR6.out.up b7)
        have St7 := Lib.hid (St6.out.up b7)
        have HKM7 := Lib.hid (HKM6.out.up b7)
        have HKS7 := Lib.hid (HKS6.out.up b7)
        clear r0 r1 r2 rL hw7 b7 HKR6 St6 HKM6 HKS6
        obtain ⟨bP, hbP⟩ : ∃ b, rs.toList.isEmpty = b := ⟨_, rfl⟩
        rw [hbP]
        have HBP := Lib.hid hbP
        clear hbP
        go_upto_if 33 with fail
        go_cut [11] from 34 to 84 (fun _ wx => WvSt w wx P (.slice (some ⟨b, o, none⟩) xs.length cR) (.slice AL ls.length cL) xs ls k AM cM AS cS ∧ prB wx M0 (mkOf xs k) ∧ prB wx (M0 + 1) (stOf xs k))
        case first =>
          cases bP with
          | false =>
            have hpf : (⟨rs, rl, rr⟩ : GRule).pair = false := by rw [pair_empty]; exact HBP.out
            obtain ⟨c, hc⟩ : ∃ c, rs = ⟨#[c]⟩ := let_byte (HLT.out hpf)
            obtain ⟨m1, m2⟩ := HML.out c hpf hc
            subst hc
            have HM := Lib.hid m1
            have HS := Lib.hid m2
            have r0 := Blk.cell (i := 0) (v := .string ⟨#[c]⟩) HKR7.out rfl
            have rL := HKR7.out.lt
            have f0 := Blk.frozen HKM7.out 0
            have f1 := Blk.frozen HKM7.out 1
            have g0 := Blk.cell (i := 0) HKM7.out rfl
            have g1 := Blk.cell (i := 1) HKM7.out rfl
            have gL := HKM7.out.lt
            have hcw : IntKind.u64.wrap (((⟨#[c]⟩ : ByteArray)[0]'(by show 0 < 1; omega)).toNat : Int) = (c.toNat : Int) := by
              have h256 : c.toNat < 256 := c.toNat_lt
              exact IntWalk.u64_in _ (by show 0 ≤ (c.toNat : Int) ∧ (c.toNat : Int) ≤ _; omega)
            clear m1 m2 hpf
            go_wp2_with fail
            go_meet
            try rw [hcw]
            have bb : Below M0 w7 ((w7.setCell ⟨M0, 0, none⟩ (.int .u64 (c.toNat : Int))).setCell ⟨M0, 1, none⟩ (.int .u64 (c.toNat : Int))) := ((Below.refl M0 w7).setCell (p := ⟨M0, 0, none⟩) (Nat.le_refl _) _).setCell (p := ⟨M0, 1, none⟩) (Nat.le_refl _) _
            refine ⟨St5.out.up (by rw [HM0.out]; exact HB57.out.trans bb), ?_, ?_⟩
            · rw [HM.out]; exact (HKM7.out.set 0 _).set 1 _
            · rw [HS.out]; exact Blk.other (Blk.other HKS7.out (p := ⟨M0, 0, none⟩) (by show M0 + 1 ≠ M0; omega) _) (p := ⟨M0, 1, none⟩) (by show M0 + 1 ≠ M0; omega) _
          | true =>
            have hpt : (⟨rs, rl, rr⟩ : GRule).pair = true := by rw [pair_empty]; exact HBP.out
            obtain ⟨l0, l1, r0', r1', _⟩ := HPA.out hpt
            obtain ⟨l, rfl⟩ : ∃ l : Nat, rl = (l : Int) := ⟨rl.toNat, (Int.toNat_of_nonneg l0).symm⟩
            obtain ⟨r, rfl⟩ : ∃ r : Nat, rr = (r : Int) := ⟨rr.toNat, (Int.toNat_of_nonneg r0').symm⟩
            have hlk : l < k := l1
            have hrk : r < k := r1'
            have hlI : (l : Int) < (k : Int) := by omega
            have hrI : (r : Int) < (k : Int) := by omega
            obtain ⟨g, rfl, a0, a1, a2, a3⟩ := OwnPr.two St5.out.mrk (mks_at hlk) (mks_at hrk)
            obtain ⟨g', rfl, b0, b1, b2, b3⟩ := OwnPr.two St5.out.stp (sts_at hlk) (sts_at hrk)
            have hM : mkOf xs k = (((mkOf xs l).1 * (stOf xs r).1 % pF + (mkOf xs r).1) % pF, ((mkOf xs l).2 * (stOf xs r).2 % pF + (mkOf xs r).2) % pF) := HMP.out hpt
            have hS : stOf xs k = ((stOf xs l).1 * (stOf xs r).1 % pF, (stOf xs l).2 * (stOf xs r).2 % pF) := HSP.out hpt
            obtain ⟨q1, q2⟩ := mk_lt xs l
            obtain ⟨q3, q4⟩ := mk_lt xs r
            obtain ⟨q5, q6⟩ := st_lt xs l
            obtain ⟨q7, q8⟩ := st_lt xs r
            generalize mkOf xs l = ml at a0 a1 hM q1 q2
            generalize mkOf xs r = mr at a2 a3 hM q3 q4
            generalize stOf xs l = sl at b0 b1 hS q5 q6
            generalize stOf xs r = sr at b2 b3 hM hS q7 q8
            obtain ⟨m1, m2⟩ := ml
            obtain ⟨n1, n2⟩ := mr
            obtain ⟨t1, t2⟩ := sl
            obtain ⟨s1, s2⟩ := sr
            have CT1 := fun W => times_any m1 m2 s1 s2 W q1 q2 q7 q8
            have CT2 := fun W => times_any t1 t2 s1 s2 W q5 q6 q7 q8
            have CP1 := fun W => plus_any (m1 * s1 % pF) (m2 * s2 % pF) n1 n2 W (Nat.mod_lt _ (by decide)) (Nat.mod_lt _ (by decide)) q3 q4
            have hM2 : mkOf xs k = ((m1 * s1 % pF + n1) % pF, (m2 * s2 % pF + n2) % pF) := hM
            have hS2 : stOf xs k = (t1 * s1 % pF, t2 * s2 % pF) := hS
            obtain ⟨x1, hx1⟩ : ∃ x, m1 * s1 % pF = x := ⟨_, rfl⟩
            obtain ⟨x2, hx2⟩ : ∃ x, m2 * s2 % pF = x := ⟨_, rfl⟩
            obtain ⟨y1, hy1⟩ : ∃ x, t1 * s1 % pF = x := ⟨_, rfl⟩
            obtain ⟨y2, hy2⟩ : ∃ x, t2 * s2 % pF = x := ⟨_, rfl⟩
            simp only [hx1, hx2, hy1, hy2] at CT1 CT2 CP1 hM2 hS2
            obtain ⟨z1, hz1⟩ : ∃ x, (x1 + n1) % pF = x := ⟨_, rfl⟩
            obtain ⟨z2, hz2⟩ : ∃ x, (x2 + n2) % pF = x := ⟨_, rfl⟩
            simp only [hz1, hz2] at CP1 hM2
            have HM := Lib.hid hM2
            have HS := Lib.hid hS2
            have CT1 := Lib.hid CT1
            have CT2 := Lib.hid CT2
            have CP1 := Lib.hid CP1
            have k1 := St5.out.box.ci (i := 2) (v := .slice (some ⟨g, 0, none⟩) k cM) rfl
            have k2 := St5.out.box.ci (i := 3) (v := .slice (some ⟨g', 0, none⟩) k cS) rfl
            have k3 := HKR5.out.ci (i := 1) (v := .int .i64 (l : Int)) rfl
            have k4 := HKR5.out.ci (i := 2) (v := .int .i64 (r : Int)) rfl
            have HLE : w5.heap.size ≤ M0 := Nat.le_of_eq HM0.out
            have B7 : Below w5.heap.size w5 w7 := by rw [HM0.out]; exact HB57.out
            have HB7 := Lib.hid B7
            clear hM hS hM2 hS2 hx1 hx2 hy1 hy2 hz1 hz2 q1 q2 q3 q4 q5 q6 q7 q8 l0 l1 r0' r1' hpt B7
            go_upto_region 10 with fail
            go_cut [] from 34 to 60 (fun wx => Below w5.heap.size w5 wx ∧ prB wx M0 (mkOf xs k) ∧ Blk wx (M0 + 1) #[.int .u64 1234567890123456789, .int .u64 987654321987654321] 103)
            case first =>
              have KD := keepN10 k1 k2 k3 k4 a0 a1 a2 a3 b2 b3 (Below.drew HB7.out)
              go_region_held3 (fun w' => Below w5.heap.size w5 w' ∧ w'.cell? ⟨P, 2, none⟩ = some (.slice (some ⟨g, 0, none⟩) k cM) ∧ w'.cell? ⟨P, 3, none⟩ = some (.slice (some ⟨g', 0, none⟩) k cS) ∧ w'.cell? ⟨Rb, 1, none⟩ = some (.int .i64 (l : Int)) ∧ w'.cell? ⟨Rb, 2, none⟩ = some (.int .i64 (r : Int)) ∧ w'.cell? ⟨g, l * 2, none⟩ = some (.int .u64 (m1 : Int)) ∧ w'.cell? ⟨g, l * 2 + 1, none⟩ = some (.int .u64 (m2 : Int)) ∧ w'.cell? ⟨g, r * 2, none⟩ = some (.int .u64 (n1 : Int)) ∧ w'.cell? ⟨g, r * 2 + 1, none⟩ = some (.int .u64 (n2 : Int)) ∧ w'.cell? ⟨g', r * 2, none⟩ = some (.int .u64 (s1 : Int)) ∧ w'.cell? ⟨g', r * 2 + 1, none⟩ = some (.int .u64 (s2 : Int)))
                (first | (with_reducible exact KD) | (with_reducible exact keepN10 k1 k2 k3 k4 a0 a1 a2 a3 b2 b3 B8) | (with_reducible exact keepN10 k1 k2 k3 k4 a0 a1 a2 a3 b2 b3 B9) | (with_reducible exact keepN10 k1 k2 k3 k4 a0 a1 a2 a3 b2 b3 ((B9.setCell (p := ⟨M0, 0, none⟩) HLE _).setCell (p := ⟨M0, 1, none⟩) HLE _)))
                (first
                  | (go_at_call 65; (refine (CT1.out _).mono ?_); rintro e8 w8 ⟨hb8, rfl⟩; have B8 : Below w5.heap.size w5 w8 := Below.tr HB7.out (by first | exact hb8 | exact Below.undrew hb8); have K8 := Lib.hid (HKM7.out.up (by first | exact hb8 | exact Below.undrew hb8)); have S8 := Lib.hid (HKS7.out.up (by first | exact hb8 | exact Below.undrew hb8)))
                  | (go_at_call 66; (refine (CP1.out _).mono ?_); rintro e9 w9 ⟨hb9, rfl⟩; have B9 : Below w5.heap.size w5 w9 := Below.tr B8 (by first | exact hb9 | exact Below.undrew hb9); have K9 := Lib.hid (K8.out.up (by first | exact hb9 | exact Below.undrew hb9)); have S9 := Lib.hid (S8.out.up (by first | exact hb9 | exact Below.undrew hb9)); have g0 := Blk.cell (i := 0) K9.out rfl; have g1 := Blk.cell (i := 1) K9.out rfl; have f0 := Blk.frozen K9.out 0; have f1 := Blk.frozen K9.out 1; have gL := K9.out.lt))
              all_goals
                go_wp2_with fail
                go_meet
                refine ⟨(B9.setCell (p := ⟨M0, 0, none⟩) HLE _).setCell (p := ⟨M0, 1, none⟩) HLE _, ?_, ?_⟩
                · rw [HM.out]; exact (K9.out.set 0 _).set 1 _
                · exact Blk.other (Blk.other S9.out (p := ⟨M0, 0, none⟩) (by show M0 + 1 ≠ M0; omega) _) (p := ⟨M0, 1, none⟩) (by show M0 + 1 ≠ M0; omega) _
            case rest =>
              obtain ⟨bc, hMc, hSc⟩ := hcut
              have HBc := Lib.hid bc
              have HMc := Lib.hid hMc
              have HSc := Lib.hid hSc
              clear bc hMc hSc
              go_upto_region 11 with fail
              have KD := keepN7 k2 k3 k4 b0 b1 b2 b3 (Below.drew HBc.out)
              go_region_held3 (fun w' => Below w5.heap.size w5 w' ∧ w'.cell? ⟨P, 3, none⟩ = some (.slice (some ⟨g', 0, none⟩) k cS) ∧ w'.cell? ⟨Rb, 1, none⟩ = some (.int .i64 (l : Int)) ∧ w'.cell? ⟨Rb, 2, none⟩ = some (.int .i64 (r : Int)) ∧ w'.cell? ⟨g', l * 2, none⟩ = some (.int .u64 (t1 : Int)) ∧ w'.cell? ⟨g', l * 2 + 1, none⟩ = some (.int .u64 (t2 : Int)) ∧ w'.cell? ⟨g', r * 2, none⟩ = some (.int .u64 (s1 : Int)) ∧ w'.cell? ⟨g', r * 2 + 1, none⟩ = some (.int .u64 (s2 : Int)))
                (first | (with_reducible exact KD) | (with_reducible exact keepN7 k2 k3 k4 b0 b1 b2 b3 B8) | (with_reducible exact keepN7 k2 k3 k4 b0 b1 b2 b3 ((B8.setCell (p := ⟨M0 + 1, 0, none⟩) (Nat.le_succ_of_le HLE) _).setCell (p := ⟨M0 + 1, 1, none⟩) (Nat.le_succ_of_le HLE) _)))
                (first
                  | (go_at_call 65; (refine (CT2.out _).mono ?_); rintro e8 w8 ⟨hb8, rfl⟩; have B8 : Below w5.heap.size w5 w8 := Below.tr HBc.out (by first | exact hb8 | exact Below.undrew hb8); have K8 := Lib.hid (Blk.up HMc.out (by first | exact hb8 | exact Below.undrew hb8)); have S8 := Lib.hid (HSc.out.up (by first | exact hb8 | exact Below.undrew hb8)); have g0 := Blk.cell (i := 0) S8.out rfl; have g1 := Blk.cell (i := 1) S8.out rfl; have f0 := Blk.frozen S8.out 0; have f1 := Blk.frozen S8.out 1; have gL := S8.out.lt))
              all_goals
                go_wp2_with fail
                go_meet
                have B9 := (B8.setCell (p := ⟨M0 + 1, 0, none⟩) (Nat.le_succ_of_le HLE) (.int .u64 (y1 : Int))).setCell (p := ⟨M0 + 1, 1, none⟩) (Nat.le_succ_of_le HLE) (.int .u64 (y2 : Int))
                refine ⟨St5.out.up B9, ?_, ?_⟩
                · exact Blk.other (Blk.other K8.out (p := ⟨M0 + 1, 0, none⟩) (by show M0 ≠ M0 + 1; omega) _) (p := ⟨M0 + 1, 1, none⟩) (by show M0 ≠ M0 + 1; omega) _
                · rw [HS.out]; exact (S8.out.set 0 _).set 1 _
        case rest =>
          obtain ⟨Stc, pmc, psc⟩ := hcut
          have hg5 : ∀ g, (Value.slice AM k cM).ownBlock = some g → g < M0 := fun g e => by have := (World.ownsRow.lt St5.out.mrk g e).2; have := HM0.out; omega
          have hg6 : ∀ g, (Value.slice AS k cS).ownBlock = some g → g < M0 := fun g e => by have := (World.ownsRow.lt St5.out.stp g e).2; have := HM0.out; omega
          have hPc : w.heap.size ≤ P := hzP
          have Z0 := Lib.hid (show Psh w wc P M0 #[.slice (some ⟨b, o, none⟩) xs.length cR, .slice AL ls.length cL, .slice AM k cM, .slice AS k cS] (.slice AL ls.length cL) ls (mkOf xs k) (stOf xs k) (.slice AM k cM) (.slice AS k cS) (mksL xs k) (stsL xs k) from
            ⟨Stc.bel, hPc, Stc.box, Stc.len, Stc.low, pmc, psc, Stc.mrk, Stc.stp, Stc.ne, fun g e => by have := hg5 g e; omega, fun g e => by have := hg6 g e; omega⟩)
          have hMc : M0 < wc.heap.size := pmc.lt
          have HG5 := Lib.hid (show ∀ g, (Value.slice AM k cM).ownBlock = some g → g < wc.heap.size from fun g e => Nat.lt_trans (hg5 g e) hMc)
          have HML2 := Lib.hid (mks_len xs k)
          have HSL2 := Lib.hid (sts_len xs k)
          have HKB : k ≤ 1048576 := by omega
          have HMB := Lib.hid (show (mksL xs k).length ≤ 1048576 by rw [mks_len]; exact HKB)
          have HSB := Lib.hid (show (stsL xs k).length ≤ 1048576 by rw [sts_len]; exact HKB)
          have hPlt : P < wc.heap.size := Stc.box.lt
          have HPL := Lib.hid hPlt
          have HMM := Lib.hid (show mkOf xs k = ((mkOf xs k).1, (mkOf xs k).2) from rfl)
          have HDN := Lib.hid (fun (W : World) (AM' AS' : Option Addr) (d d' : Nat) (h : Psh w W P M0 #[.slice (some ⟨b, o, none⟩) xs.length cR, .slice AL ls.length cL, .slice AM k cM, .slice AS k cS] (.slice AL ls.length cL) ls (mkOf xs k) (stOf xs k) (.slice AM' (k + 1) d) (.slice AS' (k + 1) d') (mksL xs k ++ [mkOf xs k]) (stsL xs k ++ [stOf xs k])) => h.done rfl)
          generalize hmk : mkOf xs k = mk at *
          generalize hst : stOf xs k = st at *
          obtain ⟨m1, m2⟩ := mk
          obtain ⟨s1, s2⟩ := st
          clear hmk hst Stc pmc psc hg5 hg6 hM0 hRb hMc HMM hPlt
          have KD := Lib.hid Z0.out.drew.cells
          have HPM : P < M0 := by
            have h1 := HPL.out
            omega
          go_upto_region 14 with fail
          refine wp_region_head1 (fun w' => w'.cell? ⟨P, 2, none⟩ = some (.slice AM k cM) ∧ w'.cell? ⟨P, 3, none⟩ = some (.slice AS k cS) ∧ w'.cell? ⟨M0, 0, none⟩ = some (.int .u64 (m1 : Int)) ∧ w'.cell? ⟨M0, 1, none⟩ = some (.int .u64 (m2 : Int)) ∧ w'.cell? ⟨M0 + 1, 0, none⟩ = some (.int .u64 (s1 : Int)) ∧ w'.cell? ⟨M0 + 1, 1, none⟩ = some (.int .u64 (s2 : Int)))
            16 1 _ ?_ (by kernel_rfl) (by kernel_rfl) rfl (fun _ _ _ h => h) (by rfl) ?_ KD.out (fun hHeld => ?_)
          rotate_left 1
          · intro w8
            go_simp
            try with_reducible rfl
          simp only [Act.put]
          refine wpHL_takeV ((Array.replicate 22 false).setIfInBounds 1 true) 0 _ ?_ (by kernel_rfl) rfl (by kernel_rfl) (fun _ _ _ h => h) (by rfl) ?_ hHeld ?_
          rotate_left 1
          · intro w8 hSw
            obtain ⟨s1, s2, s3, s4, s5, s6⟩ := hSw
            go_simp
            try with_reducible rfl
          simp only [Act.put]
          refine wpHL_takeV ((Array.replicate 22 false).setIfInBounds 1 true) 2 _ ?_ (by kernel_rfl) rfl (by kernel_rfl) (fun _ _ _ h => h) (by rfl) ?_ hHeld ?_
          rotate_left 1
          · intro w8 hSw
            obtain ⟨s1, s2, s3, s4, s5, s6⟩ := hSw
            go_simp
            try with_reducible rfl
          simp only [Act.put]
          refine wpHL_takeV ((Array.replicate 22 false).setIfInBounds 1 true) 3 _ ?_ (by kernel_rfl) rfl (by kernel_rfl) (fun _ _ _ h => h) (by rfl) ?_ hHeld ?_
          rotate_left 1
          · intro w8 hSw
            obtain ⟨s1, s2, s3, s4, s5, s6⟩ := hSw
            go_simp
            try with_reducible rfl
          simp only [Act.put]
          refine wpHL_takeV ((Array.replicate 22 false).setIfInBounds 1 true) 4 _ ?_ (by kernel_rfl) rfl (by kernel_rfl) (fun _ _ _ h => h) (by rfl) ?_ hHeld ?_
          rotate_left 1
          · intro w8 hSw
            obtain ⟨s1, s2, s3, s4, s5, s6⟩ := hSw
            go_simp
            try with_reducible rfl
          simp only [Act.put]
          refine wpHL_takeV ((Array.replicate 22 false).setIfInBounds 1 true) 5 _ ?_ (by kernel_rfl) rfl (by kernel_rfl) (fun _ _ _ h => h) (by rfl) ?_ hHeld ?_
          rotate_left 1
          · intro w8 hSw
            obtain ⟨s1, s2, s3, s4, s5, s6⟩ := hSw
            go_simp
            try with_reducible rfl
          simp only [Act.put]
          refine wpHL_takeV ((Array.replicate 22 false).setIfInBounds 1 true) 6 _ ?_ (by kernel_rfl) rfl (by kernel_rfl) (fun _ _ _ h => h) (by rfl) ?_ hHeld ?_
          rotate_left 1
          · intro w8 hSw
            obtain ⟨s1, s2, s3, s4, s5, s6⟩ := hSw
            go_simp
            try with_reducible rfl
          simp only [Act.put]
          refine wpHL_takeV ((Array.replicate 22 false).setIfInBounds 1 true) 9 _ ?_ (by kernel_rfl) rfl (by kernel_rfl) (fun _ _ _ h => h) (by rfl) ?_ hHeld ?_
          rotate_left 1
          · intro w8 hSw
            obtain ⟨s1, s2, s3, s4, s5, s6⟩ := hSw
            go_simp
            try with_reducible rfl
          simp only [Act.put]
          refine wpHL_takeV ((Array.replicate 22 false).setIfInBounds 1 true) 10 _ ?_ (by kernel_rfl) rfl (by kernel_rfl) (fun _ _ _ h => h) (by rfl) ?_ hHeld ?_
          rotate_left 1
          · intro w8 hSw
            obtain ⟨s1, s2, s3, s4, s5, s6⟩ := hSw
            go_simp
            try with_reducible rfl
          simp only [Act.put]
          refine wpHL_takeV ((Array.replicate 22 false).setIfInBounds 1 true) 11 _ ?_ (by kernel_rfl) rfl (by kernel_rfl) (fun _ _ _ h => h) (by rfl) ?_ hHeld ?_
          rotate_left 1
          · intro w8 hSw
            obtain ⟨s1, s2, s3, s4, s5, s6⟩ := hSw
            go_simp
            try with_reducible rfl
          simp only [Act.put]
          refine wpHL_takeV ((Array.replicate 22 false).setIfInBounds 1 true) 12 _ ?_ (by kernel_rfl) rfl (by kernel_rfl) (fun _ _ _ h => h) (by rfl) ?_ hHeld ?_
          rotate_left 1
          · intro w8 hSw
            obtain ⟨s1, s2, s3, s4, s5, s6⟩ := hSw
            go_simp
            try with_reducible rfl
          simp only [Act.put]
          refine wpHL_takeV ((Array.replicate 22 false).setIfInBounds 1 true) 13 _ ?_ (by kernel_rfl) rfl (by kernel_rfl) (fun _ _ _ h => h) (by rfl) ?_ hHeld ?_
          rotate_left 1
          · intro w8 hSw
            obtain ⟨s1, s2, s3, s4, s5, s6⟩ := hSw
            go_simp
            try with_reducible rfl
          simp only [Act.put]
          refine wpHL_ready [7, 14] (by kernel_rfl) ?_
          refine AllReadyHL.cons (o := _) rfl (fun K hK => ?_) (AllReadyHL.cons (o := _) rfl (fun K hK => ?_) AllReadyHL.nil)
          · -- 7
            go_simp
            have YA := Lib.hid ((Psh.alloc Z0.out (Obj.cells #[.int .u64 (m1 : Int), .int .u64 (m2 : Int)] 103)).drew)
            refine hK.out _ _ (Psh.cells YA.out) (fun hHeld => ?_)
            clear hK K
            refine wpHL_ready [8, 14] (by kernel_rfl) ?_
            refine AllReadyHL.cons (o := _) rfl (fun K hK => ?_) (AllReadyHL.cons (o := _) rfl (fun K hK => ?_) AllReadyHL.nil)
            · -- 8
              refine step_push_pr (base := P + 1) (A := AM) (n := k) (c := cM) (l := mksL xs k) (p := (m1, m2)) (by rfl) _ _ (by rfl) (by rfl) (by rfl) (pn_newD rfl) HML2.out.symm YA.out.mrk HMB.out (by have h1 := HPL.out; simp; omega) ?_
              intro A9 c9 w9 own9 ho9 hg9 hb9
              have Z1 := Psh.push1 YA.out own9 ho9 hg9 hb9
              refine hK.out _ _ (Psh.cells Z1) (fun hHeld => ?_)
              have kp := grown_kp hg9 HG5.out
              have HZ1 := Lib.hid Z1
              clear hK K Z1
              refine wpHL_ready [14] (by kernel_rfl) ?_
              refine AllReadyHL.cons (o := _) rfl (fun K hK => ?_) AllReadyHL.nil
              go_simp
              have YB := Lib.hid (Psh.alloc HZ1.out (Obj.cells #[.int .u64 (s1 : Int), .int .u64 (s2 : Int)] 103))
              refine hK.out _ _ (Psh.cells YB.out) (fun hHeld => ?_)
              clear hK K
              refine wpHL_ready [15] (by kernel_rfl) ?_
              refine AllReadyHL.cons (o := _) rfl (fun K hK => ?_) AllReadyHL.nil
              refine step_push_pr (base := P + 1) (A := AS) (n := k) (c := cS) (l := stsL xs k) (p := (s1, s2)) (by rfl) _ _ (by rfl) (by rfl) (by rfl) (pn_new rfl) HSL2.out.symm YB.out.stp HSB.out (by have h1 := HZ1.out.box.lt; simp; omega) ?_
              intro A10 c10 w10 own10 ho10 hg10 hb10
              have Z2 := Psh.push2 YB.out own10 ho10 hg10 hb10
              refine hK.out _ _ (Psh.cells Z2) (fun _ => ?_)
              clear hK K hHeld
              have HZ2 := Lib.hid Z2
              have K2 := Lib.hid Z2.box
              clear Z2 own10 ho10 hg10 hb10 own9 ho9 hg9 hb9 kp
              have g2 := Blk.cell (i := 2) K2.out rfl
              have g3 := Blk.cell (i := 3) K2.out rfl
              have f2 := Blk.frozen K2.out 2
              have f3 := Blk.frozen K2.out 3
              have gL := K2.out.lt
              refine wpHL_done (by kernel_rfl) ?_
              simp only [List.drop_succ_cons, List.drop_zero]
              go_wp2_with fail
              exact ⟨⟨k + 1, _, _, _, _, by omega, by simp, HDN.out _ _ _ _ _ HZ2.out⟩, by first | (simp [intOf]; done) | (simp [intOf]; omega)⟩
            · -- 14
              go_simp
              have YB := Lib.hid (Psh.alloc YA.out (Obj.cells #[.int .u64 (s1 : Int), .int .u64 (s2 : Int)] 103))
              refine hK.out _ _ (Psh.cells YB.out) (fun hHeld => ?_)
              clear hK K
              refine wpHL_ready [8] (by kernel_rfl) ?_
              refine AllReadyHL.cons (o := _) rfl (fun K hK => ?_) AllReadyHL.nil
              refine step_push_pr (base := P + 1) (A := AM) (n := k) (c := cM) (l := mksL xs k) (p := (m1, m2)) (by rfl) _ _ (by rfl) (by rfl) (by rfl) (pn_up (pn_newD rfl)) HML2.out.symm YB.out.mrk HMB.out (by have h1 := HPL.out; simp; omega) ?_
              intro A9 c9 w9 own9 ho9 hg9 hb9
              have Z1 := Psh.push1 YB.out own9 ho9 hg9 hb9
              refine hK.out _ _ (Psh.cells Z1) (fun hHeld => ?_)
              have kp := grown_kp hg9 HG5.out
              have HZ1 := Lib.hid Z1
              clear hK K Z1
              refine wpHL_ready [15] (by kernel_rfl) ?_
              refine AllReadyHL.cons (o := _) rfl (fun K hK => ?_) AllReadyHL.nil
              refine step_push_pr (base := P + 1) (A := AS) (n := k) (c := cS) (l := stsL xs k) (p := (s1, s2)) (by rfl) _ _ (by rfl) (by rfl) (by rfl) (kp (wc.heap.size + 1) _ (by omega) (pn_new (by simp))) HSL2.out.symm HZ1.out.stp HSB.out (by have h1 := HZ1.out.box.lt; omega) ?_
              intro A10 c10 w10 own10 ho10 hg10 hb10
              have Z2 := Psh.push2 HZ1.out own10 ho10 hg10 hb10
              refine hK.out _ _ (Psh.cells Z2) (fun _ => ?_)
              clear hK K hHeld
              have HZ2 := Lib.hid Z2
              have K2 := Lib.hid Z2.box
              clear Z2 own10 ho10 hg10 hb10 own9 ho9 hg9 hb9 kp
              have g2 := Blk.cell (i := 2) K2.out rfl
              have g3 := Blk.cell (i := 3) K2.out rfl
              have f2 := Blk.frozen K2.out 2
              have f3 := Blk.frozen K2.out 3
              have gL := K2.out.lt
              refine wpHL_done (by kernel_rfl) ?_
              simp only [List.drop_succ_cons, List.drop_zero]
              go_wp2_with fail
              exact ⟨⟨k + 1, _, _, _, _, by omega, by simp, HDN.out _ _ _ _ _ HZ2.out⟩, by first | (simp [intOf]; done) | (simp [intOf]; omega)⟩
          · -- 14
            go_simp
            have YA := Lib.hid ((Psh.alloc Z0.out (Obj.cells #[.int .u64 (s1 : Int), .int .u64 (s2 : Int)] 103)).drew)
            refine hK.out _ _ (Psh.cells YA.out) (fun hHeld => ?_)
            clear hK K
            refine wpHL_ready [7] (by kernel_rfl) ?_
            refine AllReadyHL.cons (o := _) rfl (fun K hK => ?_) AllReadyHL.nil
            go_simp
            have YB := Lib.hid (Psh.alloc YA.out (Obj.cells #[.int .u64 (m1 : Int), .int .u64 (m2 : Int)] 103))
            refine hK.out _ _ (Psh.cells YB.out) (fun hHeld => ?_)
            clear hK K
            refine wpHL_ready [8] (by kernel_rfl) ?_
            refine AllReadyHL.cons (o := _) rfl (fun K hK => ?_) AllReadyHL.nil
            refine step_push_pr (base := P + 1) (A := AM) (n := k) (c := cM) (l := mksL xs k) (p := (m1, m2)) (by rfl) _ _ (by rfl) (by rfl) (by rfl) (pn_new (by simp)) HML2.out.symm YB.out.mrk HMB.out (by have h1 := HPL.out; simp; omega) ?_
            intro A9 c9 w9 own9 ho9 hg9 hb9
            have Z1 := Psh.push1 YB.out own9 ho9 hg9 hb9
            refine hK.out _ _ (Psh.cells Z1) (fun hHeld => ?_)
            have kp := grown_kp hg9 HG5.out
            have HZ1 := Lib.hid Z1
            clear hK K Z1
            refine wpHL_ready [15] (by kernel_rfl) ?_
            refine AllReadyHL.cons (o := _) rfl (fun K hK => ?_) AllReadyHL.nil
            refine step_push_pr (base := P + 1) (A := AS) (n := k) (c := cS) (l := stsL xs k) (p := (s1, s2)) (by rfl) _ _ (by rfl) (by rfl) (by rfl) (kp wc.heap.size _ (by omega) (pn_up (pn_newD rfl))) HSL2.out.symm HZ1.out.stp HSB.out (by have h1 := HZ1.out.box.lt; omega) ?_
            intro A10 c10 w10 own10 ho10 hg10 hb10
            have Z2 := Psh.push2 HZ1.out own10 ho10 hg10 hb10
            refine hK.out _ _ (Psh.cells Z2) (fun _ => ?_)
            clear hK K hHeld
            have HZ2 := Lib.hid Z2
            have K2 := Lib.hid Z2.box
            clear Z2 own10 ho10 hg10 hb10 own9 ho9 hg9 hb9 kp
            have g2 := Blk.cell (i := 2) K2.out rfl
            have g3 := Blk.cell (i := 3) K2.out rfl
            have f2 := Blk.frozen K2.out 2
            have f3 := Blk.frozen K2.out 3
            have gL := K2.out.lt
            refine wpHL_done (by kernel_rfl) ?_
            simp only [List.drop_succ_cons, List.drop_zero]
            go_wp2_with fail
            exact ⟨⟨k + 1, _, _, _, _, by omega, by simp, HDN.out _ _ _ _ _ HZ2.out⟩, by first | (simp [intOf]; done) | (simp [intOf]; omega)⟩
      · have hkn : k = xs.length := by omega
        subst hkn
        go_wp2_with fail
        exact bodyPost_ret (v := .tuple #[.pointer (some ⟨P, 0, none⟩), .bool true]) (by simp [results, Tryd.results39, go_sem]) rfl ⟨P, ls, _, AM, cM, AS, cS, rfl, HL.out, hzP, St.out⟩
  · exfalso
    obtain ⟨_, l2, h2⟩ := gram_lens hg
    rw [hl] at h2; cases h2
theorem pieces_all {xs : List GRule} {ls : List Int} (hl : lens xs = some ls) : piecesL xs ls 0 (lastI ls) = if xs.length = 0 then [] else [xs.length - 1] := by
  have hll := lens_length hl
  unfold piecesL
  by_cases h0 : xs.length = 0
  · rw [if_neg (by omega), if_pos h0]
  · have hp := lens_pos' hl (r := xs.length - 1) (by omega)
    have e : lastI ls = ls.getD (xs.length - 1) 0 := by rw [lastI, hll]
    rw [if_pos ⟨by omega, by rw [e]; omega⟩, if_neg h0]
    obtain ⟨n, hn⟩ : ∃ n, xs.length = n + 1 := ⟨xs.length - 1, by omega⟩
    rw [hn, coverR]
    rw [hn] at e hp
    rw [if_neg (by rw [e]; omega), if_pos (by rw [e]; omega)]
def stepP (xs : List GRule) (s : Nat × Nat) (r : Nat) : Nat × Nat := ((s.1 * (stOf xs r).1 % pF + (mkOf xs r).1) % pF, (s.2 * (stOf xs r).2 % pF + (mkOf xs r).2) % pF)
structure Wv (w : World) (P : Nat) (xs : List GRule) (ls : List Int) (vR vL : Value) (AM : Option Addr) (cM : Nat) (AS : Option Addr) (cS : Nat) : Prop where
  box : Blk w P #[vR, vL, .slice AM xs.length cM, .slice AS xs.length cS] 101
  len : Sl IntE w w.heap.size vL ls
  rul : Sl RuleE w w.heap.size vR xs
  mrk : OwnPr w 0 (.slice AM xs.length cM) (mksL xs xs.length)
  stp : OwnPr w 0 (.slice AS xs.length cS) (stsL xs xs.length)
theorem Wv.up {w w' : World} {P : Nat} {xs : List GRule} {ls : List Int} {vR vL : Value} {AM AS : Option Addr} {cM cS : Nat} (h : Wv w P xs ls vR vL AM cM AS cS) (hb : Below w.heap.size w w') : Wv w' P xs ls vR vL AM cM AS cS :=
  ⟨h.box.up hb, h.len.up hb, h.rul.up hb, ownsRow_below h.mrk hb, ownsRow_below h.stp hb⟩
structure PJ (w0 : World) (bo : Nat) (C : Nat → Prop) (s : Nat × Nat) (w : World) : Prop where
  wk : Wk (fun b => b < w0.heap.size ∧ b ≠ bo) w0 w
  cell : Blk w bo #[.int .u64 (s.1 : Int), .int .u64 (s.2 : Int)] 103
  nc : ¬ C bo
  lt : s.1 < pF ∧ s.2 < pF
theorem PJ.ext {w0 : World} {bo : Nat} (hbs : bo < w0.heap.size) : ∀ C s w w', PJ w0 bo C s w → Below w.heap.size w w' → (∀ b, C b → b < w.heap.size) → PJ w0 bo (ext C w.heap.size w'.heap.size) s w' := by
  intro C s w w' h hb hC
  have hsz := h.wk.size
  refine ⟨h.wk.trans (Wk.of_below hb fun k hk => by have := hk.1; omega), h.cell.up hb, ?_, h.lt⟩
  intro h'
  rcases h' with h' | h'
  · exact h.nc h'
  · omega
theorem Wk.heap {C : Nat → Prop} {w w' : World} {k : Nat} {o : Obj} (h : Wk C w w') (hk : C k) (ho : w.heap[k]? = some o) : w'.heap[k]? = some o := (h.block k hk).trans ho
theorem keepP {w W : World} {p1 p2 p3 p4 p5 p6 p7 p8 p9 : Addr} {v1 v2 v3 v4 v5 v6 v7 v8 v9 : Value} (h1 : CI w p1 v1) (h2 : CI w p2 v2) (h3 : CI w p3 v3) (h4 : CI w p4 v4) (h5 : CI w p5 v5) (h6 : CI w p6 v6) (h7 : CI w p7 v7) (h8 : CI w p8 v8) (h9 : CI w p9 v9) (hb : Below w.heap.size w W) : W.cell? p1 = some v1 ∧ W.cell? p2 = some v2 ∧ W.cell? p3 = some v3 ∧ W.cell? p4 = some v4 ∧ W.cell? p5 = some v5 ∧ W.cell? p6 = some v6 ∧ W.cell? p7 = some v7 ∧ W.cell? p8 = some v8 ∧ W.cell? p9 = some v9 :=
  ⟨h1.up hb, h2.up hb, h3.up hb, h4.up hb, h5.up hb, h6.up hb, h7.up hb, h8.up hb, h9.up hb⟩
set_option maxRecDepth 100000 in
set_option maxHeartbeats 4000000 in
theorem printCl_any (w0 : World) (bo bw P : Nat) (xs : List GRule) (ls : List Int) (vR vL : Value) (AM AS : Option Addr) (cM cS : Nat) (hbo : bo < w0.heap.size) (hbw : bw ≠ bo) (hP : P ≠ bo) (hw : w0.cell? ⟨bw, 0, none⟩ = some (.pointer (some ⟨P, 0, none⟩)))
    (hW : Wv w0 P xs ls vR vL AM cM AS cS) (hM : ∀ g, (Value.slice AM xs.length cM).ownBlock = some g → g ≠ bo) (hS : ∀ g, (Value.slice AS xs.length cS).ownBlock = some g → g ≠ bo) :
    ∀ C s (r : Nat) (w : World), PJ w0 bo C s w → r < xs.length → (∀ b, C b → b < w.heap.size) → Calls Tryd.prog 80 (#[.int .i64 r] ++ #[.pointer (some ⟨bo, 0, none⟩), .pointer (some ⟨bw, 0, none⟩)]) w (TakePost (PJ w0 bo) C (stepP xs s r) w) := by
  intro C s r w hJ hr hC
  have HJ := Lib.hid hJ
  have HC := Lib.hid hC
  have hwl : bw < w0.heap.size := World.block_lt_of_cell? _ _ hw
  obtain ⟨g, capM, eM, _, hgl, m1, m2⟩ := hW.mrk.cells (mks_at (xs := xs) hr)
  obtain ⟨g', capS, eS, _, hgl', n1, n2⟩ := hW.stp.cells (sts_at (xs := xs) hr)
  injection eM with eM1 eM2 eM3
  injection eS with eS1 eS2 eS3
  subst eM1 eS1
  clear eM2 eM3 eS2 eS3
  have hgo := hM g rfl
  have hgo' := hS g' rfl
  have hk := hJ.wk
  have hsz := hk.size
  have up : ∀ {k o : Nat} {v : Value}, k < w0.heap.size → k ≠ bo → w0.cell? ⟨k, o, none⟩ = some v → CI w ⟨k, o, none⟩ v := fun {k o v} a b c => ⟨hk.cell ⟨a, b⟩ c, by show k < _; omega⟩
  have k1 := hJ.cell.ci (i := 0) rfl
  have k2 := hJ.cell.ci (i := 1) rfl
  have k3 := up hwl hbw hw
  have k4 := up hW.box.lt hP (hW.box.cell (i := 2) (v := .slice (some ⟨g, 0, none⟩) xs.length cM) rfl)
  have k5 := up hW.box.lt hP (hW.box.cell (i := 3) (v := .slice (some ⟨g', 0, none⟩) xs.length cS) rfl)
  have k6 := up hgl hgo m1
  have k7 := up hgl hgo m2
  have k8 := up hgl' hgo' n1
  have k9 := up hgl' hgo' n2
  obtain ⟨q1, q2⟩ := hJ.lt
  obtain ⟨q3, q4⟩ := mk_lt xs r
  obtain ⟨q5, q6⟩ := st_lt xs r
  have HST := Lib.hid (show stepP xs s r = ((s.1 * (stOf xs r).1 % pF + (mkOf xs r).1) % pF, (s.2 * (stOf xs r).2 % pF + (mkOf xs r).2) % pF) from rfl)
  clear m1 m2 n1 n2 hM hS hW hw up hJ hC hk
  generalize mkOf xs r = mk at *
  generalize stOf xs r = st at *
  obtain ⟨a1, a2⟩ := s
  obtain ⟨b1, b2⟩ := mk
  obtain ⟨c1, c2⟩ := st
  have CT := fun W => times_any a1 a2 c1 c2 W q1 q2 q5 q6
  have CP := fun W => plus_any (a1 * c1 % pF) (a2 * c2 % pF) b1 b2 W (Nat.mod_lt _ (by decide)) (Nat.mod_lt _ (by decide)) q3 q4
  have HL := Lib.hid (show (a1 * c1 % pF + b1) % pF < pF ∧ (a2 * c2 % pF + b2) % pF < pF from ⟨Nat.mod_lt _ (by decide), Nat.mod_lt _ (by decide)⟩)
  have HS2 := Lib.hid (show stepP xs (a1, a2) r = ((a1 * c1 % pF + b1) % pF, (a2 * c2 % pF + b2) % pF) from HST.out)
  obtain ⟨x1, hx1⟩ : ∃ x, a1 * c1 % pF = x := ⟨_, rfl⟩
  obtain ⟨x2, hx2⟩ : ∃ x, a2 * c2 % pF = x := ⟨_, rfl⟩
  rw [hx1, hx2] at CP HL HS2
  simp only [hx1, hx2] at CT
  obtain ⟨y1, hy1⟩ : ∃ x, (x1 + b1) % pF = x := ⟨_, rfl⟩
  obtain ⟨y2, hy2⟩ : ∃ x, (x2 + b2) % pF = x := ⟨_, rfl⟩
  rw [hy1, hy2] at HL HS2
  simp only [hy1, hy2] at CP
  have HCT := Lib.hid CT
  have HCP := Lib.hid CP
  clear CT CP
  have hri : (r : Int) < (xs.length : Int) := by omega
  have hr0 : (0 : Int) ≤ (r : Int) := by omega
  clear HST hx1 hx2 hy1 hy2 q1 q2 q3 q4 q5 q6 hwl hgl hgl'
  show Calls Tryd.prog 80 #[.int .i64 r, .pointer (some ⟨bo, 0, none⟩), .pointer (some ⟨bw, 0, none⟩)] w _
  go_enter Tryd.func80, Tryd.ntmps80
  refine wp_region_head (fun w' => w'.cell? ⟨bo, 0, none⟩ = some (.int .u64 (a1 : Int)) ∧ w'.cell? ⟨bo, 1, none⟩ = some (.int .u64 (a2 : Int)) ∧ w'.cell? ⟨bw, 0, none⟩ = some (.pointer (some ⟨P, 0, none⟩)) ∧ w'.cell? ⟨P, 2, none⟩ = some (.slice (some ⟨g, 0, none⟩) xs.length cM) ∧ w'.cell? ⟨P, 3, none⟩ = some (.slice (some ⟨g', 0, none⟩) xs.length cS) ∧
    w'.cell? ⟨g, r * 2, none⟩ = some (.int .u64 (b1 : Int)) ∧ w'.cell? ⟨g, r * 2 + 1, none⟩ = some (.int .u64 (b2 : Int)) ∧ w'.cell? ⟨g', r * 2, none⟩ = some (.int .u64 (c1 : Int)) ∧ w'.cell? ⟨g', r * 2 + 1, none⟩ = some (.int .u64 (c2 : Int))) 17 (by kernel_rfl) (by kernel_rfl) (keepP k1 k2 k3 k4 k5 k6 k7 k8 k9 (Below.drew (Below.refl _ _))) (fun hHeld => ?_)
  refine wpHL_takeV (Array.replicate 18 false) 0 _ ?_ (by kernel_rfl) rfl (by kernel_rfl) (fun _ _ _ h => h) (by rfl) ?_ hHeld ?_
  rotate_left 1
  · intro w8 hSw
    obtain ⟨s1, s2, s3, s4, s5, s6, s7, s8, s9⟩ := hSw
    go_simp
    try with_reducible rfl
  simp only [Act.put]
  refine wpHL_takeV (Array.replicate 18 false) 1 _ ?_ (by kernel_rfl) rfl (by kernel_rfl) (fun _ _ _ h => h) (by rfl) ?_ hHeld ?_
  rotate_left 1
  · intro w8 hSw
    obtain ⟨s1, s2, s3, s4, s5, s6, s7, s8, s9⟩ := hSw
    go_simp
    try with_reducible rfl
  simp only [Act.put]
  refine wpHL_takeV (Array.replicate 18 false) 2 _ ?_ (by kernel_rfl) rfl (by kernel_rfl) (fun _ _ _ h => h) (by rfl) ?_ hHeld ?_
  rotate_left 1
  · intro w8 hSw
    obtain ⟨s1, s2, s3, s4, s5, s6, s7, s8, s9⟩ := hSw
    go_simp
    try with_reducible rfl
  simp only [Act.put]
  refine wpHL_takeV (Array.replicate 18 false) 3 _ ?_ (by kernel_rfl) rfl (by kernel_rfl) (fun _ _ _ h => h) (by rfl) ?_ hHeld ?_
  rotate_left 1
  · intro w8 hSw
    obtain ⟨s1, s2, s3, s4, s5, s6, s7, s8, s9⟩ := hSw
    go_simp
    try with_reducible rfl
  simp only [Act.put]
  refine wpHL_takeV (Array.replicate 18 false) 4 _ ?_ (by kernel_rfl) rfl (by kernel_rfl) (fun _ _ _ h => h) (by rfl) ?_ hHeld ?_
  rotate_left 1
  · intro w8 hSw
    obtain ⟨s1, s2, s3, s4, s5, s6, s7, s8, s9⟩ := hSw
    go_simp
    try with_reducible rfl
  simp only [Act.put]
  refine wpHL_takeV (Array.replicate 18 false) 5 _ ?_ (by kernel_rfl) rfl (by kernel_rfl) (fun _ _ _ h => h) (by rfl) ?_ hHeld ?_
  rotate_left 1
  · intro w8 hSw
    obtain ⟨s1, s2, s3, s4, s5, s6, s7, s8, s9⟩ := hSw
    go_simp
    try with_reducible rfl
  simp only [Act.put]
  refine wpHL_takeV (Array.replicate 18 false) 6 _ ?_ (by kernel_rfl) rfl (by kernel_rfl) (fun _ _ _ h => h) (by rfl) ?_ hHeld ?_
  rotate_left 1
  · intro w8 hSw
    obtain ⟨s1, s2, s3, s4, s5, s6, s7, s8, s9⟩ := hSw
    go_simp
    try with_reducible rfl
  simp only [Act.put]
  refine wpHL_takeV (Array.replicate 18 false) 7 _ ?_ (by kernel_rfl) rfl (by kernel_rfl) (fun _ _ _ h => h) (by rfl) ?_ hHeld ?_
  rotate_left 1
  · intro w8 hSw
    obtain ⟨s1, s2, s3, s4, s5, s6, s7, s8, s9⟩ := hSw
    go_simp
    try with_reducible rfl
  simp only [Act.put]
  refine wpHL_takeV (Array.replicate 18 false) 9 _ ?_ (by kernel_rfl) rfl (by kernel_rfl) (fun _ _ _ h => h) (by rfl) ?_ hHeld ?_
  rotate_left 1
  · intro w8 hSw
    obtain ⟨s1, s2, s3, s4, s5, s6, s7, s8, s9⟩ := hSw
    go_simp
    try with_reducible rfl
  simp only [Act.put]
  refine wpHL_takeV (Array.replicate 18 false) 10 _ ?_ (by kernel_rfl) rfl (by kernel_rfl) (fun _ _ _ h => h) (by rfl) ?_ hHeld ?_
  rotate_left 1
  · intro w8 hSw
    obtain ⟨s1, s2, s3, s4, s5, s6, s7, s8, s9⟩ := hSw
    go_simp
    try with_reducible rfl
  simp only [Act.put]
  refine wpHL_takeV (Array.replicate 18 false) 11 _ ?_ (by kernel_rfl) rfl (by kernel_rfl) (fun _ _ _ h => h) (by rfl) ?_ hHeld ?_
  rotate_left 1
  · intro w8 hSw
    obtain ⟨s1, s2, s3, s4, s5, s6, s7, s8, s9⟩ := hSw
    go_simp
    try with_reducible rfl
  simp only [Act.put]
  refine wpHL_takeV (Array.replicate 18 false) 12 _ ?_ (by kernel_rfl) rfl (by kernel_rfl) (fun _ _ _ h => h) (by rfl) ?_ hHeld ?_
  rotate_left 1
  · intro w8 hSw
    obtain ⟨s1, s2, s3, s4, s5, s6, s7, s8, s9⟩ := hSw
    go_simp
    try with_reducible rfl
  simp only [Act.put]
  refine wpHL_takeV (Array.replicate 18 false) 13 _ ?_ (by kernel_rfl) rfl (by kernel_rfl) (fun _ _ _ h => h) (by rfl) ?_ hHeld ?_
  rotate_left 1
  · intro w8 hSw
    obtain ⟨s1, s2, s3, s4, s5, s6, s7, s8, s9⟩ := hSw
    go_simp
    try with_reducible rfl
  simp only [Act.put]
  refine wpHL_takeV (Array.replicate 18 false) 14 _ ?_ (by kernel_rfl) rfl (by kernel_rfl) (fun _ _ _ h => h) (by rfl) ?_ hHeld ?_
  rotate_left 1
  · intro w8 hSw
    obtain ⟨s1, s2, s3, s4, s5, s6, s7, s8, s9⟩ := hSw
    go_simp
    try with_reducible rfl
  simp only [Act.put]
  refine wpHL_takeV (Array.replicate 18 false) 15 _ ?_ (by kernel_rfl) rfl (by kernel_rfl) (fun _ _ _ h => h) (by rfl) ?_ hHeld ?_
  rotate_left 1
  · intro w8 hSw
    obtain ⟨s1, s2, s3, s4, s5, s6, s7, s8, s9⟩ := hSw
    go_simp
    try with_reducible rfl
  simp only [Act.put]
  refine wpHL_ready [8] (by kernel_rfl) ?_
  refine AllReadyHL.cons (o := _) rfl (fun K hK => ?_) AllReadyHL.nil
  go_simp
  go_at_call 65
  refine (HCT.out _).mono ?_
  rintro e8 w8 ⟨hb8, rfl⟩
  have B8 : Below w.heap.size w w8 := Below.undrew hb8
  go_wp2_with fail
  refine hK.out _ _ (keepP k1 k2 k3 k4 k5 k6 k7 k8 k9 B8) (fun hHeld => ?_)
  clear hK K
  refine wpHL_ready [16] (by kernel_rfl) ?_
  refine AllReadyHL.cons (o := _) rfl (fun K hK => ?_) AllReadyHL.nil
  go_simp
  go_at_call 66
  refine (HCP.out _).mono ?_
  rintro e9 w9 ⟨hb9, rfl⟩
  have B9 : Below w.heap.size w w9 := Below.tr B8 hb9
  go_wp2_with fail
  refine hK.out _ _ (keepP k1 k2 k3 k4 k5 k6 k7 k8 k9 B9) (fun hHeld => ?_)
  clear hK K
  refine wpHL_done (by kernel_rfl) ?_
  simp only [List.drop_succ_cons, List.drop_zero]
  have KO := HJ.out.cell.up B9
  have g0 := Blk.cell (i := 0) KO rfl
  have g1 := Blk.cell (i := 1) KO rfl
  have f0 := Blk.frozen KO 0
  have f1 := Blk.frozen KO 1
  have gL := Blk.lt KO
  have HKO := Lib.hid KO
  have HB9 := Lib.hid B9
  clear KO hHeld hb8 hb9 B8 B9 k1 k2 k3 k4 k5 k6 k7 k8 k9
  go_wp2_with fail
  go_end0
  have hwk : Wk C w ((w9.setCell ⟨bo, 0, none⟩ (.int .u64 (y1 : Int))).setCell ⟨bo, 1, none⟩ (.int .u64 (y2 : Int))) :=
    ⟨HB9.out.os, HB9.out.tape, HB9.out.output, by have := HB9.out.size; simpa [World.setCell] using this, fun k hk => (Below.heap_setCell _ ⟨bo, 1, none⟩ _ k (fun e => HJ.out.nc (by subst e; exact hk))).trans ((Below.heap_setCell _ ⟨bo, 0, none⟩ _ k (fun e => HJ.out.nc (by subst e; exact hk))).trans (HB9.out.block k (HC.out k hk)))⟩
  have hw0 : Wk (fun b => b < w0.heap.size ∧ b ≠ bo) w ((w9.setCell ⟨bo, 0, none⟩ (.int .u64 (y1 : Int))).setCell ⟨bo, 1, none⟩ (.int .u64 (y2 : Int))) :=
    ⟨HB9.out.os, HB9.out.tape, HB9.out.output, by have := HB9.out.size; simpa [World.setCell] using this, fun k hk => (Below.heap_setCell _ ⟨bo, 1, none⟩ _ k hk.2).trans ((Below.heap_setCell _ ⟨bo, 0, none⟩ _ k hk.2).trans (HB9.out.block k (by have := hk.1; omega)))⟩
  refine ⟨rfl, C, fun _ h => h, ?_, ⟨HJ.out.wk.trans hw0, ?_, HJ.out.nc, by rw [HS2.out]; exact HL.out⟩, hwk⟩
  · intro b h
    have := HC.out b h
    have := hwk.size
    omega
  · rw [HS2.out]; exact (HKO.out.set 0 _).set 1 _
set_option maxRecDepth 100000 in
set_option maxHeartbeats 4000000 in
theorem print_any (P : Nat) (xs : List GRule) (ls : List Int) (vR vL : Value) (AM AS : Option Addr) (cM cS : Nat) (i j : Int) (w : World) (hW : Wv w P xs ls vR vL AM cM AS cS) (hl : lens xs = some ls) (hn : xs.length ≤ 1048576) :
    Calls Tryd.prog 69 #[.pointer (some ⟨P, 0, none⟩), .int .i64 i, .int .i64 j] w fun e w' => Below w.heap.size w w' ∧ e = .returned (prV ((piecesL xs ls i j).foldl (stepP xs) (0, 0)).1 ((piecesL xs ls i j).foldl (stepP xs) (0, 0)).2) := by
  have HW := Lib.hid hW
  have HL := Lib.hid hl
  obtain ⟨AR, cR, rfl, _⟩ := hW.rul
  obtain ⟨AL, cL, rfl, _⟩ := hW.len
  clear hW hl
  go_enter Tryd.func69, Tryd.ntmps69
  have ba := (((Below.refl w.heap.size w).alloc (Nat.le_refl _) (Obj.cells #[.pointer (some ⟨P, 0, none⟩)] 54)).alloc (by simp) (Obj.cells #[.int .u64 0, .int .u64 0] 103)).alloc (by simp; omega) (Obj.cells #[.int .u64 0, .int .u64 0] 103)
  have kN := ((Blk.new w #[.pointer (some ⟨P, 0, none⟩)] 54).alloc (Obj.cells #[.int .u64 0, .int .u64 0] 103)).alloc (Obj.cells #[.int .u64 0, .int .u64 0] 103)
  have kR := (Blk.new (w.alloc (Obj.cells #[.pointer (some ⟨P, 0, none⟩)] 54)) #[.int .u64 0, .int .u64 0] 103).alloc (Obj.cells #[.int .u64 0, .int .u64 0] 103)
  have kO := Blk.new ((w.alloc (Obj.cells #[.pointer (some ⟨P, 0, none⟩)] 54)).alloc (Obj.cells #[.int .u64 0, .int .u64 0] 103)) #[.int .u64 0, .int .u64 0] 103
  have z1 : (w.alloc (Obj.cells #[.pointer (some ⟨P, 0, none⟩)] 54)).heap.size = w.heap.size + 1 := by simp
  have z2 : ((w.alloc (Obj.cells #[.pointer (some ⟨P, 0, none⟩)] 54)).alloc (Obj.cells #[.int .u64 0, .int .u64 0] 103)).heap.size = w.heap.size + 1 + 1 := by simp
  rw [z1] at kR
  rw [z2] at kO
  have HBA := Lib.hid ba
  have HKN := Lib.hid kN
  have HKR := Lib.hid kR
  have HKO := Lib.hid kO
  clear ba kN kR kO z1 z2
  go_upto_region 2 with fail
  revert HBA HKN HKR HKO
  generalize (((w.alloc (Obj.cells #[.pointer (some ⟨P, 0, none⟩)] 54)).alloc (Obj.cells #[.int .u64 0, .int .u64 0] 103)).alloc (Obj.cells #[.int .u64 0, .int .u64 0] 103)) = W
  intro HBA HKN HKR HKO
  have HWW := Lib.hid (HW.out.up HBA.out)
  have hPl : P < w.heap.size := HW.out.box.lt
  obtain ⟨N, hN⟩ : ∃ N, w.heap.size = N := ⟨_, rfl⟩
  have HN := Lib.hid hN
  rw [hN] at HKN HKR HKO hPl
  rw [hN]
  clear hN
  have c0 := Blk.cell (i := 0) (v := .pointer (some ⟨P, 0, none⟩)) HKN.out rfl
  have c1 := Blk.cell (i := 0) (v := .slice AR xs.length cR) HWW.out.box rfl
  have c2 := Blk.cell (i := 1) (v := .slice AL ls.length cL) HWW.out.box rfl
  have l0 := Blk.lt HKN.out
  have l1 := Blk.lt HWW.out.box
  refine wp_region_still_tail 11 (by kernel_rfl) (by kernel_rfl) ?_
  simp only [List.take_succ_cons, List.take_zero, List.drop_succ_cons, List.drop_zero]
  still_step
  still_step
  still_step
  still_step
  still_step
  still_step
  still_step
  still_step
  still_step
  still_step
  still_step
  refine wpStill_nil ?_
  go_wp2_with fail
  have WD := Lib.hid (HWW.out.up (Below.drew (Below.refl W.heap.size W)))
  have KND := Lib.hid (Blk.drew HKN.out)
  have KRD := Lib.hid (Blk.drew HKR.out)
  have KOD := Lib.hid (Blk.drew HKO.out)
  have HBD := Lib.hid (Below.drew HBA.out)
  have hMg : ∀ g, (Value.slice AM xs.length cM).ownBlock = some g → g ≠ N + 1 + 1 := fun g e => by
    have h1 := (World.ownsRow.lt HW.out.mrk g e).2
    have := HN.out; omega
  have hSg : ∀ g, (Value.slice AS xs.length cS).ownBlock = some g → g ≠ N + 1 + 1 := fun g e => by
    have h1 := (World.ownsRow.lt HW.out.stp g e).2
    have := HN.out; omega
  clear c0 c1 c2 l0 l1 HKN HKR HKO HBA HWW
  generalize W.drew = W0 at *
  have hO : N + 1 + 1 < W0.heap.size := KOD.out.lt
  have hcl := printCl_any W0 (N + 1 + 1) N P xs ls (.slice AR xs.length cR) (.slice AL ls.length cL) AM AS cM cS hO (by omega) (by omega) (KND.out.cell rfl) WD.out hMg hSg
  refine (pieces_any (PJ W0 (N + 1 + 1)) (stepP xs) (fun _ _ => True) 80 #[.pointer (some ⟨N + 1 + 1, 0, none⟩), .pointer (some ⟨N, 0, none⟩)] xs ls i j HL.out (by omega) (enters_of Tryd.func80 (by kernel_rfl) rfl) (fun C s w w' hJ hb _ hC => PJ.ext hO C s w w' hJ hb hC)
    (fun C s r w hJ _ hr hC => hcl C s r w hJ hr hC) _ _ (0, 0) (fun b => b < w.heap.size) W0 ⟨Wk.refl _ _, KOD.out, by have := HN.out; omega, by decide⟩ (Runs.all fun _ _ => trivial) (fun b hb => by have := HN.out; omega) ?_ ?_).mono ?_
  · exact HW.out.len.keep (Keep.of_below HBD.out)
  · exact HW.out.rul.keep (Keep.of_below HBD.out)
  · rintro e w2 ⟨rfl, C2, g1, g2, g3, g4⟩
    obtain ⟨s, hs⟩ : ∃ s, (piecesL xs ls i j).foldl (stepP xs) (0, 0) = s := ⟨_, rfl⟩
    rw [hs] at g3
    have Hs := Lib.hid hs
    have HB2 := Lib.hid (HBD.out.trans (g3.wk.below (B := w.heap.size) fun k hk => ⟨by have := HN.out; omega, by have := HN.out; omega⟩))
    have HG := Lib.hid g3
    have KR2 := Lib.hid (show Blk w2 (N + 1) #[.int .u64 0, .int .u64 0] 103 from g3.wk.heap ⟨by omega, by omega⟩ KRD.out)
    obtain ⟨s1, s2⟩ := s
    have c0 := Blk.cell (i := 0) g3.cell rfl
    have c1 := Blk.cell (i := 1) g3.cell rfl
    have d0 := Blk.frozen KR2.out 0
    have d1 := Blk.frozen KR2.out 1
    have e0 := Blk.cell (i := 0) KR2.out rfl
    have e1 := Blk.cell (i := 1) KR2.out rfl
    have lR := Blk.lt KR2.out
    have lO := Blk.lt g3.cell
    clear g1 g2 g3 g4 hcl hs
    go_wp2_with fail
    refine bodyPost_ret (v := .agg #[.int .u64 (s1 : Int), .int .u64 (s2 : Int)]) (by simp [results, Tryd.results69, go_sem, e0, e1]) rfl ⟨?_, by rw [Hs.out]; rfl⟩
    exact (HB2.out.setCell (p := ⟨N + 1, 0, none⟩) (by show w.heap.size ≤ N + 1; have := HN.out; omega) _).setCell (p := ⟨N + 1, 1, none⟩) (by show w.heap.size ≤ N + 1; have := HN.out; omega) _
def prG (xs : List GRule) : Nat × Nat := (polP bA (wordG xs), polP bB (wordG xs))
theorem print_all {xs : List GRule} {ls : List Int} (hl : lens xs = some ls) : (piecesL xs ls 0 (lastI ls)).foldl (stepP xs) (0, 0) = prG xs := by
  rw [pieces_all hl]
  by_cases h0 : xs.length = 0
  · have : xs = [] := List.eq_nil_of_length_eq_zero h0
    subst this
    rfl
  · rw [if_neg h0]
    show stepP xs (0, 0) (xs.length - 1) = _
    unfold stepP prG
    rw [wordG_pos (by omega)]
    simp only [Nat.zero_mul, Nat.zero_mod, Nat.zero_add]
    rw [Nat.mod_eq_of_lt (mk_lt xs _).1, Nat.mod_eq_of_lt (mk_lt xs _).2]
    rfl
def eqG (xs ys : List GRule) : Bool := decide (gramLen xs = gramLen ys) && decide (prG xs = prG ys)
def WvP (w : World) (P : Nat) (xs : List GRule) : Prop := ∃ ls vR vL AM cM AS cS, lens xs = some ls ∧ xs.length ≤ 400 ∧ Wv w P xs ls vR vL AM cM AS cS
theorem WvP.up {w w' : World} {P : Nat} {xs : List GRule} (h : WvP w P xs) (hb : Below w.heap.size w w') : WvP w' P xs := by
  obtain ⟨ls, vR, vL, AM, cM, AS, cS, h1, h2, h3⟩ := h
  exact ⟨ls, vR, vL, AM, cM, AS, cS, h1, h2, h3.up hb⟩
theorem WvP.drew {w : World} {P : Nat} {xs : List GRule} (h : WvP w P xs) : WvP w.drew P xs := h.up (Below.drew (Below.refl _ _))
theorem newWeave_wvp (v : Value) (xs : List GRule) (w : World) (h : Sl RuleE w w.heap.size v xs) (hg : gramOk xs = true) :
    Calls Tryd.prog 39 #[.agg #[v]] w fun e w' => ∃ P, e = .returned (.tuple #[.pointer (some ⟨P, 0, none⟩), .bool true]) ∧ WvP w' P xs ∧ Below w.heap.size w w' := by
  refine (newWeave_any v xs w h hg).mono ?_
  rintro e w' ⟨P, ls, vL, AM, cM, AS, cS, rfl, hl, hP, S⟩
  refine ⟨P, rfl, ⟨ls, v, vL, AM, cM, AS, cS, hl, (gram_lens hg).1, S.box, ?_, h.up S.bel, ownsRow_more S.mrk (by omega), ownsRow_more S.stp (by omega)⟩, S.bel⟩
  exact OwnInts.sl S.len
theorem wvLength_any (P : Nat) (xs : List GRule) (w : World) (h : WvP w P xs) :
    Calls Tryd.prog 40 #[.pointer (some ⟨P, 0, none⟩)] w fun e w' => e = .returned (.int .i64 (gramLen xs)) ∧ Below w.heap.size w w' := by
  obtain ⟨ls, vR, vL, AM, cM, AS, cS, h1, h2, h3⟩ := h
  have HL := Lib.hid h3.len
  have c1 := Blk.cell (i := 1) (v := vL) h3.box rfl
  have l1 := h3.box.lt
  obtain ⟨AL, cL, rfl, _⟩ := h3.len
  have hgl := Lib.hid (gramLen_of h1)
  clear h3 h1
  go_enter Tryd.func40, Tryd.ntmps40
  go_wp2_with fail
  refine (last_any _ ls _ HL.out).mono ?_
  rintro e w' ⟨rfl, rfl⟩
  go_wp2_with fail
  go_ret
  exact ⟨ret_int (by rw [hgl.out]), Below.refl _ _⟩
theorem wvPrint_any (P : Nat) (xs : List GRule) (n : Int) (w : World) (h : WvP w P xs) (hn : n = gramLen xs) :
    Calls Tryd.prog 69 #[.pointer (some ⟨P, 0, none⟩), .int .i64 0, .int .i64 n] w fun e w' => Below w.heap.size w w' ∧ e = .returned (prV (prG xs).1 (prG xs).2) := by
  obtain ⟨ls, vR, vL, AM, cM, AS, cS, h1, h2, h3⟩ := h
  have := print_any P xs ls vR vL AM AS cM cS 0 n w h3 h1 (by omega)
  rw [hn, gramLen_of h1, print_all h1] at this
  rw [hn, gramLen_of h1]
  exact this
theorem gram_len_bd (xs : List GRule) : 0 ≤ gramLen xs ∧ gramLen xs ≤ 1000000000000000 := gramLen_bounds xs
theorem eq_print (a1 a2 b1 b2 : Nat) (w : World) : (Op.equalIn 10000 103 (.agg #[.int .u64 (a1 : Int), .int .u64 (a2 : Int)]) (.agg #[.int .u64 (b1 : Int), .int .u64 (b2 : Int)])).run Tryd.prog w = .ok (decide (a1 = b1) && decide (a2 = b2)) w := by
  obtain ⟨i, hi⟩ : ∃ i, Tryd.prog.info? 76 = some i := Option.isSome_iff_exists.1 (by kernel_rfl)
  have hp : Tryd.prog.plainKey 76 = true := by kernel_rfl
  have hc : Tryd.prog.cellsOf 76 = 1 := by kernel_rfl
  have pA0 := fun w => run_part_plain w hp (xs := #[.int .u64 (a1 : Int), .int .u64 (a2 : Int)]) (off := 0) (v := .int .u64 (a1 : Int)) rfl
  have pA1 := fun w => run_part_plain w hp (xs := #[.int .u64 (a1 : Int), .int .u64 (a2 : Int)]) (off := 1) (v := .int .u64 (a2 : Int)) rfl
  have pB0 := fun w => run_part_plain w hp (xs := #[.int .u64 (b1 : Int), .int .u64 (b2 : Int)]) (off := 0) (v := .int .u64 (b1 : Int)) rfl
  have pB1 := fun w => run_part_plain w hp (xs := #[.int .u64 (b1 : Int), .int .u64 (b2 : Int)]) (off := 1) (v := .int .u64 (b2 : Int)) rfl
  have e0 : ∀ (x y : Nat), ((x : Int) == (y : Int)) = decide (x = y) := fun x y => by
    by_cases h : x = y
    · subst h; simp
    · rw [decide_eq_false h, beq_eq_false_iff_ne]; omega
  rw [run_equalIn_array w 9999 _ _ Tryd.underlying103 hi, hc, show List.range 2 = [0, 1] from rfl]
  have q0 := fun w => run_equalIn_int w 9998 76 .u64 .u64 (a1 : Int) (b1 : Int) Tryd.underlying76
  have q1 := fun w => run_equalIn_int w 9998 76 .u64 .u64 (a2 : Int) (b2 : Int) Tryd.underlying76
  simp only [Op.eqItems, Sem.run_bind, Nat.zero_mul, pA0, pB0, Result.andThen_ok, q0, e0]
  generalize decide (a1 = b1) = x
  cases x with
  | false => rfl
  | true =>
    simp only [Sem.run_bind, Nat.one_mul, pA1, pB1, Result.andThen_ok, q1, e0, Bool.not_true, Bool.false_eq_true, if_false]
    generalize decide (a2 = b2) = y
    cases y <;> rfl
set_option maxRecDepth 100000 in
theorem wvEqual_any (P Q : Nat) (xs ys : List GRule) (n : Int) (w : World) (h : WvP w P xs) (h' : WvP w Q ys) (hn : n = gramLen xs) (hn' : n = gramLen ys) :
    Calls Tryd.prog 49 #[.pointer (some ⟨P, 0, none⟩), .int .i64 0, .pointer (some ⟨Q, 0, none⟩), .int .i64 0, .int .i64 n] w fun e w' => e = .returned (.bool (decide (prG xs = prG ys))) ∧ Below w.heap.size w w' := by
  have HP := Lib.hid h
  have HQ := Lib.hid h'
  have HN := Lib.hid hn
  have HN' := Lib.hid hn'
  have hb := gram_len_bd xs
  rw [← hn] at hb
  obtain ⟨hb1, hb2⟩ := hb
  clear h h' hn hn'
  go_enter Tryd.func49, Tryd.ntmps49
  go_wp2_with fail
  refine (wvPrint_any P xs n _ HP.out HN.out).mono ?_
  rintro e w1 ⟨hb1, rfl⟩
  have HB1 := Lib.hid hb1
  clear hb1
  go_wp2_with fail
  refine (wvPrint_any Q ys n _ (HQ.out.up HB1.out) HN'.out).mono ?_
  rintro e w2 ⟨hb2, rfl⟩
  have HB2 := Lib.hid (Below.tr HB1.out hb2)
  clear hb2
  have HE := Lib.hid (show decide (prG xs = prG ys) = (decide ((prG xs).1 = (prG ys).1) && decide ((prG xs).2 = (prG ys).2)) from by
    rw [← Bool.decide_and]; congr 1; exact propext Prod.ext_iff)
  obtain ⟨a1, h1⟩ : ∃ a, (prG xs).1 = a := ⟨_, rfl⟩
  obtain ⟨a2, h2⟩ : ∃ a, (prG xs).2 = a := ⟨_, rfl⟩
  obtain ⟨b1, h3⟩ : ∃ a, (prG ys).1 = a := ⟨_, rfl⟩
  obtain ⟨b2, h4⟩ : ∃ a, (prG ys).2 = a := ⟨_, rfl⟩
  rw [h1, h2, h3, h4] at HE
  rw [h1, h2, h3, h4]
  unfold prV
  have hEQ := eq_print a1 a2 b1 b2 w2
  generalize (decide (a1 = b1) && decide (a2 = b2)) = bb at *
  clear h1 h2 h3 h4
  go_wp2_with fail
  go_ret
  exact ⟨ret_bool (by rw [HE.out]), HB2.out⟩
set_option maxRecDepth 100000 in
theorem wvSame_any (P Q : Nat) (xs ys : List GRule) (w : World) (h : WvP w P xs) (h' : WvP w Q ys) :
    Calls Tryd.prog 29 #[.pointer (some ⟨P, 0, none⟩), .pointer (some ⟨Q, 0, none⟩)] w fun e w' => e = .returned (.bool (eqG xs ys)) ∧ Below w.heap.size w w' := by
  have HP := Lib.hid h
  have HQ := Lib.hid h'
  clear h h'
  have HE := Lib.hid (show eqG xs ys = (decide (gramLen xs = gramLen ys) && decide (prG xs = prG ys)) from rfl)
  obtain ⟨n, hn⟩ : ∃ n, gramLen xs = n := ⟨_, rfl⟩
  obtain ⟨m, hm⟩ : ∃ m, gramLen ys = m := ⟨_, rfl⟩
  rw [hn, hm] at HE
  have HN := Lib.hid hn
  have HM := Lib.hid hm
  clear hn hm
  go_enter Tryd.func29, Tryd.ntmps29
  go_wp2_with fail
  refine (wvLength_any P xs _ HP.out).mono ?_
  rintro e w1 ⟨rfl, hb1⟩
  rw [HN.out]
  have HB1 := Lib.hid hb1
  clear hb1
  go_wp2_with fail
  refine (wvLength_any Q ys _ (HQ.out.up HB1.out)).mono ?_
  rintro e w2 ⟨rfl, hb2⟩
  rw [HM.out]
  have HB2 := Lib.hid (Below.tr HB1.out hb2)
  clear hb2
  by_cases e1 : n = m
  · subst e1
    go_wp2_with fail
    refine (wvLength_any P xs _ (HP.out.up HB2.out)).mono ?_
    rintro e w3 ⟨rfl, hb3⟩
    rw [HN.out]
    have HB3 := Lib.hid (Below.tr HB2.out hb3)
    clear hb3
    go_wp2_with fail
    refine (wvEqual_any P Q xs ys n _ (HP.out.up HB3.out) (HQ.out.up HB3.out) HN.out.symm HM.out.symm).mono ?_
    rintro e w4 ⟨rfl, hb4⟩
    have HB4 := Lib.hid (Below.tr HB3.out hb4)
    clear hb4
    go_wp2_with fail
    go_ret
    exact ⟨ret_bool (by rw [HE.out]; simp), HB4.out⟩
  · have f1 : (n == m) = false := by rw [beq_eq_false_iff_ne]; exact e1
    have E1 := Lib.hid e1
    clear e1
    go_wp2_with fail
    go_ret
    exact ⟨ret_bool (by rw [HE.out]; simp [E1.out]), HB2.out⟩
set_option maxRecDepth 100000 in
theorem weaves_any (v u : Value) (xs ys : List GRule) (w : World) (h : Sl RuleE w w.heap.size v xs) (h' : Sl RuleE w w.heap.size u ys) (hx : gramOk xs = true) (hy : gramOk ys = true) :
    Calls Tryd.prog 28 #[.agg #[v], .agg #[u]] w fun e w' => ∃ P Q, e = .returned (.tuple #[.pointer (some ⟨P, 0, none⟩), .pointer (some ⟨Q, 0, none⟩), .bool true]) ∧ WvP w' P xs ∧ WvP w' Q ys ∧ Below w.heap.size w w' := by
  have H := Lib.hid h
  have H' := Lib.hid h'
  obtain ⟨A, c, rfl, _⟩ := h
  obtain ⟨A', c', rfl, _⟩ := h'
  have hX := Lib.hid hx
  have hY := Lib.hid hy
  clear hx hy
  have HB := Lib.hid (fun o o' => ((Below.refl w.heap.size w).alloc (Nat.le_refl _) o).alloc (by simp) o')
  have k1 := (Blk.new w #[.slice A xs.length c] 26).alloc (Obj.cells #[.slice A' ys.length c'] 26)
  have k2 := Blk.new (w.alloc (Obj.cells #[.slice A xs.length c] 26)) #[.slice A' ys.length c'] 26
  rw [show (w.alloc (Obj.cells #[.slice A xs.length c] 26)).heap.size = w.heap.size + 1 by simp] at k2
  have K2 := Lib.hid k2
  have K1 := Lib.hid k1
  clear k1 k2
  go_enter Tryd.func28, Tryd.ntmps28
  go_wp2_with fail
  refine (newWeave_wvp _ xs _ (H.out.up (HB.out _ _)) hX.out).mono ?_
  rintro e w1 ⟨P, rfl, hP, hb1⟩
  have HP := Lib.hid hP
  have HB1 := Lib.hid (Below.tr (HB.out _ _) hb1)
  have k2 := K2.out.up hb1
  have c2 := Blk.cell (i := 0) (v := .slice A' ys.length c') k2 rfl
  have l2 := Blk.lt k2
  clear hb1 hP k2
  go_wp2_with fail
  refine (newWeave_wvp _ ys _ (H'.out.up HB1.out) hY.out).mono ?_
  rintro e w2 ⟨Q, rfl, hQ, hb2⟩
  have HQ := Lib.hid hQ
  have HP2 := Lib.hid (HP.out.up hb2)
  have HB2 := Lib.hid (Below.tr HB1.out hb2)
  clear hb2 hQ c2 l2
  go_wp2_with fail
  go_ret3
  exact ⟨P, Q, rfl, HP2.out, HQ.out, HB2.out⟩
set_option maxRecDepth 100000 in
theorem equalWords_any (v u : Value) (xs ys : List GRule) (w : World) (h : Sl RuleE w w.heap.size v xs) (h' : Sl RuleE w w.heap.size u ys) (hx : gramOk xs = true) (hy : gramOk ys = true) :
    Calls Tryd.prog 9 #[.agg #[v], .agg #[u]] w fun e w' => e = .returned (.tuple #[.bool (eqG xs ys), .int .i64 0]) ∧ Below w.heap.size w w' := by
  have H := Lib.hid h
  have H' := Lib.hid h'
  obtain ⟨A, c, rfl, _⟩ := h
  obtain ⟨A', c', rfl, _⟩ := h'
  have hX := Lib.hid hx
  have hY := Lib.hid hy
  clear hx hy
  have HB := Lib.hid (fun o o' => ((Below.refl w.heap.size w).alloc (Nat.le_refl _) o).alloc (by simp) o')
  go_enter Tryd.func9, Tryd.ntmps9
  go_wp2_with fail
  refine (weaves_any _ _ xs ys _ (H.out.up (HB.out _ _)) (H'.out.up (HB.out _ _)) hX.out hY.out).mono ?_
  rintro e w1 ⟨P, Q, rfl, hP, hQ, hb1⟩
  have HP := Lib.hid hP
  have HQ := Lib.hid hQ
  have HB1 := Lib.hid (Below.tr (HB.out _ _) hb1)
  clear hb1 hP hQ
  go_wp2_with fail
  refine (wvSame_any P Q xs ys _ HP.out HQ.out).mono ?_
  rintro e w2 ⟨rfl, hb2⟩
  have HB2 := Lib.hid (Below.tr HB1.out hb2)
  clear hb2
  go_wp2_with fail
  go_ret2
  exact ⟨rfl, HB2.out⟩
def prC (xs : List GRule) (i j : Int) : Nat × Nat := (polP bA (cutL (wordG xs) i j), polP bB (cutL (wordG xs) i j))
theorem fold_print (xs : List GRule) : ∀ (L : List Nat) (U : List UInt8), L.foldl (stepP xs) (polP bA U, polP bB U) = (polP bA (U ++ L.flatMap (W1 xs)), polP bB (U ++ L.flatMap (W1 xs))) := by
  intro L
  induction L with
  | nil => intro U; simp
  | cons r L ih =>
    intro U
    have e : stepP xs (polP bA U, polP bB U) r = (polP bA (U ++ W1 xs r), polP bB (U ++ W1 xs r)) := by
      unfold stepP mkOf stOf
      rw [polP_app bA U, polP_app bB U]
    rw [List.foldl_cons, e, ih (U ++ W1 xs r), List.flatMap_cons, List.append_assoc]
theorem print_cut {xs : List GRule} {ls : List Int} (hl : lens xs = some ls) (i j : Int) : (piecesL xs ls i j).foldl (stepP xs) (0, 0) = prC xs i j := by
  have h := fold_print xs (piecesL xs ls i j) []
  rw [List.nil_append, pieces_word hl] at h
  exact h
def commonB (of : Nat → Bool) : Nat → Nat → Nat → Nat
  | 0, low, _ => low
  | f + 1, low, high => if low < high then (if of ((low + high + 1) / 2) then commonB of f ((low + high + 1) / 2) high else commonB of f low ((low + high + 1) / 2 - 1)) else low
theorem commonB_spec (of : Nat → Bool) (k n : Nat) (h : ∀ m, m ≤ n → (of m = true ↔ m ≤ k)) : ∀ (f low high : Nat), high - low ≤ f → low ≤ k → low ≤ high → high ≤ n → (k ≤ high ∨ high = n) → commonB of f low high = min k n := by
  intro f
  induction f with
  | zero => intro low high h1 h2 h3 h4 h5; rw [commonB]; omega
  | succ f ih =>
    intro low high h1 h2 h3 h4 h5
    rw [commonB]
    by_cases g : low < high
    · rw [if_pos g]
      have hm := h ((low + high + 1) / 2) (by omega)
      by_cases e : of ((low + high + 1) / 2) = true
      · have := hm.1 e
        rw [if_pos e]
        exact ih _ _ (by omega) this (by omega) h4 h5
      · have : ¬ ((low + high + 1) / 2 ≤ k) := fun q => e (hm.2 q)
        rw [if_neg e]
        exact ih _ _ (by omega) h2 (by omega) (by omega) (Or.inl (by omega))
    · rw [if_neg g]; omega
def dotI : List Int → List Int → Int
  | x :: xs, y :: ys => x * y + dotI xs ys
  | _, _ => 0
def cen (x : Nat) : Int := if 2 * (x % pF) < pF then (x % pF : Nat) else ((x % pF : Nat) : Int) - pF
theorem cen_mod (x : Nat) : ∃ k : Int, cen x = x - pF * k := by
  have h := Nat.div_add_mod x pF
  unfold cen
  have e : (x : Int) = pF * ((x / pF : Nat) : Int) + ((x % pF : Nat) : Int) := by rw [← Int.natCast_mul, ← Int.natCast_add, h]
  split
  · exact ⟨((x / pF : Nat) : Int), by rw [e]; omega⟩
  · refine ⟨((x / pF : Nat) : Int) + 1, ?_⟩
    rw [Int.mul_add, Int.mul_one]; omega
def rowM (t : Nat) (C : List Nat) : List Int := C.map (fun c => cen (t * c))
def intsC (C : List Nat) : List Int := C.map (fun c : Nat => (c : Int))
theorem rowM_mod (t : Nat) : ∀ (C : List Nat) (d : List Int), ∃ k : Int, dotI d (rowM t C) = t * dotI d (intsC C) - pF * k := by
  intro C
  induction C with
  | nil => intro d; exact ⟨0, by cases d <;> simp [rowM, intsC, dotI]⟩
  | cons c C ih =>
    intro d
    match d with
    | [] => exact ⟨0, by simp [dotI]⟩
    | x :: d =>
      obtain ⟨k, hk⟩ := ih d
      obtain ⟨j, hj⟩ := cen_mod (t * c)
      refine ⟨x * j + k, ?_⟩
      show x * cen (t * c) + dotI d (rowM t C) = t * (x * (c : Int) + dotI d (intsC C)) - pF * (x * j + k)
      rw [hk, hj, Int.natCast_mul, Int.mul_add, Int.mul_add, Int.mul_sub]
      have e1 : x * ((t : Int) * c) = t * (x * c) := by rw [Int.mul_left_comm]
      have e2 : x * ((pF : Int) * j) = pF * (x * j) := by rw [Int.mul_left_comm]
      rw [e1, e2]; omega
def absS : List Int → Int
  | [] => 0
  | x :: xs => (x.natAbs : Int) + absS xs
theorem absS_nonneg : ∀ l : List Int, 0 ≤ absS l := by
  intro l
  induction l with
  | nil => exact Int.le_refl _
  | cons x l ih => show 0 ≤ (x.natAbs : Int) + absS l; omega
theorem dot_small : ∀ (r d : List Int), (∀ x ∈ d, -3 ≤ x ∧ x ≤ 3) → -(3 * absS r) ≤ dotI d r ∧ dotI d r ≤ 3 * absS r := by
  intro r
  induction r with
  | nil => intro d _; cases d <;> simp [dotI, absS]
  | cons y r ih =>
    intro d h
    match d with
    | [] => have := absS_nonneg (y :: r); simp only [dotI]; omega
    | x :: d =>
      have h1 := h x (by simp)
      have h2 := ih d (fun z hz => h z (by simp [hz]))
      show -(3 * ((y.natAbs : Int) + absS r)) ≤ x * y + dotI d r ∧ x * y + dotI d r ≤ 3 * ((y.natAbs : Int) + absS r)
      have hx : x = -3 ∨ x = -2 ∨ x = -1 ∨ x = 0 ∨ x = 1 ∨ x = 2 ∨ x = 3 := by omega
      rcases hx with rfl | rfl | rfl | rfl | rfl | rfl | rfl <;> omega
def axpy (n : Int) : List Int → List Int → List Int
  | x :: xs, y :: ys => (n * x + y) :: axpy n xs ys
  | [], ys => ys
  | xs, [] => xs.map (n * ·)
theorem dot_map (n : Int) : ∀ (r d : List Int), dotI d (r.map (n * ·)) = n * dotI d r := by
  intro r
  induction r with
  | nil => intro d; cases d <;> simp [dotI]
  | cons y r ih =>
    intro d
    match d with
    | [] => simp [dotI]
    | x :: d =>
      show x * (n * y) + dotI d (r.map (n * ·)) = n * (x * y + dotI d r)
      rw [ih, Int.mul_add, Int.mul_left_comm]
theorem dot_axpy (n : Int) : ∀ (r s d : List Int), dotI d (axpy n r s) = n * dotI d r + dotI d s := by
  intro r
  induction r with
  | nil => intro s d; cases s <;> cases d <;> simp [axpy, dotI]
  | cons y r ih =>
    intro s d
    match s, d with
    | [], d =>
      have : dotI d [] = 0 := by cases d <;> rfl
      rw [this, Int.add_zero]
      exact dot_map n (y :: r) d
    | z :: s, [] => simp [dotI]
    | z :: s, x :: d =>
      show x * (n * y + z) + dotI d (axpy n r s) = n * (x * y + dotI d r) + (x * z + dotI d s)
      rw [ih, Int.mul_add, Int.mul_add, Int.mul_left_comm]; omega
def comb : List Nat → List (List Int) → List Int
  | n :: N, r :: M => axpy n r (comb N M)
  | _, _ => []
theorem dot_comb (d : List Int) : ∀ (N : List Nat) (M : List (List Int)), (∀ r ∈ M, dotI d r = 0) → dotI d (comb N M) = 0 := by
  intro N
  induction N with
  | nil => intro M _; cases d <;> rfl
  | cons n N ih =>
    intro M h
    match M with
    | [] => cases d <;> rfl
    | r :: M =>
      show dotI d (axpy n r (comb N M)) = 0
      rw [dot_axpy, h r (by simp), ih M (fun x hx => h x (by simp [hx]))]; omega
def unitAt (q : Nat) : Nat → List Int → Bool
  | 0, x :: xs => decide ((x - 1) % q = 0) && xs.all (fun y => decide (y % q = 0))
  | i + 1, x :: xs => decide (x % q = 0) && unitAt q i xs
  | _, [] => false
theorem dot_zero_mod (q : Nat) : ∀ (r d : List Int), (r.all fun y => decide (y % (q : Int) = 0)) = true → ∃ k : Int, dotI d r = q * k := by
  intro r
  induction r with
  | nil => intro d _; exact ⟨0, by cases d <;> simp [dotI]⟩
  | cons y r ih =>
    intro d h
    rw [List.all_cons, Bool.and_eq_true, decide_eq_true_eq] at h
    match d with
    | [] => exact ⟨0, by simp [dotI]⟩
    | x :: d =>
      obtain ⟨k, hk⟩ := ih d h.2
      obtain ⟨j, hj⟩ := Int.dvd_of_emod_eq_zero h.1
      refine ⟨x * j + k, ?_⟩
      show x * y + dotI d r = _
      rw [hk, hj, Int.mul_add, Int.mul_left_comm]
theorem dot_unit (q : Nat) : ∀ (i : Nat) (r d : List Int), unitAt q i r = true → ∃ k : Int, dotI d r = d.getD i 0 + q * k := by
  intro i
  induction i with
  | zero =>
    intro r d h
    match r, h with
    | x :: r, h =>
      unfold unitAt at h
      rw [Bool.and_eq_true, decide_eq_true_eq] at h
      match d with
      | [] => exact ⟨0, by simp [dotI]⟩
      | y :: d =>
        obtain ⟨k, hk⟩ := dot_zero_mod q r d h.2
        obtain ⟨j, hj⟩ := Int.dvd_of_emod_eq_zero h.1
        refine ⟨y * j + k, ?_⟩
        show y * x + dotI d r = y + _
        rw [hk, show x = 1 + q * j by omega, Int.mul_add, Int.mul_one, Int.mul_add, Int.mul_left_comm]; omega
  | succ i ih =>
    intro r d h
    match r, h with
    | x :: r, h =>
      unfold unitAt at h
      rw [Bool.and_eq_true, decide_eq_true_eq] at h
      match d with
      | [] => exact ⟨0, by simp [dotI]⟩
      | y :: d =>
        obtain ⟨k, hk⟩ := ih r d h.2
        obtain ⟨j, hj⟩ := Int.dvd_of_emod_eq_zero h.1
        refine ⟨y * j + k, ?_⟩
        show y * x + dotI d r = (y :: d).getD (i + 1) 0 + _
        rw [hk, hj, List.getD_cons_succ, Int.mul_add, Int.mul_left_comm]; omega
def unitsOk (q : Nat) (M : List (List Int)) : Nat → List (List Nat) → Bool
  | _, [] => true
  | i, N :: Ns => unitAt q i (comb N M) && unitsOk q M (i + 1) Ns
theorem unitsOk_at {q : Nat} {M : List (List Int)} : ∀ (Ns : List (List Nat)) (i k : Nat), unitsOk q M i Ns = true → k < Ns.length → ∃ N, unitAt q (i + k) (comb N M) = true := by
  intro Ns
  induction Ns with
  | nil => intro i k _ h; exact absurd h (by simp)
  | cons N Ns ih =>
    intro i k h hk
    unfold unitsOk at h
    rw [Bool.and_eq_true] at h
    match k with
    | 0 => exact ⟨N, h.1⟩
    | k + 1 =>
      obtain ⟨N', h'⟩ := ih (i + 1) k h.2 (by simpa using hk)
      exact ⟨N', by rw [show i + (k + 1) = i + 1 + k by omega]; exact h'⟩
def certOk (C : List Nat) (e : Nat × List Nat × List (List Nat)) : Bool :=
  decide (7 ≤ e.1) && decide (e.2.2.length = C.length) && (e.2.1.all fun t => decide (3 * absS (rowM t C) < pF)) && unitsOk e.1 (e.2.1.map (fun t => rowM t C)) 0 e.2.2
theorem cert_zero {C : List Nat} {e : Nat × List Nat × List (List Nat)} (h : certOk C e = true) {d : List Int} (hd : ∀ x ∈ d, -3 ≤ x ∧ x ≤ 3) (hz : ∃ k : Int, dotI d (intsC C) = pF * k) : ∀ i, i < C.length → d.getD i 0 = 0 := by
  intro i hi
  unfold certOk at h
  simp only [Bool.and_eq_true, decide_eq_true_eq, List.all_eq_true] at h
  obtain ⟨⟨⟨h1, h2⟩, h3⟩, h4⟩ := h
  have hM : ∀ r ∈ e.2.1.map (fun t => rowM t C), dotI d r = 0 := by
    intro r hr
    obtain ⟨t, ht, rfl⟩ := List.mem_map.1 hr
    obtain ⟨k, hk⟩ := rowM_mod t C d
    obtain ⟨j, hj⟩ := hz
    have hs := dot_small (rowM t C) d hd
    have hb := h3 t ht
    rw [hj] at hk
    have e1 : dotI d (rowM t C) = pF * (t * j - k) := by rw [hk, Int.mul_sub, Int.mul_left_comm]
    generalize (t : Int) * j - k = m at e1
    generalize dotI d (rowM t C) = x at e1 hs ⊢
    unfold pF at e1 hb
    omega
  obtain ⟨N, hN⟩ := unitsOk_at e.2.2 0 i h4 (by omega)
  rw [Nat.zero_add] at hN
  obtain ⟨k, hk⟩ := dot_unit e.1 i _ d hN
  rw [dot_comb d N _ hM] at hk
  have hx : -3 ≤ d.getD i 0 ∧ d.getD i 0 ≤ 3 := by
    rw [List.getD_eq_getElem?_getD]
    rcases hq : d[i]? with _ | x
    · simp
    · exact hd x (List.mem_of_getElem? hq)
  generalize d.getD i 0 = x at hk hx
  have hdv : (e.1 : Int) ∣ x := ⟨-k, by rw [Int.mul_neg]; omega⟩
  have hn : e.1 ∣ x.natAbs := by have q := Int.natAbs_dvd_natAbs.2 hdv; rwa [Int.natAbs_natCast] at q
  have := Nat.eq_zero_of_dvd_of_lt hn (by omega)
  omega
def coefP (m : Nat) : Nat → List Nat
  | 0 => List.replicate m 0
  | L + 1 => ((coefP m L).map (fun c => c * bA % pF)).set (L % m) (((coefP m L).getD (L % m) 0 * bA + 1) % pF)
theorem coefP_len (m : Nat) : ∀ L, (coefP m L).length = m := by
  intro L
  induction L with
  | zero => simp [coefP]
  | succ L ih => simp [coefP, ih]
def certsOk (m : Nat) : Nat → List (Nat × List Nat × List (List Nat)) → Bool
  | _, [] => true
  | L, e :: es => certOk (coefP m L) e && certsOk m (L + 1) es
theorem certsOk_at {m : Nat} : ∀ (es : List (Nat × List Nat × List (List Nat))) (L k : Nat), certsOk m L es = true → k < es.length → ∃ e, certOk (coefP m (L + k)) e = true := by
  intro es
  induction es with
  | nil => intro L k _ h; exact absurd h (by simp)
  | cons e es ih =>
    intro L k h hk
    unfold certsOk at h
    rw [Bool.and_eq_true] at h
    match k with
    | 0 => exact ⟨e, h.1⟩
    | k + 1 =>
      obtain ⟨e', h'⟩ := ih (L + 1) k h.2 (by simpa using hk)
      exact ⟨e', by rw [show L + (k + 1) = L + 1 + k by omega]; exact h'⟩
def perW (u : List UInt8) (L : Nat) : List UInt8 := (List.range L).map (fun i => u.getD (i % u.length) 0)
theorem perW_succ (u : List UInt8) (L : Nat) : perW u (L + 1) = perW u L ++ [u.getD (L % u.length) 0] := by simp [perW, List.range_succ]
def dotN : List UInt8 → List Nat → Nat
  | x :: xs, y :: ys => x.toNat * y + dotN xs ys
  | _, _ => 0
theorem dotN_step (b q : Nat) : ∀ (u : List UInt8) (C : List Nat) (i : Nat), i < u.length → u.length = C.length → dotN u ((C.map (fun c => c * b % q)).set i ((C.getD i 0 * b + 1) % q)) % q = (dotN u C * b + (u.getD i 0).toNat) % q := by
  have mm : ∀ x c : Nat, x * (c * b % q) % q = x * c * b % q := fun x c => by rw [Nat.mul_mod, Nat.mod_mod, ← Nat.mul_mod, Nat.mul_assoc]
  have hmap : ∀ (u : List UInt8) (C : List Nat), dotN u (C.map (fun c => c * b % q)) % q = dotN u C * b % q := by
    intro u
    induction u with
    | nil => intro C; simp [dotN]
    | cons x u ih =>
      intro C
      match C with
      | [] => simp [dotN]
      | c :: C =>
        show (x.toNat * (c * b % q) + dotN u (C.map (fun c => c * b % q))) % q = (x.toNat * c + dotN u C) * b % q
        rw [Nat.add_mod, mm, ih, ← Nat.add_mod, Nat.add_mul]
  intro u
  induction u with
  | nil => intro C i h; exact absurd h (by simp)
  | cons x u ih =>
    intro C i h hl
    match C with
    | [] => exact absurd hl (by simp)
    | c :: C =>
      match i with
      | 0 =>
        show (x.toNat * ((c * b + 1) % q) + dotN u (C.map (fun c => c * b % q))) % q = ((x.toNat * c + dotN u C) * b + x.toNat) % q
        have e : x.toNat * ((c * b + 1) % q) % q = (x.toNat * c * b + x.toNat) % q := by
          rw [Nat.mul_mod, Nat.mod_mod, ← Nat.mul_mod, Nat.mul_add, Nat.mul_one, Nat.mul_assoc]
        rw [Nat.add_mod, e, hmap, ← Nat.add_mod, Nat.add_mul]
        congr 1; omega
      | i + 1 =>
        show (x.toNat * (c * b % q) + dotN u ((C.map (fun c => c * b % q)).set i ((C.getD i 0 * b + 1) % q))) % q = ((x.toNat * c + dotN u C) * b + (u.getD i 0).toNat) % q
        rw [Nat.add_mod, mm, ih C i (by simpa using h) (by simpa using hl), ← Nat.add_mod, Nat.add_mul]
        congr 1; omega
theorem perW_print (u : List UInt8) (h0 : 0 < u.length) : ∀ L, polP bA (perW u L) = dotN u (coefP u.length L) % pF := by
  intro L
  induction L with
  | zero =>
    have : ∀ (u : List UInt8) (n : Nat), dotN u (List.replicate n 0) = 0 := by
      intro u
      induction u with
      | nil => intro n; cases n <;> rfl
      | cons x u ih => intro n; match n with | 0 => rfl | n + 1 => rw [List.replicate_succ, dotN, ih]; omega
    rw [coefP, this]; rfl
  | succ L ih =>
    have hi : L % u.length < u.length := Nat.mod_lt _ h0
    rw [perW_succ, polP_app, polP_one, ih, coefP, dotN_step bA pF u (coefP u.length L) (L % u.length) hi (coefP_len _ _).symm]
    have hb : powP bA [u.getD (L % u.length) 0].length = bA := powP_one (by decide)
    rw [hb, Nat.mod_mul_mod]
    exact Nat.mod_add_mod _ _ _
def difI (u v : List UInt8) : List Int := List.zipWith (fun x y => (x.toNat : Int) - y.toNat) u v
theorem dotI_dif : ∀ (u v : List UInt8) (C : List Nat), u.length = v.length → dotI (difI u v) (intsC C) = (dotN u C : Int) - dotN v C := by
  intro u
  induction u with
  | nil => intro v C h; match v with | [] => cases C <;> simp [difI, dotI, dotN]
  | cons x u ih =>
    intro v C h
    match v, C with
    | y :: v, [] => simp [intsC, dotN]; cases hq : difI (x :: u) (y :: v) <;> rfl
    | y :: v, c :: C =>
      show ((x.toNat : Int) - y.toNat) * (c : Int) + dotI (difI u v) (intsC C) = ((x.toNat * c + dotN u C : Nat) : Int) - ((y.toNat * c + dotN v C : Nat) : Int)
      rw [ih v C (by simpa using h), Int.sub_mul, Int.natCast_add, Int.natCast_add, Int.natCast_mul, Int.natCast_mul]; omega
theorem per_eq {u v : List UInt8} {L : Nat} (h0 : 0 < u.length) (hv : v.length = u.length) (hu3 : ∀ c ∈ u, 97 ≤ c.toNat ∧ c.toNat ≤ 100) (hv3 : ∀ c ∈ v, 97 ≤ c.toNat ∧ c.toNat ≤ 100) (hc : ∃ e, certOk (coefP u.length L) e = true) (he : polP bA (perW u L) = polP bA (perW v L)) : u = v := by
  obtain ⟨e, hc⟩ := hc
  rw [perW_print u h0, perW_print v (by omega), hv] at he
  have hz : ∃ k : Int, dotI (difI u v) (intsC (coefP u.length L)) = pF * k := by
    rw [dotI_dif u v _ hv.symm]
    have h1 := Nat.div_add_mod (dotN u (coefP u.length L)) pF
    have h2 := Nat.div_add_mod (dotN v (coefP u.length L)) pF
    rw [he] at h1
    refine ⟨((dotN u (coefP u.length L) / pF : Nat) : Int) - ((dotN v (coefP u.length L) / pF : Nat) : Int), ?_⟩
    rw [Int.mul_sub, ← Int.natCast_mul, ← Int.natCast_mul]; omega
  have hd : ∀ x ∈ difI u v, -3 ≤ x ∧ x ≤ 3 := by
    intro x hx
    obtain ⟨i, hi⟩ := List.getElem?_of_mem hx
    unfold difI at hi
    rw [List.getElem?_zipWith] at hi
    rcases ha : u[i]? with _ | a
    · rw [ha] at hi; simp at hi
    · rcases hb : v[i]? with _ | b
      · rw [ha, hb] at hi; simp at hi
      · rw [ha, hb] at hi
        simp at hi
        have a1 := hu3 a (List.mem_of_getElem? ha)
        have b1 := hv3 b (List.mem_of_getElem? hb)
        omega
  have hall := cert_zero hc hd hz
  rw [coefP_len] at hall
  apply List.ext_getElem hv.symm
  intro i h1 h2
  have := hall i h1
  unfold difI at this
  rw [List.getD_eq_getElem?_getD, List.getElem?_zipWith, List.getElem?_eq_getElem h1, List.getElem?_eq_getElem h2] at this
  simp at this
  exact UInt8.toNat_inj.1 (by omega)
end Go.Proofs.YtfhiaifdigefdaaDoor
