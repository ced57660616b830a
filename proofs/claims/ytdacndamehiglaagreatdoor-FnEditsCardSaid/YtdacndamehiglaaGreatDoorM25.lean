import Derived.Test.YtdacndamehiglaaGreatDoorM24
import Derived.ChangeKeysEq
set_option maxRecDepth 100000
set_option maxHeartbeats 8000000
namespace Go.Proofs.YtdacndamehiglaaGreatDoor
open Go.RowKit
theorem ziZ (v : Value) (xs : List zaa) (w : World) (h : Sl zas w w.heap.size v xs) (hg : zaf xs = true) :
  Calls Tryz.prog 120 #[.agg #[v]] w (zmG xs v w) := by
 have HG := yq h; have h4 := (zag hg).1; obtain ⟨AR, cR, rfl, hcR, hmR, _⟩ := h; have ba := (Below.refl w.heap.size w).alloc yL (Obj.cells #[.slice AR xs.length cR] 26); have HBA := yq ba; have HKA := yq (Blk.new w #[.slice AR xs.length cR] 26); clear ba hcR hmR; go_enter Tryz.func120, Tryz.ntmps120
 go_wp2_with fail
 refine (zcp _ xs _ (HG.o.up HBA.o) yO).mono ?_
 rintro e w1 ⟨hb1, hpost⟩; rcases hpost with ⟨ls, vL, hl, rfl, own⟩ | ⟨hl, rfl⟩
 · have h400 : decide (xs.length <= 400) = true := by simpa using h4
   rw [h400]; have HLS := yq (zaF hl); have HL := yq hl; obtain ⟨AL, cL, rfl, _⟩ := zae own; have HB1 := yq (Below.tr HBA.o hb1); have HK1 := yq (HKA.o.up hb1); have HO1 := yq (show zal w1 w.heap.size (.slice AL ls.length cL) ls from zac own yS); have xG := Blk.cell (i := 0) (v := .slice AR xs.length cR) HK1.o rfl; have lG := HK1.o.lt; have b2 := (Below.refl _ w1).alloc yL (Obj.cells #[.slice AR xs.length cR, .slice AL ls.length cL, .slice none 0 0, .slice none 0 0] 189)
   have HST := yq (show znX w (w1.alloc (Obj.cells #[.slice AR xs.length cR, .slice AL ls.length cL, .slice none 0 0, .slice none 0 0] 189)) w1.heap.size (.slice AR xs.length cR) (.slice AL ls.length cL) xs ls 0 none 0 none 0 from
    ⟨Below.tr HB1.o b2, Blk.new _ _ _, zaI HO1.o b2, fun g hg => (World.ownsRow.lt HO1.o g hg).2, World.ownsRow_nil _ _ _ _, World.ownsRow_nil _ _ _ _, fun g hg => by simp [Value.ownBlock] at hg⟩)
   have HK2 := yq (HK1.o.up b2); have hzP := HB1.o.size; clear own hb1 hl h400 b2 xG lG; have xG := Blk.cell (i := 0) (v := .slice AR xs.length cR) HK1.o rfl; have lG := HK1.o.lt; go_upto_region 5 with fail
   revert HST HK2; generalize (w1.alloc (Obj.cells #[.slice AR xs.length cR, .slice AL ls.length cL, .slice none 0 0, .slice none 0 0] 189)) = w2; intro HST HK2; obtain ⟨P, hP⟩ : ∃ P, w1.heap.size = P := ⟨_, rfl⟩
   rw [hP] at HST hzP; rw [hP]; clear xG lG; have xG := Blk.cell (i := 0) (v := .slice AR xs.length cR) HK2.o rfl; have lG := HK2.o.lt; go_wp2_with fail
   go_loopw [26] (fun i wx => ∃ (k : Nat) (AM : Option Addr) (cM : Nat) (AS : Option Addr) (cS : Nat), k <= xs.length /\ i = .int .i64 k /\ yh (znX w wx P (.slice AR xs.length cR) (.slice AL ls.length cL) xs ls k AM cM AS cS)) (fun i _ => xs.length - (intOf i).toNat)
   case atStart => exact ⟨0, none, 0, none, 0, Nat.zero_le _, rfl, HST⟩
   case round =>
    obtain ⟨k, AM, cM, AS, cS, hk, rfl, St⟩ := hrel; by_cases hlt : k < xs.length
    · have hki : (k : Int) < (xs.length : Int) := by omega
      obtain ⟨_, _, ev, _, _, hrow⟩ := HG.o.up St.o.bel; injection ev with e1 e2 e3; subst e1 e3; obtain ⟨b, o, rfl, hbl, hcell⟩ := hrow.rule (k := k) hlt; obtain ⟨k0, k1, k2⟩ := hcell k _ (zcf hlt); have HPA := yq (fun (hp : (zav xs k).pair = true) => zbg HL.o hlt hp); have HMP := yq (fun (hp : (zav xs k).pair = true) => zou HL.o hlt hp); have HSP := yq (fun (hp : (zav xs k).pair = true) => zov HL.o hlt hp); have HLT := yq (fun (hp : (zav xs k).pair = false) => zcP HL.o hlt hp); have HML := yq (fun (c : UInt8) (hp : (zav xs k).pair = false) (hc : (zav xs k).letter = ⟨#[c]⟩) => zo6 hp hc); generalize hR : zav xs k = R at *; obtain ⟨rs, rl, rr⟩ := R; have b4 := (Below.refl _ wr).alloc yL (Obj.cells #[.string rs, .int .i64 rl, .int .i64 rr] 112); have HKR := yq (Blk.new wr #[.string rs, .int .i64 rl, .int .i64 rr] 112); have St4 := yq (St.o.up b4); clear b4 hcell hrow hR; go_upto_region 8 with fail
      revert HKR St4; generalize (wr.alloc (Obj.cells #[.string rs, .int .i64 rl, .int .i64 rr] 112)) = w4; intro HKR St4; obtain ⟨Rb, hRb⟩ : ∃ Rb, wr.heap.size = Rb := ⟨_, rfl⟩
      have hPR : P < Rb := by rw [<- hRb]; exact St.o.box.lt
      rw [hRb] at HKR; rw [hRb]; clear k0 k1 k2 St; go_wp2_with fail
      refine (zmF _).mono ?_
      rintro e w5 ⟨hb5, rfl⟩; have b6 := ((Below.refl _ w5).alloc yL (Obj.cells #[.int .u64 0, .int .u64 0] 191)).alloc yS (Obj.cells #[.int .u64 1234567890123456789, .int .u64 987654321987654321] 191); have b46 := Below.tr hb5 b6; have St5 := yq (St4.o.up hb5); have HB56 := yq b6; have HKR6 := yq (HKR.o.up b46); have St6 := yq (St4.o.up b46); have HKM6 := yq ((Blk.new w5 #[.int .u64 0, .int .u64 0] 191).alloc (Obj.cells #[.int .u64 1234567890123456789, .int .u64 987654321987654321] 191)); have HKS6 := yq (show Blk ((w5.alloc (Obj.cells #[.int .u64 0, .int .u64 0] 191)).alloc (Obj.cells #[.int .u64 1234567890123456789, .int .u64 987654321987654321] 191)) (w5.heap.size + 1) #[.int .u64 1234567890123456789, .int .u64 987654321987654321] 191 by have := Blk.new (w5.alloc (Obj.cells #[.int .u64 0, .int .u64 0] 191)) #[.int .u64 1234567890123456789, .int .u64 987654321987654321] 191; simpa using this); have HKR5 := yq (HKR.o.up hb5); have hRM : Rb < w5.heap.size := Nat.lt_of_lt_of_le HKR.o.lt hb5.size; clear hb5 b6 b46 HKR St4; go_upto_region 9 with fail
      revert HB56 HKR6 St6 HKM6 HKS6; generalize ((w5.alloc (Obj.cells #[.int .u64 0, .int .u64 0] 191)).alloc (Obj.cells #[.int .u64 1234567890123456789, .int .u64 987654321987654321] 191)) = w6; intro HB56 HKR6 St6 HKM6 HKS6; obtain ⟨M0, hM0⟩ : ∃ M0, w5.heap.size = M0 := ⟨_, rfl⟩
      have HM0 := yq hM0; rw [hM0] at HKM6 HKS6 hRM HB56; rw [hM0]; have r0 := Blk.cell (i := 0) (v := .string rs) HKR6.o rfl; have r1 := Blk.cell (i := 1) (v := .int .i64 rl) HKR6.o rfl; have r2 := Blk.cell (i := 2) (v := .int .i64 rr) HKR6.o rfl; have rL := HKR6.o.lt; go_wp2_with fail
      refine (zbw rs rl rr _).mono ?_
      rintro e w7 ⟨rfl, hw7⟩; have b7 : Below w6.heap.size w6 w7 := by rw [<- hw7]; exact (Below.refl _ _).alloc yL _
      have HB57 := yq (show Below M0 w5 w7 from HB56.o.trans (b7.mono (by have := HB56.o.size; have := HM0.o; omega))); have HKR7 := yq (HKR6.o.up b7); have St7 := yq (St6.o.up b7); have HKM7 := yq (HKM6.o.up b7); have HKS7 := yq (HKS6.o.up b7); clear r0 r1 r2 rL hw7 b7 HKR6 St6 HKM6 HKS6; obtain ⟨bP, hbP⟩ : ∃ b, rs.toList.isEmpty = b := ⟨_, rfl⟩
      rw [hbP]; have HBP := yq hbP; clear hbP; go_upto_if 33 with fail
      go_cut [11] from 34 to 84 (fun _ wx => znX w wx P (.slice (some ⟨b, o, none⟩) xs.length cR) (.slice AL ls.length cL) xs ls k AM cM AS cS /\ prB wx M0 (zdU xs k) /\ prB wx (M0 + 1) (zdS xs k))
      case first =>
       cases bP with
       | false =>
         have hpf : (⟨rs, rl, rr⟩ : zaa).pair = false := by rw [zhq]; exact HBP.o
         obtain ⟨c, hc⟩ : ∃ c, rs = ⟨#[c]⟩ := znL (HLT.o hpf); obtain ⟨m1, m2⟩ := HML.o c hpf hc; subst hc; have HM := yq m1; have HS := yq m2; have r0 := Blk.cell (i := 0) (v := .string ⟨#[c]⟩) HKR7.o rfl; have rL := HKR7.o.lt; have f0 := Blk.frozen HKM7.o 0; have f1 := Blk.frozen HKM7.o 1; have g0 := Blk.cell (i := 0) HKM7.o rfl; have g1 := Blk.cell (i := 1) HKM7.o rfl; have gL := HKM7.o.lt
         have hcw : IntKind.u64.wrap (((⟨#[c]⟩ : ByteArray)[0]'(by show 0 < 1; omega)).toNat : Int) = (c.toNat : Int) := by
          have h256 : c.toNat < 256 := c.toNat_lt; exact IntWalk.u64_in _ (by show 0 <= (c.toNat : Int) /\ (c.toNat : Int) <= _; omega)
         clear m1 m2 hpf; go_wp2_with fail
         go_meet
         try rw [hcw]
         have bb : Below M0 w7 ((w7.setCell ⟨M0, 0, none⟩ (.int .u64 (c.toNat : Int))).setCell ⟨M0, 1, none⟩ (.int .u64 (c.toNat : Int))) := ((Below.refl M0 w7).setCell (p := ⟨M0, 0, none⟩) yL _).setCell (p := ⟨M0, 1, none⟩) yL _; refine ⟨St5.o.up (by rw [HM0.o]; exact HB57.o.trans bb), ?_, ?_⟩
         · rw [HM.o]; exact (HKM7.o.set 0 _).set 1 _
         · rw [HS.o]; exact Blk.other (Blk.other HKS7.o (p := ⟨M0, 0, none⟩) (by show M0 + 1 ≠ M0; omega) _) (p := ⟨M0, 1, none⟩) (by show M0 + 1 ≠ M0; omega) _
       | true =>
         have hpt : (⟨rs, rl, rr⟩ : zaa).pair = true := by rw [zhq]; exact HBP.o
         obtain ⟨l0, l1, r0', r1', _⟩ := HPA.o hpt; obtain ⟨l, rfl⟩ : ∃ l : Nat, rl = (l : Int) := ⟨rl.toNat, (Int.toNat_of_nonneg l0).symm⟩
         obtain ⟨r, rfl⟩ : ∃ r : Nat, rr = (r : Int) := ⟨rr.toNat, (Int.toNat_of_nonneg r0').symm⟩
         have hlk : l < k := l1; have hrk : r < k := r1'; have hlI : (l : Int) < (k : Int) := by omega
         have hrI : (r : Int) < (k : Int) := by omega
         obtain ⟨g, rfl, a0, a1, a2, a3⟩ := zdy.two St5.o.mrk (zmC hlk) (zmC hrk); obtain ⟨g', rfl, b0, b1, b2, b3⟩ := zdy.two St5.o.stp (zmD hlk) (zmD hrk); have hM : zdU xs k = (((zdU xs l).1 * (zdS xs r).1 % pF + (zdU xs r).1) % pF, ((zdU xs l).2 * (zdS xs r).2 % pF + (zdU xs r).2) % pF) := HMP.o hpt; have hS : zdS xs k = ((zdS xs l).1 * (zdS xs r).1 % pF, (zdS xs l).2 * (zdS xs r).2 % pF) := HSP.o hpt; obtain ⟨q1, q2⟩ := zmE xs l; obtain ⟨q3, q4⟩ := zmE xs r; obtain ⟨q5, q6⟩ := zow xs l; obtain ⟨q7, q8⟩ := zow xs r; generalize zdU xs l = ml at a0 a1 hM q1 q2; generalize zdU xs r = mr at a2 a3 hM q3 q4; generalize zdS xs l = sl at b0 b1 hS q5 q6; generalize zdS xs r = sr at b2 b3 hM hS q7 q8; obtain ⟨m1, m2⟩ := ml; obtain ⟨n1, n2⟩ := mr; obtain ⟨t1, t2⟩ := sl; obtain ⟨s1, s2⟩ := sr; have CT1 := fun W => zgL m1 m2 s1 s2 W q1 q2 q7 q8; have CT2 := fun W => zgL t1 t2 s1 s2 W q5 q6 q7 q8; have CP1 := fun W => zkp (m1 * s1 % pF) (m2 * s2 % pF) n1 n2 W (Nat.mod_lt _ (by decide)) (Nat.mod_lt _ (by decide)) q3 q4; have hM2 : zdU xs k = ((m1 * s1 % pF + n1) % pF, (m2 * s2 % pF + n2) % pF) := hM; have hS2 : zdS xs k = (t1 * s1 % pF, t2 * s2 % pF) := hS; obtain ⟨x1, hx1⟩ : ∃ x, m1 * s1 % pF = x := ⟨_, rfl⟩
         obtain ⟨x2, hx2⟩ : ∃ x, m2 * s2 % pF = x := ⟨_, rfl⟩
         obtain ⟨y1, hy1⟩ : ∃ x, t1 * s1 % pF = x := ⟨_, rfl⟩
         obtain ⟨y2, hy2⟩ : ∃ x, t2 * s2 % pF = x := ⟨_, rfl⟩
         simp only [hx1, hx2, hy1, hy2] at CT1 CT2 CP1 hM2 hS2
         obtain ⟨z1, hz1⟩ : ∃ x, (x1 + n1) % pF = x := ⟨_, rfl⟩
         obtain ⟨z2, hz2⟩ : ∃ x, (x2 + n2) % pF = x := ⟨_, rfl⟩
         simp only [hz1, hz2] at CP1 hM2
         have HM := yq hM2; have HS := yq hS2; have CT1 := yq CT1; have CT2 := yq CT2; have CP1 := yq CP1; have k1 := St5.o.box.ci (i := 2) (v := .slice (some ⟨g, 0, none⟩) k cM) rfl; have k2 := St5.o.box.ci (i := 3) (v := .slice (some ⟨g', 0, none⟩) k cS) rfl; have k3 := HKR5.o.ci (i := 1) (v := .int .i64 (l : Int)) rfl; have k4 := HKR5.o.ci (i := 2) (v := .int .i64 (r : Int)) rfl; have HLE : w5.heap.size <= M0 := Nat.le_of_eq HM0.o; have B7 : Below w5.heap.size w5 w7 := by rw [HM0.o]; exact HB57.o
         have HB7 := yq B7; clear hM hS hM2 hS2 hx1 hx2 hy1 hy2 hz1 hz2 q1 q2 q3 q4 q5 q6 q7 q8 l0 l1 r0' r1' hpt B7; go_upto_region 10 with fail
         go_cut [] from 34 to 60 (fun wx => Below w5.heap.size w5 wx /\ prB wx M0 (zdU xs k) /\ Blk wx (M0 + 1) #[.int .u64 1234567890123456789, .int .u64 987654321987654321] 191)
         case first =>
          have KD := zh1 k1 k2 k3 k4 a0 a1 a2 a3 b2 b3 (Below.drew HB7.o)
          go_region_held3 (fun w' => Below w5.heap.size w5 w' /\ w'.cell? ⟨P, 2, none⟩ = some (.slice (some ⟨g, 0, none⟩) k cM) /\ w'.cell? ⟨P, 3, none⟩ = some (.slice (some ⟨g', 0, none⟩) k cS) /\ w'.cell? ⟨Rb, 1, none⟩ = some (.int .i64 (l : Int)) /\ w'.cell? ⟨Rb, 2, none⟩ = some (.int .i64 (r : Int)) /\ w'.cell? ⟨g, l * 2, none⟩ = some (.int .u64 (m1 : Int)) /\ w'.cell? ⟨g, l * 2 + 1, none⟩ = some (.int .u64 (m2 : Int)) /\ w'.cell? ⟨g, r * 2, none⟩ = some (.int .u64 (n1 : Int)) /\ w'.cell? ⟨g, r * 2 + 1, none⟩ = some (.int .u64 (n2 : Int)) /\ w'.cell? ⟨g', r * 2, none⟩ = some (.int .u64 (s1 : Int)) /\ w'.cell? ⟨g', r * 2 + 1, none⟩ = some (.int .u64 (s2 : Int)))
           (first | (with_reducible exact KD) | (with_reducible exact zh1 k1 k2 k3 k4 a0 a1 a2 a3 b2 b3 B8) | (with_reducible exact zh1 k1 k2 k3 k4 a0 a1 a2 a3 b2 b3 B9) | (with_reducible exact zh1 k1 k2 k3 k4 a0 a1 a2 a3 b2 b3 ((B9.setCell (p := ⟨M0, 0, none⟩) HLE _).setCell (p := ⟨M0, 1, none⟩) HLE _)))
           (first
             | (go_at_call 155; (refine (CT1.o _).mono ?_); rintro e8 w8 ⟨hb8, rfl⟩; have B8 : Below w5.heap.size w5 w8 := Below.tr HB7.o (by first | exact hb8 | exact Below.undrew hb8); have K8 := yq (HKM7.o.up (by first | exact hb8 | exact Below.undrew hb8)); have S8 := yq (HKS7.o.up (by first | exact hb8 | exact Below.undrew hb8)))
             | (go_at_call 156; (refine (CP1.o _).mono ?_); rintro e9 w9 ⟨hb9, rfl⟩; have B9 : Below w5.heap.size w5 w9 := Below.tr B8 (by first | exact hb9 | exact Below.undrew hb9); have K9 := yq (K8.o.up (by first | exact hb9 | exact Below.undrew hb9)); have S9 := yq (S8.o.up (by first | exact hb9 | exact Below.undrew hb9)); have g0 := Blk.cell (i := 0) K9.o rfl; have g1 := Blk.cell (i := 1) K9.o rfl; have f0 := Blk.frozen K9.o 0; have f1 := Blk.frozen K9.o 1; have gL := K9.o.lt))
          all_goals
           go_wp2_with fail
           go_meet
           refine ⟨(B9.setCell (p := ⟨M0, 0, none⟩) HLE _).setCell (p := ⟨M0, 1, none⟩) HLE _, ?_, ?_⟩
           · rw [HM.o]; exact (K9.o.set 0 _).set 1 _
           · exact Blk.other (Blk.other S9.o (p := ⟨M0, 0, none⟩) (by show M0 + 1 ≠ M0; omega) _) (p := ⟨M0, 1, none⟩) (by show M0 + 1 ≠ M0; omega) _
         case rest =>
          obtain ⟨bc, hMc, hSc⟩ := hcut; have HBc := yq bc; have HMc := yq hMc; have HSc := yq hSc; clear bc hMc hSc; go_upto_region 11 with fail
          have KD := zmH k2 k3 k4 b0 b1 b2 b3 (Below.drew HBc.o)
          go_region_held3 (fun w' => Below w5.heap.size w5 w' /\ w'.cell? ⟨P, 3, none⟩ = some (.slice (some ⟨g', 0, none⟩) k cS) /\ w'.cell? ⟨Rb, 1, none⟩ = some (.int .i64 (l : Int)) /\ w'.cell? ⟨Rb, 2, none⟩ = some (.int .i64 (r : Int)) /\ w'.cell? ⟨g', l * 2, none⟩ = some (.int .u64 (t1 : Int)) /\ w'.cell? ⟨g', l * 2 + 1, none⟩ = some (.int .u64 (t2 : Int)) /\ w'.cell? ⟨g', r * 2, none⟩ = some (.int .u64 (s1 : Int)) /\ w'.cell? ⟨g', r * 2 + 1, none⟩ = some (.int .u64 (s2 : Int)))
           (first | (with_reducible exact KD) | (with_reducible exact zmH k2 k3 k4 b0 b1 b2 b3 B8) | (with_reducible exact zmH k2 k3 k4 b0 b1 b2 b3 ((B8.setCell (p := ⟨M0 + 1, 0, none⟩) (Nat.le_succ_of_le HLE) _).setCell (p := ⟨M0 + 1, 1, none⟩) (Nat.le_succ_of_le HLE) _)))
           (first
             | (go_at_call 155; (refine (CT2.o _).mono ?_); rintro e8 w8 ⟨hb8, rfl⟩; have B8 : Below w5.heap.size w5 w8 := Below.tr HBc.o (by first | exact hb8 | exact Below.undrew hb8); have K8 := yq (Blk.up HMc.o (by first | exact hb8 | exact Below.undrew hb8)); have S8 := yq (HSc.o.up (by first | exact hb8 | exact Below.undrew hb8)); have g0 := Blk.cell (i := 0) S8.o rfl; have g1 := Blk.cell (i := 1) S8.o rfl; have f0 := Blk.frozen S8.o 0; have f1 := Blk.frozen S8.o 1; have gL := S8.o.lt))
          all_goals
           go_wp2_with fail
           go_meet
           have B9 := (B8.setCell (p := ⟨M0 + 1, 0, none⟩) (Nat.le_succ_of_le HLE) (.int .u64 (y1 : Int))).setCell (p := ⟨M0 + 1, 1, none⟩) (Nat.le_succ_of_le HLE) (.int .u64 (y2 : Int)); refine ⟨St5.o.up B9, ?_, ?_⟩
           · exact Blk.other (Blk.other K8.o (p := ⟨M0 + 1, 0, none⟩) (by show M0 ≠ M0 + 1; omega) _) (p := ⟨M0 + 1, 1, none⟩) (by show M0 ≠ M0 + 1; omega) _
           · rw [HS.o]; exact (S8.o.set 0 _).set 1 _
      case rest =>
       obtain ⟨Stc, pmc, psc⟩ := hcut; have hg5 : ∀ g, (Value.slice AM k cM).ownBlock = some g -> g < M0 := fun g e => by have := (World.ownsRow.lt St5.o.mrk g e).2; have := HM0.o; omega
       have hg6 : ∀ g, (Value.slice AS k cS).ownBlock = some g -> g < M0 := fun g e => by have := (World.ownsRow.lt St5.o.stp g e).2; have := HM0.o; omega
       have hPc : w.heap.size <= P := hzP
       have Z0 := yq (show Psh w wc P M0 #[.slice (some ⟨b, o, none⟩) xs.length cR, .slice AL ls.length cL, .slice AM k cM, .slice AS k cS] (.slice AL ls.length cL) ls (zdU xs k) (zdS xs k) (.slice AM k cM) (.slice AS k cS) (zi1 xs k) (zi2 xs k) from
        ⟨Stc.bel, hPc, Stc.box, Stc.len, Stc.low, pmc, psc, Stc.mrk, Stc.stp, Stc.ne, fun g e => by have := hg5 g e; omega, fun g e => by have := hg6 g e; omega⟩)
       have hMc : M0 < wc.heap.size := pmc.lt; have HG5 := yq (show ∀ g, (Value.slice AM k cM).ownBlock = some g -> g < wc.heap.size from fun g e => Nat.lt_trans (hg5 g e) hMc); have HML2 := yq (zmA xs k); have HSL2 := yq (zmB xs k); have HKB : k <= 1048576 := by omega
       have HMB := yq (show (zi1 xs k).length <= 1048576 by rw [zmA]; exact HKB); have HSB := yq (show (zi2 xs k).length <= 1048576 by rw [zmB]; exact HKB); have hPlt : P < wc.heap.size := Stc.box.lt; have HPL := yq hPlt; have HMM := yq (show zdU xs k = ((zdU xs k).1, (zdU xs k).2) from rfl); have HDN := yq (fun (W : World) (AM' AS' : Option Addr) (d d' : Nat) (h : Psh w W P M0 #[.slice (some ⟨b, o, none⟩) xs.length cR, .slice AL ls.length cL, .slice AM k cM, .slice AS k cS] (.slice AL ls.length cL) ls (zdU xs k) (zdS xs k) (.slice AM' (k + 1) d) (.slice AS' (k + 1) d') (zi1 xs k ++ [zdU xs k]) (zi2 xs k ++ [zdS xs k])) => h.done rfl); generalize hmk : zdU xs k = mk at *; generalize hst : zdS xs k = st at *; obtain ⟨m1, m2⟩ := mk; obtain ⟨s1, s2⟩ := st; clear hmk hst Stc pmc psc hg5 hg6 hM0 hRb hMc HMM hPlt; have KD := yq Z0.o.drew.cells
       have HPM : P < M0 := by
        have h1 := HPL.o; omega
       go_upto_region 14 with fail
       refine zgN (fun w' => w'.cell? ⟨P, 2, none⟩ = some (.slice AM k cM) /\ w'.cell? ⟨P, 3, none⟩ = some (.slice AS k cS) /\ w'.cell? ⟨M0, 0, none⟩ = some (.int .u64 (m1 : Int)) /\ w'.cell? ⟨M0, 1, none⟩ = some (.int .u64 (m2 : Int)) /\ w'.cell? ⟨M0 + 1, 0, none⟩ = some (.int .u64 (s1 : Int)) /\ w'.cell? ⟨M0 + 1, 1, none⟩ = some (.int .u64 (s2 : Int)))
        16 1 _ ?_ yk yk rfl (fun _ _ _ h => h) yR ?_ KD.o (fun hHeld => ?_)
       rotate_left 1
       · intro w8
         go_simp
         try with_reducible rfl
       simp only [Act.put]
       refine zaJ ((Array.replicate 22 false).setIfInBounds 1 true) 0 _ ?_ yk rfl yk (fun _ _ _ h => h) yR ?_ hHeld ?_
       rotate_left 1
       · intro w8 hSw
         obtain ⟨s1, s2, s3, s4, s5, s6⟩ := hSw; go_simp
         try with_reducible rfl
       simp only [Act.put]
       refine zaJ ((Array.replicate 22 false).setIfInBounds 1 true) 2 _ ?_ yk rfl yk (fun _ _ _ h => h) yR ?_ hHeld ?_
       rotate_left 1
       · intro w8 hSw
         obtain ⟨s1, s2, s3, s4, s5, s6⟩ := hSw; go_simp
         try with_reducible rfl
       simp only [Act.put]
       refine zaJ ((Array.replicate 22 false).setIfInBounds 1 true) 3 _ ?_ yk rfl yk (fun _ _ _ h => h) yR ?_ hHeld ?_
       rotate_left 1
       · intro w8 hSw
         obtain ⟨s1, s2, s3, s4, s5, s6⟩ := hSw; go_simp
         try with_reducible rfl
       simp only [Act.put]
       refine zaJ ((Array.replicate 22 false).setIfInBounds 1 true) 4 _ ?_ yk rfl yk (fun _ _ _ h => h) yR ?_ hHeld ?_
       rotate_left 1
       · intro w8 hSw
         obtain ⟨s1, s2, s3, s4, s5, s6⟩ := hSw; go_simp
         try with_reducible rfl
       simp only [Act.put]
       refine zaJ ((Array.replicate 22 false).setIfInBounds 1 true) 5 _ ?_ yk rfl yk (fun _ _ _ h => h) yR ?_ hHeld ?_
       rotate_left 1
       · intro w8 hSw
         obtain ⟨s1, s2, s3, s4, s5, s6⟩ := hSw; go_simp
         try with_reducible rfl
       simp only [Act.put]
       refine zaJ ((Array.replicate 22 false).setIfInBounds 1 true) 6 _ ?_ yk rfl yk (fun _ _ _ h => h) yR ?_ hHeld ?_
       rotate_left 1
       · intro w8 hSw
         obtain ⟨s1, s2, s3, s4, s5, s6⟩ := hSw; go_simp
         try with_reducible rfl
       simp only [Act.put]
       refine zaJ ((Array.replicate 22 false).setIfInBounds 1 true) 9 _ ?_ yk rfl yk (fun _ _ _ h => h) yR ?_ hHeld ?_
       rotate_left 1
       · intro w8 hSw
         obtain ⟨s1, s2, s3, s4, s5, s6⟩ := hSw; go_simp
         try with_reducible rfl
       simp only [Act.put]
       refine zaJ ((Array.replicate 22 false).setIfInBounds 1 true) 10 _ ?_ yk rfl yk (fun _ _ _ h => h) yR ?_ hHeld ?_
       rotate_left 1
       · intro w8 hSw
         obtain ⟨s1, s2, s3, s4, s5, s6⟩ := hSw; go_simp
         try with_reducible rfl
       simp only [Act.put]
       refine zaJ ((Array.replicate 22 false).setIfInBounds 1 true) 11 _ ?_ yk rfl yk (fun _ _ _ h => h) yR ?_ hHeld ?_
       rotate_left 1
       · intro w8 hSw
         obtain ⟨s1, s2, s3, s4, s5, s6⟩ := hSw; go_simp
         try with_reducible rfl
       simp only [Act.put]
       refine zaJ ((Array.replicate 22 false).setIfInBounds 1 true) 12 _ ?_ yk rfl yk (fun _ _ _ h => h) yR ?_ hHeld ?_
       rotate_left 1
       · intro w8 hSw
         obtain ⟨s1, s2, s3, s4, s5, s6⟩ := hSw; go_simp
         try with_reducible rfl
       simp only [Act.put]
       refine zaJ ((Array.replicate 22 false).setIfInBounds 1 true) 13 _ ?_ yk rfl yk (fun _ _ _ h => h) yR ?_ hHeld ?_
       rotate_left 1
       · intro w8 hSw
         obtain ⟨s1, s2, s3, s4, s5, s6⟩ := hSw; go_simp
         try with_reducible rfl
       simp only [Act.put]
       refine zbL [7, 14] yk ?_
       refine zaE.cons (o := _) rfl (fun K hK => ?_) (zaE.cons (o := _) rfl (fun K hK => ?_) zaE.nil)
       · -- 7
         go_simp
         have YA := yq ((Psh.alloc Z0.o (Obj.cells #[.int .u64 (m1 : Int), .int .u64 (m2 : Int)] 191)).drew); refine hK.out _ _ (Psh.cells YA.o) (fun hHeld => ?_)
         clear hK K; refine zbL [8, 14] yk ?_
         refine zaE.cons (o := _) rfl (fun K hK => ?_) (zaE.cons (o := _) rfl (fun K hK => ?_) zaE.nil)
         · -- 8
           refine zcc (base := P + 1) (A := AM) (n := k) (c := cM) (l := zi1 xs k) (p := (m1, m2)) yR _ _ yR yR yR (zjP rfl) HML2.o.symm YA.o.mrk HMB.o (by have h1 := HPL.o; simp; omega) ?_
           intro A9 c9 w9 own9 ho9 hg9 hb9; have Z1 := Psh.push1 YA.o own9 ho9 hg9 hb9; refine hK.out _ _ (Psh.cells Z1) (fun hHeld => ?_)
           have kp := zh2 hg9 HG5.o; have HZ1 := yq Z1; clear hK K Z1; refine zbL [14] yk ?_
           refine zaE.cons (o := _) rfl (fun K hK => ?_) zaE.nil
           go_simp
           have YB := yq (Psh.alloc HZ1.o (Obj.cells #[.int .u64 (s1 : Int), .int .u64 (s2 : Int)] 191)); refine hK.out _ _ (Psh.cells YB.o) (fun hHeld => ?_)
           clear hK K; refine zbL [15] yk ?_
           refine zaE.cons (o := _) rfl (fun K hK => ?_) zaE.nil
           refine zcc (base := P + 1) (A := AS) (n := k) (c := cS) (l := zi2 xs k) (p := (s1, s2)) yR _ _ yR yR yR (zmI rfl) HSL2.o.symm YB.o.stp HSB.o (by have h1 := HZ1.o.box.lt; simp; omega) ?_
           intro A10 c10 w10 own10 ho10 hg10 hb10; have Z2 := Psh.push2 YB.o own10 ho10 hg10 hb10; refine hK.out _ _ (Psh.cells Z2) (fun _ => ?_)
           clear hK K hHeld; have HZ2 := yq Z2; have K2 := yq Z2.box; clear Z2 own10 ho10 hg10 hb10 own9 ho9 hg9 hb9 kp; have g2 := Blk.cell (i := 2) K2.o rfl; have g3 := Blk.cell (i := 3) K2.o rfl; have f2 := Blk.frozen K2.o 2; have f3 := Blk.frozen K2.o 3; have gL := K2.o.lt; refine zff yk ?_
           simp only [List.drop_succ_cons, List.drop_zero]
           go_wp2_with fail
           exact ⟨⟨k + 1, _, _, _, _, by omega, by simp, HDN.o _ _ _ _ _ HZ2.o⟩, by first | (simp [intOf]; done) | (simp [intOf]; omega)⟩
         · -- 14
           go_simp
           have YB := yq (Psh.alloc YA.o (Obj.cells #[.int .u64 (s1 : Int), .int .u64 (s2 : Int)] 191)); refine hK.out _ _ (Psh.cells YB.o) (fun hHeld => ?_)
           clear hK K; refine zbL [8] yk ?_
           refine zaE.cons (o := _) rfl (fun K hK => ?_) zaE.nil
           refine zcc (base := P + 1) (A := AM) (n := k) (c := cM) (l := zi1 xs k) (p := (m1, m2)) yR _ _ yR yR yR (zo7 (zjP rfl)) HML2.o.symm YB.o.mrk HMB.o (by have h1 := HPL.o; simp; omega) ?_
           intro A9 c9 w9 own9 ho9 hg9 hb9; have Z1 := Psh.push1 YB.o own9 ho9 hg9 hb9; refine hK.out _ _ (Psh.cells Z1) (fun hHeld => ?_)
           have kp := zh2 hg9 HG5.o; have HZ1 := yq Z1; clear hK K Z1; refine zbL [15] yk ?_
           refine zaE.cons (o := _) rfl (fun K hK => ?_) zaE.nil
           refine zcc (base := P + 1) (A := AS) (n := k) (c := cS) (l := zi2 xs k) (p := (s1, s2)) yR _ _ yR yR yR (kp (wc.heap.size + 1) _ yO (zmI yS)) HSL2.o.symm HZ1.o.stp HSB.o (by have h1 := HZ1.o.box.lt; omega) ?_
           intro A10 c10 w10 own10 ho10 hg10 hb10; have Z2 := Psh.push2 HZ1.o own10 ho10 hg10 hb10; refine hK.out _ _ (Psh.cells Z2) (fun _ => ?_)
           clear hK K hHeld; have HZ2 := yq Z2; have K2 := yq Z2.box; clear Z2 own10 ho10 hg10 hb10 own9 ho9 hg9 hb9 kp; have g2 := Blk.cell (i := 2) K2.o rfl; have g3 := Blk.cell (i := 3) K2.o rfl; have f2 := Blk.frozen K2.o 2; have f3 := Blk.frozen K2.o 3; have gL := K2.o.lt; refine zff yk ?_
           simp only [List.drop_succ_cons, List.drop_zero]
           go_wp2_with fail
           exact ⟨⟨k + 1, _, _, _, _, by omega, by simp, HDN.o _ _ _ _ _ HZ2.o⟩, by first | (simp [intOf]; done) | (simp [intOf]; omega)⟩
       · -- 14
         go_simp
         have YA := yq ((Psh.alloc Z0.o (Obj.cells #[.int .u64 (s1 : Int), .int .u64 (s2 : Int)] 191)).drew); refine hK.out _ _ (Psh.cells YA.o) (fun hHeld => ?_)
         clear hK K; refine zbL [7] yk ?_
         refine zaE.cons (o := _) rfl (fun K hK => ?_) zaE.nil
         go_simp
         have YB := yq (Psh.alloc YA.o (Obj.cells #[.int .u64 (m1 : Int), .int .u64 (m2 : Int)] 191)); refine hK.out _ _ (Psh.cells YB.o) (fun hHeld => ?_)
         clear hK K; refine zbL [8] yk ?_
         refine zaE.cons (o := _) rfl (fun K hK => ?_) zaE.nil
         refine zcc (base := P + 1) (A := AM) (n := k) (c := cM) (l := zi1 xs k) (p := (m1, m2)) yR _ _ yR yR yR (zmI yS) HML2.o.symm YB.o.mrk HMB.o (by have h1 := HPL.o; simp; omega) ?_
         intro A9 c9 w9 own9 ho9 hg9 hb9; have Z1 := Psh.push1 YB.o own9 ho9 hg9 hb9; refine hK.out _ _ (Psh.cells Z1) (fun hHeld => ?_)
         have kp := zh2 hg9 HG5.o; have HZ1 := yq Z1; clear hK K Z1; refine zbL [15] yk ?_
         refine zaE.cons (o := _) rfl (fun K hK => ?_) zaE.nil
         refine zcc (base := P + 1) (A := AS) (n := k) (c := cS) (l := zi2 xs k) (p := (s1, s2)) yR _ _ yR yR yR (kp wc.heap.size _ yO (zo7 (zjP rfl))) HSL2.o.symm HZ1.o.stp HSB.o (by have h1 := HZ1.o.box.lt; omega) ?_
         intro A10 c10 w10 own10 ho10 hg10 hb10; have Z2 := Psh.push2 HZ1.o own10 ho10 hg10 hb10; refine hK.out _ _ (Psh.cells Z2) (fun _ => ?_)
         clear hK K hHeld; have HZ2 := yq Z2; have K2 := yq Z2.box; clear Z2 own10 ho10 hg10 hb10 own9 ho9 hg9 hb9 kp; have g2 := Blk.cell (i := 2) K2.o rfl; have g3 := Blk.cell (i := 3) K2.o rfl; have f2 := Blk.frozen K2.o 2; have f3 := Blk.frozen K2.o 3; have gL := K2.o.lt; refine zff yk ?_
         simp only [List.drop_succ_cons, List.drop_zero]
         go_wp2_with fail
         exact ⟨⟨k + 1, _, _, _, _, by omega, by simp, HDN.o _ _ _ _ _ HZ2.o⟩, by first | (simp [intOf]; done) | (simp [intOf]; omega)⟩
    · have hkn : k = xs.length := by omega
      subst hkn; go_wp2_with fail
      exact bodyPost_ret (v := .tuple #[.pointer (some ⟨P, 0, none⟩), .bool true]) (by simp [results, Tryz.results120, go_sem]) rfl ⟨P, ls, _, AM, cM, AS, cS, rfl, HL.o, hzP, St.o⟩
 · exfalso
   obtain ⟨_, l2, h2⟩ := zag hg; rw [hl] at h2; cases h2
def zg4 (xs : List zaa) (s : Nat × Nat) (r : Nat) : Nat × Nat := ((s.1 * (zdS xs r).1 % pF + (zdU xs r).1) % pF, (s.2 * (zdS xs r).2 % pF + (zdU xs r).2) % pF)
structure Wv (w : World) (P : Nat) (xs : List zaa) (ls : List Int) (vR vL : Value) (AM : Option Addr) (cM : Nat) (AS : Option Addr) (cS : Nat) : Prop where
 box : Blk w P #[vR, vL, .slice AM xs.length cM, .slice AS xs.length cS] 189
 len : Sl zfZ w w.heap.size vL ls
 rul : Sl zas w w.heap.size vR xs
 mrk : zdy w 0 (.slice AM xs.length cM) (zi1 xs xs.length)
 stp : zdy w 0 (.slice AS xs.length cS) (zi2 xs xs.length)
theorem Wv.up {w w' : World} {P : Nat} {xs : List zaa} {ls : List Int} {vR vL : Value} {AM AS : Option Addr} {cM cS : Nat} (h : Wv w P xs ls vR vL AM cM AS cS) (hb : Below w.heap.size w w') : Wv w' P xs ls vR vL AM cM AS cS :=
 ⟨h.box.up hb, h.len.up hb, h.rul.up hb, zaI h.mrk hb, zaI h.stp hb⟩
structure PJ (w0 : World) (bo : Nat) (C : Nat -> Prop) (s : Nat × Nat) (w : World) : Prop where
 wk : Wk (fun b => b < w0.heap.size /\ b ≠ bo) w0 w
 cell : Blk w bo #[.int .u64 (s.1 : Int), .int .u64 (s.2 : Int)] 191
 nc : ¬ C bo
 lt : s.1 < pF /\ s.2 < pF
theorem PJ.ext {w0 : World} {bo : Nat} (hbs : bo < w0.heap.size) : ∀ C s w w', PJ w0 bo C s w -> Below w.heap.size w w' -> (∀ b, C b -> b < w.heap.size) -> PJ w0 bo (ext C w.heap.size w'.heap.size) s w' := by
 intro C s w w' h hb hC; have hsz := h.wk.size; refine ⟨h.wk.trans (Wk.of_below hb fun k hk => by have := hk.1; omega), h.cell.up hb, ?_, h.lt⟩
 intro h'; rcases h' with h' | h'
 · exact h.nc h'
 · omega
theorem Wk.heap {C : Nat -> Prop} {w w' : World} {k : Nat} {o : Obj} (h : Wk C w w') (hk : C k) (ho : w.heap[k]? = some o) : w'.heap[k]? = some o := (h.block k hk).trans ho
theorem zoy {w W : World} {p1 p2 p3 p4 p5 p6 p7 p8 p9 : Addr} {v1 v2 v3 v4 v5 v6 v7 v8 v9 : Value} (h1 : CI w p1 v1) (h2 : CI w p2 v2) (h3 : CI w p3 v3) (h4 : CI w p4 v4) (h5 : CI w p5 v5) (h6 : CI w p6 v6) (h7 : CI w p7 v7) (h8 : CI w p8 v8) (h9 : CI w p9 v9) (hb : Below w.heap.size w W) : W.cell? p1 = some v1 /\ W.cell? p2 = some v2 /\ W.cell? p3 = some v3 /\ W.cell? p4 = some v4 /\ W.cell? p5 = some v5 /\ W.cell? p6 = some v6 /\ W.cell? p7 = some v7 /\ W.cell? p8 = some v8 /\ W.cell? p9 = some v9 :=
 ⟨h1.up hb, h2.up hb, h3.up hb, h4.up hb, h5.up hb, h6.up hb, h7.up hb, h8.up hb, h9.up hb⟩
theorem zjQ (w0 : World) (bo bw P : Nat) (xs : List zaa) (ls : List Int) (vR vL : Value) (AM AS : Option Addr) (cM cS : Nat) (hbo : bo < w0.heap.size) (hbw : bw ≠ bo) (hP : P ≠ bo) (hw : w0.cell? ⟨bw, 0, none⟩ = some (.pointer (some ⟨P, 0, none⟩)))
  (hW : Wv w0 P xs ls vR vL AM cM AS cS) (hM : ∀ g, (Value.slice AM xs.length cM).ownBlock = some g -> g ≠ bo) (hS : ∀ g, (Value.slice AS xs.length cS).ownBlock = some g -> g ≠ bo) :
  ∀ C s (r : Nat) (w : World), PJ w0 bo C s w -> r < xs.length -> (∀ b, C b -> b < w.heap.size) -> Calls Tryz.prog 186 (#[.int .i64 r] ++ #[.pointer (some ⟨bo, 0, none⟩), .pointer (some ⟨bw, 0, none⟩)]) w (zdC (PJ w0 bo) C (zg4 xs s r) w) := by
 intro C s r w hJ hr hC; have HJ := yq hJ; have HC := yq hC; have hwl : bw < w0.heap.size := World.block_lt_of_cell? _ _ hw; obtain ⟨g, capM, eM, _, hgl, m1, m2⟩ := hW.mrk.cells (zmC (xs := xs) hr); obtain ⟨g', capS, eS, _, hgl', n1, n2⟩ := hW.stp.cells (zmD (xs := xs) hr); injection eM with eM1 eM2 eM3; injection eS with eS1 eS2 eS3; subst eM1 eS1; clear eM2 eM3 eS2 eS3; have hgo := hM g rfl; have hgo' := hS g' rfl; have hk := hJ.wk; have hsz := hk.size; have up : ∀ {k o : Nat} {v : Value}, k < w0.heap.size -> k ≠ bo -> w0.cell? ⟨k, o, none⟩ = some v -> CI w ⟨k, o, none⟩ v := fun {k o v} a b c => ⟨hk.cell ⟨a, b⟩ c, by show k < _; omega⟩
 have k1 := hJ.cell.ci (i := 0) rfl; have k2 := hJ.cell.ci (i := 1) rfl; have k3 := up hwl hbw hw; have k4 := up hW.box.lt hP (hW.box.cell (i := 2) (v := .slice (some ⟨g, 0, none⟩) xs.length cM) rfl); have k5 := up hW.box.lt hP (hW.box.cell (i := 3) (v := .slice (some ⟨g', 0, none⟩) xs.length cS) rfl); have k6 := up hgl hgo m1; have k7 := up hgl hgo m2; have k8 := up hgl' hgo' n1; have k9 := up hgl' hgo' n2; obtain ⟨q1, q2⟩ := hJ.lt; obtain ⟨q3, q4⟩ := zmE xs r; obtain ⟨q5, q6⟩ := zow xs r; have HST := yq (show zg4 xs s r = ((s.1 * (zdS xs r).1 % pF + (zdU xs r).1) % pF, (s.2 * (zdS xs r).2 % pF + (zdU xs r).2) % pF) from rfl); clear m1 m2 n1 n2 hM hS hW hw up hJ hC hk; generalize zdU xs r = mk at *; generalize zdS xs r = st at *; obtain ⟨a1, a2⟩ := s; obtain ⟨b1, b2⟩ := mk; obtain ⟨c1, c2⟩ := st; have CT := fun W => zgL a1 a2 c1 c2 W q1 q2 q5 q6; have CP := fun W => zkp (a1 * c1 % pF) (a2 * c2 % pF) b1 b2 W (Nat.mod_lt _ (by decide)) (Nat.mod_lt _ (by decide)) q3 q4; have HL := yq (show (a1 * c1 % pF + b1) % pF < pF /\ (a2 * c2 % pF + b2) % pF < pF from ⟨Nat.mod_lt _ (by decide), Nat.mod_lt _ (by decide)⟩); have HS2 := yq (show zg4 xs (a1, a2) r = ((a1 * c1 % pF + b1) % pF, (a2 * c2 % pF + b2) % pF) from HST.o); obtain ⟨x1, hx1⟩ : ∃ x, a1 * c1 % pF = x := ⟨_, rfl⟩
 obtain ⟨x2, hx2⟩ : ∃ x, a2 * c2 % pF = x := ⟨_, rfl⟩
 rw [hx1, hx2] at CP HL HS2; simp only [hx1, hx2] at CT
 obtain ⟨y1, hy1⟩ : ∃ x, (x1 + b1) % pF = x := ⟨_, rfl⟩
 obtain ⟨y2, hy2⟩ : ∃ x, (x2 + b2) % pF = x := ⟨_, rfl⟩
 rw [hy1, hy2] at HL HS2; simp only [hy1, hy2] at CP
 have HCT := yq CT; have HCP := yq CP; clear CT CP; have hri : (r : Int) < (xs.length : Int) := by omega
 have hr0 : (0 : Int) <= (r : Int) := by omega
 clear HST hx1 hx2 hy1 hy2 q1 q2 q3 q4 q5 q6 hwl hgl hgl'; show Calls Tryz.prog 186 #[.int .i64 r, .pointer (some ⟨bo, 0, none⟩), .pointer (some ⟨bw, 0, none⟩)] w _
 go_enter Tryz.func186, Tryz.ntmps186
 refine zg3 (fun w' => w'.cell? ⟨bo, 0, none⟩ = some (.int .u64 (a1 : Int)) /\ w'.cell? ⟨bo, 1, none⟩ = some (.int .u64 (a2 : Int)) /\ w'.cell? ⟨bw, 0, none⟩ = some (.pointer (some ⟨P, 0, none⟩)) /\ w'.cell? ⟨P, 2, none⟩ = some (.slice (some ⟨g, 0, none⟩) xs.length cM) /\ w'.cell? ⟨P, 3, none⟩ = some (.slice (some ⟨g', 0, none⟩) xs.length cS) /\
  w'.cell? ⟨g, r * 2, none⟩ = some (.int .u64 (b1 : Int)) /\ w'.cell? ⟨g, r * 2 + 1, none⟩ = some (.int .u64 (b2 : Int)) /\ w'.cell? ⟨g', r * 2, none⟩ = some (.int .u64 (c1 : Int)) /\ w'.cell? ⟨g', r * 2 + 1, none⟩ = some (.int .u64 (c2 : Int))) 17 yk yk (zoy k1 k2 k3 k4 k5 k6 k7 k8 k9 (Below.drew (Below.refl _ _))) (fun hHeld => ?_)
 refine zaJ (Array.replicate 18 false) 0 _ ?_ yk rfl yk (fun _ _ _ h => h) yR ?_ hHeld ?_
 rotate_left 1
 · intro w8 hSw
   obtain ⟨s1, s2, s3, s4, s5, s6, s7, s8, s9⟩ := hSw; go_simp
   try with_reducible rfl
 simp only [Act.put]
 refine zaJ (Array.replicate 18 false) 1 _ ?_ yk rfl yk (fun _ _ _ h => h) yR ?_ hHeld ?_
 rotate_left 1
 · intro w8 hSw
   obtain ⟨s1, s2, s3, s4, s5, s6, s7, s8, s9⟩ := hSw; go_simp
   try with_reducible rfl
 simp only [Act.put]
 refine zaJ (Array.replicate 18 false) 2 _ ?_ yk rfl yk (fun _ _ _ h => h) yR ?_ hHeld ?_
 rotate_left 1
 · intro w8 hSw
   obtain ⟨s1, s2, s3, s4, s5, s6, s7, s8, s9⟩ := hSw; go_simp
   try with_reducible rfl
 simp only [Act.put]
 refine zaJ (Array.replicate 18 false) 3 _ ?_ yk rfl yk (fun _ _ _ h => h) yR ?_ hHeld ?_
 rotate_left 1
 · intro w8 hSw
   obtain ⟨s1, s2, s3, s4, s5, s6, s7, s8, s9⟩ := hSw; go_simp
   try with_reducible rfl
 simp only [Act.put]
 refine zaJ (Array.replicate 18 false) 4 _ ?_ yk rfl yk (fun _ _ _ h => h) yR ?_ hHeld ?_
 rotate_left 1
 · intro w8 hSw
   obtain ⟨s1, s2, s3, s4, s5, s6, s7, s8, s9⟩ := hSw; go_simp
   try with_reducible rfl
 simp only [Act.put]
 refine zaJ (Array.replicate 18 false) 5 _ ?_ yk rfl yk (fun _ _ _ h => h) yR ?_ hHeld ?_
 rotate_left 1
 · intro w8 hSw
   obtain ⟨s1, s2, s3, s4, s5, s6, s7, s8, s9⟩ := hSw; go_simp
   try with_reducible rfl
 simp only [Act.put]
 refine zaJ (Array.replicate 18 false) 6 _ ?_ yk rfl yk (fun _ _ _ h => h) yR ?_ hHeld ?_
 rotate_left 1
 · intro w8 hSw
   obtain ⟨s1, s2, s3, s4, s5, s6, s7, s8, s9⟩ := hSw; go_simp
   try with_reducible rfl
 simp only [Act.put]
 refine zaJ (Array.replicate 18 false) 7 _ ?_ yk rfl yk (fun _ _ _ h => h) yR ?_ hHeld ?_
 rotate_left 1
 · intro w8 hSw
   obtain ⟨s1, s2, s3, s4, s5, s6, s7, s8, s9⟩ := hSw; go_simp
   try with_reducible rfl
 simp only [Act.put]
 refine zaJ (Array.replicate 18 false) 9 _ ?_ yk rfl yk (fun _ _ _ h => h) yR ?_ hHeld ?_
 rotate_left 1
 · intro w8 hSw
   obtain ⟨s1, s2, s3, s4, s5, s6, s7, s8, s9⟩ := hSw; go_simp
   try with_reducible rfl
 simp only [Act.put]
 refine zaJ (Array.replicate 18 false) 10 _ ?_ yk rfl yk (fun _ _ _ h => h) yR ?_ hHeld ?_
 rotate_left 1
 · intro w8 hSw
   obtain ⟨s1, s2, s3, s4, s5, s6, s7, s8, s9⟩ := hSw; go_simp
   try with_reducible rfl
 simp only [Act.put]
 refine zaJ (Array.replicate 18 false) 11 _ ?_ yk rfl yk (fun _ _ _ h => h) yR ?_ hHeld ?_
 rotate_left 1
 · intro w8 hSw
   obtain ⟨s1, s2, s3, s4, s5, s6, s7, s8, s9⟩ := hSw; go_simp
   try with_reducible rfl
 simp only [Act.put]
 refine zaJ (Array.replicate 18 false) 12 _ ?_ yk rfl yk (fun _ _ _ h => h) yR ?_ hHeld ?_
 rotate_left 1
 · intro w8 hSw
   obtain ⟨s1, s2, s3, s4, s5, s6, s7, s8, s9⟩ := hSw; go_simp
   try with_reducible rfl
 simp only [Act.put]
 refine zaJ (Array.replicate 18 false) 13 _ ?_ yk rfl yk (fun _ _ _ h => h) yR ?_ hHeld ?_
 rotate_left 1
 · intro w8 hSw
   obtain ⟨s1, s2, s3, s4, s5, s6, s7, s8, s9⟩ := hSw; go_simp
   try with_reducible rfl
 simp only [Act.put]
 refine zaJ (Array.replicate 18 false) 14 _ ?_ yk rfl yk (fun _ _ _ h => h) yR ?_ hHeld ?_
 rotate_left 1
 · intro w8 hSw
   obtain ⟨s1, s2, s3, s4, s5, s6, s7, s8, s9⟩ := hSw; go_simp
   try with_reducible rfl
 simp only [Act.put]
 refine zaJ (Array.replicate 18 false) 15 _ ?_ yk rfl yk (fun _ _ _ h => h) yR ?_ hHeld ?_
 rotate_left 1
 · intro w8 hSw
   obtain ⟨s1, s2, s3, s4, s5, s6, s7, s8, s9⟩ := hSw; go_simp
   try with_reducible rfl
 simp only [Act.put]
 refine zbL [8] yk ?_
 refine zaE.cons (o := _) rfl (fun K hK => ?_) zaE.nil
 go_simp
 go_at_call 155
 refine (HCT.o _).mono ?_
 rintro e8 w8 ⟨hb8, rfl⟩; have B8 : Below w.heap.size w w8 := Below.undrew hb8; go_wp2_with fail
 refine hK.out _ _ (zoy k1 k2 k3 k4 k5 k6 k7 k8 k9 B8) (fun hHeld => ?_)
 clear hK K; refine zbL [16] yk ?_
 refine zaE.cons (o := _) rfl (fun K hK => ?_) zaE.nil
 go_simp
 go_at_call 156
 refine (HCP.o _).mono ?_
 rintro e9 w9 ⟨hb9, rfl⟩; have B9 : Below w.heap.size w w9 := Below.tr B8 hb9; go_wp2_with fail
 refine hK.out _ _ (zoy k1 k2 k3 k4 k5 k6 k7 k8 k9 B9) (fun hHeld => ?_)
 clear hK K; refine zff yk ?_
 simp only [List.drop_succ_cons, List.drop_zero]
 have KO := HJ.o.cell.up B9; have g0 := Blk.cell (i := 0) KO rfl; have g1 := Blk.cell (i := 1) KO rfl; have f0 := Blk.frozen KO 0; have f1 := Blk.frozen KO 1; have gL := Blk.lt KO; have HKO := yq KO; have HB9 := yq B9; clear KO hHeld hb8 hb9 B8 B9 k1 k2 k3 k4 k5 k6 k7 k8 k9; go_wp2_with fail
 go_end0
 have hwk : Wk C w ((w9.setCell ⟨bo, 0, none⟩ (.int .u64 (y1 : Int))).setCell ⟨bo, 1, none⟩ (.int .u64 (y2 : Int))) :=
  ⟨HB9.o.os, HB9.o.tape, HB9.o.output, by have := HB9.o.size; simpa [World.setCell] using this, fun k hk => (Below.heap_setCell _ ⟨bo, 1, none⟩ _ k (fun e => HJ.o.nc (by subst e; exact hk))).trans ((Below.heap_setCell _ ⟨bo, 0, none⟩ _ k (fun e => HJ.o.nc (by subst e; exact hk))).trans (HB9.o.block k (HC.o k hk)))⟩
 have hw0 : Wk (fun b => b < w0.heap.size /\ b ≠ bo) w ((w9.setCell ⟨bo, 0, none⟩ (.int .u64 (y1 : Int))).setCell ⟨bo, 1, none⟩ (.int .u64 (y2 : Int))) :=
  ⟨HB9.o.os, HB9.o.tape, HB9.o.output, by have := HB9.o.size; simpa [World.setCell] using this, fun k hk => (Below.heap_setCell _ ⟨bo, 1, none⟩ _ k hk.2).trans ((Below.heap_setCell _ ⟨bo, 0, none⟩ _ k hk.2).trans (HB9.o.block k (by have := hk.1; omega)))⟩
 refine ⟨rfl, C, fun _ h => h, ?_, ⟨HJ.o.wk.trans hw0, ?_, HJ.o.nc, by rw [HS2.o]; exact HL.o⟩, hwk⟩
 · intro b h
   have := HC.o b h; have := hwk.size; omega
 · rw [HS2.o]; exact (HKO.o.set 0 _).set 1 _
theorem zmL (P : Nat) (xs : List zaa) (ls : List Int) (vR vL : Value) (AM AS : Option Addr) (cM cS : Nat) (i j : Int) (w : World) (hW : Wv w P xs ls vR vL AM cM AS cS) (hl : zaX xs = some ls) (hn : xs.length <= 1048576) :
  Calls Tryz.prog 157 #[.pointer (some ⟨P, 0, none⟩), .int .i64 i, .int .i64 j] w fun e w' => Below w.heap.size w w' /\ e = .returned (prV ((za0 xs ls i j).foldl (zg4 xs) (0, 0)).1 ((za0 xs ls i j).foldl (zg4 xs) (0, 0)).2) := by
 have HW := yq hW; have HL := yq hl; obtain ⟨AR, cR, rfl, _⟩ := hW.rul; obtain ⟨AL, cL, rfl, _⟩ := hW.len; clear hW hl; go_enter Tryz.func157, Tryz.ntmps157
 have ba := (((Below.refl w.heap.size w).alloc yL (Obj.cells #[.pointer (some ⟨P, 0, none⟩)] 88)).alloc yS (Obj.cells #[.int .u64 0, .int .u64 0] 191)).alloc (by simp; omega) (Obj.cells #[.int .u64 0, .int .u64 0] 191); have kN := ((Blk.new w #[.pointer (some ⟨P, 0, none⟩)] 88).alloc (Obj.cells #[.int .u64 0, .int .u64 0] 191)).alloc (Obj.cells #[.int .u64 0, .int .u64 0] 191); have kR := (Blk.new (w.alloc (Obj.cells #[.pointer (some ⟨P, 0, none⟩)] 88)) #[.int .u64 0, .int .u64 0] 191).alloc (Obj.cells #[.int .u64 0, .int .u64 0] 191); have kO := Blk.new ((w.alloc (Obj.cells #[.pointer (some ⟨P, 0, none⟩)] 88)).alloc (Obj.cells #[.int .u64 0, .int .u64 0] 191)) #[.int .u64 0, .int .u64 0] 191; have z1 : (w.alloc (Obj.cells #[.pointer (some ⟨P, 0, none⟩)] 88)).heap.size = w.heap.size + 1 := by simp
 have z2 : ((w.alloc (Obj.cells #[.pointer (some ⟨P, 0, none⟩)] 88)).alloc (Obj.cells #[.int .u64 0, .int .u64 0] 191)).heap.size = w.heap.size + 1 + 1 := by simp
 rw [z1] at kR; rw [z2] at kO; have HBA := yq ba; have HKN := yq kN; have HKR := yq kR; have HKO := yq kO; clear ba kN kR kO z1 z2; go_upto_region 2 with fail
 revert HBA HKN HKR HKO; generalize (((w.alloc (Obj.cells #[.pointer (some ⟨P, 0, none⟩)] 88)).alloc (Obj.cells #[.int .u64 0, .int .u64 0] 191)).alloc (Obj.cells #[.int .u64 0, .int .u64 0] 191)) = W; intro HBA HKN HKR HKO; have HWW := yq (HW.o.up HBA.o); have hPl : P < w.heap.size := HW.o.box.lt; obtain ⟨N, hN⟩ : ∃ N, w.heap.size = N := ⟨_, rfl⟩
 have HN := yq hN; rw [hN] at HKN HKR HKO hPl; rw [hN]; clear hN; have c0 := Blk.cell (i := 0) (v := .pointer (some ⟨P, 0, none⟩)) HKN.o rfl; have c1 := Blk.cell (i := 0) (v := .slice AR xs.length cR) HWW.o.box rfl; have c2 := Blk.cell (i := 1) (v := .slice AL ls.length cL) HWW.o.box rfl; have l0 := Blk.lt HKN.o; have l1 := Blk.lt HWW.o.box; refine wp_region_still_tail 11 yk yk ?_
 simp only [List.take_succ_cons, List.take_zero, List.drop_succ_cons, List.drop_zero]
 still_step
 still_step
 still_step
 still_step
 still_step
 still_step
 still_step
 still_step
 still_step
 still_step
 still_step
 refine wpStill_nil ?_
 go_wp2_with fail
 have WD := yq (HWW.o.up (Below.drew (Below.refl W.heap.size W))); have KND := yq (Blk.drew HKN.o); have KRD := yq (Blk.drew HKR.o); have KOD := yq (Blk.drew HKO.o); have HBD := yq (Below.drew HBA.o)
 have hMg : ∀ g, (Value.slice AM xs.length cM).ownBlock = some g -> g ≠ N + 1 + 1 := fun g e => by
  have h1 := (World.ownsRow.lt HW.o.mrk g e).2; have := HN.o; omega
 have hSg : ∀ g, (Value.slice AS xs.length cS).ownBlock = some g -> g ≠ N + 1 + 1 := fun g e => by
  have h1 := (World.ownsRow.lt HW.o.stp g e).2; have := HN.o; omega
 clear c0 c1 c2 l0 l1 HKN HKR HKO HBA HWW; generalize W.drew = W0 at *; have hO : N + 1 + 1 < W0.heap.size := KOD.o.lt; have hcl := zjQ W0 (N + 1 + 1) N P xs ls (.slice AR xs.length cR) (.slice AL ls.length cL) AM AS cM cS hO yO yO (KND.o.cell rfl) WD.o hMg hSg
 refine (zfl (PJ W0 (N + 1 + 1)) (zg4 xs) (fun _ _ => True) 186 #[.pointer (some ⟨N + 1 + 1, 0, none⟩), .pointer (some ⟨N, 0, none⟩)] xs ls i j HL.o yO (enters_of Tryz.func186 yk rfl) (fun C s w w' hJ hb _ hC => PJ.ext hO C s w w' hJ hb hC)
  (fun C s r w hJ _ hr hC => hcl C s r w hJ hr hC) _ _ (0, 0) (fun b => b < w.heap.size) W0 ⟨Wk.refl _ _, KOD.o, by have := HN.o; omega, by decide⟩ (zkw.all fun _ _ => trivial) (fun b hb => by have := HN.o; omega) ?_ ?_).mono ?_
 · exact HW.o.len.keep (zeu.of_below HBD.o)
 · exact HW.o.rul.keep (zeu.of_below HBD.o)
 · rintro e w2 ⟨rfl, C2, g1, g2, g3, g4⟩
   obtain ⟨s, hs⟩ : ∃ s, (za0 xs ls i j).foldl (zg4 xs) (0, 0) = s := ⟨_, rfl⟩
   rw [hs] at g3; have Hs := yq hs; have HB2 := yq (HBD.o.trans (g3.wk.below (B := w.heap.size) fun k hk => ⟨by have := HN.o; omega, by have := HN.o; omega⟩)); have HG := yq g3; have KR2 := yq (show Blk w2 (N + 1) #[.int .u64 0, .int .u64 0] 191 from g3.wk.heap ⟨by omega, by omega⟩ KRD.o); obtain ⟨s1, s2⟩ := s; have c0 := Blk.cell (i := 0) g3.cell rfl; have c1 := Blk.cell (i := 1) g3.cell rfl; have d0 := Blk.frozen KR2.o 0; have d1 := Blk.frozen KR2.o 1; have e0 := Blk.cell (i := 0) KR2.o rfl; have e1 := Blk.cell (i := 1) KR2.o rfl; have lR := Blk.lt KR2.o; have lO := Blk.lt g3.cell; clear g1 g2 g3 g4 hcl hs; go_wp2_with fail
   refine bodyPost_ret (v := .agg #[.int .u64 (s1 : Int), .int .u64 (s2 : Int)]) (by simp [results, Tryz.results157, go_sem, e0, e1]) rfl ⟨?_, by rw [Hs.o]; rfl⟩
   exact (HB2.o.setCell (p := ⟨N + 1, 0, none⟩) (by show w.heap.size <= N + 1; have := HN.o; omega) _).setCell (p := ⟨N + 1, 1, none⟩) (by show w.heap.size <= N + 1; have := HN.o; omega) _
def prG (xs : List zaa) : Nat × Nat := (ziY bA (zau xs), ziY bB (zau xs))
theorem zmM {xs : List zaa} {ls : List Int} (hl : zaX xs = some ls) : (za0 xs ls 0 (zai ls)).foldl (zg4 xs) (0, 0) = prG xs := by
 rw [zk6 hl]; by_cases h0 : xs.length = 0
 · have : xs = [] := yn h0
   subst this; rfl
 · rw [if_neg h0]
   show zg4 xs (0, 0) (xs.length - 1) = _
   unfold zg4 prG; rw [za7 yO]; simp only [Nat.zero_mul, Nat.zero_mod, Nat.zero_add]
   rw [Nat.mod_eq_of_lt (zmE xs _).1, Nat.mod_eq_of_lt (zmE xs _).2]; rfl
def eqG (xs ys : List zaa) : Bool := decide (zao xs = zao ys) && decide (prG xs = prG ys)
theorem znY {xs ys : List zaa} (hx : zaf xs = true) (hy : zaf ys = true) (h : zau xs = zau ys) : eqG xs ys = true := by
 obtain ⟨_, lx, h1⟩ := zag hx; obtain ⟨_, ly, h2⟩ := zag hy; unfold eqG prG; rw [zaq h1, zaq h2, <- zaQ h1, <- zaQ h2, h]; simp
def WvP (w : World) (P : Nat) (xs : List zaa) : Prop := ∃ ls vR vL AM cM AS cS, zaX xs = some ls /\ xs.length <= 400 /\ Wv w P xs ls vR vL AM cM AS cS
theorem WvP.up {w w' : World} {P : Nat} {xs : List zaa} (h : WvP w P xs) (hb : Below w.heap.size w w') : WvP w' P xs := by
 obtain ⟨ls, vR, vL, AM, cM, AS, cS, h1, h2, h3⟩ := h; exact ⟨ls, vR, vL, AM, cM, AS, cS, h1, h2, h3.up hb⟩
theorem WvP.drew {w : World} {P : Nat} {xs : List zaa} (h : WvP w P xs) : WvP w.drew P xs := h.up (Below.drew (Below.refl _ _))
theorem zfY (v : Value) (xs : List zaa) (w : World) (h : Sl zas w w.heap.size v xs) (hg : zaf xs = true) :
  Calls Tryz.prog 120 #[.agg #[v]] w fun e w' => ∃ P, e = .returned (.tuple #[.pointer (some ⟨P, 0, none⟩), .bool true]) /\ WvP w' P xs /\ Below w.heap.size w w' := by
 refine (ziZ v xs w h hg).mono ?_
 rintro e w' ⟨P, ls, vL, AM, cM, AS, cS, rfl, hl, hP, S⟩; refine ⟨P, rfl, ⟨ls, v, vL, AM, cM, AS, cS, hl, (zag hg).1, S.box, ?_, h.up S.bel, zac S.mrk yO, zac S.stp yO⟩, S.bel⟩
 exact zal.sl S.len
theorem zee (P : Nat) (xs : List zaa) (w : World) (h : WvP w P xs) :
  Calls Tryz.prog 121 #[.pointer (some ⟨P, 0, none⟩)] w fun e w' => e = .returned (.int .i64 (zao xs)) /\ Below w.heap.size w w' := by
 obtain ⟨ls, vR, vL, AM, cM, AS, cS, h1, h2, h3⟩ := h; have HL := yq h3.len; have c1 := Blk.cell (i := 1) (v := vL) h3.box rfl; have l1 := h3.box.lt; obtain ⟨AL, cL, rfl, _⟩ := h3.len; have hgl := yq (zaq h1); clear h3 h1; go_enter Tryz.func121, Tryz.ntmps121
 go_wp2_with fail
 refine (zdE _ ls _ HL.o).mono ?_
 rintro e w' ⟨rfl, rfl⟩; go_wp2_with fail
 go_ret
 exact ⟨zbz (by rw [hgl.o]), Below.refl _ _⟩
theorem zgO (P : Nat) (xs : List zaa) (n : Int) (w : World) (h : WvP w P xs) (hn : n = zao xs) :
  Calls Tryz.prog 157 #[.pointer (some ⟨P, 0, none⟩), .int .i64 0, .int .i64 n] w fun e w' => Below w.heap.size w w' /\ e = .returned (prV (prG xs).1 (prG xs).2) := by
 obtain ⟨ls, vR, vL, AM, cM, AS, cS, h1, h2, h3⟩ := h; have := zmL P xs ls vR vL AM AS cM cS 0 n w h3 h1 yO; rw [hn, zaq h1, zmM h1] at this; rw [hn, zaq h1]; exact this
theorem zjR (xs : List zaa) : 0 <= zao xs /\ zao xs <= 1000000000000000 := zaM xs
theorem znN (a1 a2 b1 b2 : Nat) (w : World) : (Op.equalIn 10000 191 (.agg #[.int .u64 (a1 : Int), .int .u64 (a2 : Int)]) (.agg #[.int .u64 (b1 : Int), .int .u64 (b2 : Int)])).run Tryz.prog w = .ok (decide (a1 = b1) && decide (a2 = b2)) w := by
 obtain ⟨i, hi⟩ : ∃ i, Tryz.prog.info? 113 = some i := Option.isSome_iff_exists.1 yk; have hp : Tryz.prog.plainKey 113 = true := by kernel_rfl
 have hc : Tryz.prog.cellsOf 113 = 1 := by kernel_rfl
 have pA0 := fun w => run_part_plain w hp (xs := #[.int .u64 (a1 : Int), .int .u64 (a2 : Int)]) (off := 0) (v := .int .u64 (a1 : Int)) rfl; have pA1 := fun w => run_part_plain w hp (xs := #[.int .u64 (a1 : Int), .int .u64 (a2 : Int)]) (off := 1) (v := .int .u64 (a2 : Int)) rfl; have pB0 := fun w => run_part_plain w hp (xs := #[.int .u64 (b1 : Int), .int .u64 (b2 : Int)]) (off := 0) (v := .int .u64 (b1 : Int)) rfl; have pB1 := fun w => run_part_plain w hp (xs := #[.int .u64 (b1 : Int), .int .u64 (b2 : Int)]) (off := 1) (v := .int .u64 (b2 : Int)) rfl
 have e0 : ∀ (x y : Nat), ((x : Int) == (y : Int)) = decide (x = y) := fun x y => by
  by_cases h : x = y
  · subst h; simp
  · rw [decide_eq_false h, beq_eq_false_iff_ne]; omega
 rw [run_equalIn_array w 9999 _ _ Tryz.underlying191 hi, hc, show List.range 2 = [0, 1] from rfl]; have q0 := fun w => run_equalIn_int w 9998 113 .u64 .u64 (a1 : Int) (b1 : Int) Tryz.underlying113; have q1 := fun w => run_equalIn_int w 9998 113 .u64 .u64 (a2 : Int) (b2 : Int) Tryz.underlying113; simp only [Op.eqItems, Sem.run_bind, Nat.zero_mul, pA0, pB0, Result.andThen_ok, q0, e0]
 generalize decide (a1 = b1) = x; cases x with
 | false => rfl
 | true =>
   simp only [Sem.run_bind, Nat.one_mul, pA1, pB1, Result.andThen_ok, q1, e0, Bool.not_true, Bool.false_eq_true, if_false]
   generalize decide (a2 = b2) = y; cases y <;> rfl
theorem zjS (P Q : Nat) (xs ys : List zaa) (n : Int) (w : World) (h : WvP w P xs) (h' : WvP w Q ys) (hn : n = zao xs) (hn' : n = zao ys) :
  Calls Tryz.prog 122 #[.pointer (some ⟨P, 0, none⟩), .int .i64 0, .pointer (some ⟨Q, 0, none⟩), .int .i64 0, .int .i64 n] w fun e w' => e = .returned (.bool (decide (prG xs = prG ys))) /\ Below w.heap.size w w' := by
 have HP := yq h; have HQ := yq h'; have HN := yq hn; have HN' := yq hn'; have hb := zjR xs; rw [<- hn] at hb; obtain ⟨hb1, hb2⟩ := hb; clear h h' hn hn'; go_enter Tryz.func122, Tryz.ntmps122
 go_wp2_with fail
 refine (zgO P xs n _ HP.o HN.o).mono ?_
 rintro e w1 ⟨hb1, rfl⟩; have HB1 := yq hb1; clear hb1; go_wp2_with fail
 refine (zgO Q ys n _ (HQ.o.up HB1.o) HN'.o).mono ?_
 rintro e w2 ⟨hb2, rfl⟩; have HB2 := yq (Below.tr HB1.o hb2); clear hb2
 have HE := yq (show decide (prG xs = prG ys) = (decide ((prG xs).1 = (prG ys).1) && decide ((prG xs).2 = (prG ys).2)) from by
  rw [<- Bool.decide_and]; congr 1; exact propext Prod.ext_iff)
 obtain ⟨a1, h1⟩ : ∃ a, (prG xs).1 = a := ⟨_, rfl⟩
 obtain ⟨a2, h2⟩ : ∃ a, (prG xs).2 = a := ⟨_, rfl⟩
 obtain ⟨b1, h3⟩ : ∃ a, (prG ys).1 = a := ⟨_, rfl⟩
 obtain ⟨b2, h4⟩ : ∃ a, (prG ys).2 = a := ⟨_, rfl⟩
 rw [h1, h2, h3, h4] at HE; rw [h1, h2, h3, h4]; unfold prV; have hEQ := znN a1 a2 b1 b2 w2; generalize (decide (a1 = b1) && decide (a2 = b2)) = bb at *; clear h1 h2 h3 h4; go_wp2_with fail
 go_ret
 exact ⟨zak (by rw [HE.o]), HB2.o⟩
theorem zll (P Q : Nat) (xs ys : List zaa) (w : World) (h : WvP w P xs) (h' : WvP w Q ys) :
  Calls Tryz.prog 63 #[.pointer (some ⟨P, 0, none⟩), .pointer (some ⟨Q, 0, none⟩)] w fun e w' => e = .returned (.bool (eqG xs ys)) /\ Below w.heap.size w w' := by
 have HP := yq h; have HQ := yq h'; clear h h'; have HE := yq (show eqG xs ys = (decide (zao xs = zao ys) && decide (prG xs = prG ys)) from rfl); obtain ⟨n, hn⟩ : ∃ n, zao xs = n := ⟨_, rfl⟩
 obtain ⟨m, hm⟩ : ∃ m, zao ys = m := ⟨_, rfl⟩
 rw [hn, hm] at HE; have HN := yq hn; have HM := yq hm; clear hn hm; go_enter Tryz.func63, Tryz.ntmps63
 go_wp2_with fail
 refine (zee P xs _ HP.o).mono ?_
 rintro e w1 ⟨rfl, hb1⟩; rw [HN.o]; have HB1 := yq hb1; clear hb1; go_wp2_with fail
 refine (zee Q ys _ (HQ.o.up HB1.o)).mono ?_
 rintro e w2 ⟨rfl, hb2⟩; rw [HM.o]; have HB2 := yq (Below.tr HB1.o hb2); clear hb2; by_cases e1 : n = m
 · subst e1
   go_wp2_with fail
   refine (zee P xs _ (HP.o.up HB2.o)).mono ?_
   rintro e w3 ⟨rfl, hb3⟩; rw [HN.o]; have HB3 := yq (Below.tr HB2.o hb3); clear hb3; go_wp2_with fail
   refine (zjS P Q xs ys n _ (HP.o.up HB3.o) (HQ.o.up HB3.o) HN.o.symm HM.o.symm).mono ?_
   rintro e w4 ⟨rfl, hb4⟩; have HB4 := yq (Below.tr HB3.o hb4); clear hb4; go_wp2_with fail
   go_ret
   exact ⟨zak (by rw [HE.o]; simp), HB4.o⟩
 · have f1 : (n == m) = false := by rw [beq_eq_false_iff_ne]; exact e1
   have E1 := yq e1; clear e1; go_wp2_with fail
   go_ret
   exact ⟨zak (by rw [HE.o]; simp [E1.o]), HB2.o⟩
theorem zlm (v u : Value) (xs ys : List zaa) (w : World) (h : Sl zas w w.heap.size v xs) (h' : Sl zas w w.heap.size u ys) (hx : zaf xs = true) (hy : zaf ys = true) :
  Calls Tryz.prog 62 #[.agg #[v], .agg #[u]] w fun e w' => ∃ P Q, e = .returned (.tuple #[.pointer (some ⟨P, 0, none⟩), .pointer (some ⟨Q, 0, none⟩), .bool true]) /\ WvP w' P xs /\ WvP w' Q ys /\ Below w.heap.size w w' := by
 have H := yq h; have H' := yq h'; obtain ⟨A, c, rfl, _⟩ := h; obtain ⟨A', c', rfl, _⟩ := h'; have hX := yq hx; have hY := yq hy; clear hx hy; have HB := yq (fun o o' => ((Below.refl w.heap.size w).alloc yL o).alloc yS o'); have k1 := (Blk.new w #[.slice A xs.length c] 26).alloc (Obj.cells #[.slice A' ys.length c'] 26); have k2 := Blk.new (w.alloc (Obj.cells #[.slice A xs.length c] 26)) #[.slice A' ys.length c'] 26; rw [show (w.alloc (Obj.cells #[.slice A xs.length c] 26)).heap.size = w.heap.size + 1 by simp] at k2; have K2 := yq k2; have K1 := yq k1; clear k1 k2; go_enter Tryz.func62, Tryz.ntmps62
 go_wp2_with fail
 refine (zfY _ xs _ (H.o.up (HB.o _ _)) hX.o).mono ?_
 rintro e w1 ⟨P, rfl, hP, hb1⟩; have HP := yq hP; have HB1 := yq (Below.tr (HB.o _ _) hb1); have k2 := K2.o.up hb1; have c2 := Blk.cell (i := 0) (v := .slice A' ys.length c') k2 rfl; have l2 := Blk.lt k2; clear hb1 hP k2; go_wp2_with fail
 refine (zfY _ ys _ (H'.o.up HB1.o) hY.o).mono ?_
 rintro e w2 ⟨Q, rfl, hQ, hb2⟩; have HQ := yq hQ; have HP2 := yq (HP.o.up hb2); have HB2 := yq (Below.tr HB1.o hb2); clear hb2 hQ c2 l2; go_wp2_with fail
 go_ret3
 exact ⟨P, Q, rfl, HP2.o, HQ.o, HB2.o⟩
theorem zeB (v u : Value) (xs ys : List zaa) (w : World) (h : Sl zas w w.heap.size v xs) (h' : Sl zas w w.heap.size u ys) (hx : zaf xs = true) (hy : zaf ys = true) :
  Calls Tryz.prog 19 #[.agg #[v], .agg #[u]] w fun e w' => e = .returned (.tuple #[.bool (eqG xs ys), .int .i64 0]) /\ Below w.heap.size w w' := by
 have H := yq h; have H' := yq h'; obtain ⟨A, c, rfl, _⟩ := h; obtain ⟨A', c', rfl, _⟩ := h'; have hX := yq hx; have hY := yq hy; clear hx hy; have HB := yq (fun o o' => ((Below.refl w.heap.size w).alloc yL o).alloc yS o'); go_enter Tryz.func19, Tryz.ntmps19
 go_wp2_with fail
 refine (zlm _ _ xs ys _ (H.o.up (HB.o _ _)) (H'.o.up (HB.o _ _)) hX.o hY.o).mono ?_
 rintro e w1 ⟨P, Q, rfl, hP, hQ, hb1⟩; have HP := yq hP; have HQ := yq hQ; have HB1 := yq (Below.tr (HB.o _ _) hb1); clear hb1 hP hQ; go_wp2_with fail
 refine (zll P Q xs ys _ HP.o HQ.o).mono ?_
 rintro e w2 ⟨rfl, hb2⟩; have HB2 := yq (Below.tr HB1.o hb2); clear hb2; go_wp2_with fail
 go_ret2
 exact ⟨rfl, HB2.o⟩
end Go.Proofs.YtdacndamehiglaaGreatDoor
