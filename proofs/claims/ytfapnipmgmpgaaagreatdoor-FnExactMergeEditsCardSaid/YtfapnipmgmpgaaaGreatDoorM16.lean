import Derived.Test.YtfapnipmgmpgaaaGreatDoorM3
import Derived.Test.YtfapnipmgmpgaaaGreatDoorM8
import Derived.Test.YtfapnipmgmpgaaaGreatDoorM9
import Derived.Test.YtfapnipmgmpgaaaGreatDoorM12
import Derived.Test.YtfapnipmgmpgaaaGreatDoorM15
import Derived.Test.YtfapnipmgmpgaaaGreatDoorRows
import Derived.WalkKit
import Derived.ProofKit
import Derived.Below
import Derived.ChangeSame
import Derived.Lib.SmallJoins
import Derived.Carry
import Derived.WideKeyArgs
import Derived.OpenShut
import Derived.Test.YtfapnipmgmpgaaaGreatDoorM1
import Derived.Deep.Slices
import Derived.Deep.Fields
namespace Go.Proofs.YtfapnipmgmpgaaaGreatDoor
open Go.RowKit

theorem keep166 {wr W : World} {a x y : Nat} {t t' t2 : TypeId} {v c0 c1 c2 c3 c4 c5 d0 d1 d2 d3 d4 d5 : Value} (ha : Blk wr a #[v] t) (hx : Blk wr x #[c0, c1, c2, c3, c4, c5] t') (hy : Blk wr y #[d0, d1, d2, d3, d4, d5] t2) (h : Below wr.heap.size wr W) :
    Below wr.heap.size wr W ∧ W.cell? ⟨a, 0, none⟩ = some v ∧ W.cell? ⟨x, 0, none⟩ = some c0 ∧ W.cell? ⟨x, 1, none⟩ = some c1 ∧ W.cell? ⟨x, 2, none⟩ = some c2 ∧ W.cell? ⟨x, 3, none⟩ = some c3 ∧ W.cell? ⟨x, 4, none⟩ = some c4 ∧ W.cell? ⟨x, 5, none⟩ = some c5 ∧ W.cell? ⟨y, 0, none⟩ = some d0 ∧ W.cell? ⟨y, 1, none⟩ = some d1 ∧ W.cell? ⟨y, 2, none⟩ = some d2 ∧ W.cell? ⟨y, 3, none⟩ = some d3 ∧ W.cell? ⟨y, 4, none⟩ = some d4 ∧ W.cell? ⟨y, 5, none⟩ = some d5 := by
  have h1 := ha.up h
  have h2 := hx.up h
  have h3 := hy.up h
  exact ⟨h, h1.cell rfl, h2.cell rfl, h2.cell rfl, h2.cell rfl, h2.cell rfl, h2.cell rfl, h2.cell rfl, h3.cell rfl, h3.cell rfl, h3.cell rfl, h3.cell rfl, h3.cell rfl, h3.cell rfl⟩
theorem mrgF_ok {es : List GEdit} {now o : List GRule} (hg : gramOk now = true) (h : mrgF now es = some o) : gramOk o = true := by
  induction es generalizing now with
  | nil => injection h with h; rw [← h]; exact hg
  | cons x r ih =>
    have h1 : (if applyCode now x = 0 then mrgF (applyOut now x) r else none) = some o := h
    split at h1
    · exact ih (applyOut_ok _ _) h1
    · cases h1
theorem mrgOut_len (xs : List GRule) (e f : GEdit) : (mrgOut xs e f).length ≤ 400 := by
  unfold mrgOut
  split
  · split
    · cases hm : mrgS xs e f with
      | none => simp
      | some o =>
        unfold mrgS at hm
        split at hm
        · exact gram_len400 (mrgF_ok (applyOut_ok _ _) hm)
        · cases hm
    · simp
  · simp
set_option maxRecDepth 100000 in
set_option maxHeartbeats 8000000 in
theorem lawMergeEdits_any (v v' v2' : Value) (xs : List GRule) (e f : GEdit) (w : World) (h : Sl RuleE w w.heap.size v xs) (hsm : SmallL xs) (hE : EditV w w.heap.size v' e) (hsmE : SmallL e.part) (hm : e.map.size ≤ maxLen) (hF : EditV w w.heap.size v2' f) (hsmF : SmallL f.part) (hm2 : f.map.size ≤ maxLen) (htab : Lib.TabIs Tryz.prog w "math/bits.deBruijn64tab" .u8 deB64) :
    Calls Tryz.prog 6 #[.agg #[v], v', v2'] w fun r w' => r = .returned (.bool true) ∧ Below w.heap.size w w' := by
  obtain ⟨vR, rfl, hR⟩ := hE
  obtain ⟨vQ, rfl, hQ⟩ := hF
  have HG := Lib.hid h
  have HR := Lib.hid hR
  have HQ := Lib.hid hQ
  have HT := Lib.hid htab
  obtain ⟨A, c, rfl, _⟩ := h
  obtain ⟨AR, cR, rfl, _⟩ := hR
  obtain ⟨AQ, cQ, rfl, _⟩ := hQ
  clear htab
  go_enter Tryz.func6, Tryz.ntmps6
  go_wp2_with fail
  refine (szGrammar_any _ xs _ _ (HG.out.up (by repeat (first | exact Below.refl _ _ | (refine Below.alloc ?_ (by first | omega | (simp; done) | (simp; omega)) _) | (refine Below.setCell ?_ (by first | exact Nat.le_refl _ | (show _ ≤ _; omega) | (simp; done) | (simp; omega)) _) | refine below_drewN ?_ _ | refine Below.drew ?_))) hsm (by omega)).mono ?_
  rintro e w1 ⟨rfl, hb_1⟩
  have Ky_2 : Blk w1 (w.heap.size + 1 + 1) #[.int .i64 f.kind, .int .i64 f.i, .int .i64 f.j, .int .i64 f.k, .slice AQ f.part.length cQ, .string f.map] 26 := by have := (Below.unalloc hb_1).2; simpa [Blk] using this
  replace hb_1 := (Below.unalloc hb_1).1
  have Kx_3 : Blk w1 (w.heap.size + 1) #[.int .i64 e.kind, .int .i64 e.i, .int .i64 e.j, .int .i64 e.k, .slice AR e.part.length cR, .string e.map] 26 := by have := (Below.unalloc hb_1).2; simpa [Blk] using this
  replace hb_1 := (Below.unalloc hb_1).1
  have Ka_4 : Blk w1 (w.heap.size) #[.slice A xs.length c] 24 := by have := (Below.unalloc hb_1).2; simpa [Blk] using this
  replace hb_1 := (Below.unalloc hb_1).1
  have z_w1 : w.heap.size ≤ w1.heap.size := hb_1.size
  have KB_5 := Lib.hid hb_1
  have lx1 := Blk.lt Ky_2
  by_cases hneg : szRs xs 1048576 < 0
  · rw [if_pos hneg]
    clear hneg
    go_wp2_with fail
    go_ret
    exact ⟨rfl, KB_5.out⟩
  rw [if_neg hneg]
  obtain ⟨hle, hlen⟩ := szRs_le xs 1048576 (by omega)
  have hn : xs.length ≤ 1048576 := by omega
  obtain ⟨X, hX⟩ : ∃ X, szRs xs 1048576 = X := ⟨_, rfl⟩
  rw [hX] at hneg hle ⊢
  clear hX hlen
  have ca0_6 := Blk.cell (i := 0) (v := .slice A xs.length c) Ka_4 rfl
  have la_7 := Blk.lt Ka_4
  have cx0_8 := Blk.cell (i := 0) (v := .int .i64 e.kind) Kx_3 rfl
  have cx1_9 := Blk.cell (i := 1) (v := .int .i64 e.i) Kx_3 rfl
  have cx2_10 := Blk.cell (i := 2) (v := .int .i64 e.j) Kx_3 rfl
  have cx3_11 := Blk.cell (i := 3) (v := .int .i64 e.k) Kx_3 rfl
  have cx4_12 := Blk.cell (i := 4) (v := .slice AR e.part.length cR) Kx_3 rfl
  have cx5_13 := Blk.cell (i := 5) (v := .string e.map) Kx_3 rfl
  have lx_14 := Blk.lt Kx_3
  go_wp2_with fail
  refine (szEdit_any _ e _ _ ⟨_, rfl, HR.out.up KB_5.out⟩ hsmE hm (by omega)).mono ?_
  rintro e w2 ⟨rfl, hb_15⟩
  have z_w2 : w1.heap.size ≤ w2.heap.size := hb_15.size
  have Ky_16 := Blk.up Ky_2 hb_15
  have Kx_17 := Blk.up Kx_3 hb_15
  have Ka_18 := Blk.up Ka_4 hb_15
  have KB_19 := Lib.hid (Below.tr KB_5.out hb_15)
  clear hb_1 ca0_6 la_7 cx0_8 cx1_9 cx2_10 cx3_11 cx4_12 cx5_13 lx_14 Ky_2 Kx_3 Ka_4 KB_5
  by_cases hneg2 : szE e X < 0
  · skip
    go_wp2_with fail
    go_ret
    exact ⟨rfl, KB_19.out⟩
  have hn2 : e.part.length ≤ 1048576 := szE_le2 (left := X) (by omega) (by omega)
  have hle2 : szE e X ≤ X := (szE_le3 (e := e) (left := X) (by omega)).1
  obtain ⟨X2, hX2⟩ : ∃ X2, szE e X = X2 := ⟨_, rfl⟩
  rw [hX2] at hneg2 hle2 ⊢
  clear hX2
  have ca0_20 := Blk.cell (i := 0) (v := .slice A xs.length c) Ka_18 rfl
  have la_21 := Blk.lt Ka_18
  have cy0_22 := Blk.cell (i := 0) (v := .int .i64 f.kind) Ky_16 rfl
  have cy1_23 := Blk.cell (i := 1) (v := .int .i64 f.i) Ky_16 rfl
  have cy2_24 := Blk.cell (i := 2) (v := .int .i64 f.j) Ky_16 rfl
  have cy3_25 := Blk.cell (i := 3) (v := .int .i64 f.k) Ky_16 rfl
  have cy4_26 := Blk.cell (i := 4) (v := .slice AQ f.part.length cQ) Ky_16 rfl
  have cy5_27 := Blk.cell (i := 5) (v := .string f.map) Ky_16 rfl
  have ly_28 := Blk.lt Ky_16
  go_wp2_with fail
  refine (szEdit_any _ f _ _ ⟨_, rfl, HQ.out.up KB_19.out⟩ hsmF hm2 (by omega)).mono ?_
  rintro e w3 ⟨rfl, hb_29⟩
  have z_w3 : w2.heap.size ≤ w3.heap.size := hb_29.size
  have Ky_30 := Blk.up Ky_16 hb_29
  have Kx_31 := Blk.up Kx_17 hb_29
  have Ka_32 := Blk.up Ka_18 hb_29
  have KB_33 := Lib.hid (Below.tr KB_19.out hb_29)
  clear hb_15 ca0_20 la_21 cy0_22 cy1_23 cy2_24 cy3_25 cy4_26 cy5_27 ly_28 Ky_16 Kx_17 Ka_18 KB_19
  by_cases hneg3 : szE f X2 < 0
  · skip
    go_wp2_with fail
    go_ret
    exact ⟨rfl, KB_33.out⟩
  have hn3 : f.part.length ≤ 1048576 := szE_le2 (left := X2) (by omega) (by omega)
  have HN := Lib.hid hneg3
  have hlo := mrgOut_len xs e f
  clear hneg hle hneg2 hle2
  clear hb_29
  go_upto_region 11 with fail
  go_cut [8, 9] (fun p q wx => ∃ (Z : Nat) (A9 : Option Addr) (c9 : Nat), p = .pointer (some ⟨Z, 0, none⟩) ∧ q = .int .i64 (mrgCode xs e f) ∧ w3.heap.size ≤ Z ∧ Below w3.heap.size w3 wx ∧ Blk wx Z #[.slice A9 (mrgOut xs e f).length c9] 31 ∧ OwnRules wx w3.heap.size (.slice A9 (mrgOut xs e f).length c9) (mrgOut xs e f))
  case first =>
    have B0 := Below.drew (Below.refl w3.heap.size w3)
    have BA := Lib.hid (fun (o : Obj) => Below.drew (Below.alloc (Below.refl w3.heap.size w3) (Nat.le_refl _) o))
    have KD := keep166 Ka_32 Kx_31 Ky_30 B0
    have HBS := Lib.hid KB_33.out
    have HKA := Lib.hid Ka_32
    have HKX := Lib.hid Kx_31
    have HKY := Lib.hid Ky_30
    go_region_held3 (fun w' => Below w3.heap.size w3 w' ∧ w'.cell? ⟨w.heap.size, 0, none⟩ = some (.slice A xs.length c) ∧ w'.cell? ⟨w.heap.size + 1, 0, none⟩ = some (.int .i64 e.kind) ∧ w'.cell? ⟨w.heap.size + 1, 1, none⟩ = some (.int .i64 e.i) ∧ w'.cell? ⟨w.heap.size + 1, 2, none⟩ = some (.int .i64 e.j) ∧ w'.cell? ⟨w.heap.size + 1, 3, none⟩ = some (.int .i64 e.k) ∧ w'.cell? ⟨w.heap.size + 1, 4, none⟩ = some (.slice AR e.part.length cR) ∧ w'.cell? ⟨w.heap.size + 1, 5, none⟩ = some (.string e.map) ∧ w'.cell? ⟨w.heap.size + 2, 0, none⟩ = some (.int .i64 f.kind) ∧ w'.cell? ⟨w.heap.size + 2, 1, none⟩ = some (.int .i64 f.i) ∧ w'.cell? ⟨w.heap.size + 2, 2, none⟩ = some (.int .i64 f.j) ∧ w'.cell? ⟨w.heap.size + 2, 3, none⟩ = some (.int .i64 f.k) ∧ w'.cell? ⟨w.heap.size + 2, 4, none⟩ = some (.slice AQ f.part.length cQ) ∧ w'.cell? ⟨w.heap.size + 2, 5, none⟩ = some (.string f.map))
      (first | (with_reducible exact KD) | (with_reducible exact keep166 HKA.out HKX.out HKY.out (BA.out _)) | (with_reducible exact keep166 HKA.out HKX.out HKY.out b1) | (with_reducible exact keep166 HKA.out HKX.out HKY.out (b1.alloc z1 _)) | (with_reducible exact keep166 HKA.out HKX.out HKY.out b2) | (with_reducible exact keep166 HKA.out HKX.out HKY.out (b2.alloc z2 _)) | (with_reducible exact keep166 HKA.out HKX.out HKY.out b3) | (with_reducible exact keep166 HKA.out HKX.out HKY.out (b3.alloc z3 _)) | (with_reducible exact keep166 HKA.out HKX.out HKY.out b4) | (with_reducible exact keep166 HKA.out HKX.out HKY.out (b4.alloc z4 _)) | (with_reducible exact keep166 HKA.out HKX.out HKY.out (b4.setCell (Nat.le_refl _) _)) | (with_reducible exact keep166 HKA.out HKX.out HKY.out (b4.setCell z1 _)) | (with_reducible exact keep166 HKA.out HKX.out HKY.out (b4.setCell z2 _)) | (with_reducible exact keep166 HKA.out HKX.out HKY.out (b4.setCell z3 _)) | (with_reducible exact keep166 HKA.out HKX.out HKY.out (b4.setCell z4 _)))
      (first
        | ((fail_if_success (have hx1 := b1)); go_at_call 12; (refine (toGrammar_any _ xs _ (HG.out.up (by repeat (first | exact HBS.out | (refine Below.alloc ?_ (by first | omega | (simp; done) | (simp; omega)) _) | (refine Below.setCell ?_ (by first | exact Nat.le_refl _ | (show _ ≤ _; omega) | (simp; done) | (simp; omega)) _) | refine below_drewN ?_ _ | refine Below.drew ?_))) hn).mono ?_); rintro r u1 ⟨v1, rfl, own1, hb1⟩; have b1 : Below w3.heap.size w3 u1 := (by first | exact Below.undrew hb1 | exact (Below.unalloc (Below.undrew hb1)).1); have z1 := b1.size; (try (have KZ : Blk u1 w3.heap.size #[.slice none 0 0] 31 := (Below.unalloc (Below.undrew hb1)).2; have l1 := Blk.lt KZ)))
        | ((fail_if_success (have hx2 := b2)); go_at_call 13; (refine (toEditO_any _ e _ ⟨_, rfl, HR.out.up (by repeat (first | exact Below.tr HBS.out b1 | (refine Below.alloc ?_ (by first | omega | (simp; done) | (simp; omega)) _) | (refine Below.setCell ?_ (by first | exact Nat.le_refl _ | (show _ ≤ _; omega) | (simp; done) | (simp; omega)) _) | refine below_drewN ?_ _ | refine Below.drew ?_))⟩ hn2).mono ?_); rintro r u2 ⟨v2, rfl, own2, hb2⟩; have c2 : Below u1.heap.size u1 u2 := (by first | exact hb2 | exact (Below.unalloc hb2).1); have b2 := Below.tr b1 c2; have z2 := b2.size; have y2 := c2.size; (first | (have KZ := Blk.up KZ c2) | (have KZ : Blk u2 u1.heap.size #[.slice none 0 0] 31 := (Below.unalloc hb2).2) | skip); (try have l2 := Blk.lt KZ))
        | ((fail_if_success (have hx2 := b3)); go_at_call 13; (refine (toEditO_any _ f _ ⟨_, rfl, HQ.out.up (by repeat (first | exact Below.tr HBS.out b2 | (refine Below.alloc ?_ (by first | omega | (simp; done) | (simp; omega)) _) | (refine Below.setCell ?_ (by first | exact Nat.le_refl _ | (show _ ≤ _; omega) | (simp; done) | (simp; omega)) _) | refine below_drewN ?_ _ | refine Below.drew ?_))⟩ hn3).mono ?_); rintro r u3 ⟨v3, rfl, own3, hb3⟩; have c3 : Below u2.heap.size u2 u3 := (by first | exact hb3 | exact (Below.unalloc hb3).1); have b3 := Below.tr b2 c3; have z3 := b3.size; have y3 := c3.size; (first | (have KZ := Blk.up KZ c3) | (have KZ : Blk u3 u2.heap.size #[.slice none 0 0] 31 := (Below.unalloc hb3).2) | skip); (try have l3 := Blk.lt KZ))
        | (go_at_call 29; (refine (specMerge_any _ _ _ xs e f _ (OwnRules.sl1 own1 (by repeat (first | exact Below.tr c2 c3 | (refine Below.alloc ?_ (by first | omega | (simp; done) | (simp; omega)) _) | (refine Below.setCell ?_ (by first | exact Nat.le_refl _ | (show _ ≤ _; omega) | (simp; done) | (simp; omega)) _) | refine below_drewN ?_ _ | refine Below.drew ?_))) ⟨_, rfl, OwnRules.sl1 own2 (by repeat (first | exact c3 | (refine Below.alloc ?_ (by first | omega | (simp; done) | (simp; omega)) _) | (refine Below.setCell ?_ (by first | exact Nat.le_refl _ | (show _ ≤ _; omega) | (simp; done) | (simp; omega)) _) | refine below_drewN ?_ _ | refine Below.drew ?_))⟩ ⟨_, rfl, OwnRules.sl1 own3 (by repeat (first | exact Below.refl _ _ | (refine Below.alloc ?_ (by first | omega | (simp; done) | (simp; omega)) _) | (refine Below.setCell ?_ (by first | exact Nat.le_refl _ | (show _ ≤ _; omega) | (simp; done) | (simp; omega)) _) | refine below_drewN ?_ _ | refine Below.drew ?_))⟩ hn2 hn3 hsm hsmE hsmF hm hm2).mono ?_); rintro r u4 ⟨hb4, v4, own4, rfl⟩; obtain ⟨A9, c9, rfl, _⟩ := own_nil own4; have c4 : Below u3.heap.size u3 u4 := (by first | exact hb4 | exact (Below.unalloc hb4).1); have b4 := Below.tr b3 c4; have z4 := b4.size; have y4 := c4.size; (first | (have KZ := Blk.up KZ c4) | (have KZ : Blk u4 u3.heap.size #[.slice none 0 0] 31 := (Below.unalloc hb4).2) | skip); (try (have kz := Blk.cell (i := 0) (v := .slice none 0 0) KZ rfl; have fz := Blk.frozen KZ 0; have lz := Blk.lt KZ))))
    all_goals
      go_wp2_with fail
      go_meet
      have own5 : OwnRules u4 w3.heap.size _ _ := ownsRow_more own4 (base' := w3.heap.size) (by first | omega | (simp; omega))
      first
        | exact ⟨u4.heap.size, A9, c9, rfl, rfl, z4, b4.alloc z4 _, Blk.new _ _ _, World.ownsRow.alloc own5 _⟩
        | exact ⟨w3.heap.size, A9, c9, rfl, rfl, Nat.le_refl _, b4.setCell (show w3.heap.size ≤ (⟨w3.heap.size, 0, none⟩ : Addr).block from Nat.le_refl _) _, KZ.set 0 _, ownsRow_more (ownsRow_setCell_below own4 (a := ⟨w3.heap.size, 0, none⟩) (by first | (show _ < _; omega) | (simp; done) | (simp; omega)) _) (by first | omega | (simp; omega))⟩
        | exact ⟨u1.heap.size, A9, c9, rfl, rfl, z1, b4.setCell (show w3.heap.size ≤ (⟨u1.heap.size, 0, none⟩ : Addr).block from z1) _, KZ.set 0 _, ownsRow_more (ownsRow_setCell_below own4 (a := ⟨u1.heap.size, 0, none⟩) (by first | (show _ < _; omega) | (simp; done) | (simp; omega)) _) (by first | omega | (simp; omega))⟩
        | exact ⟨u2.heap.size, A9, c9, rfl, rfl, z2, b4.setCell (show w3.heap.size ≤ (⟨u2.heap.size, 0, none⟩ : Addr).block from z2) _, KZ.set 0 _, ownsRow_more (ownsRow_setCell_below own4 (a := ⟨u2.heap.size, 0, none⟩) (by first | (show _ < _; omega) | (simp; done) | (simp; omega)) _) (by first | omega | (simp; omega))⟩
        | exact ⟨u3.heap.size, A9, c9, rfl, rfl, z3, b4.setCell (show w3.heap.size ≤ (⟨u3.heap.size, 0, none⟩ : Addr).block from z3) _, KZ.set 0 _, ownsRow_more (ownsRow_setCell_below own4 (a := ⟨u3.heap.size, 0, none⟩) (by first | (show _ < _; omega) | (simp; done) | (simp; omega)) _) (by first | omega | (simp; omega))⟩
  case rest =>
    obtain ⟨Z, A9, c9, rfl, rfl, hZl, hbR, KZ, hown⟩ := hcut
    have KW := Lib.hid (OwnRules.sl hown)
    have lZ := Blk.lt KZ
    revert hbR KZ KW lZ
    clear hown
    generalize wc = w4
    intro hbR KZ KW lZ
    have hb_34 := hbR
    have z_w4 : w3.heap.size ≤ w4.heap.size := hb_34.size
    have Ky_35 := Blk.up Ky_30 hb_34
    have Kx_36 := Blk.up Kx_31 hb_34
    have Ka_37 := Blk.up Ka_32 hb_34
    have KB_38 := Lib.hid (Below.tr KB_33.out hb_34)
    clear Ky_30 Kx_31 Ka_32 KB_33
    have ca0_39 := Blk.cell (i := 0) (v := .slice A xs.length c) Ka_37 rfl
    have la_40 := Blk.lt Ka_37
    go_wp2_with fail
    refine (toGrammar_any _ xs _ (HG.out.up (by repeat (first | exact KB_38.out | (refine Below.alloc ?_ (by first | omega | (simp; done) | (simp; omega)) _) | (refine Below.setCell ?_ (by first | exact Nat.le_refl _ | (show _ ≤ _; omega) | (simp; done) | (simp; omega)) _) | refine below_drewN ?_ _ | refine Below.drew ?_))) hn).mono ?_
    rintro e w5 ⟨v4, rfl, own4, hb_41⟩
    have z_w5 : w4.heap.size ≤ w5.heap.size := hb_41.size
    have Ky_42 := Blk.up Ky_35 hb_41
    have Kx_43 := Blk.up Kx_36 hb_41
    have Ka_44 := Blk.up Ka_37 hb_41
    have KB_45 := Lib.hid (Below.tr KB_38.out hb_41)
    have Kz_46 := Blk.up KZ hb_41
    have KW_47 := Lib.hid (SlS.upN KW.out (by omega) hb_41)
    clear hb_34 ca0_39 la_40 Ky_35 Kx_36 Ka_37 KB_38 KZ KW
    obtain ⟨A4, c4, rfl, _⟩ := own_nil own4
    have KX := Lib.hid (OwnR.of own4)
    clear own4
    have cx0_48 := Blk.cell (i := 0) (v := .int .i64 e.kind) Kx_43 rfl
    have cx1_49 := Blk.cell (i := 1) (v := .int .i64 e.i) Kx_43 rfl
    have cx2_50 := Blk.cell (i := 2) (v := .int .i64 e.j) Kx_43 rfl
    have cx3_51 := Blk.cell (i := 3) (v := .int .i64 e.k) Kx_43 rfl
    have cx4_52 := Blk.cell (i := 4) (v := .slice AR e.part.length cR) Kx_43 rfl
    have cx5_53 := Blk.cell (i := 5) (v := .string e.map) Kx_43 rfl
    have lx_54 := Blk.lt Kx_43
    go_wp2_with fail
    refine (toEditO_any _ e _ ⟨_, rfl, HR.out.up (by repeat (first | exact KB_45.out | (refine Below.alloc ?_ (by first | omega | (simp; done) | (simp; omega)) _) | (refine Below.setCell ?_ (by first | exact Nat.le_refl _ | (show _ ≤ _; omega) | (simp; done) | (simp; omega)) _) | refine below_drewN ?_ _ | refine Below.drew ?_))⟩ hn2).mono ?_
    rintro e w6 ⟨vE, rfl, own5, hb_55⟩
    have Kp_56 : Blk w6 (w5.heap.size) #[.slice A4 xs.length c4] 31 := by have := (Below.unalloc hb_55).2; simpa [Blk] using this
    replace hb_55 := (Below.unalloc hb_55).1
    have z_w6 : w5.heap.size ≤ w6.heap.size := hb_55.size
    have Ky_57 := Blk.up Ky_42 hb_55
    have Kx_58 := Blk.up Kx_43 hb_55
    have Ka_59 := Blk.up Ka_44 hb_55
    have KB_60 := Lib.hid (Below.tr KB_45.out hb_55)
    have Kz_61 := Blk.up Kz_46 hb_55
    have KW_62 := Lib.hid (SlS.upN KW_47.out (by omega) hb_55)
    have KX_63 := Lib.hid (OwnR.up KX.out hb_55)
    clear hb_41 cx0_48 cx1_49 cx2_50 cx3_51 cx4_52 cx5_53 lx_54 Ky_42 Kx_43 Ka_44 KB_45 Kz_46 KW_47 KX
    obtain ⟨A5, c5, rfl, _⟩ := own_nil own5
    have KE := Lib.hid (OwnR.of (ownsRow_more own5 (base' := w5.heap.size + 1) (by simp)))
    clear own5
    have cy0_64 := Blk.cell (i := 0) (v := .int .i64 f.kind) Ky_57 rfl
    have cy1_65 := Blk.cell (i := 1) (v := .int .i64 f.i) Ky_57 rfl
    have cy2_66 := Blk.cell (i := 2) (v := .int .i64 f.j) Ky_57 rfl
    have cy3_67 := Blk.cell (i := 3) (v := .int .i64 f.k) Ky_57 rfl
    have cy4_68 := Blk.cell (i := 4) (v := .slice AQ f.part.length cQ) Ky_57 rfl
    have cy5_69 := Blk.cell (i := 5) (v := .string f.map) Ky_57 rfl
    have ly_70 := Blk.lt Ky_57
    go_wp2_with fail
    refine (toEditO_any _ f _ ⟨_, rfl, HQ.out.up (by repeat (first | exact KB_60.out | (refine Below.alloc ?_ (by first | omega | (simp; done) | (simp; omega)) _) | (refine Below.setCell ?_ (by first | exact Nat.le_refl _ | (show _ ≤ _; omega) | (simp; done) | (simp; omega)) _) | refine below_drewN ?_ _ | refine Below.drew ?_))⟩ hn3).mono ?_
    rintro e w7 ⟨vF, rfl, own6, hb_71⟩
    have Kq_72 : Blk w7 (w6.heap.size) #[.int .i64 e.kind, .int .i64 e.i, .int .i64 e.j, .int .i64 e.k, .slice A5 e.part.length c5, .string e.map] 36 := by have := (Below.unalloc hb_71).2; simpa [Blk] using this
    replace hb_71 := (Below.unalloc hb_71).1
    have z_w7 : w6.heap.size ≤ w7.heap.size := hb_71.size
    have Ky_73 := Blk.up Ky_57 hb_71
    have Kx_74 := Blk.up Kx_58 hb_71
    have Ka_75 := Blk.up Ka_59 hb_71
    have KB_76 := Lib.hid (Below.tr KB_60.out hb_71)
    have Kz_77 := Blk.up Kz_61 hb_71
    have KW_78 := Lib.hid (SlS.upN KW_62.out (by omega) hb_71)
    have KX_79 := Lib.hid (OwnR.up KX_63.out hb_71)
    have Kp_80 := Blk.up Kp_56 hb_71
    have KE_81 := Lib.hid (OwnR.up KE.out hb_71)
    clear hb_55 cy0_64 cy1_65 cy2_66 cy3_67 cy4_68 cy5_69 ly_70 Ky_57 Kx_58 Ka_59 KB_60 Kz_61 KW_62 KX_63 Kp_56 KE
    obtain ⟨A6, c6, rfl, _⟩ := own_nil own6
    have KF := Lib.hid (OwnR.of (ownsRow_more own6 (base' := w6.heap.size + 1) (by simp)))
    clear own6
    have cp0_82 := Blk.cell (i := 0) (v := .slice A4 xs.length c4) Kp_80 rfl
    have lp_83 := Blk.lt Kp_80
    have cq0_84 := Blk.cell (i := 0) (v := .int .i64 e.kind) Kq_72 rfl
    have cq1_85 := Blk.cell (i := 1) (v := .int .i64 e.i) Kq_72 rfl
    have cq2_86 := Blk.cell (i := 2) (v := .int .i64 e.j) Kq_72 rfl
    have cq3_87 := Blk.cell (i := 3) (v := .int .i64 e.k) Kq_72 rfl
    have cq4_88 := Blk.cell (i := 4) (v := .slice A5 e.part.length c5) Kq_72 rfl
    have cq5_89 := Blk.cell (i := 5) (v := .string e.map) Kq_72 rfl
    have lq_90 := Blk.lt Kq_72
    go_wp2_with fail
    refine (implMerge_any _ _ _ xs e f _ (SlS.up (OwnR.sl KX_79.out) (by repeat (first | exact Below.refl _ _ | (refine Below.alloc ?_ (by first | omega | (simp; done) | (simp; omega)) _) | (refine Below.setCell ?_ (by first | exact Nat.le_refl _ | (show _ ≤ _; omega) | (simp; done) | (simp; omega)) _) | refine below_drewN ?_ _ | refine Below.drew ?_))) ⟨_, rfl, SlS.up (OwnR.sl KE_81.out) (by repeat (first | exact Below.refl _ _ | (refine Below.alloc ?_ (by first | omega | (simp; done) | (simp; omega)) _) | (refine Below.setCell ?_ (by first | exact Nat.le_refl _ | (show _ ≤ _; omega) | (simp; done) | (simp; omega)) _) | refine below_drewN ?_ _ | refine Below.drew ?_))⟩ ⟨_, rfl, SlS.up (OwnR.sl KF.out) (by repeat (first | exact Below.refl _ _ | (refine Below.alloc ?_ (by first | omega | (simp; done) | (simp; omega)) _) | (refine Below.setCell ?_ (by first | exact Nat.le_refl _ | (show _ ≤ _; omega) | (simp; done) | (simp; omega)) _) | refine below_drewN ?_ _ | refine Below.drew ?_))⟩ hn hn2 hn3 hm hm2 (tabB HT.out (by repeat (first | exact KB_76.out | (refine Below.alloc ?_ (by first | omega | (simp; done) | (simp; omega)) _) | (refine Below.setCell ?_ (by first | exact Nat.le_refl _ | (show _ ≤ _; omega) | (simp; done) | (simp; omega)) _) | refine below_drewN ?_ _ | refine Below.drew ?_)))).mono ?_
    rintro e w8 ⟨hb_91, vQ, own7, rfl⟩
    have Kr_92 : Blk w8 (w7.heap.size) #[.int .i64 f.kind, .int .i64 f.i, .int .i64 f.j, .int .i64 f.k, .slice A6 f.part.length c6, .string f.map] 36 := by have := (Below.unalloc hb_91).2; simpa [Blk] using this
    replace hb_91 := (Below.unalloc hb_91).1
    have z_w8 : w7.heap.size ≤ w8.heap.size := hb_91.size
    have Ky_93 := Blk.up Ky_73 hb_91
    have Kx_94 := Blk.up Kx_74 hb_91
    have Ka_95 := Blk.up Ka_75 hb_91
    have KB_96 := Lib.hid (Below.tr KB_76.out hb_91)
    have Kz_97 := Blk.up Kz_77 hb_91
    have KW_98 := Lib.hid (SlS.upN KW_78.out (by omega) hb_91)
    have KX_99 := Lib.hid (OwnR.up KX_79.out hb_91)
    have Kp_100 := Blk.up Kp_80 hb_91
    have KE_101 := Lib.hid (OwnR.up KE_81.out hb_91)
    have Kq_102 := Blk.up Kq_72 hb_91
    have KF_103 := Lib.hid (OwnR.up KF.out hb_91)
    clear hb_71 cp0_82 lp_83 cq0_84 cq1_85 cq2_86 cq3_87 cq4_88 cq5_89 lq_90 Ky_73 Kx_74 Ka_75 KB_76 Kz_77 KW_78 KX_79 Kp_80 KE_81 Kq_72 KF
    obtain ⟨A7, c7, rfl, _⟩ := own_nil own7
    have KQ := Lib.hid (OwnR.of (ownsRow_more own7 (base' := w7.heap.size + 1) (by simp)))
    clear own7
    have qc : ((mrgCode xs e f) != (mrgCode xs e f)) = false := by simp
    have cz0_104 := Blk.cell (i := 0) (v := .slice A9 (mrgOut xs e f).length c9) Kz_97 rfl
    have lz_105 := Blk.lt Kz_97
    go_wp2_with fail
    refine (eqGrammar_any _ _ (mrgOut xs e f) _ (SlS.up (OwnR.sl KQ.out) (by repeat (first | exact Below.refl _ _ | (refine Below.alloc ?_ (by first | omega | (simp; done) | (simp; omega)) _) | (refine Below.setCell ?_ (by first | exact Nat.le_refl _ | (show _ ≤ _; omega) | (simp; done) | (simp; omega)) _) | refine below_drewN ?_ _ | refine Below.drew ?_))) (SlS.le (SlS.below KW_98.out (by repeat (first | exact Below.refl _ _ | (refine Below.alloc ?_ (by first | omega | (simp; done) | (simp; omega)) _) | (refine Below.setCell ?_ (by first | exact Nat.le_refl _ | (show _ ≤ _; omega) | (simp; done) | (simp; omega)) _) | refine below_drewN ?_ _ | refine Below.drew ?_))) (by simp; omega))).mono ?_
    rintro e w9 ⟨rfl, hb_106⟩
    have Kg_107 : Blk w9 (w8.heap.size) #[.slice A7 (mrgOut xs e f).length c7] 31 := by have := (Below.unalloc hb_106).2; simpa [Blk] using this
    replace hb_106 := (Below.unalloc hb_106).1
    have z_w9 : w8.heap.size ≤ w9.heap.size := hb_106.size
    have Ky_108 := Blk.up Ky_93 hb_106
    have Kx_109 := Blk.up Kx_94 hb_106
    have Ka_110 := Blk.up Ka_95 hb_106
    have KB_111 := Lib.hid (Below.tr KB_96.out hb_106)
    have Kz_112 := Blk.up Kz_97 hb_106
    have KW_113 := Lib.hid (SlS.upN KW_98.out (by omega) hb_106)
    have KX_114 := Lib.hid (OwnR.up KX_99.out hb_106)
    have Kp_115 := Blk.up Kp_100 hb_106
    have KE_116 := Lib.hid (OwnR.up KE_101.out hb_106)
    have Kq_117 := Blk.up Kq_102 hb_106
    have KF_118 := Lib.hid (OwnR.up KF_103.out hb_106)
    have Kr_119 := Blk.up Kr_92 hb_106
    have KQ_120 := Lib.hid (OwnR.up KQ.out hb_106)
    clear hb_91 cz0_104 lz_105 Ky_93 Kx_94 Ka_95 KB_96 Kz_97 KW_98 KX_99 Kp_100 KE_101 Kq_102 KF_103 Kr_92 KQ
    have cp0_121 := Blk.cell (i := 0) (v := .slice A4 xs.length c4) Kp_115 rfl
    have lp_122 := Blk.lt Kp_115
    have ca0_123 := Blk.cell (i := 0) (v := .slice A xs.length c) Ka_110 rfl
    have la_124 := Blk.lt Ka_110
    go_wp2_with fail
    have KD := keep11 Kp_115 Ka_110 (Below.drew (Below.refl w9.heap.size w9))
    have HKA := Lib.hid Ka_110
    have HKP := Lib.hid Kp_115
    have HBS := Lib.hid KB_111.out
    have HXS := Lib.hid (OwnR.sl KX_114.out)
    go_region_held3 (fun w' => Below w9.heap.size w9 w' ∧ w'.cell? ⟨w5.heap.size, 0, none⟩ = some (.slice A4 xs.length c4) ∧ w'.cell? ⟨w.heap.size, 0, none⟩ = some (.slice A xs.length c))
      (first | (with_reducible exact KD) | (with_reducible exact keep11 HKP.out HKA.out b8) | (with_reducible exact keep11 HKP.out HKA.out b9))
      (first
        | (go_at_call 12; (refine (toGrammar_any _ xs _ (HG.out.up (by repeat (first | exact HBS.out | (refine Below.alloc ?_ (by first | omega | (simp; done) | (simp; omega)) _) | (refine Below.setCell ?_ (by first | exact Nat.le_refl _ | (show _ ≤ _; omega) | (simp; done) | (simp; omega)) _) | refine below_drewN ?_ _ | refine Below.drew ?_))) hn).mono ?_); rintro r w8' ⟨v8, rfl, own8, hb8⟩; have b8 := Below.undrew hb8)
        | (go_at_call 15; (refine (eqGrammar_any _ _ xs _ (SlS.up HXS.out b8) own8.sl).mono ?_); rintro r w10 ⟨rfl, hb9⟩; have b9 := Below.tr b8 hb9))
    have hbR9 := b9
    clear KD HKA HKP HBS HXS b8 b9 hb8 hb9 own8
    have hb_125 := hbR9
    have z_w10 : w9.heap.size ≤ w10.heap.size := hb_125.size
    have Ky_126 := Blk.up Ky_108 hb_125
    have Kx_127 := Blk.up Kx_109 hb_125
    have Ka_128 := Blk.up Ka_110 hb_125
    have KB_129 := Lib.hid (Below.tr KB_111.out hb_125)
    have Kz_130 := Blk.up Kz_112 hb_125
    have KW_131 := Lib.hid (SlS.upN KW_113.out (by omega) hb_125)
    have KX_132 := Lib.hid (OwnR.up KX_114.out hb_125)
    have Kp_133 := Blk.up Kp_115 hb_125
    have KE_134 := Lib.hid (OwnR.up KE_116.out hb_125)
    have Kq_135 := Blk.up Kq_117 hb_125
    have KF_136 := Lib.hid (OwnR.up KF_118.out hb_125)
    have Kr_137 := Blk.up Kr_119 hb_125
    have KQ_138 := Lib.hid (OwnR.up KQ_120.out hb_125)
    have Kg_139 := Blk.up Kg_107 hb_125
    clear hb_106 cp0_121 lp_122 ca0_123 la_124 Ky_108 Kx_109 Ka_110 KB_111 Kz_112 KW_113 KX_114 Kp_115 KE_116 Kq_117 KF_118 Kr_119 KQ_120 Kg_107
    have cq0_140 := Blk.cell (i := 0) (v := .int .i64 e.kind) Kq_135 rfl
    have cq1_141 := Blk.cell (i := 1) (v := .int .i64 e.i) Kq_135 rfl
    have cq2_142 := Blk.cell (i := 2) (v := .int .i64 e.j) Kq_135 rfl
    have cq3_143 := Blk.cell (i := 3) (v := .int .i64 e.k) Kq_135 rfl
    have cq4_144 := Blk.cell (i := 4) (v := .slice A5 e.part.length c5) Kq_135 rfl
    have cq5_145 := Blk.cell (i := 5) (v := .string e.map) Kq_135 rfl
    have lq_146 := Blk.lt Kq_135
    have cx0_147 := Blk.cell (i := 0) (v := .int .i64 e.kind) Kx_127 rfl
    have cx1_148 := Blk.cell (i := 1) (v := .int .i64 e.i) Kx_127 rfl
    have cx2_149 := Blk.cell (i := 2) (v := .int .i64 e.j) Kx_127 rfl
    have cx3_150 := Blk.cell (i := 3) (v := .int .i64 e.k) Kx_127 rfl
    have cx4_151 := Blk.cell (i := 4) (v := .slice AR e.part.length cR) Kx_127 rfl
    have cx5_152 := Blk.cell (i := 5) (v := .string e.map) Kx_127 rfl
    have lx_153 := Blk.lt Kx_127
    go_wp2_with fail
    have KD := keep66 Kq_135 Kx_127 (Below.drew (Below.refl w10.heap.size w10))
    have HKA := Lib.hid Kx_127
    have HKP := Lib.hid Kq_135
    have HBS := Lib.hid KB_129.out
    have HXS := Lib.hid (OwnR.sl KE_134.out)
    go_region_held3 (fun w' => Below w10.heap.size w10 w' ∧ w'.cell? ⟨w6.heap.size, 0, none⟩ = some (.int .i64 e.kind) ∧ w'.cell? ⟨w6.heap.size, 1, none⟩ = some (.int .i64 e.i) ∧ w'.cell? ⟨w6.heap.size, 2, none⟩ = some (.int .i64 e.j) ∧ w'.cell? ⟨w6.heap.size, 3, none⟩ = some (.int .i64 e.k) ∧ w'.cell? ⟨w6.heap.size, 4, none⟩ = some (.slice A5 e.part.length c5) ∧ w'.cell? ⟨w6.heap.size, 5, none⟩ = some (.string e.map) ∧ w'.cell? ⟨w.heap.size + 1, 0, none⟩ = some (.int .i64 e.kind) ∧ w'.cell? ⟨w.heap.size + 1, 1, none⟩ = some (.int .i64 e.i) ∧ w'.cell? ⟨w.heap.size + 1, 2, none⟩ = some (.int .i64 e.j) ∧ w'.cell? ⟨w.heap.size + 1, 3, none⟩ = some (.int .i64 e.k) ∧ w'.cell? ⟨w.heap.size + 1, 4, none⟩ = some (.slice AR e.part.length cR) ∧ w'.cell? ⟨w.heap.size + 1, 5, none⟩ = some (.string e.map))
      (first | (with_reducible exact KD) | (with_reducible exact keep66 HKP.out HKA.out b10) | (with_reducible exact keep66 HKP.out HKA.out b11))
      (first
        | (go_at_call 13; (refine (toEditO_any _ e _ ⟨_, rfl, HR.out.up (by repeat (first | exact HBS.out | (refine Below.alloc ?_ (by first | omega | (simp; done) | (simp; omega)) _) | (refine Below.setCell ?_ (by first | exact Nat.le_refl _ | (show _ ≤ _; omega) | (simp; done) | (simp; omega)) _) | refine below_drewN ?_ _ | refine Below.drew ?_))⟩ hn2).mono ?_); rintro r w10' ⟨v10, rfl, own10, hb10⟩; have b10 := Below.undrew hb10)
        | (go_at_call 16; (refine (eqEdit_any _ _ e _ ⟨_, rfl, SlS.up HXS.out b10⟩ ⟨_, rfl, own10.sl⟩).mono ?_); rintro r w11 ⟨rfl, hb11⟩; have b11 := Below.tr b10 hb11))
    have hbR11 := b11
    clear KD HKA HKP HBS HXS b10 b11 hb10 hb11 own10
    have hb_154 := hbR11
    have z_w11 : w10.heap.size ≤ w11.heap.size := hb_154.size
    have Ky_155 := Blk.up Ky_126 hb_154
    have Kx_156 := Blk.up Kx_127 hb_154
    have Ka_157 := Blk.up Ka_128 hb_154
    have KB_158 := Lib.hid (Below.tr KB_129.out hb_154)
    have Kz_159 := Blk.up Kz_130 hb_154
    have KW_160 := Lib.hid (SlS.upN KW_131.out (by omega) hb_154)
    have KX_161 := Lib.hid (OwnR.up KX_132.out hb_154)
    have Kp_162 := Blk.up Kp_133 hb_154
    have KE_163 := Lib.hid (OwnR.up KE_134.out hb_154)
    have Kq_164 := Blk.up Kq_135 hb_154
    have KF_165 := Lib.hid (OwnR.up KF_136.out hb_154)
    have Kr_166 := Blk.up Kr_137 hb_154
    have KQ_167 := Lib.hid (OwnR.up KQ_138.out hb_154)
    have Kg_168 := Blk.up Kg_139 hb_154
    clear hb_125 cq0_140 cq1_141 cq2_142 cq3_143 cq4_144 cq5_145 lq_146 cx0_147 cx1_148 cx2_149 cx3_150 cx4_151 cx5_152 lx_153 Ky_126 Kx_127 Ka_128 KB_129 Kz_130 KW_131 KX_132 Kp_133 KE_134 Kq_135 KF_136 Kr_137 KQ_138 Kg_139
    have cr0_169 := Blk.cell (i := 0) (v := .int .i64 f.kind) Kr_166 rfl
    have cr1_170 := Blk.cell (i := 1) (v := .int .i64 f.i) Kr_166 rfl
    have cr2_171 := Blk.cell (i := 2) (v := .int .i64 f.j) Kr_166 rfl
    have cr3_172 := Blk.cell (i := 3) (v := .int .i64 f.k) Kr_166 rfl
    have cr4_173 := Blk.cell (i := 4) (v := .slice A6 f.part.length c6) Kr_166 rfl
    have cr5_174 := Blk.cell (i := 5) (v := .string f.map) Kr_166 rfl
    have lr_175 := Blk.lt Kr_166
    have cy0_176 := Blk.cell (i := 0) (v := .int .i64 f.kind) Ky_155 rfl
    have cy1_177 := Blk.cell (i := 1) (v := .int .i64 f.i) Ky_155 rfl
    have cy2_178 := Blk.cell (i := 2) (v := .int .i64 f.j) Ky_155 rfl
    have cy3_179 := Blk.cell (i := 3) (v := .int .i64 f.k) Ky_155 rfl
    have cy4_180 := Blk.cell (i := 4) (v := .slice AQ f.part.length cQ) Ky_155 rfl
    have cy5_181 := Blk.cell (i := 5) (v := .string f.map) Ky_155 rfl
    have ly_182 := Blk.lt Ky_155
    go_wp2_with fail
    have KD := keep66 Kr_166 Ky_155 (Below.drew (Below.refl w11.heap.size w11))
    have HKA := Lib.hid Ky_155
    have HKP := Lib.hid Kr_166
    have HBS := Lib.hid KB_158.out
    have HXS := Lib.hid (OwnR.sl KF_165.out)
    go_region_held3 (fun w' => Below w11.heap.size w11 w' ∧ w'.cell? ⟨w7.heap.size, 0, none⟩ = some (.int .i64 f.kind) ∧ w'.cell? ⟨w7.heap.size, 1, none⟩ = some (.int .i64 f.i) ∧ w'.cell? ⟨w7.heap.size, 2, none⟩ = some (.int .i64 f.j) ∧ w'.cell? ⟨w7.heap.size, 3, none⟩ = some (.int .i64 f.k) ∧ w'.cell? ⟨w7.heap.size, 4, none⟩ = some (.slice A6 f.part.length c6) ∧ w'.cell? ⟨w7.heap.size, 5, none⟩ = some (.string f.map) ∧ w'.cell? ⟨w.heap.size + 2, 0, none⟩ = some (.int .i64 f.kind) ∧ w'.cell? ⟨w.heap.size + 2, 1, none⟩ = some (.int .i64 f.i) ∧ w'.cell? ⟨w.heap.size + 2, 2, none⟩ = some (.int .i64 f.j) ∧ w'.cell? ⟨w.heap.size + 2, 3, none⟩ = some (.int .i64 f.k) ∧ w'.cell? ⟨w.heap.size + 2, 4, none⟩ = some (.slice AQ f.part.length cQ) ∧ w'.cell? ⟨w.heap.size + 2, 5, none⟩ = some (.string f.map))
      (first | (with_reducible exact KD) | (with_reducible exact keep66 HKP.out HKA.out b10) | (with_reducible exact keep66 HKP.out HKA.out b11))
      (first
        | (go_at_call 13; (refine (toEditO_any _ f _ ⟨_, rfl, HQ.out.up (by repeat (first | exact HBS.out | (refine Below.alloc ?_ (by first | omega | (simp; done) | (simp; omega)) _) | (refine Below.setCell ?_ (by first | exact Nat.le_refl _ | (show _ ≤ _; omega) | (simp; done) | (simp; omega)) _) | refine below_drewN ?_ _ | refine Below.drew ?_))⟩ hn3).mono ?_); rintro r w10' ⟨v10, rfl, own10, hb10⟩; have b10 := Below.undrew hb10)
        | (go_at_call 16; (refine (eqEdit_any _ _ f _ ⟨_, rfl, SlS.up HXS.out b10⟩ ⟨_, rfl, own10.sl⟩).mono ?_); rintro r w12 ⟨rfl, hb11⟩; have b11 := Below.tr b10 hb11))
    have hbR11 := b11
    clear KD HKA HKP HBS HXS b10 b11 hb10 hb11 own10
    have hb_183 := hbR11
    have z_w12 : w11.heap.size ≤ w12.heap.size := hb_183.size
    have Ky_184 := Blk.up Ky_155 hb_183
    have Kx_185 := Blk.up Kx_156 hb_183
    have Ka_186 := Blk.up Ka_157 hb_183
    have KB_187 := Lib.hid (Below.tr KB_158.out hb_183)
    have Kz_188 := Blk.up Kz_159 hb_183
    have KW_189 := Lib.hid (SlS.upN KW_160.out (by omega) hb_183)
    have KX_190 := Lib.hid (OwnR.up KX_161.out hb_183)
    have Kp_191 := Blk.up Kp_162 hb_183
    have KE_192 := Lib.hid (OwnR.up KE_163.out hb_183)
    have Kq_193 := Blk.up Kq_164 hb_183
    have KF_194 := Lib.hid (OwnR.up KF_165.out hb_183)
    have Kr_195 := Blk.up Kr_166 hb_183
    have KQ_196 := Lib.hid (OwnR.up KQ_167.out hb_183)
    have Kg_197 := Blk.up Kg_168 hb_183
    clear hb_154 cr0_169 cr1_170 cr2_171 cr3_172 cr4_173 cr5_174 lr_175 cy0_176 cy1_177 cy2_178 cy3_179 cy4_180 cy5_181 ly_182 Ky_155 Kx_156 Ka_157 KB_158 Kz_159 KW_160 KX_161 Kp_162 KE_163 Kq_164 KF_165 Kr_166 KQ_167 Kg_168
    have cp0_198 := Blk.cell (i := 0) (v := .slice A4 xs.length c4) Kp_191 rfl
    have lp_199 := Blk.lt Kp_191
    go_wp2_with fail
    refine (markGrammar1 _ _ xs _ (KX_190.out).1 (by omega)).mono ?_
    rintro e w13 ⟨rfl, ho_201, hg_200⟩
    have hc_202 := chg_of KX_190.out hg_200
    have z_w13 : w12.heap.size ≤ w13.heap.size := Chg.size hc_202
    have Ky_203 := Blk.chg Ky_184 hc_202 (by omega)
    have Kx_204 := Blk.chg Kx_185 hc_202 (by omega)
    have Ka_205 := Blk.chg Ka_186 hc_202 (by omega)
    have KB_206 := Lib.hid (Below.chg KB_187.out (by have := Below.size KB_187.out; omega) hc_202 (by omega))
    have Kz_207 := Blk.chg Kz_188 hc_202 (by omega)
    have KW_208 := Lib.hid (SlS.chgN KW_189.out (by omega) hc_202 (by omega))
    have KX_209 := Lib.hid (OwnR.markedC KX_190.out ho_201 hc_202)
    have Kp_210 := Blk.chg Kp_191 hc_202 (by omega)
    have KE_211 := Lib.hid (OwnR.chg KE_192.out hc_202 (by omega))
    have Kq_212 := Blk.chg Kq_193 hc_202 (by omega)
    have KF_213 := Lib.hid (OwnR.chg KF_194.out hc_202 (by omega))
    have Kr_214 := Blk.chg Kr_195 hc_202 (by omega)
    have KQ_215 := Lib.hid (OwnR.chg KQ_196.out hc_202 (by omega))
    have Kg_216 := Blk.chg Kg_197 hc_202 (by omega)
    clear hb_183 cp0_198 lp_199 Ky_184 Kx_185 Ka_186 KB_187 Kz_188 KW_189 KX_190 Kp_191 KE_192 Kq_193 KF_194 Kr_195 KQ_196 Kg_197 ho_201 hg_200 hc_202
    clear Kp_210
    have cq0_217 := Blk.cell (i := 0) (v := .int .i64 e.kind) Kq_212 rfl
    have cq1_218 := Blk.cell (i := 1) (v := .int .i64 e.i) Kq_212 rfl
    have cq2_219 := Blk.cell (i := 2) (v := .int .i64 e.j) Kq_212 rfl
    have cq3_220 := Blk.cell (i := 3) (v := .int .i64 e.k) Kq_212 rfl
    have cq4_221 := Blk.cell (i := 4) (v := .slice A5 e.part.length c5) Kq_212 rfl
    have cq5_222 := Blk.cell (i := 5) (v := .string e.map) Kq_212 rfl
    have lq_223 := Blk.lt Kq_212
    go_wp2_with fail
    refine (markEdit_any _ _ e (1 + 3 * xs.length) _ (KE_211.out).1 (by omega) (by omega)).mono ?_
    rintro e w14 ⟨rfl, ho_225, hg_224⟩
    have hc_226 := chg_of KE_211.out hg_224
    have z_w14 : w13.heap.size ≤ w14.heap.size := Chg.size hc_226
    have Ky_227 := Blk.chg Ky_203 hc_226 (by omega)
    have Kx_228 := Blk.chg Kx_204 hc_226 (by omega)
    have Ka_229 := Blk.chg Ka_205 hc_226 (by omega)
    have KB_230 := Lib.hid (Below.chg KB_206.out (by have := Below.size KB_206.out; omega) hc_226 (by omega))
    have Kz_231 := Blk.chg Kz_207 hc_226 (by omega)
    have KW_232 := Lib.hid (SlS.chgN KW_208.out (by omega) hc_226 (by omega))
    have KX_233 := Lib.hid (OwnR.chg KX_209.out hc_226 (by omega))
    have KE_234 := Lib.hid (OwnR.markedC KE_211.out ho_225 hc_226)
    have Kq_235 := Blk.chg Kq_212 hc_226 (by omega)
    have KF_236 := Lib.hid (OwnR.chg KF_213.out hc_226 (by omega))
    have Kr_237 := Blk.chg Kr_214 hc_226 (by omega)
    have KQ_238 := Lib.hid (OwnR.chg KQ_215.out hc_226 (by omega))
    have Kg_239 := Blk.chg Kg_216 hc_226 (by omega)
    clear cq0_217 cq1_218 cq2_219 cq3_220 cq4_221 cq5_222 lq_223 Ky_203 Kx_204 Ka_205 KB_206 Kz_207 KW_208 KX_209 KE_211 Kq_212 KF_213 Kr_214 KQ_215 Kg_216 ho_225 hg_224 hc_226
    clear Kq_235
    have cr0_240 := Blk.cell (i := 0) (v := .int .i64 f.kind) Kr_237 rfl
    have cr1_241 := Blk.cell (i := 1) (v := .int .i64 f.i) Kr_237 rfl
    have cr2_242 := Blk.cell (i := 2) (v := .int .i64 f.j) Kr_237 rfl
    have cr3_243 := Blk.cell (i := 3) (v := .int .i64 f.k) Kr_237 rfl
    have cr4_244 := Blk.cell (i := 4) (v := .slice A6 f.part.length c6) Kr_237 rfl
    have cr5_245 := Blk.cell (i := 5) (v := .string f.map) Kr_237 rfl
    have lr_246 := Blk.lt Kr_237
    go_wp2_with fail
    refine (markEdit_any _ _ f (1 + 3 * xs.length + 3 * e.part.length) _ (KF_236.out).1 (by omega) (by omega)).mono ?_
    rintro e w15 ⟨rfl, ho_248, hg_247⟩
    have hc_249 := chg_of KF_236.out hg_247
    have z_w15 : w14.heap.size ≤ w15.heap.size := Chg.size hc_249
    have Ky_250 := Blk.chg Ky_227 hc_249 (by omega)
    have Kx_251 := Blk.chg Kx_228 hc_249 (by omega)
    have Ka_252 := Blk.chg Ka_229 hc_249 (by omega)
    have KB_253 := Lib.hid (Below.chg KB_230.out (by have := Below.size KB_230.out; omega) hc_249 (by omega))
    have Kz_254 := Blk.chg Kz_231 hc_249 (by omega)
    have KW_255 := Lib.hid (SlS.chgN KW_232.out (by omega) hc_249 (by omega))
    have KX_256 := Lib.hid (OwnR.chg KX_233.out hc_249 (by omega))
    have KE_257 := Lib.hid (OwnR.chg KE_234.out hc_249 (by omega))
    have KF_258 := Lib.hid (OwnR.markedC KF_236.out ho_248 hc_249)
    have Kr_259 := Blk.chg Kr_237 hc_249 (by omega)
    have KQ_260 := Lib.hid (OwnR.chg KQ_238.out hc_249 (by omega))
    have Kg_261 := Blk.chg Kg_239 hc_249 (by omega)
    clear cr0_240 cr1_241 cr2_242 cr3_243 cr4_244 cr5_245 lr_246 Ky_227 Kx_228 Ka_229 KB_230 Kz_231 KW_232 KX_233 KE_234 KF_236 Kr_237 KQ_238 Kg_239 ho_248 hg_247 hc_249
    clear Kr_259
    have e0 : (decide (((1 + 3 * xs.length + 3 * e.part.length + 3 * f.part.length : Nat) : Int) < 0)) = false := by simp; omega
    have cg0_262 := Blk.cell (i := 0) (v := .slice A7 (mrgOut xs e f).length c7) Kg_261 rfl
    have lg_263 := Blk.lt Kg_261
    have cz0_264 := Blk.cell (i := 0) (v := .slice A9 (mrgOut xs e f).length c9) Kz_254 rfl
    have lz_265 := Blk.lt Kz_254
    go_wp2_with fail
    refine (eqGrammar_any _ _ (mrgOut xs e f) _ (OwnR.sl KQ_260.out) (SlS.le KW_255.out (by omega))).mono ?_
    rintro e w16 ⟨rfl, hb_266⟩
    have z_w16 : w15.heap.size ≤ w16.heap.size := hb_266.size
    have Ky_267 := Blk.up Ky_250 hb_266
    have Kx_268 := Blk.up Kx_251 hb_266
    have Ka_269 := Blk.up Ka_252 hb_266
    have KB_270 := Lib.hid (Below.tr KB_253.out hb_266)
    have Kz_271 := Blk.up Kz_254 hb_266
    have KW_272 := Lib.hid (SlS.upN KW_255.out (by omega) hb_266)
    have KX_273 := Lib.hid (OwnR.up KX_256.out hb_266)
    have KE_274 := Lib.hid (OwnR.up KE_257.out hb_266)
    have KF_275 := Lib.hid (OwnR.up KF_258.out hb_266)
    have KQ_276 := Lib.hid (OwnR.up KQ_260.out hb_266)
    have Kg_277 := Blk.up Kg_261 hb_266
    clear cg0_262 lg_263 cz0_264 lz_265 Ky_250 Kx_251 Ka_252 KB_253 Kz_254 KW_255 KX_256 KE_257 KF_258 KQ_260 Kg_261
    have cg0_278 := Blk.cell (i := 0) (v := .slice A7 (mrgOut xs e f).length c7) Kg_277 rfl
    have lg_279 := Blk.lt Kg_277
    go_wp2_with fail
    refine (markGrammar1 _ _ (mrgOut xs e f) _ (KQ_276.out).1 (by omega)).mono ?_
    rintro e w17 ⟨rfl, ho_281, hg_280⟩
    have hc_282 := chg_of KQ_276.out hg_280
    have z_w17 : w16.heap.size ≤ w17.heap.size := Chg.size hc_282
    have Ky_283 := Blk.chg Ky_267 hc_282 (by omega)
    have Kx_284 := Blk.chg Kx_268 hc_282 (by omega)
    have Ka_285 := Blk.chg Ka_269 hc_282 (by omega)
    have KB_286 := Lib.hid (Below.chg KB_270.out (by have := Below.size KB_270.out; omega) hc_282 (by omega))
    have Kz_287 := Blk.chg Kz_271 hc_282 (by omega)
    have KW_288 := Lib.hid (SlS.chgN KW_272.out (by omega) hc_282 (by omega))
    have KX_289 := Lib.hid (OwnR.chg KX_273.out hc_282 (by omega))
    have KE_290 := Lib.hid (OwnR.chg KE_274.out hc_282 (by omega))
    have KF_291 := Lib.hid (OwnR.chg KF_275.out hc_282 (by omega))
    have KQ_292 := Lib.hid (OwnR.markedC KQ_276.out ho_281 hc_282)
    have Kg_293 := Blk.chg Kg_277 hc_282 (by omega)
    clear hb_266 cg0_278 lg_279 Ky_267 Kx_268 Ka_269 KB_270 Kz_271 KW_272 KX_273 KE_274 KF_275 KQ_276 Kg_277 ho_281 hg_280 hc_282
    clear e0
    have cg0_294 := Blk.cell (i := 0) (v := .slice A7 (mrgOut xs e f).length c7) Kg_293 rfl
    have lg_295 := Blk.lt Kg_293
    go_wp2_with fail
    refine (heldGrammar1 _ (mrgOut xs e f).length _ (OwnR.sl KQ_292.out) (by omega)).mono ?_
    rintro e w18 ⟨rfl, hb_296⟩
    have z_w18 : w17.heap.size ≤ w18.heap.size := hb_296.size
    have Ky_297 := Blk.up Ky_283 hb_296
    have Kx_298 := Blk.up Kx_284 hb_296
    have Ka_299 := Blk.up Ka_285 hb_296
    have KB_300 := Lib.hid (Below.tr KB_286.out hb_296)
    have Kz_301 := Blk.up Kz_287 hb_296
    have KW_302 := Lib.hid (SlS.upN KW_288.out (by omega) hb_296)
    have KX_303 := Lib.hid (OwnR.up KX_289.out hb_296)
    have KE_304 := Lib.hid (OwnR.up KE_290.out hb_296)
    have KF_305 := Lib.hid (OwnR.up KF_291.out hb_296)
    have KQ_306 := Lib.hid (OwnR.up KQ_292.out hb_296)
    have Kg_307 := Blk.up Kg_293 hb_296
    clear cg0_294 lg_295 Ky_283 Kx_284 Ka_285 KB_286 Kz_287 KW_288 KX_289 KE_290 KF_291 KQ_292 Kg_293
    have cg0_308 := Blk.cell (i := 0) (v := .slice A7 (mrgOut xs e f).length c7) Kg_307 rfl
    have lg_309 := Blk.lt Kg_307
    have ca0_310 := Blk.cell (i := 0) (v := .slice A xs.length c) Ka_299 rfl
    have la_311 := Blk.lt Ka_299
    have cx0_312 := Blk.cell (i := 0) (v := .int .i64 e.kind) Kx_298 rfl
    have cx1_313 := Blk.cell (i := 1) (v := .int .i64 e.i) Kx_298 rfl
    have cx2_314 := Blk.cell (i := 2) (v := .int .i64 e.j) Kx_298 rfl
    have cx3_315 := Blk.cell (i := 3) (v := .int .i64 e.k) Kx_298 rfl
    have cx4_316 := Blk.cell (i := 4) (v := .slice AR e.part.length cR) Kx_298 rfl
    have cx5_317 := Blk.cell (i := 5) (v := .string e.map) Kx_298 rfl
    have lx_318 := Blk.lt Kx_298
    have cy0_319 := Blk.cell (i := 0) (v := .int .i64 f.kind) Ky_297 rfl
    have cy1_320 := Blk.cell (i := 1) (v := .int .i64 f.i) Ky_297 rfl
    have cy2_321 := Blk.cell (i := 2) (v := .int .i64 f.j) Ky_297 rfl
    have cy3_322 := Blk.cell (i := 3) (v := .int .i64 f.k) Ky_297 rfl
    have cy4_323 := Blk.cell (i := 4) (v := .slice AQ f.part.length cQ) Ky_297 rfl
    have cy5_324 := Blk.cell (i := 5) (v := .string f.map) Ky_297 rfl
    have ly_325 := Blk.lt Ky_297
    clear hb_296 cg0_308 lg_309 ca0_310 la_311 cx0_312 cx1_313 cx2_314 cx3_315 cx4_316 cx5_317 lx_318 cy0_319 cy1_320 cy2_321 cy3_322 cy4_323 cy5_324 ly_325
    go_upto_region 38 with fail
    go_cut [18, 19] (fun p q wx => ∃ (Z : Nat) (A9 : Option Addr) (c9 : Nat), p = .pointer (some ⟨Z, 0, none⟩) ∧ q = .int .i64 (mrgCode xs e f) ∧ w18.heap.size ≤ Z ∧ Below w18.heap.size w18 wx ∧ Blk wx Z #[.slice A9 (mrgOut xs e f).length c9] 31 ∧ OwnRules wx w18.heap.size (.slice A9 (mrgOut xs e f).length c9) (mrgOut xs e f))
    case first =>
      have B0 := Below.drew (Below.refl w18.heap.size w18)
      have BA := Lib.hid (fun (o : Obj) => Below.drew (Below.alloc (Below.refl w18.heap.size w18) (Nat.le_refl _) o))
      have KD := keep166 Ka_299 Kx_298 Ky_297 B0
      have HBS := Lib.hid KB_300.out
      have HKA := Lib.hid Ka_299
      have HKX := Lib.hid Kx_298
      have HKY := Lib.hid Ky_297
      go_region_held3 (fun w' => Below w18.heap.size w18 w' ∧ w'.cell? ⟨w.heap.size, 0, none⟩ = some (.slice A xs.length c) ∧ w'.cell? ⟨w.heap.size + 1, 0, none⟩ = some (.int .i64 e.kind) ∧ w'.cell? ⟨w.heap.size + 1, 1, none⟩ = some (.int .i64 e.i) ∧ w'.cell? ⟨w.heap.size + 1, 2, none⟩ = some (.int .i64 e.j) ∧ w'.cell? ⟨w.heap.size + 1, 3, none⟩ = some (.int .i64 e.k) ∧ w'.cell? ⟨w.heap.size + 1, 4, none⟩ = some (.slice AR e.part.length cR) ∧ w'.cell? ⟨w.heap.size + 1, 5, none⟩ = some (.string e.map) ∧ w'.cell? ⟨w.heap.size + 2, 0, none⟩ = some (.int .i64 f.kind) ∧ w'.cell? ⟨w.heap.size + 2, 1, none⟩ = some (.int .i64 f.i) ∧ w'.cell? ⟨w.heap.size + 2, 2, none⟩ = some (.int .i64 f.j) ∧ w'.cell? ⟨w.heap.size + 2, 3, none⟩ = some (.int .i64 f.k) ∧ w'.cell? ⟨w.heap.size + 2, 4, none⟩ = some (.slice AQ f.part.length cQ) ∧ w'.cell? ⟨w.heap.size + 2, 5, none⟩ = some (.string f.map))
        (first | (with_reducible exact KD) | (with_reducible exact keep166 HKA.out HKX.out HKY.out (BA.out _)) | (with_reducible exact keep166 HKA.out HKX.out HKY.out b1) | (with_reducible exact keep166 HKA.out HKX.out HKY.out (b1.alloc z1 _)) | (with_reducible exact keep166 HKA.out HKX.out HKY.out b2) | (with_reducible exact keep166 HKA.out HKX.out HKY.out (b2.alloc z2 _)) | (with_reducible exact keep166 HKA.out HKX.out HKY.out b3) | (with_reducible exact keep166 HKA.out HKX.out HKY.out (b3.alloc z3 _)) | (with_reducible exact keep166 HKA.out HKX.out HKY.out b4) | (with_reducible exact keep166 HKA.out HKX.out HKY.out (b4.alloc z4 _)) | (with_reducible exact keep166 HKA.out HKX.out HKY.out (b4.setCell (Nat.le_refl _) _)) | (with_reducible exact keep166 HKA.out HKX.out HKY.out (b4.setCell z1 _)) | (with_reducible exact keep166 HKA.out HKX.out HKY.out (b4.setCell z2 _)) | (with_reducible exact keep166 HKA.out HKX.out HKY.out (b4.setCell z3 _)) | (with_reducible exact keep166 HKA.out HKX.out HKY.out (b4.setCell z4 _)))
        (first
          | ((fail_if_success (have hx1 := b1)); go_at_call 12; (refine (toGrammar_any _ xs _ (HG.out.up (by repeat (first | exact HBS.out | (refine Below.alloc ?_ (by first | omega | (simp; done) | (simp; omega)) _) | (refine Below.setCell ?_ (by first | exact Nat.le_refl _ | (show _ ≤ _; omega) | (simp; done) | (simp; omega)) _) | refine below_drewN ?_ _ | refine Below.drew ?_))) hn).mono ?_); rintro r t1 ⟨v1, rfl, own1, hb1⟩; have b1 : Below w18.heap.size w18 t1 := (by first | exact Below.undrew hb1 | exact (Below.unalloc (Below.undrew hb1)).1); have z1 := b1.size; (try (have KZ : Blk t1 w18.heap.size #[.slice none 0 0] 31 := (Below.unalloc (Below.undrew hb1)).2; have l1 := Blk.lt KZ)))
          | ((fail_if_success (have hx2 := b2)); go_at_call 13; (refine (toEditO_any _ e _ ⟨_, rfl, HR.out.up (by repeat (first | exact Below.tr HBS.out b1 | (refine Below.alloc ?_ (by first | omega | (simp; done) | (simp; omega)) _) | (refine Below.setCell ?_ (by first | exact Nat.le_refl _ | (show _ ≤ _; omega) | (simp; done) | (simp; omega)) _) | refine below_drewN ?_ _ | refine Below.drew ?_))⟩ hn2).mono ?_); rintro r t2 ⟨v2, rfl, own2, hb2⟩; have c2 : Below t1.heap.size t1 t2 := (by first | exact hb2 | exact (Below.unalloc hb2).1); have b2 := Below.tr b1 c2; have z2 := b2.size; have y2 := c2.size; (first | (have KZ := Blk.up KZ c2) | (have KZ : Blk t2 t1.heap.size #[.slice none 0 0] 31 := (Below.unalloc hb2).2) | skip); (try have l2 := Blk.lt KZ))
          | ((fail_if_success (have hx2 := b3)); go_at_call 13; (refine (toEditO_any _ f _ ⟨_, rfl, HQ.out.up (by repeat (first | exact Below.tr HBS.out b2 | (refine Below.alloc ?_ (by first | omega | (simp; done) | (simp; omega)) _) | (refine Below.setCell ?_ (by first | exact Nat.le_refl _ | (show _ ≤ _; omega) | (simp; done) | (simp; omega)) _) | refine below_drewN ?_ _ | refine Below.drew ?_))⟩ hn3).mono ?_); rintro r t3 ⟨v3, rfl, own3, hb3⟩; have c3 : Below t2.heap.size t2 t3 := (by first | exact hb3 | exact (Below.unalloc hb3).1); have b3 := Below.tr b2 c3; have z3 := b3.size; have y3 := c3.size; (first | (have KZ := Blk.up KZ c3) | (have KZ : Blk t3 t2.heap.size #[.slice none 0 0] 31 := (Below.unalloc hb3).2) | skip); (try have l3 := Blk.lt KZ))
          | (go_at_call 30; (refine (implMerge_any _ _ _ xs e f _ (OwnRules.sl1 own1 (by repeat (first | exact Below.tr c2 c3 | (refine Below.alloc ?_ (by first | omega | (simp; done) | (simp; omega)) _) | (refine Below.setCell ?_ (by first | exact Nat.le_refl _ | (show _ ≤ _; omega) | (simp; done) | (simp; omega)) _) | refine below_drewN ?_ _ | refine Below.drew ?_))) ⟨_, rfl, OwnRules.sl1 own2 (by repeat (first | exact c3 | (refine Below.alloc ?_ (by first | omega | (simp; done) | (simp; omega)) _) | (refine Below.setCell ?_ (by first | exact Nat.le_refl _ | (show _ ≤ _; omega) | (simp; done) | (simp; omega)) _) | refine below_drewN ?_ _ | refine Below.drew ?_))⟩ ⟨_, rfl, OwnRules.sl1 own3 (by repeat (first | exact Below.refl _ _ | (refine Below.alloc ?_ (by first | omega | (simp; done) | (simp; omega)) _) | (refine Below.setCell ?_ (by first | exact Nat.le_refl _ | (show _ ≤ _; omega) | (simp; done) | (simp; omega)) _) | refine below_drewN ?_ _ | refine Below.drew ?_))⟩ hn hn2 hn3 hm hm2 (tabB HT.out (by repeat (first | exact Below.tr HBS.out b3 | (refine Below.alloc ?_ (by first | omega | (simp; done) | (simp; omega)) _) | (refine Below.setCell ?_ (by first | exact Nat.le_refl _ | (show _ ≤ _; omega) | (simp; done) | (simp; omega)) _) | refine below_drewN ?_ _ | refine Below.drew ?_)))).mono ?_); rintro r t4 ⟨hb4, v4, own4, rfl⟩; obtain ⟨A9, c9, rfl, _⟩ := own_nil own4; have c4 : Below t3.heap.size t3 t4 := (by first | exact hb4 | exact (Below.unalloc hb4).1); have b4 := Below.tr b3 c4; have z4 := b4.size; have y4 := c4.size; (first | (have KZ := Blk.up KZ c4) | (have KZ : Blk t4 t3.heap.size #[.slice none 0 0] 31 := (Below.unalloc hb4).2) | skip); (try (have kz := Blk.cell (i := 0) (v := .slice none 0 0) KZ rfl; have fz := Blk.frozen KZ 0; have lz := Blk.lt KZ))))
      all_goals
        go_wp2_with fail
        go_meet
        have own5 : OwnRules t4 w18.heap.size _ _ := ownsRow_more own4 (base' := w18.heap.size) (by first | omega | (simp; omega))
        first
          | exact ⟨t4.heap.size, A9, c9, rfl, rfl, z4, b4.alloc z4 _, Blk.new _ _ _, World.ownsRow.alloc own5 _⟩
          | exact ⟨w18.heap.size, A9, c9, rfl, rfl, Nat.le_refl _, b4.setCell (show w18.heap.size ≤ (⟨w18.heap.size, 0, none⟩ : Addr).block from Nat.le_refl _) _, KZ.set 0 _, ownsRow_more (ownsRow_setCell_below own4 (a := ⟨w18.heap.size, 0, none⟩) (by first | (show _ < _; omega) | (simp; done) | (simp; omega)) _) (by first | omega | (simp; omega))⟩
          | exact ⟨t1.heap.size, A9, c9, rfl, rfl, z1, b4.setCell (show w18.heap.size ≤ (⟨t1.heap.size, 0, none⟩ : Addr).block from z1) _, KZ.set 0 _, ownsRow_more (ownsRow_setCell_below own4 (a := ⟨t1.heap.size, 0, none⟩) (by first | (show _ < _; omega) | (simp; done) | (simp; omega)) _) (by first | omega | (simp; omega))⟩
          | exact ⟨t2.heap.size, A9, c9, rfl, rfl, z2, b4.setCell (show w18.heap.size ≤ (⟨t2.heap.size, 0, none⟩ : Addr).block from z2) _, KZ.set 0 _, ownsRow_more (ownsRow_setCell_below own4 (a := ⟨t2.heap.size, 0, none⟩) (by first | (show _ < _; omega) | (simp; done) | (simp; omega)) _) (by first | omega | (simp; omega))⟩
          | exact ⟨t3.heap.size, A9, c9, rfl, rfl, z3, b4.setCell (show w18.heap.size ≤ (⟨t3.heap.size, 0, none⟩ : Addr).block from z3) _, KZ.set 0 _, ownsRow_more (ownsRow_setCell_below own4 (a := ⟨t3.heap.size, 0, none⟩) (by first | (show _ < _; omega) | (simp; done) | (simp; omega)) _) (by first | omega | (simp; omega))⟩
    case rest =>
      obtain ⟨Z2, A8, c8, rfl, rfl, hZ2, hbR2, KZ2, hown2⟩ := hcut
      have KW2 := Lib.hid (OwnRules.sl hown2)
      have lZ2 := Blk.lt KZ2
      revert hbR2 KZ2 KW2 lZ2
      clear hown2
      generalize wc = w19
      intro hbR2 KZ2 KW2 lZ2
      have hb_326 := hbR2
      have z_w19 : w18.heap.size ≤ w19.heap.size := hb_326.size
      have Ky_327 := Blk.up Ky_297 hb_326
      have Kx_328 := Blk.up Kx_298 hb_326
      have Ka_329 := Blk.up Ka_299 hb_326
      have KB_330 := Lib.hid (Below.tr KB_300.out hb_326)
      have Kz_331 := Blk.up Kz_301 hb_326
      have KW_332 := Lib.hid (SlS.upN KW_302.out (by omega) hb_326)
      have KX_333 := Lib.hid (OwnR.up KX_303.out hb_326)
      have KE_334 := Lib.hid (OwnR.up KE_304.out hb_326)
      have KF_335 := Lib.hid (OwnR.up KF_305.out hb_326)
      have KQ_336 := Lib.hid (OwnR.up KQ_306.out hb_326)
      have Kg_337 := Blk.up Kg_307 hb_326
      clear Ky_297 Kx_298 Ka_299 KB_300 Kz_301 KW_302 KX_303 KE_304 KF_305 KQ_306 Kg_307
      have ch0_338 := Blk.cell (i := 0) (v := .slice A8 (mrgOut xs e f).length c8) KZ2 rfl
      have lh_339 := Blk.lt KZ2
      have cz0_340 := Blk.cell (i := 0) (v := .slice A9 (mrgOut xs e f).length c9) Kz_331 rfl
      have lz_341 := Blk.lt Kz_331
      go_wp2_with fail
      refine (eqGrammar_any _ _ (mrgOut xs e f) _ (SlS.le KW2.out (by omega)) (SlS.le KW_332.out (by omega))).mono ?_
      rintro e w20 ⟨rfl, hb_342⟩
      have z_w20 : w19.heap.size ≤ w20.heap.size := hb_342.size
      have Ky_343 := Blk.up Ky_327 hb_342
      have Kx_344 := Blk.up Kx_328 hb_342
      have Ka_345 := Blk.up Ka_329 hb_342
      have KB_346 := Lib.hid (Below.tr KB_330.out hb_342)
      have Kz_347 := Blk.up Kz_331 hb_342
      have KW_348 := Lib.hid (SlS.upN KW_332.out (by omega) hb_342)
      have KX_349 := Lib.hid (OwnR.up KX_333.out hb_342)
      have KE_350 := Lib.hid (OwnR.up KE_334.out hb_342)
      have KF_351 := Lib.hid (OwnR.up KF_335.out hb_342)
      have KQ_352 := Lib.hid (OwnR.up KQ_336.out hb_342)
      have Kg_353 := Blk.up Kg_337 hb_342
      have Kh_354 := Blk.up KZ2 hb_342
      have KH_355 := Lib.hid (SlS.upN KW2.out (by omega) hb_342)
      clear hb_326 ch0_338 lh_339 cz0_340 lz_341 Ky_327 Kx_328 Ka_329 KB_330 Kz_331 KW_332 KX_333 KE_334 KF_335 KQ_336 Kg_337 KZ2 KW2
      have cg0_356 := Blk.cell (i := 0) (v := .slice A7 (mrgOut xs e f).length c7) Kg_353 rfl
      have lg_357 := Blk.lt Kg_353
      go_wp2_with fail
      refine (heldGrammar1 _ (mrgOut xs e f).length _ (OwnR.sl KQ_352.out) (by omega)).mono ?_
      rintro e w21 ⟨rfl, hb_358⟩
      have z_w21 : w20.heap.size ≤ w21.heap.size := hb_358.size
      have Ky_359 := Blk.up Ky_343 hb_358
      have Kx_360 := Blk.up Kx_344 hb_358
      have Ka_361 := Blk.up Ka_345 hb_358
      have KB_362 := Lib.hid (Below.tr KB_346.out hb_358)
      have Kz_363 := Blk.up Kz_347 hb_358
      have KW_364 := Lib.hid (SlS.upN KW_348.out (by omega) hb_358)
      have KX_365 := Lib.hid (OwnR.up KX_349.out hb_358)
      have KE_366 := Lib.hid (OwnR.up KE_350.out hb_358)
      have KF_367 := Lib.hid (OwnR.up KF_351.out hb_358)
      have KQ_368 := Lib.hid (OwnR.up KQ_352.out hb_358)
      have Kg_369 := Blk.up Kg_353 hb_358
      have Kh_370 := Blk.up Kh_354 hb_358
      have KH_371 := Lib.hid (SlS.upN KH_355.out (by omega) hb_358)
      clear hb_342 cg0_356 lg_357 Ky_343 Kx_344 Ka_345 KB_346 Kz_347 KW_348 KX_349 KE_350 KF_351 KQ_352 Kg_353 Kh_354 KH_355
      go_wp2
      go_ret
      exact ⟨rfl, KB_362.out⟩
end Go.Proofs.YtfapnipmgmpgaaaGreatDoor

namespace Go.Proofs.YtfapnipmgmpgaaaGreatDoor
open Go.RowKit Go.WideShapes Go.ChangeShapes
section
variable {H : Type} {enc : TypeId × Value → H} {P : Program}
theorem post_of_below {f : Func} {s : ChangeSpec} {apart fresh handsOn again : Bool} {W W' : World} {args : Array Value} {v : Value} {ds gs : List (DataW H)} {before pa pv : List MemPlace}
    (hW : DataW.Whole enc P f.params.toList s.vars apart W args.toList ds gs before)
    (hres : ∀ (b : Nat) (sp : Nat → Bool) (hd : Bool), DataW.TrodAll enc P W' b sp hd f.resultTypes.toList (v.resultList f.resultTypes.size) (s.fn H (ds ++ gs)).results [])
    (hargs : ∀ sp : Nat → Bool, (∀ p ∈ before, sp p.block = true) → DataW.TrodAll enc P W' 0 sp true f.params.toList args.toList (s.fn H (ds ++ gs)).args pa)
    (hvars : ∀ sp : Nat → Bool, (∀ p ∈ before, sp p.block = true) → DataW.TrodVars enc P W' sp s.vars (s.fn H (ds ++ gs)).vars pv)
    (hps : before = pa ++ pv) (hb : Below W.heap.size W W')
    (hok : ∀ (j : Nat) (t : TypeId) (r : Value), f.resultTypes[j]? = some t → (v.resultList f.resultTypes.size)[j]? = some r → Value.okWide P W' .any 0 t r) :
    s.post enc P f apart fresh handsOn again W args v W' := by
  have hlt : ∀ p ∈ before, p.block < W.heap.size := fun p hp => hW.lt p hp
  have hold : ∀ p ∈ before, (fun b => decide (b < W.heap.size)) p.block = true := fun p hp => by simpa using hlt p hp
  refine ⟨ds, gs, before, [], pa, pv, hW, hres _ _ _, hargs _ hold, hvars _ hold, World.keptBut_mono (fun p hp => ⟨hp, ?_⟩) (hb.frame (· ∈ before)), fun _ => ?_⟩
  · rw [hps, List.mem_append] at hp
    exact Or.inr hp
  · obtain ⟨_, _, _, _, _, hz, hn⟩ := hW
    refine ⟨hok, _, _, ([] ++ pa) ++ pv, ⟨[] ++ pa, pv, trodAll_append (hargs _ (fun _ _ => rfl)) (hres _ _ _), hvars _ (fun _ _ => rfl), rfl, ?_, ?_⟩, ?_⟩
    · intro b off hp
      have hin : MemPlace.cell b off ∈ before := by rw [hps]; simpa using hp
      rw [hb.frozen (hlt _ hin)]
      exact hz b off hin
    · intro ha
      have := hn ha
      rw [hps] at this
      simpa using this
    · intro p hp _
      rw [hps]
      simpa using hp

theorem trodAll_below (hl : laidOutB P = true) {W W' : World} (hb : Below W.heap.size W W') : ∀ {ts : List TypeId} {vs : List Value} {ds : List (DataW H)} {ps : List MemPlace},
    (∀ t ∈ ts, P.readableRec t = true ∧ t < P.types.size) → DataW.TrodAll enc P W 0 (fun _ => true) true ts vs ds ps → (∀ x ∈ ps, x.block < W.heap.size) → ∀ sp : Nat → Bool, (∀ p ∈ ps, sp p.block = true) →
    DataW.TrodAll enc P W' 0 sp true ts vs ds ps
  | [], _, _, _, _, h, _, _, _ => by
    obtain ⟨rfl, rfl, rfl⟩ := trodAll_nil h
    exact trodAll_mk0
  | t :: ts, vs, ds, ps, hts, h, hlt, sp, hsp => by
    obtain ⟨v, vs', d, ds', p, q, rfl, rfl, rfl, h0, r0⟩ := trodAll_cons h
    refine trodAll_cons_mk (WideElems.Trod_stays hl (hts t (by simp)).1 (hts t (by simp)).2 h0 (fun x hx => hb.same (hlt x (by simp [hx]))) (fun x hx => hsp x (by simp [hx]))) ?_
    exact trodAll_below hl hb (fun t ht => hts t (by simp [ht])) r0 (fun x hx => hlt x (by simp [hx])) sp (fun x hx => hsp x (by simp [hx]))
end
theorem laidOut : laidOutB Tryz.prog = true := by kernel_rfl
theorem own : ownKnob Tryz.prog.godebug = none := by kernel_rfl
end Go.Proofs.YtfapnipmgmpgaaaGreatDoor

namespace Go.Proofs.YtfapnipmgmpgaaaGreatDoor
open Go.RowKit Go.ChangeShapes Go.WideShapes Go.Deep
section
variable {H : Type} {enc : TypeId × Value → H} {P : Program} {w : World} {base : Nat} {spare : Nat → Bool} {held : Bool}
theorem open_slice_fields {t e : TypeId} {fs : Array Field} {fuel : Nat} {cs : List Value} {x : DataW H × List MemPlace} (ht : P.underlying t = some (.slice e)) (he : P.underlying e = some (.struct fs))
    (hone : oneCellFields P fs = true) (hC : P.cellsOf e = fs.size) (h : DataW.trod enc P w base spare held fuel t cs = some x) :
    (cs = [.slice none 0 0] ∧ x = (.nil, [])) ∨
    ∃ (a : Addr) (len cap m : Nat) (D : Nat → DataW H) (Pl : Nat → List MemPlace), cs = [.slice (some a) len cap] ∧ base ≤ a.block ∧ len ≤ cap ∧ cap ≤ maxLen ∧ m = (if spare a.block then cap else len) ∧
      x = (.slice ((List.range len).map D) ((List.range (m - len)).map fun j => D (len + j)), MemPlace.row a (m * fs.size) ++ (List.range m).flatMap Pl) ∧
      ∀ i, i < m → ∃ (ys : List (DataW H × List MemPlace)) (n : Nat), D i = .agg (ys.map (·.1)) ∧ Pl i = ys.flatMap (·.2) ∧ ys.length = fs.size ∧
        ∀ (j : Nat) (f : Field), fs[j]? = some f → ∃ (v : Value) (y : DataW H × List MemPlace), w.cell? (a.add (i * fs.size + j)) = some v ∧ ys[j]? = some y ∧ DataW.trod enc P w base spare held n f.type [v] = some y := by
  rcases open_slice ht h with h0 | ⟨a, len, cap, m, n, D, Pl, hcs, hb, hl, hm, hmm, hx, hi⟩
  · exact .inl h0
  · refine .inr ⟨a, len, cap, m, D, Pl, hcs, hb, hl, hm, hmm, by rw [hC] at hx; exact hx, fun i him => ?_⟩
    obtain ⟨cs', hc, ht'⟩ := hi i him
    rw [hC] at hc
    obtain ⟨ys, n', hn', hy, hlen, hyl, hf⟩ := DataW.trod_struct he ht'
    obtain ⟨_, hcl, hat⟩ := World.cells?_some hc
    simp only [Prod.mk.injEq] at hy
    refine ⟨ys, n', hy.1, hy.2, hyl, fun j f hj => ?_⟩
    obtain ⟨ho, hk⟩ := hone_of hone j f hj
    have hjl : j < fs.size := (Array.getElem?_eq_some_iff.1 hj).1
    have hcell := hat j hjl
    have hv : cs'[j]? = some (cs'[j]'(by omega)) := List.getElem?_eq_getElem (by omega)
    have h1 := hf j f hj
    rw [ho, hk] at h1
    have hone' : (cs'.drop j).take 1 = [cs'[j]'(by omega)] := by
      rw [List.drop_eq_getElem_cons (by omega)]
      rfl
    rw [hone'] at h1
    have hys : ys[j]? = some (ys[j]'(by omega)) := List.getElem?_eq_getElem (by omega)
    refine ⟨_, _, ?_, hys, h1.trans hys⟩
    rw [← Go.Deep.add_add, hcell, hv]

theorem add_plain (b o n : Nat) : (⟨b, o, none⟩ : Addr).add n = ⟨b, o + n, none⟩ := by unfold Addr.add; split <;> simp_all
theorem spot_none {a : Addr} {v : Value} (h : w.cell? a = some v) : a = ⟨a.block, a.off, none⟩ ∧ a.block < w.heap.size := by
  have hl := World.block_lt_of_cell? w a h
  refine ⟨?_, hl⟩
  obtain ⟨b, o, s⟩ := a
  unfold World.cell? at h
  cases s with
  | none => rfl
  | some s => split at h <;> simp at h
theorem len_map_range {α : Type} (f : Nat → α) (n : Nat) : ((List.range n).map f).length = n := by simp

theorem open_rules {t e : TypeId} {f0 f1 f2 : Field} {fuel : Nat} {v : Value} {x : DataW H × List MemPlace} (ht : P.underlying t = some (.slice e)) (he : P.underlying e = some (.struct #[f0, f1, f2]))
    (hone : oneCellFields P #[f0, f1, f2] = true) (hC : P.cellsOf e = 3) (h0 : P.underlying f0.type = some .string) (h1 : P.underlying f1.type = some (.int .i64)) (h2 : P.underlying f2.type = some (.int .i64))
    (h : DataW.trod enc P w base spare held fuel t [v] = some x) : ∃ xs : List GRule, Sl RuleE w w.heap.size v xs ∧ SmallL xs := by
  rcases open_slice_fields ht he hone hC h with ⟨hcs, _⟩ | ⟨a, len, cap, m, D, Pl, hcs, _, hl, hm, hmm, _, hf⟩
  · simp at hcs
    subst hcs
    exact ⟨[], SlS.nil _ _, fun r hr => by simp at hr⟩
  · simp at hcs
    subst hcs
    have hmle : len ≤ m := by rw [hmm]; split <;> omega
    have H : ∀ i, ∃ r : GRule, i < len → (w.cell? (a.add (i * 3)) = some (.string r.letter) ∧ w.cell? (a.add (i * 3 + 1)) = some (.int .i64 r.left) ∧ w.cell? (a.add (i * 3 + 2)) = some (.int .i64 r.right) ∧ r.letter.size ≤ maxLen) := by
      intro i
      by_cases hi : i < len
      · obtain ⟨ys, n, _, _, _, hx⟩ := hf i (by omega)
        obtain ⟨v0, y0, g0, _, t0⟩ := hx 0 f0 rfl
        obtain ⟨v1, y1, g1, _, t1⟩ := hx 1 f1 rfl
        obtain ⟨v2, y2, g2, _, t2⟩ := hx 2 f2 rfl
        obtain ⟨s, e0, _, hs⟩ := DataW.trod_string h0 t0
        obtain ⟨p, e1, _, _⟩ := DataW.trod_int h1 t1
        obtain ⟨q, e2, _, _⟩ := DataW.trod_int h2 t2
        simp at e0 e1 e2
        subst e0 e1 e2
        exact ⟨⟨s, p, q⟩, fun _ => ⟨by simpa using g0, g1, g2, hs⟩⟩
      · exact ⟨⟨⟨#[]⟩, 0, 0⟩, fun h => absurd h hi⟩
    obtain ⟨F, hF⟩ : ∃ F : Nat → GRule, ∀ i, i < len → (w.cell? (a.add (i * 3)) = some (.string (F i).letter) ∧ w.cell? (a.add (i * 3 + 1)) = some (.int .i64 (F i).left) ∧ w.cell? (a.add (i * 3 + 2)) = some (.int .i64 (F i).right) ∧ (F i).letter.size ≤ maxLen) :=
      ⟨fun i => Classical.choose (H i), fun i hi => Classical.choose_spec (H i) hi⟩
    clear H
    refine ⟨(List.range len).map F, ⟨some a, cap, by rw [len_map_range], by rw [len_map_range]; exact hl, hm, fun hn => ?_⟩, ?_⟩
    · rw [len_map_range] at hn
      obtain ⟨g0, _⟩ := hF 0 hn
      have ha : a.add (0 * 3) = a := by simp [Addr.add]
      rw [ha] at g0
      obtain ⟨hsp, hlt⟩ := spot_none g0
      refine ⟨a.block, a.off, by rw [← hsp], hlt, fun k r hr => ⟨r.cells, rfl, fun j u hu => ?_⟩⟩
      have hk : k < len := by
        have := (List.getElem?_eq_some_iff.1 hr).1
        rw [len_map_range] at this; exact this
      have er : F k = r := by
        rw [List.getElem?_map, List.getElem?_range hk] at hr; simpa using hr
      obtain ⟨g0, g1, g2, _⟩ := hF k hk
      rw [er, hsp, add_plain] at g0 g1 g2
      match j, hu with
      | 0, hu => simp [GRule.cells] at hu; subst hu; exact g0
      | 1, hu => simp [GRule.cells] at hu; subst hu; exact g1
      | 2, hu => simp [GRule.cells] at hu; subst hu; exact g2
      | j + 3, hu => simp [GRule.cells] at hu
    · intro r hr
      rw [List.mem_map] at hr
      obtain ⟨k, hk, rfl⟩ := hr
      have := (hF k (by simpa using hk)).2.2.2
      unfold maxLen at this
      exact this

theorem open_struct1 {t : TypeId} {f : Field} {v : Value} {d : DataW H} {p : List MemPlace} {r : Reach} {b0 : Nat} (hs : P.underlying t = some (.struct #[f])) (hone : oneCellFields P #[f] = true) (hC : P.cellsOf t = 1)
    (hv : Value.okWide P w r b0 t v) (h : DataW.Trod enc P w base spare held t v d p) : ∃ v0 n x, v = .agg #[v0] ∧ DataW.trod enc P w base spare held n f.type [v0] = some x := by
  obtain ⟨cs, rfl, hsz⟩ := okWide_struct hs hv
  obtain ⟨l⟩ := cs
  match l, hsz.trans hC with
  | [c0], _ =>
    obtain ⟨fuel, hf⟩ := h
    obtain ⟨xs, n, _, _, _, hlen, hg⟩ := DataW.trod_struct hs hf
    obtain ⟨o0, k0⟩ := hone_of hone 0 f rfl
    match xs, hlen with
    | [y0], _ => exact ⟨c0, n, y0, rfl, by simpa [Value.cells, o0, k0] using hg 0 f rfl⟩
end
set_option maxRecDepth 100000 in
theorem open_gram {H : Type} {enc : TypeId × Value → H} {w : World} {base : Nat} {spare : Nat → Bool} {held : Bool} {r : Reach} {b0 : Nat} {v : Value} {d : DataW H} {p : List MemPlace}
    (hv : Value.okWide Tryz.prog w r b0 24 v) (h : DataW.Trod enc Tryz.prog w base spare held 24 v d p) : ∃ v0 xs, v = .agg #[v0] ∧ Sl RuleE w w.heap.size v0 xs ∧ SmallL xs := by
  obtain ⟨v0, n, x, rfl, hx⟩ := open_struct1 Tryz.underlying24 (by kernel_rfl) (by kernel_rfl) hv h
  obtain ⟨xs, h1, h2⟩ := open_rules Tryz.underlying22 Tryz.underlying111 (by kernel_rfl) (by kernel_rfl) Tryz.underlying9 Tryz.underlying2 Tryz.underlying2 hx
  exact ⟨v0, xs, rfl, h1, h2⟩
end Go.Proofs.YtfapnipmgmpgaaaGreatDoor

namespace Go.Proofs.YtfapnipmgmpgaaaGreatDoor
open Go.RowKit Go.ChangeShapes Go.WideShapes Go.Deep

/-- Whatever reads at type t lies as E says, and has the property Q. -/
def Opens {α : Type} (P : Program) (E : Enc α) (Q : α → Prop) (t : TypeId) : Prop :=
  ∀ {H : Type} (enc : TypeId × Value → H) (w : World) (base : Nat) (spare : Nat → Bool) (held : Bool) (fuel : Nat) (cs : List Value) (x : DataW H × List MemPlace), DataW.trod enc P w base spare held fuel t cs = some x → ∃ a, E.cells w (· < w.heap.size) a cs ∧ Q a

theorem opens_rule {P : Program} {t : TypeId} {f0 f1 f2 : Field} (he : P.underlying t = some (.struct #[f0, f1, f2])) (hone : oneCellFields P #[f0, f1, f2] = true) (hC : P.cellsOf t = 3)
    (h0 : P.underlying f0.type = some .string) (h1 : P.underlying f1.type = some (.int .i64)) (h2 : P.underlying f2.type = some (.int .i64)) : Opens P RuleE (fun r => r.letter.size ≤ maxLen) t := by
  intro H enc w base spare held fuel cs x h
  obtain ⟨ys, n', hn', hy, hlen, hyl, hf⟩ := DataW.trod_struct he h
  obtain ⟨o0, k0⟩ := hone_of hone 0 f0 rfl
  obtain ⟨o1, k1⟩ := hone_of hone 1 f1 rfl
  obtain ⟨o2, k2⟩ := hone_of hone 2 f2 rfl
  have g0 := hf 0 f0 rfl
  have g1 := hf 1 f1 rfl
  have g2 := hf 2 f2 rfl
  rw [o0, k0] at g0
  rw [o1, k1] at g1
  rw [o2, k2] at g2
  have hc3 : cs.length = 3 := hlen.trans hC
  match ys, hyl, cs, hc3 with
  | [y0, y1, y2], _, [c0, c1, c2], _ =>
    simp at g0 g1 g2
    obtain ⟨s, e0, _, hs⟩ := DataW.trod_string h0 g0
    obtain ⟨p, e1, _, _⟩ := DataW.trod_int h1 g1
    obtain ⟨q, e2, _, _⟩ := DataW.trod_int h2 g2
    refine ⟨⟨s, p, q⟩, ?_, hs⟩
    simp at e0 e1 e2
    subst e0 e1 e2
    rfl
instance : Inhabited GRule := ⟨⟨⟨#[]⟩, 0, 0⟩⟩
theorem opens_slice {α : Type} {P : Program} {E : Enc α} {Q : α → Prop} {t e : TypeId} [Inhabited α] (hE : Opens P E Q e) (ht : P.underlying t = some (.slice e)) (hC : P.cellsOf e = E.size) : Opens P (SliceE E) (fun xs => ∀ x ∈ xs, Q x) t := by
  intro H enc w base spare held fuel cs x h
  rcases open_slice ht h with ⟨h0, _⟩ | ⟨a, len, cap, m, n, D, Pl, hcs, hb, hl, hm, hmm, hx, hi⟩
  · exact ⟨[], ⟨_, h0, SlS.nil _ _⟩, fun x hx => by simp at hx⟩
  · have hmle : len ≤ m := by rw [hmm]; split <;> omega
    have Hh : ∀ i, i < len → ∃ r : α, ∃ cs', E.cells w (· < w.heap.size) r cs' ∧ (∀ j u, cs'[j]? = some u → w.cell? (a.add (i * E.size + j)) = some u) ∧ Q r := by
      intro i hil
      obtain ⟨cs', hc, ht'⟩ := hi i (by omega)
      obtain ⟨r, hr, hq⟩ := hE enc w base spare held n cs' _ ht'
      obtain ⟨_, hcl, hat⟩ := World.cells?_some hc
      refine ⟨r, cs', hr, fun j u hu => ?_, hq⟩
      have hj : j < cs'.length := (List.getElem?_eq_some_iff.1 hu).1
      rw [← Go.Deep.add_add, ← hC, hat j (by omega), hu]
    obtain ⟨F, hF⟩ := choose_lt Hh
    clear Hh
    refine ⟨(List.range len).map F, ⟨.slice (some a) len cap, hcs, some a, cap, by rw [len_map_range], by rw [len_map_range]; exact hl, hm, fun hn => ?_⟩, ?_⟩
    · rw [len_map_range] at hn
      obtain ⟨cs', h1, h2, _⟩ := hF 0 hn
      have hlen := E.len h1
      have hpos := E.pos
      have g0 := h2 0 cs'[0] (List.getElem?_eq_getElem (by omega))
      have ha : a.add (0 * E.size + 0) = a := by simp [Addr.add]
      rw [ha] at g0
      obtain ⟨hsp, hlt⟩ := spot_none g0
      refine ⟨a.block, a.off, by rw [← hsp], hlt, fun k r hr => ?_⟩
      have hk : k < len := by
        have := (List.getElem?_eq_some_iff.1 hr).1
        rw [len_map_range] at this; exact this
      have er : F k = r := by
        rw [List.getElem?_map, List.getElem?_range hk] at hr; simpa using hr
      obtain ⟨cs'', h3, h4, _⟩ := hF k hk
      rw [er] at h3
      refine ⟨cs'', h3, fun j u hu => ?_⟩
      have := h4 j u hu
      rw [hsp, add_plain] at this
      exact this
    · intro r hr
      rw [List.mem_map] at hr
      obtain ⟨k, hk, rfl⟩ := hr
      exact (hF k (by simpa using hk)).choose_spec.2.2
theorem opens_struct1 {α : Type} {P : Program} {E : Enc α} {Q : α → Prop} {t : TypeId} {f : Field} (hs : P.underlying t = some (.struct #[f])) (hone : oneCellFields P #[f] = true) (hC : P.cellsOf t = 1) (hE : Opens P E Q f.type) : Opens P E Q t := by
  intro H enc w base spare held fuel cs x h
  obtain ⟨ys, n', hn', hy, hlen, hyl, hf⟩ := DataW.trod_struct hs h
  obtain ⟨o0, k0⟩ := hone_of hone 0 f rfl
  have g0 := hf 0 f rfl
  rw [o0, k0] at g0
  have hc1 : cs.length = 1 := hlen.trans hC
  match ys, hyl, cs, hc1 with
  | [y0], _, [c0], _ =>
    simp at g0
    exact hE enc w base spare held _ _ _ g0
theorem SmallL_of {xs : List GRule} (h : ∀ r ∈ xs, r.letter.size ≤ maxLen) : SmallL xs := fun r hr => by have := h r hr; unfold maxLen at this; exact this
set_option maxRecDepth 100000 in
theorem opensRule : Opens Tryz.prog RuleE (fun r => r.letter.size ≤ maxLen) 111 := opens_rule Tryz.underlying111 (by kernel_rfl) (by kernel_rfl) Tryz.underlying9 Tryz.underlying2 Tryz.underlying2
theorem opensRuleS : Opens Tryz.prog (SliceE RuleE) (fun xs => ∀ r ∈ xs, r.letter.size ≤ maxLen) 22 := opens_slice opensRule Tryz.underlying22 (by kernel_rfl)
set_option maxRecDepth 100000 in
theorem opensGram : Opens Tryz.prog (SliceE RuleE) (fun xs => ∀ r ∈ xs, r.letter.size ≤ maxLen) 24 := opens_struct1 Tryz.underlying24 (by kernel_rfl) (by kernel_rfl) opensRuleS
end Go.Proofs.YtfapnipmgmpgaaaGreatDoor

namespace Go.Proofs.YtfapnipmgmpgaaaGreatDoor
open Go.ChangeShapes Go.WideShapes Go.ChangeAt Go.RowKit Go.Joins
open Go.ChangeMaps (open_string)
end Go.Proofs.YtfapnipmgmpgaaaGreatDoor

namespace Go.Proofs.YtfapnipmgmpgaaaGreatDoor
open Go.ChangeShapes Go.WideShapes Go.ChangeAt Go.RowKit Go.Joins Go.Deep
open Go.ChangeMaps (open_string)
section
variable {H : Type} {enc : TypeId × Value → H} {P : Program} {w : World} {base : Nat} {spare : Nat → Bool} {held : Bool}
theorem open_struct6 {t : TypeId} {f0 f1 f2 f3 f4 f5 : Field} {v : Value} {d : DataW H} {p : List MemPlace} {r : Reach} {b0 : Nat} (hs : P.underlying t = some (.struct #[f0, f1, f2, f3, f4, f5])) (hone : oneCellFields P #[f0, f1, f2, f3, f4, f5] = true) (hC : P.cellsOf t = 6)
    (hv : Value.okWide P w r b0 t v) (h : DataW.Trod enc P w base spare held t v d p) : ∃ v0 v1 v2 v3 v4 v5 n x0 x1 x2 x3 x4 x5, v = .agg #[v0, v1, v2, v3, v4, v5] ∧ DataW.trod enc P w base spare held n f0.type [v0] = some x0 ∧ DataW.trod enc P w base spare held n f1.type [v1] = some x1 ∧
      DataW.trod enc P w base spare held n f2.type [v2] = some x2 ∧ DataW.trod enc P w base spare held n f3.type [v3] = some x3 ∧ DataW.trod enc P w base spare held n f4.type [v4] = some x4 ∧ DataW.trod enc P w base spare held n f5.type [v5] = some x5 := by
  obtain ⟨cs, rfl, hsz⟩ := okWide_struct hs hv
  obtain ⟨l⟩ := cs
  match l, hsz.trans hC with
  | [c0, c1, c2, c3, c4, c5], _ =>
    obtain ⟨fuel, hf⟩ := h
    obtain ⟨xs, n, _, _, _, hlen, hg⟩ := DataW.trod_struct hs hf
    obtain ⟨o0, k0⟩ := hone_of hone 0 f0 rfl
    obtain ⟨o1, k1⟩ := hone_of hone 1 f1 rfl
    obtain ⟨o2, k2⟩ := hone_of hone 2 f2 rfl
    obtain ⟨o3, k3⟩ := hone_of hone 3 f3 rfl
    obtain ⟨o4, k4⟩ := hone_of hone 4 f4 rfl
    obtain ⟨o5, k5⟩ := hone_of hone 5 f5 rfl
    match xs, hlen with
    | [y0, y1, y2, y3, y4, y5], _ => exact ⟨c0, c1, c2, c3, c4, c5, n, y0, y1, y2, y3, y4, y5, rfl, by simpa [Value.cells, o0, k0] using hg 0 f0 rfl, by simpa [Value.cells, o1, k1] using hg 1 f1 rfl, by simpa [Value.cells, o2, k2] using hg 2 f2 rfl, by simpa [Value.cells, o3, k3] using hg 3 f3 rfl, by simpa [Value.cells, o4, k4] using hg 4 f4 rfl, by simpa [Value.cells, o5, k5] using hg 5 f5 rfl⟩
end
set_option maxRecDepth 100000 in
theorem open_edit {H : Type} {enc : TypeId × Value → H} {w : World} {base : Nat} {spare : Nat → Bool} {held : Bool} {r : Reach} {b0 : Nat} {v : Value} {d : DataW H} {p : List MemPlace}
    (hv : Value.okWide Tryz.prog w r b0 26 v) (h : DataW.Trod enc Tryz.prog w base spare held 26 v d p) : ∃ e, EditV w w.heap.size v e ∧ SmallL e.part ∧ e.map.size ≤ maxLen := by
  obtain ⟨v0, v1, v2, v3, v4, v5, n, x0, x1, x2, x3, x4, x5, rfl, h0, h1, h2, h3, h4, h5⟩ := open_struct6 Tryz.underlying26 (by kernel_rfl) (by kernel_rfl) hv h
  obtain ⟨k, e0, _, _⟩ := DataW.trod_int Tryz.underlying2 h0
  obtain ⟨i, e1, _, _⟩ := DataW.trod_int Tryz.underlying2 h1
  obtain ⟨j, e2, _, _⟩ := DataW.trod_int Tryz.underlying2 h2
  obtain ⟨kk, e3, _, _⟩ := DataW.trod_int Tryz.underlying2 h3
  obtain ⟨xs, ⟨v4', e4, hsl⟩, hsm⟩ := opensGram enc w base spare held _ _ _ h4
  obtain ⟨s, e5, _, hs⟩ := DataW.trod_string Tryz.underlying9 h5
  simp at e0 e1 e2 e3 e4 e5
  subst e0 e1 e2 e3 e4 e5
  exact ⟨⟨k, i, j, kk, xs, s⟩, ⟨_, rfl, hsl⟩, SmallL_of hsm, hs⟩
end Go.Proofs.YtfapnipmgmpgaaaGreatDoor

