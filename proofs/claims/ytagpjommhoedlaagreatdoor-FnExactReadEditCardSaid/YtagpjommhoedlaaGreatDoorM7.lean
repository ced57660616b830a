import Derived.Test.YtagpjommhoedlaaGreatDoorM2
import Derived.Test.YtagpjommhoedlaaGreatDoorM3
import Derived.Test.YtagpjommhoedlaaGreatDoorM4
import Derived.Test.YtagpjommhoedlaaGreatDoorM6
import Derived.Test.YtagpjommhoedlaaGreatDoorM1
import Derived.Test.YtagpjommhoedlaaGreatDoorRows
import Derived.WalkKit
import Derived.ProofKit
import Derived.Below
import Derived.ChangeSame
import Derived.Lib.SmallJoins
import Derived.Carry
import Derived.WideKeyArgs
import Derived.OpenShut
import Derived.Deep.Slices
import Derived.Deep.Fields
namespace Go.Proofs.YtagpjommhoedlaaGreatDoor
open Go.RowKit

theorem rd_len (t : ByteArray) : (rdOut t).part.length ≤ 400 := by
  cases h : rdSpec t with
  | none => rw [(rd_none h).1]; exact Nat.zero_le _
  | some e =>
    rw [(rd_some h).1]
    unfold rdSpec rdK at h
    split at h
    · cases h
    · split at h
      · cases h
      · split at h
        · cases h
        · split at h
          · rename_i hok
            cases h
            exact (gram_lens (editOk_nums hok).2.2.2.2.1).1
          · cases h
set_option maxRecDepth 100000 in
theorem heldEdit_any (vR : Value) (e : GEdit) (m : Nat) (w : World) (h : Sl RuleE w w.heap.size vR (marks 1 m)) (hn : m ≤ 1099511627776) :
    Calls Tryz.prog 13 #[.agg #[.int .i64 e.kind, .int .i64 e.i, .int .i64 e.j, .int .i64 e.k, vR, .string e.map], .int .i64 1] w fun r w' => r = .returned (.int .i64 ((1 + 3 * m : Nat) : Int)) ∧ Below w.heap.size w w' := by
  have h1 := fun o => (h.below ((Below.refl w.heap.size w).alloc (Nat.le_refl _) o)).le (B' := (w.alloc o).heap.size) (by simp)
  have H1 := Lib.hid h1
  have hb0 := Lib.hid (fun o => (Below.refl w.heap.size w).alloc (Nat.le_refl _) o)
  obtain ⟨A, c, rfl, _⟩ := h
  clear h1
  go_enter Tryz.func13, Tryz.ntmps13
  go_wp2_with fail
  refine (heldGrammar1 _ m _ (H1.out _) hn).mono ?_
  rintro r w1 ⟨rfl, hb1⟩
  have HB := Lib.hid (Below.trans (hb0.out _) (hb1.mono (by simp)))
  have h0 : ¬ (((1 + 3 * m : Nat) : Int) < 0) := by omega
  go_wp2_with fail
  go_ret
  exact ⟨rfl, HB.out⟩
set_option maxRecDepth 100000 in
set_option maxHeartbeats 4000000 in
theorem lawRead_any (t : ByteArray) (w : World) (_hsz : t.size ≤ maxLen) (hv : RdVars w) :
    Calls Tryz.prog 3 #[.string t] w fun r w' => r = .returned (.bool true) ∧ Below w.heap.size w w' := by
  have HV := Lib.hid hv
  clear hv
  by_cases hbig : 1048576 < t.size
  · have hb2 : (1048576 : Int) < (t.size : Int) := by omega
    go_enter Tryz.func3, Tryz.ntmps3
    go_wp2_with fail
    go_ret
    exact ⟨rfl, Below.refl _ _⟩
  have hb2 : ¬ (1048576 : Int) < (t.size : Int) := by omega
  have hs : t.size ≤ 1048576 := by omega
  go_enter Tryz.func3, Tryz.ntmps3
  go_wp2_with fail
  have hlo := rd_len t
  obtain ⟨O, hO⟩ : ∃ O, rdOut t = O := ⟨_, rfl⟩
  rw [hO] at hlo
  have HO := Lib.hid hO
  obtain ⟨cd, hcd⟩ : ∃ c, rdCode t = c := ⟨_, rfl⟩
  have HCD := Lib.hid hcd
  have hSp := Lib.hid (fun (w0 : World) => specRead_any t w0 hs)
  have hIm := Lib.hid (fun (w0 : World) (h0 : RdVars w0) => implRead_any t w0 hs h0)
  rw [hO, hcd] at hSp hIm
  clear hO hcd
  refine (hSp.out _).mono ?_
  rintro e w3 ⟨hb_1, v3, own3, rfl⟩
  have z_w3 : w.heap.size ≤ w3.heap.size := hb_1.size
  have KB_2 := Lib.hid hb_1
  obtain ⟨A3, c3, rfl, _⟩ := own_nil own3
  have KW := Lib.hid (OwnRules.sl own3)
  clear own3
  go_wp2_with fail
  refine (hIm.out _ (HV.out.up (by repeat (first | exact KB_2.out | (refine Below.alloc ?_ (by first | omega | (simp; done) | (simp; omega)) _) | (refine Below.setCell ?_ (by first | exact Nat.le_refl _ | (show _ ≤ _; omega) | (simp; done) | (simp; omega)) _) | refine below_drewN ?_ _ | refine Below.drew ?_)))).mono ?_
  rintro e w5 ⟨hb_3, v5, own5, rfl⟩
  have Kz_4 : Blk w5 (w3.heap.size) #[.int .i64 O.kind, .int .i64 O.i, .int .i64 O.j, .int .i64 O.k, .slice A3 O.part.length c3, .string O.map] 26 := by have := (Below.unalloc hb_3).2; simpa [Blk] using this
  replace hb_3 := (Below.unalloc hb_3).1
  have z_w5 : w3.heap.size ≤ w5.heap.size := hb_3.size
  have KB_5 := Lib.hid (Below.tr KB_2.out hb_3)
  have KW_6 := Lib.hid (SlS.upN KW.out (by omega) hb_3)
  clear hb_1 KB_2 KW
  obtain ⟨A5, c5, rfl, _⟩ := own_nil own5
  have KQ := Lib.hid (OwnR.of (ownsRow_more own5 (base' := w3.heap.size + 1) (by simp)))
  clear own5
  have qc : (cd != cd) = false := by simp
  have lz5 := Blk.lt Kz_4
  have cz0_7 := Blk.cell (i := 0) (v := .int .i64 O.kind) Kz_4 rfl
  have cz1_8 := Blk.cell (i := 1) (v := .int .i64 O.i) Kz_4 rfl
  have cz2_9 := Blk.cell (i := 2) (v := .int .i64 O.j) Kz_4 rfl
  have cz3_10 := Blk.cell (i := 3) (v := .int .i64 O.k) Kz_4 rfl
  have cz4_11 := Blk.cell (i := 4) (v := .slice A3 O.part.length c3) Kz_4 rfl
  have cz5_12 := Blk.cell (i := 5) (v := .string O.map) Kz_4 rfl
  have lz_13 := Blk.lt Kz_4
  go_wp2_with fail
  refine (eqEdit_any _ _ O _ ⟨_, rfl, SlS.up (OwnR.sl KQ.out) (by repeat (first | exact Below.refl _ _ | (refine Below.alloc ?_ (by first | omega | (simp; done) | (simp; omega)) _) | (refine Below.setCell ?_ (by first | exact Nat.le_refl _ | (show _ ≤ _; omega) | (simp; done) | (simp; omega)) _) | refine below_drewN ?_ _ | refine Below.drew ?_))⟩ ⟨_, rfl, SlS.le (SlS.below KW_6.out (by repeat (first | exact Below.refl _ _ | (refine Below.alloc ?_ (by first | omega | (simp; done) | (simp; omega)) _) | (refine Below.setCell ?_ (by first | exact Nat.le_refl _ | (show _ ≤ _; omega) | (simp; done) | (simp; omega)) _) | refine below_drewN ?_ _ | refine Below.drew ?_))) (by simp; omega)⟩).mono ?_
  rintro e w6 ⟨rfl, hb_14⟩
  have Kg_15 : Blk w6 (w5.heap.size) #[.int .i64 O.kind, .int .i64 O.i, .int .i64 O.j, .int .i64 O.k, .slice A5 O.part.length c5, .string O.map] 26 := by have := (Below.unalloc hb_14).2; simpa [Blk] using this
  replace hb_14 := (Below.unalloc hb_14).1
  have z_w6 : w5.heap.size ≤ w6.heap.size := hb_14.size
  have KB_16 := Lib.hid (Below.tr KB_5.out hb_14)
  have KW_17 := Lib.hid (SlS.upN KW_6.out (by omega) hb_14)
  have Kz_18 := Blk.up Kz_4 hb_14
  have KQ_19 := Lib.hid (OwnR.up KQ.out hb_14)
  clear hb_3 cz0_7 cz1_8 cz2_9 cz3_10 cz4_11 cz5_12 lz_13 KB_5 KW_6 Kz_4 KQ
  have cg0_20 := Blk.cell (i := 0) (v := .int .i64 O.kind) Kg_15 rfl
  have cg1_21 := Blk.cell (i := 1) (v := .int .i64 O.i) Kg_15 rfl
  have cg2_22 := Blk.cell (i := 2) (v := .int .i64 O.j) Kg_15 rfl
  have cg3_23 := Blk.cell (i := 3) (v := .int .i64 O.k) Kg_15 rfl
  have cg4_24 := Blk.cell (i := 4) (v := .slice A5 O.part.length c5) Kg_15 rfl
  have cg5_25 := Blk.cell (i := 5) (v := .string O.map) Kg_15 rfl
  have lg_26 := Blk.lt Kg_15
  go_wp2_with fail
  refine (markEdit_any _ _ O 1 _ (KQ_19.out).1 (by omega) (by omega)).mono ?_
  rintro e w11 ⟨rfl, ho_28, hg_27⟩
  have hc_29 := chg_of KQ_19.out hg_27
  have z_w11 : w6.heap.size ≤ w11.heap.size := Chg.size hc_29
  have KB_30 := Lib.hid (Below.chg KB_16.out (by have := Below.size KB_16.out; omega) hc_29 (by omega))
  have KW_31 := Lib.hid (SlS.chgN KW_17.out (by omega) hc_29 (by omega))
  have Kz_32 := Blk.chg Kz_18 hc_29 (by omega)
  have KQ_33 := Lib.hid (OwnR.markedC KQ_19.out ho_28 hc_29)
  have Kg_34 := Blk.chg Kg_15 hc_29 (by omega)
  clear hb_14 cg0_20 cg1_21 cg2_22 cg3_23 cg4_24 cg5_25 lg_26 KB_16 KW_17 Kz_18 KQ_19 Kg_15 ho_28 hg_27 hc_29
  have cg0_35 := Blk.cell (i := 0) (v := .int .i64 O.kind) Kg_34 rfl
  have cg1_36 := Blk.cell (i := 1) (v := .int .i64 O.i) Kg_34 rfl
  have cg2_37 := Blk.cell (i := 2) (v := .int .i64 O.j) Kg_34 rfl
  have cg3_38 := Blk.cell (i := 3) (v := .int .i64 O.k) Kg_34 rfl
  have cg4_39 := Blk.cell (i := 4) (v := .slice A5 O.part.length c5) Kg_34 rfl
  have cg5_40 := Blk.cell (i := 5) (v := .string O.map) Kg_34 rfl
  have lg_41 := Blk.lt Kg_34
  go_wp2_with fail
  refine (heldEdit_any _ O O.part.length _ (OwnR.sl KQ_33.out) (by omega)).mono ?_
  rintro e w12 ⟨rfl, hb_42⟩
  have z_w12 : w11.heap.size ≤ w12.heap.size := hb_42.size
  have KB_43 := Lib.hid (Below.tr KB_30.out hb_42)
  have KW_44 := Lib.hid (SlS.upN KW_31.out (by omega) hb_42)
  have Kz_45 := Blk.up Kz_32 hb_42
  have KQ_46 := Lib.hid (OwnR.up KQ_33.out hb_42)
  have Kg_47 := Blk.up Kg_34 hb_42
  clear cg0_35 cg1_36 cg2_37 cg3_38 cg4_39 cg5_40 lg_41 KB_30 KW_31 Kz_32 KQ_33 Kg_34
  have e0 : (decide (((1 + 3 * O.part.length : Nat) : Int) < 0)) = false := by simp; omega
  go_wp2_with fail
  refine (hIm.out _ (HV.out.up KB_43.out)).mono ?_
  rintro e w14 ⟨hb_48, v14, own14, rfl⟩
  have z_w14 : w12.heap.size ≤ w14.heap.size := hb_48.size
  have KB_49 := Lib.hid (Below.tr KB_43.out hb_48)
  have KW_50 := Lib.hid (SlS.upN KW_44.out (by omega) hb_48)
  have Kz_51 := Blk.up Kz_45 hb_48
  have KQ_52 := Lib.hid (OwnR.up KQ_46.out hb_48)
  have Kg_53 := Blk.up Kg_47 hb_48
  clear hb_42 KB_43 KW_44 Kz_45 KQ_46 Kg_47
  obtain ⟨A14, c14, rfl, _⟩ := own_nil own14
  have KH := Lib.hid (OwnRules.sl own14)
  clear own14
  have cz0_54 := Blk.cell (i := 0) (v := .int .i64 O.kind) Kz_51 rfl
  have cz1_55 := Blk.cell (i := 1) (v := .int .i64 O.i) Kz_51 rfl
  have cz2_56 := Blk.cell (i := 2) (v := .int .i64 O.j) Kz_51 rfl
  have cz3_57 := Blk.cell (i := 3) (v := .int .i64 O.k) Kz_51 rfl
  have cz4_58 := Blk.cell (i := 4) (v := .slice A3 O.part.length c3) Kz_51 rfl
  have cz5_59 := Blk.cell (i := 5) (v := .string O.map) Kz_51 rfl
  have lz_60 := Blk.lt Kz_51
  go_wp2_with fail
  refine (eqEdit_any _ _ O _ ⟨_, rfl, SlS.le (SlS.below KH.out (by repeat (first | exact Below.refl _ _ | (refine Below.alloc ?_ (by first | omega | (simp; done) | (simp; omega)) _) | (refine Below.setCell ?_ (by first | exact Nat.le_refl _ | (show _ ≤ _; omega) | (simp; done) | (simp; omega)) _) | refine below_drewN ?_ _ | refine Below.drew ?_))) (by simp; done)⟩ ⟨_, rfl, SlS.le (SlS.below KW_50.out (by repeat (first | exact Below.refl _ _ | (refine Below.alloc ?_ (by first | omega | (simp; done) | (simp; omega)) _) | (refine Below.setCell ?_ (by first | exact Nat.le_refl _ | (show _ ≤ _; omega) | (simp; done) | (simp; omega)) _) | refine below_drewN ?_ _ | refine Below.drew ?_))) (by simp; omega)⟩).mono ?_
  rintro e w15 ⟨rfl, hb_61⟩
  have Kh_62 : Blk w15 (w14.heap.size) #[.int .i64 O.kind, .int .i64 O.i, .int .i64 O.j, .int .i64 O.k, .slice A14 O.part.length c14, .string O.map] 26 := by have := (Below.unalloc hb_61).2; simpa [Blk] using this
  replace hb_61 := (Below.unalloc hb_61).1
  have z_w15 : w14.heap.size ≤ w15.heap.size := hb_61.size
  have KB_63 := Lib.hid (Below.tr KB_49.out hb_61)
  have KW_64 := Lib.hid (SlS.upN KW_50.out (by omega) hb_61)
  have Kz_65 := Blk.up Kz_51 hb_61
  have KQ_66 := Lib.hid (OwnR.up KQ_52.out hb_61)
  have Kg_67 := Blk.up Kg_53 hb_61
  have KH_68 := Lib.hid (SlS.upN KH.out (by omega) hb_61)
  clear hb_48 cz0_54 cz1_55 cz2_56 cz3_57 cz4_58 cz5_59 lz_60 KB_49 KW_50 Kz_51 KQ_52 Kg_53 KH
  have cg0_69 := Blk.cell (i := 0) (v := .int .i64 O.kind) Kg_67 rfl
  have cg1_70 := Blk.cell (i := 1) (v := .int .i64 O.i) Kg_67 rfl
  have cg2_71 := Blk.cell (i := 2) (v := .int .i64 O.j) Kg_67 rfl
  have cg3_72 := Blk.cell (i := 3) (v := .int .i64 O.k) Kg_67 rfl
  have cg4_73 := Blk.cell (i := 4) (v := .slice A5 O.part.length c5) Kg_67 rfl
  have cg5_74 := Blk.cell (i := 5) (v := .string O.map) Kg_67 rfl
  have lg_75 := Blk.lt Kg_67
  go_wp2_with fail
  refine (heldEdit_any _ O O.part.length _ (OwnR.sl KQ_66.out) (by omega)).mono ?_
  rintro e w16 ⟨rfl, hb_76⟩
  have z_w16 : w15.heap.size ≤ w16.heap.size := hb_76.size
  have KB_77 := Lib.hid (Below.tr KB_63.out hb_76)
  have KW_78 := Lib.hid (SlS.upN KW_64.out (by omega) hb_76)
  have Kz_79 := Blk.up Kz_65 hb_76
  have KQ_80 := Lib.hid (OwnR.up KQ_66.out hb_76)
  have Kg_81 := Blk.up Kg_67 hb_76
  have KH_82 := Lib.hid (SlS.upN KH_68.out (by omega) hb_76)
  have Kh_83 := Blk.up Kh_62 hb_76
  clear hb_61 cg0_69 cg1_70 cg2_71 cg3_72 cg4_73 cg5_74 lg_75 KB_63 KW_64 Kz_65 KQ_66 Kg_67 KH_68 Kh_62
  go_wp2
  go_ret
  exact ⟨rfl, KB_77.out⟩
end Go.Proofs.YtagpjommhoedlaaGreatDoor

namespace Go.Proofs.YtagpjommhoedlaaGreatDoor
open Go.RowKit Go.WideShapes Go.ChangeShapes
section
variable {H : Type} {enc : TypeId × Value → H} {P : Program}
theorem post_of_below {f : Func} {s : ChangeSpec} {apart fresh handsOn again : Bool} {W W' : World} {args : Array Value} {v : Value} {ds gs : List (DataW H)} {before pa pv : List MemPlace}
    (hW : DataW.Whole enc P f.params.toList s.vars apart W args.toList ds gs before)
    (hres : ∀ (b : Nat) (sp : Nat → Bool) (hd : Bool), DataW.TrodAll enc P W' b sp hd f.resultTypes.toList (v.resultList f.resultTypes.size) (s.fn H (ds ++ gs)).results [])
    (hargs : ∀ sp : Nat → Bool, (∀ p ∈ before, sp p.block = true) → DataW.TrodAll enc P W' 0 sp true f.params.toList args.toList (s.fn H (ds ++ gs)).args pa)
    (hvars : ∀ sp : Nat → Bool, (∀ p ∈ before, sp p.block = true) → DataW.TrodVars enc P W' sp s.vars (s.fn H (ds ++ gs)).vars pv)
    (hps : before = pa ++ pv) (hb : Below W.heap.size W W')
    (hok : ∀ (j : Nat) (t : TypeId) (r : Value), f.resultTypes[j]? = some t → (v.resultList f.resultTypes.size)[j]? = some r → Value.okWide P W' .any 0 t r) :
    s.post enc P f apart fresh handsOn again W args v W' := by
  have hlt : ∀ p ∈ before, p.block < W.heap.size := fun p hp => hW.lt p hp
  have hold : ∀ p ∈ before, (fun b => decide (b < W.heap.size)) p.block = true := fun p hp => by simpa using hlt p hp
  refine ⟨ds, gs, before, [], pa, pv, hW, hres _ _ _, hargs _ hold, hvars _ hold, World.keptBut_mono (fun p hp => ⟨hp, ?_⟩) (hb.frame (· ∈ before)), fun _ => ?_⟩
  · rw [hps, List.mem_append] at hp
    exact Or.inr hp
  · obtain ⟨_, _, _, _, _, hz, hn⟩ := hW
    refine ⟨hok, _, _, ([] ++ pa) ++ pv, ⟨[] ++ pa, pv, trodAll_append (hargs _ (fun _ _ => rfl)) (hres _ _ _), hvars _ (fun _ _ => rfl), rfl, ?_, ?_⟩, ?_⟩
    · intro b off hp
      have hin : MemPlace.cell b off ∈ before := by rw [hps]; simpa using hp
      rw [hb.frozen (hlt _ hin)]
      exact hz b off hin
    · intro ha
      have := hn ha
      rw [hps] at this
      simpa using this
    · intro p hp _
      rw [hps]
      simpa using hp

theorem trodAll_below (hl : laidOutB P = true) {W W' : World} (hb : Below W.heap.size W W') : ∀ {ts : List TypeId} {vs : List Value} {ds : List (DataW H)} {ps : List MemPlace},
    (∀ t ∈ ts, P.readableRec t = true ∧ t < P.types.size) → DataW.TrodAll enc P W 0 (fun _ => true) true ts vs ds ps → (∀ x ∈ ps, x.block < W.heap.size) → ∀ sp : Nat → Bool, (∀ p ∈ ps, sp p.block = true) →
    DataW.TrodAll enc P W' 0 sp true ts vs ds ps
  | [], _, _, _, _, h, _, _, _ => by
    obtain ⟨rfl, rfl, rfl⟩ := trodAll_nil h
    exact trodAll_mk0
  | t :: ts, vs, ds, ps, hts, h, hlt, sp, hsp => by
    obtain ⟨v, vs', d, ds', p, q, rfl, rfl, rfl, h0, r0⟩ := trodAll_cons h
    refine trodAll_cons_mk (WideElems.Trod_stays hl (hts t (by simp)).1 (hts t (by simp)).2 h0 (fun x hx => hb.same (hlt x (by simp [hx]))) (fun x hx => hsp x (by simp [hx]))) ?_
    exact trodAll_below hl hb (fun t ht => hts t (by simp [ht])) r0 (fun x hx => hlt x (by simp [hx])) sp (fun x hx => hsp x (by simp [hx]))
end
theorem laidOut : laidOutB Tryz.prog = true := by kernel_rfl
theorem own : ownKnob Tryz.prog.godebug = none := by kernel_rfl
end Go.Proofs.YtagpjommhoedlaaGreatDoor

namespace Go.Proofs.YtagpjommhoedlaaGreatDoor
open Go.RowKit Go.ChangeShapes Go.WideShapes Go.Deep
section
variable {H : Type} {enc : TypeId × Value → H} {P : Program} {w : World} {base : Nat} {spare : Nat → Bool} {held : Bool}
end
end Go.Proofs.YtagpjommhoedlaaGreatDoor

