import Derived.Test.YtdacndamehiglaaGreatDoorM14
namespace Go.Proofs.YtdacndamehiglaaGreatDoor
open Go.RowKit
theorem step_append_one {W : World} {ops : Array Oper} {o : Oper} {a : Act} {K : Act → World → Prop} {Q : Exit → Act → World → Prop} {E : Prop} (hgd : o.guard = none) (s x : Operand)
    (ho : o.op = .call { callee := .builtin .append, args := #[s, x], argTypes := #[36, 36] }) {lo hi lo2 hi2 : Nat} {v v2 : Value} {es : List GEdit} {i j : Int}
    (hs : a.eval s = v) (hx : a.eval x = v2) (hown : OEds W lo hi v es) (hown2 : OEds W lo2 hi2 v2 [delE i j]) (hlen : es.length ≤ 1048576) (hnp : ∀ e ∈ es, e.part = []) (hbase : lo ≤ W.heap.size)
    (h : ∀ v' w', OEds w' lo w'.heap.size v' (es ++ [delE i j]) → Below lo W w' → K (a.put o.dst v') w') :
    if Region.wanted o (yielded ops a.tmps) = true then Oper.wp Tryz.prog o a W K Q else E := by
  have hw : Region.wanted o (yielded ops a.tmps) = true := by simp [Region.wanted, hgd]
  rw [if_pos hw]
  obtain ⟨ps, r, hm, hrow, hhi, hsz, hP⟩ := hown
  obtain ⟨ps2, r2, hm2, hrow2, h9⟩ := hown2
  obtain ⟨p2, rfl, hp2⟩ : ∃ p2, ps2 = [p2] ∧ p2.1 = delE i j := by
    match ps2, hm2 with
    | [p2], h => exact ⟨p2, rfl, by simpa using h⟩
  obtain ⟨g2, c2, rfl, _, hg2, hc2, hcell⟩ := own_form hrow2 (by simp)
  obtain ⟨i0, hi0, hz0, hz1, hz2⟩ := info_parts Tryz.infoEd
  have hx2 : a.eval x = .slice (some ⟨g2, 0, none⟩) 1 c2 := hx
  have hpt2 := h9.2.2.at_ 0 p2 rfl
  have hone : p2.2.oneCell' = true := by
    obtain ⟨Az, cz, hz, _⟩ := hpt2.sl
    rw [hz]; simp [Value.oneCell']
  obtain ⟨v', w', hrun, k1, k2, _, k3⟩ := run_append_own_at (P := Tryz.prog) W lo 36 o.type 30 i0 _ 6 72 Tryz.underlying36 hi0 hz0 hz1 hz2 rfl (by decide) v es.length _ hrow ⟨g2, 0, none⟩ 1 c2 (epCells p2) rfl
    (fun j y hy => by
      have ha : (⟨g2, 0, none⟩ : Addr).add j = ⟨g2, j, none⟩ := by unfold Addr.add; split <;> simp_all
      rw [ha]; exact hcell j y (by simpa using hy)) (by simp [epCells, Value.oneCell'] at hone ⊢; exact hone) (by simp only [maxLen]; omega) (by omega) hbase
  unfold Oper.wp execOp
  simp only [ho, resolve, invoke, builtin, Sem.run_bind, Sem.run_pure, Result.andThen_ok, List.map_toArray, List.map_cons, List.map_nil, hs, hx2, hrun]
  have hb : Below lo W w' := (Below.refl lo W).grown k2 hbase (fun y hy => (World.ownsRow.lt hrow y hy).1)
  have k1' : w'.ownsRow lo 30 6 v' (es ++ [delE i j]).length ((ps ++ [p2]).flatMap epCells) := by simpa using k1
  refine h v' w' ⟨ps ++ [p2], fun _ => lo, by rw [List.map_append, hm]; simp [hp2], k1', fun g hg => (World.ownsRow.lt k1' g hg).2, Nat.le_refl _, Nat.le_refl _, fun _ _ _ => Nat.le_refl _, fun _ => Nat.le_trans hbase hb.size, fun n p hp => ?_⟩ hb
  have hnil : p.1.part = [] ∧ ∃ A c, p.2 = .slice A 0 c ∧ c ≤ maxLen := by
    rcases Nat.lt_or_ge n ps.length with hlt | hge
    · rw [List.getElem?_append_left hlt] at hp
      have he : p.1 ∈ es := by rw [← hm]; exact List.mem_map_of_mem (List.mem_of_getElem? hp)
      have hpn := hnp _ he
      obtain ⟨A, c, h1, _, h2, _⟩ := (hP.at_ n p hp).sl
      rw [hpn] at h1
      exact ⟨hpn, A, c, h1, h2⟩
    · rw [List.getElem?_append_right hge] at hp
      have hn0 : n - ps.length = 0 := by
        have := (List.getElem?_eq_some_iff.1 hp).1
        simp at this; omega
      rw [hn0] at hp
      simp at hp
      subst hp
      have hpn : p2.1.part = [] := by rw [hp2]; rfl
      obtain ⟨A, c, h1, _, h2, _⟩ := hpt2.sl
      rw [hpn] at h1
      exact ⟨hpn, A, c, h1, h2⟩
  exact ⟨.inl hnil, fun g _ => by omega⟩
theorem keep62 {wr W : World} {a x : Nat} {t t' : TypeId} {v0 v1 v2 v3 v4 v5 c0 c1 c2 c3 c4 c5 : Value} (ha : Blk wr a #[v0, v1, v2, v3, v4, v5] t) (hx : Blk wr x #[c0, c1, c2, c3, c4, c5] t') (h : Below wr.heap.size wr W) :
    W.cell? ⟨a, 0, none⟩ = some v0 ∧ W.cell? ⟨a, 1, none⟩ = some v1 ∧ W.cell? ⟨a, 2, none⟩ = some v2 ∧ W.cell? ⟨a, 3, none⟩ = some v3 ∧ W.cell? ⟨a, 4, none⟩ = some v4 ∧ W.cell? ⟨a, 5, none⟩ = some v5 ∧ W.cell? ⟨x, 1, none⟩ = some c1 ∧ W.cell? ⟨x, 2, none⟩ = some c2 ∧ W.cell? ⟨x, 4, none⟩ = some c4 := by
  have h1 := ha.up h
  have h2 := hx.up h
  exact ⟨h1.cell rfl, h1.cell rfl, h1.cell rfl, h1.cell rfl, h1.cell rfl, h1.cell rfl, h2.cell rfl, h2.cell rfl, h2.cell rfl⟩
set_option maxRecDepth 100000 in
set_option maxHeartbeats 4000000 in
theorem passed_any (ve vf : Value) (e f : GEdit) (first : Bool) (w : World) (hE : EditV w w.heap.size ve e) (hF : EditV w w.heap.size vf f) (he : editOk e = true) (hf : editOk f = true) (se : simE e = true) (sf : simE f = true) :
    Calls Tryz.prog 81 #[ve, vf, .bool first] w (PRes (passE e f first) w) := by
  obtain ⟨vE, rfl, sE⟩ := hE
  obtain ⟨vF, rfl, sF⟩ := hF
  have SE := Lib.hid sE
  have SF := Lib.hid sF
  have nE := edit_nums he
  have nF := edit_nums hf
  have HGF := Lib.hid (kind_ok hf).2.1
  have hgb := gramLen_bounds f.part
  have hnF : f.part.length ≤ 1048576 := by have := gram_len400 (kind_ok hf).2.1; omega
  have hnE : e.part.length ≤ 1048576 := by have := gram_len400 (kind_ok he).2.1; omega
  have q1 : lenV f.part = gramLen f.part := by unfold lenV; rw [HGF.out]; rfl
  have HQ1 := Lib.hid q1
  have HKE0 := Lib.hid (simE_kind se)
  have HKF0 := Lib.hid (simE_kind sf)
  obtain ⟨AE, cE, rfl, _⟩ := sE
  obtain ⟨AF, cF, rfl, _⟩ := sF
  clear q1 he hf
  go_enter Tryz.func81, Tryz.ntmps81
  go_wp2_with fail
  refine (LengthOf_any _ f.part _ (SF.out.up (by repeat (first | exact Below.refl _ _ | (refine Below.alloc ?_ (by first | omega | (simp; done) | (simp; omega)) _) | (refine Below.setCell ?_ (by first | exact Nat.le_refl _ | (show _ ≤ _; omega) | (simp; done) | (simp; omega)) _) | refine below_drewN ?_ _ | refine Below.drew ?_))) (by omega)).mono ?_
  rintro e w1 ⟨rfl, hb_1⟩
  have KF_2 : Blk w1 (w.heap.size + 1) #[.int .i64 f.kind, .int .i64 f.i, .int .i64 f.j, .int .i64 f.k, .slice AF f.part.length cF, .string f.map] 30 := by have := (Below.unalloc hb_1).2; simpa [Blk] using this
  replace hb_1 := (Below.unalloc hb_1).1
  have KE_3 : Blk w1 (w.heap.size) #[.int .i64 e.kind, .int .i64 e.i, .int .i64 e.j, .int .i64 e.k, .slice AE e.part.length cE, .string e.map] 30 := by have := (Below.unalloc hb_1).2; simpa [Blk] using this
  replace hb_1 := (Below.unalloc hb_1).1
  have z_w1 : w.heap.size ≤ w1.heap.size := hb_1.size
  have KSE_4 := Lib.hid (SE.out.up hb_1)
  have KSF_5 := Lib.hid (SF.out.up hb_1)
  have KB_6 := Lib.hid hb_1
  clear SE SF
  rw [HQ1.out]
  rcases HKE0.out with hke | hke
  · have HKE := Lib.hid hke
    rcases HKF0.out with hkf | hkf
    · have HKF := Lib.hid hkf
      have ws : IntKind.i64.wrap (e.i + gramLen f.part) = e.i + gramLen f.part := IntWalk.i64_in _ (by omega)
      by_cases hlt : f.i < e.i
      · have HLT := Lib.hid hlt
        have cE0_7 := Blk.cell (i := 0) (v := .int .i64 e.kind) KE_3 rfl
        have cE1_8 := Blk.cell (i := 1) (v := .int .i64 e.i) KE_3 rfl
        have cE2_9 := Blk.cell (i := 2) (v := .int .i64 e.j) KE_3 rfl
        have cE3_10 := Blk.cell (i := 3) (v := .int .i64 e.k) KE_3 rfl
        have cE4_11 := Blk.cell (i := 4) (v := .slice AE e.part.length cE) KE_3 rfl
        have cE5_12 := Blk.cell (i := 5) (v := .string e.map) KE_3 rfl
        have lE_13 := Blk.lt KE_3
        have cF0_14 := Blk.cell (i := 0) (v := .int .i64 f.kind) KF_2 rfl
        have cF1_15 := Blk.cell (i := 1) (v := .int .i64 f.i) KF_2 rfl
        have cF2_16 := Blk.cell (i := 2) (v := .int .i64 f.j) KF_2 rfl
        have cF3_17 := Blk.cell (i := 3) (v := .int .i64 f.k) KF_2 rfl
        have cF4_18 := Blk.cell (i := 4) (v := .slice AF f.part.length cF) KF_2 rfl
        have cF5_19 := Blk.cell (i := 5) (v := .string f.map) KF_2 rfl
        have lF_20 := Blk.lt KF_2
        rw [hke] at cE0_7
        rw [hkf] at cF0_14
        clear hke hkf
        have HP := Lib.hid (show passE e f first = [insE (e.i + gramLen f.part) e.part] by unfold passE; rw [if_pos HKE.out]; congr 1; unfold passI; rw [if_pos HKF.out, if_pos (.inl HLT.out)])
        go_wp2_with fail
        refine (copied_any _ e.part _ (KSE_4.out.up (by repeat (first | exact Below.refl _ _ | (refine Below.alloc ?_ (by first | omega | (simp; done) | (simp; omega)) _) | (refine Below.setCell ?_ (by first | exact Nat.le_refl _ | (show _ ≤ _; omega) | (simp; done) | (simp; omega)) _) | refine below_drewN ?_ _ | refine Below.drew ?_))) (by omega)).mono ?_
        rintro e w9 ⟨v9, rfl, own9, hb_21⟩
        have z_w9 : w1.heap.size ≤ w9.heap.size := hb_21.size
        have KSE_22 := Lib.hid (KSE_4.out.up hb_21)
        have KSF_23 := Lib.hid (KSF_5.out.up hb_21)
        have KF_24 := Blk.up KF_2 hb_21
        have KE_25 := Blk.up KE_3 hb_21
        have KB_26 := Lib.hid (Below.tr KB_6.out hb_21)
        clear hb_1 cE0_7 cE1_8 cE2_9 cE3_10 cE4_11 cE5_12 lE_13 cF0_14 cF1_15 cF2_16 cF3_17 cF4_18 cF5_19 lF_20 KSE_4 KSF_5 KF_2 KE_3 KB_6
        obtain ⟨A9, c9, rfl, _⟩ := own_nil own9
        have OR := OwnR.of own9
        have hs9 := Below.size KB_26.out
        have OR2 : OwnR w9 w.heap.size w9.heap.size (.slice A9 e.part.length c9) e.part := ⟨ownsRow_more OR.1 (by omega), OR.2⟩
        go_wp2_with fail
        go_ret
        rw [HP.out]
        exact PRes.mk1 (lo := w.heap.size) (Below.alloc KB_26.out hs9 _) (oeds_one (e := insE (e.i + gramLen f.part) e.part) (u := .slice A9 e.part.length c9) rfl hs9 (.inr OR2)) (Nat.le_refl _)
      · have hld : decide (f.i < e.i) = false := by simp; omega
        have HLD := Lib.hid (show ¬ f.i < e.i by omega)
        by_cases hii : e.i = f.i
        · have HII := Lib.hid hii
          have hbq : (e.i == f.i) = true := by simp [hii]
          cases first with
          | true =>
            have cE0_27 := Blk.cell (i := 0) (v := .int .i64 e.kind) KE_3 rfl
            have cE1_28 := Blk.cell (i := 1) (v := .int .i64 e.i) KE_3 rfl
            have cE2_29 := Blk.cell (i := 2) (v := .int .i64 e.j) KE_3 rfl
            have cE3_30 := Blk.cell (i := 3) (v := .int .i64 e.k) KE_3 rfl
            have cE4_31 := Blk.cell (i := 4) (v := .slice AE e.part.length cE) KE_3 rfl
            have cE5_32 := Blk.cell (i := 5) (v := .string e.map) KE_3 rfl
            have lE_33 := Blk.lt KE_3
            have cF0_34 := Blk.cell (i := 0) (v := .int .i64 f.kind) KF_2 rfl
            have cF1_35 := Blk.cell (i := 1) (v := .int .i64 f.i) KF_2 rfl
            have cF2_36 := Blk.cell (i := 2) (v := .int .i64 f.j) KF_2 rfl
            have cF3_37 := Blk.cell (i := 3) (v := .int .i64 f.k) KF_2 rfl
            have cF4_38 := Blk.cell (i := 4) (v := .slice AF f.part.length cF) KF_2 rfl
            have cF5_39 := Blk.cell (i := 5) (v := .string f.map) KF_2 rfl
            have lF_40 := Blk.lt KF_2
            rw [hke] at cE0_27
            rw [hkf] at cF0_34
            clear hke hkf hii
            have HP := Lib.hid (show passE e f true = [insE (e.i) e.part] by unfold passE; rw [if_pos HKE.out]; congr 1; unfold passI; rw [if_pos HKF.out, if_neg (by have := HII.out; simp; omega)])
            go_wp2_with fail
            refine (copied_any _ e.part _ (KSE_4.out.up (by repeat (first | exact Below.refl _ _ | (refine Below.alloc ?_ (by first | omega | (simp; done) | (simp; omega)) _) | (refine Below.setCell ?_ (by first | exact Nat.le_refl _ | (show _ ≤ _; omega) | (simp; done) | (simp; omega)) _) | refine below_drewN ?_ _ | refine Below.drew ?_))) (by omega)).mono ?_
            rintro e w9 ⟨v9, rfl, own9, hb_41⟩
            have z_w9 : w1.heap.size ≤ w9.heap.size := hb_41.size
            have KSE_42 := Lib.hid (KSE_4.out.up hb_41)
            have KSF_43 := Lib.hid (KSF_5.out.up hb_41)
            have KF_44 := Blk.up KF_2 hb_41
            have KE_45 := Blk.up KE_3 hb_41
            have KB_46 := Lib.hid (Below.tr KB_6.out hb_41)
            clear hb_1 cE0_27 cE1_28 cE2_29 cE3_30 cE4_31 cE5_32 lE_33 cF0_34 cF1_35 cF2_36 cF3_37 cF4_38 cF5_39 lF_40 KSE_4 KSF_5 KF_2 KE_3 KB_6
            obtain ⟨A9, c9, rfl, _⟩ := own_nil own9
            have OR := OwnR.of own9
            have hs9 := Below.size KB_46.out
            have OR2 : OwnR w9 w.heap.size w9.heap.size (.slice A9 e.part.length c9) e.part := ⟨ownsRow_more OR.1 (by omega), OR.2⟩
            go_wp2_with fail
            go_ret
            rw [HP.out]
            exact PRes.mk1 (lo := w.heap.size) (Below.alloc KB_46.out hs9 _) (oeds_one (e := insE (e.i) e.part) (u := .slice A9 e.part.length c9) rfl hs9 (.inr OR2)) (Nat.le_refl _)
          | false =>
            have cE0_47 := Blk.cell (i := 0) (v := .int .i64 e.kind) KE_3 rfl
            have cE1_48 := Blk.cell (i := 1) (v := .int .i64 e.i) KE_3 rfl
            have cE2_49 := Blk.cell (i := 2) (v := .int .i64 e.j) KE_3 rfl
            have cE3_50 := Blk.cell (i := 3) (v := .int .i64 e.k) KE_3 rfl
            have cE4_51 := Blk.cell (i := 4) (v := .slice AE e.part.length cE) KE_3 rfl
            have cE5_52 := Blk.cell (i := 5) (v := .string e.map) KE_3 rfl
            have lE_53 := Blk.lt KE_3
            have cF0_54 := Blk.cell (i := 0) (v := .int .i64 f.kind) KF_2 rfl
            have cF1_55 := Blk.cell (i := 1) (v := .int .i64 f.i) KF_2 rfl
            have cF2_56 := Blk.cell (i := 2) (v := .int .i64 f.j) KF_2 rfl
            have cF3_57 := Blk.cell (i := 3) (v := .int .i64 f.k) KF_2 rfl
            have cF4_58 := Blk.cell (i := 4) (v := .slice AF f.part.length cF) KF_2 rfl
            have cF5_59 := Blk.cell (i := 5) (v := .string f.map) KF_2 rfl
            have lF_60 := Blk.lt KF_2
            rw [hke] at cE0_47
            rw [hkf] at cF0_54
            clear hke hkf hii
            have HP := Lib.hid (show passE e f false = [insE (e.i + gramLen f.part) e.part] by unfold passE; rw [if_pos HKE.out]; congr 1; unfold passI; rw [if_pos HKF.out, if_pos (.inr ⟨HII.out.symm, rfl⟩)])
            go_wp2_with fail
            refine (copied_any _ e.part _ (KSE_4.out.up (by repeat (first | exact Below.refl _ _ | (refine Below.alloc ?_ (by first | omega | (simp; done) | (simp; omega)) _) | (refine Below.setCell ?_ (by first | exact Nat.le_refl _ | (show _ ≤ _; omega) | (simp; done) | (simp; omega)) _) | refine below_drewN ?_ _ | refine Below.drew ?_))) (by omega)).mono ?_
            rintro e w9 ⟨v9, rfl, own9, hb_61⟩
            have z_w9 : w1.heap.size ≤ w9.heap.size := hb_61.size
            have KSE_62 := Lib.hid (KSE_4.out.up hb_61)
            have KSF_63 := Lib.hid (KSF_5.out.up hb_61)
            have KF_64 := Blk.up KF_2 hb_61
            have KE_65 := Blk.up KE_3 hb_61
            have KB_66 := Lib.hid (Below.tr KB_6.out hb_61)
            clear hb_1 cE0_47 cE1_48 cE2_49 cE3_50 cE4_51 cE5_52 lE_53 cF0_54 cF1_55 cF2_56 cF3_57 cF4_58 cF5_59 lF_60 KSE_4 KSF_5 KF_2 KE_3 KB_6
            obtain ⟨A9, c9, rfl, _⟩ := own_nil own9
            have OR := OwnR.of own9
            have hs9 := Below.size KB_66.out
            have OR2 : OwnR w9 w.heap.size w9.heap.size (.slice A9 e.part.length c9) e.part := ⟨ownsRow_more OR.1 (by omega), OR.2⟩
            go_wp2_with fail
            go_ret
            rw [HP.out]
            exact PRes.mk1 (lo := w.heap.size) (Below.alloc KB_66.out hs9 _) (oeds_one (e := insE (e.i + gramLen f.part) e.part) (u := .slice A9 e.part.length c9) rfl hs9 (.inr OR2)) (Nat.le_refl _)
        · have HII := Lib.hid hii
          have hbq : (e.i == f.i) = false := by simp [hii]
          have cE0_67 := Blk.cell (i := 0) (v := .int .i64 e.kind) KE_3 rfl
          have cE1_68 := Blk.cell (i := 1) (v := .int .i64 e.i) KE_3 rfl
          have cE2_69 := Blk.cell (i := 2) (v := .int .i64 e.j) KE_3 rfl
          have cE3_70 := Blk.cell (i := 3) (v := .int .i64 e.k) KE_3 rfl
          have cE4_71 := Blk.cell (i := 4) (v := .slice AE e.part.length cE) KE_3 rfl
          have cE5_72 := Blk.cell (i := 5) (v := .string e.map) KE_3 rfl
          have lE_73 := Blk.lt KE_3
          have cF0_74 := Blk.cell (i := 0) (v := .int .i64 f.kind) KF_2 rfl
          have cF1_75 := Blk.cell (i := 1) (v := .int .i64 f.i) KF_2 rfl
          have cF2_76 := Blk.cell (i := 2) (v := .int .i64 f.j) KF_2 rfl
          have cF3_77 := Blk.cell (i := 3) (v := .int .i64 f.k) KF_2 rfl
          have cF4_78 := Blk.cell (i := 4) (v := .slice AF f.part.length cF) KF_2 rfl
          have cF5_79 := Blk.cell (i := 5) (v := .string f.map) KF_2 rfl
          have lF_80 := Blk.lt KF_2
          rw [hke] at cE0_67
          rw [hkf] at cF0_74
          clear hke hkf hii hlt
          have HP := Lib.hid (show passE e f first = [insE (e.i) e.part] by unfold passE; rw [if_pos HKE.out]; congr 1; unfold passI; rw [if_pos HKF.out, if_neg (by have h1 := HII.out; have h2 := HLD.out; omega)])
          go_wp2_with fail
          refine (copied_any _ e.part _ (KSE_4.out.up (by repeat (first | exact Below.refl _ _ | (refine Below.alloc ?_ (by first | omega | (simp; done) | (simp; omega)) _) | (refine Below.setCell ?_ (by first | exact Nat.le_refl _ | (show _ ≤ _; omega) | (simp; done) | (simp; omega)) _) | refine below_drewN ?_ _ | refine Below.drew ?_))) (by omega)).mono ?_
          rintro e w9 ⟨v9, rfl, own9, hb_81⟩
          have z_w9 : w1.heap.size ≤ w9.heap.size := hb_81.size
          have KSE_82 := Lib.hid (KSE_4.out.up hb_81)
          have KSF_83 := Lib.hid (KSF_5.out.up hb_81)
          have KF_84 := Blk.up KF_2 hb_81
          have KE_85 := Blk.up KE_3 hb_81
          have KB_86 := Lib.hid (Below.tr KB_6.out hb_81)
          clear hb_1 cE0_67 cE1_68 cE2_69 cE3_70 cE4_71 cE5_72 lE_73 cF0_74 cF1_75 cF2_76 cF3_77 cF4_78 cF5_79 lF_80 KSE_4 KSF_5 KF_2 KE_3 KB_6
          obtain ⟨A9, c9, rfl, _⟩ := own_nil own9
          have OR := OwnR.of own9
          have hs9 := Below.size KB_86.out
          have OR2 : OwnR w9 w.heap.size w9.heap.size (.slice A9 e.part.length c9) e.part := ⟨ownsRow_more OR.1 (by omega), OR.2⟩
          go_wp2_with fail
          go_ret
          rw [HP.out]
          exact PRes.mk1 (lo := w.heap.size) (Below.alloc KB_86.out hs9 _) (oeds_one (e := insE (e.i) e.part) (u := .slice A9 e.part.length c9) rfl hs9 (.inr OR2)) (Nat.le_refl _)
    · have HKF := Lib.hid hkf
      have cE0_87 := Blk.cell (i := 0) (v := .int .i64 e.kind) KE_3 rfl
      have cE1_88 := Blk.cell (i := 1) (v := .int .i64 e.i) KE_3 rfl
      have cE2_89 := Blk.cell (i := 2) (v := .int .i64 e.j) KE_3 rfl
      have cE3_90 := Blk.cell (i := 3) (v := .int .i64 e.k) KE_3 rfl
      have cE4_91 := Blk.cell (i := 4) (v := .slice AE e.part.length cE) KE_3 rfl
      have cE5_92 := Blk.cell (i := 5) (v := .string e.map) KE_3 rfl
      have lE_93 := Blk.lt KE_3
      have cF0_94 := Blk.cell (i := 0) (v := .int .i64 f.kind) KF_2 rfl
      have cF1_95 := Blk.cell (i := 1) (v := .int .i64 f.i) KF_2 rfl
      have cF2_96 := Blk.cell (i := 2) (v := .int .i64 f.j) KF_2 rfl
      have cF3_97 := Blk.cell (i := 3) (v := .int .i64 f.k) KF_2 rfl
      have cF4_98 := Blk.cell (i := 4) (v := .slice AF f.part.length cF) KF_2 rfl
      have cF5_99 := Blk.cell (i := 5) (v := .string f.map) KF_2 rfl
      have lF_100 := Blk.lt KF_2
      have hrf : inR (f.j - f.i) (-4000000000000000000) 4000000000000000000 = true := by simp [inR]; omega
      have hri : inR e.i 0 1000000000000000 = true := by simp [inR]; omega
      have hfij : f.i ≤ f.j := nF.2.2.2.2 hkf
      have HP := Lib.hid (show passE e f first = [insE (lessP f e.i) e.part] by unfold passE; rw [if_pos HKE.out]; congr 1; unfold passI; rw [if_neg (by rw [HKF.out]; decide)])
      rw [hke] at cE0_87
      have bke : (f.kind == 1) = false := by simp [hkf]
      clear hke hkf
      have KB := Lib.hid KB_6.out
      have KF0 := Lib.hid KF_2
      have KE0 := Lib.hid KE_3
      have KS := fun (W : World) (h : Below w1.heap.size w1 W) => keep62 KF0.out KE0.out h
      have KD := KS _ (Below.drew (Below.refl w1.heap.size w1))
      go_wp2_with fail
      go_region_held3 (fun w' => w'.cell? ⟨w.heap.size + 1, 0, none⟩ = some (.int .i64 f.kind) ∧ w'.cell? ⟨w.heap.size + 1, 1, none⟩ = some (.int .i64 f.i) ∧ w'.cell? ⟨w.heap.size + 1, 2, none⟩ = some (.int .i64 f.j) ∧ w'.cell? ⟨w.heap.size + 1, 3, none⟩ = some (.int .i64 f.k) ∧ w'.cell? ⟨w.heap.size + 1, 4, none⟩ = some (.slice AF f.part.length cF) ∧ w'.cell? ⟨w.heap.size + 1, 5, none⟩ = some (.string f.map) ∧ w'.cell? ⟨w.heap.size, 1, none⟩ = some (.int .i64 e.i) ∧ w'.cell? ⟨w.heap.size, 2, none⟩ = some (.int .i64 e.j) ∧ w'.cell? ⟨w.heap.size, 4, none⟩ = some (.slice AE e.part.length cE))
        (first | (with_reducible exact KD) | (with_reducible exact KS _ b2) | (with_reducible exact KS _ b3) | (with_reducible exact KS _ (b3.alloc b3.size _)))
        (first
          | (go_at_call 129; (refine (removed_any _ f e.i _ ⟨_, rfl, KSF_5.out.up (Below.drew (Below.refl _ _))⟩ hrf hri hfij nF.1 nF.2.2.2.1).mono ?_); rintro r2 w2 ⟨rfl, hb2⟩; have b2 := Below.undrew hb2)
          | (go_at_call 61; (refine (copied_any _ e.part _ (KSE_4.out.up b2) (by omega)).mono ?_); rintro r3 w3 ⟨v3, rfl, own3, hb3⟩; obtain ⟨A9, c9, rfl, _⟩ := own_nil own3; have b3 := Below.tr b2 hb3))
      have B3 := Lib.hid (Below.tr KB.out b3)
      have hs3 := B3.out.size
      have hs2 := (Below.tr KB.out b2).size
      have OR := OwnR.of own3
      have OR2 : OwnR w3 w.heap.size w3.heap.size (.slice A9 e.part.length c9) e.part := ⟨ownsRow_more OR.1 (by omega), OR.2⟩
      go_wp2_with fail
      go_ret
      rw [HP.out]
      exact PRes.mk1 (lo := w.heap.size) (B3.out.alloc hs3 _) (oeds_one (e := insE (lessP f e.i) e.part) (u := .slice A9 e.part.length c9) rfl hs3 (.inr OR2)) (Nat.le_refl _)
  · have HKE := Lib.hid hke
    have HKN := Lib.hid (show ¬ e.kind = 1 by omega)
    have heij := nE.2.2.2.2 hke
    have bke : (e.kind == 1) = false := by simp [hke]
    rcases HKF0.out with hkf | hkf
    · have HKF := Lib.hid hkf
      have w1a : IntKind.i64.wrap (e.i + gramLen f.part) = e.i + gramLen f.part := IntWalk.i64_in _ (by omega)
      have w2a : IntKind.i64.wrap (e.j + gramLen f.part) = e.j + gramLen f.part := IntWalk.i64_in _ (by omega)
      have w3a : IntKind.i64.wrap (f.i + gramLen f.part) = f.i + gramLen f.part := IntWalk.i64_in _ (by omega)
      by_cases c1 : f.i ≤ e.i
      · skip
        have cE0_101 := Blk.cell (i := 0) (v := .int .i64 e.kind) KE_3 rfl
        have cE1_102 := Blk.cell (i := 1) (v := .int .i64 e.i) KE_3 rfl
        have cE2_103 := Blk.cell (i := 2) (v := .int .i64 e.j) KE_3 rfl
        have cE3_104 := Blk.cell (i := 3) (v := .int .i64 e.k) KE_3 rfl
        have cE4_105 := Blk.cell (i := 4) (v := .slice AE e.part.length cE) KE_3 rfl
        have cE5_106 := Blk.cell (i := 5) (v := .string e.map) KE_3 rfl
        have lE_107 := Blk.lt KE_3
        have cF0_108 := Blk.cell (i := 0) (v := .int .i64 f.kind) KF_2 rfl
        have cF1_109 := Blk.cell (i := 1) (v := .int .i64 f.i) KF_2 rfl
        have cF2_110 := Blk.cell (i := 2) (v := .int .i64 f.j) KF_2 rfl
        have cF3_111 := Blk.cell (i := 3) (v := .int .i64 f.k) KF_2 rfl
        have cF4_112 := Blk.cell (i := 4) (v := .slice AF f.part.length cF) KF_2 rfl
        have cF5_113 := Blk.cell (i := 5) (v := .string f.map) KF_2 rfl
        have lF_114 := Blk.lt KF_2
        rw [hke] at cE0_101
        rw [hkf] at cF0_108
        have HC1 := Lib.hid c1
        have HP := Lib.hid (show passE e f first = remE (e.i + gramLen f.part) (e.j + gramLen f.part) by unfold passE remE; rw [if_neg HKN.out]; by_cases h : e.i = e.j; (rw [if_pos h, if_neg (by omega)]); (rw [if_neg h, if_pos HKF.out, if_pos HC1.out, if_pos (by omega)]))
        go_wp2_with fail
        refine (removal_any (e.i + gramLen f.part) (e.j + gramLen f.part) _).mono ?_
        rintro r9 w9 ⟨hb9, v9, rfl, own9⟩
        have HB9 := Lib.hid (Below.tr KB_6.out hb9)
        have hs1 := Below.size KB_6.out
        go_wp2_with fail
        go_ret
        rw [HP.out]
        exact PRes.mk1 (lo := w1.heap.size) HB9.out own9 hs1
      · have d1 : decide (f.i ≤ e.i) = false := by simp; omega
        have HC1 := Lib.hid (show e.i < f.i by omega)
        by_cases c2 : e.j ≤ f.i
        · skip
          have cE0_115 := Blk.cell (i := 0) (v := .int .i64 e.kind) KE_3 rfl
          have cE1_116 := Blk.cell (i := 1) (v := .int .i64 e.i) KE_3 rfl
          have cE2_117 := Blk.cell (i := 2) (v := .int .i64 e.j) KE_3 rfl
          have cE3_118 := Blk.cell (i := 3) (v := .int .i64 e.k) KE_3 rfl
          have cE4_119 := Blk.cell (i := 4) (v := .slice AE e.part.length cE) KE_3 rfl
          have cE5_120 := Blk.cell (i := 5) (v := .string e.map) KE_3 rfl
          have lE_121 := Blk.lt KE_3
          have cF0_122 := Blk.cell (i := 0) (v := .int .i64 f.kind) KF_2 rfl
          have cF1_123 := Blk.cell (i := 1) (v := .int .i64 f.i) KF_2 rfl
          have cF2_124 := Blk.cell (i := 2) (v := .int .i64 f.j) KF_2 rfl
          have cF3_125 := Blk.cell (i := 3) (v := .int .i64 f.k) KF_2 rfl
          have cF4_126 := Blk.cell (i := 4) (v := .slice AF f.part.length cF) KF_2 rfl
          have cF5_127 := Blk.cell (i := 5) (v := .string f.map) KF_2 rfl
          have lF_128 := Blk.lt KF_2
          rw [hke] at cE0_115
          rw [hkf] at cF0_122
          have HC2 := Lib.hid c2
          have HP := Lib.hid (show passE e f first = remE (e.i) (e.j) by have h1 := HC1.out; unfold passE remE; rw [if_neg HKN.out]; by_cases h : e.i = e.j; (rw [if_pos h, if_neg (by omega)]); (rw [if_neg h, if_pos HKF.out, if_neg (by omega), if_pos HC2.out, if_pos (by omega)]))
          go_wp2_with fail
          refine (removal_any (e.i) (e.j) _).mono ?_
          rintro r9 w9 ⟨hb9, v9, rfl, own9⟩
          have HB9 := Lib.hid (Below.tr KB_6.out hb9)
          have hs1 := Below.size KB_6.out
          go_wp2_with fail
          go_ret
          rw [HP.out]
          exact PRes.mk1 (lo := w1.heap.size) HB9.out own9 hs1
        · have d2 : decide (e.j ≤ f.i) = false := by simp; omega
          have HC2 := Lib.hid (show f.i < e.j by omega)
          have cE0_129 := Blk.cell (i := 0) (v := .int .i64 e.kind) KE_3 rfl
          have cE1_130 := Blk.cell (i := 1) (v := .int .i64 e.i) KE_3 rfl
          have cE2_131 := Blk.cell (i := 2) (v := .int .i64 e.j) KE_3 rfl
          have cE3_132 := Blk.cell (i := 3) (v := .int .i64 e.k) KE_3 rfl
          have cE4_133 := Blk.cell (i := 4) (v := .slice AE e.part.length cE) KE_3 rfl
          have cE5_134 := Blk.cell (i := 5) (v := .string e.map) KE_3 rfl
          have lE_135 := Blk.lt KE_3
          have cF0_136 := Blk.cell (i := 0) (v := .int .i64 f.kind) KF_2 rfl
          have cF1_137 := Blk.cell (i := 1) (v := .int .i64 f.i) KF_2 rfl
          have cF2_138 := Blk.cell (i := 2) (v := .int .i64 f.j) KF_2 rfl
          have cF3_139 := Blk.cell (i := 3) (v := .int .i64 f.k) KF_2 rfl
          have cF4_140 := Blk.cell (i := 4) (v := .slice AF f.part.length cF) KF_2 rfl
          have cF5_141 := Blk.cell (i := 5) (v := .string f.map) KF_2 rfl
          have lF_142 := Blk.lt KF_2
          rw [hke] at cE0_129
          rw [hkf] at cF0_136
          have h1 := HC1.out
          have h2 := HC2.out
          have HP := Lib.hid (show passE e f first = [delE (f.i + gramLen f.part) (e.j + gramLen f.part), delE e.i f.i] by unfold passE; rw [if_neg HKN.out, if_neg (by omega), if_pos HKF.out, if_neg (by omega), if_neg (by omega)])
          have r1 : remE (f.i + gramLen f.part) (e.j + gramLen f.part) = [delE (f.i + gramLen f.part) (e.j + gramLen f.part)] := by unfold remE; rw [if_pos (by omega)]
          have r2 : remE e.i f.i = [delE e.i f.i] := by unfold remE; rw [if_pos (by omega)]
          have HR1 := Lib.hid r1
          have HR2 := Lib.hid r2
          have KB := Lib.hid KB_6.out
          have KF0 := Lib.hid KF_2
          have KE0 := Lib.hid KE_3
          clear r1 r2 h1 h2
          have KS : ∀ W : World, Below w1.heap.size w1 W → W.cell? ⟨w.heap.size + 1, 1, none⟩ = some (.int .i64 f.i) ∧ W.cell? ⟨w.heap.size, 1, none⟩ = some (.int .i64 e.i) ∧ W.cell? ⟨w.heap.size, 2, none⟩ = some (.int .i64 e.j) := fun W h => ⟨(KF0.out.up h).cell rfl, (KE0.out.up h).cell rfl, (KE0.out.up h).cell rfl⟩
          have KD := KS _ (Below.drew (Below.refl w1.heap.size w1))
          go_wp2_with fail
          go_region_held3 (fun w' => w'.cell? ⟨w.heap.size + 1, 1, none⟩ = some (.int .i64 f.i) ∧ w'.cell? ⟨w.heap.size, 1, none⟩ = some (.int .i64 e.i) ∧ w'.cell? ⟨w.heap.size, 2, none⟩ = some (.int .i64 e.j))
            (first | (with_reducible exact KD) | (with_reducible exact KS _ b2) | (with_reducible exact KS _ b3) | (with_reducible exact KS _ b4))
            (first
              | (go_at_call 130; (with_reducible refine (removal_any (f.i + gramLen f.part) (e.j + gramLen f.part) _).mono ?_); rintro r2 w2 ⟨hb2, v2, rfl, own2⟩; have b2 := Below.undrew hb2)
              | (go_at_call 130; (refine (removal_any e.i f.i _).mono ?_); rintro r3 w3 ⟨hb3, v3, rfl, own3⟩; have b3 := Below.tr b2 hb3)
              | (refine step_append_one (by rfl) _ _ (by rfl) (lo := w1.heap.size) (hi := w2.heap.size) (lo2 := w2.heap.size) (hi2 := w3.heap.size) (v := v2) (v2 := v3) (es := [delE (f.i + gramLen f.part) (e.j + gramLen f.part)]) (i := e.i) (j := f.i) (by rfl) (by rfl) (by have := own2.up hb3; rw [HR1.out] at this; exact this) (by have := own3; rw [HR2.out] at this; exact this) (by simp) (by intro x hx; simp at hx; rw [hx]; rfl) (b3.size) ?_; intro v4 w4 own4 hb4; have b4 : Below w1.heap.size w1 w4 := Below.trans b3 hb4))
          go_wp2_with fail
          go_ret
          rw [HP.out]
          exact PRes.mk1 (lo := w1.heap.size) (Below.tr KB.out b4) own4 KB.out.size
    · have HKF := Lib.hid hkf
      have cE0_143 := Blk.cell (i := 0) (v := .int .i64 e.kind) KE_3 rfl
      have cE1_144 := Blk.cell (i := 1) (v := .int .i64 e.i) KE_3 rfl
      have cE2_145 := Blk.cell (i := 2) (v := .int .i64 e.j) KE_3 rfl
      have cE3_146 := Blk.cell (i := 3) (v := .int .i64 e.k) KE_3 rfl
      have cE4_147 := Blk.cell (i := 4) (v := .slice AE e.part.length cE) KE_3 rfl
      have cE5_148 := Blk.cell (i := 5) (v := .string e.map) KE_3 rfl
      have lE_149 := Blk.lt KE_3
      have cF0_150 := Blk.cell (i := 0) (v := .int .i64 f.kind) KF_2 rfl
      have cF1_151 := Blk.cell (i := 1) (v := .int .i64 f.i) KF_2 rfl
      have cF2_152 := Blk.cell (i := 2) (v := .int .i64 f.j) KF_2 rfl
      have cF3_153 := Blk.cell (i := 3) (v := .int .i64 f.k) KF_2 rfl
      have cF4_154 := Blk.cell (i := 4) (v := .slice AF f.part.length cF) KF_2 rfl
      have cF5_155 := Blk.cell (i := 5) (v := .string f.map) KF_2 rfl
      have lF_156 := Blk.lt KF_2
      have hrf : inR (f.j - f.i) (-4000000000000000000) 4000000000000000000 = true := by simp [inR]; omega
      have hri : inR e.i 0 1000000000000000 = true := by simp [inR]; omega
      have hrj : inR e.j 0 1000000000000000 = true := by simp [inR]; omega
      have hfij : f.i ≤ f.j := nF.2.2.2.2 hkf
      have HP := Lib.hid (show passE e f first = remE (lessP f e.i) (lessP f e.j) by unfold passE; rw [if_neg HKN.out]; by_cases h : e.i = e.j; (rw [if_pos h, h]; unfold remE; rw [if_neg (by omega)]); (rw [if_neg h, if_neg (by rw [HKF.out]; decide)]))
      have bkf2 : (f.kind == 2) = true := by simp [hkf]
      have hks0 : (f.kind == 1) = false := by simp [hkf]
      rw [hke] at cE0_143
      clear hkf
      have KB := Lib.hid KB_6.out
      have KF0 := Lib.hid KF_2
      have KE0 := Lib.hid KE_3
      have KS := fun (W : World) (h : Below w1.heap.size w1 W) => keep62 KF0.out KE0.out h
      have KD := KS _ (Below.drew (Below.refl w1.heap.size w1))
      go_wp2_with fail
      go_region_held3 (fun w' => w'.cell? ⟨w.heap.size + 1, 0, none⟩ = some (.int .i64 f.kind) ∧ w'.cell? ⟨w.heap.size + 1, 1, none⟩ = some (.int .i64 f.i) ∧ w'.cell? ⟨w.heap.size + 1, 2, none⟩ = some (.int .i64 f.j) ∧ w'.cell? ⟨w.heap.size + 1, 3, none⟩ = some (.int .i64 f.k) ∧ w'.cell? ⟨w.heap.size + 1, 4, none⟩ = some (.slice AF f.part.length cF) ∧ w'.cell? ⟨w.heap.size + 1, 5, none⟩ = some (.string f.map) ∧ w'.cell? ⟨w.heap.size, 1, none⟩ = some (.int .i64 e.i) ∧ w'.cell? ⟨w.heap.size, 2, none⟩ = some (.int .i64 e.j) ∧ w'.cell? ⟨w.heap.size, 4, none⟩ = some (.slice AE e.part.length cE))
        (first | (with_reducible exact KD) | (with_reducible exact KS _ b2) | (with_reducible exact KS _ b3) | (with_reducible exact KS _ b4))
        (first
          | ((fail_if_success (have hx2 := b2)); go_at_call 129; (refine (removed_any _ f e.i _ ⟨_, rfl, KSF_5.out.up (Below.drew (Below.refl _ _))⟩ hrf hri hfij nF.1 nF.2.2.2.1).mono ?_); rintro r2 w2 ⟨rfl, hb2⟩; have b2 := Below.undrew hb2)
          | (go_at_call 129; (refine (removed_any _ f e.j _ ⟨_, rfl, KSF_5.out.up b2⟩ hrf hrj hfij nF.1 nF.2.2.2.1).mono ?_); rintro r3 w3 ⟨rfl, hb3⟩; have b3 := Below.tr b2 hb3)
          | (go_at_call 130; (refine (removal_any _ _ _).mono ?_); rintro r4 w4 ⟨hb4, v4, rfl, own4⟩; have b4 := Below.tr b3 hb4))
      go_wp2_with fail
      go_ret
      rw [HP.out]
      exact PRes.mk1 (lo := w3.heap.size) (Below.tr KB.out b4) own4 (by have := (Below.tr KB.out b3).size; omega)
def pasCode (e f : GEdit) (first : Bool) : Int := if editOk e && editOk f then (if simE e && simE f then (if (passE e f first).all editOk then 0 else 3) else 2) else 1
def pasOut (e f : GEdit) (first : Bool) : List GEdit := if pasCode e f first = 0 then passE e f first else []
theorem pass_small {e f : GEdit} {first : Bool} (he : editOk e = true) : (passE e f first).length ≤ 2 ∧ ∀ x ∈ passE e f first, x.part.length ≤ 400 ∧ x.map.size = 0 := by
  have h4 := gram_len400 (kind_ok he).2.1
  unfold passE remE
  repeat' split
  all_goals
    refine ⟨by simp, ?_⟩
    simp [insE, delE]
    try (first | exact ⟨h4, rfl⟩ | rfl)
set_option maxRecDepth 100000 in
set_option maxHeartbeats 4000000 in
theorem implPassEdit_any (ve vf : Value) (e f : GEdit) (first : Bool) (w : World) (hE : EditV w w.heap.size ve e) (hF : EditV w w.heap.size vf f) (hn : e.part.length ≤ 1048576) (hn2 : f.part.length ≤ 1048576) (hm : e.map.size ≤ maxLen) (hm2 : f.map.size ≤ maxLen) :
    Calls Tryz.prog 29 #[ve, vf, .bool first] w (ERes (pasOut e f first) (pasCode e f first) w) := by
  obtain ⟨vE, rfl, sE⟩ := hE
  obtain ⟨vF, rfl, sF⟩ := hF
  have SE := Lib.hid sE
  have SF := Lib.hid sF
  obtain ⟨AE, cE, rfl, _⟩ := sE
  obtain ⟨AF, cF, rfl, _⟩ := sF
  have HBD := Lib.hid (fun (c : Int) (h : pasCode e f first = c) (hc : c ≠ 0) => (⟨by unfold pasOut; rw [if_neg (by omega)], h⟩ : pasOut e f first = [] ∧ pasCode e f first = c))
  go_enter Tryz.func29, Tryz.ntmps29
  go_wp2_with fail
  refine (implValidEdit_any _ e _ ⟨_, rfl, SE.out.up (by repeat (first | exact Below.refl _ _ | (refine Below.alloc ?_ (by first | omega | (simp; done) | (simp; omega)) _) | (refine Below.setCell ?_ (by first | exact Nat.le_refl _ | (show _ ≤ _; omega) | (simp; done) | (simp; omega)) _) | refine below_drewN ?_ _ | refine Below.drew ?_))⟩ (by omega) hm).mono ?_
  rintro e w1 ⟨rfl, hb_1⟩
  have KF_2 : Blk w1 (w.heap.size + 1) #[.int .i64 f.kind, .int .i64 f.i, .int .i64 f.j, .int .i64 f.k, .slice AF f.part.length cF, .string f.map] 30 := by have := (Below.unalloc hb_1).2; simpa [Blk] using this
  replace hb_1 := (Below.unalloc hb_1).1
  have KE_3 : Blk w1 (w.heap.size) #[.int .i64 e.kind, .int .i64 e.i, .int .i64 e.j, .int .i64 e.k, .slice AE e.part.length cE, .string e.map] 30 := by have := (Below.unalloc hb_1).2; simpa [Blk] using this
  replace hb_1 := (Below.unalloc hb_1).1
  have z_w1 : w.heap.size ≤ w1.heap.size := hb_1.size
  have KSE_4 := Lib.hid (SE.out.up hb_1)
  have KSF_5 := Lib.hid (SF.out.up hb_1)
  have KB_6 := Lib.hid hb_1
  clear SE SF
  cases he : editOk e with
  | false =>
    have HQ := Lib.hid (HBD.out 1 (by simp [pasCode, he]) (by decide))
    clear he
    go_wp2_with fail
    refine bodyPost_ret (v := .tuple #[.slice none 0 0, .int .i64 1]) (by simp [results, Tryz.results29, go_sem]) rfl ?_
    rw [HQ.out.1, HQ.out.2]
    exact ERes.mk1 (lo := w.heap.size) KB_6.out (oeds_zero (Below.size KB_6.out)) (Nat.le_refl _)
  | true =>
    have HEO := Lib.hid he
    clear he
    have cE0_7 := Blk.cell (i := 0) (v := .int .i64 e.kind) KE_3 rfl
    have cE1_8 := Blk.cell (i := 1) (v := .int .i64 e.i) KE_3 rfl
    have cE2_9 := Blk.cell (i := 2) (v := .int .i64 e.j) KE_3 rfl
    have cE3_10 := Blk.cell (i := 3) (v := .int .i64 e.k) KE_3 rfl
    have cE4_11 := Blk.cell (i := 4) (v := .slice AE e.part.length cE) KE_3 rfl
    have cE5_12 := Blk.cell (i := 5) (v := .string e.map) KE_3 rfl
    have lE_13 := Blk.lt KE_3
    have cF0_14 := Blk.cell (i := 0) (v := .int .i64 f.kind) KF_2 rfl
    have cF1_15 := Blk.cell (i := 1) (v := .int .i64 f.i) KF_2 rfl
    have cF2_16 := Blk.cell (i := 2) (v := .int .i64 f.j) KF_2 rfl
    have cF3_17 := Blk.cell (i := 3) (v := .int .i64 f.k) KF_2 rfl
    have cF4_18 := Blk.cell (i := 4) (v := .slice AF f.part.length cF) KF_2 rfl
    have cF5_19 := Blk.cell (i := 5) (v := .string f.map) KF_2 rfl
    have lF_20 := Blk.lt KF_2
    go_wp2_with fail
    refine (implValidEdit_any _ f _ ⟨_, rfl, KSF_5.out.up (by repeat (first | exact Below.refl _ _ | (refine Below.alloc ?_ (by first | omega | (simp; done) | (simp; omega)) _) | (refine Below.setCell ?_ (by first | exact Nat.le_refl _ | (show _ ≤ _; omega) | (simp; done) | (simp; omega)) _) | refine below_drewN ?_ _ | refine Below.drew ?_))⟩ (by omega) hm2).mono ?_
    rintro e w2 ⟨rfl, hb_21⟩
    have z_w2 : w1.heap.size ≤ w2.heap.size := hb_21.size
    have KSE_22 := Lib.hid (KSE_4.out.up hb_21)
    have KSF_23 := Lib.hid (KSF_5.out.up hb_21)
    have KF_24 := Blk.up KF_2 hb_21
    have KE_25 := Blk.up KE_3 hb_21
    have KB_26 := Lib.hid (Below.tr KB_6.out hb_21)
    clear hb_1 cE0_7 cE1_8 cE2_9 cE3_10 cE4_11 cE5_12 lE_13 cF0_14 cF1_15 cF2_16 cF3_17 cF4_18 cF5_19 lF_20 KSE_4 KSF_5 KF_2 KE_3 KB_6
    cases hf : editOk f with
    | false =>
      have HQ := Lib.hid (HBD.out 1 (by simp [pasCode, hf]) (by decide))
      clear hf
      go_wp2_with fail
      refine bodyPost_ret (v := .tuple #[.slice none 0 0, .int .i64 1]) (by simp [results, Tryz.results29, go_sem]) rfl ?_
      rw [HQ.out.1, HQ.out.2]
      exact ERes.mk1 (lo := w.heap.size) KB_26.out (oeds_zero (Below.size KB_26.out)) (Nat.le_refl _)
    | true =>
      have HFO := Lib.hid hf
      clear hf
      have cE0_27 := Blk.cell (i := 0) (v := .int .i64 e.kind) KE_25 rfl
      have cE1_28 := Blk.cell (i := 1) (v := .int .i64 e.i) KE_25 rfl
      have cE2_29 := Blk.cell (i := 2) (v := .int .i64 e.j) KE_25 rfl
      have cE3_30 := Blk.cell (i := 3) (v := .int .i64 e.k) KE_25 rfl
      have cE4_31 := Blk.cell (i := 4) (v := .slice AE e.part.length cE) KE_25 rfl
      have cE5_32 := Blk.cell (i := 5) (v := .string e.map) KE_25 rfl
      have lE_33 := Blk.lt KE_25
      have cF0_34 := Blk.cell (i := 0) (v := .int .i64 f.kind) KF_24 rfl
      have cF1_35 := Blk.cell (i := 1) (v := .int .i64 f.i) KF_24 rfl
      have cF2_36 := Blk.cell (i := 2) (v := .int .i64 f.j) KF_24 rfl
      have cF3_37 := Blk.cell (i := 3) (v := .int .i64 f.k) KF_24 rfl
      have cF4_38 := Blk.cell (i := 4) (v := .slice AF f.part.length cF) KF_24 rfl
      have cF5_39 := Blk.cell (i := 5) (v := .string f.map) KF_24 rfl
      have lF_40 := Blk.lt KF_24
      go_wp2_with fail
      refine (isSimple_any e _ _ (KSE_22.out.up (by repeat (first | exact Below.refl _ _ | (refine Below.alloc ?_ (by first | omega | (simp; done) | (simp; omega)) _) | (refine Below.setCell ?_ (by first | exact Nat.le_refl _ | (show _ ≤ _; omega) | (simp; done) | (simp; omega)) _) | refine below_drewN ?_ _ | refine Below.drew ?_)))).mono ?_
      rintro e w3 ⟨rfl, hb_41⟩
      have z_w3 : w2.heap.size ≤ w3.heap.size := hb_41.size
      have KSE_42 := Lib.hid (KSE_22.out.up hb_41)
      have KSF_43 := Lib.hid (KSF_23.out.up hb_41)
      have KF_44 := Blk.up KF_24 hb_41
      have KE_45 := Blk.up KE_25 hb_41
      have KB_46 := Lib.hid (Below.tr KB_26.out hb_41)
      clear hb_21 cE0_27 cE1_28 cE2_29 cE3_30 cE4_31 cE5_32 lE_33 cF0_34 cF1_35 cF2_36 cF3_37 cF4_38 cF5_39 lF_40 KSE_22 KSF_23 KF_24 KE_25 KB_26
      cases se : simE e with
      | false =>
        have HQ := Lib.hid (HBD.out 2 (by simp [pasCode, se, HEO.out, HFO.out]) (by decide))
        clear se
        go_wp2_with fail
        refine bodyPost_ret (v := .tuple #[.slice none 0 0, .int .i64 2]) (by simp [results, Tryz.results29, go_sem]) rfl ?_
        rw [HQ.out.1, HQ.out.2]
        exact ERes.mk1 (lo := w.heap.size) KB_46.out (oeds_zero (Below.size KB_46.out)) (Nat.le_refl _)
      | true =>
        have HSE := Lib.hid se
        clear se
        have cE0_47 := Blk.cell (i := 0) (v := .int .i64 e.kind) KE_45 rfl
        have cE1_48 := Blk.cell (i := 1) (v := .int .i64 e.i) KE_45 rfl
        have cE2_49 := Blk.cell (i := 2) (v := .int .i64 e.j) KE_45 rfl
        have cE3_50 := Blk.cell (i := 3) (v := .int .i64 e.k) KE_45 rfl
        have cE4_51 := Blk.cell (i := 4) (v := .slice AE e.part.length cE) KE_45 rfl
        have cE5_52 := Blk.cell (i := 5) (v := .string e.map) KE_45 rfl
        have lE_53 := Blk.lt KE_45
        have cF0_54 := Blk.cell (i := 0) (v := .int .i64 f.kind) KF_44 rfl
        have cF1_55 := Blk.cell (i := 1) (v := .int .i64 f.i) KF_44 rfl
        have cF2_56 := Blk.cell (i := 2) (v := .int .i64 f.j) KF_44 rfl
        have cF3_57 := Blk.cell (i := 3) (v := .int .i64 f.k) KF_44 rfl
        have cF4_58 := Blk.cell (i := 4) (v := .slice AF f.part.length cF) KF_44 rfl
        have cF5_59 := Blk.cell (i := 5) (v := .string f.map) KF_44 rfl
        have lF_60 := Blk.lt KF_44
        go_wp2_with fail
        refine (isSimple_any f _ _ (KSF_43.out.up (by repeat (first | exact Below.refl _ _ | (refine Below.alloc ?_ (by first | omega | (simp; done) | (simp; omega)) _) | (refine Below.setCell ?_ (by first | exact Nat.le_refl _ | (show _ ≤ _; omega) | (simp; done) | (simp; omega)) _) | refine below_drewN ?_ _ | refine Below.drew ?_)))).mono ?_
        rintro e w4 ⟨rfl, hb_61⟩
        have z_w4 : w3.heap.size ≤ w4.heap.size := hb_61.size
        have KSE_62 := Lib.hid (KSE_42.out.up hb_61)
        have KSF_63 := Lib.hid (KSF_43.out.up hb_61)
        have KF_64 := Blk.up KF_44 hb_61
        have KE_65 := Blk.up KE_45 hb_61
        have KB_66 := Lib.hid (Below.tr KB_46.out hb_61)
        clear hb_41 cE0_47 cE1_48 cE2_49 cE3_50 cE4_51 cE5_52 lE_53 cF0_54 cF1_55 cF2_56 cF3_57 cF4_58 cF5_59 lF_60 KSE_42 KSF_43 KF_44 KE_45 KB_46
        cases sf : simE f with
        | false =>
          have HQ := Lib.hid (HBD.out 2 (by simp [pasCode, sf, HEO.out, HFO.out]) (by decide))
          clear sf
          go_wp2_with fail
          refine bodyPost_ret (v := .tuple #[.slice none 0 0, .int .i64 2]) (by simp [results, Tryz.results29, go_sem]) rfl ?_
          rw [HQ.out.1, HQ.out.2]
          exact ERes.mk1 (lo := w.heap.size) KB_66.out (oeds_zero (Below.size KB_66.out)) (Nat.le_refl _)
        | true =>
          have HSF := Lib.hid sf
          clear sf
          have cE0_67 := Blk.cell (i := 0) (v := .int .i64 e.kind) KE_65 rfl
          have cE1_68 := Blk.cell (i := 1) (v := .int .i64 e.i) KE_65 rfl
          have cE2_69 := Blk.cell (i := 2) (v := .int .i64 e.j) KE_65 rfl
          have cE3_70 := Blk.cell (i := 3) (v := .int .i64 e.k) KE_65 rfl
          have cE4_71 := Blk.cell (i := 4) (v := .slice AE e.part.length cE) KE_65 rfl
          have cE5_72 := Blk.cell (i := 5) (v := .string e.map) KE_65 rfl
          have lE_73 := Blk.lt KE_65
          have cF0_74 := Blk.cell (i := 0) (v := .int .i64 f.kind) KF_64 rfl
          have cF1_75 := Blk.cell (i := 1) (v := .int .i64 f.i) KF_64 rfl
          have cF2_76 := Blk.cell (i := 2) (v := .int .i64 f.j) KF_64 rfl
          have cF3_77 := Blk.cell (i := 3) (v := .int .i64 f.k) KF_64 rfl
          have cF4_78 := Blk.cell (i := 4) (v := .slice AF f.part.length cF) KF_64 rfl
          have cF5_79 := Blk.cell (i := 5) (v := .string f.map) KF_64 rfl
          have lF_80 := Blk.lt KF_64
          go_wp2_with fail
          refine (passed_any _ _ e f first _ ⟨_, rfl, KSE_62.out.up (by repeat (first | exact Below.refl _ _ | (refine Below.alloc ?_ (by first | omega | (simp; done) | (simp; omega)) _) | (refine Below.setCell ?_ (by first | exact Nat.le_refl _ | (show _ ≤ _; omega) | (simp; done) | (simp; omega)) _) | refine below_drewN ?_ _ | refine Below.drew ?_))⟩ ⟨_, rfl, KSF_63.out.up (by repeat (first | exact Below.refl _ _ | (refine Below.alloc ?_ (by first | omega | (simp; done) | (simp; omega)) _) | (refine Below.setCell ?_ (by first | exact Nat.le_refl _ | (show _ ≤ _; omega) | (simp; done) | (simp; omega)) _) | refine below_drewN ?_ _ | refine Below.drew ?_))⟩ HEO.out HFO.out HSE.out HSF.out).mono ?_
          rintro e w5 ⟨hb_81, v5, rfl, own5⟩
          have z_w5 : w4.heap.size ≤ w5.heap.size := hb_81.size
          have KSE_82 := Lib.hid (KSE_62.out.up hb_81)
          have KSF_83 := Lib.hid (KSF_63.out.up hb_81)
          have KF_84 := Blk.up KF_64 hb_81
          have KE_85 := Blk.up KE_65 hb_81
          have KB_86 := Lib.hid (Below.tr KB_66.out hb_81)
          clear hb_61 cE0_67 cE1_68 cE2_69 cE3_70 cE4_71 cE5_72 lE_73 cF0_74 cF1_75 cF2_76 cF3_77 cF4_78 cF5_79 lF_80 KSE_62 KSF_63 KF_64 KE_65 KB_66
          have hs4 := Below.size KB_86.out
          have KO := Lib.hid (show OEds w5 w.heap.size w5.heap.size v5 (passE e f first) by
            obtain ⟨ps, r, h1, h2, h3, h4, h5⟩ := own5
            exact ⟨ps, r, h1, ownsRow_more h2 (by omega), h3, h4, h5.le (by omega) (Nat.le_refl _)⟩)
          clear own5
          have hsm := pass_small (f := f) (first := first) HEO.out
          go_wp2_with fail
          refine (areEdits_any _ (passE e f first) _ (OEds.sl KO.out) (fun x hx => ⟨by have := (hsm.2 x hx).1; omega, by have := (hsm.2 x hx).2; omega⟩)).mono ?_
          rintro e w6 ⟨rfl, hb_87⟩
          have z_w6 : w5.heap.size ≤ w6.heap.size := hb_87.size
          have KSE_88 := Lib.hid (KSE_82.out.up hb_87)
          have KSF_89 := Lib.hid (KSF_83.out.up hb_87)
          have KF_90 := Blk.up KF_84 hb_87
          have KE_91 := Blk.up KE_85 hb_87
          have KB_92 := Lib.hid (Below.tr KB_86.out hb_87)
          have KO_93 := Lib.hid (OEds.up KO.out hb_87)
          clear hb_81 KSE_82 KSF_83 KF_84 KE_85 KB_86 KO
          cases ha : (passE e f first).all editOk with
          | false =>
            have HQ := Lib.hid (HBD.out 3 (by simp only [pasCode, HEO.out, HFO.out, HSE.out, HSF.out, ha]; rfl) (by decide))
            clear ha
            go_wp2_with fail
            refine bodyPost_ret (v := .tuple #[.slice none 0 0, .int .i64 3]) (by simp [results, Tryz.results29, go_sem]) rfl ?_
            rw [HQ.out.1, HQ.out.2]
            exact ERes.mk1 (lo := w.heap.size) KB_92.out (oeds_zero (Below.size KB_92.out)) (Nat.le_refl _)
          | true =>
            have hc : pasCode e f first = 0 := by simp only [pasCode, HEO.out, HFO.out, HSE.out, HSF.out, ha]; rfl
            have HQ := Lib.hid (show pasOut e f first = passE e f first ∧ pasCode e f first = 0 from ⟨by unfold pasOut; rw [if_pos hc], hc⟩)
            clear ha hc
            go_wp2_with fail
            refine bodyPost_ret (v := .tuple #[v5, .int .i64 0]) (by simp [results, Tryz.results29, go_sem]) rfl ?_
            rw [HQ.out.1, HQ.out.2]
            exact ERes.mk1 (lo := w.heap.size) KB_92.out KO_93.out (Nat.le_refl _)
end Go.Proofs.YtdacndamehiglaaGreatDoor
