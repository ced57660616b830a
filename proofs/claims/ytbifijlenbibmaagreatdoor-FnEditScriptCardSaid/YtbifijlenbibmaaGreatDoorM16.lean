import Derived.Test.YtbifijlenbibmaaGreatDoorM11
import Derived.Test.YtbifijlenbibmaaGreatDoorM9
import Derived.Test.YtbifijlenbibmaaGreatDoorM13
import Derived.Test.YtbifijlenbibmaaGreatDoorM15
import Derived.Test.YtbifijlenbibmaaGreatDoorM1
import Derived.Test.YtbifijlenbibmaaGreatDoorM14
import Derived.Test.YtbifijlenbibmaaGreatDoorM8
import Derived.Test.YtbifijlenbibmaaGreatDoorM2
import Derived.Test.YtbifijlenbibmaaGreatDoorM12
namespace Go.Proofs.YtbifijlenbibmaaGreatDoor
open Go.RowKit
theorem l01Split32 (s : ByteArray) (w : World) (hs : s.size ≤ 1048576) :
    Calls Tryz.prog 45 #[.string s, .int .u8 32] w fun e w' => Below w.heap.size w w' ∧ ∃ v, OwnW w' w.heap.size v (splB 32 s) ∧ e = .returned v := l01Split_any s 32 w hs
set_option maxRecDepth 100000 in
set_option maxHeartbeats 8000000 in
theorem specRead_any (t : ByteArray) (w : World) (hs : t.size ≤ 1048576) :
    Calls Tryz.prog 25 #[.string t] w (RERes (rdOut t) (rdCode t) w) := by
  obtain ⟨X, R, hXR⟩ : ∃ X R, splB 32 t = X :: R := by
    cases hq : splB 32 t with
    | nil => unfold splB at hq; exact absurd (List.map_eq_nil_iff.1 hq) (spl_pos 32 _ _)
    | cons x r => exact ⟨x, r, rfl⟩
  have HXR := Lib.hid hXR
  go_enter Tryz.func25, Tryz.ntmps25
  go_wp2_with fail
  refine (l01Split32 t _ hs).mono ?_
  rintro e w1 ⟨hb1, v, own, rfl⟩
  have KR1 : Blk w1 w.heap.size #[.int .i64 0, .int .i64 0, .int .i64 0, .int .i64 0, .slice none 0 0, .string ⟨#[]⟩] 46 := by have := (Below.unalloc hb1).2; simpa [Blk] using this
  replace hb1 := (Below.unalloc hb1).1
  rw [hXR] at own
  obtain ⟨g, cL, rfl, _, hgl, _⟩ := own_form own (by simp)
  have HO1 := Lib.hid own
  clear own hXR
  go_wp2_with fail
  refine (l07Words_any _).mono ?_
  rintro r w2 ⟨B, rfl, hb2, hB, hw2⟩
  have HW2 := Lib.hid hw2
  have HO2 := Lib.hid (show OwnW w2 _ _ (X :: R) from ownsRow_below HO1.out hb2)
  have HB2 := Lib.hid (Below.tr hb1 hb2)
  have HKR := Lib.hid (KR1.up hb2)
  have hgl2 : g < w2.heap.size := Nat.lt_of_lt_of_le hgl hb2.size
  clear hb1 hb2 KR1 HO1 hw2
  go_wp2_with fail
  go_loopw [7] (fun k wx => ∃ m : Nat, 1 ≤ m ∧ m ≤ 8 ∧ k = .int .i64 m ∧ Hid (RdSt w2 wx ⟨kf X m, 0, 0, 0, [], ⟨#[]⟩⟩ (.slice none 0 0))) (fun k _ => 8 - (intOf k).toNat)
  case atStart =>
    have e0 : kf X 1 = 0 := by simp [kf]
    exact ⟨1, Nat.le_refl _, by omega, rfl, Lib.hid ⟨(by repeat (first | exact Below.refl _ _ | (refine Below.alloc ?_ (by first | omega | (simp; done) | (simp; omega)) _) | (refine Below.setCell ?_ (by first | exact Nat.le_refl _ | (show _ ≤ _; omega) | (simp; done) | (simp; omega)) _) | refine below_drewN ?_ _ | refine Below.drew ?_)), by rw [e0]; exact Blk.new _ _ _, World.ownsRow_nil _ _ _ _⟩⟩
  case round =>
    obtain ⟨m, hm1, hm8, rfl, HJ⟩ := hrel
    by_cases hlt : m < 8
    · have hmI : (m : Int) < 8 := by omega
      have hcw := (HJ.out.bel.cell (p := ⟨B, m, none⟩) hB).trans (HW2.out m (by simp [inR]; omega))
      have hc0 := (HJ.out.bel.cell (p := ⟨g, 0, none⟩) hgl2).trans (OwnW.at HO2.out (k := 0) (x := X) rfl)
      have ce := Blk.cell (i := 0) (v := .int .i64 (kf X m)) HJ.out.box rfl
      have ze := Blk.frozen HJ.out.box 0
      have le := Blk.lt HJ.out.box
      cases hq2 : (wordE (m : Int) == X.toList) with
      | true =>
        have hq := (weq _ _).1 hq2
        have HN := Lib.hid (show kf X (m + 1) = (m : Int) by rw [kf, if_pos ⟨hm1, hq⟩])
        clear hq
        go_wp2_with fail
        go_quiet (fail)
        go_wp2_with fail
        exact ⟨⟨m + 1, by omega, by omega, by go_num, Lib.hid (by rw [HN.out]; exact (HJ.out.drewN _).setK _)⟩, by simp [intOf]; omega⟩
      | false =>
        have HN := Lib.hid (show kf X (m + 1) = kf X m by rw [kf, if_neg (fun h => by rw [(weq _ _).2 h.2] at hq2; cases hq2)])
        go_wp2_with fail
        go_quiet (fail)
        go_wp2_with fail
        exact ⟨⟨m + 1, by omega, by omega, by go_num, Lib.hid (by rw [HN.out]; exact (HJ.out.drewN _))⟩, by simp [intOf]; omega⟩
    · have hm : m = 8 := by omega
      subst hm
      obtain ⟨κ, hκ⟩ : ∃ κ, kf X 8 = κ := ⟨_, rfl⟩
      have HK := Lib.hid hκ
      have hin := kf_in X 8 (Nat.le_refl _)
      rw [hκ] at HJ hin
      clear hκ
      have ce := Blk.cell (i := 0) (v := .int .i64 κ) HJ.out.box rfl
      have le := Blk.lt HJ.out.box
      by_cases hk0 : κ = 0
      · have HNO := Lib.hid (show rdSpec t = none by rw [rdSpec_of HXR.out HK.out]; unfold rdK; rw [if_pos hk0])
        have KR := HKR.out.up (HJ.out.bel)
        have hbW := Lib.hid (Below.tr HB2.out (HJ.out.bel))
        have r0 := Blk.cell (i := 0) (v := .int .i64 0) KR rfl
        have q0 := Blk.frozen KR 0
        have r1 := Blk.cell (i := 1) (v := .int .i64 0) KR rfl
        have q1 := Blk.frozen KR 1
        have r2 := Blk.cell (i := 2) (v := .int .i64 0) KR rfl
        have q2 := Blk.frozen KR 2
        have r3 := Blk.cell (i := 3) (v := .int .i64 0) KR rfl
        have q3 := Blk.frozen KR 3
        have r4 := Blk.cell (i := 4) (v := .slice none 0 0) KR rfl
        have q4 := Blk.frozen KR 4
        have r5 := Blk.cell (i := 5) (v := .string ⟨#[]⟩) KR rfl
        have q5 := Blk.frozen KR 5
        have lR := Blk.lt KR
        have HKX := Lib.hid KR
        clear KR
        go_wp2_with fail
        obtain ⟨⟨hf, _⟩, x0, x1, x2, x3, x4, x5⟩ := fin6 HKX.out hbW.out (.int .i64 0) (.int .i64 0) (.int .i64 0) (.int .i64 0) (.slice none 0 0) (.string ⟨#[]⟩)
        exact bodyPost_ret (v := .tuple #[.agg #[.int .i64 0, .int .i64 0, .int .i64 0, .int .i64 0, .slice none 0 0, .string ⟨#[]⟩], .int .i64 5]) (by simp [results, Tryz.results25, go_sem, x0, x1, x2, x3, x4, x5]) rfl ⟨hf, .slice none 0 0, by rw [(rd_none HNO.out).1]; exact World.ownsRow_nil _ _ _ _, by rw [(rd_none HNO.out).1, (rd_none HNO.out).2]; rfl⟩
      · have hk7 : inR κ 1 7 = true := hin.resolve_left hk0
        clear hin
        go_wp2_with fail
        refine (l07Uses_any κ _ hk7).mono ?_
        rintro r w3 ⟨rfl, hb3⟩
        have J3 := Lib.hid (HJ.out.up hb3)
        obtain ⟨U, hU⟩ : ∃ U, usesS κ = U := ⟨_, rfl⟩
        have HU := Lib.hid hU
        have hUl : U.size ≤ 3 := by rw [← hU]; exact (uses_has hk7).2.2.2.2
        rw [hU]
        clear hU hb3 ce le
        by_cases hlen : (R.length : Int) + 1 = (U.size : Int) + 1
        · have hRl : R.length = U.size := by omega
          have w1 : IntKind.i64.wrap ((U.size : Int) + 1) = (U.size : Int) + 1 := IntWalk.i64_in _ (by omega)
          go_wp2_with fail
          go_loopw [9] (fun i wx => ∃ (m : Nat) (e : GEdit) (AP : Option Addr) (cP : Nat), m ≤ U.size ∧ i = .int .i64 m ∧ Hid (RdSt w2 wx e (.slice AP e.part.length cP)) ∧ Hid (rdRun (U.data.toList.drop m) (R.drop m) e = rdRun U.data.toList R ⟨κ, 0, 0, 0, [], ⟨#[]⟩⟩) ∧ Hid (SmallE e)) (fun i _ => U.size - (intOf i).toNat)
          case atStart => exact ⟨0, ⟨κ, 0, 0, 0, [], ⟨#[]⟩⟩, none, 0, Nat.zero_le _, rfl, J3, Lib.hid rfl, Lib.hid ⟨fun r hr => absurd hr (by simp), by simp, Nat.zero_le _⟩⟩
          case round =>
            obtain ⟨m, e, AP, cP, hm, rfl, HJ, HR, HSE⟩ := hrel
            by_cases hlt : m < U.size
            · have hmR : m < R.length := by omega
              obtain ⟨x, hx⟩ : ∃ x, R[m]? = some x := ⟨_, List.getElem?_eq_getElem hmR⟩
              have hxs : x.size ≤ 1048576 := Nat.le_trans (splB_size (b := 32) (s := t) (by rw [HXR.out]; exact List.mem_cons_of_mem _ (List.mem_of_getElem? hx))) hs
              have HXS := Lib.hid hxs
              have hcx := (HJ.out.bel.cell (p := ⟨g, m + 1, none⟩) hgl2).trans (OwnW.at HO2.out (k := m + 1) (x := x) (by simpa using hx))
              have hUm : U.data.toList[m]? = some U[m] := by rw [List.getElem?_eq_getElem (by rw [Array.length_toList]; exact hlt)]; simp; rfl
              have HST := Lib.hid (rdRun_step (e := e) hUm hx)
              rw [HR.out] at HST
              have w2' : IntKind.i64.wrap ((m : Int) + 1) = (m : Int) + 1 := IntWalk.i64_in _ (by omega)
              have hmI : (m : Int) + 1 < (R.length : Int) + 1 := by omega
              have hm0 : (0 : Int) ≤ (m : Int) + 1 := by omega
              clear hUm HR hx
              go_wp2_with fail
              refine (l01Number_any x _ HXS.out).mono ?_
              rintro r w4 ⟨hb4, rfl⟩
              have J4 := Lib.hid (HJ.out.up hb4)
              clear hb4 hcx
              by_cases c73 : U[m] = 73
              · have e73 : (U[m].toNat : Int) = 73 := by rw [c73]; rfl
                have ce := Blk.cell (i := 1) (v := .int .i64 e.i) J4.out.box rfl
                have ze := Blk.frozen J4.out.box 1
                have le := Blk.lt J4.out.box
                have J5 := Lib.hid (J4.out.set1 (numV x.data.toList))
                cases hrd : rdOk x.data.toList with
                | false =>
                  have hstep : rdStep e U[m] x = none := by unfold rdStep; rw [if_pos c73, hrd]; rfl
                  have HNO := Lib.hid (show rdSpec t = none by rw [rdSpec_of HXR.out HK.out]; unfold rdK; rw [if_neg hk0, HU.out, if_neg (by simp; omega)]; simp only [List.tail_cons]; rw [HST.out, hstep])
                  clear c73 hstep
                  have KR := HKR.out.up (J5.out.bel)
                  have hbW := Lib.hid (Below.tr HB2.out (J5.out.bel))
                  have r0 := Blk.cell (i := 0) (v := .int .i64 0) KR rfl
                  have q0 := Blk.frozen KR 0
                  have r1 := Blk.cell (i := 1) (v := .int .i64 0) KR rfl
                  have q1 := Blk.frozen KR 1
                  have r2 := Blk.cell (i := 2) (v := .int .i64 0) KR rfl
                  have q2 := Blk.frozen KR 2
                  have r3 := Blk.cell (i := 3) (v := .int .i64 0) KR rfl
                  have q3 := Blk.frozen KR 3
                  have r4 := Blk.cell (i := 4) (v := .slice none 0 0) KR rfl
                  have q4 := Blk.frozen KR 4
                  have r5 := Blk.cell (i := 5) (v := .string ⟨#[]⟩) KR rfl
                  have q5 := Blk.frozen KR 5
                  have lR := Blk.lt KR
                  have HKX := Lib.hid KR
                  clear KR
                  go_wp2_with fail
                  obtain ⟨⟨hf, _⟩, x0, x1, x2, x3, x4, x5⟩ := fin6 HKX.out hbW.out (.int .i64 0) (.int .i64 0) (.int .i64 0) (.int .i64 0) (.slice none 0 0) (.string ⟨#[]⟩)
                  exact bodyPost_ret (v := .tuple #[.agg #[.int .i64 0, .int .i64 0, .int .i64 0, .int .i64 0, .slice none 0 0, .string ⟨#[]⟩], .int .i64 5]) (by simp [results, Tryz.results25, go_sem, x0, x1, x2, x3, x4, x5]) rfl ⟨hf, .slice none 0 0, by rw [(rd_none HNO.out).1]; exact World.ownsRow_nil _ _ _ _, by rw [(rd_none HNO.out).1, (rd_none HNO.out).2]; rfl⟩
                | true =>
                  have hstep : rdStep e U[m] x = some ⟨e.kind, numV x.data.toList, e.j, e.k, e.part, e.map⟩ := by unfold rdStep; rw [if_pos c73, hrd]; rfl
                  have HST2 := Lib.hid (show rdRun (U.data.toList.drop (m + 1)) (R.drop (m + 1)) ⟨e.kind, numV x.data.toList, e.j, e.k, e.part, e.map⟩ = rdRun U.data.toList R ⟨κ, 0, 0, 0, [], ⟨#[]⟩⟩ by rw [HST.out, hstep])
                  clear c73 hstep
                  go_wp2_with fail
                  exact ⟨⟨m + 1, ⟨e.kind, numV x.data.toList, e.j, e.k, e.part, e.map⟩, AP, cP, by omega, by go_num, J5, HST2, HSE⟩, by simp [intOf]; omega⟩
              · have e73 : ¬ (U[m].toNat : Int) = 73 := fun h => c73 (UInt8.toNat_inj.1 (by have : (73 : UInt8).toNat = 73 := rfl; omega))
                by_cases c74 : U[m] = 74
                · have e74 : (U[m].toNat : Int) = 74 := by rw [c74]; rfl
                  have ce := Blk.cell (i := 2) (v := .int .i64 e.j) J4.out.box rfl
                  have ze := Blk.frozen J4.out.box 2
                  have le := Blk.lt J4.out.box
                  have J5 := Lib.hid (J4.out.set2 (numV x.data.toList))
                  cases hrd : rdOk x.data.toList with
                  | false =>
                    have hstep : rdStep e U[m] x = none := by unfold rdStep; rw [if_neg c73, if_pos c74, hrd]; rfl
                    have HNO := Lib.hid (show rdSpec t = none by rw [rdSpec_of HXR.out HK.out]; unfold rdK; rw [if_neg hk0, HU.out, if_neg (by simp; omega)]; simp only [List.tail_cons]; rw [HST.out, hstep])
                    clear c74 hstep
                    have KR := HKR.out.up (J5.out.bel)
                    have hbW := Lib.hid (Below.tr HB2.out (J5.out.bel))
                    have r0 := Blk.cell (i := 0) (v := .int .i64 0) KR rfl
                    have q0 := Blk.frozen KR 0
                    have r1 := Blk.cell (i := 1) (v := .int .i64 0) KR rfl
                    have q1 := Blk.frozen KR 1
                    have r2 := Blk.cell (i := 2) (v := .int .i64 0) KR rfl
                    have q2 := Blk.frozen KR 2
                    have r3 := Blk.cell (i := 3) (v := .int .i64 0) KR rfl
                    have q3 := Blk.frozen KR 3
                    have r4 := Blk.cell (i := 4) (v := .slice none 0 0) KR rfl
                    have q4 := Blk.frozen KR 4
                    have r5 := Blk.cell (i := 5) (v := .string ⟨#[]⟩) KR rfl
                    have q5 := Blk.frozen KR 5
                    have lR := Blk.lt KR
                    have HKX := Lib.hid KR
                    clear KR
                    go_wp2_with fail
                    obtain ⟨⟨hf, _⟩, x0, x1, x2, x3, x4, x5⟩ := fin6 HKX.out hbW.out (.int .i64 0) (.int .i64 0) (.int .i64 0) (.int .i64 0) (.slice none 0 0) (.string ⟨#[]⟩)
                    exact bodyPost_ret (v := .tuple #[.agg #[.int .i64 0, .int .i64 0, .int .i64 0, .int .i64 0, .slice none 0 0, .string ⟨#[]⟩], .int .i64 5]) (by simp [results, Tryz.results25, go_sem, x0, x1, x2, x3, x4, x5]) rfl ⟨hf, .slice none 0 0, by rw [(rd_none HNO.out).1]; exact World.ownsRow_nil _ _ _ _, by rw [(rd_none HNO.out).1, (rd_none HNO.out).2]; rfl⟩
                  | true =>
                    have hstep : rdStep e U[m] x = some ⟨e.kind, e.i, numV x.data.toList, e.k, e.part, e.map⟩ := by unfold rdStep; rw [if_neg c73, if_pos c74, hrd]; rfl
                    have HST2 := Lib.hid (show rdRun (U.data.toList.drop (m + 1)) (R.drop (m + 1)) ⟨e.kind, e.i, numV x.data.toList, e.k, e.part, e.map⟩ = rdRun U.data.toList R ⟨κ, 0, 0, 0, [], ⟨#[]⟩⟩ by rw [HST.out, hstep])
                    clear c74 hstep
                    go_wp2_with fail
                    exact ⟨⟨m + 1, ⟨e.kind, e.i, numV x.data.toList, e.k, e.part, e.map⟩, AP, cP, by omega, by go_num, J5, HST2, HSE⟩, by simp [intOf]; omega⟩
                · have e74 : ¬ (U[m].toNat : Int) = 74 := fun h => c74 (UInt8.toNat_inj.1 (by have : (74 : UInt8).toNat = 74 := rfl; omega))
                  by_cases c75 : U[m] = 75
                  · have e75 : (U[m].toNat : Int) = 75 := by rw [c75]; rfl
                    have ce := Blk.cell (i := 3) (v := .int .i64 e.k) J4.out.box rfl
                    have ze := Blk.frozen J4.out.box 3
                    have le := Blk.lt J4.out.box
                    have J5 := Lib.hid (J4.out.set3 (numV x.data.toList))
                    cases hrd : rdOk x.data.toList with
                    | false =>
                      have hstep : rdStep e U[m] x = none := by unfold rdStep; rw [if_neg c73, if_neg c74, if_pos c75, hrd]; rfl
                      have HNO := Lib.hid (show rdSpec t = none by rw [rdSpec_of HXR.out HK.out]; unfold rdK; rw [if_neg hk0, HU.out, if_neg (by simp; omega)]; simp only [List.tail_cons]; rw [HST.out, hstep])
                      clear c75 hstep
                      have KR := HKR.out.up (J5.out.bel)
                      have hbW := Lib.hid (Below.tr HB2.out (J5.out.bel))
                      have r0 := Blk.cell (i := 0) (v := .int .i64 0) KR rfl
                      have q0 := Blk.frozen KR 0
                      have r1 := Blk.cell (i := 1) (v := .int .i64 0) KR rfl
                      have q1 := Blk.frozen KR 1
                      have r2 := Blk.cell (i := 2) (v := .int .i64 0) KR rfl
                      have q2 := Blk.frozen KR 2
                      have r3 := Blk.cell (i := 3) (v := .int .i64 0) KR rfl
                      have q3 := Blk.frozen KR 3
                      have r4 := Blk.cell (i := 4) (v := .slice none 0 0) KR rfl
                      have q4 := Blk.frozen KR 4
                      have r5 := Blk.cell (i := 5) (v := .string ⟨#[]⟩) KR rfl
                      have q5 := Blk.frozen KR 5
                      have lR := Blk.lt KR
                      have HKX := Lib.hid KR
                      clear KR
                      go_wp2_with fail
                      obtain ⟨⟨hf, _⟩, x0, x1, x2, x3, x4, x5⟩ := fin6 HKX.out hbW.out (.int .i64 0) (.int .i64 0) (.int .i64 0) (.int .i64 0) (.slice none 0 0) (.string ⟨#[]⟩)
                      exact bodyPost_ret (v := .tuple #[.agg #[.int .i64 0, .int .i64 0, .int .i64 0, .int .i64 0, .slice none 0 0, .string ⟨#[]⟩], .int .i64 5]) (by simp [results, Tryz.results25, go_sem, x0, x1, x2, x3, x4, x5]) rfl ⟨hf, .slice none 0 0, by rw [(rd_none HNO.out).1]; exact World.ownsRow_nil _ _ _ _, by rw [(rd_none HNO.out).1, (rd_none HNO.out).2]; rfl⟩
                    | true =>
                      have hstep : rdStep e U[m] x = some ⟨e.kind, e.i, e.j, numV x.data.toList, e.part, e.map⟩ := by unfold rdStep; rw [if_neg c73, if_neg c74, if_pos c75, hrd]; rfl
                      have HST2 := Lib.hid (show rdRun (U.data.toList.drop (m + 1)) (R.drop (m + 1)) ⟨e.kind, e.i, e.j, numV x.data.toList, e.part, e.map⟩ = rdRun U.data.toList R ⟨κ, 0, 0, 0, [], ⟨#[]⟩⟩ by rw [HST.out, hstep])
                      clear c75 hstep
                      go_wp2_with fail
                      exact ⟨⟨m + 1, ⟨e.kind, e.i, e.j, numV x.data.toList, e.part, e.map⟩, AP, cP, by omega, by go_num, J5, HST2, HSE⟩, by simp [intOf]; omega⟩
                  · have e75 : ¬ (U[m].toNat : Int) = 75 := fun h => c75 (UInt8.toNat_inj.1 (by have : (75 : UInt8).toNat = 75 := rfl; omega))
                    by_cases c80 : U[m] = 80
                    · have e80 : (U[m].toNat : Int) = 80 := by rw [c80]; rfl
                      have hxm : x.size ≤ maxLen := by have := HXS.out; unfold maxLen; omega
                      have HXM := Lib.hid hxm
                      clear hxm
                      cases hwo : wordOk x with
                      | false =>
                        have hstep : rdStep e U[m] x = none := by unfold rdStep; rw [if_neg c73, if_neg c74, if_neg c75, if_pos c80, hwo]; rfl
                        have HNO := Lib.hid (show rdSpec t = none by rw [rdSpec_of HXR.out HK.out]; unfold rdK; rw [if_neg hk0, HU.out, if_neg (by simp; omega)]; simp only [List.tail_cons]; rw [HST.out, hstep])
                        have HWO := Lib.hid hwo
                        clear c80 hstep hwo
                        go_wp2_with fail
                        refine (l01Ok_any x _ HXM.out).mono ?_
                        rintro r w5 ⟨rfl, rfl⟩
                        rw [HWO.out]
                        have KR := HKR.out.up (J4.out.bel)
                        have hbW := Lib.hid (Below.tr HB2.out (J4.out.bel))
                        have r0 := Blk.cell (i := 0) (v := .int .i64 0) KR rfl
                        have q0 := Blk.frozen KR 0
                        have r1 := Blk.cell (i := 1) (v := .int .i64 0) KR rfl
                        have q1 := Blk.frozen KR 1
                        have r2 := Blk.cell (i := 2) (v := .int .i64 0) KR rfl
                        have q2 := Blk.frozen KR 2
                        have r3 := Blk.cell (i := 3) (v := .int .i64 0) KR rfl
                        have q3 := Blk.frozen KR 3
                        have r4 := Blk.cell (i := 4) (v := .slice none 0 0) KR rfl
                        have q4 := Blk.frozen KR 4
                        have r5 := Blk.cell (i := 5) (v := .string ⟨#[]⟩) KR rfl
                        have q5 := Blk.frozen KR 5
                        have lR := Blk.lt KR
                        have HKX := Lib.hid KR
                        clear KR
                        go_wp2_with fail
                        obtain ⟨⟨hf, _⟩, x0, x1, x2, x3, x4, x5⟩ := fin6 HKX.out hbW.out (.int .i64 0) (.int .i64 0) (.int .i64 0) (.int .i64 0) (.slice none 0 0) (.string ⟨#[]⟩)
                        exact bodyPost_ret (v := .tuple #[.agg #[.int .i64 0, .int .i64 0, .int .i64 0, .int .i64 0, .slice none 0 0, .string ⟨#[]⟩], .int .i64 5]) (by simp [results, Tryz.results25, go_sem, x0, x1, x2, x3, x4, x5]) rfl ⟨hf, .slice none 0 0, by rw [(rd_none HNO.out).1]; exact World.ownsRow_nil _ _ _ _, by rw [(rd_none HNO.out).1, (rd_none HNO.out).2]; rfl⟩
                      | true =>
                        have HWO := Lib.hid hwo
                        by_cases hl : x.size ≤ 400
                        · have hlI : (x.size : Int) ≤ 400 := by omega
                          have hstep : rdStep e U[m] x = some ⟨e.kind, e.i, e.j, e.k, plainG x, e.map⟩ := by unfold rdStep; rw [if_neg c73, if_neg c74, if_neg c75, if_pos c80, hwo, decide_eq_true hl]; rfl
                          have HST2 := Lib.hid (show rdRun (U.data.toList.drop (m + 1)) (R.drop (m + 1)) ⟨e.kind, e.i, e.j, e.k, plainG x, e.map⟩ = rdRun U.data.toList R ⟨κ, 0, 0, 0, [], ⟨#[]⟩⟩ by rw [HST.out, hstep])
                          have hpl := plainG_len x
                          have HPL := Lib.hid (show (plainG x).length ≤ 404 by omega)
                          clear c80 hstep hwo hpl
                          go_wp2_with fail
                          refine (l01Ok_any x _ HXM.out).mono ?_
                          rintro r w5 ⟨rfl, rfl⟩
                          rw [HWO.out]
                          go_wp2_with fail
                          refine (l02Plain_any x _ HWO.out).mono ?_
                          rintro r w6 ⟨hb6, v6, own6, rfl⟩
                          obtain ⟨A6, c6, rfl, _⟩ := own_nil own6
                          have J6 := Lib.hid (J4.out.up hb6)
                          have ce := Blk.cell (i := 4) (v := .slice AP e.part.length cP) J6.out.box rfl
                          have ze := Blk.frozen J6.out.box 4
                          have le := Blk.lt J6.out.box
                          have J7 := Lib.hid (J6.out.set4 own6 (Blk.lt J4.out.box))
                          clear own6 hb6
                          go_wp2_with fail
                          exact ⟨⟨m + 1, ⟨e.kind, e.i, e.j, e.k, plainG x, e.map⟩, A6, c6, by omega, by go_num, J7, HST2, Lib.hid ⟨plain_smallL HWO.out, HPL.out, HSE.out.2.2⟩⟩, by simp [intOf]; omega⟩
                        · have hlI : ¬ (x.size : Int) ≤ 400 := by omega
                          have hld : (decide ((x.size : Int) ≤ 400)) = false := by simp; omega
                          have hstep : rdStep e U[m] x = none := by unfold rdStep; rw [if_neg c73, if_neg c74, if_neg c75, if_pos c80, hwo, decide_eq_false hl]; rfl
                          have HNO := Lib.hid (show rdSpec t = none by rw [rdSpec_of HXR.out HK.out]; unfold rdK; rw [if_neg hk0, HU.out, if_neg (by simp; omega)]; simp only [List.tail_cons]; rw [HST.out, hstep])
                          clear c80 hstep hwo
                          go_wp2_with fail
                          refine (l01Ok_any x _ HXM.out).mono ?_
                          rintro r w5 ⟨rfl, rfl⟩
                          rw [HWO.out]
                          have KR := HKR.out.up (J4.out.bel)
                          have hbW := Lib.hid (Below.tr HB2.out (J4.out.bel))
                          have r0 := Blk.cell (i := 0) (v := .int .i64 0) KR rfl
                          have q0 := Blk.frozen KR 0
                          have r1 := Blk.cell (i := 1) (v := .int .i64 0) KR rfl
                          have q1 := Blk.frozen KR 1
                          have r2 := Blk.cell (i := 2) (v := .int .i64 0) KR rfl
                          have q2 := Blk.frozen KR 2
                          have r3 := Blk.cell (i := 3) (v := .int .i64 0) KR rfl
                          have q3 := Blk.frozen KR 3
                          have r4 := Blk.cell (i := 4) (v := .slice none 0 0) KR rfl
                          have q4 := Blk.frozen KR 4
                          have r5 := Blk.cell (i := 5) (v := .string ⟨#[]⟩) KR rfl
                          have q5 := Blk.frozen KR 5
                          have lR := Blk.lt KR
                          have HKX := Lib.hid KR
                          clear KR
                          go_wp2_with fail
                          obtain ⟨⟨hf, _⟩, x0, x1, x2, x3, x4, x5⟩ := fin6 HKX.out hbW.out (.int .i64 0) (.int .i64 0) (.int .i64 0) (.int .i64 0) (.slice none 0 0) (.string ⟨#[]⟩)
                          exact bodyPost_ret (v := .tuple #[.agg #[.int .i64 0, .int .i64 0, .int .i64 0, .int .i64 0, .slice none 0 0, .string ⟨#[]⟩], .int .i64 5]) (by simp [results, Tryz.results25, go_sem, x0, x1, x2, x3, x4, x5]) rfl ⟨hf, .slice none 0 0, by rw [(rd_none HNO.out).1]; exact World.ownsRow_nil _ _ _ _, by rw [(rd_none HNO.out).1, (rd_none HNO.out).2]; rfl⟩
                    · have e80 : ¬ (U[m].toNat : Int) = 80 := fun h => c80 (UInt8.toNat_inj.1 (by have : (80 : UInt8).toNat = 80 := rfl; omega))
                      have ce := Blk.cell (i := 5) (v := .string e.map) J4.out.box rfl
                      have ze := Blk.frozen J4.out.box 5
                      have le := Blk.lt J4.out.box
                      have J5 := Lib.hid (J4.out.set5 x)
                      have hstep : rdStep e U[m] x = some ⟨e.kind, e.i, e.j, e.k, e.part, x⟩ := by unfold rdStep; rw [if_neg c73, if_neg c74, if_neg c75, if_neg c80]
                      have HST2 := Lib.hid (show rdRun (U.data.toList.drop (m + 1)) (R.drop (m + 1)) ⟨e.kind, e.i, e.j, e.k, e.part, x⟩ = rdRun U.data.toList R ⟨κ, 0, 0, 0, [], ⟨#[]⟩⟩ by rw [HST.out, hstep])
                      clear hstep
                      go_wp2_with fail
                      exact ⟨⟨m + 1, ⟨e.kind, e.i, e.j, e.k, e.part, x⟩, AP, cP, by omega, by go_num, J5, HST2, Lib.hid ⟨HSE.out.1, HSE.out.2.1, HXS.out⟩⟩, by simp [intOf]; omega⟩
            · have hmU : m = U.size := by omega
              subst hmU
              have hre : rdRun U.data.toList R ⟨κ, 0, 0, 0, [], ⟨#[]⟩⟩ = some e := by
                rw [← HR.out]
                have : U.data.toList.drop U.size = [] := by rw [List.drop_eq_nil_iff, Array.length_toList]; exact Nat.le_refl _
                rw [this]; rfl
              have HRE := Lib.hid hre
              clear hre HR
              go_wp2_with fail
              refine (l07Ok_any w2.heap.size _ e _ (RdSt.at HJ.out) HSE.out.1 (by have := HSE.out.2.1; omega) (by have := HSE.out.2.2; unfold maxLen; omega)).mono ?_
              rintro r w5 ⟨rfl, hb5⟩
              have J5 := Lib.hid (HJ.out.up hb5)
              clear hb5
              cases hok : editOk e with
              | false =>
                have HNO := Lib.hid (show rdSpec t = none by rw [rdSpec_of HXR.out HK.out]; unfold rdK; rw [if_neg hk0, HU.out, if_neg (by simp; omega)]; simp only [List.tail_cons]; rw [HRE.out]; simp [hok])
                clear hok
                have KR := HKR.out.up (J5.out.bel)
                have hbW := Lib.hid (Below.tr HB2.out (J5.out.bel))
                have r0 := Blk.cell (i := 0) (v := .int .i64 0) KR rfl
                have q0 := Blk.frozen KR 0
                have r1 := Blk.cell (i := 1) (v := .int .i64 0) KR rfl
                have q1 := Blk.frozen KR 1
                have r2 := Blk.cell (i := 2) (v := .int .i64 0) KR rfl
                have q2 := Blk.frozen KR 2
                have r3 := Blk.cell (i := 3) (v := .int .i64 0) KR rfl
                have q3 := Blk.frozen KR 3
                have r4 := Blk.cell (i := 4) (v := .slice none 0 0) KR rfl
                have q4 := Blk.frozen KR 4
                have r5 := Blk.cell (i := 5) (v := .string ⟨#[]⟩) KR rfl
                have q5 := Blk.frozen KR 5
                have lR := Blk.lt KR
                have HKX := Lib.hid KR
                clear KR
                go_wp2_with fail
                obtain ⟨⟨hf, _⟩, x0, x1, x2, x3, x4, x5⟩ := fin6 HKX.out hbW.out (.int .i64 0) (.int .i64 0) (.int .i64 0) (.int .i64 0) (.slice none 0 0) (.string ⟨#[]⟩)
                exact bodyPost_ret (v := .tuple #[.agg #[.int .i64 0, .int .i64 0, .int .i64 0, .int .i64 0, .slice none 0 0, .string ⟨#[]⟩], .int .i64 5]) (by simp [results, Tryz.results25, go_sem, x0, x1, x2, x3, x4, x5]) rfl ⟨hf, .slice none 0 0, by rw [(rd_none HNO.out).1]; exact World.ownsRow_nil _ _ _ _, by rw [(rd_none HNO.out).1, (rd_none HNO.out).2]; rfl⟩
              | true =>
                have HYES := Lib.hid (show rdSpec t = some e by rw [rdSpec_of HXR.out HK.out]; unfold rdK; rw [if_neg hk0, HU.out, if_neg (by simp; omega)]; simp only [List.tail_cons]; rw [HRE.out]; simp [hok])
                clear hok
                have KR := HKR.out.up (J5.out.bel)
                have hbW := Lib.hid (Below.tr HB2.out J5.out.bel)
                have r0 := Blk.cell (i := 0) (v := .int .i64 0) KR rfl
                have q0 := Blk.frozen KR 0
                have r1 := Blk.cell (i := 1) (v := .int .i64 0) KR rfl
                have q1 := Blk.frozen KR 1
                have r2 := Blk.cell (i := 2) (v := .int .i64 0) KR rfl
                have q2 := Blk.frozen KR 2
                have r3 := Blk.cell (i := 3) (v := .int .i64 0) KR rfl
                have q3 := Blk.frozen KR 3
                have r4 := Blk.cell (i := 4) (v := .slice none 0 0) KR rfl
                have q4 := Blk.frozen KR 4
                have r5 := Blk.cell (i := 5) (v := .string ⟨#[]⟩) KR rfl
                have q5 := Blk.frozen KR 5
                have g0 := Blk.cell (i := 0) (v := .int .i64 e.kind) J5.out.box rfl
                have g1 := Blk.cell (i := 1) (v := .int .i64 e.i) J5.out.box rfl
                have g2 := Blk.cell (i := 2) (v := .int .i64 e.j) J5.out.box rfl
                have g3 := Blk.cell (i := 3) (v := .int .i64 e.k) J5.out.box rfl
                have g4 := Blk.cell (i := 4) (v := .slice AP e.part.length cP) J5.out.box rfl
                have g5 := Blk.cell (i := 5) (v := .string e.map) J5.out.box rfl
                have lE := Blk.lt J5.out.box
                have lR := Blk.lt KR
                have HKX := Lib.hid KR
                have hwE : w.heap.size < w2.heap.size := HKR.out.lt
                clear KR
                go_wp2_with fail
                obtain ⟨⟨hf, hh⟩, x0, x1, x2, x3, x4, x5⟩ := fin6 HKX.out hbW.out (.int .i64 e.kind) (.int .i64 e.i) (.int .i64 e.j) (.int .i64 e.k) (.slice AP e.part.length cP) (.string e.map)
                exact bodyPost_ret (v := .tuple #[.agg #[.int .i64 e.kind, .int .i64 e.i, .int .i64 e.j, .int .i64 e.k, .slice AP e.part.length cP, .string e.map], .int .i64 0]) (by simp [results, Tryz.results25, go_sem, x0, x1, x2, x3, x4, x5]) rfl ⟨hf, .slice AP e.part.length cP, by rw [(rd_some HYES.out).1]; exact ownsRow_more (own_keep J5.out.own (fun g hg => hh g (by have := (World.ownsRow.lt J5.out.own g hg).1; omega))) (by omega), by rw [(rd_some HYES.out).1, (rd_some HYES.out).2]⟩
        · have HNO := Lib.hid (show rdSpec t = none by rw [rdSpec_of HXR.out HK.out]; unfold rdK; rw [if_neg hk0, HU.out, if_pos (by simp; omega)])
          have w1 : IntKind.i64.wrap ((U.size : Int) + 1) = (U.size : Int) + 1 := IntWalk.i64_in _ (by omega)
          have KR := HKR.out.up (J3.out.bel)
          have hbW := Lib.hid (Below.tr HB2.out (J3.out.bel))
          have r0 := Blk.cell (i := 0) (v := .int .i64 0) KR rfl
          have q0 := Blk.frozen KR 0
          have r1 := Blk.cell (i := 1) (v := .int .i64 0) KR rfl
          have q1 := Blk.frozen KR 1
          have r2 := Blk.cell (i := 2) (v := .int .i64 0) KR rfl
          have q2 := Blk.frozen KR 2
          have r3 := Blk.cell (i := 3) (v := .int .i64 0) KR rfl
          have q3 := Blk.frozen KR 3
          have r4 := Blk.cell (i := 4) (v := .slice none 0 0) KR rfl
          have q4 := Blk.frozen KR 4
          have r5 := Blk.cell (i := 5) (v := .string ⟨#[]⟩) KR rfl
          have q5 := Blk.frozen KR 5
          have lR := Blk.lt KR
          have HKX := Lib.hid KR
          clear KR
          go_wp2_with fail
          obtain ⟨⟨hf, _⟩, x0, x1, x2, x3, x4, x5⟩ := fin6 HKX.out hbW.out (.int .i64 0) (.int .i64 0) (.int .i64 0) (.int .i64 0) (.slice none 0 0) (.string ⟨#[]⟩)
          exact bodyPost_ret (v := .tuple #[.agg #[.int .i64 0, .int .i64 0, .int .i64 0, .int .i64 0, .slice none 0 0, .string ⟨#[]⟩], .int .i64 5]) (by simp [results, Tryz.results25, go_sem, x0, x1, x2, x3, x4, x5]) rfl ⟨hf, .slice none 0 0, by rw [(rd_none HNO.out).1]; exact World.ownsRow_nil _ _ _ _, by rw [(rd_none HNO.out).1, (rd_none HNO.out).2]; rfl⟩
theorem rd_okE2 {t : ByteArray} (h : rdCode t = 0) : editOk (rdOut t) = true := by
  cases hq : rdSpec t with
  | none => rw [(rd_none hq).2] at h; cases h
  | some e =>
    rw [(rd_some hq).1]
    unfold rdSpec rdK at hq
    split at hq
    · cases hq
    · split at hq
      · cases hq
      · split at hq
        · cases hq
        · split at hq
          · rename_i hok
            cases hq
            exact hok
          · cases hq
structure SpSt (T : TypeId) (w wx : World) (lo P g c k : Nat) (s : ScS) (A : Option Addr) (cx : Nat) (x : List GRule) : Prop where
  bel : Below w.heap.size w wx
  kP : Blk wx P #[.slice (some ⟨g, 0, none⟩) s.gs.length c, .int .i64 s.n] T
  og : OGp wx lo (.slice (some ⟨g, 0, none⟩) s.gs.length c) s.gs
  ct : C1 wx ⟨g, k, none⟩ (.slice A x.length cx)
  gx : Sl RuleE wx wx.heap.size (.slice A x.length cx) x
  wl : lo ≤ w.heap.size
theorem SpSt.up {T : TypeId} {w wx w' : World} {lo P g c k : Nat} {s : ScS} {A : Option Addr} {cx : Nat} {x : List GRule} (h : SpSt T w wx lo P g c k s A cx x) (hb : Below wx.heap.size wx w') : SpSt T w w' lo P g c k s A cx x :=
  ⟨Below.tr h.bel hb, h.kP.up hb, h.og.up hb (Nat.le_trans h.wl h.bel.size), h.ct.up hb, h.gx.up hb, h.wl⟩
theorem SpSt.same {T : TypeId} {w wx : World} {lo P g c k : Nat} {s : ScS} {A : Option Addr} {cx : Nat} {x : List GRule} (h : SpSt T w wx lo P g c k s A cx x) (hT : T ≠ 30) (hlo : lo ≤ P) {b : ByteArray} {r : ByteArray × ScS} (hr : r = (b, s)) :
    AnsPost T lo P r w (.returned (.string b)) wx := by
  subst hr
  exact ⟨rfl, Ses.of hT h.kP hlo h.og, h.bel.mono h.wl, TK.of_below h.bel, h.bel.size⟩
theorem ses_open {T : TypeId} {w : World} {lo P : Nat} {s : ScS} (hS : Ses T w lo P s) (hok : ScOk s) :
    ∃ g c k A cx x, SpSt T w w lo P g c k s A cx x ∧ rsTop s.gs = x ∧ gramOk x = true ∧ s.gs.length = k + 1 ∧ k ≤ 60 ∧ lo ≤ P ∧ g < w.heap.size ∧ s.gs.length ≤ c ∧ lo ≤ g := by
  obtain ⟨g, c, KP, hP, hg1, hg2, hgP, hc, hgc, HO⟩ := hS
  have h1 := hok.len
  have h2 := hok.most
  have h3 := hok.pos
  obtain ⟨k, hk⟩ : ∃ k, s.gs.length = k + 1 := ⟨s.gs.length - 1, by omega⟩
  have hxi : s.gs[k]? = some (rsTop s.gs) := by
    unfold rsTop
    rw [List.getD_eq_getElem?_getD, hk, Nat.add_sub_cancel, List.getElem?_eq_getElem (by omega)]; rfl
  obtain ⟨g', c', u, hv', _, _, _, _, hcu, hgu⟩ := HO.at_ hxi
  injection hv' with hv1 hv2 hv3
  injection hv1 with hv1
  injection hv1 with hv1
  subst hv1 hv3
  obtain ⟨_, A, cx, rfl⟩ := hgu.one
  exact ⟨g, c, k, A, cx, _, ⟨Below.refl _ _, KP, HO, ⟨hcu, hg2⟩, hgu.sl (by omega), by omega⟩, rfl, hok.top, hk, by omega, hP, hg2, hgc, hg1⟩
set_option maxRecDepth 100000 in
theorem now_any (P g c k L : Nat) (n : Int) (w : World) (hP : Blk w P #[.slice (some ⟨g, 0, none⟩) L c, .int .i64 n] 82) (hL : L = k + 1) (hk : k ≤ 1048576) :
    Calls Tryz.prog 114 #[.pointer (some ⟨P, 0, none⟩)] w fun e w' => e = .returned (.pointer (some ⟨g, k, none⟩)) ∧ Below w.heap.size w w' := by
  have hw : IntKind.i64.wrap ((L : Int) - 1) = (k : Int) := by rw [IntWalk.i64_in _ (by omega)]; omega
  have hi : (k : Int) < (L : Int) := by omega
  have cp := Blk.cell (i := 0) (v := .slice (some ⟨g, 0, none⟩) L c) hP rfl
  have lp := Blk.lt hP
  clear hL hP
  go_enter Tryz.func114, Tryz.ntmps114
  go_wp2_with fail
  go_quiet (fail)
  go_wp2_with fail
  exact bodyPost_ret (v := .pointer (some ⟨g, k, none⟩)) (by simp [results, Tryz.results114, go_sem]) rfl ⟨rfl, (by repeat (first | exact Below.refl _ _ | (refine Below.alloc ?_ (by first | omega | (simp; done) | (simp; omega)) _) | (refine Below.setCell ?_ (by first | exact Nat.le_refl _ | (show _ ≤ _; omega) | (simp; done) | (simp; omega)) _) | refine below_drewN ?_ _ | refine Below.drew ?_))⟩
theorem errB_at (c : Int) (l : List UInt8) (h : (errB c).data.toList = l) : (⟨l.toArray⟩ : ByteArray) = errB c := by
  apply ByteArray.ext
  rw [← h]
set_option maxRecDepth 100000 in
set_option maxHeartbeats 8000000 in
theorem specEdit_any (lo P E : Nat) (s : ScS) (e : GEdit) (vR : Value) (w : World) (hS : Ses 82 w lo P s) (hok : ScOk s) (hE : EC w E 0 e vR) (hR : Sl RuleE w w.heap.size vR e.part) (hk : editOk e = true) :
    Calls Tryz.prog 47 #[.pointer (some ⟨P, 0, none⟩), .pointer (some ⟨E, 0, none⟩)] w (AnsPost 82 lo P (scEdit s e) w) := by
  have hn60 := hok.most
  obtain ⟨g, c, k, A, cx, x, J, hx, hxo, hL1, hk60, hP, hg2, hgc, hg1⟩ := ses_open hS hok
  have hwl := J.wl
  have HJ := Lib.hid J
  have HX := Lib.hid hx
  have HXO := Lib.hid hxo
  have HEO := Lib.hid hk
  have HE := Lib.hid hE
  have HR := Lib.hid hR
  have HL := Lib.hid hL1
  have hlen : s.gs.length ≤ 61 := by omega
  clear J hx hxo hk hE hR hS hok hL1
  have cp1 := Blk.cell (i := 1) (v := .int .i64 s.n) HJ.out.kP rfl
  have lp := Blk.lt HJ.out.kP
  by_cases hn : s.n = 60
  · have hnI : (s.n : Int) = 60 := by omega
    have HR := Lib.hid (show scEdit s e = (errB 3, s) by unfold scEdit; rw [if_pos hn])
    clear hn
    go_enter Tryz.func47, Tryz.ntmps47
    go_wp2_with fail
    refine bodyPost_ret (v := .string (errB 3)) (by simp [results, Tryz.results47, go_sem]; exact errB_at 3 [101, 114, 114, 111, 114, 32, 108, 105, 109, 105, 116] (by decide)) rfl (HJ.out.same (by decide) hP ?_)
    rw [HR.out]
  · have hnI : ¬ (s.n : Int) = 60 := by omega
    have HN := Lib.hid hn
    have hw1 : IntKind.i64.wrap ((s.n : Int) + 1) = (s.n : Int) + 1 := IntWalk.i64_in _ (by omega)
    have HW1 := Lib.hid hw1
    clear hn hw1
    go_enter Tryz.func47, Tryz.ntmps47
    go_wp2_with fail
    refine (now_any P g c k s.gs.length s.n _ HJ.out.kP HL.out (by omega)).mono ?_
    rintro r w1 ⟨rfl, hb1⟩
    have J1 := Lib.hid (HJ.out.up hb1)
    have HE1 := Lib.hid (HE.out.up hb1)
    have HR1 := Lib.hid (HR.out.up hb1)
    clear hb1 HE HR HJ cp1 lp
    go_wp2_with fail
    refine (l07Apply_any g k E 0 _ _ x e _ J1.out.ct HE1.out J1.out.gx HR1.out HXO.out HEO.out).mono ?_
    rintro r w5 ⟨hb5, v5, own5, rfl⟩
    have J5 := Lib.hid (J1.out.up hb5)
    have hw4 : lo ≤ w1.heap.size := Nat.le_trans hwl J1.out.bel.size
    clear hb5 J1 HE1 HR1
    obtain ⟨A5, c5, rfl, _⟩ := own_nil own5
    go_upto_region 4 with fail
    have bN := (Below.refl w5.heap.size w5).alloc (Nat.le_refl _) (Obj.cells #[.slice A5 (applyOut x e).length c5] 30)
    have J6 := Lib.hid (J5.out.up bN)
    have KN := Lib.hid (Blk.new w5 #[.slice A5 (applyOut x e).length c5] 30)
    have ON := Lib.hid (OwnRules.below (ownsRow_more own5 (base' := lo) hw4) bN)
    clear bN J5 own5
    revert J6 KN ON
    generalize (w5.alloc (Obj.cells #[.slice A5 (applyOut x e).length c5] 30)) = w6
    generalize w5.heap.size = NB
    intro J6 KN ON
    by_cases hac : applyCode x e = 0
    · have HR := Lib.hid (show scEdit s e = (okB, ⟨s.gs ++ [applyOut x e], s.n + 1⟩) by unfold scEdit; rw [if_neg HN.out, HX.out, if_pos hac])
      rw [hac]
      clear hac hw4 HN
      have hl6 : lo ≤ w6.heap.size := Nat.le_trans hwl J6.out.bel.size
      have cp0 := Blk.cell (i := 0) (v := .slice (some ⟨g, 0, none⟩) s.gs.length c) J6.out.kP rfl
      have zp0 := Blk.frozen J6.out.kP 0
      have lp := Blk.lt J6.out.kP
      have cn0 := Blk.cell (i := 0) (v := .slice A5 (applyOut x e).length c5) KN.out rfl
      have ln := Blk.lt KN.out
      go_upto_region 6 with fail
      go_cut [] (fun wx => ∃ g7 c7 : Nat, Blk wx P #[.slice (some ⟨g7, 0, none⟩) (s.gs.length + 1) c7, .int .i64 s.n] 82 ∧ OGp wx lo (.slice (some ⟨g7, 0, none⟩) (s.gs.length + 1) c7) (s.gs ++ [applyOut x e]) ∧ Below lo w6 wx ∧ TK (SK 82) w6 wx ∧ w6.heap.size ≤ wx.heap.size)
      case first =>
        go_region_law (first
          | (refine step_push_gp (by rfl) _ _ (by rfl) (u := .slice A5 (applyOut x e).length c5) (y := applyOut x e) (lo := lo) (g := g) (c := c) (gs := s.gs) (by rfl) (by first | rfl | simp) (by simp [go_sem]) (J6.out.og.up (by repeat (first | exact Below.refl _ _ | (refine Below.alloc ?_ (by first | omega | (simp; done) | (simp; omega)) _) | (refine Below.setCell ?_ (by first | exact Nat.le_refl _ | (show _ ≤ _; omega) | (simp; done) | (simp; omega)) _) | refine below_drewN ?_ _ | refine Below.drew ?_)) hl6) (by omega) (by simp; omega) (.inr (OwnRules.below ON.out (by repeat (first | exact Below.refl _ _ | (refine Below.alloc ?_ (by first | omega | (simp; done) | (simp; omega)) _) | (refine Below.setCell ?_ (by first | exact Nat.le_refl _ | (show _ ≤ _; omega) | (simp; done) | (simp; omega)) _) | refine below_drewN ?_ _ | refine Below.drew ?_)))) ?_; intro g7 c7 w7 og7 hb7 hk7 hz7; have kP7 : Blk w7 P #[.slice (some ⟨g, 0, none⟩) s.gs.length c, .int .i64 s.n] 82 := TK.blk (J6.out.kP.up (by repeat (first | exact Below.refl _ _ | (refine Below.alloc ?_ (by first | omega | (simp; done) | (simp; omega)) _) | (refine Below.setCell ?_ (by first | exact Nat.le_refl _ | (show _ ≤ _; omega) | (simp; done) | (simp; omega)) _) | refine below_drewN ?_ _ | refine Below.drew ?_))) hk7 (by decide); have cp7 := Blk.cell (i := 0) (v := .slice (some ⟨g, 0, none⟩) s.gs.length c) kP7 rfl; have zp7 := Blk.frozen kP7 0; have lp7 := Blk.lt kP7))
        all_goals
          go_wp2_with fail
          go_meet
          have hz6 := Nat.le_trans (show w6.heap.size ≤ _ from (show Below w6.heap.size w6 _ from (by repeat (first | exact Below.refl _ _ | (refine Below.alloc ?_ (by first | omega | (simp; done) | (simp; omega)) _) | (refine Below.setCell ?_ (by first | exact Nat.le_refl _ | (show _ ≤ _; omega) | (simp; done) | (simp; omega)) _) | refine below_drewN ?_ _ | refine Below.drew ?_))).size) hz7
          refine ⟨g7, c7, kP7.set 0 _, og7.setP kP7 hP (by decide) (by decide), ?_, ?_, ?_⟩
          · exact ((show Below w6.heap.size w6 _ from (by repeat (first | exact Below.refl _ _ | (refine Below.alloc ?_ (by first | omega | (simp; done) | (simp; omega)) _) | (refine Below.setCell ?_ (by first | exact Nat.le_refl _ | (show _ ≤ _; omega) | (simp; done) | (simp; omega)) _) | refine below_drewN ?_ _ | refine Below.drew ?_))).mono hl6).trans (hb7.setCell (p := ⟨P, 0, none⟩) hP _)
          · exact TK.tr (TK.of_below (show Below w6.heap.size w6 _ from (by repeat (first | exact Below.refl _ _ | (refine Below.alloc ?_ (by first | omega | (simp; done) | (simp; omega)) _) | (refine Below.setCell ?_ (by first | exact Nat.le_refl _ | (show _ ≤ _; omega) | (simp; done) | (simp; omega)) _) | refine below_drewN ?_ _ | refine Below.drew ?_)))) (TK.tr (hk7.sub (fun _ h => h.1)) (TK.setCell kP7 (fun _ h => h.2)))
          · simpa using hz6
      case rest =>
        obtain ⟨g7, c7, k7, o7, b7, t7, z7⟩ := hcut
        have K7 := Lib.hid k7
        have O7 := Lib.hid o7
        have B7 := Lib.hid ((J6.out.bel.mono hwl).trans b7)
        have T7 := Lib.hid (TK.tr (TK.of_below (ts := SK 82) J6.out.bel) t7)
        have Z7 : w.heap.size ≤ wc.heap.size := Nat.le_trans J6.out.bel.size z7
        have hw1 := HW1.out
        clear k7 o7 b7 t7 z7 cp0 zp0 lp cn0 ln J6 KN ON
        revert K7 O7 B7 T7 Z7
        generalize wc = w7
        intro K7 O7 B7 T7 Z7
        have cp1 := Blk.cell (i := 1) (v := .int .i64 s.n) K7.out rfl
        have zp1 := Blk.frozen K7.out 1
        have lp := Blk.lt K7.out
        go_wp2_with fail
        refine bodyPost_ret (v := .string okB) (by simp [results, Tryz.results47, go_sem, okB]) rfl ?_
        rw [HR.out]
        have k8 := K7.out.set 1 (.int .i64 ((s.n : Int) + 1))
        have o8 := O7.out.setP (i := 1) (u := .int .i64 ((s.n : Int) + 1)) K7.out hP (by decide) (by decide)
        refine ⟨rfl, Ses.of (g := g7) (c := c7) (by decide) ?_ hP ?_, ?_, ?_, ?_⟩
        · simpa using k8
        · simpa using o8
        · exact B7.out.trans ((Below.refl lo w7).setCell (p := ⟨P, 1, none⟩) hP _)
        · exact TK.tr T7.out (TK.setCell K7.out (fun _ h => h.2))
        · simpa using Z7
    · have HR := Lib.hid (show scEdit s e = (errB (applyCode x e), s) by unfold scEdit; rw [if_neg HN.out, HX.out, if_neg hac])
      have hacb : (applyCode x e != 0) = true := by simp [hac]
      have hsz := codeNm_size (applyCode x e)
      clear hac
      go_wp2_with fail
      refine (specCodeName_any (applyCode x e) _).mono ?_
      rintro r w8 ⟨rfl, hb8⟩
      have HJ8 := Lib.hid (J6.out.up hb8)
      go_wp2_with fail
      refine bodyPost_ret (v := .string (errB (applyCode x e))) (by simp [results, Tryz.results47, go_sem, errB, errP]) rfl (HJ8.out.same (by decide) hP ?_)
      rw [HR.out]
theorem str_is2 (t b : ByteArray) (l : List UInt8) (h : b.data.toList = l) : (t.toList == l) = true ↔ t = b := by
  rw [beq_iff_eq, ByteArray.toList_eq]
  constructor
  · intro e; apply ByteArray.ext; apply Array.toList_inj.1; rw [e, h]
  · rintro rfl; exact h
theorem place_undo : scPlace undoB = none := by simp [scPlace, undoB]
theorem place_length : scPlace lengthB = none := by simp [scPlace, lengthB]
theorem place_word : scPlace wordB = none := by simp [scPlace, wordB]
theorem rest_what {s : ScS} {t : ByteArray} (h : scPlace t = none) (h1 : t ≠ undoB) (h2 : t ≠ lengthB) (h3 : t ≠ wordB) : scRest s t = (whatB, s) := by unfold scRest; rw [h, if_neg h1, if_neg h2, if_neg h3]
theorem rest_place {s : ScS} {t : ByteArray} {i : Int} (h : scPlace t = some i) : scRest s t = (scLet (rsTop s.gs) i, s) := by unfold scRest; rw [h]
theorem two_of {α : Type} {l : List α} (h : l.length = 2) : ∃ a b, l = [a, b] := by
  match l, h with
  | [a, b], _ => exact ⟨a, b, rfl⟩
theorem place_one {t : ByteArray} (h : (splB 32 t).length ≠ 2) : scPlace t = none := by
  cases hq : scPlace t with
  | none => rfl
  | some i =>
    obtain ⟨x, hx, _⟩ := place_some hq
    rw [hx] at h; exact absurd rfl h
theorem place_other {t X Y : ByteArray} (h : splB 32 t = [X, Y]) (hX : X ≠ atB) : scPlace t = none := by
  cases hq : scPlace t with
  | none => rfl
  | some i =>
    obtain ⟨x, hx, _⟩ := place_some hq
    rw [hx] at h; cases h; exact absurd rfl hX
set_option maxRecDepth 100000 in
set_option maxHeartbeats 8000000 in
theorem specAnswer_any (lo P : Nat) (s : ScS) (t : ByteArray) (w : World) (hS : Ses 82 w lo P s) (hok : ScOk s) (ht : t.size ≤ 1048576) :
    Calls Tryz.prog 48 #[.pointer (some ⟨P, 0, none⟩), .string t] w (AnsPost 82 lo P (scRest s t) w) := by
  obtain ⟨g, c, k, A, cx, x, J, hx, hxo, hL1, hk60, hP, hg2, hgc, hg1⟩ := ses_open hS hok
  have hwl := J.wl
  obtain ⟨hn4, ls, hl⟩ := gram_lens hxo
  have hV : lenV x = lastI ls := by simp [lenV, hxo, gramLen_of hl]
  have hlb := lastI_bounds hl
  have hwl2 := wordG_len hl
  have sm := Lib.hid (okAll_smallL (okAll_lens (gram_lens hxo).2.choose_spec))
  have HJ := Lib.hid J
  have HX := Lib.hid hx
  have HXO := Lib.hid hxo
  have HL := Lib.hid hL1
  have HV := Lib.hid hV
  have Hl := Lib.hid hl
  have HW := Lib.hid hwl2
  clear J hx hxo hS hok hL1 hV hl hwl2
  go_enter Tryz.func48, Tryz.ntmps48
  go_wp2_with fail
  refine (now_any P g c k s.gs.length s.n _ HJ.out.kP HL.out (by omega)).mono ?_
  rintro r w1 ⟨rfl, hb1⟩
  have J1 := Lib.hid (HJ.out.up hb1)
  clear hb1 HJ
  go_wp2_with fail
  refine (l02Length_any g k _ x ls _ Hl.out J1.out.ct.c J1.out.ct.lt J1.out.gx sm.out (by omega)).mono ?_
  rintro r w2 ⟨rfl, hb2⟩
  have J2 := Lib.hid (J1.out.up hb2)
  clear hb2 J1
  go_wp2_with fail
  refine (l01Split32 t _ ht).mono ?_
  rintro r w3 ⟨hb3, vW, ownW, rfl⟩
  have J3 := Lib.hid (J2.out.up hb3)
  clear hb3 J2
  obtain ⟨n, hn⟩ : ∃ n, lastI ls = n := ⟨_, rfl⟩
  have HNN := Lib.hid hn
  rw [hn] at HV hlb HW ⊢
  clear hn
  cases h1 : (t.toList == ([117, 110, 100, 111] : List UInt8)) with
  | true =>
    have ht1 : t = undoB := (str_is2 t undoB [117, 110, 100, 111] rfl).1 h1
    have HR1 := Lib.hid (show scRest s t = (if s.gs.length = 1 then (errB 4, s) else (okB, ⟨s.gs.dropLast, s.n⟩)) by subst ht1; unfold scRest; rw [place_undo, if_pos rfl])
    clear ht1
    obtain ⟨AW, cW, rfl, _⟩ := own_nil ownW
    by_cases hl1 : s.gs.length = 1
    · have hl1I : (s.gs.length : Int) = 1 := by omega
      have HR := Lib.hid (show scRest s t = (errB 4, s) by rw [HR1.out, if_pos hl1])
      clear HR1 hl1
      have cp0 := Blk.cell (i := 0) (v := .slice (some ⟨g, 0, none⟩) s.gs.length c) J3.out.kP rfl
      have lp := Blk.lt J3.out.kP
      go_wp2_with fail
      refine bodyPost_ret (v := .string (errB 4)) (by simp [results, Tryz.results48, go_sem]; exact errB_at 4 [101, 114, 114, 111, 114, 32, 115, 116, 97, 116, 101] (by decide)) rfl (J3.out.same (by decide) hP ?_)
      rw [HR.out]
    · have HR := Lib.hid (show scRest s t = (okB, ⟨s.gs.dropLast, s.n⟩) by rw [HR1.out, if_neg hl1])
      have kP5 := J3.out.kP
      have hL1 := HL.out
      have og5 := OGp.pop J3.out.og (by omega)
      have hdl : s.gs.dropLast.length = k := by simp; omega
      obtain ⟨L, hL⟩ : ∃ L, s.gs.length = L := ⟨_, rfl⟩
      rw [hL1, Nat.add_sub_cancel] at og5
      rw [hL] at kP5 hl1 hgc hL1
      have hw : IntKind.i64.wrap ((L : Int) - 1) = (k : Int) := by rw [IntWalk.i64_in _ (by omega)]; omega
      have hkc : (k : Int) ≤ (c : Int) := by omega
      have hLI : ¬ (L : Int) = 1 := by omega
      have HKP := Lib.hid kP5
      have HOG := Lib.hid og5
      have HDL := Lib.hid hdl
      clear HR1 hl1 hL hL1 hdl og5
      have cp0 := Blk.cell (i := 0) (v := .slice (some ⟨g, 0, none⟩) L c) kP5 rfl
      have zp0 := Blk.frozen kP5 0
      have lp := Blk.lt kP5
      clear kP5
      go_upto_region 7 with fail
      go_cut [] (fun wx => Blk wx P #[.slice (some ⟨g, 0, none⟩) k c, .int .i64 s.n] 82 ∧ OGp wx lo (.slice (some ⟨g, 0, none⟩) k c) s.gs.dropLast ∧ Below lo w3 wx ∧ TK (SK 82) w3 wx ∧ w3.heap.size ≤ wx.heap.size)
      case first =>
        go_region_law (fail)
        all_goals
          go_wp2_with fail
          go_meet
          refine ⟨HKP.out.set 0 _, HOG.out.setP HKP.out hP (by decide) (by decide), ?_, ?_, ?_⟩
          · exact (Below.drew (Below.refl lo w3)).setCell (p := ⟨P, 0, none⟩) hP _
          · exact TK.setCell (w := w3.drew) HKP.out (fun _ h => h.2)
          · simp
      case rest =>
        obtain ⟨k7, o7, b7, t7, z7⟩ := hcut
        have K7 := Lib.hid k7
        have O7 := Lib.hid o7
        have B7 := Lib.hid ((J3.out.bel.mono hwl).trans b7)
        have T7 := Lib.hid (TK.tr (TK.of_below (ts := SK 82) J3.out.bel) t7)
        have Z7 : w.heap.size ≤ wc.heap.size := Nat.le_trans J3.out.bel.size z7
        clear k7 o7 b7 t7 z7
        go_wp2_with fail
        refine bodyPost_ret (v := .string okB) (by simp [results, Tryz.results48, go_sem, okB]) rfl ?_
        rw [HR.out]
        refine ⟨rfl, Ses.of (g := g) (c := c) (by decide) ?_ hP ?_, B7.out, T7.out, Z7⟩
        · rw [HDL.out]; exact K7.out
        · rw [HDL.out]; exact O7.out
  | false =>
    have ht1 : t ≠ undoB := fun h => by rw [(str_is2 t undoB [117, 110, 100, 111] rfl).2 h] at h1; cases h1
    cases h2 : (t.toList == ([108, 101, 110, 103, 116, 104] : List UInt8)) with
    | true =>
      have ht2 : t = lengthB := (str_is2 t lengthB [108, 101, 110, 103, 116, 104] rfl).1 h2
      have HR := Lib.hid (show scRest s t = (⟨(dec n).toArray⟩, s) by subst ht2; unfold scRest; rw [place_length, if_neg ht1, if_pos rfl, HX.out, HV.out])
      clear ht1 ht2
      obtain ⟨AW, cW, rfl, _⟩ := own_nil ownW
      obtain ⟨m, rfl⟩ := Int.eq_ofNat_of_zero_le hlb.1
      go_wp2_with fail
      refine (Decimal_any m (by omega) _).mono ?_
      rintro r w8 ⟨rfl, hb8⟩
      have HJ8 := Lib.hid (J3.out.up hb8)
      go_wp2_with fail
      refine bodyPost_ret (v := .string ⟨(Lib.decDigits m).toArray⟩) (by simp [results, Tryz.results48, go_sem]) rfl (HJ8.out.same (by decide) hP ?_)
      rw [HR.out]; rfl
    | false =>
      have ht2 : t ≠ lengthB := fun h => by rw [(str_is2 t lengthB [108, 101, 110, 103, 116, 104] rfl).2 h] at h2; cases h2
      cases h3 : (t.toList == ([119, 111, 114, 100] : List UInt8)) with
      | true =>
        have ht3 : t = wordB := (str_is2 t wordB [119, 111, 114, 100] rfl).1 h3
        have HR1 := Lib.hid (show scRest s t = (spokB ⟨(upV x).toArray⟩ (upC x), s) by subst ht3; unfold scRest; rw [place_word, if_neg ht1, if_neg ht2, if_pos rfl, HX.out])
        clear ht1 ht2 ht3
        obtain ⟨AW, cW, rfl, _⟩ := own_nil ownW
        by_cases hbig : n ≤ 2000
        · have hu := up_ok (xs := x) HXO.out (by have := HW.out; omega)
          have HR := Lib.hid (show scRest s t = (⟨(wordG x).toArray⟩, s) by rw [HR1.out, hu.1, hu.2]; rfl)
          have HCUT := Lib.hid (show cutL (wordG x) 0 n = wordG x from cutL_all (Int.le_refl _) (by have := HW.out; omega))
          have hbg : ¬ (2000 : Int) < n := by omega
          clear hu HR1
          go_wp2_with fail
          refine (l02Unpack_any g k _ x ls 0 n _ J3.out.ct.c J3.out.ct.lt J3.out.gx sm.out Hl.out hn4 (Int.le_refl _) hlb.1 (by have := HNN.out; omega) (by omega)).mono ?_
          rintro r w8 ⟨rfl, hb8⟩
          have HJ8 := Lib.hid (J3.out.up hb8)
          rw [HCUT.out]
          go_wp2_with fail
          refine bodyPost_ret (v := .string ⟨(wordG x).toArray⟩) (by simp [results, Tryz.results48, go_sem]) rfl (HJ8.out.same (by decide) hP ?_)
          rw [HR.out]
        · have hu := up_long (xs := x) HXO.out (by have := HW.out; omega)
          have HR := Lib.hid (show scRest s t = (errB 3, s) by rw [HR1.out, hu.2]; rfl)
          have hbg : (2000 : Int) < n := by omega
          clear hu HR1
          go_wp2_with fail
          refine bodyPost_ret (v := .string (errB 3)) (by simp [results, Tryz.results48, go_sem]; exact errB_at 3 [101, 114, 114, 111, 114, 32, 108, 105, 109, 105, 116] (by decide)) rfl (J3.out.same (by decide) hP ?_)
          rw [HR.out]
      | false =>
        have ht3 : t ≠ wordB := fun h => by rw [(str_is2 t wordB [119, 111, 114, 100] rfl).2 h] at h3; cases h3
        by_cases hl2 : (splB 32 t).length = 2
        · obtain ⟨X, Y, hXY⟩ := two_of hl2
          clear hl2
          have hYs : Y.size ≤ t.size := splB_size (b := 32) (by rw [hXY]; simp)
          have HXY := Lib.hid hXY
          rw [hXY] at ownW
          obtain ⟨gW, cW, rfl, _, hgW, _, hcell⟩ := own_form ownW (by simp)
          have cX : w3.cell? ⟨gW, 0, none⟩ = some (.string X) := hcell 0 _ rfl
          have cY : w3.cell? ⟨gW, 1, none⟩ = some (.string Y) := hcell 1 _ rfl
          clear hcell ownW hXY
          cases hX : (X.toList == ([97, 116] : List UInt8)) with
          | true =>
            have hXa : X = atB := (str_is2 X atB [97, 116] rfl).1 hX
            subst hXa
            cases hrd : rdOk Y.data.toList with
            | true =>
              have HR1 := Lib.hid (rest_place (s := s) (place_yes HXY.out hrd))
              have hi0 : 0 ≤ numV Y.data.toList := (rdOk_dec hrd).2
              have HRD := Lib.hid hrd
              obtain ⟨i, hi⟩ : ∃ i, numV Y.data.toList = i := ⟨_, rfl⟩
              have HI := Lib.hid hi
              rw [hi] at HR1 hi0
              clear hi hrd ht1 ht2 ht3
              by_cases hin : i < n
              · have HR := Lib.hid (show scRest s t = (⟨(cutL (wordG x) i (i + 1)).toArray⟩, s) by rw [HR1.out, HX.out]; unfold scLet; rw [HV.out, if_pos hin])
                have hw1 : IntKind.i64.wrap (i + 1) = i + 1 := IntWalk.i64_in _ (by omega)
                have hin2 : ¬ n ≤ i := by omega
                clear HR1
                go_wp2_with fail
                refine (l01Number_any Y _ (by omega)).mono ?_
                rintro r w5 ⟨hb5, rfl⟩
                have J5 := Lib.hid (J3.out.up hb5)
                rw [HI.out, HRD.out]
                clear hb5 J3 cX cY
                go_wp2_with fail
                refine (l02Unpack_any g k _ x ls i (i + 1) _ J5.out.ct.c J5.out.ct.lt J5.out.gx sm.out Hl.out hn4 hi0 (by omega) (by have := HNN.out; omega) (by omega)).mono ?_
                rintro r w8 ⟨rfl, hb8⟩
                have HJ8 := Lib.hid (J5.out.up hb8)
                go_wp2_with fail
                refine bodyPost_ret (v := .string ⟨(cutL (wordG x) i (i + 1)).toArray⟩) (by simp [results, Tryz.results48, go_sem]) rfl (HJ8.out.same (by decide) hP ?_)
                rw [HR.out]
              · have HR := Lib.hid (show scRest s t = (errB 2, s) by rw [HR1.out, HX.out]; unfold scLet; rw [HV.out, if_neg hin])
                have hin2 : n ≤ i := by omega
                clear HR1 hin
                go_wp2_with fail
                refine (l01Number_any Y _ (by omega)).mono ?_
                rintro r w5 ⟨hb5, rfl⟩
                have J5 := Lib.hid (J3.out.up hb5)
                rw [HI.out, HRD.out]
                clear hb5 J3 cX cY
                go_wp2_with fail
                refine bodyPost_ret (v := .string (errB 2)) (by simp [results, Tryz.results48, go_sem]; exact errB_at 2 [101, 114, 114, 111, 114, 32, 114, 97, 110, 103, 101] (by decide)) rfl (J5.out.same (by decide) hP ?_)
                rw [HR.out]
            | false =>
              have HR := Lib.hid (rest_what (s := s) (place_no HXY.out hrd) ht1 ht2 ht3)
              have HRD := Lib.hid hrd
              clear ht1 ht2 ht3 hrd
              go_wp2_with fail
              refine (l01Number_any Y _ (by omega)).mono ?_
              rintro r w5 ⟨hb5, rfl⟩
              have J5 := Lib.hid (J3.out.up hb5)
              rw [HRD.out]
              clear hb5 J3 cX cY
              go_wp2_with fail
              refine bodyPost_ret (v := .string whatB) (by simp [results, Tryz.results48, go_sem, whatB]) rfl (J5.out.same (by decide) hP ?_)
              rw [HR.out]
          | false =>
            have hXa : X ≠ atB := fun h => by rw [(str_is2 X atB [97, 116] rfl).2 h] at hX; cases hX
            have HR := Lib.hid (rest_what (s := s) (place_other HXY.out hXa) ht1 ht2 ht3)
            clear ht1 ht2 ht3 hXa
            go_wp2_with fail
            refine bodyPost_ret (v := .string whatB) (by simp [results, Tryz.results48, go_sem, whatB]) rfl (J3.out.same (by decide) hP ?_)
            rw [HR.out]
        · have HR := Lib.hid (rest_what (s := s) (place_one hl2) ht1 ht2 ht3)
          obtain ⟨AW, cW, rfl, _⟩ := own_nil ownW
          obtain ⟨LW, hLW⟩ : ∃ LW, (splB 32 t).length = LW := ⟨_, rfl⟩
          rw [hLW] at hl2 ⊢
          have hl2I : ¬ (LW : Int) = 2 := by omega
          clear ht1 ht2 ht3 hl2 hLW ownW
          go_wp2_with fail
          refine bodyPost_ret (v := .string whatB) (by simp [results, Tryz.results48, go_sem, whatB]) rfl (J3.out.same (by decide) hP ?_)
          rw [HR.out]
theorem l01Split10 (s : ByteArray) (w : World) (hs : s.size ≤ 1048576) :
    Calls Tryz.prog 45 #[.string s, .int .u8 10] w fun e w' => Below w.heap.size w w' ∧ ∃ v, OwnW w' w.heap.size v (splB 10 s) ∧ e = .returned v := l01Split_any s 10 w hs
theorem out_app (l : List UInt8) (r : ByteArray) : (⟨l.toArray⟩ : ByteArray) ++ (r ++ ⟨#[10]⟩) = ⟨(l ++ (r.data.toList ++ [10])).toArray⟩ := by
  apply ByteArray.ext
  simp [ByteArray.data_append]
set_option maxRecDepth 100000 in
set_option maxHeartbeats 8000000 in
theorem specRunScript_any (v : Value) (xs : List GRule) (t : ByteArray) (w : World) (h : Sl RuleE w w.heap.size v xs) (hsm : SmallL xs) (hn : xs.length ≤ 1048576) (ht : t.size ≤ 1048576) :
    Calls Tryz.prog 9 #[.agg #[v], .string t] w fun e w' => e = .returned (.tuple #[.string ⟨(scOut xs t).toArray⟩, .int .i64 (scCode xs t)]) ∧ Below w.heap.size w w' := by
  have HG := Lib.hid h
  obtain ⟨A, c, rfl, _⟩ := h
  have b1 := (Below.refl w.heap.size w).alloc (Nat.le_refl _) (Obj.cells #[.slice A xs.length c] 30)
  have KP := Blk.new w #[.slice A xs.length c] 30
  go_enter Tryz.func9, Tryz.ntmps9
  go_upto_region 1 with fail
  generalize (w.alloc (Obj.cells #[.slice A xs.length c] 30)) = w0 at *
  have KB := Lib.hid b1
  clear b1
  have cP0 := Blk.cell (i := 0) (v := .slice A xs.length c) KP rfl
  have lP := Blk.lt KP
  go_wp2_with fail
  refine (l02Ok_any w.heap.size 0 _ xs _ cP0 lP (HG.out.up KB.out) hsm).mono ?_
  rintro e w1 ⟨rfl, hb1⟩
  have KB1 := Lib.hid (Below.tr KB.out hb1)
  have KP1 := KP.up hb1
  clear KB KP hb1 cP0 lP
  cases hg : gramOk xs with
  | false =>
    have HQ := Lib.hid (sc_bad (t := t) hg)
    clear hg
    go_wp2_with fail
    refine bodyPost_ret (v := .tuple #[.string ⟨#[]⟩, .int .i64 1]) (by simp [results, Tryz.results9, go_sem]) rfl ⟨by rw [HQ.out.1, HQ.out.2], KB1.out⟩
  | true =>
    have HGG := Lib.hid hg
    clear hg
    go_wp2_with fail
    refine (l01Split10 t _ ht).mono ?_
    rintro e w2 ⟨hb2, vL, own, rfl⟩
    have KB2 := Lib.hid (Below.tr KB1.out hb2)
    have KP2 := Lib.hid (KP1.up hb2)
    clear hb2 KP1 KB1
    have hpos := splB_pos 10 t
    have hle := splB_len 10 t
    obtain ⟨g, cL, rfl, _, hgl, hcap, hcell⟩ := own_form own hpos
    obtain ⟨k, hk⟩ : ∃ k, (splB 10 t).length = k + 1 := ⟨(splB 10 t).length - 1, by omega⟩
    obtain ⟨x, hx⟩ : ∃ x, (splB 10 t)[k]? = some x := ⟨_, List.getElem?_eq_getElem (by omega)⟩
    have hcx : w2.cell? ⟨g, k, none⟩ = some (.string x) := hcell k _ (by rw [List.getElem?_map, hx]; rfl)
    have HLS := Lib.hid (scLines_last (t := t) (x := x) (by rw [hk]; exact hx))
    have hpop := OwnW.pop own hpos
    obtain ⟨L, hL⟩ : ∃ L, (splB 10 t).length = L := ⟨_, rfl⟩
    have hdl : (splB 10 t).dropLast.length = k := by rw [List.length_dropLast]; omega
    have hLk : L = k + 1 := by omega
    rw [hL, hLk, Nat.add_sub_cancel] at hpop
    have own2 : w2.ownsRow w1.heap.size 9 1 (.slice (some ⟨g, 0, none⟩) L cL) (splB 10 t).length ((splB 10 t).map Value.string) := by rw [← hL]; exact own
    unfold maxLen at hcap
    have hkc : (k : Int) ≤ (cL : Int) := by omega
    have hkL : (k : Int) < (L : Int) := by omega
    have hw : IntKind.i64.wrap ((L : Int) - 1) = (k : Int) := by rw [IntWalk.i64_in _ (by omega)]; omega
    have HO := Lib.hid own2
    have HP := Lib.hid hpop
    have HL := Lib.hid hL
    have HDL := Lib.hid hdl
    rw [hL]
    clear own hpos hle hcell hk hx hpop hL hdl hLk own2
    go_upto_if 22 with fail
    go_cut [6] (fun v wx => ∃ cA, v = .slice (some ⟨g, 0, none⟩) (scLines t).length cA ∧ OwnW wx w1.heap.size v (scLines t) ∧ Below w2.heap.size w2 wx)
    case first =>
      have HY := Lib.hid (fun (q : x.toList.isEmpty = true) => HLS.out.1 ((str_is2 x ⟨#[]⟩ [] rfl).1 (by rw [List.isEmpty_iff.1 q]; rfl)))
      have HZ := Lib.hid (fun (q : x.toList.isEmpty = false) => HLS.out.2 (fun h => by rw [beq_iff_eq.1 ((str_is2 x ⟨#[]⟩ [] rfl).2 h)] at q; cases q))
      go_wp2_with fail
      all_goals
        rename_i hq
        go_meet
        first
          | (have HQ := HY.out hq; exact ⟨cL, by rw [HQ, HDL.out], by rw [HQ]; exact HP.out, (by repeat (first | exact Below.refl _ _ | (refine Below.alloc ?_ (by first | omega | (simp; done) | (simp; omega)) _) | (refine Below.setCell ?_ (by first | exact Nat.le_refl _ | (show _ ≤ _; omega) | (simp; done) | (simp; omega)) _) | refine below_drewN ?_ _ | refine Below.drew ?_))⟩)
          | (have HQ := HZ.out hq; exact ⟨cL, by rw [HQ, HL.out], by rw [HQ]; exact HO.out, (by repeat (first | exact Below.refl _ _ | (refine Below.alloc ?_ (by first | omega | (simp; done) | (simp; omega)) _) | (refine Below.setCell ?_ (by first | exact Nat.le_refl _ | (show _ ≤ _; omega) | (simp; done) | (simp; omega)) _) | refine below_drewN ?_ _ | refine Below.drew ?_))⟩)
    case rest =>
      obtain ⟨cA, rfl, ownA, hbA⟩ := hcut
      have KB3 := Lib.hid (Below.tr KB2.out hbA)
      have KP3 := Lib.hid (KP2.out.up hbA)
      have HOA := Lib.hid ownA
      clear hbA ownA HO HP HL HDL HLS hcx hgl hkc hkL hw KP2 KB2 hcap
      revert KB3 KP3 HOA
      generalize wc = w3
      intro KB3 KP3 HOA
      obtain ⟨ls, hls⟩ : ∃ ls, scLines t = ls := ⟨_, rfl⟩
      have HSZ := Lib.hid (fun x (hx : x ∈ ls) => Nat.le_trans (scLines_size (t := t) (by rw [hls]; exact hx)) ht)
      by_cases h20 : t.size ≤ 20000
      · have h20I : ¬ (20000 : Int) < (t.size : Int) := by omega
        by_cases h12 : ls.length ≤ 120
        · have h12I : ¬ (120 : Int) < (ls.length : Int) := by omega
          have HQ := Lib.hid (sc_yes HGG.out ⟨h20, by rw [hls]; exact h12⟩)
          rw [hls] at HOA HQ ⊢
          clear hls
          have cP3 := Blk.cell (i := 0) (v := .slice A xs.length c) KP3.out rfl
          have lP3 := Blk.lt KP3.out
          go_wp2_with fail
          refine (l02Own_any w.heap.size 0 _ xs _ cP3 lP3 (HG.out.up KB3.out) (by omega)).mono ?_
          rintro e w4 ⟨vN, rfl, ownN, hb4⟩
          have KB4 := Lib.hid (Below.tr KB3.out hb4)
          have HL4 := Lib.hid (ownsRow_below HOA.out hb4)
          have hz4 := KB4.out.size
          have hz3 := KB3.out.size
          clear hb4 cP3 lP3 KP3 HOA
          obtain ⟨AN, cN, rfl, _⟩ := own_nil ownN
          have HN := Lib.hid (ownsRow_more ownN hz3)
          clear ownN
          go_upto_region 9 with fail
          have bA := ((Below.refl w4.heap.size w4).alloc (Nat.le_refl _) (Obj.cells #[.slice AN xs.length cN] 30)).alloc (by simp) (Obj.cells #[.slice (some ⟨w4.heap.size, 0, none⟩) 1 1, .int .i64 0] 82)
          have KS1 : Blk ((w4.alloc (Obj.cells #[.slice AN xs.length cN] 30)).alloc (Obj.cells #[.slice (some ⟨w4.heap.size, 0, none⟩) 1 1, .int .i64 0] 82)) (w4.heap.size + 1) #[.slice (some ⟨w4.heap.size, 0, none⟩) 1 1, .int .i64 0] 82 := by
            have := Blk.new (w4.alloc (Obj.cells #[.slice AN xs.length cN] 30)) #[.slice (some ⟨w4.heap.size, 0, none⟩) 1 1, .int .i64 0] 82
            simpa using this
          have og := OGp.one (W := w4) (lo := w.heap.size) rfl hz4 (u := .slice AN xs.length cN) (x := xs) (.inr HN.out)
          have og2 := og.up (w' := ((w4.alloc (Obj.cells #[.slice AN xs.length cN] 30)).alloc (Obj.cells #[.slice (some ⟨w4.heap.size, 0, none⟩) 1 1, .int .i64 0] 82))) (by repeat (first | exact Below.refl _ _ | (refine Below.alloc ?_ (by first | omega | (simp; done) | (simp; omega)) _) | (refine Below.setCell ?_ (by first | exact Nat.le_refl _ | (show _ ≤ _; omega) | (simp; done) | (simp; omega)) _) | refine below_drewN ?_ _ | refine Below.drew ?_)) (by simp; omega)
          have J0 := Lib.hid (show Ses 82 _ w.heap.size (w4.heap.size + 1) ⟨[xs], 0⟩ from Ses.of (g := w4.heap.size) (c := 1) (by decide) KS1 (by omega) og2)
          have L0 := Lib.hid (show OwnW _ w1.heap.size (.slice (some ⟨g, 0, none⟩) ls.length cA) ls from ownsRow_below HL4.out bA)
          have H0 := Lib.hid (Below.tr KB4.out bA)
          clear bA KS1 og og2 HL4 KB4 KB3 HN
          revert J0 L0 H0
          generalize (w4.alloc (Obj.cells #[.slice AN xs.length cN] 30)).alloc (Obj.cells #[.slice (some ⟨w4.heap.size, 0, none⟩) 1 1, .int .i64 0] 82) = w5
          generalize w4.heap.size + 1 = P
          intro J0 L0 H0
          go_wp2_with fail
          go_loopw [8, 9] (fun o i wx => ∃ k : Nat, k ≤ ls.length ∧ o = .string ⟨(scRun xs (ls.take k)).1.toArray⟩ ∧ i = .int .i64 k ∧ Hid (Ses 82 wx w.heap.size P (scRun xs (ls.take k)).2) ∧ Hid (OwnW wx w1.heap.size (.slice (some ⟨g, 0, none⟩) ls.length cA) ls) ∧ Hid (Below w.heap.size w wx)) (fun _ i _ => ls.length - (intOf i).toNat)
          case atStart => exact ⟨0, Nat.zero_le _, rfl, rfl, J0, L0, H0⟩
          case round =>
            obtain ⟨k, hk, rfl, rfl, HJ, HL, HW⟩ := hrel
            by_cases hlt : k < ls.length
            · obtain ⟨g', cap, hv, _, hgl, _, hcell⟩ := own_form HL.out (by omega)
              injection hv with hv1 hv2 hv3
              injection hv1 with hv1
              injection hv1 with hv1
              subst hv1 hv3
              obtain ⟨y, hy⟩ : ∃ y, ls[k]? = some y := ⟨_, List.getElem?_eq_getElem hlt⟩
              have hcy : wr.cell? ⟨g, k, none⟩ = some (.string y) := hcell k _ (by rw [List.getElem?_map, hy]; rfl)
              have hys := HSZ.out y (List.mem_of_getElem? hy)
              have hrs := scRun_snoc (x := xs) hy
              have hlen := scRun_len HGG.out ls k
              have hok := scRun_ok HGG.out ls k
              have hasz := scAns_size hok y
              obtain ⟨l0, hl0⟩ : ∃ l0, (scRun xs (ls.take k)).1 = l0 := ⟨_, rfl⟩
              obtain ⟨s0, hs0⟩ : ∃ s0, (scRun xs (ls.take k)).2 = s0 := ⟨_, rfl⟩
              have hrs1 : (scRun xs (ls.take (k + 1))).1 = l0 ++ ((scAns s0 y).1.data.toList ++ [10]) := by rw [hrs, ← hl0, ← hs0]; rfl
              have hrs2 : (scRun xs (ls.take (k + 1))).2 = (scAns s0 y).2 := by rw [hrs, ← hs0]; rfl
              rw [hl0] at hlen ⊢
              rw [hs0] at HJ hok hasz
              have HRS := Lib.hid (And.intro hrs1 hrs2)
              have HOK := Lib.hid hok
              have hki : (k : Int) < (ls.length : Int) := by omega
              have hl2 : l0.length ≤ 240120 := by omega
              have hl3 : (⟨l0.toArray⟩ : ByteArray).size = l0.length := arr_size l0
              obtain ⟨o0, ho0⟩ : ∃ o0 : ByteArray, (⟨l0.toArray⟩ : ByteArray) = o0 := ⟨_, rfl⟩
              rw [ho0] at hl3 ⊢
              have HOO := Lib.hid ho0
              have ho3 : o0.size ≤ 240120 := by omega
              clear hrs hrs1 hrs2 hl0 hs0 hok hy hcell hlen hv2 hl3 hl2 ho0
              go_wp2_with fail
              refine (specRead_any y _ hys).mono ?_
              rintro e w6 ⟨hb6, vE, ownE, rfl⟩
              have HJ6 := Lib.hid (HJ.out.up hb6)
              have HL6 := Lib.hid (ownsRow_below HL.out hb6)
              have HW6 := Lib.hid (Below.tr HW.out hb6)
              have hgl6 : g < w6.heap.size := Nat.lt_of_lt_of_le hgl hb6.size
              have hcy6 := (hb6.cell (p := ⟨g, k, none⟩) hgl).trans hcy
              clear hb6 HJ HL HW hcy
              obtain ⟨AE, cE, rfl, _⟩ := own_nil ownE
              obtain ⟨e, he⟩ : ∃ e, rdOut y = e := ⟨_, rfl⟩
              have HE := Lib.hid he
              rw [he] at ownE ⊢
              clear he
              go_upto_region 14 with fail
              have bE := (Below.refl w6.heap.size w6).alloc (Nat.le_refl _) (Obj.cells #[.int .i64 e.kind, .int .i64 e.i, .int .i64 e.j, .int .i64 e.k, .slice AE e.part.length cE, .string e.map] 46)
              have HJ7 := Lib.hid (HJ6.out.up bE)
              have HL7 := Lib.hid (show OwnW _ w1.heap.size (.slice (some ⟨g, 0, none⟩) ls.length cA) ls from ownsRow_below HL6.out bE)
              have HW7 := Lib.hid (Below.tr HW6.out bE)
              have hcy7 := (bE.cell (p := ⟨g, k, none⟩) hgl6).trans hcy6
              have KE7 := Lib.hid (EC.of (Blk.new w6 (editCells e (.slice AE e.part.length cE)) 46))
              have SE7 := Lib.hid ((OwnRules.sl ownE).up bE)
              clear bE HJ6 HL6 HW6 hcy6 ownE
              revert HJ7 HL7 HW7 hcy7 KE7 SE7
              show _ → _ → _ → _ → Hid (EC (w6.alloc (Obj.cells #[.int .i64 e.kind, .int .i64 e.i, .int .i64 e.j, .int .i64 e.k, .slice AE e.part.length cE, .string e.map] 46)) _ _ _ _) → _
              generalize (w6.alloc (Obj.cells #[.int .i64 e.kind, .int .i64 e.i, .int .i64 e.j, .int .i64 e.k, .slice AE e.part.length cE, .string e.map] 46)) = w7
              generalize w6.heap.size = E
              intro HJ7 HL7 HW7 hcy7 KE7 SE7
              by_cases hcd : rdCode y = 0
              · have hk := rd_okE2 hcd
                have hA : scAns s0 y = scEdit s0 e := by unfold scAns; rw [if_pos hcd, HE.out]
                rw [HE.out] at hk
                rw [hA] at HRS hasz
                have HKE := Lib.hid hk
                rw [hcd]
                clear hk hcd hA hgl hgl6
                go_wp2_with fail
                refine (specEdit_any w.heap.size P E s0 e _ _ HJ7.out HOK.out KE7.out SE7.out HKE.out).mono ?_
                rintro r w8 ⟨rfl, hs8, hb8, hk8, hz8⟩
                have HS8 := Lib.hid hs8
                have HL8 := Lib.hid (show OwnW w8 w1.heap.size (.slice (some ⟨g, 0, none⟩) ls.length cA) ls from TK.row HL7.out hk8 (by unfold SK; decide))
                have HW8 := Lib.hid (HW7.out.trans hb8)
                clear hs8 hb8 hk8 HJ7 HL7 HW7 hcy7 KE7 SE7
                obtain ⟨r, hr⟩ : ∃ r, (scEdit s0 e).1 = r := ⟨_, rfl⟩
                rw [hr] at hasz ⊢
                have hrz : (r ++ (⟨#[10]⟩ : ByteArray)).size ≤ 2001 := by
                  rw [ByteArray.size_append]
                  have : (⟨#[10]⟩ : ByteArray).size = 1 := rfl
                  omega
                go_wp2_with fail
                refine ⟨⟨k + 1, by omega, ?_, by go_num, by rw [HRS.out.2]; exact HS8, HL8, HW8⟩, by simp [intOf]; omega⟩
                rw [HRS.out.1, hr, ← HOO.out, ← out_app]
              · have hA : scAns s0 y = scRest s0 y := by unfold scAns; rw [if_neg hcd]
                rw [hA] at HRS hasz
                have hcb : (rdCode y == 0) = false := by simp [hcd]
                clear hcd hA hgl hgl6
                go_wp2_with fail
                refine (specAnswer_any w.heap.size P s0 y _ HJ7.out HOK.out hys).mono ?_
                rintro r w8 ⟨rfl, hs8, hb8, hk8, hz8⟩
                have HS8 := Lib.hid hs8
                have HL8 := Lib.hid (show OwnW w8 w1.heap.size (.slice (some ⟨g, 0, none⟩) ls.length cA) ls from TK.row HL7.out hk8 (by unfold SK; decide))
                have HW8 := Lib.hid (HW7.out.trans hb8)
                clear hs8 hb8 hk8 HJ7 HL7 HW7 hcy7 KE7 SE7
                obtain ⟨r, hr⟩ : ∃ r, (scRest s0 y).1 = r := ⟨_, rfl⟩
                rw [hr] at hasz ⊢
                have hrz : (r ++ (⟨#[10]⟩ : ByteArray)).size ≤ 2001 := by
                  rw [ByteArray.size_append]
                  have : (⟨#[10]⟩ : ByteArray).size = 1 := rfl
                  omega
                go_wp2_with fail
                refine ⟨⟨k + 1, by omega, ?_, by go_num, by rw [HRS.out.2]; exact HS8, HL8, HW8⟩, by simp [intOf]; omega⟩
                rw [HRS.out.1, hr, ← HOO.out, ← out_app]
            · have hkn : k = ls.length := by omega
              subst hkn
              clear HJ HL
              rw [List.take_length]
              go_wp2_with fail
              refine bodyPost_ret (v := .tuple #[.string ⟨((scRun xs ls).1).toArray⟩, .int .i64 0]) (by simp [results, Tryz.results9, go_sem]) rfl ⟨by rw [HQ.out.1, HQ.out.2], HW.out⟩
        · have h12I : (120 : Int) < (ls.length : Int) := by omega
          have HQ := Lib.hid (sc_far HGG.out (fun q => h12 (by rw [← hls]; exact q.2)))
          rw [hls]
          clear h12 hls
          go_wp2_with fail
          refine bodyPost_ret (v := .tuple #[.string ⟨#[]⟩, .int .i64 2]) (by simp [results, Tryz.results9, go_sem]) rfl ⟨by rw [HQ.out.1, HQ.out.2], KB3.out⟩
      · have h20I : (20000 : Int) < (t.size : Int) := by omega
        have HQ := Lib.hid (sc_far HGG.out (fun q => h20 q.1))
        clear h20
        go_wp2_with fail
        refine bodyPost_ret (v := .tuple #[.string ⟨#[]⟩, .int .i64 2]) (by simp [results, Tryz.results9, go_sem]) rfl ⟨by rw [HQ.out.1, HQ.out.2], KB3.out⟩
def EditE : Enc GEdit where
  size := 6
  pos := by decide
  cells := fun w S e cs => ∃ vR, cs = [.int .i64 e.kind, .int .i64 e.i, .int .i64 e.j, .int .i64 e.k, vR, .string e.map] ∧ SlS RuleE w S vR e.part
  len := by rintro _ _ _ _ ⟨vR, rfl, _⟩; rfl
  keep := by rintro _ _ _ _ _ ⟨vR, rfl, h⟩ hb; exact ⟨vR, rfl, h.keep hb⟩
  more := by rintro _ _ _ _ _ ⟨vR, rfl, h⟩ hb; exact ⟨vR, rfl, h.more hb⟩
  one := by rintro _ _ _ _ ⟨vR, rfl, A, c, rfl, _⟩; simp [Value.oneCell']
theorem Row.edit {w : World} {S : Nat → Prop} {A : Option Addr} {l : List GEdit} (h : Row EditE w S A l) (hS : ∀ b, S b → b < w.heap.size) {k : Nat} (hk : k < l.length) :
    ∃ b o, A = some ⟨b, o, none⟩ ∧ S b ∧ ∀ i e, l[i]? = some e → ∃ vR, EC w b (o + i * 6) e vR ∧ SlS RuleE w S vR e.part := by
  obtain ⟨b, o, rfl, hlt, hc⟩ := h (by omega)
  refine ⟨b, o, rfl, hlt, fun i e hi => ?_⟩
  obtain ⟨cs, ⟨vR, rfl, h1⟩, h2⟩ := hc i e hi
  exact ⟨vR, ⟨by simpa [EditE] using h2 0 _ rfl, by simpa [EditE, Nat.add_assoc] using h2 1 _ rfl, by simpa [EditE, Nat.add_assoc] using h2 2 _ rfl, by simpa [EditE, Nat.add_assoc] using h2 3 _ rfl, by simpa [EditE, Nat.add_assoc] using h2 4 _ rfl, by simpa [EditE, Nat.add_assoc] using h2 5 _ rfl, hS b hlt⟩, h1⟩
end Go.Proofs.YtbifijlenbibmaaGreatDoor
namespace Go.Proofs
theorem Tryz.infoEd : (Tryz.prog.info? 46).map (fun i => (i.zero, i.size, i.bytes)) = some (some (.agg #[.int .i64 0, .int .i64 0, .int .i64 0, .int .i64 0, .slice none 0 0, .string ⟨#[]⟩]), 6, 72) := by kernel_rfl
end Go.Proofs
namespace Go.Proofs.YtbifijlenbibmaaGreatDoor
open Go.RowKit
def epCells (p : GEdit × Value) : List Value := [.int .i64 p.1.kind, .int .i64 p.1.i, .int .i64 p.1.j, .int .i64 p.1.k, p.2, .string p.1.map]
theorem ep_at (ps : List (GEdit × Value)) (k : Nat) (p : GEdit × Value) (h : ps[k]? = some p) (j : Nat) (hj : j < 6) : (ps.flatMap epCells)[k * 6 + j]? = (epCells p)[j]? := by
  induction ps generalizing k with
  | nil => simp at h
  | cons x xs ih =>
    cases k with
    | zero =>
      simp at h; subst h
      rw [List.flatMap_cons, List.getElem?_append_left (by simp [epCells]; omega), Nat.zero_mul, Nat.zero_add]
    | succ k =>
      have := ih k (by simpa using h)
      rw [List.flatMap_cons, List.getElem?_append_right (by simp [epCells]; omega)]
      rw [show (k + 1) * 6 + j - (epCells x).length = k * 6 + j by simp [epCells]; omega]
      exact this
section
variable {w w' : World} {lo hi : Nat} {v : Value} {es : List GEdit}
theorem ps_at {ps : List (GEdit × Value)} {i : Nat} {e : GEdit} (h : (ps.map Prod.fst)[i]? = some e) : ∃ u, ps[i]? = some (e, u) := by
  rw [List.getElem?_map] at h
  obtain ⟨p, h1, h2⟩ := Option.map_eq_some_iff.1 h
  exact ⟨p.2, by rw [h1, ← h2]⟩
end
def zE : GEdit := ⟨0, 0, 0, 0, [], ⟨#[]⟩⟩
theorem EC.at_ {w : World} {E : Nat} {e : GEdit} {vR : Value} (h : EC w E 0 e vR) (hR : Sl RuleE w w.heap.size vR e.part) : EditAt w w.heap.size E e vR :=
  ⟨⟨h.c0, by simpa using h.c1, by simpa using h.c2, by simpa using h.c3, by simpa using h.c4, by simpa using h.c5⟩, h.lt, hR⟩
set_option maxRecDepth 100000 in
set_option maxHeartbeats 1000000 in
theorem IndexEds_any (v : Value) (xs : List GEdit) (F : FuncId) (cap : Array Value) (p : GEdit → Bool) (w : World) (h : Sl EditE w w.heap.size v xs)
    (eg : ∀ args w, (callFunc F args).run Tryz.prog w = .ok (.enter F args) w) (hf : ∀ (W : World) x vR, Below w.heap.size w W → x ∈ xs → Sl RuleE W W.heap.size vR x.part → Calls Tryz.prog F (#[.agg #[.int .i64 x.kind, .int .i64 x.i, .int .i64 x.j, .int .i64 x.k, vR, .string x.map]] ++ cap) W fun e w' => e = .returned (.bool (p x)) ∧ Below W.heap.size W w') :
    Calls Tryz.prog 198 #[v, .func (.func F) #[] cap] w fun e w' => e = .returned (.int .i64 (idxOf p xs)) ∧ Below w.heap.size w w' := by
  obtain ⟨A, c, rfl, hc, hm, hrow⟩ := h
  unfold maxLen at hm
  have Hf := Lib.hid hf
  clear hf
  go_enter Tryz.func198, Tryz.ntmps198
  go_wp2_with fail
  go_loopw [8] (fun i wr => ∃ k : Nat, k ≤ xs.length ∧ i = .int .i64 k ∧ Below w.heap.size w wr ∧ ∀ (j : Nat) y, j < k → xs[j]? = some y → p y = false) (fun i _ => xs.length - (intOf i).toNat)
  case atStart => exact ⟨0, Nat.zero_le _, rfl, Below.refl _ _, fun j y hj => absurd hj (by omega)⟩
  case round =>
    obtain ⟨k, hk, rfl, hb, hno⟩ := hrel
    have Hno := Lib.hid hno
    clear hno
    by_cases hlt : k < xs.length
    · obtain ⟨b, o, rfl, hbl, hcell⟩ := hrow.edit (fun _ h => h) hlt
      obtain ⟨x, hx⟩ : ∃ x, xs[k]? = some x := ⟨_, List.getElem?_eq_getElem hlt⟩
      obtain ⟨vR, hec, hR⟩ := hcell k x hx
      have hec2 := hec.up hb
      have HR2 := Lib.hid (hR.up hb)
      obtain ⟨c0, c1, c2, c3, c4, c5, cl⟩ := hec2
      have hi : (k : Int) < (xs.length : Int) := by omega
      have Hx := Lib.hid hx
      clear hcell hx hec hR
      go_wp2_with fail
      refine (Hf.out _ x _ hb (List.mem_of_getElem? Hx.out) HR2.out).mono ?_
      rintro e w2 ⟨rfl, hb2⟩
      by_cases hp : p x = true
      · have Hp := Lib.hid hp
        go_wp2
        go_ret
        exact ⟨ret_int (by rw [idxOf_some Hno.out Hx.out Hp.out]), hb.trans (hb2.mono hb.size)⟩
      · have hp2 : p x = false := by simpa using hp
        have Hp := Lib.hid hp2
        clear hp
        go_wp2
        go_roundw
        case rel =>
          refine ⟨k + 1, by omega, by go_num, hb.trans (hb2.mono hb.size), fun j y hj hy => ?_⟩
          by_cases e : j = k
          · subst e
            have := Hx.out
            rw [hy] at this
            injection this with this
            rw [this]; exact Hp.out
          · exact Hno.out j y (by omega) hy
        case measure => simp [intOf]; omega
    · go_wp2
      go_ret
      exact ⟨ret_int (by
        rw [idxOf_none]
        intro x hx
        obtain ⟨j, hj, rfl⟩ := List.getElem_of_mem hx
        exact Hno.out j _ (by omega) (List.getElem?_eq_getElem hj)), hb⟩
theorem ContainsEds_any (v : Value) (xs : List GEdit) (F : FuncId) (cap : Array Value) (p : GEdit → Bool) (w : World) (h : Sl EditE w w.heap.size v xs)
    (eg : ∀ args w, (callFunc F args).run Tryz.prog w = .ok (.enter F args) w) (hf : ∀ (W : World) x vR, Below w.heap.size w W → x ∈ xs → Sl RuleE W W.heap.size vR x.part → Calls Tryz.prog F (#[.agg #[.int .i64 x.kind, .int .i64 x.i, .int .i64 x.j, .int .i64 x.k, vR, .string x.map]] ++ cap) W fun e w' => e = .returned (.bool (p x)) ∧ Below W.heap.size W w') :
    Calls Tryz.prog 130 #[v, .func (.func F) #[] cap] w fun e w' => e = .returned (.bool (xs.any p)) ∧ Below w.heap.size w w' := by
  have H := Lib.hid (IndexEds_any v xs F cap p w h eg hf)
  clear hf eg
  obtain ⟨A, c, rfl, _⟩ := h
  go_enter Tryz.func130, Tryz.ntmps130
  go_wp2_with fail
  refine H.out.mono ?_
  rintro e w2 ⟨rfl, hb2⟩
  go_wp2
  go_ret
  exact ⟨ret_bool (idxOf_any p xs), hb2⟩
set_option maxRecDepth 100000 in
theorem badEdit_any (e : GEdit) (vR : Value) (w : World) (hR : Sl RuleE w w.heap.size vR e.part) (hn : e.part.length ≤ 1048576) (hm : e.map.size ≤ maxLen) : Calls Tryz.prog 131 #[.agg #[.int .i64 e.kind, .int .i64 e.i, .int .i64 e.j, .int .i64 e.k, vR, .string e.map]] w fun r w' => r = .returned (.bool (!editOk e)) ∧ Below w.heap.size w w' := by
  have HR := Lib.hid hR
  obtain ⟨AR, cR, rfl, _⟩ := hR
  go_enter Tryz.func131, Tryz.ntmps131
  go_wp2_with fail
  refine (implValidEdit_any _ e _ ⟨_, rfl, HR.out.up (by repeat (first | exact Below.refl _ _ | (refine Below.alloc ?_ (by first | omega | (simp; done) | (simp; omega)) _) | (refine Below.setCell ?_ (by first | exact Nat.le_refl _ | (show _ ≤ _; omega) | (simp; done) | (simp; omega)) _) | refine below_drewN ?_ _ | refine Below.drew ?_))⟩ (by omega) hm).mono ?_
  rintro r w1 ⟨rfl, hb1⟩
  go_wp2
  go_ret
  exact ⟨rfl, (Below.unalloc hb1).1⟩
theorem not_any_bad (l : List GEdit) : (!l.any fun e => !editOk e) = l.all editOk := by
  induction l with
  | nil => rfl
  | cons x xs ih => simp only [List.any_cons, List.all_cons, Bool.not_or, Bool.not_not, ih]
set_option maxRecDepth 100000 in
theorem areEdits_any (v : Value) (es : List GEdit) (w : World) (h : Sl EditE w w.heap.size v es) (hs : ∀ e ∈ es, e.part.length ≤ 1048576 ∧ e.map.size ≤ maxLen) :
    Calls Tryz.prog 63 #[v] w fun r w' => r = .returned (.bool (es.all editOk)) ∧ Below w.heap.size w w' := by
  have H := Lib.hid (ContainsEds_any v es 131 #[] (fun e => !editOk e) w h (enters_of Tryz.func131 (by kernel_rfl) rfl) (fun W x vR _ hx hR => badEdit_any x vR W hR (hs x hx).1 (hs x hx).2))
  obtain ⟨A, c, rfl, _⟩ := h
  go_enter Tryz.func63, Tryz.ntmps63
  go_wp2_with fail
  refine H.out.mono ?_
  rintro r w1 ⟨rfl, hb1⟩
  go_wp2
  go_ret
  refine ⟨ret_bool ?_, hb1⟩
  exact not_any_bad es
def stepE (p : List GRule × Int) (e : GEdit) : List GRule × Int := if applyCode p.1 e = 0 then (applyOut p.1 e, p.2 + 1) else p
def foldE (xs : List GRule) (es : List GEdit) : List GRule × Int := es.foldl stepE (xs, 0)
def aesCode (xs : List GRule) (es : List GEdit) : Int := if gramOk xs && es.all editOk then (if 60 < es.length then 2 else 0) else 1
def aesOut (xs : List GRule) (es : List GEdit) : List GRule := if aesCode xs es = 0 then (foldE xs es).1 else []
def aesN (xs : List GRule) (es : List GEdit) : Int := if aesCode xs es = 0 then (foldE xs es).2 else 0
theorem stepE_ok {p : List GRule × Int} {e : GEdit} (h : gramOk p.1 = true) : gramOk (stepE p e).1 = true := by
  unfold stepE
  split
  · exact applyOut_ok _ _
  · exact h
theorem foldE_take {xs : List GRule} {es : List GEdit} {k : Nat} {e : GEdit} (h : es[k]? = some e) : foldE xs (es.take (k + 1)) = stepE (foldE xs (es.take k)) e := by
  unfold foldE
  rw [List.take_add_one, h]; simp
theorem foldE_ok {xs : List GRule} (es : List GEdit) (h : gramOk xs = true) : gramOk (foldE xs es).1 = true := by
  unfold foldE
  suffices H : ∀ (l : List GEdit) (p : List GRule × Int), gramOk p.1 = true → gramOk (l.foldl stepE p).1 = true from H es _ h
  intro l
  induction l with
  | nil => intro p h; exact h
  | cons x xs ih => intro p h; exact ih _ (stepE_ok h)
theorem foldE_num (xs : List GRule) (es : List GEdit) : 0 ≤ (foldE xs es).2 ∧ (foldE xs es).2 ≤ es.length := by
  unfold foldE
  suffices H : ∀ (l : List GEdit) (p : List GRule × Int), p.2 ≤ (l.foldl stepE p).2 ∧ (l.foldl stepE p).2 ≤ p.2 + l.length by simpa using H es (xs, 0)
  intro l
  induction l with
  | nil => intro p; simp
  | cons x xs ih =>
    intro p
    have h1 := ih (stepE p x)
    have h2 : p.2 ≤ (stepE p x).2 ∧ (stepE p x).2 ≤ p.2 + 1 := by unfold stepE; split <;> simp <;> omega
    rw [List.foldl_cons, List.length_cons]
    omega
def ARes (out : List GRule) (n c : Int) (w : World) (r : Ending) (w' : World) : Prop :=
  Below w.heap.size w w' ∧ ∃ v, OwnRules w' w.heap.size v out ∧ r = .returned (.tuple #[.agg #[v], .int .i64 n, .int .i64 c])
end Go.Proofs.YtbifijlenbibmaaGreatDoor
