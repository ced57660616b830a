import Derived.Test.YtbifijlenbibmaaGreatDoorM12
namespace Go.Proofs.YtbifijlenbibmaaGreatDoor
open Go.RowKit

set_option maxRecDepth 100000 in
theorem topGr2_any (g c k L : Nat) (A : Option Addr) (n m : Nat) (w : World) (hL : L = k + 1) (h : w.cell? ⟨g, k, none⟩ = some (.slice A n m)) (hlt : g < w.heap.size) (hk : k ≤ 1048576) :
    Calls Tryz.prog 65 #[.slice (some ⟨g, 0, none⟩) L c] w fun e w' => e = .returned (.agg #[.slice A n m]) ∧ Below w.heap.size w w' := by
  have hw : IntKind.i64.wrap ((L : Int) - 1) = (k : Int) := by rw [IntWalk.i64_in _ (by omega)]; omega
  have hi : (k : Int) < (L : Int) := by omega
  clear hL
  go_enter Tryz.func65, Tryz.ntmps65
  go_wp2_with fail
  exact bodyPost_ret (v := .agg #[.slice A n m]) (by simp [results, Tryz.results65, go_sem]) rfl ⟨rfl, (by repeat (first | exact Below.refl _ _ | (refine Below.alloc ?_ (by first | omega | (simp; done) | (simp; omega)) _) | (refine Below.setCell ?_ (by first | exact Nat.le_refl _ | (show _ ≤ _; omega) | (simp; done) | (simp; omega)) _) | refine below_drewN ?_ _ | refine Below.drew ?_))⟩
theorem rd_okE {t : ByteArray} (h : rdCode t = 0) : editOk (rdOut t) = true := by
  cases hq : rdSpec t with
  | none => rw [(rd_none hq).2] at h; cases h
  | some e =>
    rw [(rd_some hq).1]
    unfold rdSpec rdK at hq
    split at hq
    · cases hq
    · split at hq
      · cases hq
      · split at hq
        · cases hq
        · split at hq
          · rename_i hok
            cases hq
            exact hok
          · cases hq
theorem str_is (t b : ByteArray) (l : List UInt8) (h : b.data.toList = l) : (t.toList == l) = true ↔ t = b := by
  rw [beq_iff_eq, ByteArray.toList_eq]
  constructor
  · intro e; apply ByteArray.ext; apply Array.toList_inj.1; rw [e, h]
  · rintro rfl; exact h
theorem scAns_edit {s : ScS} {t : ByteArray} (h : rdCode t = 0) : scAns s t = scEdit s (rdOut t) := by unfold scAns; rw [if_pos h]
theorem scAns_rest {s : ScS} {t : ByteArray} (h : rdCode t ≠ 0) : scAns s t = scRest s t := by unfold scAns; rw [if_neg h]
set_option maxRecDepth 100000 in
set_option maxHeartbeats 8000000 in
/-- A session's answer to a line. -/
theorem implAnswer_any (lo P : Nat) (s : ScS) (t : ByteArray) (w : World) (hS : Ses 91 w lo P s) (hok : ScOk s) (ht : t.size ≤ 1048576) (hv : RdVars w) (htab : Lib.TabIs Tryz.prog w "math/bits.deBruijn64tab" .u8 deB64) :
    Calls Tryz.prog 53 #[.pointer (some ⟨P, 0, none⟩), .string t] w (AnsPost 91 lo P (scAns s t) w) := by
  obtain ⟨g, c, KP, hP, hg1, hg2, hgP, hc, hgc, HO⟩ := hS
  have hlen : s.gs.length ≤ 61 := by have := hok.len; have := hok.most; omega
  have hpos := hok.pos
  have hn60 := hok.most
  obtain ⟨x, hx⟩ : ∃ x, rsTop s.gs = x := ⟨_, rfl⟩
  have hxo : gramOk x = true := by rw [← hx]; exact hok.top
  have hxi : s.gs[s.gs.length - 1]? = some x := by
    rw [← hx]; unfold rsTop
    rw [List.getD_eq_getElem?_getD, List.getElem?_eq_getElem (by omega)]; rfl
  obtain ⟨g', c', u, hv', _, _, _, _, hcu, hgu⟩ := HO.at_ hxi
  injection hv' with hv1 hv2 hv3
  injection hv1 with hv1
  injection hv1 with hv1
  subst hv1 hv3
  have hwl : lo ≤ w.heap.size := by omega
  have hsl := hgu.sl hwl
  obtain ⟨_, A, cx, rfl⟩ := hgu.one
  have HX := Lib.hid hx
  have HXO := Lib.hid hxo
  have HOK := Lib.hid hok
  have HV := Lib.hid hv
  have HT := Lib.hid htab
  have HSL := Lib.hid hsl
  have HOG := Lib.hid HO
  have HKP := Lib.hid KP
  have hL1 : s.gs.length = (s.gs.length - 1) + 1 := by omega
  have cp0 := Blk.cell (i := 0) (v := .slice (some ⟨g, 0, none⟩) s.gs.length c) KP rfl
  have lp := Blk.lt KP
  have HTOP := Lib.hid (fun (W : World) (hW : Below w.heap.size w W) => topGr2_any g c (s.gs.length - 1) s.gs.length A x.length cx W hL1 ((hW.cell (p := ⟨g, s.gs.length - 1, none⟩) hg2).trans hcu) (Nat.lt_of_lt_of_le hg2 hW.size) (by omega))
  clear hx hxo hok hv htab hsl HO hgu hxi hcu hL1
  go_enter Tryz.func53, Tryz.ntmps53
  go_wp2_with fail
  refine (HTOP.out _ (by repeat (first | exact Below.refl _ _ | (refine Below.alloc ?_ (by first | omega | (simp; done) | (simp; omega)) _) | (refine Below.setCell ?_ (by first | exact Nat.le_refl _ | (show _ ≤ _; omega) | (simp; done) | (simp; omega)) _) | refine below_drewN ?_ _ | refine Below.drew ?_))).mono ?_
  rintro e w1 ⟨rfl, hb1⟩
  clear HTOP
  have bD := (Below.refl w1.heap.size w1).alloc (Nat.le_refl _) (Obj.cells #[.slice A x.length cx] 30)
  have J : AnsSt 91 w (w1.alloc (Obj.cells #[.slice A x.length cx] 30)) lo P g c s w1.heap.size A cx x :=
    ⟨Below.tr hb1 bD, (HKP.out.up hb1).up bD, (HOG.out.up hb1 hwl).up bD (Nat.le_trans hwl hb1.size), Blk.new _ _ _, (HSL.out.up hb1).up bD, hwl⟩
  clear bD hb1 HKP HOG HSL cp0 lp KP
  go_upto_region 2 with fail
  revert J
  generalize (w1.alloc (Obj.cells #[.slice A x.length cx] 30)) = w2
  generalize w1.heap.size = D
  intro J
  have HJ := Lib.hid J
  clear J
  go_wp2_with fail
  refine (implRead_any t _ ht (HV.out.up HJ.out.bel)).mono ?_
  rintro e w3 ⟨hb3, vE, ownE, rfl⟩
  have HJ3 := Lib.hid (HJ.out.up hb3)
  clear hb3 HJ
  by_cases hcd : rdCode t = 0
  · have HQ := Lib.hid (scAns_edit (s := s) hcd)
    have heok := rd_okE hcd
    rw [hcd]
    obtain ⟨e, he⟩ : ∃ e, rdOut t = e := ⟨_, rfl⟩
    rw [he] at HQ heok ownE ⊢
    have hnum := editOk_nums heok
    have hpl := (gram_lens hnum.2.2.2.2.1).1
    have hml := hnum.2.2.2.2.2
    clear hnum hcd he heok
    obtain ⟨AE, cE, rfl, _⟩ := own_nil ownE
    go_upto_region 4 with fail
    have bE := (Below.refl w3.heap.size w3).alloc (Nat.le_refl _) (Obj.cells #[.int .i64 e.kind, .int .i64 e.i, .int .i64 e.j, .int .i64 e.k, .slice AE e.part.length cE, .string e.map] 46)
    have J4 := Lib.hid (HJ3.out.up bE)
    have KE := Lib.hid (Blk.new w3 #[.int .i64 e.kind, .int .i64 e.i, .int .i64 e.j, .int .i64 e.k, .slice AE e.part.length cE, .string e.map] 46)
    have SE := Lib.hid ((OwnRules.sl ownE).up bE)
    clear bE HJ3 ownE
    revert J4 KE SE
    generalize (w3.alloc (Obj.cells #[.int .i64 e.kind, .int .i64 e.i, .int .i64 e.j, .int .i64 e.k, .slice AE e.part.length cE, .string e.map] 46)) = w4
    generalize w3.heap.size = E
    intro J4 KE SE
    have cp1 := Blk.cell (i := 1) (v := .int .i64 s.n) J4.out.kP rfl
    have lp := Blk.lt J4.out.kP
    by_cases hn : s.n = 60
    · have hnI : (s.n : Int) = 60 := by omega
      have HR := Lib.hid (show scEdit s e = (errB 3, s) by unfold scEdit; rw [if_pos hn])
      clear hn
      go_wp2_with fail
      refine (spoken_any ⟨#[]⟩ 3 _).mono ?_
      rintro r w5 ⟨rfl, hb5⟩
      have HJ5 := Lib.hid (J4.out.up hb5)
      go_wp2_with fail
      refine bodyPost_ret (v := .string (errB 3)) (by simp [results, Tryz.results53, go_sem, spokB]) rfl (HJ5.out.same (by decide) hP ?_)
      rw [HQ.out, HR.out]
    · have hnI : ¬ (s.n : Int) = 60 := by omega
      have HN := Lib.hid hn
      have hw1 : IntKind.i64.wrap ((s.n : Int) + 1) = (s.n : Int) + 1 := IntWalk.i64_in _ (by omega)
      have HW1 := Lib.hid hw1
      clear hn hw1
      have cd0 := Blk.cell (i := 0) (v := .slice A x.length cx) J4.out.kD rfl
      have ld := Blk.lt J4.out.kD
      have ce0 := Blk.cell (i := 0) (v := .int .i64 e.kind) KE.out rfl
      have ce1 := Blk.cell (i := 1) (v := .int .i64 e.i) KE.out rfl
      have ce2 := Blk.cell (i := 2) (v := .int .i64 e.j) KE.out rfl
      have ce3 := Blk.cell (i := 3) (v := .int .i64 e.k) KE.out rfl
      have ce4 := Blk.cell (i := 4) (v := .slice AE e.part.length cE) KE.out rfl
      have ce5 := Blk.cell (i := 5) (v := .string e.map) KE.out rfl
      have le := Blk.lt KE.out
      go_wp2_with fail
      refine (implApply_any _ _ x e _ J4.out.gx ⟨_, rfl, SE.out⟩ (by have := gram_len400 HXO.out; omega) (by omega) (by unfold maxLen; omega) (tabB HT.out J4.out.bel)).mono ?_
      rintro r w5 ⟨hb5, v5, own5, rfl⟩
      have J5 := Lib.hid (J4.out.up hb5)
      have hw4 : lo ≤ w4.heap.size := Nat.le_trans hwl J4.out.bel.size
      clear cp1 lp cd0 ld ce0 ce1 ce2 ce3 ce4 ce5 le J4 KE SE hb5
      obtain ⟨A5, c5, rfl, _⟩ := own_nil own5
      go_upto_region 7 with fail
      have bN := (Below.refl w5.heap.size w5).alloc (Nat.le_refl _) (Obj.cells #[.slice A5 (applyOut x e).length c5] 30)
      have J6 := Lib.hid (J5.out.up bN)
      have KN := Lib.hid (Blk.new w5 #[.slice A5 (applyOut x e).length c5] 30)
      have ON := Lib.hid (OwnRules.below (ownsRow_more own5 (base' := lo) hw4) bN)
      clear bN J5 own5
      revert J6 KN ON
      generalize (w5.alloc (Obj.cells #[.slice A5 (applyOut x e).length c5] 30)) = w6
      generalize w5.heap.size = NB
      intro J6 KN ON
      by_cases hac : applyCode x e = 0
      · have HR := Lib.hid (show scEdit s e = (okB, ⟨s.gs ++ [applyOut x e], s.n + 1⟩) by unfold scEdit; rw [if_neg HN.out, HX.out, if_pos hac])
        rw [hac]
        clear hac hw4 HN
        have hl6 : lo ≤ w6.heap.size := Nat.le_trans hwl J6.out.bel.size
        have cp0 := Blk.cell (i := 0) (v := .slice (some ⟨g, 0, none⟩) s.gs.length c) J6.out.kP rfl
        have zp0 := Blk.frozen J6.out.kP 0
        have lp := Blk.lt J6.out.kP
        have cn0 := Blk.cell (i := 0) (v := .slice A5 (applyOut x e).length c5) KN.out rfl
        have ln := Blk.lt KN.out
        go_upto_region 8 with fail
        go_cut [] (fun wx => ∃ g7 c7 : Nat, Blk wx P #[.slice (some ⟨g7, 0, none⟩) (s.gs.length + 1) c7, .int .i64 s.n] 91 ∧ OGp wx lo (.slice (some ⟨g7, 0, none⟩) (s.gs.length + 1) c7) (s.gs ++ [applyOut x e]) ∧ Below lo w6 wx ∧ TK (SK 91) w6 wx ∧ w6.heap.size ≤ wx.heap.size)
        case first =>
          go_region_law (first
            | (refine step_push_gp (by rfl) _ _ (by rfl) (u := .slice A5 (applyOut x e).length c5) (y := applyOut x e) (lo := lo) (g := g) (c := c) (gs := s.gs) (by rfl) (by first | rfl | simp) (by simp [go_sem]) (J6.out.og.up (by repeat (first | exact Below.refl _ _ | (refine Below.alloc ?_ (by first | omega | (simp; done) | (simp; omega)) _) | (refine Below.setCell ?_ (by first | exact Nat.le_refl _ | (show _ ≤ _; omega) | (simp; done) | (simp; omega)) _) | refine below_drewN ?_ _ | refine Below.drew ?_)) hl6) (by omega) (by simp; omega) (.inr (OwnRules.below ON.out (by repeat (first | exact Below.refl _ _ | (refine Below.alloc ?_ (by first | omega | (simp; done) | (simp; omega)) _) | (refine Below.setCell ?_ (by first | exact Nat.le_refl _ | (show _ ≤ _; omega) | (simp; done) | (simp; omega)) _) | refine below_drewN ?_ _ | refine Below.drew ?_)))) ?_; intro g7 c7 w7 og7 hb7 hk7 hz7; have kP7 : Blk w7 P #[.slice (some ⟨g, 0, none⟩) s.gs.length c, .int .i64 s.n] 91 := TK.blk (J6.out.kP.up (by repeat (first | exact Below.refl _ _ | (refine Below.alloc ?_ (by first | omega | (simp; done) | (simp; omega)) _) | (refine Below.setCell ?_ (by first | exact Nat.le_refl _ | (show _ ≤ _; omega) | (simp; done) | (simp; omega)) _) | refine below_drewN ?_ _ | refine Below.drew ?_))) hk7 (by decide); have cp7 := Blk.cell (i := 0) (v := .slice (some ⟨g, 0, none⟩) s.gs.length c) kP7 rfl; have zp7 := Blk.frozen kP7 0; have lp7 := Blk.lt kP7))
          all_goals
            go_wp2_with fail
            go_meet
            have hz6 := Nat.le_trans (show w6.heap.size ≤ _ from (show Below w6.heap.size w6 _ from (by repeat (first | exact Below.refl _ _ | (refine Below.alloc ?_ (by first | omega | (simp; done) | (simp; omega)) _) | (refine Below.setCell ?_ (by first | exact Nat.le_refl _ | (show _ ≤ _; omega) | (simp; done) | (simp; omega)) _) | refine below_drewN ?_ _ | refine Below.drew ?_))).size) hz7
            refine ⟨g7, c7, kP7.set 0 _, og7.setP kP7 hP (by decide) (by decide), ?_, ?_, ?_⟩
            · exact ((show Below w6.heap.size w6 _ from (by repeat (first | exact Below.refl _ _ | (refine Below.alloc ?_ (by first | omega | (simp; done) | (simp; omega)) _) | (refine Below.setCell ?_ (by first | exact Nat.le_refl _ | (show _ ≤ _; omega) | (simp; done) | (simp; omega)) _) | refine below_drewN ?_ _ | refine Below.drew ?_))).mono hl6).trans (hb7.setCell (p := ⟨P, 0, none⟩) hP _)
            · exact TK.tr (TK.of_below (show Below w6.heap.size w6 _ from (by repeat (first | exact Below.refl _ _ | (refine Below.alloc ?_ (by first | omega | (simp; done) | (simp; omega)) _) | (refine Below.setCell ?_ (by first | exact Nat.le_refl _ | (show _ ≤ _; omega) | (simp; done) | (simp; omega)) _) | refine below_drewN ?_ _ | refine Below.drew ?_)))) (TK.tr (hk7.sub (fun _ h => h.1)) (TK.setCell kP7 (fun _ h => h.2)))
            · simpa using hz6
        case rest =>
          obtain ⟨g7, c7, k7, o7, b7, t7, z7⟩ := hcut
          have K7 := Lib.hid k7
          have O7 := Lib.hid o7
          have B7 := Lib.hid ((J6.out.bel.mono hwl).trans b7)
          have T7 := Lib.hid (TK.tr (TK.of_below (ts := SK 91) J6.out.bel) t7)
          have Z7 : w.heap.size ≤ wc.heap.size := Nat.le_trans J6.out.bel.size z7
          have hw1 := HW1.out
          clear k7 o7 b7 t7 z7 cp0 zp0 lp cn0 ln J6 KN ON
          revert K7 O7 B7 T7 Z7
          generalize wc = w7
          intro K7 O7 B7 T7 Z7
          have cp1 := Blk.cell (i := 1) (v := .int .i64 s.n) K7.out rfl
          have zp1 := Blk.frozen K7.out 1
          have lp := Blk.lt K7.out
          go_wp2_with fail
          refine (spoken_any ⟨#[111, 107]⟩ 0 _).mono ?_
          rintro r w8 ⟨rfl, hb8⟩
          have HB8 := Lib.hid hb8
          clear hb8
          go_wp2_with fail
          refine bodyPost_ret (v := .string okB) (by simp [results, Tryz.results53, go_sem, spokB, okB]) rfl ?_
          rw [HQ.out, HR.out]
          have k8 := (K7.out.set 1 (.int .i64 ((s.n : Int) + 1))).up HB8.out
          have o8 := (O7.out.setP (i := 1) (u := .int .i64 ((s.n : Int) + 1)) K7.out hP (by decide) (by decide)).up HB8.out (by simp; omega)
          refine ⟨rfl, Ses.of (g := g7) (c := c7) (by decide) ?_ hP ?_, ?_, ?_, ?_⟩
          · simpa using k8
          · simpa using o8
          · exact B7.out.trans (((Below.refl lo w7).setCell (p := ⟨P, 1, none⟩) hP _).trans (HB8.out.mono (by simp; omega)))
          · exact TK.tr T7.out (TK.tr (TK.setCell K7.out (fun _ h => h.2)) (TK.of_below HB8.out))
          · exact Nat.le_trans Z7 (by simpa using HB8.out.size)
      · have HR := Lib.hid (show scEdit s e = (errB (applyCode x e), s) by unfold scEdit; rw [if_neg HN.out, HX.out, if_neg hac])
        have hacb : (applyCode x e == 0) = false := by simp [hac]
        have HAC := Lib.hid hac
        clear hac
        go_wp2_with fail
        refine (spoken_any ⟨#[111, 107]⟩ (applyCode x e) _).mono ?_
        rintro r w8 ⟨rfl, hb8⟩
        have HJ8 := Lib.hid (J6.out.up hb8)
        go_wp2_with fail
        refine bodyPost_ret (v := .string (errB (applyCode x e))) (by simp [results, Tryz.results53, go_sem, spokB, HAC.out]) rfl (HJ8.out.same (by decide) hP ?_)
        rw [HQ.out, HR.out]
  · have HQ := Lib.hid (scAns_rest (s := s) hcd)
    have hcb : (rdCode t == 0) = false := by simp [hcd]
    obtain ⟨AE, cE, rfl, _⟩ := own_nil ownE
    obtain ⟨e, he⟩ : ∃ e, rdOut t = e := ⟨_, rfl⟩
    rw [he] at ownE ⊢
    clear hcd he
    go_upto_region 11 with fail
    have bE := (Below.refl w3.heap.size w3).alloc (Nat.le_refl _) (Obj.cells #[.int .i64 e.kind, .int .i64 e.i, .int .i64 e.j, .int .i64 e.k, .slice AE e.part.length cE, .string e.map] 46)
    have J4 := Lib.hid (HJ3.out.up bE)
    clear bE HJ3 ownE
    revert J4
    generalize (w3.alloc (Obj.cells #[.int .i64 e.kind, .int .i64 e.i, .int .i64 e.j, .int .i64 e.k, .slice AE e.part.length cE, .string e.map] 46)) = w4
    generalize w3.heap.size = E
    intro J4
    go_wp2_with fail
    refine (readPlace_any t _ ht (HV.out.up J4.out.bel)).mono ?_
    rintro r w5 ⟨hb5, n, rfl, hpn⟩
    have J5 := Lib.hid (J4.out.up hb5)
    clear hb5 J4
    cases hpl : scPlace t with
    | some i =>
      have HR := Lib.hid (show scRest s t = (scLet x i, s) by unfold scRest; rw [hpl, HX.out])
      obtain rfl := hpn i hpl
      obtain ⟨y, hy1, hy2, hy3, hy4⟩ := place_some hpl
      have hn0 : 0 ≤ n ∧ n ≤ 1000000000000000000 := by
        rw [hy3]
        refine ⟨(rdOk_dec hy2).2, ?_⟩
        have h1 := (rdOk_iff _).1 hy2
        have h2 := numN_lt _ _ rfl h1.2.2.2
        unfold numV
        rw [if_pos hy2]
        have h3 : (10 : Nat) ^ y.data.toList.length ≤ 10 ^ 18 := Nat.pow_le_pow_right (by decide) h1.2.1
        have h4 : (10 : Nat) ^ 18 = 1000000000000000000 := by decide
        omega
      clear hpn hpl hy1 hy2 hy3 hy4
      have cd0 := Blk.cell (i := 0) (v := .slice A x.length cx) J5.out.kD rfl
      have ld := Blk.lt J5.out.kD
      go_wp2_with fail
      refine (letterAt_any _ x n _ J5.out.gx HXO.out hn0.1 hn0.2).mono ?_
      rintro r w6 ⟨⟨sb, sc, rfl, hsp⟩, hb6⟩
      have J6 := Lib.hid (J5.out.up hb6)
      have HSP := Lib.hid hsp
      clear hb6 J5 cd0 ld hsp
      go_wp2_with fail
      refine (spoken_any sb sc _).mono ?_
      rintro r w8 ⟨rfl, hb8⟩
      have HJ8 := Lib.hid (J6.out.up hb8)
      go_wp2_with fail
      refine bodyPost_ret (v := .string (scLet x n)) (by simp [results, Tryz.results53, go_sem, HSP.out]) rfl (HJ8.out.same (by decide) hP ?_)
      rw [HQ.out, HR.out]
    | none =>
      clear hpn
      have HPL := Lib.hid hpl
      clear hpl
      cases h1 : (t.toList == ([117, 110, 100, 111] : List UInt8)) with
      | true =>
        have ht1 : t = undoB := (str_is t undoB [117, 110, 100, 111] rfl).1 h1
        have HR1 := Lib.hid (show scRest s t = (if s.gs.length = 1 then (errB 4, s) else (okB, ⟨s.gs.dropLast, s.n⟩)) by unfold scRest; rw [HPL.out, if_pos ht1])
        clear ht1
        by_cases hl1 : s.gs.length = 1
        · have hl1I : (s.gs.length : Int) = 1 := by omega
          have HR := Lib.hid (show scRest s t = (errB 4, s) by rw [HR1.out, if_pos hl1])
          clear HR1 hl1
          have cp0 := Blk.cell (i := 0) (v := .slice (some ⟨g, 0, none⟩) s.gs.length c) J5.out.kP rfl
          have lp := Blk.lt J5.out.kP
          go_wp2_with fail
          refine (spoken_any ⟨#[]⟩ 4 _).mono ?_
          rintro r w8 ⟨rfl, hb8⟩
          have HJ8 := Lib.hid (J5.out.up hb8)
          go_wp2_with fail
          refine bodyPost_ret (v := .string (errB 4)) (by simp [results, Tryz.results53, go_sem, spokB]) rfl (HJ8.out.same (by decide) hP ?_)
          rw [HQ.out, HR.out]
        · have HR := Lib.hid (show scRest s t = (okB, ⟨s.gs.dropLast, s.n⟩) by rw [HR1.out, if_neg hl1])
          have kP5 := J5.out.kP
          have og5 := OGp.pop J5.out.og (by omega)
          have hdl : s.gs.dropLast.length = s.gs.length - 1 := by simp
          obtain ⟨L, hL⟩ : ∃ L, s.gs.length = L := ⟨_, rfl⟩
          obtain ⟨k, hk⟩ : ∃ k, L - 1 = k := ⟨_, rfl⟩
          rw [hL, hk] at hdl og5
          rw [hL] at kP5 hl1 hgc hlen hpos
          have hw : IntKind.i64.wrap ((L : Int) - 1) = (k : Int) := by rw [IntWalk.i64_in _ (by omega)]; omega
          have hkc : (k : Int) ≤ (c : Int) := by omega
          have hLI : ¬ (L : Int) = 1 := by omega
          have HKP := Lib.hid kP5
          have HOG := Lib.hid og5
          have HDL := Lib.hid hdl
          have hl5 : lo ≤ w5.heap.size := Nat.le_trans hwl J5.out.bel.size
          clear HR1 hl1 hL hk hdl og5
          have cp0 := Blk.cell (i := 0) (v := .slice (some ⟨g, 0, none⟩) L c) kP5 rfl
          have zp0 := Blk.frozen kP5 0
          have lp := Blk.lt kP5
          clear kP5
          go_upto_region 18 with fail
          go_cut [] (fun wx => Blk wx P #[.slice (some ⟨g, 0, none⟩) k c, .int .i64 s.n] 91 ∧ OGp wx lo (.slice (some ⟨g, 0, none⟩) k c) s.gs.dropLast ∧ Below lo w5 wx ∧ TK (SK 91) w5 wx ∧ w5.heap.size ≤ wx.heap.size)
          case first =>
            go_region_law (fail)
            all_goals
              go_wp2_with fail
              go_meet
              refine ⟨HKP.out.set 0 _, HOG.out.setP HKP.out hP (by decide) (by decide), ?_, ?_, ?_⟩
              · exact (Below.drew (Below.refl lo w5)).setCell (p := ⟨P, 0, none⟩) hP _
              · exact TK.setCell (w := w5.drew) HKP.out (fun _ h => h.2)
              · simp
          case rest =>
            obtain ⟨k7, o7, b7, t7, z7⟩ := hcut
            have K7 := Lib.hid k7
            have O7 := Lib.hid o7
            have B7 := Lib.hid ((J5.out.bel.mono hwl).trans b7)
            have T7 := Lib.hid (TK.tr (TK.of_below (ts := SK 91) J5.out.bel) t7)
            have Z7 : w.heap.size ≤ wc.heap.size := Nat.le_trans J5.out.bel.size z7
            clear k7 o7 b7 t7 z7
            go_wp2_with fail
            refine bodyPost_ret (v := .string okB) (by simp [results, Tryz.results53, go_sem, okB]) rfl ?_
            rw [HQ.out, HR.out]
            refine ⟨rfl, Ses.of (g := g) (c := c) (by decide) ?_ hP ?_, B7.out, T7.out, Z7⟩
            · rw [HDL.out]; exact K7.out
            · rw [HDL.out]; exact O7.out
      | false =>
        have ht1 : t ≠ undoB := fun h => by rw [(str_is t undoB [117, 110, 100, 111] rfl).2 h] at h1; cases h1
        cases h2 : (t.toList == ([108, 101, 110, 103, 116, 104] : List UInt8)) with
        | true =>
          have ht2 : t = lengthB := (str_is t lengthB [108, 101, 110, 103, 116, 104] rfl).1 h2
          have HR := Lib.hid (show scRest s t = (⟨(dec (lenV x)).toArray⟩, s) by unfold scRest; rw [HPL.out, if_neg ht1, if_pos ht2, HX.out])
          clear ht1 ht2
          obtain ⟨_, ls, hl⟩ := gram_lens HXO.out
          have hlv : 0 ≤ lenV x ∧ lenV x ≤ 1000000000000000 := by rw [show lenV x = lastI ls by simp [lenV, HXO.out, gramLen_of hl]]; exact lastI_bounds hl
          clear hl
          have cd0 := Blk.cell (i := 0) (v := .slice A x.length cx) J5.out.kD rfl
          have ld := Blk.lt J5.out.kD
          go_wp2_with fail
          refine (LengthOf_any _ x _ J5.out.gx (by have := gram_len400 HXO.out; omega)).mono ?_
          rintro r w6 ⟨rfl, hb6⟩
          have J6 := Lib.hid (J5.out.up hb6)
          clear hb6 J5 cd0 ld
          go_wp2_with fail
          refine (decimal_wide (lenV x) _ ⟨hlv.1, by omega⟩ (HV.out.up J6.out.bel).tab).mono ?_
          rintro r w8 ⟨rfl, hb8⟩
          have HJ8 := Lib.hid (J6.out.up hb8)
          go_wp2_with fail
          refine bodyPost_ret (v := .string ⟨(dec (lenV x)).toArray⟩) (by simp [results, Tryz.results53, go_sem]) rfl (HJ8.out.same (by decide) hP ?_)
          rw [HQ.out, HR.out]
        | false =>
          have ht2 : t ≠ lengthB := fun h => by rw [(str_is t lengthB [108, 101, 110, 103, 116, 104] rfl).2 h] at h2; cases h2
          cases h3 : (t.toList == ([119, 111, 114, 100] : List UInt8)) with
          | true =>
            have ht3 : t = wordB := (str_is t wordB [119, 111, 114, 100] rfl).1 h3
            have HR := Lib.hid (show scRest s t = (spokB ⟨(upV x).toArray⟩ (upC x), s) by unfold scRest; rw [HPL.out, if_neg ht1, if_neg ht2, if_pos ht3, HX.out])
            clear ht1 ht2 ht3
            have cd0 := Blk.cell (i := 0) (v := .slice A x.length cx) J5.out.kD rfl
            have ld := Blk.lt J5.out.kD
            go_wp2_with fail
            refine (unpackWord_any _ x _ J5.out.gx (by have := gram_len400 HXO.out; omega)).mono ?_
            rintro r w6 ⟨rfl, hb6⟩
            have J6 := Lib.hid (J5.out.up hb6)
            clear hb6 J5 cd0 ld
            go_wp2_with fail
            refine (spoken_any ⟨(upV x).toArray⟩ (upC x) _).mono ?_
            rintro r w8 ⟨rfl, hb8⟩
            have HJ8 := Lib.hid (J6.out.up hb8)
            go_wp2_with fail
            refine bodyPost_ret (v := .string (spokB ⟨(upV x).toArray⟩ (upC x))) (by simp [results, Tryz.results53, go_sem]) rfl (HJ8.out.same (by decide) hP ?_)
            rw [HQ.out, HR.out]
          | false =>
            have ht3 : t ≠ wordB := fun h => by rw [(str_is t wordB [119, 111, 114, 100] rfl).2 h] at h3; cases h3
            have HR := Lib.hid (show scRest s t = (whatB, s) by unfold scRest; rw [HPL.out, if_neg ht1, if_neg ht2, if_neg ht3])
            clear ht1 ht2 ht3
            go_wp2_with fail
            refine bodyPost_ret (v := .string whatB) (by simp [results, Tryz.results53, go_sem, whatB]) rfl (J5.out.same (by decide) hP ?_)
            rw [HQ.out, HR.out]
end Go.Proofs.YtbifijlenbibmaaGreatDoor

namespace Go.Proofs.YtbifijlenbibmaaGreatDoor
open Go.RowKit

/-! the lines of a script; how long an answer is -/
theorem splB_pos (b : UInt8) (t : ByteArray) : 0 < (splB b t).length := by
  unfold splB
  rw [List.length_map]
  exact List.length_pos_iff.2 (spl_pos b _ _)
theorem spl_count (b : UInt8) : ∀ (t cur : List UInt8), (spl b cur t).length ≤ t.length + 1 := by
  intro t
  induction t with
  | nil => intro cur; simp [spl]
  | cons c t ih =>
    intro cur
    rw [spl]
    split
    · have := ih []; simp; omega
    · have := ih (cur ++ [c]); simp; omega
theorem splB_len (b : UInt8) (t : ByteArray) : (splB b t).length ≤ t.size + 1 := by
  unfold splB
  rw [List.length_map]
  have := spl_count b t.data.toList []
  rw [Array.length_toList] at this
  exact this
theorem scLines_size {t x : ByteArray} (h : x ∈ scLines t) : x.size ≤ t.size := by
  unfold scLines at h
  split at h
  · exact splB_size (List.dropLast_subset _ h)
  · exact splB_size h
/-- The last piece, and what is left of the pieces when it is empty. -/
theorem scLines_last {t x : ByteArray} (h : (splB 10 t)[(splB 10 t).length - 1]? = some x) : (x = ⟨#[]⟩ → scLines t = (splB 10 t).dropLast) ∧ (x ≠ ⟨#[]⟩ → scLines t = splB 10 t) := by
  have hl : (splB 10 t).getLast? = some x := by rw [List.getLast?_eq_getElem?]; exact h
  unfold scLines
  rw [hl]
  refine ⟨fun e => by rw [if_pos (by rw [e])], fun e => by rw [if_neg (fun q => e (Option.some.inj q))]⟩
theorem OwnW.pop {w : World} {base g c : Nat} {l : List ByteArray} (h : OwnW w base (.slice (some ⟨g, 0, none⟩) l.length c) l) (h0 : 0 < l.length) : OwnW w base (.slice (some ⟨g, 0, none⟩) (l.length - 1) c) l.dropLast := by
  unfold OwnW at h ⊢
  have hne : l ≠ [] := List.length_pos_iff.1 h0
  have hl : l.dropLast ++ [l.getLast hne] = l := List.dropLast_concat_getLast hne
  have e1 : l.map Value.string = l.dropLast.map Value.string ++ [Value.string (l.getLast hne)] := by
    conv => lhs; rw [← hl]
    rw [List.map_append]; rfl
  rw [e1, show l.length = (l.length - 1) + 1 by omega] at h
  have := ownsRow_pop (by simp) h
  simpa using this
theorem codeB_size (c : Int) : (errB c).size ≤ 14 := by
  have := codeNm_size c
  unfold errB
  rw [ByteArray.size_append]
  show 6 + _ ≤ 14
  omega
theorem dec_size {n : Int} (h1 : n ≤ 1000000000000000) : (dec n).length ≤ 16 := by
  unfold dec
  rw [Lib.decDigits_length]
  exact nDigits_le 15 n.toNat (by have h4 : (10 : Nat) ^ (15 + 1) = 10000000000000000 := by decide
                                  omega)
theorem arr_size (l : List UInt8) : (⟨l.toArray⟩ : ByteArray).size = l.length := by show l.toArray.size = _; simp
theorem scAns_size {s : ScS} (h : ScOk s) (t : ByteArray) : (scAns s t).1.size ≤ 2000 := by
  have hx := h.top
  obtain ⟨_, ls, hl⟩ := gram_lens hx
  have hlv : 0 ≤ lenV (rsTop s.gs) ∧ lenV (rsTop s.gs) ≤ 1000000000000000 := by rw [show lenV (rsTop s.gs) = lastI ls by simp [lenV, hx, gramLen_of hl]]; exact lastI_bounds hl
  have hok : okB.size ≤ 2000 := by decide
  unfold scAns
  split
  · unfold scEdit
    split
    · exact Nat.le_trans (codeB_size _) (by decide)
    · split
      · exact hok
      · exact Nat.le_trans (codeB_size _) (by decide)
  · unfold scRest
    split
    · unfold scLet
      split
      · rw [arr_size]
        unfold cutL
        rw [List.length_drop, List.length_take]
        omega
      · exact Nat.le_trans (codeB_size _) (by decide)
    · split
      · split
        · exact Nat.le_trans (codeB_size _) (by decide)
        · exact hok
      · split
        · rw [arr_size]
          exact Nat.le_trans (dec_size hlv.2) (by decide)
        · split
          · unfold spokB
            split
            · rw [arr_size]
              unfold upV
              split
              · rename_i h2; simp at h2; exact h2.2
              · simp
            · exact Nat.le_trans (codeB_size _) (by decide)
          · show whatB.size ≤ 2000; decide
theorem scRun_snoc {x : List GRule} {ls : List ByteArray} {k : Nat} {t : ByteArray} (h : ls[k]? = some t) : scRun x (ls.take (k + 1)) = scStep (scRun x (ls.take k)) t := by
  unfold scRun
  rw [List.take_add_one, h]; simp
theorem scRun_ok {x : List GRule} (hx : gramOk x = true) (ls : List ByteArray) (k : Nat) : ScOk (scRun x (ls.take k)).2 := by
  induction k with
  | zero => exact ⟨fun g hg => by simp [scRun] at hg; rw [hg]; exact hx, by simp [scRun], by simp [scRun], by simp [scRun]⟩
  | succ k ih =>
    rcases Nat.lt_or_ge k ls.length with h | h
    · rw [scRun_snoc (List.getElem?_eq_getElem h)]
      exact ih.ans _
    · rw [List.take_of_length_le (by omega)]
      rw [List.take_of_length_le (by omega)] at ih
      exact ih
theorem scStep_len {p : List UInt8 × ScS} (h : ScOk p.2) (t : ByteArray) : (scStep p t).1.length ≤ p.1.length + 2001 := by
  have h1 := scAns_size h t
  have h2 : (scAns p.2 t).1.data.toList.length = (scAns p.2 t).1.size := by rw [Array.length_toList]; rfl
  show (p.1 ++ ((scAns p.2 t).1.data.toList ++ [10])).length ≤ _
  rw [List.length_append, List.length_append, h2]
  show p.1.length + ((scAns p.2 t).1.size + 1) ≤ _
  omega
set_option maxRecDepth 100000 in
theorem scRun_len {x : List GRule} (hx : gramOk x = true) (ls : List ByteArray) (k : Nat) : (scRun x (ls.take k)).1.length ≤ k * 2001 := by
  induction k with
  | zero => exact Nat.zero_le _
  | succ k ih =>
    rcases Nat.lt_or_ge k ls.length with h | h
    · rw [scRun_snoc (List.getElem?_eq_getElem h)]
      have := scStep_len (scRun_ok hx ls k) ls[k]
      omega
    · rw [List.take_of_length_le (by omega)]
      rw [List.take_of_length_le (by omega)] at ih
      omega
theorem BuiltB.tk {B b : Nat} {l : List UInt8} {w w' : World} {ts : TypeId → Prop} (h : BuiltB B b l w) (hk : TK ts w w') (h1 : ts 94) (h2 : ts 5) : BuiltB B b l w' := by
  rcases h with ⟨a1, v, a2, a3, a4⟩ | ⟨a1, v, a2, a3, a4⟩
  · exact .inl ⟨a1, v, hk _ _ _ _ h1 a2, TK.row a3 hk h2, a4⟩
  · exact .inr ⟨a1, v, hk _ _ _ _ h1 a2, TK.row a3 hk h2, a4⟩
theorem BuiltB.typed {B b : Nat} {l : List UInt8} {w : World} (h : BuiltB B b l w) : ∃ c, w.heap[b]? = some (.cells c 94 (0, 0)) := by
  rcases h with ⟨a1, v, a2, a3, a4⟩ | ⟨a1, v, a2, a3, a4⟩ <;> exact ⟨_, a2⟩
theorem sc_bad {x : List GRule} {t : ByteArray} (h : gramOk x = false) : scOut x t = [] ∧ scCode x t = 1 := by
  have : scCode x t = 1 := by unfold scCode; rw [h]; rfl
  exact ⟨by unfold scOut; rw [this]; rfl, this⟩
theorem sc_far {x : List GRule} {t : ByteArray} (h : gramOk x = true) (h2 : ¬ (t.size ≤ 20000 ∧ (scLines t).length ≤ 120)) : scOut x t = [] ∧ scCode x t = 2 := by
  have : scCode x t = 2 := by unfold scCode; rw [h, if_neg h2]; rfl
  exact ⟨by unfold scOut; rw [this]; rfl, this⟩
theorem sc_yes {x : List GRule} {t : ByteArray} (h : gramOk x = true) (h2 : t.size ≤ 20000 ∧ (scLines t).length ≤ 120) : scOut x t = (scRun x (scLines t)).1 ∧ scCode x t = 0 := by
  have : scCode x t = 0 := by unfold scCode; rw [h, if_pos h2]; rfl
  exact ⟨by unfold scOut; rw [this]; rfl, this⟩
end Go.Proofs.YtbifijlenbibmaaGreatDoor

namespace Go.Proofs.YtbifijlenbibmaaGreatDoor
open Go.RowKit

theorem split10_any (s : ByteArray) (w : World) (hs : s.size ≤ 1048576) (hv : RdVars w) :
    Calls Tryz.prog 73 #[.string s, .string ⟨#[10]⟩] w fun e w' => Below w.heap.size w w' ∧ ∃ v, OwnW w' w.heap.size v (splB 10 s) ∧ e = .returned v := by
  obtain ⟨⟨m, h1⟩, _, _, _⟩ := hv
  refine (Tryz.strings_Split s ⟨#[10]⟩ m w (by omega) h1 (by decide)).mono ?_
  rintro e w' ⟨rfl, rfl⟩
  have hl : Lib.countB s ⟨#[10]⟩ + 1 = (splB 10 s).length := by
    rw [← splitB_eq]; exact (Lib.splitB_all ⟨#[10]⟩ (by decide) 0 _ s rfl).symm
  rw [splitB_eq, hl]
  refine ⟨(Below.refl _ _).alloc (Nat.le_refl _) _, _, ?_, rfl⟩
  have hle : (splB 10 s).length ≤ 1048577 := by rw [← hl]; have := Lib.countB_le ⟨#[10]⟩ (by decide) s.size s (Nat.le_refl _); omega
  have := World.ownsRow_lit w ((splB 10 s).map Value.string).toArray (splB 10 s).length (Nat.le_refl _) (by simp only [maxLen]; omega) (e := 9) (size := 1) (by simp)
  simpa [OwnW] using this
set_option maxRecDepth 100000 in
theorem topS_any (g c k L : Nat) (x : ByteArray) (w : World) (hL : L = k + 1) (h : w.cell? ⟨g, k, none⟩ = some (.string x)) (_hlt : g < w.heap.size) (hk : k ≤ 1048577) :
    Calls Tryz.prog 117 #[.slice (some ⟨g, 0, none⟩) L c] w fun e w' => e = .returned (.string x) ∧ Below w.heap.size w w' := by
  have hw : IntKind.i64.wrap ((L : Int) - 1) = (k : Int) := by rw [IntWalk.i64_in _ (by omega)]; omega
  have hi : (k : Int) < (L : Int) := by omega
  clear hL
  go_enter Tryz.func117, Tryz.ntmps117
  go_wp2_with fail
  exact bodyPost_ret (v := .string x) (by simp [results, Tryz.results117, go_sem]) rfl ⟨rfl, (by repeat (first | exact Below.refl _ _ | (refine Below.alloc ?_ (by first | omega | (simp; done) | (simp; omega)) _) | (refine Below.setCell ?_ (by first | exact Nat.le_refl _ | (show _ ≤ _; omega) | (simp; done) | (simp; omega)) _) | refine below_drewN ?_ _ | refine Below.drew ?_))⟩
set_option maxRecDepth 100000 in
set_option maxHeartbeats 2000000 in
theorem scriptLines_any (t : ByteArray) (w : World) (hs : t.size ≤ 1048576) (hv : RdVars w) :
    Calls Tryz.prog 51 #[.string t] w fun e w' => Below w.heap.size w w' ∧ ∃ v, OwnW w' w.heap.size v (scLines t) ∧ e = .returned (.tuple #[v, .bool (decide (t.size ≤ 20000) && decide ((scLines t).length ≤ 120))]) := by
  have HV := Lib.hid hv
  clear hv
  go_enter Tryz.func51, Tryz.ntmps51
  go_wp2_with fail
  refine (split10_any t _ hs HV.out).mono ?_
  rintro e w1 ⟨hb1, v, own, rfl⟩
  have hpos := splB_pos 10 t
  have hle := splB_len 10 t
  obtain ⟨g, cL, rfl, _, hgl, hcap, hcell⟩ := own_form own hpos
  obtain ⟨k, hk⟩ : ∃ k, (splB 10 t).length = k + 1 := ⟨(splB 10 t).length - 1, by omega⟩
  obtain ⟨x, hx⟩ : ∃ x, (splB 10 t)[k]? = some x := ⟨_, List.getElem?_eq_getElem (by omega)⟩
  have hcx : w1.cell? ⟨g, k, none⟩ = some (.string x) := hcell k _ (by rw [List.getElem?_map, hx]; rfl)
  have HLS := Lib.hid (scLines_last (t := t) (x := x) (by rw [hk]; exact hx))
  have hpop := OwnW.pop own hpos
  obtain ⟨L, hL⟩ : ∃ L, (splB 10 t).length = L := ⟨_, rfl⟩
  have hdl : (splB 10 t).dropLast.length = k := by rw [List.length_dropLast]; omega
  have hLk : L = k + 1 := by omega
  rw [hL, hLk, Nat.add_sub_cancel] at hpop
  have own2 : w1.ownsRow w.heap.size 9 1 (.slice (some ⟨g, 0, none⟩) L cL) (splB 10 t).length ((splB 10 t).map Value.string) := by rw [← hL]; exact own
  unfold maxLen at hcap
  have hkc : (k : Int) ≤ (cL : Int) := by omega
  have hw : IntKind.i64.wrap ((L : Int) - 1) = (k : Int) := by rw [IntWalk.i64_in _ (by omega)]; omega
  have hk20 : k ≤ 1048577 := by omega
  have HTOP := Lib.hid (fun (W : World) (hW : Below w1.heap.size w1 W) => topS_any g cL k L x W hLk ((hW.cell (p := ⟨g, k, none⟩) hgl).trans hcx) (Nat.lt_of_lt_of_le hgl hW.size) hk20)
  have HB1 := Lib.hid hb1
  have HO := Lib.hid own2
  have HP := Lib.hid hpop
  have HL := Lib.hid hL
  have HDL := Lib.hid hdl
  have HLK := Lib.hid hLk
  rw [hL]
  clear own hpos hle hcell hk hx hcx hpop hL hdl hLk own2 hb1
  go_wp2_with fail
  refine (HTOP.out _ (by repeat (first | exact Below.refl _ _ | (refine Below.alloc ?_ (by first | omega | (simp; done) | (simp; omega)) _) | (refine Below.setCell ?_ (by first | exact Nat.le_refl _ | (show _ ≤ _; omega) | (simp; done) | (simp; omega)) _) | refine below_drewN ?_ _ | refine Below.drew ?_))).mono ?_
  rintro e w2 ⟨rfl, hb2⟩
  have HB2 := Lib.hid (Below.tr HB1.out hb2)
  have HO2 := Lib.hid (ownsRow_below HO.out hb2)
  have HP2 := Lib.hid (ownsRow_below HP.out hb2)
  clear HTOP
  cases hb : (x.toList == ([] : List UInt8)) with
  | true =>
    have hx0 : x = ⟨#[]⟩ := (str_is x ⟨#[]⟩ [] rfl).1 hb
    have HQ := Lib.hid (HLS.out.1 hx0)
    have HO3 := Lib.hid (show OwnW w2 w.heap.size (.slice (some ⟨g, 0, none⟩) k cL) (scLines t) by rw [HQ.out]; exact HP2.out)
    have HK := Lib.hid (show (scLines t).length = k by rw [HQ.out, HDL.out])
    clear hx0
    by_cases h2 : t.size ≤ 20000
    · have h2I : (t.size : Int) ≤ 20000 := by omega
      have H2 := Lib.hid (show (decide (t.size ≤ 20000) && decide ((scLines t).length ≤ 120)) = decide ((k : Int) ≤ 120) by rw [decide_eq_true h2, HK.out, Bool.true_and]; exact decide_eq_decide.2 (by omega))
      clear h2
      go_wp2_with fail
      refine bodyPost_ret (v := .tuple #[.slice (some ⟨g, 0, none⟩) k cL, .bool (decide ((k : Int) ≤ 120))]) (by simp [results, Tryz.results51, go_sem]) rfl ⟨HB2.out, _, HO3.out, by rw [H2.out]⟩
    · have h2I : 20000 < (t.size : Int) := by omega
      have H2 := Lib.hid (show (decide (t.size ≤ 20000) && decide ((scLines t).length ≤ 120)) = false by rw [decide_eq_false h2, Bool.false_and])
      clear h2
      go_wp2_with fail
      refine bodyPost_ret (v := .tuple #[.slice (some ⟨g, 0, none⟩) k cL, .bool false]) (by simp [results, Tryz.results51, go_sem]) rfl ⟨HB2.out, _, HO3.out, by rw [H2.out]⟩
  | false =>
    have hx0 : x ≠ ⟨#[]⟩ := fun h => by rw [(str_is x ⟨#[]⟩ [] rfl).2 h] at hb; cases hb
    have HQ := Lib.hid (HLS.out.2 hx0)
    have HK := Lib.hid (show (scLines t).length = L by rw [HQ.out]; exact HL.out)
    have HO3 := Lib.hid (show OwnW w2 w.heap.size (.slice (some ⟨g, 0, none⟩) L cL) (scLines t) by rw [HQ.out]; exact HO2.out)
    clear hx0
    by_cases h2 : t.size ≤ 20000
    · have h2I : (t.size : Int) ≤ 20000 := by omega
      have H2 := Lib.hid (show (decide (t.size ≤ 20000) && decide ((scLines t).length ≤ 120)) = decide ((L : Int) ≤ 120) by rw [decide_eq_true h2, HK.out, Bool.true_and]; exact decide_eq_decide.2 (by omega))
      clear h2
      go_wp2_with fail
      refine bodyPost_ret (v := .tuple #[.slice (some ⟨g, 0, none⟩) L cL, .bool (decide ((L : Int) ≤ 120))]) (by simp [results, Tryz.results51, go_sem]) rfl ⟨HB2.out, _, HO3.out, by rw [H2.out]⟩
    · have h2I : 20000 < (t.size : Int) := by omega
      have H2 := Lib.hid (show (decide (t.size ≤ 20000) && decide ((scLines t).length ≤ 120)) = false by rw [decide_eq_false h2, Bool.false_and])
      clear h2
      go_wp2_with fail
      refine bodyPost_ret (v := .tuple #[.slice (some ⟨g, 0, none⟩) L cL, .bool false]) (by simp [results, Tryz.results51, go_sem]) rfl ⟨HB2.out, _, HO3.out, by rw [H2.out]⟩
set_option maxRecDepth 100000 in
set_option maxHeartbeats 8000000 in
/-- impl.RunScript. -/
theorem implRunScript_any (v : Value) (xs : List GRule) (t : ByteArray) (w : World) (h : Sl RuleE w w.heap.size v xs) (hn : xs.length ≤ 1048576) (ht : t.size ≤ 1048576) (hv : RdVars w) (htab : Lib.TabIs Tryz.prog w "math/bits.deBruijn64tab" .u8 deB64) :
    Calls Tryz.prog 11 #[.agg #[v], .string t] w fun e w' => e = .returned (.tuple #[.string ⟨(scOut xs t).toArray⟩, .int .i64 (scCode xs t)]) ∧ Below w.heap.size w w' := by
  have HG := Lib.hid h
  have HV := Lib.hid hv
  have HT := Lib.hid htab
  obtain ⟨A, c, rfl, _⟩ := h
  clear hv htab
  have b1 := (Below.refl w.heap.size w).alloc (Nat.le_refl _) (Obj.cells #[.slice A xs.length c] 30)
  have KP := Blk.new w #[.slice A xs.length c] 30
  go_enter Tryz.func11, Tryz.ntmps11
  go_upto_region 1 with fail
  generalize (w.alloc (Obj.cells #[.slice A xs.length c] 30)) = w0 at *
  have KB := Lib.hid b1
  clear b1
  have cP0 := Blk.cell (i := 0) (v := .slice A xs.length c) KP rfl
  have lP := Blk.lt KP
  go_wp2_with fail
  refine (ValidGrammar_any _ xs _ (HG.out.up KB.out) (by omega)).mono ?_
  rintro e w1 ⟨rfl, hb1⟩
  have KB1 := Lib.hid (Below.tr KB.out hb1)
  have KP1 := KP.up hb1
  clear KB KP hb1 cP0 lP
  cases hg : gramOk xs with
  | false =>
    have HQ := Lib.hid (sc_bad (t := t) hg)
    clear hg
    go_wp2_with fail
    refine bodyPost_ret (v := .tuple #[.string ⟨#[]⟩, .int .i64 1]) (by simp [results, Tryz.results11, go_sem]) rfl ⟨by rw [HQ.out.1, HQ.out.2], KB1.out⟩
  | true =>
    have HGG := Lib.hid hg
    clear hg
    go_wp2_with fail
    refine (scriptLines_any t _ ht (HV.out.up KB1.out)).mono ?_
    rintro e w2 ⟨hb2, vL, ownL, rfl⟩
    have KB2 := Lib.hid (Below.tr KB1.out hb2)
    have KP2 := KP1.up hb2
    clear hb2 KP1 KB1
    by_cases hfar : t.size ≤ 20000 ∧ (scLines t).length ≤ 120
    · have hd : (decide (t.size ≤ 20000) && decide ((scLines t).length ≤ 120)) = true := by simp [hfar]
      have HQ := Lib.hid (sc_yes HGG.out hfar)
      have hl120 := hfar.2
      have ht20 := hfar.1
      rw [hd]
      clear hd hfar
      obtain ⟨AL, cL, rfl, _⟩ := own_nil ownL
      have HOL := Lib.hid ownL
      clear ownL
      have cP2 := Blk.cell (i := 0) (v := .slice A xs.length c) KP2 rfl
      have lP2 := Blk.lt KP2
      have hz2 := KB2.out.size
      obtain ⟨ls, hls⟩ : ∃ ls, scLines t = ls := ⟨_, rfl⟩
      have HSZ := Lib.hid (fun x (hx : x ∈ ls) => Nat.le_trans (scLines_size (t := t) (by rw [hls]; exact hx)) ht)
      rw [hls] at HOL hl120 HQ ⊢
      clear hls
      go_upto_region 7 with fail
      have bA := (((Below.refl w2.heap.size w2).alloc (Nat.le_refl _) (Obj.cells #[.slice A xs.length c] 30)).alloc (by simp) (Obj.cells #[.slice (some ⟨w2.heap.size, 0, none⟩) 1 1, .int .i64 0] 91)).alloc (by simp; omega) (Obj.cells #[.pointer none, .slice none 0 0] 94)
      have KS1 : Blk (w2.alloc (Obj.cells #[.slice A xs.length c] 30) |>.alloc (Obj.cells #[.slice (some ⟨w2.heap.size, 0, none⟩) 1 1, .int .i64 0] 91)) (w2.heap.size + 1) #[.slice (some ⟨w2.heap.size, 0, none⟩) 1 1, .int .i64 0] 91 := by
        have := Blk.new (w2.alloc (Obj.cells #[.slice A xs.length c] 30)) #[.slice (some ⟨w2.heap.size, 0, none⟩) 1 1, .int .i64 0] 91
        simpa using this
      have KB1 : Blk ((w2.alloc (Obj.cells #[.slice A xs.length c] 30)).alloc (Obj.cells #[.slice (some ⟨w2.heap.size, 0, none⟩) 1 1, .int .i64 0] 91) |>.alloc (Obj.cells #[.pointer none, .slice none 0 0] 94)) (w2.heap.size + 1 + 1) #[.pointer none, .slice none 0 0] 94 := by
        have := Blk.new ((w2.alloc (Obj.cells #[.slice A xs.length c] 30)).alloc (Obj.cells #[.slice (some ⟨w2.heap.size, 0, none⟩) 1 1, .int .i64 0] 91)) #[.pointer none, .slice none 0 0] 94
        simpa using this
      have og := OGp.one (W := w2) (lo := w.heap.size) rfl hz2 (u := .slice A xs.length c) (x := xs) (.inl (HG.out.below KB2.out))
      have og2 := og.up (w' := ((w2.alloc (Obj.cells #[.slice A xs.length c] 30)).alloc (Obj.cells #[.slice (some ⟨w2.heap.size, 0, none⟩) 1 1, .int .i64 0] 91)).alloc (Obj.cells #[.pointer none, .slice none 0 0] 94)) (by repeat (first | exact Below.refl _ _ | (refine Below.alloc ?_ (by first | omega | (simp; done) | (simp; omega)) _) | (refine Below.setCell ?_ (by first | exact Nat.le_refl _ | (show _ ≤ _; omega) | (simp; done) | (simp; omega)) _) | refine below_drewN ?_ _ | refine Below.drew ?_)) (by simp; omega)
      have J0 := Lib.hid (show Ses 91 _ w.heap.size (w2.heap.size + 1) ⟨[xs], 0⟩ from Ses.of (g := w2.heap.size) (c := 1) (by decide) (KS1.alloc _) (by omega) og2)
      have B0 := Lib.hid (show BuiltB w.heap.size (w2.heap.size + 1 + 1) [] _ from .inl ⟨by omega, _, KB1, World.ownsRow_nil _ _ _ _, by simp [Value.ownBlock]⟩)
      have L0 := Lib.hid (show OwnW _ w1.heap.size (.slice AL ls.length cL) ls from ownsRow_below HOL.out bA)
      have H0 := Lib.hid (Below.tr KB2.out bA)
      clear bA KS1 KB1 og og2 HOL KP2 cP2 lP2
      revert J0 B0 L0 H0
      generalize ((w2.alloc (Obj.cells #[.slice A xs.length c] 30)).alloc (Obj.cells #[.slice (some ⟨w2.heap.size, 0, none⟩) 1 1, .int .i64 0] 91)).alloc (Obj.cells #[.pointer none, .slice none 0 0] 94) = w3
      generalize w2.heap.size + 1 + 1 = b
      generalize w2.heap.size + 1 = P
      intro J0 B0 L0 H0
      go_wp2_with fail
      go_loopw [29] (fun i wx => ∃ k : Nat, k ≤ ls.length ∧ i = .int .i64 k ∧ Hid (Ses 91 wx w.heap.size P (scRun xs (ls.take k)).2) ∧ Hid (BuiltB w.heap.size b (scRun xs (ls.take k)).1 wx) ∧ Hid (OwnW wx w1.heap.size (.slice AL ls.length cL) ls) ∧ Hid (Below w.heap.size w wx)) (fun i _ => ls.length - (intOf i).toNat)
      case atStart => exact ⟨0, Nat.zero_le _, rfl, J0, B0, L0, H0⟩
      case round =>
        obtain ⟨k, hk, rfl, HJ, HB, HL, HW⟩ := hrel
        by_cases hlt : k < ls.length
        · obtain ⟨g, cap, hv, _, hgl, _, hcell⟩ := own_form HL.out (by omega)
          injection hv with hv1 hv2 hv3
          subst hv1 hv3
          obtain ⟨y, hy⟩ : ∃ y, ls[k]? = some y := ⟨_, List.getElem?_eq_getElem hlt⟩
          have hcy : wr.cell? ⟨g, k, none⟩ = some (.string y) := hcell k _ (by rw [List.getElem?_map, hy]; rfl)
          have hys := HSZ.out y (List.mem_of_getElem? hy)
          have hrs := scRun_snoc (x := xs) hy
          have hlen := scRun_len HGG.out ls k
          have hok := scRun_ok HGG.out ls k
          have hasz := scAns_size hok y
          obtain ⟨l0, hl0⟩ : ∃ l0, (scRun xs (ls.take k)).1 = l0 := ⟨_, rfl⟩
          obtain ⟨s0, hs0⟩ : ∃ s0, (scRun xs (ls.take k)).2 = s0 := ⟨_, rfl⟩
          have hrs1 : (scRun xs (ls.take (k + 1))).1 = l0 ++ ((scAns s0 y).1.data.toList ++ [10]) := by rw [hrs, ← hl0, ← hs0]; rfl
          have hrs2 : (scRun xs (ls.take (k + 1))).2 = (scAns s0 y).2 := by rw [hrs, ← hs0]; rfl
          rw [hl0] at HB hlen
          rw [hs0] at HJ hok hasz
          have HRS := Lib.hid (And.intro hrs1 hrs2)
          have HOK := Lib.hid hok
          have hki : (k : Int) < (ls.length : Int) := by omega
          have hl2 : l0.length ≤ 240120 := by omega
          clear hrs hrs1 hrs2 hl0 hs0 hok hy hcell hlen hv2
          go_wp2_with fail
          refine (implAnswer_any w.heap.size P s0 y _ HJ.out HOK.out hys (HV.out.up HW.out) (tabB HT.out HW.out)).mono ?_
          rintro e w4 ⟨rfl, hs4, hb4, hk4, hz4⟩
          have HS4 := Lib.hid hs4
          have HB4 := Lib.hid (BuiltB.tk HB.out hk4 (by unfold SK; decide) (by unfold SK; decide))
          have HL4 := Lib.hid (show OwnW w4 w1.heap.size (.slice (some ⟨g, 0, none⟩) ls.length cL) ls from TK.row HL.out hk4 (by unfold SK; decide))
          have HW4 := Lib.hid (HW.out.trans hb4)
          clear hs4 hb4 hk4 HB HL HW HJ hcy hgl
          obtain ⟨r, hr⟩ : ∃ r, (scAns s0 y).1 = r := ⟨_, rfl⟩
          rw [hr] at hasz ⊢
          have hrz : (r ++ (⟨#[10]⟩ : ByteArray)).size ≤ 2001 := by
            rw [ByteArray.size_append]
            have : (⟨#[10]⟩ : ByteArray).size = 1 := rfl
            omega
          go_wp2_with fail
          refine (writeString_any w.heap.size b l0 _ _ HB4.out (by omega) HW4.out.size).mono ?_
          rintro e w5 ⟨rfl, hB5, hb5, hk5⟩
          obtain ⟨cb, hcb⟩ := BuiltB.typed HB4.out
          have hk5' : TK (fun t => t ≠ 5 ∧ t ≠ 94) w4 w5 := TK.others hk5 hcb (fun _ h => h)
          have HS5 := Lib.hid (HS4.out.keep hb5 hk5' hb5.size (by decide) (by decide) (by decide))
          have HL5 := Lib.hid (show OwnW w5 w1.heap.size (.slice (some ⟨g, 0, none⟩) ls.length cL) ls from TK.row HL4.out hk5' (by decide))
          have HW5 := Lib.hid (HW4.out.trans hb5)
          have HB5 := Lib.hid hB5
          clear hB5 hb5 hk5 hcb hk5' HS4 HB4 HL4 HW4
          go_wp2_with fail
          refine ⟨⟨k + 1, by omega, by go_num, by rw [HRS.out.2]; exact HS5, ?_, HL5, HW5⟩, by simp [intOf]; omega⟩
          rw [HRS.out.1, hr]
          have := HB5.out
          rw [ByteArray.data_append, Array.toList_append] at this
          exact Lib.hid this
        · have hkn : k = ls.length := by omega
          subst hkn
          have hB := HB.out
          rw [List.take_length] at hB
          have HBB := Lib.hid hB
          clear hB HB HJ HL
          go_wp2_with fail
          refine (BuiltB.string HBB.out HW.out.size).mono ?_
          rintro e w6 ⟨rfl, hb6⟩
          have HW6 := Lib.hid (HW.out.trans hb6)
          go_wp2_with fail
          refine bodyPost_ret (v := .tuple #[.string ⟨((scRun xs ls).1).toArray⟩, .int .i64 0]) (by simp [results, Tryz.results11, go_sem]) rfl ⟨by rw [HQ.out.1, HQ.out.2], HW6.out⟩
    · have hd : (decide (t.size ≤ 20000) && decide ((scLines t).length ≤ 120)) = false := by rw [← Bool.not_eq_true]; simp; omega
      have HQ := Lib.hid (sc_far HGG.out hfar)
      rw [hd]
      clear hfar hd
      obtain ⟨AL, cL, rfl, _⟩ := own_nil ownL
      go_wp2_with fail
      refine bodyPost_ret (v := .tuple #[.string ⟨#[]⟩, .int .i64 2]) (by simp [results, Tryz.results11, go_sem]) rfl ⟨by rw [HQ.out.1, HQ.out.2], KB2.out⟩
end Go.Proofs.YtbifijlenbibmaaGreatDoor

