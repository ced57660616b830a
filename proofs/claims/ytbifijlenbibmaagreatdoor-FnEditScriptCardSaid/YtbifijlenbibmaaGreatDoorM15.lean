import Derived.Test.YtbifijlenbibmaaGreatDoorM14
import Derived.Test.YtbifijlenbibmaaGreatDoorM9
import Derived.Test.YtbifijlenbibmaaGreatDoorM8
import Derived.Test.YtbifijlenbibmaaGreatDoorM12
import Derived.Test.YtbifijlenbibmaaGreatDoorM5
import Derived.Test.YtbifijlenbibmaaGreatDoorM2
namespace Go.Proofs.YtbifijlenbibmaaGreatDoor
open Go.RowKit
set_option maxRecDepth 100000 in
set_option maxHeartbeats 2000000 in
theorem mkChanged_any (b P oP E oE : Nat) (e : GEdit) (vG vR : Value) (xs : List GRule) (ls : List Int) (s : Option (List GRule)) (w : World) (h : Mk w b P oP s) (hP : C1 w ⟨P, oP, none⟩ vG) (hE : EC w E oE e vR) (hneE : E ≠ b) (hG : Sl RuleE w b vG xs) (hg : gramOk xs = true) (hl : lens xs = some ls)
    (hi : 0 ≤ e.i ∧ e.i ≤ e.j ∧ e.j ≤ lastI ls) (hk : chgOK e) :
    Calls Tryz.prog 127 #[.pointer (some ⟨b, 0, none⟩), .pointer (some ⟨E, oE, none⟩)] w fun e' w' => NoRes e' ∧ But b w w' ∧ Mk w' b P oP (addO s ((limO (partG xs ls e.i e.j)).bind (chgO e))) := by
  have hlt := h.lt
  have HM := Lib.hid h
  have HG := Lib.hid (hG.le (Nat.le_of_lt hlt))
  have sm := Lib.hid (okAll_smallL (okAll_lens (gram_lens hg).2.choose_spec))
  have hn : xs.length ≤ 1048576 := by have := gram_len400 hg; omega
  have HY := Lib.hid (partOut_yes hg hl hi)
  have HE := Lib.hid hE
  have HK := Lib.hid hk
  obtain ⟨AG, cG, rfl, _⟩ := hG
  obtain ⟨vO, out, hB, _⟩ := h
  have k1 : C1 w ⟨b, 0, none⟩ (.pointer (some ⟨P, oP, none⟩)) := ⟨hB.cell rfl, hlt⟩
  have k3 : C1 w ⟨E, oE + 1, none⟩ (.int .i64 e.i) := ⟨hE.c1, hE.lt⟩
  have k4 : C1 w ⟨E, oE + 2, none⟩ (.int .i64 e.j) := ⟨hE.c2, hE.lt⟩
  clear hB hE hl hi hk
  go_enter Tryz.func127, Tryz.ntmps127
  try go_wp2_with fail
  go_cut [4, 5] (fun s4 s5 wx => ∃ (Z : Nat) (A9 : Option Addr) (c9 : Nat), s4 = .pointer (some ⟨Z, 0, none⟩) ∧ s5 = .int .i64 (limCode (partG xs ls e.i e.j)) ∧ Z ≠ b ∧ Z ≠ E ∧ Below w.heap.size w wx ∧ Blk wx Z #[.slice A9 (limOut (partG xs ls e.i e.j)).length c9] 30 ∧ OwnRules wx w.heap.size (.slice A9 (limOut (partG xs ls e.i e.j)).length c9) (limOut (partG xs ls e.i e.j)))
  case first =>
    have lP := hP.lt
    have lE := HE.out.lt
    have B0 := Below.drew (Below.refl w.heap.size w)
    have BA := Lib.hid (fun (o : Obj) => Below.drew (Below.alloc (Below.refl w.heap.size w) (Nat.le_refl _) o))
    have KD := keep4 k1 hP k3 k4 B0
    go_region_held3 (fun w' => Below w.heap.size w w' ∧ w'.cell? ⟨b, 0, none⟩ = some (.pointer (some ⟨P, oP, none⟩)) ∧ w'.cell? ⟨P, oP, none⟩ = some (.slice AG xs.length cG) ∧ w'.cell? ⟨E, oE + 1, none⟩ = some (.int .i64 e.i) ∧ w'.cell? ⟨E, oE + 2, none⟩ = some (.int .i64 e.j))
      (first | (with_reducible exact KD) | (with_reducible exact keep4 k1 hP k3 k4 (BA.out _)) | (with_reducible exact keep4 k1 hP k3 k4 b1) | (with_reducible exact keep4 k1 hP k3 k4 (b1.alloc z1 _)) | (with_reducible exact keep4 k1 hP k3 k4 (b1.setCell (Nat.le_refl _) _)))
      (first
        | (go_at_call 129; (refine (specPart_any _ xs e.i e.j _ (HG.out.up (by repeat (first | exact Below.refl _ _ | (refine Below.alloc ?_ (by first | omega | (simp; done) | (simp; omega)) _) | (refine Below.setCell ?_ (by first | exact Nat.le_refl _ | (show _ ≤ _; omega) | (simp; done) | (simp; omega)) _) | refine below_drewN ?_ _ | refine Below.drew ?_))) hn sm.out).mono ?_); rintro e w1 ⟨hb1, v1, own1, rfl⟩; rw [HY.out.1] at own1; rw [HY.out.2]; obtain ⟨A9, c9, rfl, _⟩ := own_nil own1; have b1 : Below w.heap.size w w1 := (by first | exact Below.undrew hb1 | exact (Below.unalloc (Below.undrew hb1)).1); have z1 := b1.size; (try (obtain ⟨hbz, KR⟩ := Below.unalloc (Below.undrew hb1); have cz := Blk.cell (i := 0) (v := .slice none 0 0) KR rfl; have fz := Blk.frozen KR 0; have lz := Blk.lt KR))))
    all_goals
      go_wp2_with fail
      go_meet
      first
        | exact ⟨w1.heap.size, A9, c9, rfl, rfl, by omega, by omega, b1.alloc z1 _, Blk.new _ _ _, World.ownsRow.alloc own1 _⟩
        | exact ⟨w.heap.size, A9, c9, rfl, rfl, by omega, by omega, b1.setCell (Nat.le_refl _) _, Blk.set KR 0 _, ownsRow_more (ownsRow_setCell_below own1 (a := ⟨w.heap.size, 0, none⟩) (by simp [World.drew]) _) (by simp [World.drew])⟩
  case rest =>
    obtain ⟨Z, A9, c9, rfl, rfl, hZb, hZE, hb, KZ, hown⟩ := hcut
    revert hb KZ hown
    generalize wc = w1
    intro hb KZ hown
    have HM1 := Lib.hid (HM.out.up hb)
    have HE1 := Lib.hid (HE.out.up hb)
    have HZ1 := Lib.hid KZ
    have HB1 := Lib.hid hb
    have HO1 := Lib.hid hown
    have lb := HM1.out.lt
    have lZ := KZ.lt
    have lE := HE1.out.lt
    have z1 := hb.size
    clear HM HE hP k1 k3 k4 hb KZ hown
    cases hq : gramOk (partG xs ls e.i e.j) with
    | false =>
      have q2 : limCode (partG xs ls e.i e.j) = 3 := by unfold limCode; rw [hq]; rfl
      have q3 : limO (partG xs ls e.i e.j) = none := by unfold limO; rw [hq]; rfl
      have Q3 := Lib.hid (show addO s ((limO (partG xs ls e.i e.j)).bind (chgO e)) = none by rw [q3]; exact addO_none (.inr rfl))
      obtain ⟨vO, out, hB9, hO9, hs9, hok9⟩ := HM1.out
      have f2 := hB9.frozen 2
      have c2 := hB9.cell (i := 2) (v := .bool s.isNone) rfl
      have HB9 := Lib.hid hB9
      have HO9 := Lib.hid hO9
      have HK9 := Lib.hid hok9
      rw [q2]
      clear hq q2 q3 hB9 hO9 hs9 hok9
      go_wp2_with fail
      refine bodyPost_ret (v := .tuple #[]) (by simp [results, Tryz.results127, go_sem]) rfl ⟨rfl, (But.of HB1.out).setCell _, ?_⟩
      rw [Q3.out]
      exact ⟨vO, out, HB9.out.set 2 _, ownsRow_setCell_below HO9.out (by show b < b + 1; omega) _, (fun _ h => nomatch h), HK9.out⟩
    | true =>
      have q1 : limOut (partG xs ls e.i e.j) = partG xs ls e.i e.j := by unfold limOut; rw [hq]; rfl
      have q2 : limCode (partG xs ls e.i e.j) = 0 := by unfold limCode; rw [hq]; rfl
      have q3 : limO (partG xs ls e.i e.j) = some (partG xs ls e.i e.j) := by unfold limO; rw [hq]; rfl
      have HQ3 := Lib.hid (show addO s ((limO (partG xs ls e.i e.j)).bind (chgO e)) = addO s (chgO e (partG xs ls e.i e.j)) by rw [q3]; rfl)
      rw [q1] at HZ1 HO1
      rw [q2]
      have HG1 := Lib.hid hq
      clear q1 q2 q3 hq HY
      generalize hpq : partG xs ls e.i e.j = p at *
      have HPQ := Lib.hid hpq
      clear hpq
      have p4 := gram_len400 HG1.out
      have smp := Lib.hid (okAll_smallL (okAll_lens (gram_lens HG1.out).2.choose_spec))
      have cZ := HZ1.out.cell (i := 0) (v := .slice A9 p.length c9) rfl
      have x0 := HE1.out.c0
      rcases HK.out with hk | ⟨hk, hk0, hk1⟩ | ⟨hk, hm, hm4⟩
      · have hc : chgO e p = some (p.map turnR) := by unfold chgO; rw [if_pos hk]
        have HCI := Lib.hid (show CodeIs (chgO e p) (p.map turnR) 0 by rw [hc]; exact .inl ⟨rfl, rfl, gramOk_turn HG1.out⟩)
        have HT := Lib.hid (show turnOut p = p.map turnR ∧ turnCode p = 0 by simp [turnOut, turnCode, HG1.out])
        rw [hk] at x0
        clear hk hc
        go_wp2_with fail
        refine (specTurn_any _ p _ HO1.out.sl smp.out (by omega)).mono ?_
        rintro e2 w2 ⟨hb2, v2, own2, rfl⟩
        rw [HT.out.1] at own2
        rw [HT.out.2]
        have HM2 := Lib.hid (HM1.out.up hb2)
        obtain ⟨A2, k2, rfl, _⟩ := own_nil own2
        have HO2 := Lib.hid (show OwnRules w2 w1.heap.size (.slice A2 p.length k2) (p.map turnR) by rw [← (List.length_map turnR : (p.map turnR).length = p.length)]; exact own2)
        have HB2 := Lib.hid (Below.tr HB1.out hb2)
        clear hb2 own2 cZ x0
        go_wp2_with fail
        refine (mkAdd_any b P oP s (chgO e p) (.slice A2 p.length k2) (p.map turnR) 0 w2 HM2.out (own_slS HO2.out lb) HCI.out).mono ?_
        rintro e3 w3 ⟨rfl, hb3, ha3⟩
        go_wp2
        go_end0
        rw [HPQ.out, HQ3.out]
        exact ⟨rfl, (But.of HB2.out).trans hb3, ha3⟩
      · have hn5 : ¬ e.kind = 5 := by omega
        have hc : chgO e p = limO (powG p e.k.toNat) := by unfold chgO; rw [if_neg hn5, if_pos hk]
        have hpc : powOut p e.k = limOut (powG p e.k.toNat) ∧ powCode p e.k = limCode (powG p e.k.toNat) := by
          have hb : inB e.k 0 1000000000000000 = true := by simp [inB]; omega
          unfold powOut powCode; simp [HG1.out, hb]
        have HCI := Lib.hid (show CodeIs (chgO e p) (powOut p e.k) (powCode p e.k) by rw [hc, hpc.1, hpc.2]; exact codeIs_lim _)
        rw [hk] at x0
        have KZ1 : C1 w1 ⟨Z, 0, none⟩ (.slice A9 p.length c9) := ⟨cZ, lZ⟩
        have KE3 : C1 w1 ⟨E, oE + 3, none⟩ (.int .i64 e.k) := ⟨HE1.out.c3, lE⟩
        clear hk hc hn5 hpc
        go_wp2_with fail
        have KD := And.intro (KZ1.up (Below.drew (Below.refl _ _))).c (KE3.up (Below.drew (Below.refl _ _))).c
        go_region_held3 (fun w' => w'.cell? ⟨Z, 0, none⟩ = some (.slice A9 p.length c9) ∧ w'.cell? ⟨E, oE + 3, none⟩ = some (.int .i64 e.k))
          (first | (with_reducible exact KD) | (with_reducible exact KD2) | (with_reducible exact KD3))
          (first
            | (go_at_call 193; (refine (specPower_any _ p e.k _ (HO1.out.sl.up (by repeat (first | exact Below.refl _ _ | (refine Below.alloc ?_ (by first | omega | (simp; done) | (simp; omega)) _) | (refine Below.setCell ?_ (by first | exact Nat.le_refl _ | (show _ ≤ _; omega) | (simp; done) | (simp; omega)) _) | refine below_drewN ?_ _ | refine Below.drew ?_))) (by omega) smp.out).mono ?_); rintro e2 w2 ⟨hb2, v2, own2, rfl⟩; obtain ⟨A2, k2, rfl, _⟩ := own_nil own2; have b2 := Below.undrew hb2; have KD2 := And.intro (KZ1.up b2).c (KE3.up b2).c)
            | (go_at_call 126; (refine (mkAdd_any b P oP s (chgO e p) (.slice A2 (powOut p e.k).length k2) (powOut p e.k) (powCode p e.k) w2 (HM1.out.up b2) (own_slS own2 lb) HCI.out).mono ?_); rintro e3 w3 ⟨rfl, hb3, ha3⟩; have KD3 := And.intro ((KZ1.up b2).but hb3 hZb).c ((KE3.up b2).but hb3 hneE).c))
        go_wp2
        go_end0
        rw [HPQ.out, HQ3.out]
        exact ⟨rfl, (But.of (Below.tr HB1.out b2)).trans hb3, ha3⟩
      · have hn5 : ¬ e.kind = 5 := by omega
        have hn6 : ¬ e.kind = 6 := by omega
        have hc : chgO e p = mapO p (mapW e.map) := by unfold chgO; rw [if_neg hn5, if_neg hn6]
        have HC := Lib.hid hc
        have HWM := Lib.hid (map_words hm hm4)
        have HM4 := Lib.hid hm4
        rw [hk] at x0
        clear hk hc hn5 hn6 hm hm4
        go_wp2_with fail
        go_loopw [6, 7] (fun q a wx => ∃ (k g c : Nat) (l : List ByteArray), k ≤ 4 ∧ a = .int .i64 (k : Int) ∧ q = .slice (some ⟨g, 0, none⟩) l.length c ∧ l = (mapW e.map).take k ∧ OwnW wx w1.heap.size q l ∧ Below w1.heap.size w1 wx) (fun _ a _ => (4 - intOf a).toNat)
        case atStart => exact ⟨0, _, 0, [], Nat.zero_le _, rfl, rfl, rfl, OwnW.empty rfl (Nat.le_refl _), (Below.refl _ _).alloc (Nat.le_refl _) _⟩
        case round =>
          obtain ⟨k, g, c, l, hk4, rfl, rfl, hlc, hown, hb3⟩ := hrel
          have Hown := Lib.hid hown
          have HB3 := Lib.hid hb3
          have Hlc := Lib.hid hlc
          have hs3 : w1.heap.size ≤ wr.heap.size := hb3.size
          have hll : l.length ≤ 4 := by rw [hlc, List.length_take]; omega
          have HLL := Lib.hid hll
          have HE3 := Lib.hid (HE1.out.up hb3)
          have HZ3 := Lib.hid (HZ1.out.up hb3)
          clear hown hb3 hlc hll
          by_cases hlt : k < 4
          · have x5 := HE3.out.c5
            have l5 := HE3.out.lt
            have hsz : k + 1 ≤ e.map.size := by rw [HM4.out]; omega
            have hk0 : k < e.map.size := by omega
            have hli : (k : Int) < 4 := by omega
            go_wp2_with (first
              | (at_builtin; refine push_word (base := w1.heap.size) (v := .slice (some ⟨g, 0, none⟩) l.length c) (l := l) (y := e.map.extract k (k + 1)) rfl _ _ rfl rfl rfl rfl Hown.out (Nat.le_trans HLL.out (by decide)) hs3 ?_; intro g5 c5 w5 own5 hb5))
            have e5 : (l ++ [e.map.extract k (k + 1)]).length = l.length + 1 := by simp
            refine ⟨⟨k + 1, g5, c5, l ++ [e.map.extract k (k + 1)], by omega, rfl, by rw [e5], ?_, own5, HB3.out.trans hb5⟩, by simp [intOf]; omega⟩
            rw [mapW_take hk0, ← Hlc.out]
          · have hk : k = 4 := by omega
            subst hk
            have hl : l = mapW e.map := by
              have := Hlc.out
              rwa [List.take_of_length_le (by rw [HWM.out.1]; omega)] at this
            subst hl
            have HW := Lib.hid (OwnW.sl Hown.out)
            have HM3 := Lib.hid (HM1.out.up HB3.out)
            have HO3 := Lib.hid (OwnRules.below HO1.out HB3.out)
            have HB4 := Lib.hid (Below.tr HB1.out HB3.out)
            have cZ3 := HZ3.out.cell (i := 0) (v := .slice A9 p.length c9) rfl
            have lb3 := HM3.out.lt
            have HCI := Lib.hid (show CodeIs (chgO e p) (mapOut p (mapW e.map)) (mapCode p (mapW e.map)) by rw [HC.out]; exact codeIs_map _ _)
            clear cZ x0 Hown
            go_wp2_with fail
            refine (specMap_any _ _ p (mapW e.map) _ HO3.out.sl HW.out smp.out HG1.out HWM.out.2 HWM.out.1).mono ?_
            rintro e2 w2 ⟨hb2, v2, own2, rfl⟩
            obtain ⟨A2, k2, rfl, _⟩ := own_nil own2
            have HM2 := Lib.hid (HM3.out.up hb2)
            have HO2 := Lib.hid own2
            have HB2 := Lib.hid (Below.tr HB4.out hb2)
            clear hb2 own2 cZ3
            go_wp2_with fail
            refine (mkAdd_any b P oP s (chgO e p) (.slice A2 (mapOut p (mapW e.map)).length k2) (mapOut p (mapW e.map)) (mapCode p (mapW e.map)) w2 HM2.out (own_slS HO2.out lb3) HCI.out).mono ?_
            rintro e3 w3 ⟨rfl, hb3, ha3⟩
            go_wp2
            go_end0
            rw [HPQ.out, HQ3.out]
            exact ⟨rfl, (But.of HB2.out).trans hb3, ha3⟩
set_option maxRecDepth 100000 in
set_option maxHeartbeats 2000000 in
theorem l07RangeO_any (b o : Nat) (vR : Value) (e : GEdit) (n : Int) (w : World) (h : EC w b o e vR) (hk : inR e.kind 1 7 = true) :
    Calls Tryz.prog 91 #[.pointer (some ⟨b, o, none⟩), .int .i64 n] w fun r w' => r = .returned (.bool (editFits e n)) ∧ Below w.heap.size w w' := by
  obtain ⟨k, i, j, kk, part, map⟩ := e
  obtain ⟨x0, x1, x2, x3, x4, x5, hlt⟩ := h
  simp only at hk x0 x1 x2 x3 x4 x5
  rcases kind7 hk with rfl | rfl | rfl | rfl | rfl | rfl | rfl
  all_goals clear hk
  rotate_left 3
  · by_cases c1 : j ≤ n
    · by_cases c2 : kk ≤ i
      · go_enter Tryz.func91, Tryz.ntmps91
        go_wp2_with fail
        go_quiet (fail)
        go_wp2_with fail
        go_ret
        exact ⟨ret_bool (by simp [editFits, c1, c2]), (by repeat (first | exact Below.refl _ _ | (refine Below.alloc ?_ (by first | omega | (simp; done) | (simp; omega)) _) | refine below_drewN ?_ _ | refine Below.drew ?_))⟩
      · have g2 : decide (kk ≤ i) = false := by simp; omega
        by_cases c3 : j ≤ kk
        · go_enter Tryz.func91, Tryz.ntmps91
          go_wp2_with fail
          go_quiet (fail)
          go_wp2_with fail
          go_ret
          exact ⟨ret_bool (by simp [editFits, c1, g2, c3]), (by repeat (first | exact Below.refl _ _ | (refine Below.alloc ?_ (by first | omega | (simp; done) | (simp; omega)) _) | refine below_drewN ?_ _ | refine Below.drew ?_))⟩
        · have g3 : decide (j ≤ kk) = false := by simp; omega
          have C3 := Lib.hid c3
          go_enter Tryz.func91, Tryz.ntmps91
          go_wp2_with fail
          go_quiet (fail)
          go_wp2_with fail
          go_ret
          exact ⟨ret_bool (by simp [editFits, c1, g2, g3]), (by repeat (first | exact Below.refl _ _ | (refine Below.alloc ?_ (by first | omega | (simp; done) | (simp; omega)) _) | refine below_drewN ?_ _ | refine Below.drew ?_))⟩
    · have g1 : decide (j ≤ n) = false := by simp; omega
      go_enter Tryz.func91, Tryz.ntmps91
      go_wp2_with fail
      go_quiet (fail)
      go_wp2_with fail
      go_ret
      exact ⟨ret_bool (by simp [editFits, g1]), (by repeat (first | exact Below.refl _ _ | (refine Below.alloc ?_ (by first | omega | (simp; done) | (simp; omega)) _) | refine below_drewN ?_ _ | refine Below.drew ?_))⟩
  all_goals
    go_enter Tryz.func91, Tryz.ntmps91
    go_wp2_with fail
    all_goals
      go_ret
      refine ⟨ret_bool ?_, (by repeat (first | exact Below.refl _ _ | (refine Below.alloc ?_ (by first | omega | (simp; done) | (simp; omega)) _) | refine below_drewN ?_ _ | refine Below.drew ?_))⟩
      rw [Bool.eq_iff_iff]
      simp [editFits] at *
      try omega
structure MkJ (w0 : World) (P oP E oE R b : Nat) (e : GEdit) (vR vG : Value) (s : Option (List GRule)) (W : World) : Prop where
  bel : Below w0.heap.size w0 W
  hM : Mk W b P oP s
  cP : C1 W ⟨P, oP, none⟩ vG
  hE : EC W E oE e vR
  hR : Blk W R #[.slice none 0 0] 30
  neP : P ≠ b
  neE : E ≠ b
  neR : R ≠ b
  le : w0.heap.size ≤ b
  ltR : w0.heap.size ≤ R
theorem MkJ.next {w0 W W' : World} {P oP E oE R b : Nat} {e : GEdit} {vR vG : Value} {s s' : Option (List GRule)} (h : MkJ w0 P oP E oE R b e vR vG s W) (hb : But b W W') (ha : Mk W' b P oP s') : MkJ w0 P oP E oE R b e vR vG s' W' :=
  ⟨h.bel.trans (hb.below h.le h.bel.size), ha, h.cP.but hb h.neP, h.hE.but hb h.neE, h.hR.but hb h.neR, h.neP, h.neE, h.neR, h.le, h.ltR⟩
theorem MkJ.drewN {w0 W : World} {P oP E oE R b : Nat} {e : GEdit} {vR vG : Value} {s : Option (List GRule)} (h : MkJ w0 P oP E oE R b e vR vG s W) (n : Nat) : MkJ w0 P oP E oE R b e vR vG s (W.drewN n) :=
  h.next ((But.refl b W).drewN n) (h.hM.up (below_drewN (Below.refl _ _) n))
theorem MkJ.drew {w0 W : World} {P oP E oE R b : Nat} {e : GEdit} {vR vG : Value} {s : Option (List GRule)} (h : MkJ w0 P oP E oE R b e vR vG s W) : MkJ w0 P oP E oE R b e vR vG s W.drew :=
  h.next (But.refl b W).drew (h.hM.up (Below.drew (Below.refl _ _)))
theorem mk_start {W : World} {P oP : Nat} {b : Nat} (h : Blk W b #[.pointer (some ⟨P, oP, none⟩), .slice none 0 0, .bool false] 177) : Mk W b P oP (some []) :=
  ⟨_, [], h, World.ownsRow_nil _ _ _ _, fun _ h => (Option.some.inj h).symm, rfl⟩
theorem fits_nums {e : GEdit} {n : Int} (h : editOk e = true) (hf : editFits e n = true) :
    0 ≤ e.i ∧ (e.kind = 1 → e.i ≤ n) ∧ (2 ≤ e.kind → e.i ≤ e.j ∧ e.j ≤ n) ∧ (e.kind = 3 → 0 ≤ e.k ∧ e.k ≤ n) ∧ (e.kind = 4 → 0 ≤ e.k ∧ (e.k ≤ e.i ∨ (e.j ≤ e.k ∧ e.k ≤ n))) := by
  obtain ⟨k, i, j, kk, part, map⟩ := e
  have hk := (kind_ok h).2.2.2
  have hr := (kind_ok h).2.2.1
  simp only [editOk, Bool.and_eq_true, inR, decide_eq_true_eq] at h
  obtain ⟨⟨⟨⟨⟨⟨⟨⟨h1, h1'⟩, h2⟩, h3⟩, h4⟩, h5⟩, h6⟩, h7⟩, h8⟩ := h
  simp only at h1 h1' h2 h3 h4 hk hr ⊢
  rcases (by omega : k = 1 ∨ k = 2 ∨ k = 3 ∨ k = 4 ∨ k = 5 ∨ k = 6 ∨ k = 7) with rfl | rfl | rfl | rfl | rfl | rfl | rfl
  all_goals
    simp [editFits, numOk, usesJ, usesK, inR] at hf h3 h4 hk ⊢
    omega
set_option maxRecDepth 100000 in
set_option maxHeartbeats 4000000 in
theorem l07Apply_any (P oP E oE : Nat) (vG vR : Value) (xs : List GRule) (e : GEdit) (w : World) (hP : C1 w ⟨P, oP, none⟩ vG) (hE : EC w E oE e vR) (hG : Sl RuleE w w.heap.size vG xs) (hR : Sl RuleE w w.heap.size vR e.part) (hg : gramOk xs = true) (hk : editOk e = true) :
    Calls Tryz.prog 61 #[.pointer (some ⟨P, oP, none⟩), .pointer (some ⟨E, oE, none⟩)] w (GRes (applyOut xs e) (applyCode xs e) w) := by
  have hls : lens xs = some (lsOf xs) := by
    obtain ⟨ls, h⟩ := (gram_lens hg).2
    simp [lsOf, h]
  obtain ⟨ls, hlq⟩ : ∃ ls, lsOf xs = ls := ⟨_, rfl⟩
  rw [hlq] at hls
  have HG := Lib.hid hG
  have HR := Lib.hid hR
  have HL := Lib.hid hls
  have HOK := Lib.hid hg
  have HK := Lib.hid (kind_ok hk)
  have HEK := Lib.hid hk
  have hn : xs.length ≤ 1048576 := by have := gram_len400 hg; omega
  have sm := Lib.hid (okAll_smallL (okAll_lens (gram_lens hg).2.choose_spec))
  have hgl : gramLen xs = lastI ls := gramLen_of hls
  have HAO := Lib.hid (show applyOut xs e = if editFits e (lastI ls) then editG (editS xs ls (lastI ls) e) else [] by simp [applyOut, hg, hk, hgl, applyS, hlq])
  have HAC := Lib.hid (show applyCode xs e = if editFits e (lastI ls) then editC (editS xs ls (lastI ls) e) else 2 by simp [applyCode, hg, hk, hgl, applyS, hlq])
  obtain ⟨AG, cG, rfl, _⟩ := hG
  obtain ⟨AR, cR, rfl, _⟩ := hR
  have HP := Lib.hid hP
  have HE := Lib.hid hE
  have KR := Blk.new w #[.slice none 0 0] 30
  have bA := (Below.refl w.heap.size w).alloc (Nat.le_refl _) (.cells #[.slice none 0 0] 30)
  clear hls hlq hg hk hgl hP hE
  go_enter Tryz.func61, Tryz.ntmps61
  go_wp2_with fail
  refine (l02Length_any P oP _ xs ls _ HL.out (HP.out.up bA).c (HP.out.up bA).lt (HG.out.up bA) sm.out (by omega)).mono ?_
  rintro e1 w1 ⟨rfl, hb1⟩
  have HP1 := Lib.hid ((HP.out.up bA).up hb1)
  have HE1 := Lib.hid ((HE.out.up bA).up hb1)
  have HR1 := Lib.hid (KR.up hb1)
  have HB1 := Lib.hid (Below.tr bA hb1)
  clear HP HE KR bA hb1
  go_wp2_with fail
  refine (l07RangeO_any E oE _ e _ _ HE1.out HK.out.2.2.1).mono ?_
  rintro e2 w2 ⟨rfl, hb2⟩
  have HP2 := Lib.hid (HP1.out.up hb2)
  have HE2 := Lib.hid (HE1.out.up hb2)
  have HR2 := Lib.hid (HR1.out.up hb2)
  have HB2 := Lib.hid (Below.tr HB1.out hb2)
  clear HP1 HE1 HR1 HB1 hb2
  have rl := HR2.out.lt
  have rf := HR2.out.frozen 0
  have rc := HR2.out.cell (i := 0) (v := .slice none 0 0) rfl
  cases hf : editFits e (lastI ls) with
  | false =>
    have q1 : applyOut xs e = [] ∧ applyCode xs e = 2 := by rw [HAO.out, HAC.out, hf]; exact ⟨rfl, rfl⟩
    have HQ := Lib.hid q1
    clear q1 hf
    go_wp2_with fail
    refine bodyPost_ret (v := .tuple #[.agg #[.slice none 0 0], .int .i64 2]) (by simp [results, Tryz.results61, go_sem, rc]) rfl ⟨Below.setCell HB2.out (by show w.heap.size ≤ w.heap.size; omega) _, .slice none 0 0, by rw [HQ.out.1]; exact World.ownsRow_nil _ _ _ _, by rw [HQ.out.2]⟩
  | true =>
    have hao : applyOut xs e = editG (editS xs ls (lastI ls) e) ∧ applyCode xs e = editC (editS xs ls (lastI ls) e) := by rw [HAO.out, HAC.out, hf]; exact ⟨rfl, rfl⟩
    have HQA := Lib.hid hao
    have HF := Lib.hid (fits_nums HEK.out hf)
    have hs2 := HB2.out.size
    have KM := Blk.new w2 #[.pointer (some ⟨P, oP, none⟩), .slice none 0 0, .bool false] 177
    have bM := (Below.refl w2.heap.size w2).alloc (Nat.le_refl _) (.cells #[.pointer (some ⟨P, oP, none⟩), .slice none 0 0, .bool false] 177)
    have lp := HP2.out.lt
    have le := HE2.out.lt
    have hj : MkJ w P oP E oE w.heap.size w2.heap.size e (.slice AR e.part.length cR) (.slice AG xs.length cG) (some []) (w2.alloc (.cells #[.pointer (some ⟨P, oP, none⟩), .slice none 0 0, .bool false] 177)) :=
      ⟨Below.tr HB2.out bM, mk_start KM, HP2.out.up bM, HE2.out.up bM, HR2.out.up bM, by show P ≠ _; have : P < w2.heap.size := lp; omega, by omega, by omega, hs2, Nat.le_refl _⟩
    have HJ1 := Lib.hid hj
    clear hao hf hj KM bM rl rf rc lp HP2 HE2 HR2 HB2 HAO HAC
    go_upto_region 8 with fail
    generalize w2.alloc (.cells #[.pointer (some ⟨P, oP, none⟩), .slice none 0 0, .bool false] 177) = W1 at *
    obtain ⟨b, hbq⟩ : ∃ b, w2.heap.size = b := ⟨_, rfl⟩
    rw [hbq] at HJ1 ⊢
    clear hbq
    rcases HK.out.1 with hk | hk | hk | hk | hkk
    · have x0 := HJ1.out.hE.c0
      rw [hk] at x0
      have HKE := Lib.hid hk
      clear hk
      have aE1 := HJ1.out.hE.c1
      have aE := HJ1.out.hE.lt
      have aB := HJ1.out.hM.lt
      go_wp2_with fail
      refine (mkPart_any b P oP _ xs ls _ 0 (e.i) _ HJ1.out.hM HJ1.out.cP.c HJ1.out.cP.lt ((HG.out.below HJ1.out.bel).le HJ1.out.le) HOK.out HL.out (by first | (have := HF.out; have := HKE.out; omega) | (have := HF.out; have := HKE.out; have := HKI.out; omega))).mono ?_
      rintro e6 W2 ⟨rfl, hb1, ha1⟩
      have HJ2 := Lib.hid (HJ1.out.next hb1 ha1)
      clear aE1 aE aB hb1 ha1 HJ1
      have aE4 := HJ2.out.hE.c4
      have aE := HJ2.out.hE.lt
      have aB := HJ2.out.hM.lt
      go_wp2_with fail
      refine (mkAdd_any b P oP _ (some e.part) (.slice AR e.part.length cR) e.part 0 _ HJ2.out.hM (sl_ne (HR.out.below HJ2.out.bel) HJ2.out.le HJ2.out.hM.lt) (.inl ⟨rfl, rfl, HK.out.2.1⟩)).mono ?_
      rintro e7 W3 ⟨rfl, hb2, ha2⟩
      have HJ3 := Lib.hid (HJ2.out.next hb2 ha2)
      clear aE4 aE aB hb2 ha2 HJ2
      have aE1 := HJ3.out.hE.c1
      have aE := HJ3.out.hE.lt
      have aB := HJ3.out.hM.lt
      go_wp2_with fail
      refine (mkPart_any b P oP _ xs ls _ e.i (lastI ls) _ HJ3.out.hM HJ3.out.cP.c HJ3.out.cP.lt ((HG.out.below HJ3.out.bel).le HJ3.out.le) HOK.out HL.out (by first | (have := HF.out; have := HKE.out; omega) | (have := HF.out; have := HKE.out; have := HKI.out; omega))).mono ?_
      rintro e8 W4 ⟨rfl, hb3, ha3⟩
      have HJ4 := Lib.hid (HJ3.out.next hb3 ha3)
      clear aE1 aE aB hb3 ha3 HJ3
      have hQ : editS xs ls (lastI ls) e = addO (addO (addO (some []) (limO (partG xs ls 0 (e.i)))) (some e.part)) (limO (partG xs ls e.i (lastI ls))) := by unfold editS; rw [if_pos HKE.out]
      have HQ := Lib.hid hQ
      clear hQ
      obtain ⟨vO, out, hB9, hO9, hs9, hok9⟩ := HJ4.out.hM
      obtain ⟨AO, kO, rfl, _⟩ := own_nil hO9
      have HOut := Lib.hid hok9
      have HO9 := Lib.hid hO9
      have lb := hB9.lt
      have rl := HJ4.out.hR.lt
      have rf := HJ4.out.hR.frozen 0
      have rc := HJ4.out.hR.cell (i := 0) (v := .slice none 0 0) rfl
      have HBE := Lib.hid HJ4.out.bel
      have HRR := Lib.hid HJ4.out.hR
      have hle := HJ4.out.le
      clear hok9 hO9 HJ4
      rw [← HQ.out] at hB9 hs9
      cases hS : editS xs ls (lastI ls) e with
      | none =>
        have q1 : applyOut xs e = [] ∧ applyCode xs e = 3 := by rw [HQA.out.1, HQA.out.2, hS]; exact ⟨rfl, rfl⟩
        have HX := Lib.hid q1
        have a2 := hB9.cell (i := 2) (v := .bool true) (by rw [hS]; rfl)
        clear hS hs9 hB9 q1
        go_wp2_with fail
        refine bodyPost_ret (v := .tuple #[.agg #[.slice none 0 0], .int .i64 3]) (by simp [results, Tryz.results61, go_sem, rc]) rfl ⟨Below.setCell HBE.out (by show w.heap.size ≤ w.heap.size; omega) _, .slice none 0 0, by rw [HX.out.1]; exact World.ownsRow_nil _ _ _ _, by rw [HX.out.2]⟩
      | some o =>
        have e9 := hs9 o hS
        subst e9
        have q1 : applyOut xs e = trimG o ∧ applyCode xs e = 0 := by rw [HQA.out.1, HQA.out.2, hS]; exact ⟨rfl, rfl⟩
        have HX := Lib.hid q1
        have a1 := hB9.cell (i := 1) (v := .slice AO o.length kO) rfl
        have a2 := hB9.cell (i := 2) (v := .bool false) (by rw [hS]; rfl)
        clear hS hs9 hB9 q1
        go_wp2_with fail
        refine (l02Trim_any b 1 _ o _ a1 lb HO9.out.sl (by have := gram_len400 HOut.out; omega) (okAll_lens (gram_lens HOut.out).2.choose_spec)).mono ?_
        rintro e10 w10 ⟨hb10, v10, own10, rfl⟩
        have HR10 := Lib.hid (HRR.out.up hb10)
        have HB10 := Lib.hid (Below.tr HBE.out hb10)
        have HO10 := Lib.hid own10
        obtain ⟨A10, k10, rfl, _⟩ := own_nil own10
        have b0 := HR10.out.cell (i := 0) (v := .slice none 0 0) rfl
        have b1 := HR10.out.frozen 0
        have b2 := HR10.out.lt
        have hzz := HBE.out.size
        clear hb10 own10 a1 a2 rl rf rc
        go_wp2_with fail
        refine bodyPost_ret (v := .tuple #[.agg #[.slice A10 (trimG o).length k10], .int .i64 0]) (by simp [results, Tryz.results61, go_sem, b0]) rfl ⟨HB10.out.setCell (by show w.heap.size ≤ w.heap.size; omega) _, .slice A10 (trimG o).length k10, ?_, by rw [HX.out.2]⟩
        rw [HX.out.1]
        exact ownsRow_more (ownsRow_setCell_below HO10.out (a := ⟨w.heap.size, 0, none⟩) (by show w.heap.size < _; omega) _) (by omega)
    · have x0 := HJ1.out.hE.c0
      rw [hk] at x0
      have HKE := Lib.hid hk
      clear hk
      have aE1 := HJ1.out.hE.c1
      have aE := HJ1.out.hE.lt
      have aB := HJ1.out.hM.lt
      go_wp2_with fail
      refine (mkPart_any b P oP _ xs ls _ 0 (e.i) _ HJ1.out.hM HJ1.out.cP.c HJ1.out.cP.lt ((HG.out.below HJ1.out.bel).le HJ1.out.le) HOK.out HL.out (by first | (have := HF.out; have := HKE.out; omega) | (have := HF.out; have := HKE.out; have := HKI.out; omega))).mono ?_
      rintro e6 W2 ⟨rfl, hb1, ha1⟩
      have HJ2 := Lib.hid (HJ1.out.next hb1 ha1)
      clear aE1 aE aB hb1 ha1 HJ1
      have aE2 := HJ2.out.hE.c2
      have aE := HJ2.out.hE.lt
      have aB := HJ2.out.hM.lt
      go_wp2_with fail
      refine (mkPart_any b P oP _ xs ls _ e.j (lastI ls) _ HJ2.out.hM HJ2.out.cP.c HJ2.out.cP.lt ((HG.out.below HJ2.out.bel).le HJ2.out.le) HOK.out HL.out (by first | (have := HF.out; have := HKE.out; omega) | (have := HF.out; have := HKE.out; have := HKI.out; omega))).mono ?_
      rintro e7 W3 ⟨rfl, hb2, ha2⟩
      have HJ3 := Lib.hid (HJ2.out.next hb2 ha2)
      clear aE2 aE aB hb2 ha2 HJ2
      have hQ : editS xs ls (lastI ls) e = addO (addO (some []) (limO (partG xs ls 0 (e.i)))) (limO (partG xs ls e.j (lastI ls))) := by unfold editS; rw [if_neg (by rw [HKE.out]; decide), if_pos HKE.out]
      have HQ := Lib.hid hQ
      clear hQ
      obtain ⟨vO, out, hB9, hO9, hs9, hok9⟩ := HJ3.out.hM
      obtain ⟨AO, kO, rfl, _⟩ := own_nil hO9
      have HOut := Lib.hid hok9
      have HO9 := Lib.hid hO9
      have lb := hB9.lt
      have rl := HJ3.out.hR.lt
      have rf := HJ3.out.hR.frozen 0
      have rc := HJ3.out.hR.cell (i := 0) (v := .slice none 0 0) rfl
      have HBE := Lib.hid HJ3.out.bel
      have HRR := Lib.hid HJ3.out.hR
      have hle := HJ3.out.le
      clear hok9 hO9 HJ3
      rw [← HQ.out] at hB9 hs9
      cases hS : editS xs ls (lastI ls) e with
      | none =>
        have q1 : applyOut xs e = [] ∧ applyCode xs e = 3 := by rw [HQA.out.1, HQA.out.2, hS]; exact ⟨rfl, rfl⟩
        have HX := Lib.hid q1
        have a2 := hB9.cell (i := 2) (v := .bool true) (by rw [hS]; rfl)
        clear hS hs9 hB9 q1
        go_wp2_with fail
        refine bodyPost_ret (v := .tuple #[.agg #[.slice none 0 0], .int .i64 3]) (by simp [results, Tryz.results61, go_sem, rc]) rfl ⟨Below.setCell HBE.out (by show w.heap.size ≤ w.heap.size; omega) _, .slice none 0 0, by rw [HX.out.1]; exact World.ownsRow_nil _ _ _ _, by rw [HX.out.2]⟩
      | some o =>
        have e9 := hs9 o hS
        subst e9
        have q1 : applyOut xs e = trimG o ∧ applyCode xs e = 0 := by rw [HQA.out.1, HQA.out.2, hS]; exact ⟨rfl, rfl⟩
        have HX := Lib.hid q1
        have a1 := hB9.cell (i := 1) (v := .slice AO o.length kO) rfl
        have a2 := hB9.cell (i := 2) (v := .bool false) (by rw [hS]; rfl)
        clear hS hs9 hB9 q1
        go_wp2_with fail
        refine (l02Trim_any b 1 _ o _ a1 lb HO9.out.sl (by have := gram_len400 HOut.out; omega) (okAll_lens (gram_lens HOut.out).2.choose_spec)).mono ?_
        rintro e10 w10 ⟨hb10, v10, own10, rfl⟩
        have HR10 := Lib.hid (HRR.out.up hb10)
        have HB10 := Lib.hid (Below.tr HBE.out hb10)
        have HO10 := Lib.hid own10
        obtain ⟨A10, k10, rfl, _⟩ := own_nil own10
        have b0 := HR10.out.cell (i := 0) (v := .slice none 0 0) rfl
        have b1 := HR10.out.frozen 0
        have b2 := HR10.out.lt
        have hzz := HBE.out.size
        clear hb10 own10 a1 a2 rl rf rc
        go_wp2_with fail
        refine bodyPost_ret (v := .tuple #[.agg #[.slice A10 (trimG o).length k10], .int .i64 0]) (by simp [results, Tryz.results61, go_sem, b0]) rfl ⟨HB10.out.setCell (by show w.heap.size ≤ w.heap.size; omega) _, .slice A10 (trimG o).length k10, ?_, by rw [HX.out.2]⟩
        rw [HX.out.1]
        exact ownsRow_more (ownsRow_setCell_below HO10.out (a := ⟨w.heap.size, 0, none⟩) (by show w.heap.size < _; omega) _) (by omega)
    · have x0 := HJ1.out.hE.c0
      rw [hk] at x0
      have HKE := Lib.hid hk
      clear hk
      have aE3 := HJ1.out.hE.c3
      have aE := HJ1.out.hE.lt
      have aB := HJ1.out.hM.lt
      go_wp2_with fail
      refine (mkPart_any b P oP _ xs ls _ 0 (e.k) _ HJ1.out.hM HJ1.out.cP.c HJ1.out.cP.lt ((HG.out.below HJ1.out.bel).le HJ1.out.le) HOK.out HL.out (by first | (have := HF.out; have := HKE.out; omega) | (have := HF.out; have := HKE.out; have := HKI.out; omega))).mono ?_
      rintro e6 W2 ⟨rfl, hb1, ha1⟩
      have HJ2 := Lib.hid (HJ1.out.next hb1 ha1)
      clear aE3 aE aB hb1 ha1 HJ1
      have aE1 := HJ2.out.hE.c1
      have aE2 := HJ2.out.hE.c2
      have aE := HJ2.out.hE.lt
      have aB := HJ2.out.hM.lt
      go_wp2_with fail
      go_still_tail 9, (by kernel_rfl)
      change wpList _ _ _ _ _ W2.drew
      replace HJ2 := Lib.hid HJ2.out.drew
      clear aE1 aE2 aE aB
      generalize W2.drew = W2 at *
      have aE1 := HJ2.out.hE.c1
      have aE2 := HJ2.out.hE.c2
      have aE := HJ2.out.hE.lt
      have aB := HJ2.out.hM.lt
      go_wp2_with fail
      refine (mkPart_any b P oP _ xs ls _ e.i (e.j) _ HJ2.out.hM HJ2.out.cP.c HJ2.out.cP.lt ((HG.out.below HJ2.out.bel).le HJ2.out.le) HOK.out HL.out (by first | (have := HF.out; have := HKE.out; omega) | (have := HF.out; have := HKE.out; have := HKI.out; omega))).mono ?_
      rintro e7 W3 ⟨rfl, hb2, ha2⟩
      have HJ3 := Lib.hid (HJ2.out.next hb2 ha2)
      clear aE1 aE2 aE aB hb2 ha2 HJ2
      have aE3 := HJ3.out.hE.c3
      have aE := HJ3.out.hE.lt
      have aB := HJ3.out.hM.lt
      go_wp2_with fail
      refine (mkPart_any b P oP _ xs ls _ e.k (lastI ls) _ HJ3.out.hM HJ3.out.cP.c HJ3.out.cP.lt ((HG.out.below HJ3.out.bel).le HJ3.out.le) HOK.out HL.out (by first | (have := HF.out; have := HKE.out; omega) | (have := HF.out; have := HKE.out; have := HKI.out; omega))).mono ?_
      rintro e8 W4 ⟨rfl, hb3, ha3⟩
      have HJ4 := Lib.hid (HJ3.out.next hb3 ha3)
      clear aE3 aE aB hb3 ha3 HJ3
      have hQ : editS xs ls (lastI ls) e = addO (addO (addO (some []) (limO (partG xs ls 0 (e.k)))) (limO (partG xs ls e.i (e.j)))) (limO (partG xs ls e.k (lastI ls))) := by unfold editS; rw [if_neg (by rw [HKE.out]; decide), if_neg (by rw [HKE.out]; decide), if_pos HKE.out]
      have HQ := Lib.hid hQ
      clear hQ
      obtain ⟨vO, out, hB9, hO9, hs9, hok9⟩ := HJ4.out.hM
      obtain ⟨AO, kO, rfl, _⟩ := own_nil hO9
      have HOut := Lib.hid hok9
      have HO9 := Lib.hid hO9
      have lb := hB9.lt
      have rl := HJ4.out.hR.lt
      have rf := HJ4.out.hR.frozen 0
      have rc := HJ4.out.hR.cell (i := 0) (v := .slice none 0 0) rfl
      have HBE := Lib.hid HJ4.out.bel
      have HRR := Lib.hid HJ4.out.hR
      have hle := HJ4.out.le
      clear hok9 hO9 HJ4
      rw [← HQ.out] at hB9 hs9
      cases hS : editS xs ls (lastI ls) e with
      | none =>
        have q1 : applyOut xs e = [] ∧ applyCode xs e = 3 := by rw [HQA.out.1, HQA.out.2, hS]; exact ⟨rfl, rfl⟩
        have HX := Lib.hid q1
        have a2 := hB9.cell (i := 2) (v := .bool true) (by rw [hS]; rfl)
        clear hS hs9 hB9 q1
        go_wp2_with fail
        refine bodyPost_ret (v := .tuple #[.agg #[.slice none 0 0], .int .i64 3]) (by simp [results, Tryz.results61, go_sem, rc]) rfl ⟨Below.setCell HBE.out (by show w.heap.size ≤ w.heap.size; omega) _, .slice none 0 0, by rw [HX.out.1]; exact World.ownsRow_nil _ _ _ _, by rw [HX.out.2]⟩
      | some o =>
        have e9 := hs9 o hS
        subst e9
        have q1 : applyOut xs e = trimG o ∧ applyCode xs e = 0 := by rw [HQA.out.1, HQA.out.2, hS]; exact ⟨rfl, rfl⟩
        have HX := Lib.hid q1
        have a1 := hB9.cell (i := 1) (v := .slice AO o.length kO) rfl
        have a2 := hB9.cell (i := 2) (v := .bool false) (by rw [hS]; rfl)
        clear hS hs9 hB9 q1
        go_wp2_with fail
        refine (l02Trim_any b 1 _ o _ a1 lb HO9.out.sl (by have := gram_len400 HOut.out; omega) (okAll_lens (gram_lens HOut.out).2.choose_spec)).mono ?_
        rintro e10 w10 ⟨hb10, v10, own10, rfl⟩
        have HR10 := Lib.hid (HRR.out.up hb10)
        have HB10 := Lib.hid (Below.tr HBE.out hb10)
        have HO10 := Lib.hid own10
        obtain ⟨A10, k10, rfl, _⟩ := own_nil own10
        have b0 := HR10.out.cell (i := 0) (v := .slice none 0 0) rfl
        have b1 := HR10.out.frozen 0
        have b2 := HR10.out.lt
        have hzz := HBE.out.size
        clear hb10 own10 a1 a2 rl rf rc
        go_wp2_with fail
        refine bodyPost_ret (v := .tuple #[.agg #[.slice A10 (trimG o).length k10], .int .i64 0]) (by simp [results, Tryz.results61, go_sem, b0]) rfl ⟨HB10.out.setCell (by show w.heap.size ≤ w.heap.size; omega) _, .slice A10 (trimG o).length k10, ?_, by rw [HX.out.2]⟩
        rw [HX.out.1]
        exact ownsRow_more (ownsRow_setCell_below HO10.out (a := ⟨w.heap.size, 0, none⟩) (by show w.heap.size < _; omega) _) (by omega)
    · have x0 := HJ1.out.hE.c0
      rw [hk] at x0
      have HKE := Lib.hid hk
      clear hk
      by_cases hki : e.k ≤ e.i
      · have HKI := Lib.hid hki
        have y1 := HJ1.out.hE.c1
        have y3 := HJ1.out.hE.c3
        have yl := HJ1.out.hE.lt
        go_wp2_with fail
        go_quiet (fail)
        replace HJ1 := Lib.hid (HJ1.out.drewN nq)
        clear x0 y1 y3 yl
        generalize W1.drewN nq = W1 at *
        have x0 := HJ1.out.hE.c0
        rw [HKE.out] at x0
        have yl := HJ1.out.hE.lt
        clear hki
        have aE3 := HJ1.out.hE.c3
        have aE := HJ1.out.hE.lt
        have aB := HJ1.out.hM.lt
        go_wp2_with fail
        refine (mkPart_any b P oP _ xs ls _ 0 (e.k) _ HJ1.out.hM HJ1.out.cP.c HJ1.out.cP.lt ((HG.out.below HJ1.out.bel).le HJ1.out.le) HOK.out HL.out (by first | (have := HF.out; have := HKE.out; omega) | (have := HF.out; have := HKE.out; have := HKI.out; omega))).mono ?_
        rintro e6 W2 ⟨rfl, hb1, ha1⟩
        have HJ2 := Lib.hid (HJ1.out.next hb1 ha1)
        clear aE3 aE aB hb1 ha1 HJ1
        have aE1 := HJ2.out.hE.c1
        have aE2 := HJ2.out.hE.c2
        have aE := HJ2.out.hE.lt
        have aB := HJ2.out.hM.lt
        go_wp2_with fail
        go_still_tail 9, (by kernel_rfl)
        change wpList _ _ _ _ _ W2.drew
        replace HJ2 := Lib.hid HJ2.out.drew
        clear aE1 aE2 aE aB
        generalize W2.drew = W2 at *
        have aE1 := HJ2.out.hE.c1
        have aE2 := HJ2.out.hE.c2
        have aE := HJ2.out.hE.lt
        have aB := HJ2.out.hM.lt
        go_wp2_with fail
        refine (mkPart_any b P oP _ xs ls _ e.i (e.j) _ HJ2.out.hM HJ2.out.cP.c HJ2.out.cP.lt ((HG.out.below HJ2.out.bel).le HJ2.out.le) HOK.out HL.out (by first | (have := HF.out; have := HKE.out; omega) | (have := HF.out; have := HKE.out; have := HKI.out; omega))).mono ?_
        rintro e7 W3 ⟨rfl, hb2, ha2⟩
        have HJ3 := Lib.hid (HJ2.out.next hb2 ha2)
        clear aE1 aE2 aE aB hb2 ha2 HJ2
        have aE1 := HJ3.out.hE.c1
        have aE3 := HJ3.out.hE.c3
        have aE := HJ3.out.hE.lt
        have aB := HJ3.out.hM.lt
        go_wp2_with fail
        go_still_tail 9, (by kernel_rfl)
        change wpList _ _ _ _ _ W3.drew
        replace HJ3 := Lib.hid HJ3.out.drew
        clear aE1 aE3 aE aB
        generalize W3.drew = W3 at *
        have aE1 := HJ3.out.hE.c1
        have aE3 := HJ3.out.hE.c3
        have aE := HJ3.out.hE.lt
        have aB := HJ3.out.hM.lt
        go_wp2_with fail
        refine (mkPart_any b P oP _ xs ls _ e.k (e.i) _ HJ3.out.hM HJ3.out.cP.c HJ3.out.cP.lt ((HG.out.below HJ3.out.bel).le HJ3.out.le) HOK.out HL.out (by first | (have := HF.out; have := HKE.out; omega) | (have := HF.out; have := HKE.out; have := HKI.out; omega))).mono ?_
        rintro e8 W4 ⟨rfl, hb3, ha3⟩
        have HJ4 := Lib.hid (HJ3.out.next hb3 ha3)
        clear aE1 aE3 aE aB hb3 ha3 HJ3
        have aE2 := HJ4.out.hE.c2
        have aE := HJ4.out.hE.lt
        have aB := HJ4.out.hM.lt
        go_wp2_with fail
        refine (mkPart_any b P oP _ xs ls _ e.j (lastI ls) _ HJ4.out.hM HJ4.out.cP.c HJ4.out.cP.lt ((HG.out.below HJ4.out.bel).le HJ4.out.le) HOK.out HL.out (by first | (have := HF.out; have := HKE.out; omega) | (have := HF.out; have := HKE.out; have := HKI.out; omega))).mono ?_
        rintro e9 W5 ⟨rfl, hb4, ha4⟩
        have HJ5 := Lib.hid (HJ4.out.next hb4 ha4)
        clear aE2 aE aB hb4 ha4 HJ4
        have hQ : editS xs ls (lastI ls) e = addO (addO (addO (addO (some []) (limO (partG xs ls 0 (e.k)))) (limO (partG xs ls e.i (e.j)))) (limO (partG xs ls e.k (e.i)))) (limO (partG xs ls e.j (lastI ls))) := by unfold editS; rw [if_neg (by rw [HKE.out]; decide), if_neg (by rw [HKE.out]; decide), if_neg (by rw [HKE.out]; decide), if_pos HKE.out, if_pos HKI.out]
        have HQ := Lib.hid hQ
        clear hQ
        obtain ⟨vO, out, hB9, hO9, hs9, hok9⟩ := HJ5.out.hM
        obtain ⟨AO, kO, rfl, _⟩ := own_nil hO9
        have HOut := Lib.hid hok9
        have HO9 := Lib.hid hO9
        have lb := hB9.lt
        have rl := HJ5.out.hR.lt
        have rf := HJ5.out.hR.frozen 0
        have rc := HJ5.out.hR.cell (i := 0) (v := .slice none 0 0) rfl
        have HBE := Lib.hid HJ5.out.bel
        have HRR := Lib.hid HJ5.out.hR
        have hle := HJ5.out.le
        clear hok9 hO9 HJ5
        rw [← HQ.out] at hB9 hs9
        cases hS : editS xs ls (lastI ls) e with
        | none =>
          have q1 : applyOut xs e = [] ∧ applyCode xs e = 3 := by rw [HQA.out.1, HQA.out.2, hS]; exact ⟨rfl, rfl⟩
          have HX := Lib.hid q1
          have a2 := hB9.cell (i := 2) (v := .bool true) (by rw [hS]; rfl)
          clear hS hs9 hB9 q1
          go_wp2_with fail
          refine bodyPost_ret (v := .tuple #[.agg #[.slice none 0 0], .int .i64 3]) (by simp [results, Tryz.results61, go_sem, rc]) rfl ⟨Below.setCell HBE.out (by show w.heap.size ≤ w.heap.size; omega) _, .slice none 0 0, by rw [HX.out.1]; exact World.ownsRow_nil _ _ _ _, by rw [HX.out.2]⟩
        | some o =>
          have e9 := hs9 o hS
          subst e9
          have q1 : applyOut xs e = trimG o ∧ applyCode xs e = 0 := by rw [HQA.out.1, HQA.out.2, hS]; exact ⟨rfl, rfl⟩
          have HX := Lib.hid q1
          have a1 := hB9.cell (i := 1) (v := .slice AO o.length kO) rfl
          have a2 := hB9.cell (i := 2) (v := .bool false) (by rw [hS]; rfl)
          clear hS hs9 hB9 q1
          go_wp2_with fail
          refine (l02Trim_any b 1 _ o _ a1 lb HO9.out.sl (by have := gram_len400 HOut.out; omega) (okAll_lens (gram_lens HOut.out).2.choose_spec)).mono ?_
          rintro e10 w10 ⟨hb10, v10, own10, rfl⟩
          have HR10 := Lib.hid (HRR.out.up hb10)
          have HB10 := Lib.hid (Below.tr HBE.out hb10)
          have HO10 := Lib.hid own10
          obtain ⟨A10, k10, rfl, _⟩ := own_nil own10
          have b0 := HR10.out.cell (i := 0) (v := .slice none 0 0) rfl
          have b1 := HR10.out.frozen 0
          have b2 := HR10.out.lt
          have hzz := HBE.out.size
          clear hb10 own10 a1 a2 rl rf rc
          go_wp2_with fail
          refine bodyPost_ret (v := .tuple #[.agg #[.slice A10 (trimG o).length k10], .int .i64 0]) (by simp [results, Tryz.results61, go_sem, b0]) rfl ⟨HB10.out.setCell (by show w.heap.size ≤ w.heap.size; omega) _, .slice A10 (trimG o).length k10, ?_, by rw [HX.out.2]⟩
          rw [HX.out.1]
          exact ownsRow_more (ownsRow_setCell_below HO10.out (a := ⟨w.heap.size, 0, none⟩) (by show w.heap.size < _; omega) _) (by omega)
      · have HKI := Lib.hid hki
        have hkd : decide (e.k ≤ e.i) = false := by simp; omega
        have y1 := HJ1.out.hE.c1
        have y3 := HJ1.out.hE.c3
        have yl := HJ1.out.hE.lt
        go_wp2_with fail
        go_quiet (fail)
        replace HJ1 := Lib.hid (HJ1.out.drewN nq)
        clear x0 y1 y3 yl
        generalize W1.drewN nq = W1 at *
        have x0 := HJ1.out.hE.c0
        rw [HKE.out] at x0
        have yl := HJ1.out.hE.lt
        clear hki hkd
        have aE1 := HJ1.out.hE.c1
        have aE := HJ1.out.hE.lt
        have aB := HJ1.out.hM.lt
        go_wp2_with fail
        refine (mkPart_any b P oP _ xs ls _ 0 (e.i) _ HJ1.out.hM HJ1.out.cP.c HJ1.out.cP.lt ((HG.out.below HJ1.out.bel).le HJ1.out.le) HOK.out HL.out (by first | (have := HF.out; have := HKE.out; omega) | (have := HF.out; have := HKE.out; have := HKI.out; omega))).mono ?_
        rintro e6 W2 ⟨rfl, hb1, ha1⟩
        have HJ2 := Lib.hid (HJ1.out.next hb1 ha1)
        clear aE1 aE aB hb1 ha1 HJ1
        have aE2 := HJ2.out.hE.c2
        have aE3 := HJ2.out.hE.c3
        have aE := HJ2.out.hE.lt
        have aB := HJ2.out.hM.lt
        go_wp2_with fail
        go_still_tail 9, (by kernel_rfl)
        change wpList _ _ _ _ _ W2.drew
        replace HJ2 := Lib.hid HJ2.out.drew
        clear aE2 aE3 aE aB
        generalize W2.drew = W2 at *
        have aE2 := HJ2.out.hE.c2
        have aE3 := HJ2.out.hE.c3
        have aE := HJ2.out.hE.lt
        have aB := HJ2.out.hM.lt
        go_wp2_with fail
        refine (mkPart_any b P oP _ xs ls _ e.j (e.k) _ HJ2.out.hM HJ2.out.cP.c HJ2.out.cP.lt ((HG.out.below HJ2.out.bel).le HJ2.out.le) HOK.out HL.out (by first | (have := HF.out; have := HKE.out; omega) | (have := HF.out; have := HKE.out; have := HKI.out; omega))).mono ?_
        rintro e7 W3 ⟨rfl, hb2, ha2⟩
        have HJ3 := Lib.hid (HJ2.out.next hb2 ha2)
        clear aE2 aE3 aE aB hb2 ha2 HJ2
        have aE1 := HJ3.out.hE.c1
        have aE2 := HJ3.out.hE.c2
        have aE := HJ3.out.hE.lt
        have aB := HJ3.out.hM.lt
        go_wp2_with fail
        go_still_tail 9, (by kernel_rfl)
        change wpList _ _ _ _ _ W3.drew
        replace HJ3 := Lib.hid HJ3.out.drew
        clear aE1 aE2 aE aB
        generalize W3.drew = W3 at *
        have aE1 := HJ3.out.hE.c1
        have aE2 := HJ3.out.hE.c2
        have aE := HJ3.out.hE.lt
        have aB := HJ3.out.hM.lt
        go_wp2_with fail
        refine (mkPart_any b P oP _ xs ls _ e.i (e.j) _ HJ3.out.hM HJ3.out.cP.c HJ3.out.cP.lt ((HG.out.below HJ3.out.bel).le HJ3.out.le) HOK.out HL.out (by first | (have := HF.out; have := HKE.out; omega) | (have := HF.out; have := HKE.out; have := HKI.out; omega))).mono ?_
        rintro e8 W4 ⟨rfl, hb3, ha3⟩
        have HJ4 := Lib.hid (HJ3.out.next hb3 ha3)
        clear aE1 aE2 aE aB hb3 ha3 HJ3
        have aE3 := HJ4.out.hE.c3
        have aE := HJ4.out.hE.lt
        have aB := HJ4.out.hM.lt
        go_wp2_with fail
        refine (mkPart_any b P oP _ xs ls _ e.k (lastI ls) _ HJ4.out.hM HJ4.out.cP.c HJ4.out.cP.lt ((HG.out.below HJ4.out.bel).le HJ4.out.le) HOK.out HL.out (by first | (have := HF.out; have := HKE.out; omega) | (have := HF.out; have := HKE.out; have := HKI.out; omega))).mono ?_
        rintro e9 W5 ⟨rfl, hb4, ha4⟩
        have HJ5 := Lib.hid (HJ4.out.next hb4 ha4)
        clear aE3 aE aB hb4 ha4 HJ4
        have hQ : editS xs ls (lastI ls) e = addO (addO (addO (addO (some []) (limO (partG xs ls 0 (e.i)))) (limO (partG xs ls e.j (e.k)))) (limO (partG xs ls e.i (e.j)))) (limO (partG xs ls e.k (lastI ls))) := by unfold editS; rw [if_neg (by rw [HKE.out]; decide), if_neg (by rw [HKE.out]; decide), if_neg (by rw [HKE.out]; decide), if_pos HKE.out, if_neg (by have := HKI.out; omega)]
        have HQ := Lib.hid hQ
        clear hQ
        obtain ⟨vO, out, hB9, hO9, hs9, hok9⟩ := HJ5.out.hM
        obtain ⟨AO, kO, rfl, _⟩ := own_nil hO9
        have HOut := Lib.hid hok9
        have HO9 := Lib.hid hO9
        have lb := hB9.lt
        have rl := HJ5.out.hR.lt
        have rf := HJ5.out.hR.frozen 0
        have rc := HJ5.out.hR.cell (i := 0) (v := .slice none 0 0) rfl
        have HBE := Lib.hid HJ5.out.bel
        have HRR := Lib.hid HJ5.out.hR
        have hle := HJ5.out.le
        clear hok9 hO9 HJ5
        rw [← HQ.out] at hB9 hs9
        cases hS : editS xs ls (lastI ls) e with
        | none =>
          have q1 : applyOut xs e = [] ∧ applyCode xs e = 3 := by rw [HQA.out.1, HQA.out.2, hS]; exact ⟨rfl, rfl⟩
          have HX := Lib.hid q1
          have a2 := hB9.cell (i := 2) (v := .bool true) (by rw [hS]; rfl)
          clear hS hs9 hB9 q1
          go_wp2_with fail
          refine bodyPost_ret (v := .tuple #[.agg #[.slice none 0 0], .int .i64 3]) (by simp [results, Tryz.results61, go_sem, rc]) rfl ⟨Below.setCell HBE.out (by show w.heap.size ≤ w.heap.size; omega) _, .slice none 0 0, by rw [HX.out.1]; exact World.ownsRow_nil _ _ _ _, by rw [HX.out.2]⟩
        | some o =>
          have e9 := hs9 o hS
          subst e9
          have q1 : applyOut xs e = trimG o ∧ applyCode xs e = 0 := by rw [HQA.out.1, HQA.out.2, hS]; exact ⟨rfl, rfl⟩
          have HX := Lib.hid q1
          have a1 := hB9.cell (i := 1) (v := .slice AO o.length kO) rfl
          have a2 := hB9.cell (i := 2) (v := .bool false) (by rw [hS]; rfl)
          clear hS hs9 hB9 q1
          go_wp2_with fail
          refine (l02Trim_any b 1 _ o _ a1 lb HO9.out.sl (by have := gram_len400 HOut.out; omega) (okAll_lens (gram_lens HOut.out).2.choose_spec)).mono ?_
          rintro e10 w10 ⟨hb10, v10, own10, rfl⟩
          have HR10 := Lib.hid (HRR.out.up hb10)
          have HB10 := Lib.hid (Below.tr HBE.out hb10)
          have HO10 := Lib.hid own10
          obtain ⟨A10, k10, rfl, _⟩ := own_nil own10
          have b0 := HR10.out.cell (i := 0) (v := .slice none 0 0) rfl
          have b1 := HR10.out.frozen 0
          have b2 := HR10.out.lt
          have hzz := HBE.out.size
          clear hb10 own10 a1 a2 rl rf rc
          go_wp2_with fail
          refine bodyPost_ret (v := .tuple #[.agg #[.slice A10 (trimG o).length k10], .int .i64 0]) (by simp [results, Tryz.results61, go_sem, b0]) rfl ⟨HB10.out.setCell (by show w.heap.size ≤ w.heap.size; omega) _, .slice A10 (trimG o).length k10, ?_, by rw [HX.out.2]⟩
          rw [HX.out.1]
          exact ownsRow_more (ownsRow_setCell_below HO10.out (a := ⟨w.heap.size, 0, none⟩) (by show w.heap.size < _; omega) _) (by omega)
    · have HCK := Lib.hid hkk
      have hkc : ¬ e.kind = 1 ∧ ¬ e.kind = 2 ∧ ¬ e.kind = 3 ∧ ¬ e.kind = 4 ∧ (e.kind = 5 ∨ e.kind = 6 ∨ e.kind = 7) := by unfold chgOK at hkk; omega
      have HKC := Lib.hid hkc
      obtain ⟨_, _, _, _, hk⟩ := hkc
      clear hkk
      rcases hk with hk | hk | hk
      · have x0 := HJ1.out.hE.c0
        rw [hk] at x0
        have HKE := Lib.hid hk
        clear hk
        have y1 := HJ1.out.hE.c1
        have y3 := HJ1.out.hE.c3
        have yl := HJ1.out.hE.lt
        go_wp2_with fail
        go_quiet (fail)
        replace HJ1 := Lib.hid (HJ1.out.drewN nq)
        clear x0 y1 y3 yl
        generalize W1.drewN nq = W1 at *
        have x0 := HJ1.out.hE.c0
        rw [HKE.out] at x0
        have yl := HJ1.out.hE.lt
        have aE1 := HJ1.out.hE.c1
        have aE := HJ1.out.hE.lt
        have aB := HJ1.out.hM.lt
        go_wp2_with fail
        refine (mkPart_any b P oP _ xs ls _ 0 (e.i) _ HJ1.out.hM HJ1.out.cP.c HJ1.out.cP.lt ((HG.out.below HJ1.out.bel).le HJ1.out.le) HOK.out HL.out (by first | (have := HF.out; have := HKE.out; omega) | (have := HF.out; have := HKE.out; have := HKI.out; omega))).mono ?_
        rintro e6 W2 ⟨rfl, hb1, ha1⟩
        have HJ2 := Lib.hid (HJ1.out.next hb1 ha1)
        clear aE1 aE aB hb1 ha1 HJ1
        have aE := HJ2.out.hE.lt
        have aB := HJ2.out.hM.lt
        go_wp2_with fail
        refine (mkChanged_any b P oP E oE e _ _ xs ls _ _ HJ2.out.hM HJ2.out.cP HJ2.out.hE HJ2.out.neE ((HG.out.below HJ2.out.bel).le HJ2.out.le) HOK.out HL.out (by first | (have := HF.out; have := HKE.out; omega) | (have := HF.out; have := HKE.out; have := HKI.out; omega)) HCK.out).mono ?_
        rintro e7 W3 ⟨rfl, hb2, ha2⟩
        have HJ3 := Lib.hid (HJ2.out.next hb2 ha2)
        clear aE aB hb2 ha2 HJ2
        have aE2 := HJ3.out.hE.c2
        have aE := HJ3.out.hE.lt
        have aB := HJ3.out.hM.lt
        go_wp2_with fail
        refine (mkPart_any b P oP _ xs ls _ e.j (lastI ls) _ HJ3.out.hM HJ3.out.cP.c HJ3.out.cP.lt ((HG.out.below HJ3.out.bel).le HJ3.out.le) HOK.out HL.out (by first | (have := HF.out; have := HKE.out; omega) | (have := HF.out; have := HKE.out; have := HKI.out; omega))).mono ?_
        rintro e8 W4 ⟨rfl, hb3, ha3⟩
        have HJ4 := Lib.hid (HJ3.out.next hb3 ha3)
        clear aE2 aE aB hb3 ha3 HJ3
        have hQ : editS xs ls (lastI ls) e = addO (addO (addO (some []) (limO (partG xs ls 0 (e.i)))) ((limO (partG xs ls e.i e.j)).bind (chgO e))) (limO (partG xs ls e.j (lastI ls))) := by unfold editS; rw [if_neg HKC.out.1, if_neg HKC.out.2.1, if_neg HKC.out.2.2.1, if_neg HKC.out.2.2.2.1]
        have HQ := Lib.hid hQ
        clear hQ
        obtain ⟨vO, out, hB9, hO9, hs9, hok9⟩ := HJ4.out.hM
        obtain ⟨AO, kO, rfl, _⟩ := own_nil hO9
        have HOut := Lib.hid hok9
        have HO9 := Lib.hid hO9
        have lb := hB9.lt
        have rl := HJ4.out.hR.lt
        have rf := HJ4.out.hR.frozen 0
        have rc := HJ4.out.hR.cell (i := 0) (v := .slice none 0 0) rfl
        have HBE := Lib.hid HJ4.out.bel
        have HRR := Lib.hid HJ4.out.hR
        have hle := HJ4.out.le
        clear hok9 hO9 HJ4
        rw [← HQ.out] at hB9 hs9
        cases hS : editS xs ls (lastI ls) e with
        | none =>
          have q1 : applyOut xs e = [] ∧ applyCode xs e = 3 := by rw [HQA.out.1, HQA.out.2, hS]; exact ⟨rfl, rfl⟩
          have HX := Lib.hid q1
          have a2 := hB9.cell (i := 2) (v := .bool true) (by rw [hS]; rfl)
          clear hS hs9 hB9 q1
          go_wp2_with fail
          refine bodyPost_ret (v := .tuple #[.agg #[.slice none 0 0], .int .i64 3]) (by simp [results, Tryz.results61, go_sem, rc]) rfl ⟨Below.setCell HBE.out (by show w.heap.size ≤ w.heap.size; omega) _, .slice none 0 0, by rw [HX.out.1]; exact World.ownsRow_nil _ _ _ _, by rw [HX.out.2]⟩
        | some o =>
          have e9 := hs9 o hS
          subst e9
          have q1 : applyOut xs e = trimG o ∧ applyCode xs e = 0 := by rw [HQA.out.1, HQA.out.2, hS]; exact ⟨rfl, rfl⟩
          have HX := Lib.hid q1
          have a1 := hB9.cell (i := 1) (v := .slice AO o.length kO) rfl
          have a2 := hB9.cell (i := 2) (v := .bool false) (by rw [hS]; rfl)
          clear hS hs9 hB9 q1
          go_wp2_with fail
          refine (l02Trim_any b 1 _ o _ a1 lb HO9.out.sl (by have := gram_len400 HOut.out; omega) (okAll_lens (gram_lens HOut.out).2.choose_spec)).mono ?_
          rintro e10 w10 ⟨hb10, v10, own10, rfl⟩
          have HR10 := Lib.hid (HRR.out.up hb10)
          have HB10 := Lib.hid (Below.tr HBE.out hb10)
          have HO10 := Lib.hid own10
          obtain ⟨A10, k10, rfl, _⟩ := own_nil own10
          have b0 := HR10.out.cell (i := 0) (v := .slice none 0 0) rfl
          have b1 := HR10.out.frozen 0
          have b2 := HR10.out.lt
          have hzz := HBE.out.size
          clear hb10 own10 a1 a2 rl rf rc
          go_wp2_with fail
          refine bodyPost_ret (v := .tuple #[.agg #[.slice A10 (trimG o).length k10], .int .i64 0]) (by simp [results, Tryz.results61, go_sem, b0]) rfl ⟨HB10.out.setCell (by show w.heap.size ≤ w.heap.size; omega) _, .slice A10 (trimG o).length k10, ?_, by rw [HX.out.2]⟩
          rw [HX.out.1]
          exact ownsRow_more (ownsRow_setCell_below HO10.out (a := ⟨w.heap.size, 0, none⟩) (by show w.heap.size < _; omega) _) (by omega)
      · have x0 := HJ1.out.hE.c0
        rw [hk] at x0
        have HKE := Lib.hid hk
        clear hk
        have y1 := HJ1.out.hE.c1
        have y3 := HJ1.out.hE.c3
        have yl := HJ1.out.hE.lt
        go_wp2_with fail
        go_quiet (fail)
        replace HJ1 := Lib.hid (HJ1.out.drewN nq)
        clear x0 y1 y3 yl
        generalize W1.drewN nq = W1 at *
        have x0 := HJ1.out.hE.c0
        rw [HKE.out] at x0
        have yl := HJ1.out.hE.lt
        have aE1 := HJ1.out.hE.c1
        have aE := HJ1.out.hE.lt
        have aB := HJ1.out.hM.lt
        go_wp2_with fail
        refine (mkPart_any b P oP _ xs ls _ 0 (e.i) _ HJ1.out.hM HJ1.out.cP.c HJ1.out.cP.lt ((HG.out.below HJ1.out.bel).le HJ1.out.le) HOK.out HL.out (by first | (have := HF.out; have := HKE.out; omega) | (have := HF.out; have := HKE.out; have := HKI.out; omega))).mono ?_
        rintro e6 W2 ⟨rfl, hb1, ha1⟩
        have HJ2 := Lib.hid (HJ1.out.next hb1 ha1)
        clear aE1 aE aB hb1 ha1 HJ1
        have aE := HJ2.out.hE.lt
        have aB := HJ2.out.hM.lt
        go_wp2_with fail
        refine (mkChanged_any b P oP E oE e _ _ xs ls _ _ HJ2.out.hM HJ2.out.cP HJ2.out.hE HJ2.out.neE ((HG.out.below HJ2.out.bel).le HJ2.out.le) HOK.out HL.out (by first | (have := HF.out; have := HKE.out; omega) | (have := HF.out; have := HKE.out; have := HKI.out; omega)) HCK.out).mono ?_
        rintro e7 W3 ⟨rfl, hb2, ha2⟩
        have HJ3 := Lib.hid (HJ2.out.next hb2 ha2)
        clear aE aB hb2 ha2 HJ2
        have aE2 := HJ3.out.hE.c2
        have aE := HJ3.out.hE.lt
        have aB := HJ3.out.hM.lt
        go_wp2_with fail
        refine (mkPart_any b P oP _ xs ls _ e.j (lastI ls) _ HJ3.out.hM HJ3.out.cP.c HJ3.out.cP.lt ((HG.out.below HJ3.out.bel).le HJ3.out.le) HOK.out HL.out (by first | (have := HF.out; have := HKE.out; omega) | (have := HF.out; have := HKE.out; have := HKI.out; omega))).mono ?_
        rintro e8 W4 ⟨rfl, hb3, ha3⟩
        have HJ4 := Lib.hid (HJ3.out.next hb3 ha3)
        clear aE2 aE aB hb3 ha3 HJ3
        have hQ : editS xs ls (lastI ls) e = addO (addO (addO (some []) (limO (partG xs ls 0 (e.i)))) ((limO (partG xs ls e.i e.j)).bind (chgO e))) (limO (partG xs ls e.j (lastI ls))) := by unfold editS; rw [if_neg HKC.out.1, if_neg HKC.out.2.1, if_neg HKC.out.2.2.1, if_neg HKC.out.2.2.2.1]
        have HQ := Lib.hid hQ
        clear hQ
        obtain ⟨vO, out, hB9, hO9, hs9, hok9⟩ := HJ4.out.hM
        obtain ⟨AO, kO, rfl, _⟩ := own_nil hO9
        have HOut := Lib.hid hok9
        have HO9 := Lib.hid hO9
        have lb := hB9.lt
        have rl := HJ4.out.hR.lt
        have rf := HJ4.out.hR.frozen 0
        have rc := HJ4.out.hR.cell (i := 0) (v := .slice none 0 0) rfl
        have HBE := Lib.hid HJ4.out.bel
        have HRR := Lib.hid HJ4.out.hR
        have hle := HJ4.out.le
        clear hok9 hO9 HJ4
        rw [← HQ.out] at hB9 hs9
        cases hS : editS xs ls (lastI ls) e with
        | none =>
          have q1 : applyOut xs e = [] ∧ applyCode xs e = 3 := by rw [HQA.out.1, HQA.out.2, hS]; exact ⟨rfl, rfl⟩
          have HX := Lib.hid q1
          have a2 := hB9.cell (i := 2) (v := .bool true) (by rw [hS]; rfl)
          clear hS hs9 hB9 q1
          go_wp2_with fail
          refine bodyPost_ret (v := .tuple #[.agg #[.slice none 0 0], .int .i64 3]) (by simp [results, Tryz.results61, go_sem, rc]) rfl ⟨Below.setCell HBE.out (by show w.heap.size ≤ w.heap.size; omega) _, .slice none 0 0, by rw [HX.out.1]; exact World.ownsRow_nil _ _ _ _, by rw [HX.out.2]⟩
        | some o =>
          have e9 := hs9 o hS
          subst e9
          have q1 : applyOut xs e = trimG o ∧ applyCode xs e = 0 := by rw [HQA.out.1, HQA.out.2, hS]; exact ⟨rfl, rfl⟩
          have HX := Lib.hid q1
          have a1 := hB9.cell (i := 1) (v := .slice AO o.length kO) rfl
          have a2 := hB9.cell (i := 2) (v := .bool false) (by rw [hS]; rfl)
          clear hS hs9 hB9 q1
          go_wp2_with fail
          refine (l02Trim_any b 1 _ o _ a1 lb HO9.out.sl (by have := gram_len400 HOut.out; omega) (okAll_lens (gram_lens HOut.out).2.choose_spec)).mono ?_
          rintro e10 w10 ⟨hb10, v10, own10, rfl⟩
          have HR10 := Lib.hid (HRR.out.up hb10)
          have HB10 := Lib.hid (Below.tr HBE.out hb10)
          have HO10 := Lib.hid own10
          obtain ⟨A10, k10, rfl, _⟩ := own_nil own10
          have b0 := HR10.out.cell (i := 0) (v := .slice none 0 0) rfl
          have b1 := HR10.out.frozen 0
          have b2 := HR10.out.lt
          have hzz := HBE.out.size
          clear hb10 own10 a1 a2 rl rf rc
          go_wp2_with fail
          refine bodyPost_ret (v := .tuple #[.agg #[.slice A10 (trimG o).length k10], .int .i64 0]) (by simp [results, Tryz.results61, go_sem, b0]) rfl ⟨HB10.out.setCell (by show w.heap.size ≤ w.heap.size; omega) _, .slice A10 (trimG o).length k10, ?_, by rw [HX.out.2]⟩
          rw [HX.out.1]
          exact ownsRow_more (ownsRow_setCell_below HO10.out (a := ⟨w.heap.size, 0, none⟩) (by show w.heap.size < _; omega) _) (by omega)
      · have x0 := HJ1.out.hE.c0
        rw [hk] at x0
        have HKE := Lib.hid hk
        clear hk
        have y1 := HJ1.out.hE.c1
        have y3 := HJ1.out.hE.c3
        have yl := HJ1.out.hE.lt
        go_wp2_with fail
        go_quiet (fail)
        replace HJ1 := Lib.hid (HJ1.out.drewN nq)
        clear x0 y1 y3 yl
        generalize W1.drewN nq = W1 at *
        have x0 := HJ1.out.hE.c0
        rw [HKE.out] at x0
        have yl := HJ1.out.hE.lt
        have aE1 := HJ1.out.hE.c1
        have aE := HJ1.out.hE.lt
        have aB := HJ1.out.hM.lt
        go_wp2_with fail
        refine (mkPart_any b P oP _ xs ls _ 0 (e.i) _ HJ1.out.hM HJ1.out.cP.c HJ1.out.cP.lt ((HG.out.below HJ1.out.bel).le HJ1.out.le) HOK.out HL.out (by first | (have := HF.out; have := HKE.out; omega) | (have := HF.out; have := HKE.out; have := HKI.out; omega))).mono ?_
        rintro e6 W2 ⟨rfl, hb1, ha1⟩
        have HJ2 := Lib.hid (HJ1.out.next hb1 ha1)
        clear aE1 aE aB hb1 ha1 HJ1
        have aE := HJ2.out.hE.lt
        have aB := HJ2.out.hM.lt
        go_wp2_with fail
        refine (mkChanged_any b P oP E oE e _ _ xs ls _ _ HJ2.out.hM HJ2.out.cP HJ2.out.hE HJ2.out.neE ((HG.out.below HJ2.out.bel).le HJ2.out.le) HOK.out HL.out (by first | (have := HF.out; have := HKE.out; omega) | (have := HF.out; have := HKE.out; have := HKI.out; omega)) HCK.out).mono ?_
        rintro e7 W3 ⟨rfl, hb2, ha2⟩
        have HJ3 := Lib.hid (HJ2.out.next hb2 ha2)
        clear aE aB hb2 ha2 HJ2
        have aE2 := HJ3.out.hE.c2
        have aE := HJ3.out.hE.lt
        have aB := HJ3.out.hM.lt
        go_wp2_with fail
        refine (mkPart_any b P oP _ xs ls _ e.j (lastI ls) _ HJ3.out.hM HJ3.out.cP.c HJ3.out.cP.lt ((HG.out.below HJ3.out.bel).le HJ3.out.le) HOK.out HL.out (by first | (have := HF.out; have := HKE.out; omega) | (have := HF.out; have := HKE.out; have := HKI.out; omega))).mono ?_
        rintro e8 W4 ⟨rfl, hb3, ha3⟩
        have HJ4 := Lib.hid (HJ3.out.next hb3 ha3)
        clear aE2 aE aB hb3 ha3 HJ3
        have hQ : editS xs ls (lastI ls) e = addO (addO (addO (some []) (limO (partG xs ls 0 (e.i)))) ((limO (partG xs ls e.i e.j)).bind (chgO e))) (limO (partG xs ls e.j (lastI ls))) := by unfold editS; rw [if_neg HKC.out.1, if_neg HKC.out.2.1, if_neg HKC.out.2.2.1, if_neg HKC.out.2.2.2.1]
        have HQ := Lib.hid hQ
        clear hQ
        obtain ⟨vO, out, hB9, hO9, hs9, hok9⟩ := HJ4.out.hM
        obtain ⟨AO, kO, rfl, _⟩ := own_nil hO9
        have HOut := Lib.hid hok9
        have HO9 := Lib.hid hO9
        have lb := hB9.lt
        have rl := HJ4.out.hR.lt
        have rf := HJ4.out.hR.frozen 0
        have rc := HJ4.out.hR.cell (i := 0) (v := .slice none 0 0) rfl
        have HBE := Lib.hid HJ4.out.bel
        have HRR := Lib.hid HJ4.out.hR
        have hle := HJ4.out.le
        clear hok9 hO9 HJ4
        rw [← HQ.out] at hB9 hs9
        cases hS : editS xs ls (lastI ls) e with
        | none =>
          have q1 : applyOut xs e = [] ∧ applyCode xs e = 3 := by rw [HQA.out.1, HQA.out.2, hS]; exact ⟨rfl, rfl⟩
          have HX := Lib.hid q1
          have a2 := hB9.cell (i := 2) (v := .bool true) (by rw [hS]; rfl)
          clear hS hs9 hB9 q1
          go_wp2_with fail
          refine bodyPost_ret (v := .tuple #[.agg #[.slice none 0 0], .int .i64 3]) (by simp [results, Tryz.results61, go_sem, rc]) rfl ⟨Below.setCell HBE.out (by show w.heap.size ≤ w.heap.size; omega) _, .slice none 0 0, by rw [HX.out.1]; exact World.ownsRow_nil _ _ _ _, by rw [HX.out.2]⟩
        | some o =>
          have e9 := hs9 o hS
          subst e9
          have q1 : applyOut xs e = trimG o ∧ applyCode xs e = 0 := by rw [HQA.out.1, HQA.out.2, hS]; exact ⟨rfl, rfl⟩
          have HX := Lib.hid q1
          have a1 := hB9.cell (i := 1) (v := .slice AO o.length kO) rfl
          have a2 := hB9.cell (i := 2) (v := .bool false) (by rw [hS]; rfl)
          clear hS hs9 hB9 q1
          go_wp2_with fail
          refine (l02Trim_any b 1 _ o _ a1 lb HO9.out.sl (by have := gram_len400 HOut.out; omega) (okAll_lens (gram_lens HOut.out).2.choose_spec)).mono ?_
          rintro e10 w10 ⟨hb10, v10, own10, rfl⟩
          have HR10 := Lib.hid (HRR.out.up hb10)
          have HB10 := Lib.hid (Below.tr HBE.out hb10)
          have HO10 := Lib.hid own10
          obtain ⟨A10, k10, rfl, _⟩ := own_nil own10
          have b0 := HR10.out.cell (i := 0) (v := .slice none 0 0) rfl
          have b1 := HR10.out.frozen 0
          have b2 := HR10.out.lt
          have hzz := HBE.out.size
          clear hb10 own10 a1 a2 rl rf rc
          go_wp2_with fail
          refine bodyPost_ret (v := .tuple #[.agg #[.slice A10 (trimG o).length k10], .int .i64 0]) (by simp [results, Tryz.results61, go_sem, b0]) rfl ⟨HB10.out.setCell (by show w.heap.size ≤ w.heap.size; omega) _, .slice A10 (trimG o).length k10, ?_, by rw [HX.out.2]⟩
          rw [HX.out.1]
          exact ownsRow_more (ownsRow_setCell_below HO10.out (a := ⟨w.heap.size, 0, none⟩) (by show w.heap.size < _; omega) _) (by omega)
end Go.Proofs.YtbifijlenbibmaaGreatDoor
