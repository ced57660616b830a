import Derived.Test.YtfapnipmgmpgaaaGreatDoorM12
import Derived.Test.YtfapnipmgmpgaaaGreatDoorM11
namespace Go.Proofs.YtfapnipmgmpgaaaGreatDoor
open Go.RowKit

def delE (i j : Int) : GEdit := ⟨2, i, j, 0, [], ⟨#[]⟩⟩
def insE (i : Int) (p : List GRule) : GEdit := ⟨1, i, 0, 0, p, ⟨#[]⟩⟩
def movE (i j k : Int) : GEdit := ⟨4, i, j, k, [], ⟨#[]⟩⟩
def turnE (i j : Int) : GEdit := ⟨5, i, j, 0, [], ⟨#[]⟩⟩
/-- What stands ahead of the insertion that brings a part back. -/
def invD (e : GEdit) : List GEdit :=
  if e.kind = 2 then [] else if e.kind = 6 then (if 0 < (e.j - e.i) * e.k then [delE e.i (e.i + (e.j - e.i) * e.k)] else []) else [delE e.i e.j]
/-- The inverse edits of an edit that can be applied. -/
def invL (xs : List GRule) (ls : List Int) (e : GEdit) : Option (List GEdit) :=
  if e.kind = 1 then some [delE e.i (e.i + gramLen e.part)]
  else if e.j - e.i = 0 then some []
  else if e.kind = 3 then some [delE e.k (e.k + (e.j - e.i))]
  else if e.kind = 4 then (if e.k ≤ e.i then some [movE e.k (e.k + (e.j - e.i)) e.j] else some [movE (e.k - (e.j - e.i)) e.k e.i])
  else if e.kind = 5 then some [turnE e.i e.j]
  else if gramOk (partG xs ls e.i e.j) then some (invD e ++ [insE e.i (partG xs ls e.i e.j)]) else none
def invOut (xs : List GRule) (e : GEdit) : List GEdit := if applyCode xs e = 0 then (invL xs (lsOf xs) e).getD [] else []
def invCode (xs : List GRule) (e : GEdit) : Int := if applyCode xs e = 0 then (if (invL xs (lsOf xs) e).isSome then 0 else 3) else applyCode xs e
def ERes (es : List GEdit) (c : Int) (w : World) (r : Ending) (w' : World) : Prop :=
  Below w.heap.size w w' ∧ ∃ v, r = .returned (.tuple #[v, .int .i64 c]) ∧ OEds w' w.heap.size w'.heap.size v es
theorem editC_cases (s : Option (List GRule)) : editC s = 0 ∨ editC s = 3 := by cases s <;> simp [editC]
theorem applyCode_cases (xs : List GRule) (e : GEdit) : applyCode xs e = 0 ∨ applyCode xs e = 1 ∨ applyCode xs e = 2 ∨ applyCode xs e = 3 := by
  unfold applyCode
  split
  · split
    · rcases editC_cases (applyS xs e) with h | h <;> simp [h]
    · simp
  · simp
theorem applyCode_ok {xs : List GRule} {e : GEdit} (h : applyCode xs e = 0) : gramOk xs = true ∧ editOk e = true ∧ editFits e (gramLen xs) = true := by
  unfold applyCode at h
  split at h
  · rename_i h1
    rw [Bool.and_eq_true] at h1
    split at h
    · rename_i h2; exact ⟨h1.1, h1.2, h2⟩
    · cases h
  · cases h
theorem addO_none' {s g : Option (List GRule)} (h : addO s g ≠ none) : s ≠ none ∧ g ≠ none := by
  constructor
  · rintro rfl; exact h (addO_none (.inl rfl))
  · rintro rfl; exact h (addO_none (.inr rfl))
/-- A repetition that can be made is no longer than a word may be. -/
theorem rep_bound {xs : List GRule} {ls : List Int} {e : GEdit} (h : applyCode xs e = 0) (hk : e.kind = 6) (hl : lens xs = some ls) (hp : gramLen (partG xs ls e.i e.j) = e.j - e.i) : (e.j - e.i) * e.k ≤ 1000000000000000 := by
  obtain ⟨h1, h2, h3⟩ := applyCode_ok h
  have hlq : lsOf xs = ls := by simp [lsOf, hl]
  have hs : editS xs ls (lastI ls) e ≠ none := by
    intro hn
    unfold applyCode applyS at h
    rw [hlq, hn] at h
    simp [h1, h2, h3, editC] at h
  unfold editS at hs
  rw [if_neg (by omega), if_neg (by omega), if_neg (by omega), if_neg (by omega)] at hs
  have h4 := (addO_none' (addO_none' hs).1).2
  have h5 : gramOk (partG xs ls e.i e.j) = true := by
    cases hg : gramOk (partG xs ls e.i e.j) with
    | true => rfl
    | false => exfalso; apply h4; unfold limO; rw [hg]; rfl
  have h6 : gramOk (powG (partG xs ls e.i e.j) e.k.toNat) = true := by
    cases hg : gramOk (powG (partG xs ls e.i e.j) e.k.toNat) with
    | true => rfl
    | false => exfalso; apply h4; unfold limO; rw [h5]; show chgO e _ = none; unfold chgO; rw [if_neg (by omega), if_pos hk]; unfold limO; rw [hg]; rfl
  have h7 := powG_gramLen h5 h6
  have h8 := gramLen_bounds (powG (partG xs ls e.i e.j) e.k.toNat)
  rw [h7, hp] at h8
  have hk0 : 0 ≤ e.k := by rcases (kind_ok h2).1 with h | h | h | h | h | ⟨_, h, _⟩ | ⟨h, _⟩ <;> omega
  rw [Int.toNat_of_nonneg hk0] at h8
  rw [Int.mul_comm]; omega
theorem keep3 {wr W : World} {p q r : Addr} {v1 v2 v3 : Value} (k1 : C1 wr p v1) (k2 : C1 wr q v2) (k3 : C1 wr r v3) (h : Below wr.heap.size wr W) :
    Below wr.heap.size wr W ∧ W.cell? p = some v1 ∧ W.cell? q = some v2 ∧ W.cell? r = some v3 := ⟨h, (k1.up h).c, (k2.up h).c, (k3.up h).c⟩
theorem ERes.mk1 {w W : World} {es : List GEdit} {c : Int} {lo hi : Nat} {v : Value} (hb : Below w.heap.size w W) (h : OEds W lo hi v es) (hl : w.heap.size ≤ lo) : ERes es c w (.returned (.tuple #[v, .int .i64 c])) W := by
  refine ⟨hb, v, rfl, ?_⟩
  obtain ⟨ps, r, h1, h2, h3, h4, h5⟩ := h
  exact ⟨ps, r, h1, ownsRow_more h2 hl, fun g hg => by have := h3 g hg; omega, Nat.le_refl _, h5.le hl h4⟩
set_option maxRecDepth 100000 in
set_option maxHeartbeats 4000000 in
theorem l07Inverse_any (P oP E oE : Nat) (vG vR : Value) (xs : List GRule) (e : GEdit) (w : World) (hP : C1 w ⟨P, oP, none⟩ vG) (hE : EC w E oE e vR) (hG : Sl RuleE w w.heap.size vG xs) (hR : Sl RuleE w w.heap.size vR e.part) (hg : gramOk xs = true) (hk : editOk e = true) (hsmE : SmallL e.part) :
    Calls Tryz.prog 54 #[.pointer (some ⟨P, oP, none⟩), .pointer (some ⟨E, oE, none⟩)] w (ERes (invOut xs e) (invCode xs e) w) := by
  have HG := Lib.hid hG
  have HR := Lib.hid hR
  have HP := Lib.hid hP
  have HE := Lib.hid hE
  have HOK := Lib.hid hg
  have HEK := Lib.hid hk
  have HK := Lib.hid (kind_ok hk)
  have sm := Lib.hid (okAll_smallL (okAll_lens (gram_lens hg).2.choose_spec))
  have hn : xs.length ≤ 1048576 := by have := gram_len400 hg; omega
  obtain ⟨AG, cG, rfl, _⟩ := hG
  obtain ⟨AR, cR, rfl, _⟩ := hR
  clear hP hE hg hk
  go_enter Tryz.func54, Tryz.ntmps54
  go_wp2_with fail
  refine (l07Apply_any P oP E oE _ _ xs e _ HP.out HE.out HG.out HR.out HOK.out HEK.out).mono ?_
  rintro e1 w1 ⟨hb1, v1, own1, rfl⟩
  obtain ⟨A1, k1, rfl, _⟩ := own_nil own1
  clear own1
  have bZ := (Below.refl w1.heap.size w1).alloc (Nat.le_refl _) (Obj.cells #[.slice A1 (applyOut xs e).length k1] 31)
  have HE1 := Lib.hid ((HE.out.up hb1).up bZ)
  have HP1 := Lib.hid ((HP.out.up hb1).up bZ)
  have HB1 := Lib.hid (Below.tr hb1 bZ)
  clear bZ hb1 HE HP
  have hbad : ∀ c : Int, applyCode xs e = c → c ≠ 0 → invOut xs e = [] ∧ invCode xs e = c := fun c h hc => by
    have hn : ¬ applyCode xs e = 0 := by omega
    exact ⟨by unfold invOut; rw [if_neg hn], by unfold invCode; rw [if_neg hn]; exact h⟩
  rcases applyCode_cases xs e with hc | hc | hc | hc
  case inr.inl => exact absurd hc (by have h1 := HOK.out; have h2 := HEK.out; unfold applyCode; simp [h1, h2]; split <;> (try split) <;> first | (rcases editC_cases (applyS xs e) with h | h <;> simp [h]) | simp)
  case inr.inr.inl =>
    have HBD := Lib.hid (hbad 2 hc (by decide))
    rw [hc]
    clear hbad hc
    go_wp2_with fail
    have hz := HB1.out.size
    refine bodyPost_ret (v := .tuple #[.slice (some ⟨w1.heap.size + 1, 0, none⟩) 0 0, .int .i64 2]) (by simp [results, Tryz.results54, go_sem]) rfl ?_
    rw [HBD.out.1, HBD.out.2]
    exact ERes.mk1 (lo := w.heap.size) (hi := _) (HB1.out.alloc hz _) (oeds_empty (by simp) hz) (Nat.le_refl _)
  case inr.inr.inr =>
    have HBD := Lib.hid (hbad 3 hc (by decide))
    rw [hc]
    clear hbad hc
    go_wp2_with fail
    have hz := HB1.out.size
    refine bodyPost_ret (v := .tuple #[.slice (some ⟨w1.heap.size + 1, 0, none⟩) 0 0, .int .i64 3]) (by simp [results, Tryz.results54, go_sem]) rfl ?_
    rw [HBD.out.1, HBD.out.2]
    exact ERes.mk1 (lo := w.heap.size) (hi := _) (HB1.out.alloc hz _) (oeds_empty (by simp) hz) (Nat.le_refl _)
  case inl =>
    have HC0 := Lib.hid hc
    have hls : lens xs = some (lsOf xs) := by
      obtain ⟨ls, h⟩ := (gram_lens HOK.out).2
      simp [lsOf, h]
    have HIO := Lib.hid (show invOut xs e = (invL xs (lsOf xs) e).getD [] by unfold invOut; rw [if_pos hc])
    have HIC := Lib.hid (show invCode xs e = (if (invL xs (lsOf xs) e).isSome then 0 else 3) by unfold invCode; rw [if_pos hc])
    have hgl := gramLen_of hls
    have HF := Lib.hid (fits_nums HEK.out (applyCode_ok hc).2.2)
    have hgb := gramLen_bounds xs
    obtain ⟨ls, hlq⟩ : ∃ ls, lsOf xs = ls := ⟨_, rfl⟩
    rw [hlq] at hls HIO HIC hgl
    have HL := Lib.hid hls
    have HGL := Lib.hid hgl
    have HGB := Lib.hid hgb
    rw [hc]
    clear hbad hc hls hlq hgl hgb
    go_upto_region 4 with fail
    generalize w1.alloc (Obj.cells #[Value.slice A1 (applyOut xs e).length k1] 31) = w2 at *
    have lE := HE1.out.lt
    have lP := HP1.out.lt
    have hs1 := HB1.out.size
    rcases HK.out.1 with hk | hk | hk | hk | hkk
    · have x0 := HE1.out.c0
      rw [hk] at x0
      have HQ := Lib.hid (show invOut xs e = [delE e.i (e.i + gramLen e.part)] ∧ invCode xs e = 0 by rw [HIO.out, HIC.out]; unfold invL; rw [if_pos hk]; exact ⟨rfl, rfl⟩)
      obtain ⟨_, lsP, hlP⟩ := gram_lens HK.out.2.1
      have hgP := gramLen_of hlP
      have hgb2 := gramLen_bounds e.part
      rw [hgP] at HQ hgb2
      have HLP := Lib.hid hlP
      have hF := HF.out
      have hi0 : 0 ≤ e.i ∧ e.i ≤ 1000000000000000 := by have := hF.2.1 hk; have := HGB.out; omega
      have ws : IntKind.i64.wrap (e.i + lastI lsP) = e.i + lastI lsP := IntWalk.i64_in _ (by omega)
      have smP := Lib.hid (okAll_smallL (okAll_lens hlP))
      have hnP : e.part.length ≤ 1099511627776 := by have := gram_len400 HK.out.2.1; omega
      have KI : C1 w2 ⟨E, oE + 1, none⟩ (.int .i64 e.i) := ⟨HE1.out.c1, lE⟩
      clear hgP hgb2 hF hk hlP
      go_wp2_with fail
      have KD := And.intro (Below.drew (Below.refl w2.heap.size w2)) (KI.up (Below.drew (Below.refl _ _))).c
      go_region_held3 (fun w' => Below w2.heap.size w2 w' ∧ w'.cell? ⟨E, oE + 1, none⟩ = some (.int .i64 e.i))
        (first | (with_reducible exact KD) | (with_reducible exact And.intro b3 (KI.up b3).c) | (with_reducible exact And.intro (b3.alloc b3.size _) (KI.up (b3.alloc b3.size _)).c))
        (first | (go_at_call 56; (refine (l02Length_any E (oE + 4) _ e.part lsP _ HLP.out (HE1.out.up (Below.drew (Below.refl _ _))).c4 lE (HR.out.up (Below.drew HB1.out)) smP.out hnP).mono ?_); rintro r w3 ⟨rfl, hb3⟩; have b3 := Below.undrew hb3))
      have HBW := Lib.hid (Below.tr HB1.out b3)
      clear KD
      go_wp2_with fail
      refine bodyPost_ret (v := .tuple #[.slice (some ⟨w3.heap.size, 0, none⟩) 1 1, .int .i64 0]) (by simp [results, Tryz.results54, go_sem]) rfl ?_
      rw [HQ.out.1, HQ.out.2]
      exact ERes.mk1 (lo := w.heap.size) (HBW.out.alloc HBW.out.size _) (oeds_one (e := delE e.i (e.i + lastI lsP)) (u := .slice none 0 0) rfl HBW.out.size (.inl ⟨rfl, none, 0, rfl, Nat.zero_le _⟩)) (Nat.le_refl _)
    · skip
      have x0 := HE1.out.c0
      rw [hk] at x0
      have HKE := Lib.hid hk
      have y1 := HE1.out.c1
      have y2 := HE1.out.c2
      have hF := HF.out
      have hG := HGB.out
      have hij : 0 ≤ e.i ∧ e.i ≤ e.j ∧ e.j ≤ 1000000000000000 := by have := hF.2.2.1 (by omega); omega
      have ws : IntKind.i64.wrap (e.j - e.i) = e.j - e.i := IntWalk.i64_in _ (by omega)
      clear hF hG
      go_wp2_with fail
      go_quiet (fail)
      have HB3 := Lib.hid (below_drewN HB1.out nq)
      have HE3 := Lib.hid (HE1.out.up (below_drewN (Below.refl w2.heap.size w2) nq))
      have HP3 := Lib.hid (HP1.out.up (below_drewN (Below.refl w2.heap.size w2) nq))
      clear HB1 HE1 HP1 x0 y1 y2
      generalize w2.drewN nq = w3 at *
      have x0 := HE3.out.c0
      rw [hk] at x0
      have y1 := HE3.out.c1
      have y2 := HE3.out.c2
      have y3 := HE3.out.c3
      have lE3 := HE3.out.lt
      have hs3 := HB3.out.size
      by_cases hz : e.j - e.i = 0
      · have HQ := Lib.hid (show invOut xs e = [] ∧ invCode xs e = 0 by rw [HIO.out, HIC.out]; unfold invL; rw [if_neg (by omega), if_pos hz]; exact ⟨rfl, rfl⟩)
        clear hk
        go_wp2_with fail
        refine bodyPost_ret (v := .tuple #[.slice (some ⟨w3.heap.size, 0, none⟩) 0 0, .int .i64 0]) (by simp [results, Tryz.results54, go_sem]) rfl ?_
        rw [HQ.out.1, HQ.out.2]
        exact ERes.mk1 (lo := w.heap.size) (HB3.out.alloc hs3 _) (oeds_empty rfl hs3) (Nat.le_refl _)
      · skip
        have k1 : C1 w3 ⟨P, oP, none⟩ (.slice AG xs.length cG) := HP3.out
        have k3 : C1 w3 ⟨E, oE + 1, none⟩ (.int .i64 e.i) := ⟨y1, lE3⟩
        have k4 : C1 w3 ⟨E, oE + 2, none⟩ (.int .i64 e.j) := ⟨y2, lE3⟩
        have lP3 := HP3.out.lt
        have hrange : 0 ≤ e.i ∧ e.i ≤ e.j ∧ e.j ≤ lastI ls := by have h1 := HF.out; have h2 := h1.2.2.1 (by omega); have := HGL.out; omega
        have HY := Lib.hid (partOut_yes HOK.out HL.out hrange)
        have HGP := Lib.hid (partG_gramLen HL.out hrange.1 hrange.2.1 hrange.2.2)
        clear hk
        go_upto_region 18 with fail
        go_cut [9, 10] (fun s9 s10 wx => ∃ (Z : Nat) (A9 : Option Addr) (c9 : Nat), s9 = .pointer (some ⟨Z, 0, none⟩) ∧ s10 = .int .i64 (limCode (partG xs ls e.i e.j)) ∧ w3.heap.size ≤ Z ∧ Below w3.heap.size w3 wx ∧ Blk wx Z #[.slice A9 (limOut (partG xs ls e.i e.j)).length c9] 31 ∧ OwnRules wx w3.heap.size (.slice A9 (limOut (partG xs ls e.i e.j)).length c9) (limOut (partG xs ls e.i e.j)))
        case first =>
          have B0 := Below.drew (Below.refl w3.heap.size w3)
          have BA := Lib.hid (fun (o : Obj) => Below.drew (Below.alloc (Below.refl w3.heap.size w3) (Nat.le_refl _) o))
          have KD := keep3 k1 k3 k4 B0
          go_region_held3 (fun w' => Below w3.heap.size w3 w' ∧ w'.cell? ⟨P, oP, none⟩ = some (.slice AG xs.length cG) ∧ w'.cell? ⟨E, oE + 1, none⟩ = some (.int .i64 e.i) ∧ w'.cell? ⟨E, oE + 2, none⟩ = some (.int .i64 e.j))
            (first | (with_reducible exact KD) | (with_reducible exact keep3 k1 k3 k4 (BA.out _)) | (with_reducible exact keep3 k1 k3 k4 b1) | (with_reducible exact keep3 k1 k3 k4 (b1.alloc z1 _)) | (with_reducible exact keep3 k1 k3 k4 (b1.setCell (Nat.le_refl _) _)))
            (first
              | (go_at_call 103; (refine (specPart_any _ xs e.i e.j _ (HG.out.up (by repeat (first | exact HB3.out | (refine Below.alloc ?_ (by first | omega | (simp; done) | (simp; omega)) _) | (refine Below.setCell ?_ (by first | exact Nat.le_refl _ | (show _ ≤ _; omega) | (simp; done) | (simp; omega)) _) | refine below_drewN ?_ _ | refine Below.drew ?_))) hn sm.out).mono ?_); rintro e9 w5 ⟨hb1, v9, own9, rfl⟩; rw [HY.out.1] at own9; rw [HY.out.2]; obtain ⟨A9, c9, rfl, _⟩ := own_nil own9; have b1 : Below w3.heap.size w3 w5 := (by first | exact Below.undrew hb1 | exact (Below.unalloc (Below.undrew hb1)).1); have z1 := b1.size; (try (obtain ⟨hbz, KR⟩ := Below.unalloc (Below.undrew hb1); have cz := Blk.cell (i := 0) (v := .slice none 0 0) KR rfl; have fz := Blk.frozen KR 0; have lz := Blk.lt KR))))
          all_goals
            go_wp2_with fail
            go_meet
            first
              | exact ⟨w5.heap.size, A9, c9, rfl, rfl, z1, b1.alloc z1 _, Blk.new _ _ _, World.ownsRow.alloc own9 _⟩
              | exact ⟨w3.heap.size, A9, c9, rfl, rfl, Nat.le_refl _, b1.setCell (Nat.le_refl _) _, Blk.set KR 0 _, ownsRow_more (ownsRow_setCell_below own9 (a := ⟨w3.heap.size, 0, none⟩) (by simp [World.drew]) _) (by simp [World.drew])⟩
        case rest =>
          obtain ⟨Z, A9, c9, rfl, rfl, hZ3, hb, KZ, hown⟩ := hcut
          revert hb KZ hown
          generalize wc = w4
          intro hb KZ hown
          have HE4 := Lib.hid (HE3.out.up hb)
          have HZ4 := Lib.hid KZ
          have HB4 := Lib.hid (Below.tr HB3.out hb)
          have HO4 := Lib.hid hown
          have lZ := KZ.lt
          have lE4 := HE4.out.lt
          have hs34 := hb.size
          have hs4 := HB4.out.size
          clear hb KZ hown k1 k3 k4 x0 y1 y2 y3
          cases hq : gramOk (partG xs ls e.i e.j) with
          | false =>
            have q2 : limCode (partG xs ls e.i e.j) = 3 := by unfold limCode; rw [hq]; rfl
            have HQ := Lib.hid (show invOut xs e = [] ∧ invCode xs e = 3 by rw [HIO.out, HIC.out]; unfold invL; have := HKE.out; rw [if_neg (by omega), if_neg hz, if_neg (by omega), if_neg (by omega), if_neg (by omega), hq]; exact ⟨rfl, rfl⟩)
            rw [q2]
            clear hq q2
            go_wp2_with fail
            refine bodyPost_ret (v := .tuple #[.slice (some ⟨w4.heap.size, 0, none⟩) 0 0, .int .i64 3]) (by simp [results, Tryz.results54, go_sem]) rfl ?_
            rw [HQ.out.1, HQ.out.2]
            exact ERes.mk1 (lo := w.heap.size) (HB4.out.alloc hs4 _) (oeds_empty rfl hs4) (Nat.le_refl _)
          | true =>
            have q1 : limOut (partG xs ls e.i e.j) = partG xs ls e.i e.j := by unfold limOut; rw [hq]; rfl
            have q2 : limCode (partG xs ls e.i e.j) = 0 := by unfold limCode; rw [hq]; rfl
            have HQ := Lib.hid (show invOut xs e = invD e ++ [insE e.i (partG xs ls e.i e.j)] ∧ invCode xs e = 0 by rw [HIO.out, HIC.out]; unfold invL; have := HKE.out; rw [if_neg (by omega), if_neg hz, if_neg (by omega), if_neg (by omega), if_neg (by omega), hq]; exact ⟨rfl, rfl⟩)
            have HGq := Lib.hid hq
            rw [q1] at HZ4 HO4
            rw [q2]
            clear q1 q2 hq HY
            generalize hpq : partG xs ls e.i e.j = p at *
            have HPQ := Lib.hid hpq
            clear hpq
            have HD := Lib.hid (show invD e = [] by unfold invD; rw [if_pos HKE.out])
            have x0 := HE4.out.c0
            rw [HKE.out] at x0
            have y1 := HE4.out.c1
            have y3 := HE4.out.c3
            have c4 := HZ4.out.cell (i := 0) (v := .slice A9 p.length c9) rfl
            have bA := (Below.refl w4.heap.size w4).alloc (Nat.le_refl _) (Obj.cells #[] 36)
            have KO := oedp_empty (W := w4) (lo := w3.heap.size) rfl hs34
            have HE5 := Lib.hid (HE4.out.up bA)
            have HZ5 := Lib.hid (HZ4.out.up bA)
            have HO5 := Lib.hid (OwnRules.below HO4.out bA)
            have HB5 := Lib.hid (Below.tr HB4.out bA)
            have HKO := Lib.hid KO
            have hs5 : w4.heap.size < (w4.alloc (Obj.cells #[] 36)).heap.size := by simp
            clear bA KO x0 y1 y3 c4
            go_upto_region 23 with fail
            generalize w4.alloc (Obj.cells #[] 36) = w5 at *
            have x0 := HE5.out.c0
            rw [HKE.out] at x0
            have y1 := HE5.out.c1
            have y3 := HE5.out.c3
            have lE5 := HE5.out.lt
            have c5 := HZ5.out.cell (i := 0) (v := .slice A9 p.length c9) rfl
            have lZ5 := HZ5.out.lt
            go_wp2_with fail
            have KS : ∀ W : World, (∀ x, x < w4.heap.size → W.heap[x]? = w5.heap[x]?) → W.cell? ⟨E, oE + 1, none⟩ = some (.int .i64 e.i) ∧ W.cell? ⟨Z, 0, none⟩ = some (.slice A9 p.length c9) := fun W hW => And.intro (HE5.out.same (hW E lE4)).c1 (Blk.cell (w := W) (show W.heap[Z]? = _ from (hW Z lZ).trans HZ5.out) rfl)
            have KD := KS w5.drew (fun _ _ => rfl)
            have KA := fun (o : Obj) => KS (w5.alloc o).drew (fun x hx => Below.heap_alloc w5 o x (by omega))
            go_region_held3 (fun w' => w'.cell? ⟨E, oE + 1, none⟩ = some (.int .i64 e.i) ∧ w'.cell? ⟨Z, 0, none⟩ = some (.slice A9 p.length c9))
              (first | (with_reducible exact KD) | (with_reducible exact KA _) | (with_reducible exact KS _ k9))
              (first
                | (refine step_push_edit w5.drew (e := insE e.i p) (u := .slice A9 p.length c9) (by rfl) (by rfl) _ _ (by rfl) (lo := w3.heap.size) (hp := w3.heap.size) (pa := w3.heap.size) (pb := w4.heap.size) (v := .slice (some ⟨w4.heap.size, 0, none⟩) 0 0) (es := []) (by rfl) (by first | rfl | simp) rfl (HKO.out.keep (Below.drew (Below.refl _ _)) (by omega)) (by simp) (show w3.heap.size ≤ w5.heap.size by omega) (by simp [Value.oneCell']) ⟨.inr ⟨HO5.out, fun g hg => (World.ownsRow.lt HO4.out g hg).2, show w4.heap.size ≤ w5.heap.size by omega⟩, fun g hg => by simp [Value.ownBlock] at hg; omega⟩ (Nat.le_refl _) hs34 (show w4.heap.size ≤ w5.heap.size by omega) (Nat.le_refl _) ?_; intro g9 c9' w9 own9 hg9 hgr9 hb9; have k9 : ∀ x, x < w4.heap.size → w9.heap[x]? = w5.heap[x]? := (fun x hx => hgr9.block x (show x < w5.heap.size by omega) (fun e => by simp [Value.ownBlock] at e; omega))))
            go_wp2_with fail
            refine bodyPost_ret (v := .tuple #[.slice (some ⟨g9, 0, none⟩) 1 c9', .int .i64 0]) (by simp [results, Tryz.results54, go_sem]) rfl ?_
            rw [HQ.out.1, HQ.out.2, HD.out]
            exact ERes.mk1 (lo := w3.heap.size) (Below.trans (Below.drew HB5.out) ((hb9.mono (show w.heap.size ≤ w3.heap.size from hs3)))) (OEdP.oeds own9 (by have h : w5.heap.size ≤ w9.heap.size := hb9.size; omega)) hs3
    · skip
      have x0 := HE1.out.c0
      rw [hk] at x0
      have HKE := Lib.hid hk
      have y1 := HE1.out.c1
      have y2 := HE1.out.c2
      have hF := HF.out
      have hG := HGB.out
      have hij : 0 ≤ e.i ∧ e.i ≤ e.j ∧ e.j ≤ 1000000000000000 := by have := hF.2.2.1 (by omega); omega
      have ws : IntKind.i64.wrap (e.j - e.i) = e.j - e.i := IntWalk.i64_in _ (by omega)
      clear hF hG
      go_wp2_with fail
      go_quiet (fail)
      have HB3 := Lib.hid (below_drewN HB1.out nq)
      have HE3 := Lib.hid (HE1.out.up (below_drewN (Below.refl w2.heap.size w2) nq))
      have HP3 := Lib.hid (HP1.out.up (below_drewN (Below.refl w2.heap.size w2) nq))
      clear HB1 HE1 HP1 x0 y1 y2
      generalize w2.drewN nq = w3 at *
      have x0 := HE3.out.c0
      rw [hk] at x0
      have y1 := HE3.out.c1
      have y2 := HE3.out.c2
      have y3 := HE3.out.c3
      have lE3 := HE3.out.lt
      have hs3 := HB3.out.size
      by_cases hz : e.j - e.i = 0
      · have HQ := Lib.hid (show invOut xs e = [] ∧ invCode xs e = 0 by rw [HIO.out, HIC.out]; unfold invL; rw [if_neg (by omega), if_pos hz]; exact ⟨rfl, rfl⟩)
        clear hk
        go_wp2_with fail
        refine bodyPost_ret (v := .tuple #[.slice (some ⟨w3.heap.size, 0, none⟩) 0 0, .int .i64 0]) (by simp [results, Tryz.results54, go_sem]) rfl ?_
        rw [HQ.out.1, HQ.out.2]
        exact ERes.mk1 (lo := w.heap.size) (HB3.out.alloc hs3 _) (oeds_empty rfl hs3) (Nat.le_refl _)
      · have HQ := Lib.hid (show invOut xs e = [delE e.k (e.k + (e.j - e.i))] ∧ invCode xs e = 0 by rw [HIO.out, HIC.out]; unfold invL; rw [if_neg (by omega), if_neg hz, if_pos hk]; exact ⟨rfl, rfl⟩)
        have hkb : 0 ≤ e.k ∧ e.k ≤ 1000000000000000 := by have h1 := HF.out.2.2.2.1 hk; have := HGB.out; omega
        have wk : IntKind.i64.wrap (e.k + (e.j - e.i)) = e.k + (e.j - e.i) := IntWalk.i64_in _ (by omega)
        clear hk
        go_wp2_with fail
        go_still_tail 11, (by kernel_rfl)
        change wpList _ _ _ _ _ w3.drew
        have HBW := Lib.hid (Below.drew HB3.out)
        generalize w3.drew = w4 at *
        go_wp2_with fail
        refine bodyPost_ret (v := .tuple #[.slice (some ⟨w4.heap.size, 0, none⟩) 1 1, .int .i64 0]) (by simp [results, Tryz.results54, go_sem]) rfl ?_
        rw [HQ.out.1, HQ.out.2]
        exact ERes.mk1 (lo := w.heap.size) (HBW.out.alloc HBW.out.size _) (oeds_one (e := delE e.k (e.k + (e.j - e.i))) (u := .slice none 0 0) rfl HBW.out.size (.inl ⟨rfl, none, 0, rfl, Nat.zero_le _⟩)) (Nat.le_refl _)
    · skip
      have x0 := HE1.out.c0
      rw [hk] at x0
      have HKE := Lib.hid hk
      have y1 := HE1.out.c1
      have y2 := HE1.out.c2
      have hF := HF.out
      have hG := HGB.out
      have hij : 0 ≤ e.i ∧ e.i ≤ e.j ∧ e.j ≤ 1000000000000000 := by have := hF.2.2.1 (by omega); omega
      have ws : IntKind.i64.wrap (e.j - e.i) = e.j - e.i := IntWalk.i64_in _ (by omega)
      clear hF hG
      go_wp2_with fail
      go_quiet (fail)
      have HB3 := Lib.hid (below_drewN HB1.out nq)
      have HE3 := Lib.hid (HE1.out.up (below_drewN (Below.refl w2.heap.size w2) nq))
      have HP3 := Lib.hid (HP1.out.up (below_drewN (Below.refl w2.heap.size w2) nq))
      clear HB1 HE1 HP1 x0 y1 y2
      generalize w2.drewN nq = w3 at *
      have x0 := HE3.out.c0
      rw [hk] at x0
      have y1 := HE3.out.c1
      have y2 := HE3.out.c2
      have y3 := HE3.out.c3
      have lE3 := HE3.out.lt
      have hs3 := HB3.out.size
      by_cases hz : e.j - e.i = 0
      · have HQ := Lib.hid (show invOut xs e = [] ∧ invCode xs e = 0 by rw [HIO.out, HIC.out]; unfold invL; rw [if_neg (by omega), if_pos hz]; exact ⟨rfl, rfl⟩)
        clear hk
        go_wp2_with fail
        refine bodyPost_ret (v := .tuple #[.slice (some ⟨w3.heap.size, 0, none⟩) 0 0, .int .i64 0]) (by simp [results, Tryz.results54, go_sem]) rfl ?_
        rw [HQ.out.1, HQ.out.2]
        exact ERes.mk1 (lo := w.heap.size) (HB3.out.alloc hs3 _) (oeds_empty rfl hs3) (Nat.le_refl _)
      · have hkb : 0 ≤ e.k ∧ e.k ≤ 1000000000000000 := by have h1 := HF.out.2.2.2.2 hk; have := HGB.out; omega
        have wk : IntKind.i64.wrap (e.k + (e.j - e.i)) = e.k + (e.j - e.i) := IntWalk.i64_in _ (by omega)
        have wl : IntKind.i64.wrap (e.k - (e.j - e.i)) = e.k - (e.j - e.i) := IntWalk.i64_in _ (by omega)
        by_cases hki : e.k ≤ e.i
        · have HQ := Lib.hid (show invOut xs e = [movE e.k (e.k + (e.j - e.i)) e.j] ∧ invCode xs e = 0 by rw [HIO.out, HIC.out]; unfold invL; rw [if_neg (by omega), if_neg hz, if_neg (by omega), if_pos hk, if_pos hki]; exact ⟨rfl, rfl⟩)
          clear hk
          go_wp2_with fail
          go_quiet (fail)
          have HB5 := Lib.hid (below_drewN HB3.out nq)
          have HE5 := Lib.hid (HE3.out.up (below_drewN (Below.refl w3.heap.size w3) nq))
          clear x0 y1 y2 y3 HB3 HE3 lE3 hs3
          generalize w3.drewN nq = w5 at *
          have HB3 := HB5
          have y1 := HE5.out.c1
          have y2 := HE5.out.c2
          have y3 := HE5.out.c3
          have lE5 := HE5.out.lt
          go_wp2_with fail
          go_still_tail 15, (by kernel_rfl)
          change wpList _ _ _ _ _ w5.drew
          have HBW := Lib.hid (Below.drew HB3.out)
          generalize w5.drew = w4 at *
          go_wp2_with fail
          refine bodyPost_ret (v := .tuple #[.slice (some ⟨w4.heap.size, 0, none⟩) 1 1, .int .i64 0]) (by simp [results, Tryz.results54, go_sem]) rfl ?_
          rw [HQ.out.1, HQ.out.2]
          exact ERes.mk1 (lo := w.heap.size) (HBW.out.alloc HBW.out.size _) (oeds_one (e := movE e.k (e.k + (e.j - e.i)) e.j) (u := .slice none 0 0) rfl HBW.out.size (.inl ⟨rfl, none, 0, rfl, Nat.zero_le _⟩)) (Nat.le_refl _)
        · have HQ := Lib.hid (show invOut xs e = [movE (e.k - (e.j - e.i)) e.k e.i] ∧ invCode xs e = 0 by rw [HIO.out, HIC.out]; unfold invL; rw [if_neg (by omega), if_neg hz, if_neg (by omega), if_pos hk, if_neg hki]; exact ⟨rfl, rfl⟩)
          clear hk
          go_wp2_with fail
          go_quiet (fail)
          have HB5 := Lib.hid (below_drewN HB3.out nq)
          have HE5 := Lib.hid (HE3.out.up (below_drewN (Below.refl w3.heap.size w3) nq))
          clear x0 y1 y2 y3 HB3 HE3 lE3 hs3
          generalize w3.drewN nq = w5 at *
          have HB3 := HB5
          have y1 := HE5.out.c1
          have y2 := HE5.out.c2
          have y3 := HE5.out.c3
          have lE5 := HE5.out.lt
          go_wp2_with fail
          go_still_tail 15, (by kernel_rfl)
          change wpList _ _ _ _ _ w5.drew
          have HBW := Lib.hid (Below.drew HB3.out)
          generalize w5.drew = w4 at *
          go_wp2_with fail
          refine bodyPost_ret (v := .tuple #[.slice (some ⟨w4.heap.size, 0, none⟩) 1 1, .int .i64 0]) (by simp [results, Tryz.results54, go_sem]) rfl ?_
          rw [HQ.out.1, HQ.out.2]
          exact ERes.mk1 (lo := w.heap.size) (HBW.out.alloc HBW.out.size _) (oeds_one (e := movE (e.k - (e.j - e.i)) e.k e.i) (u := .slice none 0 0) rfl HBW.out.size (.inl ⟨rfl, none, 0, rfl, Nat.zero_le _⟩)) (Nat.le_refl _)
    · have HCK := Lib.hid hkk
      have hk567 : e.kind = 5 ∨ e.kind = 6 ∨ e.kind = 7 := by unfold chgOK at hkk; omega
      clear hkk
      rcases hk567 with hk | hk | hk
      · skip
        have x0 := HE1.out.c0
        rw [hk] at x0
        have HKE := Lib.hid hk
        have y1 := HE1.out.c1
        have y2 := HE1.out.c2
        have hF := HF.out
        have hG := HGB.out
        have hij : 0 ≤ e.i ∧ e.i ≤ e.j ∧ e.j ≤ 1000000000000000 := by have := hF.2.2.1 (by omega); omega
        have ws : IntKind.i64.wrap (e.j - e.i) = e.j - e.i := IntWalk.i64_in _ (by omega)
        clear hF hG
        go_wp2_with fail
        go_quiet (fail)
        have HB3 := Lib.hid (below_drewN HB1.out nq)
        have HE3 := Lib.hid (HE1.out.up (below_drewN (Below.refl w2.heap.size w2) nq))
        have HP3 := Lib.hid (HP1.out.up (below_drewN (Below.refl w2.heap.size w2) nq))
        clear HB1 HE1 HP1 x0 y1 y2
        generalize w2.drewN nq = w3 at *
        have x0 := HE3.out.c0
        rw [hk] at x0
        have y1 := HE3.out.c1
        have y2 := HE3.out.c2
        have y3 := HE3.out.c3
        have lE3 := HE3.out.lt
        have hs3 := HB3.out.size
        by_cases hz : e.j - e.i = 0
        · have HQ := Lib.hid (show invOut xs e = [] ∧ invCode xs e = 0 by rw [HIO.out, HIC.out]; unfold invL; rw [if_neg (by omega), if_pos hz]; exact ⟨rfl, rfl⟩)
          clear hk
          go_wp2_with fail
          refine bodyPost_ret (v := .tuple #[.slice (some ⟨w3.heap.size, 0, none⟩) 0 0, .int .i64 0]) (by simp [results, Tryz.results54, go_sem]) rfl ?_
          rw [HQ.out.1, HQ.out.2]
          exact ERes.mk1 (lo := w.heap.size) (HB3.out.alloc hs3 _) (oeds_empty rfl hs3) (Nat.le_refl _)
        · have HQ := Lib.hid (show invOut xs e = [turnE e.i e.j] ∧ invCode xs e = 0 by rw [HIO.out, HIC.out]; unfold invL; rw [if_neg (by omega), if_neg hz, if_neg (by omega), if_neg (by omega), if_pos hk]; exact ⟨rfl, rfl⟩)
          clear hk
          go_wp2_with fail
          go_still_tail 9, (by kernel_rfl)
          change wpList _ _ _ _ _ w3.drew
          have HBW := Lib.hid (Below.drew HB3.out)
          generalize w3.drew = w4 at *
          go_wp2_with fail
          refine bodyPost_ret (v := .tuple #[.slice (some ⟨w4.heap.size, 0, none⟩) 1 1, .int .i64 0]) (by simp [results, Tryz.results54, go_sem]) rfl ?_
          rw [HQ.out.1, HQ.out.2]
          exact ERes.mk1 (lo := w.heap.size) (HBW.out.alloc HBW.out.size _) (oeds_one (e := turnE e.i e.j) (u := .slice none 0 0) rfl HBW.out.size (.inl ⟨rfl, none, 0, rfl, Nat.zero_le _⟩)) (Nat.le_refl _)
      · skip
        have x0 := HE1.out.c0
        rw [hk] at x0
        have HKE := Lib.hid hk
        have y1 := HE1.out.c1
        have y2 := HE1.out.c2
        have hF := HF.out
        have hG := HGB.out
        have hij : 0 ≤ e.i ∧ e.i ≤ e.j ∧ e.j ≤ 1000000000000000 := by have := hF.2.2.1 (by omega); omega
        have ws : IntKind.i64.wrap (e.j - e.i) = e.j - e.i := IntWalk.i64_in _ (by omega)
        clear hF hG
        go_wp2_with fail
        go_quiet (fail)
        have HB3 := Lib.hid (below_drewN HB1.out nq)
        have HE3 := Lib.hid (HE1.out.up (below_drewN (Below.refl w2.heap.size w2) nq))
        have HP3 := Lib.hid (HP1.out.up (below_drewN (Below.refl w2.heap.size w2) nq))
        clear HB1 HE1 HP1 x0 y1 y2
        generalize w2.drewN nq = w3 at *
        have x0 := HE3.out.c0
        rw [hk] at x0
        have y1 := HE3.out.c1
        have y2 := HE3.out.c2
        have y3 := HE3.out.c3
        have lE3 := HE3.out.lt
        have hs3 := HB3.out.size
        by_cases hz : e.j - e.i = 0
        · have HQ := Lib.hid (show invOut xs e = [] ∧ invCode xs e = 0 by rw [HIO.out, HIC.out]; unfold invL; rw [if_neg (by omega), if_pos hz]; exact ⟨rfl, rfl⟩)
          clear hk
          go_wp2_with fail
          refine bodyPost_ret (v := .tuple #[.slice (some ⟨w3.heap.size, 0, none⟩) 0 0, .int .i64 0]) (by simp [results, Tryz.results54, go_sem]) rfl ?_
          rw [HQ.out.1, HQ.out.2]
          exact ERes.mk1 (lo := w.heap.size) (HB3.out.alloc hs3 _) (oeds_empty rfl hs3) (Nat.le_refl _)
        · skip
          have k1 : C1 w3 ⟨P, oP, none⟩ (.slice AG xs.length cG) := HP3.out
          have k3 : C1 w3 ⟨E, oE + 1, none⟩ (.int .i64 e.i) := ⟨y1, lE3⟩
          have k4 : C1 w3 ⟨E, oE + 2, none⟩ (.int .i64 e.j) := ⟨y2, lE3⟩
          have lP3 := HP3.out.lt
          have hrange : 0 ≤ e.i ∧ e.i ≤ e.j ∧ e.j ≤ lastI ls := by have h1 := HF.out; have h2 := h1.2.2.1 (by omega); have := HGL.out; omega
          have HY := Lib.hid (partOut_yes HOK.out HL.out hrange)
          have HGP := Lib.hid (partG_gramLen HL.out hrange.1 hrange.2.1 hrange.2.2)
          have HRB := Lib.hid (rep_bound HC0.out HKE.out HL.out HGP.out)
          clear hk
          go_upto_region 18 with fail
          go_cut [9, 10] (fun s9 s10 wx => ∃ (Z : Nat) (A9 : Option Addr) (c9 : Nat), s9 = .pointer (some ⟨Z, 0, none⟩) ∧ s10 = .int .i64 (limCode (partG xs ls e.i e.j)) ∧ w3.heap.size ≤ Z ∧ Below w3.heap.size w3 wx ∧ Blk wx Z #[.slice A9 (limOut (partG xs ls e.i e.j)).length c9] 31 ∧ OwnRules wx w3.heap.size (.slice A9 (limOut (partG xs ls e.i e.j)).length c9) (limOut (partG xs ls e.i e.j)))
          case first =>
            have B0 := Below.drew (Below.refl w3.heap.size w3)
            have BA := Lib.hid (fun (o : Obj) => Below.drew (Below.alloc (Below.refl w3.heap.size w3) (Nat.le_refl _) o))
            have KD := keep3 k1 k3 k4 B0
            go_region_held3 (fun w' => Below w3.heap.size w3 w' ∧ w'.cell? ⟨P, oP, none⟩ = some (.slice AG xs.length cG) ∧ w'.cell? ⟨E, oE + 1, none⟩ = some (.int .i64 e.i) ∧ w'.cell? ⟨E, oE + 2, none⟩ = some (.int .i64 e.j))
              (first | (with_reducible exact KD) | (with_reducible exact keep3 k1 k3 k4 (BA.out _)) | (with_reducible exact keep3 k1 k3 k4 b1) | (with_reducible exact keep3 k1 k3 k4 (b1.alloc z1 _)) | (with_reducible exact keep3 k1 k3 k4 (b1.setCell (Nat.le_refl _) _)))
              (first
                | (go_at_call 103; (refine (specPart_any _ xs e.i e.j _ (HG.out.up (by repeat (first | exact HB3.out | (refine Below.alloc ?_ (by first | omega | (simp; done) | (simp; omega)) _) | (refine Below.setCell ?_ (by first | exact Nat.le_refl _ | (show _ ≤ _; omega) | (simp; done) | (simp; omega)) _) | refine below_drewN ?_ _ | refine Below.drew ?_))) hn sm.out).mono ?_); rintro e9 w5 ⟨hb1, v9, own9, rfl⟩; rw [HY.out.1] at own9; rw [HY.out.2]; obtain ⟨A9, c9, rfl, _⟩ := own_nil own9; have b1 : Below w3.heap.size w3 w5 := (by first | exact Below.undrew hb1 | exact (Below.unalloc (Below.undrew hb1)).1); have z1 := b1.size; (try (obtain ⟨hbz, KR⟩ := Below.unalloc (Below.undrew hb1); have cz := Blk.cell (i := 0) (v := .slice none 0 0) KR rfl; have fz := Blk.frozen KR 0; have lz := Blk.lt KR))))
            all_goals
              go_wp2_with fail
              go_meet
              first
                | exact ⟨w5.heap.size, A9, c9, rfl, rfl, z1, b1.alloc z1 _, Blk.new _ _ _, World.ownsRow.alloc own9 _⟩
                | exact ⟨w3.heap.size, A9, c9, rfl, rfl, Nat.le_refl _, b1.setCell (Nat.le_refl _) _, Blk.set KR 0 _, ownsRow_more (ownsRow_setCell_below own9 (a := ⟨w3.heap.size, 0, none⟩) (by simp [World.drew]) _) (by simp [World.drew])⟩
          case rest =>
            obtain ⟨Z, A9, c9, rfl, rfl, hZ3, hb, KZ, hown⟩ := hcut
            revert hb KZ hown
            generalize wc = w4
            intro hb KZ hown
            have HE4 := Lib.hid (HE3.out.up hb)
            have HZ4 := Lib.hid KZ
            have HB4 := Lib.hid (Below.tr HB3.out hb)
            have HO4 := Lib.hid hown
            have lZ := KZ.lt
            have lE4 := HE4.out.lt
            have hs34 := hb.size
            have hs4 := HB4.out.size
            clear hb KZ hown k1 k3 k4 x0 y1 y2 y3
            cases hq : gramOk (partG xs ls e.i e.j) with
            | false =>
              have q2 : limCode (partG xs ls e.i e.j) = 3 := by unfold limCode; rw [hq]; rfl
              have HQ := Lib.hid (show invOut xs e = [] ∧ invCode xs e = 3 by rw [HIO.out, HIC.out]; unfold invL; have := HKE.out; rw [if_neg (by omega), if_neg hz, if_neg (by omega), if_neg (by omega), if_neg (by omega), hq]; exact ⟨rfl, rfl⟩)
              rw [q2]
              clear hq q2
              go_wp2_with fail
              refine bodyPost_ret (v := .tuple #[.slice (some ⟨w4.heap.size, 0, none⟩) 0 0, .int .i64 3]) (by simp [results, Tryz.results54, go_sem]) rfl ?_
              rw [HQ.out.1, HQ.out.2]
              exact ERes.mk1 (lo := w.heap.size) (HB4.out.alloc hs4 _) (oeds_empty rfl hs4) (Nat.le_refl _)
            | true =>
              have q1 : limOut (partG xs ls e.i e.j) = partG xs ls e.i e.j := by unfold limOut; rw [hq]; rfl
              have q2 : limCode (partG xs ls e.i e.j) = 0 := by unfold limCode; rw [hq]; rfl
              have HQ := Lib.hid (show invOut xs e = invD e ++ [insE e.i (partG xs ls e.i e.j)] ∧ invCode xs e = 0 by rw [HIO.out, HIC.out]; unfold invL; have := HKE.out; rw [if_neg (by omega), if_neg hz, if_neg (by omega), if_neg (by omega), if_neg (by omega), hq]; exact ⟨rfl, rfl⟩)
              have HGq := Lib.hid hq
              rw [q1] at HZ4 HO4
              rw [q2]
              clear q1 q2 hq HY
              generalize hpq : partG xs ls e.i e.j = p at *
              have HPQ := Lib.hid hpq
              clear hpq
              have hrb := HRB.out
              have hk0 : 0 ≤ e.k := by rcases HCK.out with h | ⟨_, h, _⟩ | ⟨h, _⟩ <;> (have := HKE.out; omega)
              have wm : IntKind.i64.wrap ((e.j - e.i) * e.k) = (e.j - e.i) * e.k := IntWalk.i64_in _ (by have := Int.mul_nonneg (show 0 ≤ e.j - e.i by omega) hk0; omega)
              have hm0 : 0 ≤ (e.j - e.i) * e.k := Int.mul_nonneg (by omega) hk0
              obtain ⟨M, hM⟩ : ∃ M, (e.j - e.i) * e.k = M := ⟨_, rfl⟩
              rw [hM] at wm hrb hm0
              have HM := Lib.hid hM
              by_cases h0 : 0 < M
              · have HD := Lib.hid (show invD e = [delE e.i (e.i + M)] by unfold invD; rw [if_neg (by have := HKE.out; omega), if_pos HKE.out, hM, if_pos h0])
                have wa : IntKind.i64.wrap (e.i + M) = e.i + M := IntWalk.i64_in _ (by omega)
                have x0 := HE4.out.c0
                rw [HKE.out] at x0
                have y1 := HE4.out.c1
                have y3 := HE4.out.c3
                have bA := (Below.refl w4.heap.size w4).alloc (Nat.le_refl _) (Obj.cells #[] 36)
                have KO := oedp_empty (W := w4) (lo := w3.heap.size) rfl hs34
                have HE5 := Lib.hid (HE4.out.up bA)
                have HZ5 := Lib.hid (HZ4.out.up bA)
                have HO5 := Lib.hid (OwnRules.below HO4.out bA)
                have HB5 := Lib.hid (Below.tr HB4.out bA)
                have HKO := Lib.hid KO
                have hs5 : w4.heap.size < (w4.alloc (Obj.cells #[] 36)).heap.size := by simp
                clear bA KO x0 y1 y3
                go_upto_region 23 with fail
                generalize w4.alloc (Obj.cells #[] 36) = w5 at *
                have x0 := HE5.out.c0
                rw [HKE.out] at x0
                have y1 := HE5.out.c1
                have y3 := HE5.out.c3
                have lE5 := HE5.out.lt
                go_wp2_with fail
                have KS : ∀ W : World, (∀ x, x < w4.heap.size → W.heap[x]? = w5.heap[x]?) → W.cell? ⟨E, oE + 1, none⟩ = some (.int .i64 e.i) := fun W hW => (HE5.out.same (hW E lE4)).c1
                have KD := KS w5.drew (fun _ _ => rfl)
                have KA := fun (o : Obj) => KS (w5.alloc o).drew (fun x hx => Below.heap_alloc w5 o x (by omega))
                go_region_held3 (fun w' => w'.cell? ⟨E, oE + 1, none⟩ = some (.int .i64 e.i))
                  (first | (with_reducible exact KD) | (with_reducible exact KA _) | (with_reducible exact KS _ k6))
                  (first
                    | (refine step_push_edit w5.drew (e := delE e.i (e.i + M)) (u := .slice none 0 0) (by rfl) (by rfl) _ _ (by rfl) (lo := w3.heap.size) (hp := w3.heap.size) (pa := w3.heap.size) (pb := w3.heap.size) (v := .slice (some ⟨w4.heap.size, 0, none⟩) 0 0) (es := []) (by rfl) (by first | rfl | simp) rfl (HKO.out.keep (Below.drew (Below.refl _ _)) (by omega)) (by simp) (show w3.heap.size ≤ w5.heap.size by omega) (by simp [Value.oneCell']) ⟨.inl ⟨rfl, none, 0, rfl, Nat.zero_le _⟩, fun g hg => by simp [Value.ownBlock] at hg; omega⟩ (Nat.le_refl _) (Nat.le_refl _) (show w3.heap.size ≤ w5.heap.size by omega) (Nat.le_refl _) ?_; intro g6 c6 w6 own6 hg6 hgr6 hb6; have k6 : ∀ x, x < w4.heap.size → w6.heap[x]? = w5.heap[x]? := (fun x hx => hgr6.block x (show x < w5.heap.size by omega) (fun e => by simp [Value.ownBlock] at e; omega))))
                have hs6 := hgr6.size
                have hne : ∀ x, x < w4.heap.size → some x ≠ (Value.slice (some ⟨w4.heap.size, 0, none⟩) 0 0).ownBlock := fun x hx e => by simp [Value.ownBlock] at e; omega
                have keep6 : ∀ x, x < w4.heap.size → w6.heap[x]? = w5.heap[x]? := fun x hx => hgr6.block x (by show x < w5.heap.size; omega) (hne x hx)
                have HE6 := Lib.hid (HE5.out.same (keep6 E lE4))
                have HZ6 := Lib.hid (show Blk w6 Z #[.slice A9 p.length c9] 31 from (keep6 Z lZ).trans HZ5.out)
                have HO6 := Lib.hid (own_keep HO5.out (fun g hg => keep6 g (World.ownsRow.lt HO4.out g hg).2))
                have HB6 := Lib.hid (Below.trans (Below.drew HB5.out) (hb6.mono hs3))
                have HO66 := Lib.hid own6
                have hg66 : w4.heap.size ≤ g6 := by
                  rcases hg6 with h | h
                  · simp [Value.ownBlock] at h; omega
                  · rw [h]; show w4.heap.size ≤ w5.heap.size + 1; omega
                have hs56 : w5.heap.size ≤ w6.heap.size := hs6
                clear own6 hg6 hgr6 hb6 hs6 hne keep6 x0 y1 y3 KS KD KA k6
                have x0 := HE6.out.c0
                rw [HKE.out] at x0
                have y1 := HE6.out.c1
                have y3 := HE6.out.c3
                have lE6 := HE6.out.lt
                have c6' := HZ6.out.cell (i := 0) (v := .slice A9 p.length c9) rfl
                have lZ6 := HZ6.out.lt
                go_wp2_with fail
                have KS : ∀ W : World, (∀ x, x < w4.heap.size → W.heap[x]? = w6.heap[x]?) → W.cell? ⟨E, oE + 1, none⟩ = some (.int .i64 e.i) ∧ W.cell? ⟨Z, 0, none⟩ = some (.slice A9 p.length c9) := fun W hW => And.intro (HE6.out.same (hW E lE4)).c1 (Blk.cell (w := W) (show W.heap[Z]? = _ from (hW Z lZ).trans HZ6.out) rfl)
                have KD := KS w6.drew (fun _ _ => rfl)
                have KA := fun (o : Obj) => KS (w6.alloc o).drew (fun x hx => Below.heap_alloc w6 o x (by omega))
                go_region_held3 (fun w' => w'.cell? ⟨E, oE + 1, none⟩ = some (.int .i64 e.i) ∧ w'.cell? ⟨Z, 0, none⟩ = some (.slice A9 p.length c9))
                  (first | (with_reducible exact KD) | (with_reducible exact KA _) | (with_reducible exact KS _ k9))
                  (first
                    | (refine step_push_edit w6.drew (e := insE e.i p) (u := .slice A9 p.length c9) (by rfl) (by rfl) _ _ (by rfl) (lo := w3.heap.size) (hp := w3.heap.size) (pa := w3.heap.size) (pb := w4.heap.size) (v := .slice (some ⟨g6, 0, none⟩) 1 c6) (es := [delE e.i (e.i + M)]) (by rfl) (by first | rfl | simp) rfl (HO66.out.keep (Below.drew (Below.refl _ _)) (by omega)) (by simp) (show w3.heap.size ≤ w6.heap.size by omega) (by simp [Value.oneCell']) ⟨.inr ⟨HO6.out, fun g hg => (World.ownsRow.lt HO4.out g hg).2, show w4.heap.size ≤ w6.heap.size by omega⟩, fun g hg => by simp [Value.ownBlock] at hg; omega⟩ (Nat.le_refl _) hs34 (show w4.heap.size ≤ w6.heap.size by omega) (Nat.le_refl _) ?_; intro g9 c9' w9 own9 hg9 hgr9 hb9; have k9 : ∀ x, x < w4.heap.size → w9.heap[x]? = w6.heap[x]? := (fun x hx => hgr9.block x (show x < w6.heap.size by omega) (fun e => by simp [Value.ownBlock] at e; omega))))
                go_wp2_with fail
                refine bodyPost_ret (v := .tuple #[.slice (some ⟨g9, 0, none⟩) 2 c9', .int .i64 0]) (by simp [results, Tryz.results54, go_sem]) rfl ?_
                rw [HQ.out.1, HQ.out.2, HD.out]
                exact ERes.mk1 (lo := w3.heap.size) (Below.trans (Below.drew HB6.out) ((hb9.mono (show w.heap.size ≤ w3.heap.size from hs3)))) (OEdP.oeds own9 (by have h : w6.heap.size ≤ w9.heap.size := hb9.size; omega)) hs3
              · have hM0 : M = 0 := by omega
                have HD := Lib.hid (show invD e = [] by unfold invD; rw [if_neg (by have := HKE.out; omega), if_pos HKE.out, hM, if_neg h0])
                have x0 := HE4.out.c0
                rw [HKE.out] at x0
                have y1 := HE4.out.c1
                have y3 := HE4.out.c3
                skip
                have c4 := HZ4.out.cell (i := 0) (v := .slice A9 p.length c9) rfl
                have bA := (Below.refl w4.heap.size w4).alloc (Nat.le_refl _) (Obj.cells #[] 36)
                have KO := oedp_empty (W := w4) (lo := w3.heap.size) rfl hs34
                have HE5 := Lib.hid (HE4.out.up bA)
                have HZ5 := Lib.hid (HZ4.out.up bA)
                have HO5 := Lib.hid (OwnRules.below HO4.out bA)
                have HB5 := Lib.hid (Below.tr HB4.out bA)
                have HKO := Lib.hid KO
                have hs5 : w4.heap.size < (w4.alloc (Obj.cells #[] 36)).heap.size := by simp
                clear bA KO x0 y1 y3 c4
                go_upto_region 23 with fail
                generalize w4.alloc (Obj.cells #[] 36) = w5 at *
                have x0 := HE5.out.c0
                rw [HKE.out] at x0
                have y1 := HE5.out.c1
                have y3 := HE5.out.c3
                have lE5 := HE5.out.lt
                have c5 := HZ5.out.cell (i := 0) (v := .slice A9 p.length c9) rfl
                have lZ5 := HZ5.out.lt
                go_wp2_with fail
                have KS : ∀ W : World, (∀ x, x < w4.heap.size → W.heap[x]? = w5.heap[x]?) → W.cell? ⟨E, oE + 1, none⟩ = some (.int .i64 e.i) ∧ W.cell? ⟨Z, 0, none⟩ = some (.slice A9 p.length c9) := fun W hW => And.intro (HE5.out.same (hW E lE4)).c1 (Blk.cell (w := W) (show W.heap[Z]? = _ from (hW Z lZ).trans HZ5.out) rfl)
                have KD := KS w5.drew (fun _ _ => rfl)
                have KA := fun (o : Obj) => KS (w5.alloc o).drew (fun x hx => Below.heap_alloc w5 o x (by omega))
                go_region_held3 (fun w' => w'.cell? ⟨E, oE + 1, none⟩ = some (.int .i64 e.i) ∧ w'.cell? ⟨Z, 0, none⟩ = some (.slice A9 p.length c9))
                  (first | (with_reducible exact KD) | (with_reducible exact KA _) | (with_reducible exact KS _ k9))
                  (first
                    | (refine step_push_edit w5.drew (e := insE e.i p) (u := .slice A9 p.length c9) (by rfl) (by rfl) _ _ (by rfl) (lo := w3.heap.size) (hp := w3.heap.size) (pa := w3.heap.size) (pb := w4.heap.size) (v := .slice (some ⟨w4.heap.size, 0, none⟩) 0 0) (es := []) (by rfl) (by first | rfl | simp) rfl (HKO.out.keep (Below.drew (Below.refl _ _)) (by omega)) (by simp) (show w3.heap.size ≤ w5.heap.size by omega) (by simp [Value.oneCell']) ⟨.inr ⟨HO5.out, fun g hg => (World.ownsRow.lt HO4.out g hg).2, show w4.heap.size ≤ w5.heap.size by omega⟩, fun g hg => by simp [Value.ownBlock] at hg; omega⟩ (Nat.le_refl _) hs34 (show w4.heap.size ≤ w5.heap.size by omega) (Nat.le_refl _) ?_; intro g9 c9' w9 own9 hg9 hgr9 hb9; have k9 : ∀ x, x < w4.heap.size → w9.heap[x]? = w5.heap[x]? := (fun x hx => hgr9.block x (show x < w5.heap.size by omega) (fun e => by simp [Value.ownBlock] at e; omega))))
                go_wp2_with fail
                refine bodyPost_ret (v := .tuple #[.slice (some ⟨g9, 0, none⟩) 1 c9', .int .i64 0]) (by simp [results, Tryz.results54, go_sem]) rfl ?_
                rw [HQ.out.1, HQ.out.2, HD.out]
                exact ERes.mk1 (lo := w3.heap.size) (Below.trans (Below.drew HB5.out) ((hb9.mono (show w.heap.size ≤ w3.heap.size from hs3)))) (OEdP.oeds own9 (by have h : w5.heap.size ≤ w9.heap.size := hb9.size; omega)) hs3
      · skip
        have x0 := HE1.out.c0
        rw [hk] at x0
        have HKE := Lib.hid hk
        have y1 := HE1.out.c1
        have y2 := HE1.out.c2
        have hF := HF.out
        have hG := HGB.out
        have hij : 0 ≤ e.i ∧ e.i ≤ e.j ∧ e.j ≤ 1000000000000000 := by have := hF.2.2.1 (by omega); omega
        have ws : IntKind.i64.wrap (e.j - e.i) = e.j - e.i := IntWalk.i64_in _ (by omega)
        clear hF hG
        go_wp2_with fail
        go_quiet (fail)
        have HB3 := Lib.hid (below_drewN HB1.out nq)
        have HE3 := Lib.hid (HE1.out.up (below_drewN (Below.refl w2.heap.size w2) nq))
        have HP3 := Lib.hid (HP1.out.up (below_drewN (Below.refl w2.heap.size w2) nq))
        clear HB1 HE1 HP1 x0 y1 y2
        generalize w2.drewN nq = w3 at *
        have x0 := HE3.out.c0
        rw [hk] at x0
        have y1 := HE3.out.c1
        have y2 := HE3.out.c2
        have y3 := HE3.out.c3
        have lE3 := HE3.out.lt
        have hs3 := HB3.out.size
        by_cases hz : e.j - e.i = 0
        · have HQ := Lib.hid (show invOut xs e = [] ∧ invCode xs e = 0 by rw [HIO.out, HIC.out]; unfold invL; rw [if_neg (by omega), if_pos hz]; exact ⟨rfl, rfl⟩)
          clear hk
          go_wp2_with fail
          refine bodyPost_ret (v := .tuple #[.slice (some ⟨w3.heap.size, 0, none⟩) 0 0, .int .i64 0]) (by simp [results, Tryz.results54, go_sem]) rfl ?_
          rw [HQ.out.1, HQ.out.2]
          exact ERes.mk1 (lo := w.heap.size) (HB3.out.alloc hs3 _) (oeds_empty rfl hs3) (Nat.le_refl _)
        · skip
          have k1 : C1 w3 ⟨P, oP, none⟩ (.slice AG xs.length cG) := HP3.out
          have k3 : C1 w3 ⟨E, oE + 1, none⟩ (.int .i64 e.i) := ⟨y1, lE3⟩
          have k4 : C1 w3 ⟨E, oE + 2, none⟩ (.int .i64 e.j) := ⟨y2, lE3⟩
          have lP3 := HP3.out.lt
          have hrange : 0 ≤ e.i ∧ e.i ≤ e.j ∧ e.j ≤ lastI ls := by have h1 := HF.out; have h2 := h1.2.2.1 (by omega); have := HGL.out; omega
          have HY := Lib.hid (partOut_yes HOK.out HL.out hrange)
          have HGP := Lib.hid (partG_gramLen HL.out hrange.1 hrange.2.1 hrange.2.2)
          clear hk
          go_upto_region 18 with fail
          go_cut [9, 10] (fun s9 s10 wx => ∃ (Z : Nat) (A9 : Option Addr) (c9 : Nat), s9 = .pointer (some ⟨Z, 0, none⟩) ∧ s10 = .int .i64 (limCode (partG xs ls e.i e.j)) ∧ w3.heap.size ≤ Z ∧ Below w3.heap.size w3 wx ∧ Blk wx Z #[.slice A9 (limOut (partG xs ls e.i e.j)).length c9] 31 ∧ OwnRules wx w3.heap.size (.slice A9 (limOut (partG xs ls e.i e.j)).length c9) (limOut (partG xs ls e.i e.j)))
          case first =>
            have B0 := Below.drew (Below.refl w3.heap.size w3)
            have BA := Lib.hid (fun (o : Obj) => Below.drew (Below.alloc (Below.refl w3.heap.size w3) (Nat.le_refl _) o))
            have KD := keep3 k1 k3 k4 B0
            go_region_held3 (fun w' => Below w3.heap.size w3 w' ∧ w'.cell? ⟨P, oP, none⟩ = some (.slice AG xs.length cG) ∧ w'.cell? ⟨E, oE + 1, none⟩ = some (.int .i64 e.i) ∧ w'.cell? ⟨E, oE + 2, none⟩ = some (.int .i64 e.j))
              (first | (with_reducible exact KD) | (with_reducible exact keep3 k1 k3 k4 (BA.out _)) | (with_reducible exact keep3 k1 k3 k4 b1) | (with_reducible exact keep3 k1 k3 k4 (b1.alloc z1 _)) | (with_reducible exact keep3 k1 k3 k4 (b1.setCell (Nat.le_refl _) _)))
              (first
                | (go_at_call 103; (refine (specPart_any _ xs e.i e.j _ (HG.out.up (by repeat (first | exact HB3.out | (refine Below.alloc ?_ (by first | omega | (simp; done) | (simp; omega)) _) | (refine Below.setCell ?_ (by first | exact Nat.le_refl _ | (show _ ≤ _; omega) | (simp; done) | (simp; omega)) _) | refine below_drewN ?_ _ | refine Below.drew ?_))) hn sm.out).mono ?_); rintro e9 w5 ⟨hb1, v9, own9, rfl⟩; rw [HY.out.1] at own9; rw [HY.out.2]; obtain ⟨A9, c9, rfl, _⟩ := own_nil own9; have b1 : Below w3.heap.size w3 w5 := (by first | exact Below.undrew hb1 | exact (Below.unalloc (Below.undrew hb1)).1); have z1 := b1.size; (try (obtain ⟨hbz, KR⟩ := Below.unalloc (Below.undrew hb1); have cz := Blk.cell (i := 0) (v := .slice none 0 0) KR rfl; have fz := Blk.frozen KR 0; have lz := Blk.lt KR))))
            all_goals
              go_wp2_with fail
              go_meet
              first
                | exact ⟨w5.heap.size, A9, c9, rfl, rfl, z1, b1.alloc z1 _, Blk.new _ _ _, World.ownsRow.alloc own9 _⟩
                | exact ⟨w3.heap.size, A9, c9, rfl, rfl, Nat.le_refl _, b1.setCell (Nat.le_refl _) _, Blk.set KR 0 _, ownsRow_more (ownsRow_setCell_below own9 (a := ⟨w3.heap.size, 0, none⟩) (by simp [World.drew]) _) (by simp [World.drew])⟩
          case rest =>
            obtain ⟨Z, A9, c9, rfl, rfl, hZ3, hb, KZ, hown⟩ := hcut
            revert hb KZ hown
            generalize wc = w4
            intro hb KZ hown
            have HE4 := Lib.hid (HE3.out.up hb)
            have HZ4 := Lib.hid KZ
            have HB4 := Lib.hid (Below.tr HB3.out hb)
            have HO4 := Lib.hid hown
            have lZ := KZ.lt
            have lE4 := HE4.out.lt
            have hs34 := hb.size
            have hs4 := HB4.out.size
            clear hb KZ hown k1 k3 k4 x0 y1 y2 y3
            cases hq : gramOk (partG xs ls e.i e.j) with
            | false =>
              have q2 : limCode (partG xs ls e.i e.j) = 3 := by unfold limCode; rw [hq]; rfl
              have HQ := Lib.hid (show invOut xs e = [] ∧ invCode xs e = 3 by rw [HIO.out, HIC.out]; unfold invL; have := HKE.out; rw [if_neg (by omega), if_neg hz, if_neg (by omega), if_neg (by omega), if_neg (by omega), hq]; exact ⟨rfl, rfl⟩)
              rw [q2]
              clear hq q2
              go_wp2_with fail
              refine bodyPost_ret (v := .tuple #[.slice (some ⟨w4.heap.size, 0, none⟩) 0 0, .int .i64 3]) (by simp [results, Tryz.results54, go_sem]) rfl ?_
              rw [HQ.out.1, HQ.out.2]
              exact ERes.mk1 (lo := w.heap.size) (HB4.out.alloc hs4 _) (oeds_empty rfl hs4) (Nat.le_refl _)
            | true =>
              have q1 : limOut (partG xs ls e.i e.j) = partG xs ls e.i e.j := by unfold limOut; rw [hq]; rfl
              have q2 : limCode (partG xs ls e.i e.j) = 0 := by unfold limCode; rw [hq]; rfl
              have HQ := Lib.hid (show invOut xs e = invD e ++ [insE e.i (partG xs ls e.i e.j)] ∧ invCode xs e = 0 by rw [HIO.out, HIC.out]; unfold invL; have := HKE.out; rw [if_neg (by omega), if_neg hz, if_neg (by omega), if_neg (by omega), if_neg (by omega), hq]; exact ⟨rfl, rfl⟩)
              have HGq := Lib.hid hq
              rw [q1] at HZ4 HO4
              rw [q2]
              clear q1 q2 hq HY
              generalize hpq : partG xs ls e.i e.j = p at *
              have HPQ := Lib.hid hpq
              clear hpq
              have hpos : 0 < e.j - e.i := by omega
              have HD := Lib.hid (show invD e = [delE e.i e.j] by unfold invD; rw [if_neg (by have := HKE.out; omega), if_neg (by have := HKE.out; omega)])
              have wa : IntKind.i64.wrap (e.i + (e.j - e.i)) = e.j := by rw [IntWalk.i64_in _ (by omega)]; omega
              have x0 := HE4.out.c0
              rw [HKE.out] at x0
              have y1 := HE4.out.c1
              have y3 := HE4.out.c3
              have bA := (Below.refl w4.heap.size w4).alloc (Nat.le_refl _) (Obj.cells #[] 36)
              have KO := oedp_empty (W := w4) (lo := w3.heap.size) rfl hs34
              have HE5 := Lib.hid (HE4.out.up bA)
              have HZ5 := Lib.hid (HZ4.out.up bA)
              have HO5 := Lib.hid (OwnRules.below HO4.out bA)
              have HB5 := Lib.hid (Below.tr HB4.out bA)
              have HKO := Lib.hid KO
              have hs5 : w4.heap.size < (w4.alloc (Obj.cells #[] 36)).heap.size := by simp
              clear bA KO x0 y1 y3
              go_upto_region 23 with fail
              generalize w4.alloc (Obj.cells #[] 36) = w5 at *
              have x0 := HE5.out.c0
              rw [HKE.out] at x0
              have y1 := HE5.out.c1
              have y3 := HE5.out.c3
              have lE5 := HE5.out.lt
              go_wp2_with fail
              have KS : ∀ W : World, (∀ x, x < w4.heap.size → W.heap[x]? = w5.heap[x]?) → W.cell? ⟨E, oE + 1, none⟩ = some (.int .i64 e.i) := fun W hW => (HE5.out.same (hW E lE4)).c1
              have KD := KS w5.drew (fun _ _ => rfl)
              have KA := fun (o : Obj) => KS (w5.alloc o).drew (fun x hx => Below.heap_alloc w5 o x (by omega))
              go_region_held3 (fun w' => w'.cell? ⟨E, oE + 1, none⟩ = some (.int .i64 e.i))
                (first | (with_reducible exact KD) | (with_reducible exact KA _) | (with_reducible exact KS _ k6))
                (first
                  | (refine step_push_edit w5.drew (e := delE e.i (e.j)) (u := .slice none 0 0) (by rfl) (by rfl) _ _ (by rfl) (lo := w3.heap.size) (hp := w3.heap.size) (pa := w3.heap.size) (pb := w3.heap.size) (v := .slice (some ⟨w4.heap.size, 0, none⟩) 0 0) (es := []) (by rfl) (by first | rfl | simp) rfl (HKO.out.keep (Below.drew (Below.refl _ _)) (by omega)) (by simp) (show w3.heap.size ≤ w5.heap.size by omega) (by simp [Value.oneCell']) ⟨.inl ⟨rfl, none, 0, rfl, Nat.zero_le _⟩, fun g hg => by simp [Value.ownBlock] at hg; omega⟩ (Nat.le_refl _) (Nat.le_refl _) (show w3.heap.size ≤ w5.heap.size by omega) (Nat.le_refl _) ?_; intro g6 c6 w6 own6 hg6 hgr6 hb6; have k6 : ∀ x, x < w4.heap.size → w6.heap[x]? = w5.heap[x]? := (fun x hx => hgr6.block x (show x < w5.heap.size by omega) (fun e => by simp [Value.ownBlock] at e; omega))))
              have hs6 := hgr6.size
              have hne : ∀ x, x < w4.heap.size → some x ≠ (Value.slice (some ⟨w4.heap.size, 0, none⟩) 0 0).ownBlock := fun x hx e => by simp [Value.ownBlock] at e; omega
              have keep6 : ∀ x, x < w4.heap.size → w6.heap[x]? = w5.heap[x]? := fun x hx => hgr6.block x (by show x < w5.heap.size; omega) (hne x hx)
              have HE6 := Lib.hid (HE5.out.same (keep6 E lE4))
              have HZ6 := Lib.hid (show Blk w6 Z #[.slice A9 p.length c9] 31 from (keep6 Z lZ).trans HZ5.out)
              have HO6 := Lib.hid (own_keep HO5.out (fun g hg => keep6 g (World.ownsRow.lt HO4.out g hg).2))
              have HB6 := Lib.hid (Below.trans (Below.drew HB5.out) (hb6.mono hs3))
              have HO66 := Lib.hid own6
              have hg66 : w4.heap.size ≤ g6 := by
                rcases hg6 with h | h
                · simp [Value.ownBlock] at h; omega
                · rw [h]; show w4.heap.size ≤ w5.heap.size + 1; omega
              have hs56 : w5.heap.size ≤ w6.heap.size := hs6
              clear own6 hg6 hgr6 hb6 hs6 hne keep6 x0 y1 y3 KS KD KA k6
              have x0 := HE6.out.c0
              rw [HKE.out] at x0
              have y1 := HE6.out.c1
              have y3 := HE6.out.c3
              have lE6 := HE6.out.lt
              have c6' := HZ6.out.cell (i := 0) (v := .slice A9 p.length c9) rfl
              have lZ6 := HZ6.out.lt
              go_wp2_with fail
              have KS : ∀ W : World, (∀ x, x < w4.heap.size → W.heap[x]? = w6.heap[x]?) → W.cell? ⟨E, oE + 1, none⟩ = some (.int .i64 e.i) ∧ W.cell? ⟨Z, 0, none⟩ = some (.slice A9 p.length c9) := fun W hW => And.intro (HE6.out.same (hW E lE4)).c1 (Blk.cell (w := W) (show W.heap[Z]? = _ from (hW Z lZ).trans HZ6.out) rfl)
              have KD := KS w6.drew (fun _ _ => rfl)
              have KA := fun (o : Obj) => KS (w6.alloc o).drew (fun x hx => Below.heap_alloc w6 o x (by omega))
              go_region_held3 (fun w' => w'.cell? ⟨E, oE + 1, none⟩ = some (.int .i64 e.i) ∧ w'.cell? ⟨Z, 0, none⟩ = some (.slice A9 p.length c9))
                (first | (with_reducible exact KD) | (with_reducible exact KA _) | (with_reducible exact KS _ k9))
                (first
                  | (refine step_push_edit w6.drew (e := insE e.i p) (u := .slice A9 p.length c9) (by rfl) (by rfl) _ _ (by rfl) (lo := w3.heap.size) (hp := w3.heap.size) (pa := w3.heap.size) (pb := w4.heap.size) (v := .slice (some ⟨g6, 0, none⟩) 1 c6) (es := [delE e.i (e.j)]) (by rfl) (by first | rfl | simp) rfl (HO66.out.keep (Below.drew (Below.refl _ _)) (by omega)) (by simp) (show w3.heap.size ≤ w6.heap.size by omega) (by simp [Value.oneCell']) ⟨.inr ⟨HO6.out, fun g hg => (World.ownsRow.lt HO4.out g hg).2, show w4.heap.size ≤ w6.heap.size by omega⟩, fun g hg => by simp [Value.ownBlock] at hg; omega⟩ (Nat.le_refl _) hs34 (show w4.heap.size ≤ w6.heap.size by omega) (Nat.le_refl _) ?_; intro g9 c9' w9 own9 hg9 hgr9 hb9; have k9 : ∀ x, x < w4.heap.size → w9.heap[x]? = w6.heap[x]? := (fun x hx => hgr9.block x (show x < w6.heap.size by omega) (fun e => by simp [Value.ownBlock] at e; omega))))
              go_wp2_with fail
              refine bodyPost_ret (v := .tuple #[.slice (some ⟨g9, 0, none⟩) 2 c9', .int .i64 0]) (by simp [results, Tryz.results54, go_sem]) rfl ?_
              rw [HQ.out.1, HQ.out.2, HD.out]
              exact ERes.mk1 (lo := w3.heap.size) (Below.trans (Below.drew HB6.out) ((hb9.mono (show w.heap.size ≤ w3.heap.size from hs3)))) (OEdP.oeds own9 (by have h : w6.heap.size ≤ w9.heap.size := hb9.size; omega)) hs3
end Go.Proofs.YtfapnipmgmpgaaaGreatDoor

