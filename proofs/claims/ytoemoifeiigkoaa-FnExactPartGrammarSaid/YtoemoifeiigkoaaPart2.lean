import Derived.Test.YtoemoifeiigkoaaPart0
import Derived.Test.YtoemoifeiigkoaaTrim1
import Derived.Test.YtoemoifeiigkoaaRide2
import Derived.IntWalk
namespace Go.Proofs.Ytoemoifeiigkoaa
open Go.RowKit

theorem l00Min_any (a b : Int) (w : World) : Calls Try.prog 240 #[.int .i64 a, .int .i64 b] w fun e w' => e = .returned (.int .i64 (min a b)) ∧ w = w' := by
  by_cases h : a < b
  · have e : min a b = a := by omega
    rw [e]
    go_enter Try.func240, Try.ntmps240
    go_wp2
    go_ret
    exact ⟨rfl, rfl⟩
  · have e : min a b = b := by omega
    rw [e]
    go_enter Try.func240, Try.ntmps240
    go_wp2
    go_ret
    exact ⟨rfl, rfl⟩
theorem l00Max_any (a b : Int) (w : World) : Calls Try.prog 241 #[.int .i64 a, .int .i64 b] w fun e w' => e = .returned (.int .i64 (max a b)) ∧ w = w' := by
  by_cases h : a > b
  · have e : max a b = a := by omega
    rw [e]
    go_enter Try.func241, Try.ntmps241
    go_wp2
    go_ret
    exact ⟨rfl, rfl⟩
  · have e : max a b = b := by omega
    rw [e]
    go_enter Try.func241, Try.ntmps241
    go_wp2
    go_ret
    exact ⟨rfl, rfl⟩

def nI (l : List Nat) : List Int := l.map Int.ofNat
theorem nI_append (a b : List Nat) : nI (a ++ b) = nI a ++ nI b := by simp [nI]
theorem nI_len (a : List Nat) : (nI a).length = a.length := by simp [nI]

set_option maxRecDepth 100000 in
set_option maxHeartbeats 2000000 in
theorem l02Cover_any (base bg og : Nat) (vL vR : Value) (xs : List GRule) (ls : List Int) (hl : lens xs = some ls) (hn : xs.length ≤ 4194304) (hbg : bg < base) : ∀ (f r : Nat) (i j : Int) (vO : Value) (out : List Int) (w : World),
    r < f → r < xs.length → 0 ≤ i ∧ i ≤ 1000000000000000 → -1000000000000000 ≤ j ∧ j ≤ ls.getD r 0 → w.cell? ⟨bg, og, none⟩ = some vR → Sl IntE w base vL ls → Sl RuleE w base vR xs → base ≤ w.heap.size → OwnInts w base vO out →
    out.length + (coverS xs ls f r i j).length ≤ 1099511627776 →
    Calls Try.prog 171 #[.pointer (some ⟨bg, og, none⟩), vL, .int .i64 r, .int .i64 i, .int .i64 j, vO] w fun e w' => ∃ v', e = .returned v' ∧ OwnInts w' base v' (out ++ nI (coverS xs ls f r i j)) ∧ Below base w w' := by
  intro f
  induction f with
  | zero => intro r i j vO out w hr; omega
  | succ f ih =>
    intro r i j vO out w hr hx hi hj hp hL hR hbs hown hlen
    have hll := lens_length hl
    have hL' := hL
    have hR' := hR
    obtain ⟨AL, cL, rfl, _, hmL, hrowL⟩ := hL
    obtain ⟨AR, cR, rfl, _, hmR, hrowR⟩ := hR
    unfold maxLen at hmL hmR
    have hr1 := lens_pos' hl hx
    by_cases c1 : j ≤ i
    · have e : coverS xs ls (f + 1) r i j = [] := by rw [coverS, if_pos c1]
      have He := Lib.hid e
      have Hown := Lib.hid hown
      clear e hrowL hrowR ih hL' hR' hown hlen
      go_enter Try.func171, Try.ntmps171
      go_wp2_with fail
      go_ret
      exact ⟨_, rfl, by rw [He.out]; simpa [nI] using Hown.out, Below.refl _ _⟩
    obtain ⟨b1, o1, rfl, hb1, hcellL⟩ := hrowL.int (k := r) (by omega)
    obtain ⟨b2, o2, rfl, hb2', hcellR⟩ := hrowR.rule (k := r) hx
    have hcl := hcellL r (by omega)
    have hri : (r : Int) < (xs.length : Int) := by omega
    have hri2 : (r : Int) < (ls.length : Int) := by omega
    obtain ⟨LR, hLR⟩ : ∃ x, ls.getD r 0 = x := ⟨_, rfl⟩
    rw [hLR] at hcl hr1 hj
    by_cases c2 : i = 0 ∧ j = ls.getD r 0
    · obtain ⟨rfl, c2⟩ := c2
      rw [hLR] at c2
      subst c2
      have e : coverS xs ls (f + 1) r 0 j = [r] := by rw [coverS, if_neg c1, if_pos ⟨rfl, hLR.symm⟩]
      rw [e] at hlen
      have He := Lib.hid e
      have Hown := Lib.hid hown
      have hl2 : out.length ≤ 1099511627776 := by simp at hlen; omega
      have Hl2 := Lib.hid hl2
      obtain ⟨AO, cO, rfl, _⟩ := own_nil hown
      clear e hrowL hrowR ih hL' hR' hown hlen hcellL hcellR hl2 hll
      go_enter Try.func171, Try.ntmps171
      go_wp2_with (first | (at_builtin; go_must (refine push_ints (base := base) (v := .slice AO out.length cO) (l := out) rfl _ _ rfl rfl rfl rfl Hown.out Hl2.out hbs ?_); intro v' w' h1 h2 h3))
      go_ret
      exact ⟨_, rfl, by rw [He.out]; exact h1, h3⟩
    cases hpair : (getR xs r).pair with
    | false => have := lens_letter hl hx hpair; omega
    | true =>
      obtain ⟨q1, q2, q3, q4, q5⟩ := lens_pair hl hx hpair
      obtain ⟨k0, k1, k2⟩ := hcellR r _ (getR_at hx)
      obtain ⟨la, hla⟩ := Int.eq_ofNat_of_zero_le q1
      obtain ⟨ra, hra⟩ := Int.eq_ofNat_of_zero_le q3
      have e : coverS xs ls (f + 1) r i j = coverS xs ls f la i (min j (ls.getD la 0)) ++ coverS xs ls f ra (max (i - ls.getD la 0) 0) (j - ls.getD la 0) := by
        rw [coverS, if_neg c1, if_neg c2, hla, hra]; rfl
      rw [hla] at k1 q2 q5
      rw [hra] at k2 q4 q5
      simp only [Int.toNat_natCast] at q2 q4 q5
      have hA := lens_pos' hl (r := la) (by omega)
      have hB := lens_pos' hl (r := ra) (by omega)
      rw [e, List.length_append] at hlen
      have IH1 := Lib.hid (fun w' hp' hL'' hR'' hb' ho' => ih la i (min j (ls.getD la 0)) vO out w' (by omega) (by omega) hi (by omega) hp' hL'' hR'' hb' ho' (by omega))
      have IH2 := Lib.hid (fun v' w' hp' hL'' hR'' hb' ho' => ih ra (max (i - ls.getD la 0) 0) (j - ls.getD la 0) v' (out ++ nI (coverS xs ls f la i (min j (ls.getD la 0)))) w' (by omega) (by omega) (by omega) (by omega) hp' hL'' hR'' hb' ho' (by rw [List.length_append, nI_len]; omega))
      have hca := hcellL la (by omega)
      obtain ⟨LA, hLA⟩ : ∃ x, ls.getD la 0 = x := ⟨_, rfl⟩
      rw [hLA] at IH1 IH2 hca hA e
      have He := Lib.hid e
      have Hown := Lib.hid hown
      have HL := Lib.hid hL'
      have HR := Lib.hid hR'
      have d1 : (j == LR) = false ∨ ¬ i = 0 := by
        by_cases h : i = 0
        · exact .inl (by rw [beq_eq_false_iff_ne]; exact fun h2 => c2 ⟨h, by rw [hLR]; exact h2⟩)
        · exact .inr h
      have d2 : ¬ (i = 0) ∨ ¬ (j = LR) := by rcases d1 with d | d
                                             · exact .inr (by simpa using d)
                                             · exact .inl d
      have hlai : (la : Int) < (ls.length : Int) := by omega
      have hij : i < j := by omega
      clear e hrowL hrowR ih hL' hR' hown hlen hcellL hcellR hLR hLA q5 hB c1 c2 d1 hll
      go_enter Try.func171, Try.ntmps171
      have HLd : Hid (Sl IntE w.drew base (.slice (some ⟨b1, o1, none⟩) ls.length cL) ls) := HL.out.keep fun _ _ => rfl
      have HRd : Hid (Sl RuleE w.drew base (.slice (some ⟨b2, o2, none⟩) xs.length cR) xs) := HR.out.keep fun _ _ => rfl
      have Hod : Hid (OwnInts w.drew base vO out) := Hown.out.drew
      have hpd : w.drew.cell? ⟨bg, og, none⟩ = some (.slice (some ⟨b2, o2, none⟩) xs.length cR) := hp
      have hbd : base ≤ w.drew.heap.size := hbs
      have I1 := Lib.hid (IH1.out w.drew hpd HLd.out HRd.out hbd Hod.out)
      by_cases hi0 : i = 0
      · subst hi0
        have hjL : ¬ (j = LR) := by rcases d2 with d | d
                                    · exact absurd rfl d
                                    · exact d
        have hm0 : max (0 - LA) 0 = 0 := by omega
        rw [hm0] at IH2 He
        clear hm0
        go_upto_region 7 with fail
        go_cut [5] from 15 to 57 (fun q wx => OwnInts wx base q (out ++ nI (coverS xs ls f la 0 (min j LA))) ∧ Below base w wx)
        case first =>
          go_region_law (first
            | (go_simp; go_at_call 240; refine (l00Min_any _ _ _).mono ?_; rintro e w1 ⟨rfl, rfl⟩)
            | (go_simp; go_at_call 171; (with_reducible refine I1.out.mono ?_); rintro e w2 ⟨v2, rfl, own2, hb2⟩))
          all_goals
            go_wp2_with fail
            go_meet
            exact ⟨own2, (Below.drew (Below.refl _ _)).trans hb2⟩
        case rest =>
          revert hcut
          generalize wc = w2
          intro hcut
          obtain ⟨own2, hb2⟩ := hcut
          have p2 : w2.cell? ⟨bg, og, none⟩ = some (.slice (some ⟨b2, o2, none⟩) xs.length cR) := (hb2.cell (p := ⟨bg, og, none⟩) hbg).trans hp
          have I2 := Lib.hid (IH2.out _ w2.drew p2 (SlS.below HL.out (Below.drew hb2)) (SlS.below HR.out (Below.drew hb2)) (Nat.le_trans hbs hb2.size) own2.drew)
          have m1 : w2.cell? ⟨b2, o2 + r * 3 + 2, none⟩ = some (.int .i64 (ra : Int)) := (hb2.cell (p := ⟨b2, o2 + r * 3 + 2, none⟩) hb2').trans k2
          have HB2 := Lib.hid hb2
          clear own2 hb2
          have hwj : IntKind.i64.wrap (j - LA) = j - LA := IntWalk.i64_in _ (by omega)
          have hwn : IntKind.i64.wrap (-LA) = -LA := IntWalk.i64_in _ (by omega)
          have hmx : max (-LA) 0 = 0 := by omega
          go_wp2_with fail
          go_region_law (first
            | (go_simp; go_at_call 241; refine (l00Max_any _ _ _).mono ?_; rintro e w1 ⟨rfl, rfl⟩)
            | (go_simp; go_at_call 171; (with_reducible refine I2.out.mono ?_); rintro e w3 ⟨v3, rfl, own3, hb3⟩))
          all_goals
            go_wp2_with fail
            go_ret
            exact ⟨_, rfl, by rw [He.out, nI_append, ← List.append_assoc]; exact own3, (HB2.out.trans (Below.drew (Below.refl _ _))).trans hb3⟩
      · go_upto_region 7 with fail
        go_cut [5] from 15 to 57 (fun q wx => OwnInts wx base q (out ++ nI (coverS xs ls f la i (min j LA))) ∧ Below base w wx)
        case first =>
          go_region_law (first
            | (go_simp; go_at_call 240; refine (l00Min_any _ _ _).mono ?_; rintro e w1 ⟨rfl, rfl⟩)
            | (go_simp; go_at_call 171; (with_reducible refine I1.out.mono ?_); rintro e w2 ⟨v2, rfl, own2, hb2⟩))
          all_goals
            go_wp2_with fail
            go_meet
            exact ⟨own2, (Below.drew (Below.refl _ _)).trans hb2⟩
        case rest =>
          revert hcut
          generalize wc = w2
          intro hcut
          obtain ⟨own2, hb2⟩ := hcut
          have p2 : w2.cell? ⟨bg, og, none⟩ = some (.slice (some ⟨b2, o2, none⟩) xs.length cR) := (hb2.cell (p := ⟨bg, og, none⟩) hbg).trans hp
          have I2 := Lib.hid (IH2.out _ w2.drew p2 (SlS.below HL.out (Below.drew hb2)) (SlS.below HR.out (Below.drew hb2)) (Nat.le_trans hbs hb2.size) own2.drew)
          have m1 : w2.cell? ⟨b2, o2 + r * 3 + 2, none⟩ = some (.int .i64 (ra : Int)) := (hb2.cell (p := ⟨b2, o2 + r * 3 + 2, none⟩) hb2').trans k2
          have HB2 := Lib.hid hb2
          clear own2 hb2
          have hwj : IntKind.i64.wrap (j - LA) = j - LA := IntWalk.i64_in _ (by omega)
          have hwi : IntKind.i64.wrap (i - LA) = i - LA := IntWalk.i64_in _ (by omega)
          go_wp2_with fail
          go_region_law (first
            | (go_simp; go_at_call 241; refine (l00Max_any _ _ _).mono ?_; rintro e w1 ⟨rfl, rfl⟩)
            | (go_simp; go_at_call 171; (with_reducible refine I2.out.mono ?_); rintro e w3 ⟨v3, rfl, own3, hb3⟩))
          all_goals
            go_wp2_with fail
            go_ret
            exact ⟨_, rfl, by rw [He.out, nI_append, ← List.append_assoc]; exact own3, (HB2.out.trans (Below.drew (Below.refl _ _))).trans hb3⟩
end Go.Proofs.Ytoemoifeiigkoaa
