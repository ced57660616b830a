import Derived.Test.YtejgbfgocaggfaaM6
import Derived.BigQuiet
import Derived.Test.YtejgbfgocaggfaaM5
import Derived.Test.YtejgbfgocaggfaaM2
namespace Go.Proofs.Ytejgbfgocaggfaa
open Go.RowKit
def Found (K : List GRule) (X : GRule) (k j q : Nat) : Prop := (q = k ∧ j ≤ K.idxOf X ∧ j ≤ k) ∨ (q = K.idxOf X ∧ q < k)
theorem idxOf_le_of {K : List GRule} {j : Nat} {y : GRule} (h : K[j]? = some y) : K.idxOf y ≤ j := by
  induction K generalizing j with
  | nil => simp at h
  | cons a K ih =>
    rw [List.idxOf_cons]
    by_cases he : a = y
    · simp [he]
    · cases j with
      | zero => simp at h; exact absurd h he
      | succ j =>
        have := ih (j := j) (by simpa using h)
        have e : (a == y) = false := by simpa using he
        rw [e]
        simp; omega
theorem idxOf_at {K : List GRule} {y : GRule} (h : y ∈ K) : K[K.idxOf y]? = some y := by
  induction K with
  | nil => simp at h
  | cons a K ih =>
    rw [List.idxOf_cons]
    by_cases he : a = y
    · simp [he]
    · have e : (a == y) = false := by simpa using he
      rw [e]
      simp only [cond_false, List.getElem?_cons_succ]
      exact ih (by simpa [Ne.symm he] using h)
theorem rule_ne {y X : GRule} (h : ¬ y = X) : (y.letter.toList == X.letter.toList) = false ∨ (y.letter = X.letter ∧ (y.left == X.left) = false) ∨ (y.letter = X.letter ∧ y.left = X.left ∧ (y.right == X.right) = false) := by
  by_cases h1 : y.letter = X.letter
  · by_cases h2 : y.left = X.left
    · refine .inr (.inr ⟨h1, h2, ?_⟩)
      rw [beq_eq_false_iff_ne]
      intro h3
      cases y; cases X; simp at h1 h2 h3; subst h1 h2 h3; exact h rfl
    · exact .inr (.inl ⟨h1, by rw [beq_eq_false_iff_ne]; exact h2⟩)
  · refine .inl ?_
    rw [beq_eq_false_iff_ne]
    intro e
    have := beq_toListBytes y.letter X.letter
    rw [e] at this
    simp at this
    exact h1 (ByteArray.ext (eq_of_beq this))
theorem found_step {K : List GRule} {X y : GRule} {k j : Nat} (hy : K[j]? = some y) (h1 : j ≤ K.idxOf X) (hlt : j < k) (hn : ¬ (K.idxOf y = j ∧ y = X)) : Found K X k (j + 1) k := by
  refine .inl ⟨rfl, ?_, hlt⟩
  rcases Nat.lt_or_ge j (K.idxOf X) with h | h
  · exact h
  · have e : j = K.idxOf X := by omega
    have hl := (List.getElem?_eq_some_iff.1 hy).1
    have hm : X ∈ K := List.idxOf_lt_length_iff.1 (by omega)
    have h2 := idxOf_at hm
    rw [← e, hy] at h2
    have : y = X := Option.some.inj h2
    exact absurd ⟨by rw [this]; exact e.symm, this⟩ hn
theorem found_end {K : List GRule} {X : GRule} {k j q : Nat} (hK : K.length = k) (h : Found K X k j q) (hj : q = k → k ≤ j) : q = K.idxOf X := by
  rcases h with ⟨h1, h2, h3⟩ | ⟨h1, _⟩
  · have := hj h1
    have h4 : K.idxOf X ≤ K.length := List.idxOf_le_length
    omega
  · exact h1
theorem keep_rules {W w' : World} {base : Nat} {v vs : Value} {L : List GRule} {S : List Int} {o : Obj} (ho : OwnRules W base v L) (hi : OwnInts W base vs S) (hg : (W.alloc o).grownBy w' vs.ownBlock) : OwnRules w' base v L :=
  own_keep (ho.alloc o) fun g hgg => hg.block g (World.ownsRow.lt (ho.alloc o) g hgg).2 (own_apart (ho.alloc o) (hi.alloc o) (by decide) g hgg)
theorem keep_ints {W w' : World} {base : Nat} {v vs : Value} {L : List GRule} {S : List Int} {o : Obj} (hi : OwnInts W base vs S) (ho : OwnRules W base v L) (hg : (W.alloc o).grownBy w' v.ownBlock) : OwnInts w' base vs S :=
  own_keep (hi.alloc o) fun g hgg => hg.block g (World.ownsRow.lt (hi.alloc o) g hgg).2 (own_apart (hi.alloc o) (ho.alloc o) (by decide) g hgg)
theorem keep_cells {Wr W w' : World} {base B : Nat} {vs : Value} {S : List Int} {o : Obj} {X : GRule} (hc : Cells3 W B X) (hi : OwnInts Wr base vs S) (hB : Wr.heap.size ≤ B) (hg : (W.alloc o).grownBy w' vs.ownBlock) : Cells3 w' B X :=
  (hc.alloc o).kept hg (own_far hi hB)
theorem keep_below {w0 W w' : World} {base : Nat} {vs : Value} {S : List Int} {o : Obj} (hb : Below base w0 W) (hw : base ≤ W.heap.size) (hi : OwnInts W base vs S) (hg : (W.alloc o).grownBy w' vs.ownBlock) : Below base w0 w' :=
  (hb.alloc hw o).grown hg (Nat.le_trans hw (by simp)) fun g hgg => (World.ownsRow.lt hi g hgg).1
theorem keep_size {W w' : World} {base : Nat} {row : Option Nat} {o : Obj} (hw : base ≤ W.heap.size) (hg : (W.alloc o).grownBy w' row) : base ≤ w'.heap.size := Nat.le_trans hw (Nat.le_trans (by simp) hg.size)
set_option maxRecDepth 100000 in
set_option maxHeartbeats 4000000 in
theorem l02Trim_any (b o : Nat) (v : Value) (xs : List GRule) (w : World) (hp : w.cell? ⟨b, o, none⟩ = some v) (hbl : b < w.heap.size) (h : Sl RuleE w w.heap.size v xs) (hn : xs.length ≤ 4194304) (hok : OkAll xs) :
    Calls Try.prog 82 #[.pointer (some ⟨b, o, none⟩)] w (GOwn (trimG xs) w) := by
  obtain ⟨A, c, rfl, hc, hm, hrow⟩ := h
  have Hok := Lib.hid hok
  clear hm hok
  go_enter Try.func82, Try.ntmps82
  go_wp2_with fail
  go_loopw [4, 5, 6] (fun s a i wr => ∃ k : Nat, k ≤ xs.length ∧ i = .int .i64 k ∧ Below (w.heap.size + 1) (w.alloc (Obj.cells #[Value.slice none 0 0] 31)) wr ∧
    OwnRules wr (w.heap.size + 1) a (canon (xs.take k)).1 ∧ OwnInts wr (w.heap.size + 1) s (canon (xs.take k)).2) (fun _ _ i _ => xs.length - (intOf i).toNat)
  case atStart =>
    refine ⟨0, Nat.zero_le _, rfl, (by repeat (first | exact Below.refl _ _ | (refine Below.alloc ?_ (by first | omega | (simp; done) | (simp; omega)) _) | refine below_drewN ?_ _ | refine Below.drew ?_)), ?_, ?_⟩
    · exact OwnRules.empty (by simp) (by simp)
    · exact (OwnInts.empty (N := w.heap.size + 1) (by simp) (by simp)).alloc _
  case round =>
    obtain ⟨k, hk, rfl, hb, hown, hint⟩ := hrel
    have hwz : w.heap.size + 1 ≤ wr.heap.size := by have := hb.size; simpa using this
    have hco := canon_ok Hok.out k hk
    have HB := Lib.hid hb
    have HO := Lib.hid hown
    have HI := Lib.hid hint
    have HCo := Lib.hid hco
    have B0 : Below w.heap.size w wr := ((Below.refl w.heap.size w).alloc (Nat.le_refl _) _).trans (hb.mono (by omega))
    have hpr := (B0.cell (p := ⟨b, o, none⟩) hbl).trans hp
    have HB0 := Lib.hid B0
    by_cases hlt : k < xs.length
    · obtain ⟨bb, oo, rfl, hbb, hcell⟩ := hrow.rule hlt
      obtain ⟨r, hr⟩ : ∃ r, xs[k]? = some r := ⟨_, List.getElem?_eq_getElem hlt⟩
      obtain ⟨q0, q1, q2⟩ := hcell k r hr
      have p0 := (B0.cell (p := ⟨bb, oo + k * 3, none⟩) hbb).trans q0
      have p1 := (B0.cell (p := ⟨bb, oo + k * 3 + 1, none⟩) hbb).trans q1
      have p2 := (B0.cell (p := ⟨bb, oo + k * 3 + 2, none⟩) hbb).trans q2
      have hi : (k : Int) < (xs.length : Int) := by omega
      have hor := Hok.out k r hr
      have Hr := Lib.hid hr
      have Hor := Lib.hid hor
      clear hcell hr q0 q1 q2 hb hown hint hor hco hrow B0
      go_upto_if 37 with fail
      obtain ⟨K, hK⟩ : ∃ K, (canon (xs.take k)).1 = K := ⟨_, rfl⟩
      obtain ⟨S, hS⟩ : ∃ S, (canon (xs.take k)).2 = S := ⟨_, rfl⟩
      have hKl : K.length = k := by rw [← hK]; exact HCo.out.l1
      have hSl : S.length = k := by rw [← hS]; exact HCo.out.l2
      have hlow : ∀ i, i < k → 0 ≤ S.getD i 0 ∧ S.getD i 0 ≤ i := by rw [← hS]; exact HCo.out.low
      have hidx : ∀ i, i < k → S.getD i 0 = ((K.idxOf (getR K i) : Nat) : Int) := by rw [← hS, ← hK]; exact HCo.out.idx
      rw [hK] at HO
      rw [hS] at HI
      have hnx : canon (xs.take (k + 1)) = (K ++ [trimR S r], S ++ [((K.idxOf (trimR S r) : Nat) : Int)]) := by rw [canon_snoc Hr.out, trimStep, hK, hS]
      have Hnx := Lib.hid hnx
      obtain ⟨X, hX⟩ : ∃ X, trimR S r = X := ⟨_, rfl⟩
      have HX := Lib.hid hX
      rw [hX] at Hnx
      clear hK hS hnx hX HCo
      have HKl := Lib.hid hKl
      have HSl := Lib.hid hSl
      have Hlow := Lib.hid hlow
      have Hidx := Lib.hid hidx
      clear hKl hSl hlow hidx
      go_cut [] from 28 to 48 (fun wx => Below wr.heap.size wr wx ∧ Cells3 wx wr.heap.size X)
      case first =>
        by_cases hp : r.letter.toList.isEmpty = true
        · rw [hp]
          have hpr : r.pair = true := by rw [isEmpty_size] at hp; exact hp
          obtain ⟨e1, e2, e3, e4⟩ := okRule_at Hor.out hpr
          obtain ⟨la, hla⟩ := Int.eq_ofNat_of_zero_le e1
          obtain ⟨ra, hra⟩ := Int.eq_ofNat_of_zero_le e3
          rw [hla] at e2
          rw [hra] at e4
          simp only [Int.toNat_natCast] at e2 e4
          have i1 : (la : Int) < (S.length : Int) := by have := HSl.out; omega
          have i2 : (ra : Int) < (S.length : Int) := by have := HSl.out; omega
          obtain ⟨g, cap, rfl, hg1, hg2, hg3, hgc⟩ := OwnInts.at_ HI.out (j := 0) (by omega)
          have w1 := hgc la (by omega)
          have w2 := hgc ra (by omega)
          obtain ⟨va, hva⟩ : ∃ x, S.getD la 0 = x := ⟨_, rfl⟩
          obtain ⟨vb, hvb⟩ : ∃ x, S.getD ra 0 = x := ⟨_, rfl⟩
          rw [hva] at w1
          rw [hvb] at w2
          have hX2 : X = pairR va vb := by rw [← HX.out, trimR_pair hpr, hla, hra, ← hva, ← hvb]; rfl
          have HX2 := Lib.hid hX2
          rw [hla, hra]
          clear hX2 hgc hpr e1 e3 hg3 hva hvb
          have y1 : g < wr.heap.size := hg2
          have B3 : Below wr.heap.size wr (wr.alloc (Obj.cells #[Value.string r.letter, Value.int IntKind.i64 la, Value.int IntKind.i64 ra] 138)) := (by repeat (first | exact Below.refl _ _ | (refine Below.alloc ?_ (by first | omega | (simp; done) | (simp; omega)) _) | refine below_drewN ?_ _ | refine Below.drew ?_))
          have e0 : (wr.alloc (Obj.cells #[Value.string r.letter, Value.int IntKind.i64 la, Value.int IntKind.i64 ra] 138)).heap[wr.heap.size]? = some (Obj.cells #[Value.string r.letter, Value.int IntKind.i64 la, Value.int IntKind.i64 ra] 138 (0, 0)) := alloc_heap_last _ _
          generalize wr.alloc (Obj.cells #[Value.string r.letter, Value.int IntKind.i64 la, Value.int IntKind.i64 ra] 138) = W3 at *
          have l0 : wr.heap.size < W3.heap.size := (Array.getElem?_eq_some_iff.1 e0).1
          have c0 : W3.cell? ⟨wr.heap.size, 0, none⟩ = some (.string r.letter) := by simp [World.cell?, e0]
          have c1 : W3.cell? ⟨wr.heap.size, 1, none⟩ = some (.int .i64 la) := by simp [World.cell?, e0]
          have c2 : W3.cell? ⟨wr.heap.size, 2, none⟩ = some (.int .i64 ra) := by simp [World.cell?, e0]
          have f0 : ∀ o, W3.frozen? ⟨wr.heap.size, o, none⟩ = false := fun o => by simp [World.frozen?, e0]
          have w3 := (B3.cell (p := ⟨g, la, none⟩) y1).trans w1
          have w4 := (B3.cell (p := ⟨g, ra, none⟩) y1).trans w2
          have B5 := Lib.hid (Below.drew B3)
          clear B3 e0 w1 w2
          go_wp2_with fail
          go_still_tail 11, (by kernel_rfl)
          change wpList _ _ _ _ _ W3.drew
          go_wp2_with fail
          go_meet
          rw [HX2.out]
          exact ⟨((B5.out.setCell (Nat.le_refl _) _).setCell (Nat.le_refl _) _).setCell (Nat.le_refl _) _, by simp [go_sem, pairR, c0], by simp [go_sem, pairR, c1], by simp [go_sem, pairR, c2], by simp; exact l0⟩
        · have hpr : r.pair = false := by rw [isEmpty_size] at hp; simpa [GRule.pair] using hp
          have hX2 : X = r := by rw [← HX.out, trimR_let hpr]
          have HX2 := Lib.hid hX2
          have hp2 : r.letter.toList.isEmpty = false := by simpa using hp
          rw [hp2]
          clear hX2 hpr hp
          go_wp2_with fail
          go_meet
          rw [HX2.out]
          exact ⟨(by repeat (first | exact Below.refl _ _ | (refine Below.alloc ?_ (by first | omega | (simp; done) | (simp; omega)) _) | refine below_drewN ?_ _ | refine Below.drew ?_)), by simp [go_sem], by simp [go_sem], by simp [go_sem], by simp⟩
      case rest =>
        revert hcut
        generalize wc = w1
        intro hcut
        obtain ⟨hb1, hx1⟩ := hcut
        have z1 : wr.heap.size ≤ w1.heap.size := hb1.size
        have HO1 := Lib.hid (OwnRules.below HO.out hb1)
        have HI1 : Hid (OwnInts w1 (w.heap.size + 1) u4 S) := ownsRow_below HI.out hb1
        have B1 := Lib.hid (HB.out.trans (hb1.mono hwz))
        have HX1 := Lib.hid hx1
        obtain ⟨c0, c1, c2, lx⟩ := hx1
        obtain ⟨AK, cK, rfl, _, _, hrowK⟩ := OwnRules.sl HO1.out
        obtain ⟨AS, cS, rfl, _, _, hrowS⟩ := OwnInts.sl HI1.out
        have HrowK := Lib.hid hrowK
        have HrowS := Lib.hid hrowS
        clear hb1 p0 p1 p2 hrowK hrowS hpr
        go_wp2_with fail
        go_loopw [8, 9] (fun q i wx => ∃ j z : Nat, i = .int .i64 (j : Int) ∧ q = .int .i64 (z : Int) ∧ Found K X k j z ∧ j ≤ k ∧ (∃ n, wx = w1.drewN n)) (fun _ i _ => k - (intOf i).toNat)
        case atStart => exact ⟨0, k, rfl, rfl, .inl ⟨rfl, Nat.zero_le _, Nat.zero_le _⟩, Nat.zero_le _, 0, rfl⟩
        case round =>
          obtain ⟨j, z, rfl, rfl, hf, hjk, n, rfl⟩ := hrel
          by_cases hin : z = k ∧ j < k
          · obtain ⟨hf0, hlj⟩ := hin
            subst hf0
            have hf1 : j ≤ K.idxOf X := by
              rcases hf with ⟨_, h, _⟩ | ⟨_, h⟩
              · exact h
              · exact absurd h (by omega)
            · obtain ⟨b1, o1, rfl, hb1, hc1⟩ := HrowS.out.int (k := j) (by rw [HSl.out]; omega)
              obtain ⟨b2, o2, rfl, hb2, hc2⟩ := HrowK.out.rule (k := j) (by rw [HKl.out]; omega)
              have s0 := hc1 j (by rw [HSl.out]; omega)
              obtain ⟨y, hy⟩ : ∃ y, K[j]? = some y := ⟨_, List.getElem?_eq_getElem (by rw [HKl.out]; omega)⟩
              obtain ⟨k0, k1, k2⟩ := hc2 j y hy
              have hj2 : (j : Int) < (S.length : Int) := by rw [HSl.out]; omega
              have hj3 : (j : Int) < (K.length : Int) := by rw [HKl.out]; omega
              have hji : (j : Int) < (z : Int) := by omega
              have hsj := Hidx.out j hlj
              rw [getR_some hy] at hsj
              rw [hsj] at s0
              obtain ⟨u, hu⟩ : ∃ u, K.idxOf y = u := ⟨_, rfl⟩
              rw [hu] at s0
              have Hu := Lib.hid hu
              have Hy := Lib.hid hy
              have huj : u ≤ j := by rw [← hu]; exact idxOf_le_of hy
              clear hc1 hc2 hsj hu hy
              by_cases e1 : u = j
              · subst e1
                by_cases e2 : y = X
                · subst e2
                  go_upto_region 14 with fail
                  go_quiet (fail)
                  go_wp2_with fail
                  exact ⟨⟨u + 1, u, rfl, rfl, .inr ⟨Hu.out.symm, hlj⟩, hlj, _, rfl⟩, by simp [intOf]; omega⟩
                · have HNE := Lib.hid e2
                  rcases rule_ne e2 with f1 | ⟨f1, f2⟩ | ⟨f1, f2, f3⟩
                  · clear e2
                    go_upto_region 14 with fail
                    go_quiet (fail)
                    go_wp2_with fail
                    exact ⟨⟨u + 1, z, rfl, rfl, found_step Hy.out hf1 hlj fun h => HNE.out h.2, hlj, _, rfl⟩, by simp [intOf]; omega⟩
                  · rw [f1] at k0
                    clear e2 f1
                    go_upto_region 14 with fail
                    go_quiet (fail)
                    go_wp2_with fail
                    exact ⟨⟨u + 1, z, rfl, rfl, found_step Hy.out hf1 hlj fun h => HNE.out h.2, hlj, _, rfl⟩, by simp [intOf]; omega⟩
                  · rw [f1] at k0
                    rw [f2] at k1
                    clear e2 f1 f2
                    go_upto_region 14 with fail
                    go_quiet (fail)
                    go_wp2_with fail
                    exact ⟨⟨u + 1, z, rfl, rfl, found_step Hy.out hf1 hlj fun h => HNE.out h.2, hlj, _, rfl⟩, by simp [intOf]; omega⟩
              · have hd : ((u : Int) == (j : Int)) = false := by rw [beq_eq_false_iff_ne]; omega
                go_upto_region 14 with fail
                go_quiet (fail)
                go_wp2_with fail
                exact ⟨⟨j + 1, z, rfl, rfl, found_step Hy.out hf1 hlj fun h => e1 (by rw [← Hu.out]; exact h.1), hlj, _, rfl⟩, by simp [intOf]; omega⟩
          · have he := found_end HKl.out hf (by omega)
            have hcd : ¬ ((j : Int) < (k : Int)) ∨ ((j : Int) < (k : Int) ∧ ((z : Int) == (k : Int)) = false) := by
              by_cases hj : j < k
              · exact .inr ⟨by omega, by rw [beq_eq_false_iff_ne]; omega⟩
              · exact .inl (by omega)
            have He := Lib.hid he
            have HO2 : Hid (OwnRules (w1.drewN n) (w.heap.size + 1) (.slice AK K.length cK) K) := HO1.out.drewN n
            have HI2 : Hid (OwnInts (w1.drewN n) (w.heap.size + 1) (.slice AS S.length cS) S) := HI1.out.drewN n
            have HX2 : Hid (Cells3 (w1.drewN n) wr.heap.size X) := HX1.out
            have B2 : Hid (Below (w.heap.size + 1) (w.alloc (Obj.cells #[Value.slice none 0 0] 31)) (w1.drewN n)) := below_drewN B1.out n
            have HSL : Hid (S.length ≤ 1099511627775) := by rw [Hid, HSl.out]; omega
            have HKL : Hid (K.length ≤ 1099511627775) := by rw [Hid, HKl.out]; omega
            have hw2 : Hid (w.heap.size + 1 ≤ (w1.drewN n).heap.size) := Nat.le_trans hwz z1
            clear hf hin he c0 c1 c2 lx
            have hx2 := HX2.out
            generalize w1.drewN n = w2 at *
            obtain ⟨c0, c1, c2, lx⟩ := hx2
            have zr : w.heap.size + 1 ≤ wr.heap.size := hwz
            rcases hcd with d1 | ⟨d1, d2⟩
            all_goals
              go_wp2_with (first
                | (at_builtin; (refine list_push_int (base := w.heap.size + 1) (v := .slice AS S.length cS) (l := S) rfl _ _ rfl rfl rfl rfl HI2.out HSL.out hw2.out ?_); intro v3 w3 own3 hg3 hv3; obtain ⟨A3, c3, rfl, _⟩ := own_nil own3; have hK3 := Lib.hid (keep_rules HO2.out HI2.out hg3); have hX3 := keep_cells HX2.out HI.out (Nat.le_refl _) hg3; obtain ⟨x0, x1, x2, x3⟩ := hX3; have B3 := Lib.hid (keep_below B2.out hw2.out HI2.out hg3); have I3 := Lib.hid own3; have Z3 := Lib.hid (keep_size hw2.out hg3))
                | (at_builtin; go_loud (refine list_push_rule (base := w.heap.size + 1) (v := .slice AK K.length cK) rfl _ _ rfl (by rfl) (by rfl) rfl hK3.out HKL.out Z3.out ?_); intro v4 w4 own4 hg4 hb4; obtain ⟨A4, c4, rfl, _⟩ := own_nil own4; have I4 := Lib.hid (keep_ints I3.out hK3.out hg4); have B4 := Lib.hid ((B3.out.alloc Z3.out _).trans hb4); have K4 := Lib.hid own4))
              have eK : (K ++ [X]).length = K.length + 1 := by simp
              have eS : (S ++ [(z : Int)]).length = S.length + 1 := by simp
              refine ⟨⟨k + 1, by omega, rfl, B4.out, ?_, ?_⟩, by simp [intOf]; omega⟩
              · rw [Hnx.out]
                show OwnRules w4 (w.heap.size + 1) (.slice A4 (K.length + 1) c4) (K ++ [X])
                rw [← eK]; exact K4.out
              · rw [Hnx.out, ← He.out]
                show OwnInts w4 (w.heap.size + 1) (.slice A3 (S.length + 1) c3) (S ++ [(z : Int)])
                rw [← eS]; exact I4.out
    · have hkn : k = xs.length := by omega
      subst hkn
      have hcz := canon_all Hok.out
      obtain ⟨K, S, hKS⟩ : ∃ K S, canon xs = (K, S) := ⟨_, _, rfl⟩
      have hown := HO.out
      have hint := HI.out
      rw [List.take_length, hKS] at hown hint
      rw [hKS] at hcz
      dsimp only at hown hint
      have hKl : K.length = xs.length := hcz.l1
      have hSl : S.length = xs.length := hcz.l2
      have hlowA : ∀ i, i < xs.length → 0 ≤ S.getD i 0 ∧ S.getD i 0 ≤ i := hcz.low
      have HKo : Hid (OkAll K) := hcz.ok
      have Hnd : Hid (needDown K xs.length (rootB xs) = needL xs) := by rw [Hid, needL, hKS]
      have Hrb : Hid (rootB xs = (List.replicate xs.length false).set (S.getD (xs.length - 1) 0).toNat true) := by rw [Hid, rootB, hKS]
      have Hto : Hid (∀ k, trimO xs (k + 1) = outStep K (needL xs) (trimO xs k) k) := fun k => by rw [trimO_succ, hKS]
      have HNl := Lib.hid (needL_len xs)
      obtain ⟨AK, cK, rfl, _, hmK, hrowK⟩ := OwnRules.sl hown
      obtain ⟨AS, cS, rfl, _, hmS, hrowS⟩ := OwnInts.sl hint
      have hmkB : ∀ W : World, (Instr.makeSlice 151 (.int .i64 (xs.length : Int)) (.int .i64 (xs.length : Int))).run Try.prog W = .ok (.slice (some ⟨W.heap.size, 0, none⟩) xs.length xs.length) (W.alloc (.cells (madeCells #[.bool false] xs.length) 4)) :=
        fun W => run_make_row' _ _ _ 1 Try.underlying151 (by kernel_rfl) rfl .i64 .i64 xs.length (by omega) (by omega) W
      have hmkI : ∀ W : World, (Instr.makeSlice 26 (.int .i64 (xs.length : Int)) (.int .i64 (xs.length : Int))).run Try.prog W = .ok (.slice (some ⟨W.heap.size, 0, none⟩) xs.length xs.length) (W.alloc (.cells (madeCells #[.int .i64 0] xs.length) 2)) :=
        fun W => run_make_row' _ _ _ 8 Try.underlying26 Try.infoI rfl .i64 .i64 xs.length (by omega) (by omega) W
      have HmkI := Lib.hid hmkI
      have HrowK := Lib.hid hrowK
      have HrowS := Lib.hid hrowS
      have HKl := Lib.hid hKl
      have HSl := Lib.hid hSl
      have HlowA := Lib.hid hlowA
      clear hmkI
      clear hown hint hcz hKl hlowA hSl hKS HO HI hrowK hrowS hrow HCo hmK hmS B0
      clear hown hint hb hco hlt hk
      generalize wr = w1 at *
      go_upto_region 19 with fail
      have hR0 := RowB.made w1 xs.length
      have hb0 : Below w1.heap.size w1 (w1.alloc (.cells (madeCells #[.bool false] xs.length) 4)) := (Below.refl _ _).alloc (Nat.le_refl _) _
      generalize w1.alloc (.cells (madeCells #[.bool false] xs.length) 4) = w2 at *
      have HR0 := Lib.hid hR0
      have HB0' := Lib.hid hb0
      clear hR0 hb0 hmkB
      go_upto_if 86 with fail
      go_cut [] from 86 to 93 (fun wx => RowB wx w1.heap.size (rootB xs) ∧ Below w1.heap.size w1 wx)
      case first =>
        by_cases h0 : 0 < xs.length
        · obtain ⟨bS, oS, hAS, hbS, hcS⟩ := HrowS.out.int (k := xs.length - 1) (by have := HSl.out; omega)
          subst hAS
          have c0 := hcS (xs.length - 1) (by have := HSl.out; omega)
          obtain ⟨hl1, hl2⟩ := HlowA.out (xs.length - 1) (by omega)
          obtain ⟨t, ht⟩ := Int.eq_ofNat_of_zero_le hl1
          have hm1 : (xs.length : Int) - 1 = ((xs.length - 1 : Nat) : Int) := by omega
          have hm2 : xs.length - 1 < S.length := by have := HSl.out; omega
          have htl : t < xs.length := by omega
          rw [ht, Int.toNat_natCast] at Hrb
          rw [ht] at c0
          obtain ⟨m, hm⟩ : ∃ m, xs.length - 1 = m := ⟨_, rfl⟩
          rw [hm] at hm1 hm2 c0
          have c1 := (HB0'.out.cell (p := ⟨bS, oS + m, none⟩) hbS).trans c0
          have c2 := HR0.out.cell (i := t) (by simpa using htl)
          have f2 := HR0.out.frozen
          have hti : (t : Int) < (xs.length : Int) := by omega
          have hp0 : (0 : Int) < (xs.length : Int) := by omega
          have HR1 := Lib.hid (HR0.out.set t true)
          rw [← Hrb.out] at HR1
          have HB1' := Lib.hid (HB0'.out.setCell (p := ⟨w1.heap.size, t, none⟩) (Nat.le_refl _) (.bool true))
          clear hcS c0 hl1 hl2 ht hm
          go_wp2_with fail
          go_meet
          exact ⟨HR1.out, HB1'.out⟩
        · have hp0 : ¬ (0 : Int) < (xs.length : Int) := by omega
          have hxe : xs.length = 0 := by omega
          have Hxe := Lib.hid hxe
          clear hxe h0
          go_wp2_with fail
          go_meet
          refine ⟨?_, HB0'.out⟩
          have := HR0.out
          rw [Hrb.out, Hxe.out]
          rw [Hxe.out] at this
          exact this
      case rest =>
        revert hcut
        generalize wc = w2'
        intro hcut
        obtain ⟨hr0, hb0⟩ := hcut
        have HR1 := Lib.hid hr0
        have HB1' := Lib.hid hb0
        have hm1 : (xs.length : Int) - 1 = (xs.length : Int) - 1 := rfl
        clear hr0 hb0 HR0 HB0'
        go_wp2_with fail
        go_loopw [11] (fun i wx => ∃ (k : Nat) (z : Int) (N : List Bool), k ≤ xs.length ∧ z = (k : Int) - 1 ∧ i = .int .i64 z ∧ Below w1.heap.size w1 wx ∧ RowB wx w1.heap.size N ∧ N.length = xs.length ∧ needDown K k N = needL xs) (fun i _ => (intOf i + 1).toNat)
        case atStart =>
          exact ⟨xs.length, _, rootB xs, Nat.le_refl _, rfl, rfl, HB1'.out, HR1.out, by simp [rootB], Hnd.out⟩
        case round =>
          obtain ⟨k, z, N, hk2, rfl, rfl, hb2, hrN, hNl, hnN⟩ := hrel
          have HB3 := Lib.hid hb2
          have HRN := Lib.hid hrN
          have HNN := Lib.hid hnN
          have HNlen := Lib.hid hNl
          clear hb2 hrN hnN
          cases k with
          | zero =>
            have hz : ((0 : Nat) : Int) - 1 = -1 := by omega
            rw [hz]
            have hNN : N = needL xs := by have := HNN.out; rwa [needDown] at this
            subst hNN
            obtain ⟨w3, rfl⟩ : ∃ w3 : World, w3 = wr := ⟨_, rfl⟩
            have hmkI := HmkI.out
            clear hz Hrb Hnd HNN hm1
            go_upto_region 29 with fail
            have hri0 : RowI ((w3.alloc (.cells (madeCells #[.int .i64 0] xs.length) 2)).alloc (.cells #[.slice none 0 0] 31)) w3.heap.size (List.replicate xs.length 0) := (RowI.made w3 xs.length).alloc _
            have hbx0 : Boxed ((w3.alloc (.cells (madeCells #[.int .i64 0] xs.length) 2)).alloc (.cells #[.slice none 0 0] 31)) (w3.heap.size + 1) 31 (.slice none 0 0) := Boxed.of1 w3 _ _ _
            have hb04 : Below w3.heap.size w3 ((w3.alloc (.cells (madeCells #[.int .i64 0] xs.length) 2)).alloc (.cells #[.slice none 0 0] 31)) := ((Below.refl _ _).alloc (Nat.le_refl _) _).alloc (by simp) _
            generalize (w3.alloc (.cells (madeCells #[.int .i64 0] xs.length) 2)).alloc (.cells #[.slice none 0 0] 31) = w4 at *
            have z13 := HRN.out.lt
            have HRN4 := Lib.hid (HRN.out.below hb04 z13)
            have HB4 := Lib.hid (HB3.out.trans (hb04.mono (Nat.le_of_lt z13)))
            have HBX := Lib.hid hbx0
            have HRI := Lib.hid hri0
            have Hb4 := Lib.hid hb04
            have hbo : w3.heap.size ≤ w3.heap.size + 1 := Nat.le_succ _
            have hba : w3.heap.size ≤ w3.heap.size := Nat.le_refl _
            have hne : w3.heap.size + 1 ≠ w3.heap.size := by omega
            obtain ⟨bo, hboe⟩ : ∃ bo, w3.heap.size + 1 = bo := ⟨_, rfl⟩
            rw [hboe] at HBX hbo hne
            obtain ⟨ba, hbae⟩ : ∃ ba, w3.heap.size = ba := ⟨_, rfl⟩
            simp only [hboe]
            have HRI : Hid (RowI w4 ba (List.replicate xs.length 0)) := by rw [← hbae]; exact HRI.out
            have hba : w3.heap.size ≤ ba := by omega
            have hne : bo ≠ ba := by omega
            have hsw : ∀ n c, Value.slice (some ⟨w3.heap.size, 0, none⟩) n c = Value.slice (some ⟨ba, 0, none⟩) n c := fun n c => by rw [hbae]
            simp only [hsw]
            clear hri0 hbx0 hb04 HRN HB3 HNlen hNl hk2 hmkI hboe hbae hsw HmkI HrowS HlowA HB1' HR1
            go_wp2_with fail
            go_loopw [14] (fun i wx => ∃ k : Nat, k ≤ xs.length ∧ i = .int .i64 k ∧ Below w3.heap.size w4 wx ∧ ∃ vo : Value, Boxed wx bo 31 vo ∧ OwnRules wx w3.heap.size vo (trimO xs k).1 ∧ RowI wx ba (trimO xs k).2) (fun i _ => xs.length - (intOf i).toNat)
            case atStart => exact ⟨0, Nat.zero_le _, rfl, Below.refl _ _, _, HBX.out, World.ownsRow_nil _ _ _ _, HRI.out⟩
            case round =>
              obtain ⟨k, hk, rfl, hb5, vo, hbx, hown, hri⟩ := hrel
              obtain ⟨Ao, co, rfl, _⟩ := own_nil hown
              have HB5 := Lib.hid hb5
              have HBX5 := Lib.hid hbx
              have HOW := Lib.hid hown
              have HRI5 := Lib.hid hri
              have z34 : w3.heap.size ≤ w4.heap.size := Hb4.out.size
              have z45 : w4.heap.size ≤ wr.heap.size := hb5.size
              clear hb5 hown hri
              by_cases hlt : k < xs.length
              · obtain ⟨bK, oK, hAK, hbK, hcK⟩ := HrowK.out.rule (k := k) (by have := HKl.out; omega)
                subst hAK
                obtain ⟨r, hr⟩ : ∃ r, K[k]? = some r := ⟨_, List.getElem?_eq_getElem (by have := HKl.out; omega)⟩
                have Hr := Lib.hid hr
                have Hor := Lib.hid (HKo.out k r hr)
                obtain ⟨q0, q1, q2⟩ := hcK k r hr
                have B1 : Below w1.heap.size w1 wr := HB4.out.trans (HB5.out.mono (Nat.le_of_lt z13))
                have p0 := (B1.cell (p := ⟨bK, oK + k * 3, none⟩) hbK).trans q0
                have p1 := (B1.cell (p := ⟨bK, oK + k * 3 + 1, none⟩) hbK).trans q1
                have p2 := (B1.cell (p := ⟨bK, oK + k * 3 + 2, none⟩) hbK).trans q2
                have hjK : (k : Int) < (K.length : Int) := by have := HKl.out; omega
                have hjn : (k : Int) < (xs.length : Int) := by omega
                have RNr := Lib.hid (HRN4.out.below HB5.out z13)
                have cN := RNr.out.cell (i := k) (by have := HNl.out; omega)
                have hlN := RNr.out.lt
                obtain ⟨L, T, hLT⟩ : ∃ L T, trimO xs k = (L, T) := ⟨_, _, rfl⟩
                have hTl : T.length = xs.length := by have := (trimO_len xs k).1; rw [hLT] at this; exact this
                have hLl : L.length ≤ k := by have := (trimO_len xs k).2; rw [hLT] at this; exact this
                rw [hLT] at HBX5 HOW HRI5
                dsimp only at HBX5 HOW HRI5
                have hst := Hto.out k
                rw [hLT, outStep, getR_some hr] at hst
                obtain ⟨u, hu⟩ : ∃ u, (needL xs).getD k false = u := ⟨_, rfl⟩
                rw [hu] at cN hst
                dsimp only at hst
                have zbo := hbx.lt
                have zba := HRI5.out.lt
                clear hr hcK q0 q1 q2 B1 hLT hu hbx
                cases u
                · rw [if_neg (by simp)] at hst
                  have Hst := Lib.hid hst
                  clear hst
                  go_wp2_with fail
                  refine ⟨⟨k + 1, by omega, rfl, HB5.out, _, by rw [Hst.out]; exact ⟨HBX5.out, HOW.out, HRI5.out⟩⟩, by simp [intOf]; omega⟩
                · rw [if_pos rfl] at hst
                  obtain ⟨X, hX⟩ : ∃ X, trimR T r = X := ⟨_, rfl⟩
                  rw [hX] at hst
                  have Hst := Lib.hid hst
                  have HX := Lib.hid hX
                  have HTl := Lib.hid hTl
                  have HLl := Lib.hid hLl
                  have hcb := HBX5.out.cell
                  have cT := HRI5.out.cell (i := k) (by omega)
                  have fT := HRI5.out.frozen
                  clear hst hX hTl hLl
                  go_upto_region 34 with fail
                  have ri6 := HRI5.out.set k (L.length : Int)
                  have ow6 : OwnRules (wr.setCell ⟨ba, k, none⟩ (.int .i64 (L.length : Int))) w3.heap.size (.slice Ao L.length co) L := ownsRow_setCell_other (a := ⟨ba, k, none⟩) HOW.out (HRI5.out.not_row HOW.out (by decide)).symm _
                  have bx6 := boxed_other (o := k) HBX5.out hne (.int .i64 (L.length : Int))
                  have hb6 := HB5.out.setCell (p := ⟨ba, k, none⟩) hba (.int .i64 (L.length : Int))
                  have hz6 : (wr.setCell ⟨ba, k, none⟩ (.int .i64 (L.length : Int))).heap.size = wr.heap.size := by simp
                  have hk6 : ∀ o, (wr.setCell ⟨ba, k, none⟩ (.int .i64 (L.length : Int))).cell? ⟨bK, o, none⟩ = wr.cell? ⟨bK, o, none⟩ := fun o => World.cell?_of_block (a := ⟨bK, o, none⟩) (Below.heap_setCell _ _ _ _ (by show bK ≠ ba; omega))
                  rw [← hk6] at p0 p1 p2
                  generalize wr.setCell ⟨ba, k, none⟩ (.int .i64 (L.length : Int)) = w6 at *
                  have HRI6 := Lib.hid ri6
                  have HOW6 := Lib.hid ow6
                  have HBX6 := Lib.hid bx6
                  have HB6 := Lib.hid hb6
                  have hb6K : bK < w6.heap.size := by omega
                  clear ri6 ow6 bx6 hb6 hk6 hcb cT fT
                  go_upto_if 151 with fail
                  go_cut [] from 145 to 162 (fun wx => Below w6.heap.size w6 wx ∧ Cells3 wx wr.heap.size X)
                  case first =>
                    by_cases hp : r.letter.toList.isEmpty = true
                    · rw [hp]
                      have hpr : r.pair = true := by rw [isEmpty_size] at hp; exact hp
                      obtain ⟨e1, e2, e3, e4⟩ := okRule_at Hor.out hpr
                      obtain ⟨la, hla⟩ := Int.eq_ofNat_of_zero_le e1
                      obtain ⟨ra, hra⟩ := Int.eq_ofNat_of_zero_le e3
                      rw [hla] at e2
                      rw [hra] at e4
                      simp only [Int.toNat_natCast] at e2 e4
                      have i1 : (la : Int) < (xs.length : Int) := by omega
                      have i2 : (ra : Int) < (xs.length : Int) := by omega
                      have w1c := HRI6.out.cell (i := la) (by have := HTl.out; simp; omega)
                      have w2c := HRI6.out.cell (i := ra) (by have := HTl.out; simp; omega)
                      have sa : (T.set k (L.length : Int)).getD la 0 = T.getD la 0 := by rw [List.getD_eq_getElem?_getD, List.getElem?_set_ne (by omega), ← List.getD_eq_getElem?_getD]
                      have sb : (T.set k (L.length : Int)).getD ra 0 = T.getD ra 0 := by rw [List.getD_eq_getElem?_getD, List.getElem?_set_ne (by omega), ← List.getD_eq_getElem?_getD]
                      rw [sa] at w1c
                      rw [sb] at w2c
                      obtain ⟨va, hva⟩ : ∃ x, T.getD la 0 = x := ⟨_, rfl⟩
                      obtain ⟨vb, hvb⟩ : ∃ x, T.getD ra 0 = x := ⟨_, rfl⟩
                      rw [hva] at w1c
                      rw [hvb] at w2c
                      have hX2 : X = pairR va vb := by rw [← HX.out, trimR_pair hpr, hla, hra, ← hva, ← hvb]; rfl
                      have HX2 := Lib.hid hX2
                      have zba6 := HRI6.out.lt
                      rw [hla, hra]
                      clear hX2 hpr e1 e3 hva hvb hla hra sa sb
                      have B3 : Below w6.heap.size w6 (w6.alloc (Obj.cells #[Value.string r.letter, Value.int IntKind.i64 la, Value.int IntKind.i64 ra] 138)) := (by repeat (first | exact Below.refl _ _ | (refine Below.alloc ?_ (by first | omega | (simp; done) | (simp; omega)) _) | refine below_drewN ?_ _ | refine Below.drew ?_))
                      have e0 : (w6.alloc (Obj.cells #[Value.string r.letter, Value.int IntKind.i64 la, Value.int IntKind.i64 ra] 138)).heap[w6.heap.size]? = some (Obj.cells #[Value.string r.letter, Value.int IntKind.i64 la, Value.int IntKind.i64 ra] 138 (0, 0)) := alloc_heap_last _ _
                      generalize w6.alloc (Obj.cells #[Value.string r.letter, Value.int IntKind.i64 la, Value.int IntKind.i64 ra] 138) = W3 at *
                      have l0 : w6.heap.size < W3.heap.size := (Array.getElem?_eq_some_iff.1 e0).1
                      have c0 : W3.cell? ⟨w6.heap.size, 0, none⟩ = some (.string r.letter) := by simp [World.cell?, e0]
                      have c1 : W3.cell? ⟨w6.heap.size, 1, none⟩ = some (.int .i64 la) := by simp [World.cell?, e0]
                      have c2 : W3.cell? ⟨w6.heap.size, 2, none⟩ = some (.int .i64 ra) := by simp [World.cell?, e0]
                      have f0 : ∀ o, W3.frozen? ⟨w6.heap.size, o, none⟩ = false := fun o => by simp [World.frozen?, e0]
                      rw [hz6] at c0 c1 c2 f0 l0
                      have w3c := (B3.cell (p := ⟨ba, la, none⟩) zba6).trans w1c
                      have w4c := (B3.cell (p := ⟨ba, ra, none⟩) zba6).trans w2c
                      have B5 := Lib.hid (Below.drew B3)
                      clear B3 e0 w1c w2c p0 p1 p2 cN
                      go_wp2_with fail
                      go_still_tail 11, (by kernel_rfl)
                      change wpList _ _ _ _ _ W3.drew
                      go_wp2_with fail
                      go_meet
                      rw [HX2.out]
                      have hle : w6.heap.size ≤ wr.heap.size := by omega
                      exact ⟨((B5.out.setCell hle _).setCell hle _).setCell hle _, by simp [go_sem, pairR, c0], by simp [go_sem, pairR, c1], by simp [go_sem, pairR, c2], by simp; exact l0⟩
                    · have hpr : r.pair = false := by rw [isEmpty_size] at hp; simpa [GRule.pair] using hp
                      have hX2 : X = r := by rw [← HX.out, trimR_let hpr]
                      have HX2 := Lib.hid hX2
                      have hp2 : r.letter.toList.isEmpty = false := by simpa using hp
                      rw [hp2]
                      clear hX2 hpr hp
                      go_wp2_with fail
                      go_meet
                      rw [HX2.out, ← hz6]
                      exact ⟨(by repeat (first | exact Below.refl _ _ | (refine Below.alloc ?_ (by first | omega | (simp; done) | (simp; omega)) _) | refine below_drewN ?_ _ | refine Below.drew ?_)), by simp [go_sem], by simp [go_sem], by simp [go_sem], by simp⟩
                  case rest =>
                    revert hcut
                    generalize wc = w7
                    intro hcut
                    obtain ⟨hb7, hx7⟩ := hcut
                    have HX7 := Lib.hid hx7
                    have HBX7 := Lib.hid (Boxed.up HBX6.out hb7 HBX6.out.lt)
                    have HRI7 := Lib.hid (HRI6.out.below hb7 HRI6.out.lt)
                    have HOW7 : Hid (OwnRules w7 w3.heap.size (.slice Ao L.length co) L) := OwnRules.below HOW6.out hb7
                    have BB7 := Lib.hid (HB6.out.trans (hb7.mono (by omega)))
                    have HW7 : Hid (w3.heap.size ≤ w7.heap.size) := by have := hb7.size; rw [Hid]; omega
                    obtain ⟨x0, x1, x2, x3⟩ := hx7
                    have hcb := HBX7.out.cell
                    have HLL : Hid (L.length ≤ 1099511627775) := by have := HLl.out; exact Nat.le_trans this (by omega)
                    clear hb7 p0 p1 p2 cN
                    go_wp2_with (first
                      | (at_builtin; refine list_push_rule (base := w3.heap.size) (v := .slice Ao L.length co) rfl _ _ rfl (by rfl) (by rfl) rfl HOW7.out HLL.out HW7.out ?_; intro v8 w8 own8 hg8 hb8; have bx8 : Boxed w8 bo 31 _ := Boxed.grown HBX7.out (by decide) HOW7.out hg8; have ri8 := Lib.hid ((HRI7.out.alloc _).kept hg8 (HRI7.out.not_row HOW7.out (by decide))); obtain ⟨A8, c8, rfl, _⟩ := own_nil own8; have hcb8 := bx8.cell; have hfb8 := bx8.frozen; have hl8 := bx8.lt; have own9 := Lib.hid (own_put bx8 own8 rfl List.length_append); have B9 := Lib.hid (((BB7.out.alloc HW7.out _).trans hb8).setCell (p := ⟨bo, 0, none⟩) hbo (.slice A8 (L.length + 1) c8)); have X9 : Hid (Boxed (w8.setCell ⟨bo, 0, none⟩ (.slice A8 (L.length + 1) c8)) bo 31 (.slice A8 (L.length + 1) c8)) := Boxed.set _ bx8; have R9 := Lib.hid (ri8.out.other (c := bo) (o := 0) hne.symm (.slice A8 (L.length + 1) c8)); clear own8 hg8 hb8))
                    refine ⟨⟨k + 1, by omega, rfl, B9.out, _, X9.out, ?_⟩, by simp [intOf]; omega⟩
                    rw [Hst.out]
                    exact ⟨own9.out, R9.out⟩
              · have hkn : k = xs.length := by omega
                subst hkn
                have h1b : Below w1.heap.size w1 wr := HB4.out.trans (HB5.out.mono (Nat.le_of_lt z13))
                have h0b : Below (w.heap.size + 1) _ wr := HB.out.trans (h1b.mono hwz)
                have cb := hbx.cell
                have hz9 : w.heap.size < wr.heap.size := by omega
                have H0 := Lib.hid h0b
                have hn9 : Boxed (w.alloc (Obj.cells #[Value.slice none 0 0] 31)) w.heap.size 31 (.slice none 0 0) := Boxed.new _ _ _
                have hb9 : Boxed wr w.heap.size 31 (.slice none 0 0) := (h0b.block w.heap.size (by omega)).trans hn9
                have c9 := hb9.cell
                have f9 := hb9.frozen
                have Hcw := Lib.hid (Boxed.set (.slice Ao (trimO xs xs.length).1.length co) hb9).cell
                clear h1b h0b hn9 hb9
                go_wp2_with fail
                refine bodyPost_ret (v := .agg #[.slice Ao (trimO xs xs.length).1.length co]) (by simp [results, Try.results82, go_sem, Hcw.out]) rfl ⟨?_, .slice Ao (trimO xs xs.length).1.length co, ?_, rfl⟩
                · exact ((Below.refl w.heap.size w).alloc (Nat.le_refl _) _).trans (H0.out.mono (by omega)) |>.setCell (Nat.le_refl _) _
                · exact ownsRow_setCell_below (a := ⟨w.heap.size, 0, none⟩) (ownsRow_more HOW.out (base' := w.heap.size + 1) (by omega)) (by show w.heap.size < w.heap.size + 1; omega) _ |> fun h => ownsRow_more h (by omega)
          | succ j =>
            have hz : ((j + 1 : Nat) : Int) - 1 = (j : Int) := by omega
            rw [hz]
            clear hz
            obtain ⟨bK, oK, hAK, hbK, hcK⟩ := HrowK.out.rule (k := j) (by have := HKl.out; omega)
            subst hAK
            obtain ⟨r, hr⟩ : ∃ r, K[j]? = some r := ⟨_, List.getElem?_eq_getElem (by have := HKl.out; omega)⟩
            have Hr := Lib.hid hr
            have Hor := Lib.hid (HKo.out j r hr)
            obtain ⟨q0, q1, q2⟩ := hcK j r hr
            have p0 := (HB3.out.cell (p := ⟨bK, oK + j * 3, none⟩) hbK).trans q0
            have p1 := (HB3.out.cell (p := ⟨bK, oK + j * 3 + 1, none⟩) hbK).trans q1
            have p2 := (HB3.out.cell (p := ⟨bK, oK + j * 3 + 2, none⟩) hbK).trans q2
            have hjK : (j : Int) < (K.length : Int) := by have := HKl.out; omega
            have hjn : (j : Int) < (xs.length : Int) := by omega
            have cN := HRN.out.cell (i := j) (by have := HNlen.out; omega)
            have hlN := HRN.out.lt
            obtain ⟨u, hu⟩ : ∃ u, N.getD j false = u := ⟨_, rfl⟩
            rw [hu] at cN
            have Hu := Lib.hid hu
            clear hr hcK q0 q1 q2 hu hNl hm1
            cases u
            · go_wp2_with fail
              go_roundw
              case rel => exact ⟨j, _, N, by omega, rfl, rfl, HB3.out, HRN.out, HNlen.out, by rw [← HNN.out, needDown, needStep, Hu.out]; rfl⟩
              case measure => simp [intOf]
            · by_cases hp : r.letter.toList.isEmpty = true
              · have hpr : r.pair = true := by rw [isEmpty_size] at hp; exact hp
                obtain ⟨e1, e2, e3, e4⟩ := okRule_at Hor.out hpr
                obtain ⟨la, hla⟩ := Int.eq_ofNat_of_zero_le e1
                obtain ⟨ra, hra⟩ := Int.eq_ofNat_of_zero_le e3
                rw [hla] at e2 p1
                rw [hra] at e4 p2
                simp only [Int.toNat_natCast] at e2 e4
                have Hla := Lib.hid hla
                have Hra := Lib.hid hra
                have Hpr := Lib.hid hpr
                clear hpr
                have i1 : (la : Int) < (xs.length : Int) := by omega
                have i2 : (ra : Int) < (xs.length : Int) := by omega
                have cL := HRN.out.cell (i := la) (by have := HNlen.out; omega)
                have cR := HRN.out.cell (i := ra) (by have := HNlen.out; omega)
                have fN := HRN.out.frozen
                have hne : bK ≠ w1.heap.size := by omega
                have hne' : w1.heap.size ≠ bK := by omega
                have H3 := Lib.hid ((HRN.out.set la true).set ra true)
                have B4 := Lib.hid ((HB3.out.setCell (p := ⟨w1.heap.size, la, none⟩) (Nat.le_refl _) (.bool true)).setCell (p := ⟨w1.heap.size, ra, none⟩) (Nat.le_refl _) (.bool true))
                clear e1 e3 hla hra
                by_cases hlr : la = ra
                · subst hlr
                  go_wp2_with fail
                  go_roundw
                  case rel => exact ⟨j, _, _, by omega, rfl, rfl, B4.out, H3.out, by simpa using HNlen.out, by rw [← HNN.out, needDown, needStep, getR_some Hr.out, Hu.out, Hpr.out, Hla.out, Hra.out]; rfl⟩
                  case measure => simp [intOf]
                · have hlr2 : ra ≠ la := fun e => hlr e.symm
                  go_wp2_with fail
                  go_roundw
                  case rel => exact ⟨j, _, _, by omega, rfl, rfl, B4.out, H3.out, by simpa using HNlen.out, by rw [← HNN.out, needDown, needStep, getR_some Hr.out, Hu.out, Hpr.out, Hla.out, Hra.out]; rfl⟩
                  case measure => simp [intOf]
              · have hpr : r.pair = false := by rw [isEmpty_size] at hp; simpa [GRule.pair] using hp
                have hp2 : r.letter.toList.isEmpty = false := by simpa using hp
                have Hpr := Lib.hid hpr
                have hgr : getR K j = r := getR_some Hr.out
                have Hgr := Lib.hid hgr
                clear hpr hp hgr
                go_wp2_with fail
                go_roundw
                case rel => exact ⟨j, _, N, by omega, rfl, rfl, HB3.out, HRN.out, HNlen.out, by rw [← HNN.out, needDown, needStep, Hgr.out, Hpr.out, Bool.and_false]; rfl⟩
                case measure => simp [intOf]
def partX (xs : List GRule) (i j : Int) : List GRule := match lens xs with
  | some ls => partG xs ls i j
  | none => []
def partIn (xs : List GRule) (i j : Int) : Bool := match lens xs with
  | some ls => decide (0 ≤ i) && decide (i ≤ j) && decide (j ≤ lastI ls)
  | none => false
def partOut (xs : List GRule) (i j : Int) : List GRule := if gramOk xs && partIn xs i j then limOut (partX xs i j) else []
def partCode (xs : List GRule) (i j : Int) : Int := if gramOk xs then if partIn xs i j then limCode (partX xs i j) else 2 else 1
theorem partOut_yes {xs : List GRule} {ls : List Int} {i j : Int} (h : gramOk xs = true) (hl : lens xs = some ls) (hi : 0 ≤ i ∧ i ≤ j ∧ j ≤ lastI ls) : partOut xs i j = limOut (partG xs ls i j) ∧ partCode xs i j = limCode (partG xs ls i j) := by
  have e1 : partIn xs i j = true := by simp [partIn, hl, hi]
  have e2 : partX xs i j = partG xs ls i j := by simp [partX, hl]
  simp [partOut, partCode, h, e1, e2]
def partAsk (xs : List GRule) (i j : Int) : Int := if gramOk xs then if partIn xs i j then 0 else 2 else 1
set_option maxRecDepth 100000 in
set_option maxHeartbeats 1000000 in
theorem l02Part_any (b o : Nat) (v : Value) (xs : List GRule) (i j : Int) (w : World) (hp : w.cell? ⟨b, o, none⟩ = some v) (hbl : b < w.heap.size) (h : Sl RuleE w w.heap.size v xs) (hsm : SmallL xs) (hn : xs.length ≤ 1048576) :
    Calls Try.prog 79 #[.pointer (some ⟨b, o, none⟩), .int .i64 i, .int .i64 j] w fun e w' => e = .returned (.int .i64 (partAsk xs i j)) ∧ Below w.heap.size w w' := by
  have HR := Lib.hid h
  clear h
  go_enter Try.func79, Try.ntmps79
  go_wp2_with fail
  refine (l02Ok_any _ _ _ xs _ hp hbl HR.out hsm).mono ?_
  rintro e w1 ⟨rfl, hb1⟩
  have p1 := (hb1.cell (p := ⟨b, o, none⟩) hbl).trans hp
  have z1 : b < w1.heap.size := Nat.lt_of_lt_of_le hbl hb1.size
  have B1 := Lib.hid hb1
  have R1 := Lib.hid (HR.out.up hb1)
  clear hb1 hp
  by_cases hok : gramOk xs = true
  · have Hok := Lib.hid hok
    obtain ⟨h4, ls, hl⟩ := gram_lens hok
    have Hl := Lib.hid hl
    have ho2 : (!gramOk xs) = false := by simp [hok]
    clear hok hl
    by_cases hin : 0 ≤ i ∧ i ≤ j ∧ j ≤ lastI ls
    · have e1 : partIn xs i j = true := by simp [partIn, Hl.out, hin]
      have e2 : partAsk xs i j = 0 := by simp [partAsk, Hok.out, e1]
      have E2 := Lib.hid e2
      obtain ⟨i1, i2, i3⟩ := hin
      have n1 : ¬ i < 0 := by omega
      have n2 : ¬ i > j := by omega
      have n3 : ¬ j > lastI ls := by omega
      clear e1 e2 i1 i2 i3
      go_wp2_with fail
      refine (l02Length_any _ _ _ xs ls _ Hl.out p1 z1 R1.out hsm (by omega)).mono ?_
      rintro e w2 ⟨rfl, hb2⟩
      go_wp2_with fail
      go_ret
      exact ⟨by rw [E2.out]; rfl, B1.out.trans (hb2.mono B1.out.size)⟩
    · have e1 : partIn xs i j = false := by
        simp only [partIn, Hl.out]
        rw [Bool.eq_false_iff]
        intro e; simp at e; exact hin ⟨e.1.1, e.1.2, e.2⟩
      have e2 : partAsk xs i j = 2 := by simp [partAsk, Hok.out, e1]
      have E2 := Lib.hid e2
      have hcs : i < 0 ∨ (¬ i < 0 ∧ i > j) ∨ (¬ i < 0 ∧ ¬ i > j ∧ j > lastI ls) := by omega
      clear e1 e2 hin
      rcases hcs with d | ⟨d1, d2⟩ | ⟨d1, d2, d3⟩
      · go_wp2_with fail
        go_ret
        exact ⟨by rw [E2.out]; rfl, B1.out⟩
      · go_wp2_with fail
        go_ret
        exact ⟨by rw [E2.out]; rfl, B1.out⟩
      · go_wp2_with fail
        refine (l02Length_any _ _ _ xs ls _ Hl.out p1 z1 R1.out hsm (by omega)).mono ?_
        rintro e w2 ⟨rfl, hb2⟩
        go_wp2_with fail
        go_ret
        exact ⟨by rw [E2.out]; rfl, B1.out.trans (hb2.mono B1.out.size)⟩
  · have ho2 : (!gramOk xs) = true := by simp [hok]
    have e2 : partAsk xs i j = 1 := by simp [partAsk, hok]
    have E2 := Lib.hid e2
    clear e2 hok
    go_wp2_with fail
    go_ret
    exact ⟨by rw [E2.out]; rfl, B1.out⟩
set_option maxRecDepth 100000 in
set_option maxHeartbeats 1000000 in
theorem specPart_any (v : Value) (xs : List GRule) (i j : Int) (w : World) (h : Sl RuleE w w.heap.size v xs) (hn : xs.length ≤ 1048576) (hsm : SmallL xs) :
    Calls Try.prog 24 #[.agg #[v], .int .i64 i, .int .i64 j] w (GRes (partOut xs i j) (partCode xs i j) w) := by
  have h1 := fun o o' => (h.below (((Below.refl w.heap.size w).alloc (Nat.le_refl _) o).alloc (by simp) o')).le (B' := ((w.alloc o).alloc o').heap.size) (by simp; omega)
  have H1 := Lib.hid h1
  clear h1
  obtain ⟨A, c, rfl, hc, hm, hrow⟩ := h
  clear hm hrow
  go_enter Try.func24, Try.ntmps24
  go_wp2_with fail
  refine (l02Part_any _ _ _ xs i j _ (by simp [go_sem]) (by simp; omega) (H1.out _ _) hsm hn).mono ?_
  rintro e w1 ⟨rfl, hb1⟩
  obtain ⟨hc1, hf1⟩ := bcell hb1
  have hz1 : w.heap.size + 1 < w1.heap.size := by have := hb1.size; simp at this; omega
  have a1 : w1.cell? ⟨w.heap.size, 0, none⟩ = some (.slice A xs.length c) := by rw [hc1 _ _ (by first | omega | (simp; done) | (simp; omega))]; simp [go_sem]
  have c1 : w1.cell? ⟨w.heap.size + 1, 0, none⟩ = some (.slice none 0 0) := by rw [hc1 _ _ (by first | omega | (simp; done) | (simp; omega))]; simp [go_sem]
  have f1 : w1.frozen? ⟨w.heap.size + 1, 0, none⟩ = false := by rw [hf1 _ _ (by first | omega | (simp; done) | (simp; omega))]; simp [go_sem]
  have S1 := Lib.hid ((H1.out (Obj.cells #[Value.slice A xs.length c] 31) (Obj.cells #[Value.slice none 0 0] 31)).up hb1)
  have B1 := Lib.hid (((Below.refl w.heap.size w).alloc (Nat.le_refl _) (Obj.cells #[Value.slice A xs.length c] 31)).alloc (by simp) (Obj.cells #[Value.slice none 0 0] 31) |>.trans (hb1.mono (by simp; omega)))
  clear hc1 hf1 hb1
  by_cases hgo : gramOk xs = true ∧ partIn xs i j = true
  · obtain ⟨hok, hin⟩ := hgo
    have ea : partAsk xs i j = 0 := by simp [partAsk, hok, hin]
    obtain ⟨h4, ls, hl⟩ := gram_lens hok
    have hi : 0 ≤ i ∧ i ≤ j ∧ j ≤ lastI ls := by
      simp only [partIn, hl] at hin
      simp at hin; exact ⟨hin.1.1, hin.1.2, hin.2⟩
    obtain ⟨E1, E2⟩ := partOut_yes hok hl hi
    have E1 := Lib.hid E1
    have E2 := Lib.hid E2
    have Hl := Lib.hid hl
    have Hi := Lib.hid hi
    rw [ea]
    have z0 : w.heap.size < w1.heap.size := by omega
    clear ea hok hin hl hi
    go_wp2_with fail
    refine (l02Cut_any _ _ _ xs ls i j _ a1 z0 S1.out hsm Hl.out h4 Hi.out.1 Hi.out.2.1 Hi.out.2.2).mono ?_
    rintro e w2 ⟨hb2, v2, own2, rfl⟩
    obtain ⟨A2, k2, rfl, _⟩ := own_nil own2
    have c2 := cell_up c1 hb2 (by omega)
    have f2 : w2.frozen? ⟨w.heap.size + 1, 0, none⟩ = false := by rw [hb2.frozen hz1, f1]
    have z2 : w.heap.size + 1 < w2.heap.size := by have := hb2.size; omega
    have z12 : w1.heap.size ≤ w2.heap.size := hb2.size
    have B2 := Lib.hid (B1.out.trans (hb2.mono (by omega)))
    have hcg := cutG_ok (okAll_lens Hl.out) (piecesL xs ls i j) (pieces_mem Hl.out i j)
    have hpl := pieces_len Hl.out i j
    have Hcg := Lib.hid hcg
    obtain ⟨C, hC⟩ : ∃ C, cutG xs (piecesL xs ls i j) = C := ⟨_, rfl⟩
    rw [hC] at own2 Hcg
    rw [hC]
    have HC : Hid (partG xs ls i j = trimG C) := by rw [Hid, partG, hC]
    have hcl : C.length ≤ 4194304 := by have := Hcg.out.2; omega
    have bx3 : Boxed (w2.alloc (Obj.cells #[Value.slice A2 C.length k2] 31)) w2.heap.size 31 (.slice A2 C.length k2) := Boxed.new _ _ _
    have S3 := Lib.hid ((own2.alloc (Obj.cells #[Value.slice A2 C.length k2] 31)).sl)
    have hb3 : Below w2.heap.size w2 (w2.alloc (Obj.cells #[Value.slice A2 C.length k2] 31)) := (Below.refl _ _).alloc (Nat.le_refl _) _
    have c3 := cell_up c2 hb3 (by omega)
    have f3 : (w2.alloc (Obj.cells #[Value.slice A2 C.length k2] 31)).frozen? ⟨w.heap.size + 1, 0, none⟩ = false := by rw [hb3.frozen z2, f2]
    have B3 := Lib.hid (B2.out.trans (hb3.mono (by omega)))
    have cb3 := bx3.cell
    have lb3 := bx3.lt
    clear a1 c1 f1 c2 f2 hb2 own2 hC hb3 bx3 hcg
    go_wp2_with fail
    refine (l02Trim_any _ _ _ C _ cb3 lb3 S3.out hcl Hcg.out.1).mono ?_
    rintro e w4 ⟨hb4, v4, own4, rfl⟩
    have c4 := cell_up c3 hb4 (by simp; omega)
    have f4 : w4.frozen? ⟨w.heap.size + 1, 0, none⟩ = false := by rw [hb4.frozen (by simp; omega), f3]
    have z4 : w.heap.size + 1 < w4.heap.size := by have := hb4.size; simp at this; omega
    have z24 : w2.heap.size + 1 ≤ w4.heap.size := by have := hb4.size; simpa using this
    have B4 := Lib.hid (B3.out.trans (hb4.mono (by simp; omega)))
    have O4 := Lib.hid own4
    clear c3 f3 hb4 own4 cb3 lb3
    go_wp2_with fail
    refine (l02Told_any _ _ _ _ O4.out (trimG_small Hcg.out.1)).mono ?_
    rintro e w5 ⟨hb5, v5, own5, rfl⟩
    obtain ⟨A5, k5, rfl, _⟩ := own_nil own5
    have c5 := cell_up c4 hb5 (by omega)
    have f5 : w5.frozen? ⟨w.heap.size + 1, 0, none⟩ = false := by rw [hb5.frozen z4, f4]
    have B5 := Lib.hid (B4.out.trans (hb5.mono (by omega)))
    have O5 := Lib.hid own5
    clear c4 f4 hb5 own5
    go_wp2
    refine bodyPost_ret (v := .tuple #[.agg #[.slice A5 (limOut (trimG C)).length k5], .int .i64 (limCode (trimG C))]) (by simp [results, Try.results24, go_sem, c5]) rfl ⟨?_, _, ?_, by rw [E2.out, HC.out]⟩
    · exact B5.out.setCell (by show w.heap.size ≤ w.heap.size + 1; omega) _
    · rw [E1.out, HC.out]
      exact ownsRow_more (ownsRow_setCell_below O5.out (a := ⟨w.heap.size + 1, 0, none⟩) (by simp; omega) _) (by simp; omega)
  · have hcs : (partOut xs i j = [] ∧ partCode xs i j = partAsk xs i j) ∧ (partAsk xs i j = 1 ∨ partAsk xs i j = 2) := by
      unfold partOut partCode partAsk
      cases hg : gramOk xs <;> cases hp : partIn xs i j <;> simp_all
    obtain ⟨⟨e1, e2⟩, e3⟩ := hcs
    have E1 := Lib.hid e1
    have E2 := Lib.hid e2
    clear e1 e2 hgo
    rcases e3 with e | e
    all_goals
      rw [e]
      have E3 := Lib.hid e
      clear e
      go_wp2
      first
        | refine bodyPost_ret (v := .tuple #[.agg #[.slice none 0 0], .int .i64 1]) (by simp [results, Try.results24, go_sem, c1]) rfl ⟨?_, _, ?_, by rw [E2.out, E3.out]⟩
        | refine bodyPost_ret (v := .tuple #[.agg #[.slice none 0 0], .int .i64 2]) (by simp [results, Try.results24, go_sem, c1]) rfl ⟨?_, _, ?_, by rw [E2.out, E3.out]⟩
      · exact B1.out.setCell (by show w.heap.size ≤ w.heap.size + 1; omega) _
      · rw [E1.out]; exact World.ownsRow_nil _ _ _ _
end Go.Proofs.Ytejgbfgocaggfaa
