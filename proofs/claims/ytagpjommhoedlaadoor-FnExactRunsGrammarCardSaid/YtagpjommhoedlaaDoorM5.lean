import Derived.Test.YtagpjommhoedlaaDoorM4
import Derived.BigQuiet
import Derived.Test.YtagpjommhoedlaaDoorM3
import Derived.Test.YtagpjommhoedlaaDoorM2
import Derived.Deep.RegionWith
import Derived.Deep.RegionLaw
import Derived.Shelf.Small.Strs
import Derived.Shelf.Utf8.RuneCount
import Derived.Shelf.LaysM
import Derived.Shelf.Strings.Search1
import Derived.Shelf.Strings.Search2
import Derived.Shelf.Strings.Search3
import Derived.Shelf.Strings.Count
import Derived.Shelf.Strings.Shaped
import Derived.Shelf.Strings.Split
import Derived.Shelf.Strings.SplitShaped
import Derived.Shelf.Strings.RuneCount
import Derived.Shelf.Strings.Explode
import Derived.Test.YtagpjommhoedlaaDoorProg
import Derived.Test.YtagpjommhoedlaaDoorM1
import Derived.Lib.UnsafeStr
import Derived.Laws.IdiomStrings
import Derived.ArgAppend
import Derived.Deep.DeepCutAuto
import Derived.Deep.CutBlock
namespace Go.Proofs.YtagpjommhoedlaaDoor
open Go.RowKit

/-- How far the search for a rule has come. -/
def Found (K : List GRule) (X : GRule) (k j q : Nat) : Prop := (q = k ∧ j ≤ K.idxOf X ∧ j ≤ k) ∨ (q = K.idxOf X ∧ q < k)

theorem idxOf_le_of {K : List GRule} {j : Nat} {y : GRule} (h : K[j]? = some y) : K.idxOf y ≤ j := by
  induction K generalizing j with
  | nil => simp at h
  | cons a K ih =>
    rw [List.idxOf_cons]
    by_cases he : a = y
    · simp [he]
    · cases j with
      | zero => simp at h; exact absurd h he
      | succ j =>
        have := ih (j := j) (by simpa using h)
        have e : (a == y) = false := by simpa using he
        rw [e]
        simp; omega
theorem idxOf_at {K : List GRule} {y : GRule} (h : y ∈ K) : K[K.idxOf y]? = some y := by
  induction K with
  | nil => simp at h
  | cons a K ih =>
    rw [List.idxOf_cons]
    by_cases he : a = y
    · simp [he]
    · have e : (a == y) = false := by simpa using he
      rw [e]
      simp only [cond_false, List.getElem?_cons_succ]
      exact ih (by simpa [Ne.symm he] using h)
theorem rule_ne {y X : GRule} (h : ¬ y = X) : (y.letter.toList == X.letter.toList) = false ∨ (y.letter = X.letter ∧ (y.left == X.left) = false) ∨ (y.letter = X.letter ∧ y.left = X.left ∧ (y.right == X.right) = false) := by
  by_cases h1 : y.letter = X.letter
  · by_cases h2 : y.left = X.left
    · refine .inr (.inr ⟨h1, h2, ?_⟩)
      rw [beq_eq_false_iff_ne]
      intro h3
      cases y; cases X; simp at h1 h2 h3; subst h1 h2 h3; exact h rfl
    · exact .inr (.inl ⟨h1, by rw [beq_eq_false_iff_ne]; exact h2⟩)
  · refine .inl ?_
    rw [beq_eq_false_iff_ne]
    intro e
    have := beq_toListBytes y.letter X.letter
    rw [e] at this
    simp at this
    exact h1 (ByteArray.ext (eq_of_beq this))
theorem found_step {K : List GRule} {X y : GRule} {k j : Nat} (hy : K[j]? = some y) (h1 : j ≤ K.idxOf X) (hlt : j < k) (hn : ¬ (K.idxOf y = j ∧ y = X)) : Found K X k (j + 1) k := by
  refine .inl ⟨rfl, ?_, hlt⟩
  rcases Nat.lt_or_ge j (K.idxOf X) with h | h
  · exact h
  · have e : j = K.idxOf X := by omega
    have hl := (List.getElem?_eq_some_iff.1 hy).1
    have hm : X ∈ K := List.idxOf_lt_length_iff.1 (by omega)
    have h2 := idxOf_at hm
    rw [← e, hy] at h2
    have : y = X := Option.some.inj h2
    exact absurd ⟨by rw [this]; exact e.symm, this⟩ hn
theorem found_end {K : List GRule} {X : GRule} {k j q : Nat} (hK : K.length = k) (h : Found K X k j q) (hj : q = k → k ≤ j) : q = K.idxOf X := by
  rcases h with ⟨h1, h2, h3⟩ | ⟨h1, _⟩
  · have := hj h1
    have h4 : K.idxOf X ≤ K.length := List.idxOf_le_length
    omega
  · exact h1

theorem keep_rules {W w' : World} {base : Nat} {v vs : Value} {L : List GRule} {S : List Int} {o : Obj} (ho : OwnRules W base v L) (hi : OwnInts W base vs S) (hg : (W.alloc o).grownBy w' vs.ownBlock) : OwnRules w' base v L :=
  own_keep (ho.alloc o) fun g hgg => hg.block g (World.ownsRow.lt (ho.alloc o) g hgg).2 (own_apart (ho.alloc o) (hi.alloc o) (by decide) g hgg)
theorem keep_ints {W w' : World} {base : Nat} {v vs : Value} {L : List GRule} {S : List Int} {o : Obj} (hi : OwnInts W base vs S) (ho : OwnRules W base v L) (hg : (W.alloc o).grownBy w' v.ownBlock) : OwnInts w' base vs S :=
  own_keep (hi.alloc o) fun g hgg => hg.block g (World.ownsRow.lt (hi.alloc o) g hgg).2 (own_apart (hi.alloc o) (ho.alloc o) (by decide) g hgg)
theorem keep_cells {Wr W w' : World} {base B : Nat} {vs : Value} {S : List Int} {o : Obj} {X : GRule} (hc : Cells3 W B X) (hi : OwnInts Wr base vs S) (hB : Wr.heap.size ≤ B) (hg : (W.alloc o).grownBy w' vs.ownBlock) : Cells3 w' B X :=
  (hc.alloc o).kept hg (own_far hi hB)
theorem keep_below {w0 W w' : World} {base : Nat} {vs : Value} {S : List Int} {o : Obj} (hb : Below base w0 W) (hw : base ≤ W.heap.size) (hi : OwnInts W base vs S) (hg : (W.alloc o).grownBy w' vs.ownBlock) : Below base w0 w' :=
  (hb.alloc hw o).grown hg (Nat.le_trans hw (by simp)) fun g hgg => (World.ownsRow.lt hi g hgg).1
theorem keep_size {W w' : World} {base : Nat} {row : Option Nat} {o : Obj} (hw : base ≤ W.heap.size) (hg : (W.alloc o).grownBy w' row) : base ≤ w'.heap.size := Nat.le_trans hw (Nat.le_trans (by simp) hg.size)

set_option maxRecDepth 100000 in
set_option maxHeartbeats 4000000 in
theorem l02Trim_any (b o : Nat) (v : Value) (xs : List GRule) (w : World) (hp : w.cell? ⟨b, o, none⟩ = some v) (hbl : b < w.heap.size) (h : Sl RuleE w w.heap.size v xs) (hn : xs.length ≤ 4194304) (hok : OkAll xs) :
    Calls Tryd.prog 39 #[.pointer (some ⟨b, o, none⟩)] w (GOwn (trimG xs) w) := by
  obtain ⟨A, c, rfl, hc, hm, hrow⟩ := h
  have Hok := Lib.hid hok
  clear hm hok
  go_enter Tryd.func39, Tryd.ntmps39
  go_wp2_with fail
  go_loopw [4, 5, 6] (fun s a i wr => ∃ k : Nat, k ≤ xs.length ∧ i = .int .i64 k ∧ Below (w.heap.size + 1) (w.alloc (Obj.cells #[Value.slice none 0 0] 26)) wr ∧
    OwnRules wr (w.heap.size + 1) a (canon (xs.take k)).1 ∧ OwnInts wr (w.heap.size + 1) s (canon (xs.take k)).2) (fun _ _ i _ => xs.length - (intOf i).toNat)
  case atStart =>
    refine ⟨0, Nat.zero_le _, rfl, (by repeat (first | exact Below.refl _ _ | (refine Below.alloc ?_ (by first | omega | (simp; done) | (simp; omega)) _) | refine below_drewN ?_ _ | refine Below.drew ?_)), ?_, ?_⟩
    · exact OwnRules.empty (by simp) (by simp)
    · exact (OwnInts.empty (N := w.heap.size + 1) (by simp) (by simp)).alloc _
  case round =>
    obtain ⟨k, hk, rfl, hb, hown, hint⟩ := hrel
    have hwz : w.heap.size + 1 ≤ wr.heap.size := by have := hb.size; simpa using this
    have hco := canon_ok Hok.out k hk
    have HB := Lib.hid hb
    have HO := Lib.hid hown
    have HI := Lib.hid hint
    have HCo := Lib.hid hco
    have B0 : Below w.heap.size w wr := ((Below.refl w.heap.size w).alloc (Nat.le_refl _) _).trans (hb.mono (by omega))
    have hpr := (B0.cell (p := ⟨b, o, none⟩) hbl).trans hp
    have HB0 := Lib.hid B0
    by_cases hlt : k < xs.length
    · obtain ⟨bb, oo, rfl, hbb, hcell⟩ := hrow.rule hlt
      obtain ⟨r, hr⟩ : ∃ r, xs[k]? = some r := ⟨_, List.getElem?_eq_getElem hlt⟩
      obtain ⟨q0, q1, q2⟩ := hcell k r hr
      have p0 := (B0.cell (p := ⟨bb, oo + k * 3, none⟩) hbb).trans q0
      have p1 := (B0.cell (p := ⟨bb, oo + k * 3 + 1, none⟩) hbb).trans q1
      have p2 := (B0.cell (p := ⟨bb, oo + k * 3 + 2, none⟩) hbb).trans q2
      have hi : (k : Int) < (xs.length : Int) := by omega
      have hor := Hok.out k r hr
      have Hr := Lib.hid hr
      have Hor := Lib.hid hor
      clear hcell hr q0 q1 q2 hb hown hint hor hco hrow B0
      go_upto_if 37 with fail
      obtain ⟨K, hK⟩ : ∃ K, (canon (xs.take k)).1 = K := ⟨_, rfl⟩
      obtain ⟨S, hS⟩ : ∃ S, (canon (xs.take k)).2 = S := ⟨_, rfl⟩
      have hKl : K.length = k := by rw [← hK]; exact HCo.out.l1
      have hSl : S.length = k := by rw [← hS]; exact HCo.out.l2
      have hlow : ∀ i, i < k → 0 ≤ S.getD i 0 ∧ S.getD i 0 ≤ i := by rw [← hS]; exact HCo.out.low
      have hidx : ∀ i, i < k → S.getD i 0 = ((K.idxOf (getR K i) : Nat) : Int) := by rw [← hS, ← hK]; exact HCo.out.idx
      rw [hK] at HO
      rw [hS] at HI
      have hnx : canon (xs.take (k + 1)) = (K ++ [trimR S r], S ++ [((K.idxOf (trimR S r) : Nat) : Int)]) := by rw [canon_snoc Hr.out, trimStep, hK, hS]
      have Hnx := Lib.hid hnx
      obtain ⟨X, hX⟩ : ∃ X, trimR S r = X := ⟨_, rfl⟩
      have HX := Lib.hid hX
      rw [hX] at Hnx
      clear hK hS hnx hX HCo
      have HKl := Lib.hid hKl
      have HSl := Lib.hid hSl
      have Hlow := Lib.hid hlow
      have Hidx := Lib.hid hidx
      clear hKl hSl hlow hidx
      go_cut [] from 28 to 48 (fun wx => Below wr.heap.size wr wx ∧ Cells3 wx wr.heap.size X)
      case first =>
        by_cases hp : r.letter.toList.isEmpty = true
        · rw [hp]
          have hpr : r.pair = true := by rw [isEmpty_size] at hp; exact hp
          obtain ⟨e1, e2, e3, e4⟩ := okRule_at Hor.out hpr
          obtain ⟨la, hla⟩ := Int.eq_ofNat_of_zero_le e1
          obtain ⟨ra, hra⟩ := Int.eq_ofNat_of_zero_le e3
          rw [hla] at e2
          rw [hra] at e4
          simp only [Int.toNat_natCast] at e2 e4
          have i1 : (la : Int) < (S.length : Int) := by have := HSl.out; omega
          have i2 : (ra : Int) < (S.length : Int) := by have := HSl.out; omega
          obtain ⟨g, cap, rfl, hg1, hg2, hg3, hgc⟩ := OwnInts.at_ HI.out (j := 0) (by omega)
          have w1 := hgc la (by omega)
          have w2 := hgc ra (by omega)
          obtain ⟨va, hva⟩ : ∃ x, S.getD la 0 = x := ⟨_, rfl⟩
          obtain ⟨vb, hvb⟩ : ∃ x, S.getD ra 0 = x := ⟨_, rfl⟩
          rw [hva] at w1
          rw [hvb] at w2
          have hX2 : X = pairR va vb := by rw [← HX.out, trimR_pair hpr, hla, hra, ← hva, ← hvb]; rfl
          have HX2 := Lib.hid hX2
          rw [hla, hra]
          clear hX2 hgc hpr e1 e3 hg3 hva hvb
          have y1 : g < wr.heap.size := hg2
          have B3 : Below wr.heap.size wr (wr.alloc (Obj.cells #[Value.string r.letter, Value.int IntKind.i64 la, Value.int IntKind.i64 ra] 70)) := (by repeat (first | exact Below.refl _ _ | (refine Below.alloc ?_ (by first | omega | (simp; done) | (simp; omega)) _) | refine below_drewN ?_ _ | refine Below.drew ?_))
          have e0 : (wr.alloc (Obj.cells #[Value.string r.letter, Value.int IntKind.i64 la, Value.int IntKind.i64 ra] 70)).heap[wr.heap.size]? = some (Obj.cells #[Value.string r.letter, Value.int IntKind.i64 la, Value.int IntKind.i64 ra] 70 (0, 0)) := alloc_heap_last _ _
          generalize wr.alloc (Obj.cells #[Value.string r.letter, Value.int IntKind.i64 la, Value.int IntKind.i64 ra] 70) = W3 at *
          have l0 : wr.heap.size < W3.heap.size := (Array.getElem?_eq_some_iff.1 e0).1
          have c0 : W3.cell? ⟨wr.heap.size, 0, none⟩ = some (.string r.letter) := by simp [World.cell?, e0]
          have c1 : W3.cell? ⟨wr.heap.size, 1, none⟩ = some (.int .i64 la) := by simp [World.cell?, e0]
          have c2 : W3.cell? ⟨wr.heap.size, 2, none⟩ = some (.int .i64 ra) := by simp [World.cell?, e0]
          have f0 : ∀ o, W3.frozen? ⟨wr.heap.size, o, none⟩ = false := fun o => by simp [World.frozen?, e0]
          have w3 := (B3.cell (p := ⟨g, la, none⟩) y1).trans w1
          have w4 := (B3.cell (p := ⟨g, ra, none⟩) y1).trans w2
          have B5 := Lib.hid (Below.drew B3)
          clear B3 e0 w1 w2
          go_wp2_with fail
          go_still_tail 11, (by kernel_rfl)
          change wpList _ _ _ _ _ W3.drew
          go_wp2_with fail
          go_meet
          rw [HX2.out]
          exact ⟨((B5.out.setCell (Nat.le_refl _) _).setCell (Nat.le_refl _) _).setCell (Nat.le_refl _) _, by simp [go_sem, pairR, c0], by simp [go_sem, pairR, c1], by simp [go_sem, pairR, c2], by simp; exact l0⟩
        · have hpr : r.pair = false := by rw [isEmpty_size] at hp; simpa [GRule.pair] using hp
          have hX2 : X = r := by rw [← HX.out, trimR_let hpr]
          have HX2 := Lib.hid hX2
          have hp2 : r.letter.toList.isEmpty = false := by simpa using hp
          rw [hp2]
          clear hX2 hpr hp
          go_wp2_with fail
          go_meet
          rw [HX2.out]
          exact ⟨(by repeat (first | exact Below.refl _ _ | (refine Below.alloc ?_ (by first | omega | (simp; done) | (simp; omega)) _) | refine below_drewN ?_ _ | refine Below.drew ?_)), by simp [go_sem], by simp [go_sem], by simp [go_sem], by simp⟩
      case rest =>
        revert hcut
        generalize wc = w1
        intro hcut
        obtain ⟨hb1, hx1⟩ := hcut
        have z1 : wr.heap.size ≤ w1.heap.size := hb1.size
        have HO1 := Lib.hid (OwnRules.below HO.out hb1)
        have HI1 : Hid (OwnInts w1 (w.heap.size + 1) u4 S) := ownsRow_below HI.out hb1
        have B1 := Lib.hid (HB.out.trans (hb1.mono hwz))
        have HX1 := Lib.hid hx1
        obtain ⟨c0, c1, c2, lx⟩ := hx1
        obtain ⟨AK, cK, rfl, _, _, hrowK⟩ := OwnRules.sl HO1.out
        obtain ⟨AS, cS, rfl, _, _, hrowS⟩ := OwnInts.sl HI1.out
        have HrowK := Lib.hid hrowK
        have HrowS := Lib.hid hrowS
        clear hb1 p0 p1 p2 hrowK hrowS hpr
        go_wp2_with fail
        go_loopw [8, 9] (fun q i wx => ∃ j z : Nat, i = .int .i64 (j : Int) ∧ q = .int .i64 (z : Int) ∧ Found K X k j z ∧ j ≤ k ∧ (∃ n, wx = w1.drewN n)) (fun _ i _ => k - (intOf i).toNat)
        case atStart => exact ⟨0, k, rfl, rfl, .inl ⟨rfl, Nat.zero_le _, Nat.zero_le _⟩, Nat.zero_le _, 0, rfl⟩
        case round =>
          obtain ⟨j, z, rfl, rfl, hf, hjk, n, rfl⟩ := hrel
          by_cases hin : z = k ∧ j < k
          · obtain ⟨hf0, hlj⟩ := hin
            subst hf0
            have hf1 : j ≤ K.idxOf X := by
              rcases hf with ⟨_, h, _⟩ | ⟨_, h⟩
              · exact h
              · exact absurd h (by omega)
            · obtain ⟨b1, o1, rfl, hb1, hc1⟩ := HrowS.out.int (k := j) (by rw [HSl.out]; omega)
              obtain ⟨b2, o2, rfl, hb2, hc2⟩ := HrowK.out.rule (k := j) (by rw [HKl.out]; omega)
              have s0 := hc1 j (by rw [HSl.out]; omega)
              obtain ⟨y, hy⟩ : ∃ y, K[j]? = some y := ⟨_, List.getElem?_eq_getElem (by rw [HKl.out]; omega)⟩
              obtain ⟨k0, k1, k2⟩ := hc2 j y hy
              have hj2 : (j : Int) < (S.length : Int) := by rw [HSl.out]; omega
              have hj3 : (j : Int) < (K.length : Int) := by rw [HKl.out]; omega
              have hji : (j : Int) < (z : Int) := by omega
              have hsj := Hidx.out j hlj
              rw [getR_some hy] at hsj
              rw [hsj] at s0
              obtain ⟨u, hu⟩ : ∃ u, K.idxOf y = u := ⟨_, rfl⟩
              rw [hu] at s0
              have Hu := Lib.hid hu
              have Hy := Lib.hid hy
              have huj : u ≤ j := by rw [← hu]; exact idxOf_le_of hy
              clear hc1 hc2 hsj hu hy
              by_cases e1 : u = j
              · subst e1
                by_cases e2 : y = X
                · subst e2
                  go_upto_region 14 with fail
                  go_quiet (fail)
                  go_wp2_with fail
                  exact ⟨⟨u + 1, u, rfl, rfl, .inr ⟨Hu.out.symm, hlj⟩, hlj, _, rfl⟩, by simp [intOf]; omega⟩
                · have HNE := Lib.hid e2
                  rcases rule_ne e2 with f1 | ⟨f1, f2⟩ | ⟨f1, f2, f3⟩
                  · clear e2
                    go_upto_region 14 with fail
                    go_quiet (fail)
                    go_wp2_with fail
                    exact ⟨⟨u + 1, z, rfl, rfl, found_step Hy.out hf1 hlj fun h => HNE.out h.2, hlj, _, rfl⟩, by simp [intOf]; omega⟩
                  · rw [f1] at k0
                    clear e2 f1
                    go_upto_region 14 with fail
                    go_quiet (fail)
                    go_wp2_with fail
                    exact ⟨⟨u + 1, z, rfl, rfl, found_step Hy.out hf1 hlj fun h => HNE.out h.2, hlj, _, rfl⟩, by simp [intOf]; omega⟩
                  · rw [f1] at k0
                    rw [f2] at k1
                    clear e2 f1 f2
                    go_upto_region 14 with fail
                    go_quiet (fail)
                    go_wp2_with fail
                    exact ⟨⟨u + 1, z, rfl, rfl, found_step Hy.out hf1 hlj fun h => HNE.out h.2, hlj, _, rfl⟩, by simp [intOf]; omega⟩
              · have hd : ((u : Int) == (j : Int)) = false := by rw [beq_eq_false_iff_ne]; omega
                go_upto_region 14 with fail
                go_quiet (fail)
                go_wp2_with fail
                exact ⟨⟨j + 1, z, rfl, rfl, found_step Hy.out hf1 hlj fun h => e1 (by rw [← Hu.out]; exact h.1), hlj, _, rfl⟩, by simp [intOf]; omega⟩
          · have he := found_end HKl.out hf (by omega)
            have hcd : ¬ ((j : Int) < (k : Int)) ∨ ((j : Int) < (k : Int) ∧ ((z : Int) == (k : Int)) = false) := by
              by_cases hj : j < k
              · exact .inr ⟨by omega, by rw [beq_eq_false_iff_ne]; omega⟩
              · exact .inl (by omega)
            have He := Lib.hid he
            have HO2 : Hid (OwnRules (w1.drewN n) (w.heap.size + 1) (.slice AK K.length cK) K) := HO1.out.drewN n
            have HI2 : Hid (OwnInts (w1.drewN n) (w.heap.size + 1) (.slice AS S.length cS) S) := HI1.out.drewN n
            have HX2 : Hid (Cells3 (w1.drewN n) wr.heap.size X) := HX1.out
            have B2 : Hid (Below (w.heap.size + 1) (w.alloc (Obj.cells #[Value.slice none 0 0] 26)) (w1.drewN n)) := below_drewN B1.out n
            have HSL : Hid (S.length ≤ 1099511627775) := by rw [Hid, HSl.out]; omega
            have HKL : Hid (K.length ≤ 1099511627775) := by rw [Hid, HKl.out]; omega
            have hw2 : Hid (w.heap.size + 1 ≤ (w1.drewN n).heap.size) := Nat.le_trans hwz z1
            clear hf hin he c0 c1 c2 lx
            have hx2 := HX2.out
            generalize w1.drewN n = w2 at *
            obtain ⟨c0, c1, c2, lx⟩ := hx2
            have zr : w.heap.size + 1 ≤ wr.heap.size := hwz
            rcases hcd with d1 | ⟨d1, d2⟩
            all_goals
              go_wp2_with (first
                | (at_builtin; (refine list_push_int (base := w.heap.size + 1) (v := .slice AS S.length cS) (l := S) rfl _ _ rfl rfl rfl rfl HI2.out HSL.out hw2.out ?_); intro v3 w3 own3 hg3 hv3; obtain ⟨A3, c3, rfl, _⟩ := own_nil own3; have hK3 := Lib.hid (keep_rules HO2.out HI2.out hg3); have hX3 := keep_cells HX2.out HI.out (Nat.le_refl _) hg3; obtain ⟨x0, x1, x2, x3⟩ := hX3; have B3 := Lib.hid (keep_below B2.out hw2.out HI2.out hg3); have I3 := Lib.hid own3; have Z3 := Lib.hid (keep_size hw2.out hg3))
                | (at_builtin; go_loud (refine list_push_rule (base := w.heap.size + 1) (v := .slice AK K.length cK) rfl _ _ rfl (by rfl) (by rfl) rfl hK3.out HKL.out Z3.out ?_); intro v4 w4 own4 hg4 hb4; obtain ⟨A4, c4, rfl, _⟩ := own_nil own4; have I4 := Lib.hid (keep_ints I3.out hK3.out hg4); have B4 := Lib.hid ((B3.out.alloc Z3.out _).trans hb4); have K4 := Lib.hid own4))
              have eK : (K ++ [X]).length = K.length + 1 := by simp
              have eS : (S ++ [(z : Int)]).length = S.length + 1 := by simp
              refine ⟨⟨k + 1, by omega, rfl, B4.out, ?_, ?_⟩, by simp [intOf]; omega⟩
              · rw [Hnx.out]
                show OwnRules w4 (w.heap.size + 1) (.slice A4 (K.length + 1) c4) (K ++ [X])
                rw [← eK]; exact K4.out
              · rw [Hnx.out, ← He.out]
                show OwnInts w4 (w.heap.size + 1) (.slice A3 (S.length + 1) c3) (S ++ [(z : Int)])
                rw [← eS]; exact I4.out
    · have hkn : k = xs.length := by omega
      subst hkn
      have hcz := canon_all Hok.out
      obtain ⟨K, S, hKS⟩ : ∃ K S, canon xs = (K, S) := ⟨_, _, rfl⟩
      have hown := HO.out
      have hint := HI.out
      rw [List.take_length, hKS] at hown hint
      rw [hKS] at hcz
      dsimp only at hown hint
      have hKl : K.length = xs.length := hcz.l1
      have hSl : S.length = xs.length := hcz.l2
      have hlowA : ∀ i, i < xs.length → 0 ≤ S.getD i 0 ∧ S.getD i 0 ≤ i := hcz.low
      have HKo : Hid (OkAll K) := hcz.ok
      have Hnd : Hid (needDown K xs.length (rootB xs) = needL xs) := by rw [Hid, needL, hKS]
      have Hrb : Hid (rootB xs = (List.replicate xs.length false).set (S.getD (xs.length - 1) 0).toNat true) := by rw [Hid, rootB, hKS]
      have Hto : Hid (∀ k, trimO xs (k + 1) = outStep K (needL xs) (trimO xs k) k) := fun k => by rw [trimO_succ, hKS]
      have HNl := Lib.hid (needL_len xs)
      obtain ⟨AK, cK, rfl, _, hmK, hrowK⟩ := OwnRules.sl hown
      obtain ⟨AS, cS, rfl, _, hmS, hrowS⟩ := OwnInts.sl hint
      have hmkB : ∀ W : World, (Instr.makeSlice 90 (.int .i64 (xs.length : Int)) (.int .i64 (xs.length : Int))).run Tryd.prog W = .ok (.slice (some ⟨W.heap.size, 0, none⟩) xs.length xs.length) (W.alloc (.cells (madeCells #[.bool false] xs.length) 4)) :=
        fun W => run_make_row' _ _ _ 1 Tryd.underlying90 (by kernel_rfl) rfl .i64 .i64 xs.length (by omega) (by omega) W
      have hmkI : ∀ W : World, (Instr.makeSlice 51 (.int .i64 (xs.length : Int)) (.int .i64 (xs.length : Int))).run Tryd.prog W = .ok (.slice (some ⟨W.heap.size, 0, none⟩) xs.length xs.length) (W.alloc (.cells (madeCells #[.int .i64 0] xs.length) 2)) :=
        fun W => run_make_row' _ _ _ 8 Tryd.underlying51 Tryd.infoI rfl .i64 .i64 xs.length (by omega) (by omega) W
      have HmkI := Lib.hid hmkI
      have HrowK := Lib.hid hrowK
      have HrowS := Lib.hid hrowS
      have HKl := Lib.hid hKl
      have HSl := Lib.hid hSl
      have HlowA := Lib.hid hlowA
      clear hmkI
      clear hown hint hcz hKl hlowA hSl hKS HO HI hrowK hrowS hrow HCo hmK hmS B0
      clear hown hint hb hco hlt hk
      generalize wr = w1 at *
      go_upto_region 19 with fail
      have hR0 := RowB.made w1 xs.length
      have hb0 : Below w1.heap.size w1 (w1.alloc (.cells (madeCells #[.bool false] xs.length) 4)) := (Below.refl _ _).alloc (Nat.le_refl _) _
      generalize w1.alloc (.cells (madeCells #[.bool false] xs.length) 4) = w2 at *
      have HR0 := Lib.hid hR0
      have HB0' := Lib.hid hb0
      clear hR0 hb0 hmkB
      go_upto_if 86 with fail
      go_cut [] from 86 to 93 (fun wx => RowB wx w1.heap.size (rootB xs) ∧ Below w1.heap.size w1 wx)
      case first =>
        by_cases h0 : 0 < xs.length
        · obtain ⟨bS, oS, hAS, hbS, hcS⟩ := HrowS.out.int (k := xs.length - 1) (by have := HSl.out; omega)
          subst hAS
          have c0 := hcS (xs.length - 1) (by have := HSl.out; omega)
          obtain ⟨hl1, hl2⟩ := HlowA.out (xs.length - 1) (by omega)
          obtain ⟨t, ht⟩ := Int.eq_ofNat_of_zero_le hl1
          have hm1 : (xs.length : Int) - 1 = ((xs.length - 1 : Nat) : Int) := by omega
          have hm2 : xs.length - 1 < S.length := by have := HSl.out; omega
          have htl : t < xs.length := by omega
          rw [ht, Int.toNat_natCast] at Hrb
          rw [ht] at c0
          obtain ⟨m, hm⟩ : ∃ m, xs.length - 1 = m := ⟨_, rfl⟩
          rw [hm] at hm1 hm2 c0
          have c1 := (HB0'.out.cell (p := ⟨bS, oS + m, none⟩) hbS).trans c0
          have c2 := HR0.out.cell (i := t) (by simpa using htl)
          have f2 := HR0.out.frozen
          have hti : (t : Int) < (xs.length : Int) := by omega
          have hp0 : (0 : Int) < (xs.length : Int) := by omega
          have HR1 := Lib.hid (HR0.out.set t true)
          rw [← Hrb.out] at HR1
          have HB1' := Lib.hid (HB0'.out.setCell (p := ⟨w1.heap.size, t, none⟩) (Nat.le_refl _) (.bool true))
          clear hcS c0 hl1 hl2 ht hm
          go_wp2_with fail
          go_meet
          exact ⟨HR1.out, HB1'.out⟩
        · have hp0 : ¬ (0 : Int) < (xs.length : Int) := by omega
          have hxe : xs.length = 0 := by omega
          have Hxe := Lib.hid hxe
          clear hxe h0
          go_wp2_with fail
          go_meet
          refine ⟨?_, HB0'.out⟩
          have := HR0.out
          rw [Hrb.out, Hxe.out]
          rw [Hxe.out] at this
          exact this
      case rest =>
        revert hcut
        generalize wc = w2'
        intro hcut
        obtain ⟨hr0, hb0⟩ := hcut
        have HR1 := Lib.hid hr0
        have HB1' := Lib.hid hb0
        have hm1 : (xs.length : Int) - 1 = (xs.length : Int) - 1 := rfl
        clear hr0 hb0 HR0 HB0'
        go_wp2_with fail
        go_loopw [11] (fun i wx => ∃ (k : Nat) (z : Int) (N : List Bool), k ≤ xs.length ∧ z = (k : Int) - 1 ∧ i = .int .i64 z ∧ Below w1.heap.size w1 wx ∧ RowB wx w1.heap.size N ∧ N.length = xs.length ∧ needDown K k N = needL xs) (fun i _ => (intOf i + 1).toNat)
        case atStart =>
          exact ⟨xs.length, _, rootB xs, Nat.le_refl _, rfl, rfl, HB1'.out, HR1.out, by simp [rootB], Hnd.out⟩
        case round =>
          obtain ⟨k, z, N, hk2, rfl, rfl, hb2, hrN, hNl, hnN⟩ := hrel
          have HB3 := Lib.hid hb2
          have HRN := Lib.hid hrN
          have HNN := Lib.hid hnN
          have HNlen := Lib.hid hNl
          clear hb2 hrN hnN
          cases k with
          | zero =>
            have hz : ((0 : Nat) : Int) - 1 = -1 := by omega
            rw [hz]
            have hNN : N = needL xs := by have := HNN.out; rwa [needDown] at this
            subst hNN
            obtain ⟨w3, rfl⟩ : ∃ w3 : World, w3 = wr := ⟨_, rfl⟩
            have hmkI := HmkI.out
            clear hz Hrb Hnd HNN hm1
            go_upto_region 29 with fail
            have hri0 : RowI ((w3.alloc (.cells (madeCells #[.int .i64 0] xs.length) 2)).alloc (.cells #[.slice none 0 0] 26)) w3.heap.size (List.replicate xs.length 0) := (RowI.made w3 xs.length).alloc _
            have hbx0 : Boxed ((w3.alloc (.cells (madeCells #[.int .i64 0] xs.length) 2)).alloc (.cells #[.slice none 0 0] 26)) (w3.heap.size + 1) 26 (.slice none 0 0) := Boxed.of1 w3 _ _ _
            have hb04 : Below w3.heap.size w3 ((w3.alloc (.cells (madeCells #[.int .i64 0] xs.length) 2)).alloc (.cells #[.slice none 0 0] 26)) := ((Below.refl _ _).alloc (Nat.le_refl _) _).alloc (by simp) _
            generalize (w3.alloc (.cells (madeCells #[.int .i64 0] xs.length) 2)).alloc (.cells #[.slice none 0 0] 26) = w4 at *
            have z13 := HRN.out.lt
            have HRN4 := Lib.hid (HRN.out.below hb04 z13)
            have HB4 := Lib.hid (HB3.out.trans (hb04.mono (Nat.le_of_lt z13)))
            have HBX := Lib.hid hbx0
            have HRI := Lib.hid hri0
            have Hb4 := Lib.hid hb04
            have hbo : w3.heap.size ≤ w3.heap.size + 1 := Nat.le_succ _
            have hba : w3.heap.size ≤ w3.heap.size := Nat.le_refl _
            have hne : w3.heap.size + 1 ≠ w3.heap.size := by omega
            obtain ⟨bo, hboe⟩ : ∃ bo, w3.heap.size + 1 = bo := ⟨_, rfl⟩
            rw [hboe] at HBX hbo hne
            obtain ⟨ba, hbae⟩ : ∃ ba, w3.heap.size = ba := ⟨_, rfl⟩
            simp only [hboe]
            have HRI : Hid (RowI w4 ba (List.replicate xs.length 0)) := by rw [← hbae]; exact HRI.out
            have hba : w3.heap.size ≤ ba := by omega
            have hne : bo ≠ ba := by omega
            have hsw : ∀ n c, Value.slice (some ⟨w3.heap.size, 0, none⟩) n c = Value.slice (some ⟨ba, 0, none⟩) n c := fun n c => by rw [hbae]
            simp only [hsw]
            clear hri0 hbx0 hb04 HRN HB3 HNlen hNl hk2 hmkI hboe hbae hsw HmkI HrowS HlowA HB1' HR1
            go_wp2_with fail
            go_loopw [14] (fun i wx => ∃ k : Nat, k ≤ xs.length ∧ i = .int .i64 k ∧ Below w3.heap.size w4 wx ∧ ∃ vo : Value, Boxed wx bo 26 vo ∧ OwnRules wx w3.heap.size vo (trimO xs k).1 ∧ RowI wx ba (trimO xs k).2) (fun i _ => xs.length - (intOf i).toNat)
            case atStart => exact ⟨0, Nat.zero_le _, rfl, Below.refl _ _, _, HBX.out, World.ownsRow_nil _ _ _ _, HRI.out⟩
            case round =>
              obtain ⟨k, hk, rfl, hb5, vo, hbx, hown, hri⟩ := hrel
              obtain ⟨Ao, co, rfl, _⟩ := own_nil hown
              have HB5 := Lib.hid hb5
              have HBX5 := Lib.hid hbx
              have HOW := Lib.hid hown
              have HRI5 := Lib.hid hri
              have z34 : w3.heap.size ≤ w4.heap.size := Hb4.out.size
              have z45 : w4.heap.size ≤ wr.heap.size := hb5.size
              clear hb5 hown hri
              by_cases hlt : k < xs.length
              · obtain ⟨bK, oK, hAK, hbK, hcK⟩ := HrowK.out.rule (k := k) (by have := HKl.out; omega)
                subst hAK
                obtain ⟨r, hr⟩ : ∃ r, K[k]? = some r := ⟨_, List.getElem?_eq_getElem (by have := HKl.out; omega)⟩
                have Hr := Lib.hid hr
                have Hor := Lib.hid (HKo.out k r hr)
                obtain ⟨q0, q1, q2⟩ := hcK k r hr
                have B1 : Below w1.heap.size w1 wr := HB4.out.trans (HB5.out.mono (Nat.le_of_lt z13))
                have p0 := (B1.cell (p := ⟨bK, oK + k * 3, none⟩) hbK).trans q0
                have p1 := (B1.cell (p := ⟨bK, oK + k * 3 + 1, none⟩) hbK).trans q1
                have p2 := (B1.cell (p := ⟨bK, oK + k * 3 + 2, none⟩) hbK).trans q2
                have hjK : (k : Int) < (K.length : Int) := by have := HKl.out; omega
                have hjn : (k : Int) < (xs.length : Int) := by omega
                have RNr := Lib.hid (HRN4.out.below HB5.out z13)
                have cN := RNr.out.cell (i := k) (by have := HNl.out; omega)
                have hlN := RNr.out.lt
                obtain ⟨L, T, hLT⟩ : ∃ L T, trimO xs k = (L, T) := ⟨_, _, rfl⟩
                have hTl : T.length = xs.length := by have := (trimO_len xs k).1; rw [hLT] at this; exact this
                have hLl : L.length ≤ k := by have := (trimO_len xs k).2; rw [hLT] at this; exact this
                rw [hLT] at HBX5 HOW HRI5
                dsimp only at HBX5 HOW HRI5
                have hst := Hto.out k
                rw [hLT, outStep, getR_some hr] at hst
                obtain ⟨u, hu⟩ : ∃ u, (needL xs).getD k false = u := ⟨_, rfl⟩
                rw [hu] at cN hst
                dsimp only at hst
                have zbo := hbx.lt
                have zba := HRI5.out.lt
                clear hr hcK q0 q1 q2 B1 hLT hu hbx
                cases u
                · rw [if_neg (by simp)] at hst
                  have Hst := Lib.hid hst
                  clear hst
                  go_wp2_with fail
                  refine ⟨⟨k + 1, by omega, rfl, HB5.out, _, by rw [Hst.out]; exact ⟨HBX5.out, HOW.out, HRI5.out⟩⟩, by simp [intOf]; omega⟩
                · rw [if_pos rfl] at hst
                  obtain ⟨X, hX⟩ : ∃ X, trimR T r = X := ⟨_, rfl⟩
                  rw [hX] at hst
                  have Hst := Lib.hid hst
                  have HX := Lib.hid hX
                  have HTl := Lib.hid hTl
                  have HLl := Lib.hid hLl
                  have hcb := HBX5.out.cell
                  have cT := HRI5.out.cell (i := k) (by omega)
                  have fT := HRI5.out.frozen
                  clear hst hX hTl hLl
                  go_upto_region 34 with fail
                  have ri6 := HRI5.out.set k (L.length : Int)
                  have ow6 : OwnRules (wr.setCell ⟨ba, k, none⟩ (.int .i64 (L.length : Int))) w3.heap.size (.slice Ao L.length co) L := ownsRow_setCell_other (a := ⟨ba, k, none⟩) HOW.out (HRI5.out.not_row HOW.out (by decide)).symm _
                  have bx6 := boxed_other (o := k) HBX5.out hne (.int .i64 (L.length : Int))
                  have hb6 := HB5.out.setCell (p := ⟨ba, k, none⟩) hba (.int .i64 (L.length : Int))
                  have hz6 : (wr.setCell ⟨ba, k, none⟩ (.int .i64 (L.length : Int))).heap.size = wr.heap.size := by simp
                  have hk6 : ∀ o, (wr.setCell ⟨ba, k, none⟩ (.int .i64 (L.length : Int))).cell? ⟨bK, o, none⟩ = wr.cell? ⟨bK, o, none⟩ := fun o => World.cell?_of_block (a := ⟨bK, o, none⟩) (Below.heap_setCell _ _ _ _ (by show bK ≠ ba; omega))
                  rw [← hk6] at p0 p1 p2
                  generalize wr.setCell ⟨ba, k, none⟩ (.int .i64 (L.length : Int)) = w6 at *
                  have HRI6 := Lib.hid ri6
                  have HOW6 := Lib.hid ow6
                  have HBX6 := Lib.hid bx6
                  have HB6 := Lib.hid hb6
                  have hb6K : bK < w6.heap.size := by omega
                  clear ri6 ow6 bx6 hb6 hk6 hcb cT fT
                  go_upto_if 151 with fail
                  go_cut [] from 145 to 162 (fun wx => Below w6.heap.size w6 wx ∧ Cells3 wx wr.heap.size X)
                  case first =>
                    by_cases hp : r.letter.toList.isEmpty = true
                    · rw [hp]
                      have hpr : r.pair = true := by rw [isEmpty_size] at hp; exact hp
                      obtain ⟨e1, e2, e3, e4⟩ := okRule_at Hor.out hpr
                      obtain ⟨la, hla⟩ := Int.eq_ofNat_of_zero_le e1
                      obtain ⟨ra, hra⟩ := Int.eq_ofNat_of_zero_le e3
                      rw [hla] at e2
                      rw [hra] at e4
                      simp only [Int.toNat_natCast] at e2 e4
                      have i1 : (la : Int) < (xs.length : Int) := by omega
                      have i2 : (ra : Int) < (xs.length : Int) := by omega
                      have w1c := HRI6.out.cell (i := la) (by have := HTl.out; simp; omega)
                      have w2c := HRI6.out.cell (i := ra) (by have := HTl.out; simp; omega)
                      have sa : (T.set k (L.length : Int)).getD la 0 = T.getD la 0 := by rw [List.getD_eq_getElem?_getD, List.getElem?_set_ne (by omega), ← List.getD_eq_getElem?_getD]
                      have sb : (T.set k (L.length : Int)).getD ra 0 = T.getD ra 0 := by rw [List.getD_eq_getElem?_getD, List.getElem?_set_ne (by omega), ← List.getD_eq_getElem?_getD]
                      rw [sa] at w1c
                      rw [sb] at w2c
                      obtain ⟨va, hva⟩ : ∃ x, T.getD la 0 = x := ⟨_, rfl⟩
                      obtain ⟨vb, hvb⟩ : ∃ x, T.getD ra 0 = x := ⟨_, rfl⟩
                      rw [hva] at w1c
                      rw [hvb] at w2c
                      have hX2 : X = pairR va vb := by rw [← HX.out, trimR_pair hpr, hla, hra, ← hva, ← hvb]; rfl
                      have HX2 := Lib.hid hX2
                      have zba6 := HRI6.out.lt
                      rw [hla, hra]
                      clear hX2 hpr e1 e3 hva hvb hla hra sa sb
                      have B3 : Below w6.heap.size w6 (w6.alloc (Obj.cells #[Value.string r.letter, Value.int IntKind.i64 la, Value.int IntKind.i64 ra] 70)) := (by repeat (first | exact Below.refl _ _ | (refine Below.alloc ?_ (by first | omega | (simp; done) | (simp; omega)) _) | refine below_drewN ?_ _ | refine Below.drew ?_))
                      have e0 : (w6.alloc (Obj.cells #[Value.string r.letter, Value.int IntKind.i64 la, Value.int IntKind.i64 ra] 70)).heap[w6.heap.size]? = some (Obj.cells #[Value.string r.letter, Value.int IntKind.i64 la, Value.int IntKind.i64 ra] 70 (0, 0)) := alloc_heap_last _ _
                      generalize w6.alloc (Obj.cells #[Value.string r.letter, Value.int IntKind.i64 la, Value.int IntKind.i64 ra] 70) = W3 at *
                      have l0 : w6.heap.size < W3.heap.size := (Array.getElem?_eq_some_iff.1 e0).1
                      have c0 : W3.cell? ⟨w6.heap.size, 0, none⟩ = some (.string r.letter) := by simp [World.cell?, e0]
                      have c1 : W3.cell? ⟨w6.heap.size, 1, none⟩ = some (.int .i64 la) := by simp [World.cell?, e0]
                      have c2 : W3.cell? ⟨w6.heap.size, 2, none⟩ = some (.int .i64 ra) := by simp [World.cell?, e0]
                      have f0 : ∀ o, W3.frozen? ⟨w6.heap.size, o, none⟩ = false := fun o => by simp [World.frozen?, e0]
                      rw [hz6] at c0 c1 c2 f0 l0
                      have w3c := (B3.cell (p := ⟨ba, la, none⟩) zba6).trans w1c
                      have w4c := (B3.cell (p := ⟨ba, ra, none⟩) zba6).trans w2c
                      have B5 := Lib.hid (Below.drew B3)
                      clear B3 e0 w1c w2c p0 p1 p2 cN
                      go_wp2_with fail
                      go_still_tail 11, (by kernel_rfl)
                      change wpList _ _ _ _ _ W3.drew
                      go_wp2_with fail
                      go_meet
                      rw [HX2.out]
                      have hle : w6.heap.size ≤ wr.heap.size := by omega
                      exact ⟨((B5.out.setCell hle _).setCell hle _).setCell hle _, by simp [go_sem, pairR, c0], by simp [go_sem, pairR, c1], by simp [go_sem, pairR, c2], by simp; exact l0⟩
                    · have hpr : r.pair = false := by rw [isEmpty_size] at hp; simpa [GRule.pair] using hp
                      have hX2 : X = r := by rw [← HX.out, trimR_let hpr]
                      have HX2 := Lib.hid hX2
                      have hp2 : r.letter.toList.isEmpty = false := by simpa using hp
                      rw [hp2]
                      clear hX2 hpr hp
                      go_wp2_with fail
                      go_meet
                      rw [HX2.out, ← hz6]
                      exact ⟨(by repeat (first | exact Below.refl _ _ | (refine Below.alloc ?_ (by first | omega | (simp; done) | (simp; omega)) _) | refine below_drewN ?_ _ | refine Below.drew ?_)), by simp [go_sem], by simp [go_sem], by simp [go_sem], by simp⟩
                  case rest =>
                    revert hcut
                    generalize wc = w7
                    intro hcut
                    obtain ⟨hb7, hx7⟩ := hcut
                    have HX7 := Lib.hid hx7
                    have HBX7 := Lib.hid (Boxed.up HBX6.out hb7 HBX6.out.lt)
                    have HRI7 := Lib.hid (HRI6.out.below hb7 HRI6.out.lt)
                    have HOW7 : Hid (OwnRules w7 w3.heap.size (.slice Ao L.length co) L) := OwnRules.below HOW6.out hb7
                    have BB7 := Lib.hid (HB6.out.trans (hb7.mono (by omega)))
                    have HW7 : Hid (w3.heap.size ≤ w7.heap.size) := by have := hb7.size; rw [Hid]; omega
                    obtain ⟨x0, x1, x2, x3⟩ := hx7
                    have hcb := HBX7.out.cell
                    have HLL : Hid (L.length ≤ 1099511627775) := by have := HLl.out; exact Nat.le_trans this (by omega)
                    clear hb7 p0 p1 p2 cN
                    go_wp2_with (first
                      | (at_builtin; refine list_push_rule (base := w3.heap.size) (v := .slice Ao L.length co) rfl _ _ rfl (by rfl) (by rfl) rfl HOW7.out HLL.out HW7.out ?_; intro v8 w8 own8 hg8 hb8; have bx8 : Boxed w8 bo 26 _ := Boxed.grown HBX7.out (by decide) HOW7.out hg8; have ri8 := Lib.hid ((HRI7.out.alloc _).kept hg8 (HRI7.out.not_row HOW7.out (by decide))); obtain ⟨A8, c8, rfl, _⟩ := own_nil own8; have hcb8 := bx8.cell; have hfb8 := bx8.frozen; have hl8 := bx8.lt; have own9 := Lib.hid (own_put bx8 own8 rfl List.length_append); have B9 := Lib.hid (((BB7.out.alloc HW7.out _).trans hb8).setCell (p := ⟨bo, 0, none⟩) hbo (.slice A8 (L.length + 1) c8)); have X9 : Hid (Boxed (w8.setCell ⟨bo, 0, none⟩ (.slice A8 (L.length + 1) c8)) bo 26 (.slice A8 (L.length + 1) c8)) := Boxed.set _ bx8; have R9 := Lib.hid (ri8.out.other (c := bo) (o := 0) hne.symm (.slice A8 (L.length + 1) c8)); clear own8 hg8 hb8))
                    refine ⟨⟨k + 1, by omega, rfl, B9.out, _, X9.out, ?_⟩, by simp [intOf]; omega⟩
                    rw [Hst.out]
                    exact ⟨own9.out, R9.out⟩
              · have hkn : k = xs.length := by omega
                subst hkn
                have h1b : Below w1.heap.size w1 wr := HB4.out.trans (HB5.out.mono (Nat.le_of_lt z13))
                have h0b : Below (w.heap.size + 1) _ wr := HB.out.trans (h1b.mono hwz)
                have cb := hbx.cell
                have hz9 : w.heap.size < wr.heap.size := by omega
                have H0 := Lib.hid h0b
                have hn9 : Boxed (w.alloc (Obj.cells #[Value.slice none 0 0] 26)) w.heap.size 26 (.slice none 0 0) := Boxed.new _ _ _
                have hb9 : Boxed wr w.heap.size 26 (.slice none 0 0) := (h0b.block w.heap.size (by omega)).trans hn9
                have c9 := hb9.cell
                have f9 := hb9.frozen
                have Hcw := Lib.hid (Boxed.set (.slice Ao (trimO xs xs.length).1.length co) hb9).cell
                clear h1b h0b hn9 hb9
                go_wp2_with fail
                refine bodyPost_ret (v := .agg #[.slice Ao (trimO xs xs.length).1.length co]) (by simp [results, Tryd.results39, go_sem, Hcw.out]) rfl ⟨?_, .slice Ao (trimO xs xs.length).1.length co, ?_, rfl⟩
                · exact ((Below.refl w.heap.size w).alloc (Nat.le_refl _) _).trans (H0.out.mono (by omega)) |>.setCell (Nat.le_refl _) _
                · exact ownsRow_setCell_below (a := ⟨w.heap.size, 0, none⟩) (ownsRow_more HOW.out (base' := w.heap.size + 1) (by omega)) (by show w.heap.size < w.heap.size + 1; omega) _ |> fun h => ownsRow_more h (by omega)
          | succ j =>
            have hz : ((j + 1 : Nat) : Int) - 1 = (j : Int) := by omega
            rw [hz]
            clear hz
            obtain ⟨bK, oK, hAK, hbK, hcK⟩ := HrowK.out.rule (k := j) (by have := HKl.out; omega)
            subst hAK
            obtain ⟨r, hr⟩ : ∃ r, K[j]? = some r := ⟨_, List.getElem?_eq_getElem (by have := HKl.out; omega)⟩
            have Hr := Lib.hid hr
            have Hor := Lib.hid (HKo.out j r hr)
            obtain ⟨q0, q1, q2⟩ := hcK j r hr
            have p0 := (HB3.out.cell (p := ⟨bK, oK + j * 3, none⟩) hbK).trans q0
            have p1 := (HB3.out.cell (p := ⟨bK, oK + j * 3 + 1, none⟩) hbK).trans q1
            have p2 := (HB3.out.cell (p := ⟨bK, oK + j * 3 + 2, none⟩) hbK).trans q2
            have hjK : (j : Int) < (K.length : Int) := by have := HKl.out; omega
            have hjn : (j : Int) < (xs.length : Int) := by omega
            have cN := HRN.out.cell (i := j) (by have := HNlen.out; omega)
            have hlN := HRN.out.lt
            obtain ⟨u, hu⟩ : ∃ u, N.getD j false = u := ⟨_, rfl⟩
            rw [hu] at cN
            have Hu := Lib.hid hu
            clear hr hcK q0 q1 q2 hu hNl hm1
            cases u
            · go_wp2_with fail
              go_roundw
              case rel => exact ⟨j, _, N, by omega, rfl, rfl, HB3.out, HRN.out, HNlen.out, by rw [← HNN.out, needDown, needStep, Hu.out]; rfl⟩
              case measure => simp [intOf]
            · by_cases hp : r.letter.toList.isEmpty = true
              · have hpr : r.pair = true := by rw [isEmpty_size] at hp; exact hp
                obtain ⟨e1, e2, e3, e4⟩ := okRule_at Hor.out hpr
                obtain ⟨la, hla⟩ := Int.eq_ofNat_of_zero_le e1
                obtain ⟨ra, hra⟩ := Int.eq_ofNat_of_zero_le e3
                rw [hla] at e2 p1
                rw [hra] at e4 p2
                simp only [Int.toNat_natCast] at e2 e4
                have Hla := Lib.hid hla
                have Hra := Lib.hid hra
                have Hpr := Lib.hid hpr
                clear hpr
                have i1 : (la : Int) < (xs.length : Int) := by omega
                have i2 : (ra : Int) < (xs.length : Int) := by omega
                have cL := HRN.out.cell (i := la) (by have := HNlen.out; omega)
                have cR := HRN.out.cell (i := ra) (by have := HNlen.out; omega)
                have fN := HRN.out.frozen
                have hne : bK ≠ w1.heap.size := by omega
                have hne' : w1.heap.size ≠ bK := by omega
                have H3 := Lib.hid ((HRN.out.set la true).set ra true)
                have B4 := Lib.hid ((HB3.out.setCell (p := ⟨w1.heap.size, la, none⟩) (Nat.le_refl _) (.bool true)).setCell (p := ⟨w1.heap.size, ra, none⟩) (Nat.le_refl _) (.bool true))
                clear e1 e3 hla hra
                by_cases hlr : la = ra
                · subst hlr
                  go_wp2_with fail
                  go_roundw
                  case rel => exact ⟨j, _, _, by omega, rfl, rfl, B4.out, H3.out, by simpa using HNlen.out, by rw [← HNN.out, needDown, needStep, getR_some Hr.out, Hu.out, Hpr.out, Hla.out, Hra.out]; rfl⟩
                  case measure => simp [intOf]
                · have hlr2 : ra ≠ la := fun e => hlr e.symm
                  go_wp2_with fail
                  go_roundw
                  case rel => exact ⟨j, _, _, by omega, rfl, rfl, B4.out, H3.out, by simpa using HNlen.out, by rw [← HNN.out, needDown, needStep, getR_some Hr.out, Hu.out, Hpr.out, Hla.out, Hra.out]; rfl⟩
                  case measure => simp [intOf]
              · have hpr : r.pair = false := by rw [isEmpty_size] at hp; simpa [GRule.pair] using hp
                have hp2 : r.letter.toList.isEmpty = false := by simpa using hp
                have Hpr := Lib.hid hpr
                have hgr : getR K j = r := getR_some Hr.out
                have Hgr := Lib.hid hgr
                clear hpr hp hgr
                go_wp2_with fail
                go_roundw
                case rel => exact ⟨j, _, N, by omega, rfl, rfl, HB3.out, HRN.out, HNlen.out, by rw [← HNN.out, needDown, needStep, Hgr.out, Hpr.out, Bool.and_false]; rfl⟩
                case measure => simp [intOf]
end Go.Proofs.YtagpjommhoedlaaDoor

namespace Go.Proofs.YtagpjommhoedlaaDoor
open Go.RowKit

end Go.Proofs.YtagpjommhoedlaaDoor

namespace Go.Proofs.YtagpjommhoedlaaDoor
open Go.RowKit

end Go.Proofs.YtagpjommhoedlaaDoor

namespace Go.Proofs
open Go.Shelf Go.RowKit
def Tryd.lays137_ren : Go.Shelf.Ren := ⟨fun | 137 => 68 | 217 => 80 | 266 => 86 | n => n, fun | 9 => 9 | 5 => 5 | 3 => 3 | n => n, fun | n => n⟩
theorem Tryd.lays137 : Go.Proofs.Lays.n137 Tryd.prog Tryd.lays137_ren := {
  mixed := by kernel_rfl
  f137 := Tryd.func68.trans (congrArg some (by kernel_rfl))
  f217 := Tryd.func80.trans (congrArg some (by kernel_rfl))
  f266 := Tryd.func86.trans (congrArg some (by kernel_rfl))
  t3 := Tryd.underlying3
  a3 := Tryd.isAgg3
  z3 := Tryd.sizeOf3
  v3 := Tryd.zeroValue3
  t5 := Tryd.underlying5
  a5 := Tryd.isAgg5
  z5 := Tryd.sizeOf5
  v5 := Tryd.zeroValue5
  t9 := Tryd.underlying9
  a9 := Tryd.isAgg9
  z9 := Tryd.sizeOf9
  v9 := Tryd.zeroValue9 }
theorem Tryd.strings_IndexByte (s : ByteArray) (c : Int) (w : World) :
    Calls Tryd.prog 68 #[.string s, .int .u8 c] w fun e w' => e = .returned (.int .i64 (Lib.indexByte s.data.toList c.toNat.toUInt8)) ∧ w' = w := Any.strings_IndexByte Tryd.lays137 s c w
end Go.Proofs

namespace Go.Proofs.YtagpjommhoedlaaDoor
open Go.RowKit

/-- An own row of bytes. -/
def OwnB (w : World) (base : Nat) (v : Value) (l : List UInt8) : Prop := w.ownsRow base 5 1 v l.length (Lib.byteCells l)
theorem OwnB.alloc {w : World} {base : Nat} {v : Value} {l : List UInt8} (h : OwnB w base v l) (o : Obj) : OwnB (w.alloc o) base v l := World.ownsRow.alloc h o
theorem OwnB.drew {w : World} {base : Nat} {v : Value} {l : List UInt8} (h : OwnB w base v l) : OwnB w.drew base v l := h
theorem OwnB.below {w w' : World} {base : Nat} {v : Value} {l : List UInt8} (h : OwnB w base v l) (hb : Below w.heap.size w w') : OwnB w' base v l := ownsRow_below h hb
theorem OwnB.empty {w : World} {base N : Nat} (hN : N = w.heap.size) (hb : base ≤ w.heap.size) : OwnB (w.alloc (Obj.cells #[] 5)) base (Value.slice (some ⟨N, 0, none⟩) 0 0) [] := by
  subst hN
  exact World.ownsRow_lit w #[] 0 hb (Nat.zero_le _) rfl
/-- The cells of an own row of bytes. -/
theorem OwnB.at_ {w : World} {base : Nat} {v : Value} {l : List UInt8} (h : OwnB w base v l) (h0 : 0 < l.length) : ∃ g cap, v = .slice (some ⟨g, 0, none⟩) l.length cap ∧ l.length ≤ cap ∧ g < w.heap.size ∧ ∀ t (ht : t < l.length), w.cell? ⟨g, t, none⟩ = some (.int .u8 (l[t].toNat : Int)) := by
  obtain ⟨g, cap, hv, hb, hlt, hc, hcell⟩ := own_form h h0
  exact ⟨g, cap, hv, hc.1, hlt, fun t ht => hcell t _ (by simp [Lib.byteCells, List.getElem?_eq_getElem ht])⟩
/-- A string of bytes at an address. -/
theorem convB (L : List UInt8) (b p n c : Nat) (W : World) (hn : n = L.length) (h : ∀ t (ht : t < L.length), W.cell? ⟨b, p + t, none⟩ = some (.int .u8 (L[t].toNat : Int))) :
    (convert 22 9 (.slice (some ⟨b, p, none⟩) n c)).run Tryd.prog W = .ok (.string ⟨L.toArray⟩) W := by
  subst hn
  exact run_convert_bytes_back (P := Tryd.prog) W 22 9 5 ⟨b, p, none⟩ c L Tryd.underlying22 Tryd.underlying5 Tryd.underlying9 (fun j hj => by
    have e : (⟨b, p, none⟩ : Addr).add j = ⟨b, p + j, none⟩ := by unfold Addr.add; split <;> simp_all
    rw [e]; exact h j hj)
theorem OwnB.string {w : World} {base n : Nat} {g : Nat} {c : Nat} {l : List UInt8} (h : OwnB w base (.slice (some ⟨g, 0, none⟩) n c) l) :
    (convert 22 9 (.slice (some ⟨g, 0, none⟩) n c)).run Tryd.prog w = .ok (.string ⟨l.toArray⟩) w := by
  have hn : n = l.length := by
    obtain ⟨A', c', hv, _⟩ := own_nil h
    injection hv
  refine convB l g 0 n c w hn fun t ht => ?_
  obtain ⟨g', cap, hv, _, _, hc⟩ := h.at_ (by omega)
  injection hv with e1 e2 e3
  injection e1 with e1
  injection e1 with e1
  subst e1
  rw [Nat.zero_add]; exact hc t ht
end Go.Proofs.YtagpjommhoedlaaDoor

namespace Go.Proofs.YtagpjommhoedlaaDoor
open Go.RowKit

theorem convC (W : World) (N : Nat) (hN : N = W.heap.size) (c : UInt8) : (convert 22 9 (.slice (some ⟨N, 0, none⟩) 1 1)).run Tryd.prog (W.alloc (.cells #[.int .u8 (c.toNat : Int)] 5)) = .ok (.string (letR c).letter) (W.alloc (.cells #[.int .u8 (c.toNat : Int)] 5)) := by
  subst hN
  rw [run_convert_bytes_arg (W.alloc (.cells #[.int .u8 (c.toNat : Int)] 5)) 22 5 Tryd.underlying22 Tryd.underlying5 W.heap.size 0 1 1 [(c.toNat : Int)] rfl
    (fun i hi => by
      have : i = 0 := by omega
      subst this
      simp [go_sem]) 9 Tryd.underlying9]
  have : strOfNums [(c.toNat : Int)] = (letR c).letter := by
    simp only [strOfNums, letR, List.map_cons, List.map_nil]
    simp
  rw [this]
set_option maxRecDepth 100000 in
theorem letter_any (c : UInt8) (w : World) : Calls Tryd.prog 69 #[.int .u8 (c.toNat : Int)] w fun e w' => e = .returned (.agg #[.string (letR c).letter, .int .i64 (letR c).left, .int .i64 (letR c).right]) ∧ Below w.heap.size w w' := by
  have hcv := convC (w.alloc (Obj.cells #[.string ⟨#[]⟩, .int .i64 0, .int .i64 0] 70)) (w.heap.size + 1) (by simp) c
  go_enter Tryd.func69, Tryd.ntmps69
  go_wp2
  refine bodyPost_ret (v := .agg #[.string (letR c).letter, .int .i64 0, .int .i64 0]) (by simp [results, Tryd.results69, go_sem]) rfl ⟨rfl, ?_⟩
  exact (by repeat (first | exact Below.refl _ _ | (refine Below.alloc ?_ (by first | omega | (simp; done) | (simp; omega)) _) | (refine Below.setCell ?_ (by first | exact Nat.le_refl _ | (show _ ≤ _; omega) | (simp; done) | (simp; omega)) _) | refine below_drewN ?_ _ | refine Below.drew ?_))

def idxR (xs : List GRule) (X : GRule) : Int := if xs.idxOf X < xs.length then (xs.idxOf X : Int) else -1
theorem idxOf_ge {K : List GRule} {X : GRule} {k : Nat} (h : ∀ j y, j < k → K[j]? = some y → X ≠ y) (hk : k ≤ K.length) : k ≤ K.idxOf X := by
  rcases Nat.lt_or_ge (K.idxOf X) k with hlt | hge
  · have hm : X ∈ K := List.idxOf_lt_length_iff.1 (by omega)
    exact absurd rfl (h _ _ hlt (idxOf_at hm))
  · exact hge
set_option maxRecDepth 100000 in
set_option maxHeartbeats 1000000 in
theorem indexRules_any (v : Value) (xs : List GRule) (X : GRule) (w : World) (h : Sl RuleE w w.heap.size v xs) :
    Calls Tryd.prog 71 #[v, .agg #[.string X.letter, .int .i64 X.left, .int .i64 X.right]] w fun e w' => e = .returned (.int .i64 (idxR xs X)) ∧ Below w.heap.size w w' := by
  obtain ⟨A, c, rfl, hc, hm, hrow⟩ := h
  unfold maxLen at hm
  go_enter Tryd.func71, Tryd.ntmps71
  go_wp2_with fail
  have KX := Blk.new w #[.string X.letter, .int .i64 X.left, .int .i64 X.right] 70
  have hB := Lib.hid ((Below.refl w.heap.size w).alloc (Nat.le_refl _) (Obj.cells #[.string X.letter, .int .i64 X.left, .int .i64 X.right] 70))
  generalize w.alloc (Obj.cells #[.string X.letter, .int .i64 X.left, .int .i64 X.right] 70) = W at *
  have HKX := Lib.hid KX
  clear KX
  go_loopw [8] (fun i wr => ∃ k : Nat, k ≤ xs.length ∧ i = .int .i64 k ∧ (∃ m, wr = W.drewN m) ∧ Hid (∀ j y, j < k → xs[j]? = some y → X ≠ y)) (fun i _ => xs.length - (intOf i).toNat)
  case atStart => exact ⟨0, Nat.zero_le _, rfl, ⟨0, rfl⟩, fun j y hj => absurd hj (by omega)⟩
  case round =>
    obtain ⟨k, hk, rfl, ⟨m, rfl⟩, Hno⟩ := hrel
    by_cases hlt : k < xs.length
    · obtain ⟨b, o, rfl, hbl, hcell⟩ := hrow.rule hlt
      obtain ⟨y, hy⟩ : ∃ y, xs[k]? = some y := ⟨_, List.getElem?_eq_getElem hlt⟩
      obtain ⟨g0, g1, g2⟩ := hcell k y hy
      have d0 := (hB.out.cell (p := ⟨b, o + k * 3, none⟩) hbl).trans g0
      have d1 := (hB.out.cell (p := ⟨b, o + k * 3 + 1, none⟩) hbl).trans g1
      have d2 := (hB.out.cell (p := ⟨b, o + k * 3 + 2, none⟩) hbl).trans g2
      have x0 := HKX.out.cell (i := 0) (v := .string X.letter) rfl
      have x1 := HKX.out.cell (i := 1) (v := .int .i64 X.left) rfl
      have x2 := HKX.out.cell (i := 2) (v := .int .i64 X.right) rfl
      have Hy := Lib.hid hy
      have hki : (k : Int) < (xs.length : Int) := by omega
      clear hcell hy g0 g1 g2
      have hno' : X ≠ y → Hid (∀ j z, j < k + 1 → xs[j]? = some z → X ≠ z) := fun hne j z hj hz => by
        by_cases e : j = k
        · subst e
          rw [Hy.out] at hz; injection hz with hz; rw [← hz]; exact hne
        · exact Hno.out j z (by omega) hz
      have Hno' := Lib.hid hno'
      clear hno'
      by_cases e2 : X = y
      · subst e2
        have he := Lib.hid (show xs.idxOf X = k from Nat.le_antisymm (idxOf_le_of Hy.out) (idxOf_ge Hno.out hk))
        go_wp2_with fail
        go_quiet (fail)
        go_wp2_with fail
        go_ret
        exact ⟨ret_int (by rw [idxR, he.out, if_pos hlt]), below_drewN (below_drewN hB.out _) _⟩
      · have HNE := Lib.hid e2
        rcases rule_ne e2 with f1 | ⟨f1, f2⟩ | ⟨f1, f2, f3⟩
        · clear e2
          go_wp2_with fail
          go_quiet (fail)
          go_wp2_with fail
          go_roundw
          case rel => exact ⟨k + 1, by omega, by go_num, ⟨_, rfl⟩, Hno'.out HNE.out⟩
          case measure => simp [intOf]; omega
        · rw [f1] at x0
          clear e2 f1
          go_wp2_with fail
          go_quiet (fail)
          go_wp2_with fail
          go_roundw
          case rel => exact ⟨k + 1, by omega, by go_num, ⟨_, rfl⟩, Hno'.out HNE.out⟩
          case measure => simp [intOf]; omega
        · rw [f1] at x0
          rw [f2] at x1
          clear e2 f1 f2
          go_wp2_with fail
          go_quiet (fail)
          go_wp2_with fail
          go_roundw
          case rel => exact ⟨k + 1, by omega, by go_num, ⟨_, rfl⟩, Hno'.out HNE.out⟩
          case measure => simp [intOf]; omega
    · have hkn : k = xs.length := by omega
      have hge := idxOf_ge Hno.out hk
      go_wp2
      go_ret
      exact ⟨ret_int (by rw [idxR, if_neg (by omega)]), below_drewN hB.out _⟩
end Go.Proofs.YtagpjommhoedlaaDoor

namespace Go.Proofs.YtagpjommhoedlaaDoor
open Go.RowKit

/-- One append to a row of the call's own: what the old row holds stays, in place or behind in the old block. -/
theorem step_append_rulesK {W : World} {ops : Array Oper} {o : Oper} {a : Act} {K : Act → World → Prop} {Q : Exit → Act → World → Prop} {E : Prop} (hgd : o.guard = none) (s x : Operand)
    (ho : o.op = .call { callee := .builtin .append, args := #[s, x], argTypes := #[24, 24] }) {ys : List GRule} {base : Nat} {v sv : Value} {l : List GRule} {S : Nat → Prop}
    (hs : a.eval s = v) (hx : a.eval x = sv) (hown : OwnRules W base v l) (hsl : SlS RuleE W S sv ys) (hlen : l.length + ys.length ≤ 1099511627776) (hbase : base ≤ W.heap.size)
    (h : ∀ v' w', OwnRules w' base v' (l ++ ys) → W.grownBy w' v.ownBlock → (v'.ownBlock = v.ownBlock ∨ W.grownBy w' none) → Below base W w' → K (a.put o.dst v') w') :
    if Region.wanted o (yielded ops a.tmps) = true then Oper.wp Tryd.prog o a W K Q else E := by
  have hw : Region.wanted o (yielded ops a.tmps) = true := by simp [Region.wanted, hgd]
  rw [if_pos hw]
  obtain ⟨i0, hi0, hz0, hz1, hz2⟩ := info_parts Tryd.infoR
  obtain ⟨A, c, rfl, hc, hm, hrow⟩ := hsl
  have H : ∃ v' w', (Builtin.append_ #[24, 24] o.type #[v, .slice A ys.length c]).run Tryd.prog W = .ok v' w' ∧ OwnRules w' base v' (l ++ ys) ∧ W.grownBy w' v.ownBlock ∧ (v'.ownBlock = v.ownBlock ∨ W.grownBy w' none) := by
    rcases A with _ | ad
    · have h0 : ys = [] := by
        rcases Nat.eq_zero_or_pos ys.length with h0 | h0
        · exact List.eq_nil_of_length_eq_zero h0
        · obtain ⟨b, o, h, _⟩ := hrow h0; cases h
      subst h0
      exact ⟨v, W, run_append_of_nil W base _ _ 70 i0 3 Tryd.underlying24 hi0 v _ _ hown c, by simpa using hown, World.grownBy.refl W _, .inl rfl⟩
    · obtain ⟨v', w', hrun, h2, h3, _, h5⟩ := run_append_own_at (P := Tryd.prog) W base 24 o.type 70 i0 _ 3 32 Tryd.underlying24 hi0 hz0 hz1 hz2 rfl (by decide) v _ _ hown ad ys.length c (ys.flatMap GRule.cells)
        (cells_len ys) (rules_cells hrow) (rules_one ys) (by simp only [maxLen]; omega) (by omega) hbase
      refine ⟨v', w', hrun, by unfold OwnRules; simpa using h2, h3, ?_⟩
      rcases h5 with h5 | h5
      · exact .inl h5
      · right
        rcases hown.2 with ⟨rfl, _⟩ | ⟨g, cap, cur, rfl, hg1, hg2, hg3, hg4, hg5, hg6⟩
        · exact h3
        · -- the row has moved: it did not fit
          rcases Nat.lt_or_ge cap (l.length + ys.length) with hlt | hge
          · obtain ⟨v2, w2, hr2, _, h6⟩ := run_append_arg_grows (P := Tryd.prog) W 24 o.type 70 i0 _ 3 32 Tryd.underlying24 hi0 hz0 hz1 hz2 rfl (by decide) ⟨g, 0, none⟩ l.length cap (l.flatMap GRule.cells) hown.1
              (fun j u hu => by
                have hj : j < (l.flatMap GRule.cells).length := (List.getElem?_eq_some_iff.1 hu).1
                rw [hown.1] at hj
                have := hown.cellAt j hj
                simpa [Addr.add_lit, hu] using this)
              ad ys.length c (ys.flatMap GRule.cells) (cells_len ys) (rules_cells hrow) hlt (by simp only [maxLen]; omega) (by omega)
            rw [hrun] at hr2
            cases hr2
            exact h6
          · have hr2 := run_append_room (P := Tryd.prog) W 24 o.type 70 i0 Tryd.underlying24 hi0 g l.length cap cur hg2 ad ys.length c (ys.flatMap GRule.cells) (by rw [hz1]; exact cells_len ys) (rules_cells hrow) (rules_one ys) hge
              (by rw [hz1, hg5, cells_len, ← Nat.add_mul]; exact Nat.mul_le_mul_right _ hge)
            rw [hrun] at hr2
            cases hr2
            have : g = W.heap.size := by simpa [Value.ownBlock] using h5
            have h7 := (Array.getElem?_eq_some_iff.1 hg2).1
            omega
  obtain ⟨v', w', hrun, h2, h3, h4⟩ := H
  unfold Oper.wp execOp
  simp only [ho, resolve, invoke, builtin, Sem.run_bind, Sem.run_pure, Result.andThen_ok, List.map_toArray, List.map_cons, List.map_nil, hs, hx, hrun]
  exact h v' w' h2 h3 h4 ((Below.refl base W).grown h3 hbase (fun k hk => (World.ownsRow.lt hown k hk).1))
theorem step_push_ruleK {W : World} {ops : Array Oper} {o : Oper} {a : Act} {K : Act → World → Prop} {Q : Exit → Act → World → Prop} {E : Prop} (hgd : o.guard = none) (s x : Operand)
    (ho : o.op = .call { callee := .builtin .append, args := #[s, x], argTypes := #[24, 24] }) {t : ByteArray} {p q : Int} {base : Nat} {v : Value} {l : List GRule}
    (hs : a.eval s = v) {N : Nat} (hx : a.eval x = .slice (some ⟨N, 0, none⟩) 1 1) (hN : N = W.heap.size) (hown : OwnRules W base v l) (hlen : l.length ≤ 1099511627775) (hbase : base ≤ W.heap.size)
    (h : ∀ v' w', OwnRules w' base v' (l ++ [⟨t, p, q⟩]) → (W.alloc (.cells #[.string t, .int .i64 p, .int .i64 q] 70)).grownBy w' v.ownBlock → (v'.ownBlock = v.ownBlock ∨ (W.alloc (.cells #[.string t, .int .i64 p, .int .i64 q] 70)).grownBy w' none) →
      Below base (W.alloc (.cells #[.string t, .int .i64 p, .int .i64 q] 70)) w' → K (a.put o.dst v') w') :
    if Region.wanted o (yielded ops a.tmps) = true then Oper.wp Tryd.prog o a (W.alloc (.cells #[.string t, .int .i64 p, .int .i64 q] 70)) K Q else E := by
  subst hN
  refine step_append_rulesK (ys := [⟨t, p, q⟩]) (S := fun b => b = W.heap.size) hgd s x ho hs hx (hown.alloc _) ⟨_, 1, rfl, Nat.le_refl _, by simp [maxLen], fun _ => ⟨W.heap.size, 0, rfl, rfl, fun k r hk => ⟨r.cells, rfl, fun j u hu => ?_⟩⟩⟩ (by simp; omega) (by simp; omega) h
  have hk0 : k = 0 := by
    have := (List.getElem?_eq_some_iff.1 hk).1
    simp at this; exact this
  subst hk0
  simp at hk
  subst hk
  have hc : (W.alloc (.cells #[.string t, .int .i64 p, .int .i64 q] 70)).cell? ⟨W.heap.size, j, none⟩ = (#[Value.string t, .int .i64 p, .int .i64 q] : Array Value)[j]? := cell_of_row _ _ _ _ 70 (0, 0) (heap_alloc_new W _)
  simp only [Nat.zero_mul, Nat.zero_add]
  rw [hc]
  simpa [GRule.cells] using hu
theorem Boxed.grownO {w w' : World} {B base e s n : Nat} {t : TypeId} {v u : Value} {xs : List Value} {o : Obj} (h : Boxed w B t u) (hte : t ≠ e) (own : w.ownsRow base e s v n xs) (hg : (w.alloc o).grownBy w' v.ownBlock) : Boxed w' B t u := (h.alloc o).kept hg (h.not_row hte own)
/-- A slice of the first rules of a row stays what it is when the row grows. -/
theorem lets_keep {W w' : World} {g n c base : Nat} {v v' : Value} {L R : List GRule} {S : Nat → Prop} (hL : SlS RuleE W S (.slice (some ⟨g, 0, none⟩) n c) L) (hS : ∀ b, S b → b < W.heap.size) {l' : List GRule} (own' : OwnRules w' base v' l') (el : l' = L ++ R) (hg : W.grownBy w' v.ownBlock)
    (hor : v'.ownBlock = v.ownBlock ∨ W.grownBy w' none) : SlS RuleE w' S (.slice (some ⟨g, 0, none⟩) n c) L := by
  have own : w'.ownsRow base 70 3 v' (L ++ R).length ((L ++ R).flatMap GRule.cells) := by rw [← el]; exact own'
  obtain ⟨A, c', e, h1, h2, hrow⟩ := hL
  injection e with e1 e2 e3
  subst e1; subst e2; subst e3
  refine ⟨_, c, rfl, h1, h2, fun hn => ?_⟩
  obtain ⟨b, o, eb, hSb, hc⟩ := hrow hn
  injection eb with eb
  injection eb with eb1 eb2
  subst eb1; subst eb2
  have hlt := hS _ hSb
  refine ⟨g, 0, rfl, hSb, fun k x hx => ⟨x.cells, rfl, fun j u hu => ?_⟩⟩
  have hold : some g ≠ v.ownBlock ∨ W.grownBy w' none → w'.cell? ⟨g, 0 + (k * RuleE.size + j), none⟩ = some u := fun hh => by
    obtain ⟨cs, hcs, hcell⟩ := hc k x hx
    have ecs : cs = x.cells := hcs
    subst ecs
    have hb : w'.heap[g]? = W.heap[g]? := by
      rcases hh with hh | hh
      · exact hg.block g hlt hh
      · exact hh.block g hlt (by simp)
    rw [World.cell?_of_block (a := ⟨g, _, none⟩) hb]
    exact hcell j u hu
  rcases hor with hor | hor
  · by_cases hgv : some g = v.ownBlock
    · -- the same row, grown in place
      have hxl : (L ++ R)[k]? = some x := by rw [List.getElem?_append_left (List.getElem?_eq_some_iff.1 hx).1]; exact hx
      have hpos : 0 < (L ++ R).length := by have := (List.getElem?_eq_some_iff.1 hxl).1; omega
      obtain ⟨g2, cap, hv, _, _, _, hcell⟩ := own_form own hpos
      have : g2 = g := by
        have h3 : v'.ownBlock = some g2 := by rw [hv]; rfl
        rw [h3, ← hgv] at hor
        exact Option.some.inj hor
      subst this
      obtain ⟨c0, c1, c2⟩ := cells3 (L ++ R) k x hxl
      match j, hu with
      | 0, hu => simp [GRule.cells] at hu; subst hu; simpa [RuleE] using hcell _ _ c0
      | 1, hu => simp [GRule.cells] at hu; subst hu; simpa [RuleE] using hcell _ _ c1
      | 2, hu => simp [GRule.cells] at hu; subst hu; simpa [RuleE] using hcell _ _ c2
      | j + 3, hu => simp [GRule.cells] at hu
    · exact hold (.inl hgv)
  · exact hold (.inr hor)
end Go.Proofs.YtagpjommhoedlaaDoor

namespace Go.Proofs.YtagpjommhoedlaaDoor
open Go.RowKit

def ixB (s : ByteArray) (k : Nat) : Int := Lib.indexByte s.data.toList (ltr k)
theorem ixB_yes {s : ByteArray} {k : Nat} (h : hasC s (ltr k) = true) : 0 ≤ ixB s k := by
  have h1 := Lib.indexByte_ge s.data.toList (ltr k)
  rcases Int.lt_or_le (ixB s k) 0 with hn | hn
  · have hm : ixB s k = -1 := by unfold ixB at hn ⊢; omega
    have := Lib.indexByte_none hm
    unfold hasC at h
    rw [List.contains_iff_mem] at h
    obtain ⟨j, hj⟩ := List.mem_iff_getElem?.1 h
    exact absurd hj (this j)
  · exact hn
theorem ixB_no {s : ByteArray} {k : Nat} (h : ¬ hasC s (ltr k) = true) : ixB s k < 0 := by
  rcases Int.lt_or_le (ixB s k) 0 with hn | hn
  · exact hn
  · obtain ⟨o, ho⟩ := Int.eq_ofNat_of_zero_le hn
    have := (Lib.indexByte_some (show Lib.indexByte s.data.toList (ltr k) = (o : Int) from ho)).1
    exact absurd (List.contains_iff_mem.2 (List.mem_of_getElem? this)) h
theorem ltr_nat {k : Nat} (h : k < 4) : ((97 + k : Nat) : Int) = ((ltr k).toNat : Int) := by
  have : k = 0 ∨ k = 1 ∨ k = 2 ∨ k = 3 := by omega
  rcases this with rfl | rfl | rfl | rfl <;> rfl
theorem indexByte_any (s : ByteArray) (k : Nat) (c : Int) (w : World) (hk : k < 4) (hc : c = 97 + k) : Calls Tryd.prog 68 #[.string s, .int .u8 c] w fun e w' => e = .returned (.int .i64 (ixB s k)) ∧ w = w' := by
  have h2 := ltr_nat hk
  have h3 : c.toNat.toUInt8 = ltr k := by
    have : k = 0 ∨ k = 1 ∨ k = 2 ∨ k = 3 := by omega
    subst hc
    rcases this with rfl | rfl | rfl | rfl <;> rfl
  refine (Tryd.strings_IndexByte s c w).mono fun e w' h => ⟨?_, h.2.symm⟩
  rw [h.1, h3]; rfl
theorem letter_int (k : Nat) (c : Int) (w : World) (hk : k < 4) (hc : c = 97 + k) : Calls Tryd.prog 69 #[.int .u8 c] w fun e w' => e = .returned (.agg #[.string (letR (ltr k)).letter, .int .i64 0, .int .i64 0]) ∧ Below w.heap.size w w' := by
  have h2 := ltr_nat hk
  have : c = ((ltr k).toNat : Int) := by omega
  subst this
  exact letter_any _ _

theorem Blk.new' {w : World} {b : Nat} {a : Array Value} {t : TypeId} (h : b = w.heap.size) : Blk (w.alloc (.cells a t)) b a t := by subst h; exact Blk.new _ _ _
theorem idxR_idxG {s : ByteArray} (hw : wordOk s = true) {i : Nat} (h : i < s.size) : idxR (letsG s 4) (letR s[i]) = ((idxG s s[i] : Nat) : Int) := by
  have := idxG_lt hw h
  unfold idxR idxG at *
  rw [if_pos this]
set_option maxRecDepth 100000 in
set_option maxHeartbeats 1000000 in
theorem plainOf_any (s : ByteArray) (i L N : Nat) (vL : Value) (w : World) (hi : i < s.size) (hw : wordOk s = true) (hL : Blk w L #[vL] 24) (hN : Blk w N #[.string s] 9) (hS : Sl RuleE w w.heap.size vL (letsG s 4)) :
    Calls Tryd.prog 70 #[.int .i64 (i : Int), .pointer (some ⟨L, 0, none⟩), .pointer (some ⟨N, 0, none⟩)] w fun e w' => e = .returned (.int .i64 ((idxG s (s[i]'hi) : Nat) : Int)) ∧ Below w.heap.size w w' := by
  have HI := Lib.hid (idxR_idxG hw hi)
  have HS := Lib.hid hS
  obtain ⟨AL, cL, rfl, _⟩ := hS
  have cL0 := hL.cell (i := 0) (v := .slice AL (letsG s 4).length cL) rfl
  have cN0 := hN.cell (i := 0) (v := .string s) rfl
  have lL := hL.lt
  have lN := hN.lt
  have hi2 : (i : Int) < (s.size : Int) := by omega
  clear hL hN hw
  go_enter Tryd.func70, Tryd.ntmps70
  go_wp2_with fail
  have KB := And.intro (show Below w.heap.size w w.drew from Below.drew (Below.refl _ _)) (And.intro (show w.drew.cell? ⟨L, 0, none⟩ = _ from cL0) (show w.drew.cell? ⟨N, 0, none⟩ = _ from cN0))
  go_region_held3 (fun w' => Below w.heap.size w w' ∧ w'.cell? ⟨L, 0, none⟩ = some (.slice AL (letsG s 4).length cL) ∧ w'.cell? ⟨N, 0, none⟩ = some (.string s))
    (first | (with_reducible exact KB) | (with_reducible exact keepC KB hb1 lL lN) | (with_reducible exact keepC (keepC KB hb1 lL lN) hb2 lL lN))
    (first
      | (go_at_call 69; (refine (letter_any _ _).mono ?_); rintro e w1 ⟨rfl, hb1⟩)
      | (go_at_call 71; (refine (indexRules_any _ (letsG s 4) (letR (s[i]'hi)) _ ((HS.out.up (by repeat (first | exact Below.refl _ _ | (refine Below.alloc ?_ (by first | omega | (simp; done) | (simp; omega)) _) | refine below_drewN ?_ _ | refine Below.drew ?_))).up hb1)).mono ?_); rintro e w2 ⟨rfl, hb2⟩))
  have HZ := Lib.hid (keepC (keepC KB hb1 lL lN) hb2 lL lN).1
  clear KB hb1 hb2
  go_wp2
  go_ret
  exact ⟨ret_int HI.out, HZ.out⟩
set_option maxRecDepth 100000 in
set_option maxHeartbeats 4000000 in
theorem plain_any (s : ByteArray) (w : World) (hs : wordOk s = true) :
    Calls Tryd.prog 42 #[.string s] w (GOwn (plainG s) w) := by
  have hsz : s.size ≤ 2000 := by unfold wordOk at hs; simp only [Bool.and_eq_true, decide_eq_true_eq] at hs; omega
  have HS := Lib.hid hs
  clear hs
  go_enter Tryd.func42, Tryd.ntmps42
  go_wp2_with fail
  go_loopw [4] (fun c wr => ∃ (k : Nat) (vo : Value), k ≤ 4 ∧ c = .int .u8 ((97 + k : Nat) : Int) ∧ Below w.heap.size w wr ∧ Blk wr w.heap.size #[.string s] 9 ∧ Blk wr (w.heap.size + 1) #[.slice none 0 0] 26 ∧ Boxed wr (w.heap.size + 2) 26 vo ∧ OwnRules wr (w.heap.size + 3) vo (letsG s k)) (fun c _ => 101 - (intOf c).toNat)
  case atStart =>
    refine ⟨0, .slice none 0 0, by omega, rfl, (by repeat (first | exact Below.refl _ _ | (refine Below.alloc ?_ (by first | omega | (simp; done) | (simp; omega)) _) | (refine Below.setCell ?_ (by first | exact Nat.le_refl _ | (show _ ≤ _; omega) | (simp; done) | (simp; omega)) _) | refine below_drewN ?_ _ | refine Below.drew ?_)), ?_, ?_, ?_, World.ownsRow_nil _ _ _ _⟩
    · repeat (first | (apply Blk.new'; simp; done) | apply Blk.alloc | apply Blk.drew)
    · repeat (first | (apply Blk.new'; simp; done) | apply Blk.alloc | apply Blk.drew)
    · show Blk _ _ #[.slice none 0 0] _
      repeat (first | (apply Blk.new'; simp; done) | apply Blk.alloc | apply Blk.drew)
  case round =>
    obtain ⟨k, vo, hk, rfl, hb, h0, h1, hbox, hown⟩ := hrel
    have HB := Lib.hid hb
    have H0 := Lib.hid h0
    have H1 := Lib.hid h1
    have Hbox := Lib.hid hbox
    have Hown := Lib.hid hown
    have c0 := h0.cell (i := 0) (v := .string s) rfl
    have cb := hbox.cell
    have fb := hbox.frozen
    have lb := hbox.lt
    have l0 := h0.lt
    obtain ⟨Ao, co, rfl, _⟩ := own_nil hown
    have HL := Lib.hid (show (letsG s k).length ≤ 1099511627775 by have := letsG_len s k; omega)
    clear hb h0 h1 hbox hown
    by_cases hlt : k < 4
    · have HSu := Lib.hid (letsG_succ s k)
      by_cases hc : hasC s (ltr k) = true
      · have hix := ixB_yes hc
        have HC := Lib.hid hc
        clear hc
        go_wp2_with (first
          | (go_at_call 68; refine (indexByte_any s k _ _ hlt (by omega)).mono ?_; rintro e w' ⟨rfl, rfl⟩))
        go_region_law (first
          | (refine step_push_rule (base := w.heap.size + 3) (by rfl) _ _ (by rfl) (by rfl) (by first | rfl | simp) rfl (OwnRules.below Hown.out.drew hb2) HL.out (by omega) ?_; intro v3 w3 own3 hg3 hb3; have bx3 : Boxed w3 (w.heap.size + 2) 26 _ := Boxed.grown (Boxed.up (Boxed.mk' Hbox.out) hb2 lb) (by decide) (OwnRules.below Hown.out.drew hb2) hg3; obtain ⟨A3, c3, rfl, _⟩ := own_nil own3; have hcb3 := bx3.cell; have hfb3 := bx3.frozen)
          | (go_simp; go_at_call 69; refine (letter_int k _ _ hlt (by omega)).mono ?_; rintro e w2 ⟨rfl, hb2⟩; have bx2 := Boxed.up (Boxed.mk' Hbox.out) hb2 lb; have hcb2 := bx2.cell; have hfb2 := bx2.frozen; have hlb2 := bx2.lt))
        all_goals
          have z2 : wr.heap.size ≤ w2.heap.size := hb2.size
          have hbz : Below (w.heap.size + 3) wr w3 := (Below.drew (Below.refl _ _)).trans (((hb2.mono (by show w.heap.size + 3 ≤ wr.heap.size; omega)).alloc (by omega) _).trans hb3)
          have HBZ := Lib.hid hbz
          have HO3 := Lib.hid own3
          have HX3 := Lib.hid bx3
          clear hbz own3 bx3 hb3 hb2 hg3 bx2
          go_wp2
          go_roundw
          case rel =>
            refine ⟨k + 1, _, by omega, by go_num, (HB.out.trans (HBZ.out.mono (by omega))).setCell (by show w.heap.size ≤ w.heap.size + 2; omega) _, (H0.out.upB HBZ.out (by omega)).other (by show w.heap.size ≠ w.heap.size + 2; omega) _, (H1.out.upB HBZ.out (by omega)).other (by show w.heap.size + 1 ≠ w.heap.size + 2; omega) _, Boxed.set _ HX3.out, ?_⟩
            rw [HSu.out, if_pos HC.out]
            exact own_put HX3.out HO3.out rfl (by simp)
          case measure => simp [intOf]; omega
      · have hix := ixB_no hc
        have HC := Lib.hid hc
        clear hc
        go_wp2_with (first
          | (go_at_call 68; refine (indexByte_any s k _ _ hlt (by omega)).mono ?_; rintro e w' ⟨rfl, rfl⟩))
        go_roundw
        case rel => exact ⟨k + 1, _, by omega, by go_num, HB.out, H0.out, H1.out, Hbox.out, by rw [HSu.out, if_neg HC.out]; exact Hown.out⟩
        case measure => simp [intOf]; omega
    · have hk4 : k = 4 := by omega
      subst hk4
      rw [show ((97 + 4 : Nat) : Int) = 101 from rfl]
      have hlen4 := letsG_len s 4
      obtain ⟨wo, rfl⟩ : ∃ wo : World, wo = wr := ⟨_, rfl⟩
      have hL0 := Lib.hid (Hown.out.slS (S := fun b => w.heap.size + 3 ≤ b ∧ b < wo.heap.size) fun g hg => World.ownsRow.lt Hown.out g hg)
      have hAo := Lib.hid (show 0 < (letsG s 4).length → ∃ g, Ao = some ⟨g, 0, none⟩ from fun hp => by
        obtain ⟨g, cap, e, _⟩ := own_form Hown.out hp
        injection e with e1
        exact ⟨g, e1⟩)
      go_wp2_with fail
      go_loopw [7] (fun q wx => ∃ (i : Nat) (vo : Value), 1 ≤ i ∧ (i ≤ s.size ∨ i = 1) ∧ q = .int .i64 (i : Int) ∧ Below w.heap.size w wx ∧ Blk wx w.heap.size #[.string s] 9 ∧ Blk wx (w.heap.size + 1) #[.slice none 0 0] 26 ∧
        Blk wx wo.heap.size #[.slice Ao (letsG s 4).length co] 24 ∧ Boxed wx (w.heap.size + 2) 26 vo ∧ OwnRules wx (w.heap.size + 3) vo (plainK s (i - 1)) ∧ SlS RuleE wx (fun b => w.heap.size + 3 ≤ b ∧ b < wo.heap.size) (.slice Ao (letsG s 4).length co) (letsG s 4)) (fun q _ => s.size + 1 - (intOf q).toNat)
      case atStart =>
        refine ⟨1, _, Nat.le_refl _, .inr rfl, rfl, HB.out.alloc HB.out.size _, H0.out.alloc _, H1.out.alloc _, Blk.new _ _ _, Boxed.alloc Hbox.out _, ?_, hL0.out.keep (Keep.of_below (B := wo.heap.size) ((Below.refl _ _).alloc (Nat.le_refl _) _) |>.mono fun _ hb => hb.2)⟩
        rw [show 1 - 1 = 0 from rfl, plainK_zero]
        exact Hown.out.alloc _
      case round =>
        obtain ⟨i, vo, hi1, hi2, rfl, hb, h0, h1, hL, hbox, hown, hsl⟩ := hrel
        have zr : w.heap.size + 2 < wr.heap.size := hbox.lt
        have zo : wo.heap.size < wr.heap.size := hL.lt
        have HB2 := Lib.hid hb
        have HK0 := Lib.hid h0
        have HK1 := Lib.hid h1
        have HKL := Lib.hid hL
        have HX := Lib.hid hbox
        have HO := Lib.hid hown
        have HSl := Lib.hid hsl
        have HSl2 := Lib.hid (show Sl RuleE wr wr.heap.size _ _ from hsl.more fun b hb => by omega)
        have c0' := h0.cell (i := 0) (v := .string s) rfl
        have l0' := h0.lt
        have cb' := hbox.cell
        have fb' := hbox.frozen
        have hlp := Lib.hid (plainK_len s (i - 1))
        obtain ⟨A2, c2, rfl, _⟩ := own_nil hown
        clear hb h0 h1 hL hbox hown hsl HB H0 H1 Hbox Hown cb fb c0 l0
        by_cases hlt2 : i < s.size
        · have HP := Lib.hid (plainK_succ s (i - 1))
          have HLn := Lib.hid (show (plainK s (i - 1)).length ≤ 1099511627775 by rw [hlp.out]; omega)
          have hpos : 0 < s.size := by omega
          have hpl1 : 1 ≤ (plainK s (i - 1)).length := by have := idxG_lt HS.out hpos; rw [hlp.out]; omega
          have hpl2 : (plainK s (i - 1)).length ≤ 4000 := by rw [hlp.out]; omega
          obtain ⟨I, hI⟩ : ∃ I : Nat, I = idxG s (s.data.getD i 0) := ⟨_, rfl⟩
          have hidx : ∀ W (hb : Below wr.heap.size wr W), Calls Tryd.prog 70 #[.int .i64 (i : Int), .pointer (some ⟨wo.heap.size, 0, none⟩), .pointer (some ⟨w.heap.size, 0, none⟩)] W fun e w' => e = .returned (.int .i64 (I : Int)) ∧ Below W.heap.size W w' := fun W hb => by
            rw [hI, getD_data hlt2]
            exact plainOf_any s i wo.heap.size w.heap.size _ W hlt2 HS.out (HKL.out.up hb) (HK0.out.up hb) (HSl2.out.up hb)
          have OF1 := Lib.hid hidx
          clear hidx
          obtain ⟨B, hB⟩ : ∃ B : Nat, (if i - 1 = 0 then (idxG s (s.data.getD 0 0) : Nat) else (letsG s 4).length + (i - 1) - 1) = B := ⟨_, rfl⟩
          have hBp : pairAt s (i - 1) = pairR (B : Int) (I : Int) := by
            unfold pairAt
            rw [show i - 1 + 1 = i by omega, ← hB, ← hI]
            split <;> rfl
          have HBp := Lib.hid hBp
          have HBq := Lib.hid hB
          clear hBp hB hI
          go_upto_if 39 with fail
          go_cut [8] (fun u8 wx => u8 = .int .i64 (B : Int) ∧ Below wr.heap.size wr wx)
          case first =>
            by_cases h1i : i = 1
            · subst h1i
              have OF0 := Lib.hid (plainOf_any s 0 wo.heap.size w.heap.size _ wr hpos HS.out HKL.out HK0.out HSl2.out)
              go_wp2_with (first
                | (go_at_call 70; (refine OF0.out.mono ?_); rintro e w2 ⟨rfl, hb2⟩))
              go_meet
              exact ⟨by rw [← HBq.out, if_pos trivial, getD_data hpos], hb2⟩
            · have hb1 : ((i : Int) == 1) = false := by rw [beq_eq_false_iff_ne]; omega
              go_wp2
              go_meet
              refine ⟨?_, Below.refl _ _⟩
              rw [← HBq.out, if_neg (by omega), hlp.out]
              congr 1; omega
          case rest =>
            obtain ⟨rfl, hbc⟩ := hcut
            have HC0 := Lib.hid hbc
            have HKX := Lib.hid (Boxed.up HX.out hbc HX.out.lt)
            have cb2 := HKX.out.cell
            have fb2 := HKX.out.frozen
            have lb2 := HKX.out.lt
            have HO1 := Lib.hid (OwnRules.below HO.out hbc)
            clear hbc cb' fb' c0'
            go_wp2_with fail
            go_region_law (first
              | (go_simp; go_at_call 70; refine (OF1.out _ (by repeat (first | exact HC0.out | refine Below.drew ?_))).mono ?_; rintro e w2 ⟨rfl, hb2⟩; have bx2 := Boxed.up (Boxed.mk' HKX.out) hb2 lb2; have hcb2 := bx2.cell; have hfb2 := bx2.frozen; have lb3 := bx2.lt)
              | (go_simp; go_at_call 54; refine (pairInt_any _ _ _).mono ?_; rintro e w3 ⟨rfl, hb3⟩; have bx3 := Boxed.up bx2 hb3 lb3; have hcb3 := bx3.cell; have hfb3 := bx3.frozen; have lb4 := bx3.lt)
              | (refine step_push_ruleK (base := w.heap.size + 3) (by rfl) _ _ (by rfl) (by rfl) (by first | rfl | simp) rfl (OwnRules.below (OwnRules.below HO1.out.drew hb2) hb3) HLn.out (by omega) ?_; intro v4 w4 own4 hg4 hor4 hb4; have bx4 : Boxed w4 (w.heap.size + 2) 26 _ := Boxed.grown (Boxed.up (Boxed.up (Boxed.mk' HKX.out) hb2 lb2) hb3 lb3) (by decide) (OwnRules.below (OwnRules.below HO1.out.drew hb2) hb3) hg4; obtain ⟨A4, c4, rfl, _⟩ := own_nil own4; have hcb4 := bx4.cell; have hfb4 := bx4.frozen))
            all_goals
              have z2 : wc.heap.size ≤ w2.heap.size := hb2.size
              have z3 : w2.heap.size ≤ w3.heap.size := hb3.size
              have zc : wr.heap.size ≤ wc.heap.size := HC0.out.size
              have h23 : Below wc.heap.size wc w3 := Below.tr (Below.undrew hb2) hb3
              have hbz : Below (w.heap.size + 3) wr w4 := (HC0.out.mono (by omega)).trans ((h23.mono (by omega)).trans (((Below.refl _ _).alloc (by omega) _).trans hb4))
              have OWN := OwnRules.below (OwnRules.below HO1.out.drew hb2) hb3
              have bL : Boxed w4 wo.heap.size 24 _ := Boxed.grownO (t := 24) (((HKL.out.up HC0.out).up h23)) (by decide) OWN hg4
              have HBL := Lib.hid bL
              have HBZ := Lib.hid hbz
              have HO4 := Lib.hid own4
              have HX4 := Lib.hid bx4
              obtain ⟨g, hg⟩ := hAo.out (by have := idxG_lt HS.out hpos; omega)
              have hsl3 : SlS RuleE (w3.alloc (.cells #[.string ⟨#[]⟩, .int .i64 (B : Int), .int .i64 (I : Int)] 70)) (fun b => w.heap.size + 3 ≤ b ∧ b < wo.heap.size) (.slice Ao (letsG s 4).length co) (letsG s 4) :=
                HSl.out.keep ((Keep.of_below ((Below.tr HC0.out h23).alloc (by omega) _)).mono fun _ hb => by omega)
              have e4 : plainK s (i - 1) ++ [⟨⟨#[]⟩, (B : Int), (I : Int)⟩] = letsG s 4 ++ ((List.range (i - 1)).map (pairAt s) ++ [⟨⟨#[]⟩, (B : Int), (I : Int)⟩]) := by rw [plainK, List.append_assoc]
              have hsl4 : SlS RuleE w4 (fun b => w.heap.size + 3 ≤ b ∧ b < wo.heap.size) (.slice Ao (letsG s 4).length co) (letsG s 4) := by
                rw [hg] at hsl3 ⊢
                exact lets_keep hsl3 (fun b hb => by simp; omega) own4 e4 hg4 hor4
              have HSL4 := Lib.hid hsl4
              clear hsl3 hsl4 e4 hg bL hbz own4 bx4 OWN h23 hb2 hb3 hb4 hg4 hor4 bx2 bx3
              go_wp2
              go_roundw
              case rel =>
                refine ⟨i + 1, _, by omega, .inl (by omega), by go_num, (HB2.out.trans (HBZ.out.mono (by omega))).setCell (by show w.heap.size ≤ w.heap.size + 2; omega) _, (HK0.out.upB HBZ.out (by omega)).other (by show w.heap.size ≠ w.heap.size + 2; omega) _, (HK1.out.upB HBZ.out (by omega)).other (by show w.heap.size + 1 ≠ w.heap.size + 2; omega) _,
                  Blk.other HBL.out (by show wo.heap.size ≠ w.heap.size + 2; omega) _, Boxed.set _ HX4.out, ?_, HSL4.out.keep fun b hb => Below.heap_setCell _ _ _ _ (by show b ≠ w.heap.size + 2; omega)⟩
                rw [show i + 1 - 1 = (i - 1) + 1 by omega, HP.out, HBp.out]
                exact own_put HX4.out HO4.out rfl (by simp)
              case measure => simp [intOf]; omega
        · have hb0 : 1 ≤ i := hi1
          have HE := Lib.hid (show plainK s (i - 1) = plainG s by rw [plainG]; congr 1; omega)
          have r1 := HK1.out.cell (i := 0) (v := .slice none 0 0) rfl
          have r2 := HK1.out.frozen 0
          have r3 := HK1.out.lt
          go_wp2
          rw [HE.out] at HO HX
          refine bodyPost_ret (v := .agg #[.slice A2 (plainG s).length c2]) (by simp [results, Tryd.results42, go_sem, r1, HE.out]) rfl ⟨HB2.out.setCell (by show w.heap.size ≤ w.heap.size + 1; omega) _, _, ?_, rfl⟩
          exact ownsRow_more (ownsRow_setCell_below HO.out (a := ⟨w.heap.size + 1, 0, none⟩) (by show w.heap.size + 1 < w.heap.size + 3; omega) _) (by omega)
end Go.Proofs.YtagpjommhoedlaaDoor

namespace Go.Proofs.YtagpjommhoedlaaDoor
open Go.RowKit

end Go.Proofs.YtagpjommhoedlaaDoor

namespace Go.Proofs.YtagpjommhoedlaaDoor
open Go.RowKit

/-- An edit. -/
structure GEdit where
  kind : Int
  i : Int
  j : Int
  k : Int
  part : List GRule
  map : ByteArray
def EditV (w : World) (B : Nat) (v : Value) (e : GEdit) : Prop := ∃ vR, v = .agg #[.int .i64 e.kind, .int .i64 e.i, .int .i64 e.j, .int .i64 e.k, vR, .string e.map] ∧ Sl RuleE w B vR e.part
theorem EditV.below {w w' : World} {B : Nat} {v : Value} {e : GEdit} (h : EditV w B v e) (hb : Below B w w') : EditV w' B v e := by
  obtain ⟨vR, rfl, h1⟩ := h; exact ⟨vR, rfl, h1.below hb⟩
theorem EditV.le {w : World} {B B' : Nat} {v : Value} {e : GEdit} (h : EditV w B v e) (hb : B ≤ B') : EditV w B' v e := by
  obtain ⟨vR, rfl, h1⟩ := h; exact ⟨vR, rfl, h1.le hb⟩
theorem EditV.up {w0 w : World} {v : Value} {e : GEdit} (h : EditV w0 w0.heap.size v e) (hb : Below w0.heap.size w0 w) : EditV w w.heap.size v e := (h.below hb).le hb.size

/-- Six cells of a block. -/
def Box6 (w : World) (b : Nat) (c0 c1 c2 c3 c4 c5 : Value) : Prop := w.cell? ⟨b, 0, none⟩ = some c0 ∧ w.cell? ⟨b, 1, none⟩ = some c1 ∧ w.cell? ⟨b, 2, none⟩ = some c2 ∧ w.cell? ⟨b, 3, none⟩ = some c3 ∧ w.cell? ⟨b, 4, none⟩ = some c4 ∧ w.cell? ⟨b, 5, none⟩ = some c5
theorem Box6.up {w w' : World} {b N : Nat} {c0 c1 c2 c3 c4 c5 : Value} (h : Box6 w b c0 c1 c2 c3 c4 c5) (hb : Below N w w') (hlt : b < N) : Box6 w' b c0 c1 c2 c3 c4 c5 := by
  obtain ⟨h0, h1, h2, h3, h4, h5⟩ := h
  have k : ∀ {o : Nat} {v : Value}, w.cell? ⟨b, o, none⟩ = some v → w'.cell? ⟨b, o, none⟩ = some v := fun {o v} hc => (hb.cell (p := ⟨b, o, none⟩) hlt).trans hc
  exact ⟨k h0, k h1, k h2, k h3, k h4, k h5⟩
theorem Box6.new {w w' : World} {c0 c1 c2 c3 c4 c5 : Value} {t : TypeId} (hb : Below (w.alloc (.cells #[c0, c1, c2, c3, c4, c5] t)).heap.size (w.alloc (.cells #[c0, c1, c2, c3, c4, c5] t)) w') : Box6 w' w.heap.size c0 c1 c2 c3 c4 c5 :=
  Box6.up (w := w.alloc (.cells #[c0, c1, c2, c3, c4, c5] t)) ⟨by simp [go_sem], by simp [go_sem], by simp [go_sem], by simp [go_sem], by simp [go_sem], by simp [go_sem]⟩ hb (by simp)
end Go.Proofs.YtagpjommhoedlaaDoor

namespace Go.Proofs.YtagpjommhoedlaaDoor
open Go.RowKit

def inB (n a b : Int) : Bool := decide (a ≤ n) && decide (n ≤ b)
theorem l00InY (n a b : Int) (r : Bool) (w : World) (h : inB n a b = r) : Calls Tryd.prog 62 #[.int .i64 n, .int .i64 a, .int .i64 b] w fun e w' => e = .returned (.bool r) ∧ w = w' :=
  (l00In_any n a b w).mono fun _ _ ⟨he, hw⟩ => ⟨by rw [he, ← h]; rfl, hw⟩
/-- What PowerGrammar answers. -/
def powOut (xs : List GRule) (t : Int) : List GRule := if gramOk xs && inB t 0 1000000000000000 then limOut (powG xs t.toNat) else []
def powCode (xs : List GRule) (t : Int) : Int := if gramOk xs then if inB t 0 1000000000000000 then limCode (powG xs t.toNat) else 2 else 1
theorem powG_len (xs : List GRule) (n : Nat) (h : n < 1152921504606846976) : (powG xs n).length ≤ xs.length + 120 := by
  unfold powG
  split
  · simp
  · have h1 := powFold_len ((xs.length : Int) - 1) (binL n).tail xs
    have h2 := binL_len n 60 h (by omega)
    have h3 : (binL n).tail.length ≤ 60 := by simp; omega
    omega

end Go.Proofs.YtagpjommhoedlaaDoor

