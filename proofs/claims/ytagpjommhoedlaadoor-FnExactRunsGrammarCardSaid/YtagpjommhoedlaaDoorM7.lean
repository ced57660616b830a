import Derived.Test.YtagpjommhoedlaaDoorM6
import Derived.Test.YtagpjommhoedlaaDoorM2
import Derived.Test.YtagpjommhoedlaaDoorM5
import Derived.Test.YtagpjommhoedlaaDoorM3
import Derived.Test.YtagpjommhoedlaaDoorM1
import Derived.Test.YtagpjommhoedlaaDoorRows
import Derived.WalkKit
import Derived.ProofKit
import Derived.Below
import Derived.ChangeSame
import Derived.Lib.SmallJoins
import Derived.Carry
import Derived.WideKeyArgs
import Derived.OpenShut
import Derived.Deep.Slices
import Derived.Deep.Fields
namespace Go.Proofs.YtagpjommhoedlaaDoor
open Go.RowKit

theorem Tryd.infoRun : (Tryd.prog.info? 60).map (fun i => (i.zero, i.size, i.bytes)) = some (some (.agg #[.string ⟨#[]⟩, .int .i64 0]), 2, 24) := by kernel_rfl
abbrev OwnRuns (w : World) (base : Nat) (v : Value) (l : List GRun) : Prop := w.ownsRow base 60 2 v l.length (l.flatMap GRun.cells)
theorem list_push_run {W : World} {ops : Array Oper} {rest : List Oper} {o : Oper} {a : Act} {Q : Exit → Act → World → Prop} (hgd : o.guard = none) (s x : Operand)
    (ho : o.op = .call { callee := .builtin .append, args := #[s, x], argTypes := #[56, 56] }) {t : ByteArray} {p : Int} {base : Nat} {v : Value} {l : List GRun}
    (hs : a.eval s = v) {N : Nat} (hx : a.eval x = .slice (some ⟨N, 0, none⟩) 1 1) (hN : N = W.heap.size) (hown : OwnRuns W base v l) (hlen : l.length ≤ 1048576) (hbase : base ≤ W.heap.size)
    (h : ∀ v' w', OwnRuns w' base v' (l ++ [⟨t, p⟩]) → Below base W w' → wpList Tryd.prog ops Q rest (a.put o.dst v') w') :
    wpList Tryd.prog ops Q (o :: rest) a (W.alloc (.cells #[.string t, .int .i64 p] 60)) := by
  subst hN
  obtain ⟨i0, hi0, hz0, hz1, hz2⟩ := info_parts Tryd.infoRun
  refine wpList_push2 hgd s x 56 ho i0 _ 2 24 Tryd.underlying56 hi0 hz0 hz1 hz2 rfl (by decide) hs hx rfl (by simp [Value.oneCell']) hown (by omega) (by omega) hbase ?_
  intro v' w' k1 k2 k3
  have hb : Below base W w' := ((Below.refl base W).alloc hbase _).trans (below_of_grown k2 (by simp; omega) (fun y hy => (World.ownsRow.lt hown y hy).1))
  exact h v' w' (by simpa [OwnRuns, GRun.cells] using k1) hb
theorem setRun (rs : List GRun) (r : GRun) : ((rs ++ [r]).flatMap GRun.cells).set (rs.length * 2 + 1) (.int .i64 (r.count + 1)) = (rs ++ [(⟨r.letter, r.count + 1⟩ : GRun)]).flatMap GRun.cells := by
  have hl : ∀ l : List GRun, (l.flatMap GRun.cells).length = l.length * 2 := by
    intro l
    induction l with
    | nil => rfl
    | cons x t ih => simp [ih, GRun.cells]; omega
  rw [List.flatMap_append, List.flatMap_append, List.set_append, if_neg (by rw [hl]; omega), hl]
  congr 1
  rw [show rs.length * 2 + 1 - rs.length * 2 = 1 by omega]
  rfl
theorem getRun (rs : List GRun) (r : GRun) : ((rs ++ [r]).flatMap GRun.cells)[rs.length * 2 + 1]? = some (.int .i64 r.count) := by
  have hl : ∀ l : List GRun, (l.flatMap GRun.cells).length = l.length * 2 := by
    intro l
    induction l with
    | nil => rfl
    | cons x t ih => simp [ih, GRun.cells]; omega
  rw [List.flatMap_append, List.getElem?_append_right (by rw [hl]; omega), hl, show rs.length * 2 + 1 - rs.length * 2 = 1 by omega]
  rfl
/-- The letters of a word, as texts. -/
theorem word_lets {s : ByteArray} (h : wordOk s = true) (k : Nat) (hk : k < s.size) : isLet (s.extract k (k + 1)) = true := by
  rw [ext_one s k hk]
  have h1 : letOk (s.data.getD k 0) = true := by
    unfold wordOk at h
    simp only [Bool.and_eq_true] at h
    have hk2 : k < s.data.size := hk
    have := List.all_eq_true.1 h.2 (s.data.getD k 0) (by
      rw [Array.getD_eq_getD_getElem?, Array.getElem?_eq_getElem hk2]
      simp)
    exact this
  have h2 : (⟨#[s.data.getD k 0]⟩ : ByteArray).size = 1 := rfl
  rw [← wordOk_one h2]
  simp only [wordOk, Bool.and_eq_true, decide_eq_true_eq]
  refine ⟨by rw [h2]; decide, ?_⟩
  show [s.data.getD k 0].all letOk = true
  simp only [List.all_cons, List.all_nil, h1, Bool.and_true]
set_option maxRecDepth 100000 in
set_option maxHeartbeats 2000000 in
theorem implRuns_any (s : ByteArray) (w : World) (hs : wordOk s = true) :
    Calls Tryd.prog 40 #[.string s] w fun e w' => Below w.heap.size w w' ∧ ∃ v, OwnRuns w' w.heap.size v (runsTo s s.size) ∧ e = .returned (.tuple #[v, .int .i64 0]) := by
  have hsz : s.size ≤ 2000 := by unfold wordOk at hs; simp only [Bool.and_eq_true, decide_eq_true_eq] at hs; omega
  have HS := Lib.hid hs
  clear hs
  go_enter Tryd.func40, Tryd.ntmps40
  go_wp2_with fail
  refine (ValidWord_any s _ (by unfold maxLen; omega)).mono ?_
  rintro e w' ⟨rfl, rfl⟩
  rw [HS.out]
  go_wp2_with fail
  go_loopw [4, 13] (fun out c wx => ∃ (k : Nat) (A : Option Addr) (cA : Nat), k ≤ s.size ∧ out = .slice A (runsTo s k).length cA ∧ c = .int .i64 k ∧ OwnRuns wx w.heap.size (.slice A (runsTo s k).length cA) (runsTo s k) ∧ Below w.heap.size w wx) (fun _ c _ => s.size - (intOf c).toNat)
  case atStart => exact ⟨0, _, _, Nat.zero_le _, rfl, rfl, World.ownsRow_lit _ #[] 0 (Nat.le_refl _) (Nat.zero_le _) rfl, (by repeat (first | exact Below.refl _ _ | (refine Below.alloc ?_ (by first | omega | (simp; done) | (simp; omega)) _) | (refine Below.setCell ?_ (by first | exact Nat.le_refl _ | (show _ ≤ _; omega) | (simp; done) | (simp; omega)) _) | refine below_drewN ?_ _ | refine Below.drew ?_))⟩
  case round =>
    obtain ⟨k, A, cA, hk, rfl, rfl, hown, hb⟩ := hrel
    by_cases hlt : k < s.size
    · have hlen := (runsTo_ok (word_lets HS.out) k (by omega)).2.2
      have hsum := (runsTo_ok (word_lets HS.out) k (by omega)).2.1
      rcases Nat.eq_zero_or_pos k with rfl | hk0
      · have HO := Lib.hid (show OwnRuns wr w.heap.size (.slice A 0 cA) [] from hown)
        have HB := Lib.hid hb
        have HZ := Lib.hid hb.size
        have e0 : runsTo s 1 = [⟨s.extract 0 1, 1⟩] := by simp [runsTo, sameAt]
        have el : (runsTo s 0).length = 0 := rfl
        rw [el]
        clear hown hb hlen hsum el
        go_wp2_with fail
        go_quiet (fail)
        go_wp2_with (first
          | (at_builtin; refine list_push_run (base := w.heap.size) (t := s.extract 0 1) (p := 1) (v := .slice A 0 cA) (l := []) rfl _ _ rfl (by rfl) (by rfl) rfl HO.out (by simp) HZ.out ?_; intro v3 w3 own3 hb3; obtain ⟨A3, c3, rfl, _⟩ := own_nil own3))
        exact ⟨⟨1, A3, c3, by omega, by rw [e0]; rfl, rfl, by rw [e0]; exact own3, (below_drewN HB.out nq).trans hb3⟩, by simp [intOf]; omega⟩
      · obtain ⟨j, hkj⟩ : ∃ j, k = j + 1 := ⟨k - 1, by omega⟩
        obtain ⟨rs, r, hr⟩ : ∃ rs r, runsTo s k = rs ++ [r] := by rw [hkj]; exact runsTo_snoc s j
        have el : (runsTo s k).length = rs.length + 1 := by rw [hr]; simp
        have HO := Lib.hid (show OwnRuns wr w.heap.size (.slice A (rs.length + 1) cA) (rs ++ [r]) by rw [hr] at hown; simpa using hown)
        have HB := Lib.hid hb
        have HZ := Lib.hid hb.size
        have hj : j < s.size := by omega
        have hrl : rs.length + 1 ≤ 2000 := by omega
        have hrc : r.count ≤ 2000 ∧ 0 ≤ r.count := by
          have h1 := (runsTo_ok (word_lets HS.out) k (by omega)).1
          have h2 := runSum_ge h1 r (by rw [hr]; simp)
          have h3 := (h1 r (by rw [hr]; simp)).2
          omega
        obtain ⟨hrc1, hrc0⟩ := hrc
        have w1 : IntKind.i64.wrap ((k : Int) - 1) = (j : Int) := by
          rw [show (k : Int) - 1 = (j : Int) by omega]; exact IntWalk.i64_in _ (by omega)
        rw [el]
        clear hown hb hlen hsum el
        have hg1 : s.data.getD k 0 = s[k] := by rw [Array.getD_eq_getD_getElem?, Array.getElem?_eq_getElem hlt]; rfl
        have hg0 : s.data.getD (k - 1) 0 = s[j] := by rw [show k - 1 = j by omega, Array.getD_eq_getD_getElem?, Array.getElem?_eq_getElem hj]; rfl
        by_cases he : s[k] = s[j]
        · have HE := Lib.hid (show runsTo s (k + 1) = rs ++ [⟨r.letter, r.count + 1⟩] by
            rw [runsTo, if_pos (by simp [sameAt, hg1, hg0, he, hk0]), hr, bumpR_snoc])
          have hq0 : ((rs.length : Int) + 1 == 0) = false := by simp; omega
          have hq1 : ((s[k].toNat : Int) != (s[j].toNat : Int)) = false := by rw [he]; simp
          clear hg1 hg0 hr he hkj
          go_wp2_with fail
          go_quiet (fail)
          obtain ⟨g, c', hv, _⟩ := own_form HO.out (by simp)
          injection hv with hv1 hv2 hv3
          subst hv1 hv3
          clear hv2
          have HX : Hid (wr.ownsRow w.heap.size 60 2 (.slice (some ⟨g, 0, none⟩) (rs.length + 1) cA) (rs.length + 1) ((rs ++ [r]).flatMap GRun.cells)) := by
            have h := HO.out
            unfold OwnRuns at h
            rw [List.length_append] at h
            exact h
          have hcell : wr.cell? ⟨g, rs.length * 2 + 1, none⟩ = some (.int .i64 r.count) := (HX.out.cellAt (rs.length * 2 + 1) (by omega)).trans (getRun rs r)
          have hfz := HX.out.frozenAt (rs.length * 2 + 1)
          have hgl : g < wr.heap.size ∧ w.heap.size ≤ g := ⟨(World.ownsRow.lt HX.out g rfl).2, (World.ownsRow.lt HX.out g rfl).1⟩
          obtain ⟨hgl1, hgl2⟩ := hgl
          have w2 : IntKind.i64.wrap (((rs.length : Int) + 1) - 1) = (rs.length : Int) := by
            rw [show (rs.length : Int) + 1 - 1 = (rs.length : Int) by omega]; exact IntWalk.i64_in _ (by omega)
          have w3 : IntKind.i64.wrap (r.count + 1) = r.count + 1 := IntWalk.i64_in _ (by omega)
          go_wp2_with fail
          have hx := World.ownsRow.stored (show (wr.drewN nq).ownsRow w.heap.size 60 2 (.slice (some ⟨g, 0, none⟩) (rs.length + 1) cA) (rs.length + 1) ((rs ++ [r]).flatMap GRun.cells) from HX.out) (rs.length * 2 + 1) (.int .i64 (r.count + 1))
          rw [setRun] at hx
          exact ⟨⟨k + 1, some ⟨g, 0, none⟩, cA, by omega, by rw [HE.out]; simp, by go_num, by rw [HE.out]; unfold OwnRuns; rw [List.length_append]; exact hx.1, Below.setCell (below_drewN HB.out nq) hgl2 _⟩, by simp [intOf]; omega⟩
        · have HE := Lib.hid (show runsTo s (k + 1) = (rs ++ [r]) ++ [⟨s.extract k (k + 1), 1⟩] by
            rw [runsTo, if_neg (by simp [sameAt, hg1, hg0, he]), hr])
          have hq0 : ((rs.length : Int) + 1 == 0) = false := by simp; omega
          have hq1 : ((s[k].toNat : Int) != (s[j].toNat : Int)) = true := by
            have hen : ¬ (s[k].toNat : Int) = (s[j].toNat : Int) := by
              intro h
              exact he (UInt8.toNat_inj.1 (by omega))
            simpa using hen
          clear hg1 hg0 hr he hkj
          go_wp2_with fail
          go_quiet (fail)
          go_wp2_with (first
            | (at_builtin; refine list_push_run (base := w.heap.size) (t := s.extract k (k + 1)) (p := 1) (v := .slice A (rs.length + 1) cA) (l := rs ++ [r]) rfl _ _ rfl (by rfl) (by rfl) rfl HO.out (by simp; omega) HZ.out ?_; intro v3 w3 own3 hb3; obtain ⟨A3, c3, rfl, _⟩ := own_nil own3))
          exact ⟨⟨k + 1, A3, c3, by omega, by rw [HE.out]; simp, by go_num, by rw [HE.out]; exact own3, (below_drewN HB.out nq).trans hb3⟩, by simp [intOf]; omega⟩
    · have hks : k = s.size := by omega
      subst hks
      have HO := Lib.hid hown
      have HB := Lib.hid hb
      clear hown hb
      go_wp2_with fail
      refine bodyPost_ret (v := .tuple #[.slice A (runsTo s s.size).length cA, .int .i64 0]) (by simp [results, Tryd.results40, go_sem]) rfl ⟨HB.out, _, HO.out, rfl⟩
set_option maxRecDepth 100000 in
set_option maxHeartbeats 2000000 in
theorem specRuns_any (s : ByteArray) (w : World) (hs : wordOk s = true) :
    Calls Tryd.prog 35 #[.string s] w fun e w' => Below w.heap.size w w' ∧ ∃ v, OwnRuns w' w.heap.size v (runsTo s s.size) ∧ e = .returned v := by
  have hsz : s.size ≤ 2000 := by unfold wordOk at hs; simp only [Bool.and_eq_true, decide_eq_true_eq] at hs; omega
  have HS := Lib.hid hs
  clear hs
  go_enter Tryd.func35, Tryd.ntmps35
  go_wp2_with fail
  go_loopw [3, 4] (fun out c wx => ∃ (k : Nat) (A : Option Addr) (cA : Nat), k ≤ s.size ∧ out = .slice A (runsTo s k).length cA ∧ c = .int .i64 k ∧ OwnRuns wx w.heap.size (.slice A (runsTo s k).length cA) (runsTo s k) ∧ Below w.heap.size w wx) (fun _ c _ => s.size - (intOf c).toNat)
  case atStart => exact ⟨0, _, _, Nat.zero_le _, rfl, rfl, World.ownsRow_lit _ #[] 0 (Nat.le_refl _) (Nat.zero_le _) rfl, (by repeat (first | exact Below.refl _ _ | (refine Below.alloc ?_ (by first | omega | (simp; done) | (simp; omega)) _) | (refine Below.setCell ?_ (by first | exact Nat.le_refl _ | (show _ ≤ _; omega) | (simp; done) | (simp; omega)) _) | refine below_drewN ?_ _ | refine Below.drew ?_))⟩
  case round =>
    obtain ⟨k, A, cA, hk, rfl, rfl, hown, hb⟩ := hrel
    by_cases hlt : k < s.size
    · have hlen := (runsTo_ok (word_lets HS.out) k (by omega)).2.2
      have hsum := (runsTo_ok (word_lets HS.out) k (by omega)).2.1
      rcases Nat.eq_zero_or_pos k with rfl | hk0
      · have HO := Lib.hid (show OwnRuns wr w.heap.size (.slice A 0 cA) [] from hown)
        have HB := Lib.hid hb
        have HZ := Lib.hid hb.size
        have e0 : runsTo s 1 = [⟨s.extract 0 1, 1⟩] := by simp [runsTo, sameAt]
        have el : (runsTo s 0).length = 0 := rfl
        rw [el]
        clear hown hb hlen hsum el
        go_wp2_with fail
        go_quiet (fail)
        go_wp2_with (first
          | (at_builtin; refine list_push_run (base := w.heap.size) (t := s.extract 0 1) (p := 1) (v := .slice A 0 cA) (l := []) rfl _ _ rfl (by rfl) (by rfl) rfl HO.out (by simp) HZ.out ?_; intro v3 w3 own3 hb3; obtain ⟨A3, c3, rfl, _⟩ := own_nil own3))
        exact ⟨⟨1, A3, c3, by omega, by rw [e0]; rfl, rfl, by rw [e0]; exact own3, (below_drewN HB.out nq).trans hb3⟩, by simp [intOf]; omega⟩
      · obtain ⟨j, hkj⟩ : ∃ j, k = j + 1 := ⟨k - 1, by omega⟩
        obtain ⟨rs, r, hr⟩ : ∃ rs r, runsTo s k = rs ++ [r] := by rw [hkj]; exact runsTo_snoc s j
        have el : (runsTo s k).length = rs.length + 1 := by rw [hr]; simp
        have HO := Lib.hid (show OwnRuns wr w.heap.size (.slice A (rs.length + 1) cA) (rs ++ [r]) by rw [hr] at hown; simpa using hown)
        have HB := Lib.hid hb
        have HZ := Lib.hid hb.size
        have hj : j < s.size := by omega
        have hrl : rs.length + 1 ≤ 2000 := by omega
        have hrc : r.count ≤ 2000 ∧ 0 ≤ r.count := by
          have h1 := (runsTo_ok (word_lets HS.out) k (by omega)).1
          have h2 := runSum_ge h1 r (by rw [hr]; simp)
          have h3 := (h1 r (by rw [hr]; simp)).2
          omega
        obtain ⟨hrc1, hrc0⟩ := hrc
        have w1 : IntKind.i64.wrap ((k : Int) - 1) = (j : Int) := by
          rw [show (k : Int) - 1 = (j : Int) by omega]; exact IntWalk.i64_in _ (by omega)
        rw [el]
        clear hown hb hlen hsum el
        have hg1 : s.data.getD k 0 = s[k] := by rw [Array.getD_eq_getD_getElem?, Array.getElem?_eq_getElem hlt]; rfl
        have hg0 : s.data.getD (k - 1) 0 = s[j] := by rw [show k - 1 = j by omega, Array.getD_eq_getD_getElem?, Array.getElem?_eq_getElem hj]; rfl
        by_cases he : s[k] = s[j]
        · have HE := Lib.hid (show runsTo s (k + 1) = rs ++ [⟨r.letter, r.count + 1⟩] by
            rw [runsTo, if_pos (by simp [sameAt, hg1, hg0, he, hk0]), hr, bumpR_snoc])
          have hq0 : (0 : Int) < (k : Int) := by omega
          have hq1 : ((s[k].toNat : Int) == (s[j].toNat : Int)) = true := by rw [he]; simp
          clear hg1 hg0 hr he hkj
          go_wp2_with fail
          go_quiet (fail)
          obtain ⟨g, c', hv, _⟩ := own_form HO.out (by simp)
          injection hv with hv1 hv2 hv3
          subst hv1 hv3
          clear hv2
          have HX : Hid (wr.ownsRow w.heap.size 60 2 (.slice (some ⟨g, 0, none⟩) (rs.length + 1) cA) (rs.length + 1) ((rs ++ [r]).flatMap GRun.cells)) := by
            have h := HO.out
            unfold OwnRuns at h
            rw [List.length_append] at h
            exact h
          have hcell : wr.cell? ⟨g, rs.length * 2 + 1, none⟩ = some (.int .i64 r.count) := (HX.out.cellAt (rs.length * 2 + 1) (by omega)).trans (getRun rs r)
          have hfz := HX.out.frozenAt (rs.length * 2 + 1)
          have hgl : g < wr.heap.size ∧ w.heap.size ≤ g := ⟨(World.ownsRow.lt HX.out g rfl).2, (World.ownsRow.lt HX.out g rfl).1⟩
          obtain ⟨hgl1, hgl2⟩ := hgl
          have w2 : IntKind.i64.wrap (((rs.length : Int) + 1) - 1) = (rs.length : Int) := by
            rw [show (rs.length : Int) + 1 - 1 = (rs.length : Int) by omega]; exact IntWalk.i64_in _ (by omega)
          have w3 : IntKind.i64.wrap (r.count + 1) = r.count + 1 := IntWalk.i64_in _ (by omega)
          go_wp2_with fail
          have hx := World.ownsRow.stored (show (wr.drewN nq).ownsRow w.heap.size 60 2 (.slice (some ⟨g, 0, none⟩) (rs.length + 1) cA) (rs.length + 1) ((rs ++ [r]).flatMap GRun.cells) from HX.out) (rs.length * 2 + 1) (.int .i64 (r.count + 1))
          rw [setRun] at hx
          exact ⟨⟨k + 1, some ⟨g, 0, none⟩, cA, by omega, by rw [HE.out]; simp, by go_num, by rw [HE.out]; unfold OwnRuns; rw [List.length_append]; exact hx.1, Below.setCell (below_drewN HB.out nq) hgl2 _⟩, by simp [intOf]; omega⟩
        · have HE := Lib.hid (show runsTo s (k + 1) = (rs ++ [r]) ++ [⟨s.extract k (k + 1), 1⟩] by
            rw [runsTo, if_neg (by simp [sameAt, hg1, hg0, he]), hr])
          have hq0 : (0 : Int) < (k : Int) := by omega
          have hq1 : ((s[k].toNat : Int) == (s[j].toNat : Int)) = false := by
            have hen : ¬ (s[k].toNat : Int) = (s[j].toNat : Int) := by
              intro h
              exact he (UInt8.toNat_inj.1 (by omega))
            simpa using hen
          clear hg1 hg0 hr he hkj
          go_wp2_with fail
          go_quiet (fail)
          go_wp2_with (first
            | (at_builtin; refine list_push_run (base := w.heap.size) (t := s.extract k (k + 1)) (p := 1) (v := .slice A (rs.length + 1) cA) (l := rs ++ [r]) rfl _ _ rfl (by rfl) (by rfl) rfl HO.out (by simp; omega) HZ.out ?_; intro v3 w3 own3 hb3; obtain ⟨A3, c3, rfl, _⟩ := own_nil own3))
          exact ⟨⟨k + 1, A3, c3, by omega, by rw [HE.out]; simp, by go_num, by rw [HE.out]; exact own3, (below_drewN HB.out nq).trans hb3⟩, by simp [intOf]; omega⟩
    · have hks : k = s.size := by omega
      subst hks
      have HO := Lib.hid hown
      have HB := Lib.hid hb
      clear hown hb
      go_wp2_with fail
      go_ret
      exact ⟨HB.out, _, HO.out, rfl⟩
end Go.Proofs.YtagpjommhoedlaaDoor

namespace Go.Proofs.YtagpjommhoedlaaDoor
open Go.RowKit

set_option maxRecDepth 100000 in
set_option maxHeartbeats 1000000 in
theorem trimOrLimit_any (v : Value) (xs : List GRule) (w : World) (h : Sl RuleE w w.heap.size v xs) (hn : xs.length ≤ 1048576) (hok : OkAll xs) :
    Calls Tryd.prog 41 #[.agg #[v]] w (GRes (tolOut xs) (tolCode xs) w) := by
  have HG := Lib.hid h
  have HOK := Lib.hid hok
  obtain ⟨A, c, rfl, _⟩ := h
  clear hok
  by_cases hl : 400 < xs.length
  · have hi : (400 : Int) < (xs.length : Int) := by omega
    have HQ := Lib.hid (show tolOut xs = [] ∧ tolCode xs = 3 by unfold tolOut tolCode; rw [if_pos hl, if_pos hl]; exact ⟨rfl, rfl⟩)
    go_enter Tryd.func41, Tryd.ntmps41
    go_wp2_with fail
    refine bodyPost_ret (v := .tuple #[.agg #[.slice none 0 0], .int .i64 3]) (by simp [results, Tryd.results41, go_sem]) rfl ⟨(by repeat (first | exact Below.refl _ _ | (refine Below.alloc ?_ (by first | omega | (simp; done) | (simp; omega)) _) | (refine Below.setCell ?_ (by first | exact Nat.le_refl _ | (show _ ≤ _; omega) | (simp; done) | (simp; omega)) _) | refine below_drewN ?_ _ | refine Below.drew ?_)), .slice none 0 0, by rw [HQ.out.1]; exact World.ownsRow_nil _ _ _ _, by rw [HQ.out.2]⟩
  · have hi : ¬ (400 : Int) < (xs.length : Int) := by omega
    have HQ := Lib.hid (show tolOut xs = limOut (trimG xs) ∧ tolCode xs = limCode (trimG xs) by unfold tolOut tolCode; rw [if_neg hl, if_neg hl]; exact ⟨rfl, rfl⟩)
    have hb0 := fun o o' => (((Below.refl w.heap.size w).alloc (Nat.le_refl _) o).alloc (by simp) o')
    go_enter Tryd.func41, Tryd.ntmps41
    go_wp2_with fail
    refine (trimmed_any _ xs _ (HG.out.up (by repeat (first | exact Below.refl _ _ | (refine Below.alloc ?_ (by first | omega | (simp; done) | (simp; omega)) _) | (refine Below.setCell ?_ (by first | exact Nat.le_refl _ | (show _ ≤ _; omega) | (simp; done) | (simp; omega)) _) | refine below_drewN ?_ _ | refine Below.drew ?_))) (by omega) HOK.out).mono ?_
    rintro e w1 ⟨hb_1, v1, own1, rfl⟩
    have Kr_2 : Blk w1 (w.heap.size + 1) #[.slice none 0 0] 26 := by have := (Below.unalloc hb_1).2; simpa [Blk] using this
    replace hb_1 := (Below.unalloc hb_1).1
    have Ka_3 : Blk w1 (w.heap.size) #[.slice A xs.length c] 26 := by have := (Below.unalloc hb_1).2; simpa [Blk] using this
    replace hb_1 := (Below.unalloc hb_1).1
    have z_w1 : w.heap.size ≤ w1.heap.size := hb_1.size
    have KB_4 := Lib.hid hb_1
    have O1 := Lib.hid (show OwnRules w1 (w.heap.size + 2) v1 (trimG xs) from ownsRow_more own1 (base' := w.heap.size + 2) (by simp))
    have htl := trimG_len xs
    clear own1
    go_wp2_with fail
    refine (orLimit_any _ _ (trimG xs) _ O1.out (by omega)).mono ?_
    rintro e w2 ⟨hb_5, v2, own2, rfl⟩
    have z_w2 : w1.heap.size ≤ w2.heap.size := hb_5.size
    have Kr_6 := Blk.up Kr_2 hb_5
    have Ka_7 := Blk.up Ka_3 hb_5
    have KB_8 := Lib.hid (Below.tr KB_4.out hb_5)
    clear hb_1 Kr_2 Ka_3 KB_4
    obtain ⟨A2, c2, rfl, _⟩ := own_nil own2
    have O2 := Lib.hid own2
    have hsz := Below.size KB_8.out
    have lr2 := Blk.lt Kr_6
    clear own2
    have cr0_9 := Blk.cell (i := 0) (v := .slice none 0 0) Kr_6 rfl
    have zr0_10 := Blk.frozen Kr_6 0
    have lr_11 := Blk.lt Kr_6
    go_wp2_with fail
    refine bodyPost_ret (v := .tuple #[.agg #[.slice A2 (limOut (trimG xs)).length c2], .int .i64 (limCode (trimG xs))]) (by simp [results, Tryd.results41, go_sem, cr0_9]) rfl ⟨Below.setCell KB_8.out (show w.heap.size ≤ w.heap.size + 1 by omega) _, _, ?_, by rw [HQ.out.2]⟩
    rw [HQ.out.1]
    exact ownsRow_more (ownsRow_setCell_below O2.out (a := ⟨w.heap.size + 1, 0, none⟩) (by show w.heap.size + 1 < _; omega) _) (by omega)
end Go.Proofs.YtagpjommhoedlaaDoor

namespace Go.Proofs.YtagpjommhoedlaaDoor
open Go.RowKit

theorem cellsRun {rs : List GRun} {k : Nat} {r : GRun} (h : rs[k]? = some r) : (rs.flatMap GRun.cells)[k * 2]? = some (.string r.letter) ∧ (rs.flatMap GRun.cells)[k * 2 + 1]? = some (.int .i64 r.count) := by
  induction rs generalizing k with
  | nil => simp at h
  | cons x t ih =>
    cases k with
    | zero => simp at h; subst h; exact ⟨rfl, rfl⟩
    | succ k =>
      have := ih (k := k) (by simpa using h)
      rw [show (k + 1) * 2 = k * 2 + 2 by omega, List.flatMap_cons]
      exact ⟨by rw [List.getElem?_append_right (by simp [GRun.cells])]; simpa [GRun.cells] using this.1, by rw [show k * 2 + 2 + 1 = (k * 2 + 1) + 2 by omega, List.getElem?_append_right (by simp [GRun.cells])]; simpa [GRun.cells] using this.2⟩
theorem OwnRuns.at {w : World} {base g cap : Nat} {rs : List GRun} (h : OwnRuns w base (.slice (some ⟨g, 0, none⟩) rs.length cap) rs) {k : Nat} {r : GRun} (hk : rs[k]? = some r) :
    w.cell? ⟨g, k * 2, none⟩ = some (.string r.letter) ∧ w.cell? ⟨g, k * 2 + 1, none⟩ = some (.int .i64 r.count) ∧ g < w.heap.size := by
  have hlt : k < rs.length := (List.getElem?_eq_some_iff.1 hk).1
  obtain ⟨c0, c1⟩ := cellsRun hk
  exact ⟨(World.ownsRow.cellAt h (k * 2) (by omega)).trans c0, (World.ownsRow.cellAt h (k * 2 + 1) (by omega)).trans c1, (World.ownsRow.lt h g rfl).2⟩
theorem implRunsBad_any (s : ByteArray) (w : World) (hs : wordOk s = false) (hsz : s.size ≤ maxLen) :
    Calls Tryd.prog 40 #[.string s] w fun e w' => w = w' ∧ e = .returned (.tuple #[.slice none 0 0, .int .i64 1]) := by
  have HS := Lib.hid hs
  clear hs
  go_enter Tryd.func40, Tryd.ntmps40
  go_wp2_with fail
  refine (ValidWord_any s _ hsz).mono ?_
  rintro e w' ⟨rfl, rfl⟩
  rw [HS.out]
  go_wp2_with fail
  exact bodyPost_ret (v := .tuple #[.slice none 0 0, .int .i64 1]) (by simp [results, Tryd.results40, go_sem]) rfl ⟨rfl, rfl⟩
structure RnJ (w1 wx : World) (AG : Option Addr) (cG : Nat) (G : List GRule) : Prop where
  bel : Below w1.heap.size w1 wx
  box : Blk wx w1.heap.size #[.slice AG G.length cG] 26
  own : OwnRules wx (w1.heap.size + 1) (.slice AG G.length cG) G
theorem RnJ.up {w1 wx w' : World} {AG : Option Addr} {cG : Nat} {G : List GRule} (h : RnJ w1 wx AG cG G) (hb : Below wx.heap.size wx w') : RnJ w1 w' AG cG G :=
  ⟨Below.tr h.bel hb, h.box.up hb, OwnRules.below h.own hb⟩
theorem RnJ.put {w1 wx : World} {AG A' : Option Addr} {cG c' N : Nat} {G G' : List GRule} (h : RnJ w1 wx AG cG G) (own : OwnRules wx N (.slice A' G'.length c') G') (hN : w1.heap.size < N) :
    RnJ w1 (wx.setCell ⟨w1.heap.size, 0, none⟩ (.slice A' G'.length c')) A' c' G' :=
  ⟨Below.setCell h.bel (Nat.le_refl _) _, Blk.set h.box 0 _, ownsRow_more (ownsRow_setCell_below own (a := ⟨w1.heap.size, 0, none⟩) hN _) (by omega)⟩
theorem keepR3 {W w' : World} {p q : Nat} {v u0 u1 : Value} {t t' : TypeId} (k1 : Blk W p #[v] t) (k2 : Blk W q #[u0, u1] t') (h : Below W.heap.size W w') :
    Below W.heap.size W w' ∧ w'.cell? ⟨p, 0, none⟩ = some v ∧ w'.cell? ⟨q, 0, none⟩ = some u0 ∧ w'.cell? ⟨q, 1, none⟩ = some u1 :=
  ⟨h, Blk.cell (i := 0) (Blk.up k1 h) rfl, Blk.cell (i := 0) (Blk.up k2 h) rfl, Blk.cell (i := 1) (Blk.up k2 h) rfl⟩
set_option maxRecDepth 100000 in
set_option maxHeartbeats 4000000 in
theorem implRunsG_any (s : ByteArray) (w : World) (hsz : s.size ≤ maxLen) (htab : Lib.TabIs Tryd.prog w "math/bits.deBruijn64tab" .u8 deB64) :
    Calls Tryd.prog 16 #[.string s] w (GRes (runOut s) (runCode s) w) := by
  have HT := Lib.hid htab
  clear htab
  cases hok : wordOk s with
  | false =>
    have HQ := Lib.hid (runOut_bad hok)
    go_enter Tryd.func16, Tryd.ntmps16
    go_wp2_with fail
    refine (implRunsBad_any s _ hok hsz).mono ?_
    rintro e w1 ⟨rfl, rfl⟩
    go_wp2_with fail
    go_loopw [5, 17] (fun cd i wx => cd = .int .i64 1 ∧ i = .int .i64 0 ∧ Below w.heap.size w wx ∧ Blk wx w.heap.size #[.slice none 0 0] 26 ∧ Blk wx (w.heap.size + 1) #[.slice none 0 0] 26) (fun _ _ _ => 0)
    case atStart =>
      refine ⟨rfl, rfl, (by repeat (first | exact Below.refl _ _ | (refine Below.alloc ?_ (by first | omega | (simp; done) | (simp; omega)) _) | (refine Below.setCell ?_ (by first | exact Nat.le_refl _ | (show _ ≤ _; omega) | (simp; done) | (simp; omega)) _) | refine below_drewN ?_ _ | refine Below.drew ?_)), ?_, ?_⟩
      · repeat (first | (apply Blk.new'; simp; done) | apply Blk.alloc | apply Blk.drew)
      · repeat (first | (apply Blk.new'; simp; done) | apply Blk.alloc | apply Blk.drew)
    case round =>
      obtain ⟨rfl, rfl, hb, kr, kg⟩ := hrel
      have HB := Lib.hid hb
      have cr := Blk.cell (i := 0) (v := .slice none 0 0) kr rfl
      have zr := Blk.frozen kr 0
      have lr := Blk.lt kr
      have cg := Blk.cell (i := 0) (v := .slice none 0 0) kg rfl
      have lg := Blk.lt kg
      clear hb kr kg
      go_wp2_with fail
      refine bodyPost_ret (v := .tuple #[.agg #[.slice none 0 0], .int .i64 1]) (by simp [results, Tryd.results16, go_sem, cr]) rfl ⟨Below.setCell HB.out (Nat.le_refl _) _, .slice none 0 0, by rw [HQ.out.1]; exact World.ownsRow_nil _ _ _ _, by rw [HQ.out.2]⟩
  | true =>
    have HOK := Lib.hid hok
    obtain ⟨hro, hsum, hlen⟩ := runsTo_ok (word_lets hok) s.size (Nat.le_refl _)
    have hs2 : s.size ≤ 2000 := by unfold wordOk at hok; simp only [Bool.and_eq_true, decide_eq_true_eq] at hok; omega
    obtain ⟨rs, hrs⟩ : ∃ rs, runsTo s s.size = rs := ⟨_, rfl⟩
    have HRS := Lib.hid hrs
    rw [hrs] at hro hsum hlen
    have HRO := Lib.hid hro
    have HSU := Lib.hid hsum
    clear hok hro hsum hrs
    go_enter Tryd.func16, Tryd.ntmps16
    go_wp2_with fail
    refine (implRuns_any s _ HOK.out).mono ?_
    rintro e w1 ⟨hb1, v, own, rfl⟩
    rw [HRS.out] at own
    have KR : Blk w1 w.heap.size #[.slice none 0 0] 26 := by have := (Below.unalloc hb1).2; simpa [Blk] using this
    replace hb1 := (Below.unalloc hb1).1
    have hw1 := KR.lt
    have HB1 := Lib.hid hb1
    have HKR := Lib.hid KR
    obtain ⟨Ar, cr, rfl, _⟩ := own_nil own
    have HOR := Lib.hid own
    clear own hb1 KR
    go_wp2_with fail
    go_loopw [5, 17] (fun cd i wx => ∃ (k : Nat) (G : List GRule) (AG : Option Addr) (cG : Nat), k ≤ rs.length ∧ cd = .int .i64 0 ∧ i = .int .i64 k ∧ Hid (runRun G (rs.drop k) = runRun [] rs) ∧ Hid (gramOk G = true ∧ gramLen G = runSum (rs.take k)) ∧ Hid (RnJ w1 wx AG cG G)) (fun _ i _ => rs.length - (intOf i).toNat)
    case atStart =>
      refine ⟨0, [], none, 0, Nat.zero_le _, rfl, rfl, Lib.hid rfl, Lib.hid ⟨rfl, rfl⟩, Lib.hid ⟨(by repeat (first | exact Below.refl _ _ | (refine Below.alloc ?_ (by first | omega | (simp; done) | (simp; omega)) _) | (refine Below.setCell ?_ (by first | exact Nat.le_refl _ | (show _ ≤ _; omega) | (simp; done) | (simp; omega)) _) | refine below_drewN ?_ _ | refine Below.drew ?_)), ?_, World.ownsRow_nil _ _ _ _⟩⟩
      repeat (first | (apply Blk.new'; simp; done) | apply Blk.alloc | apply Blk.drew)
    case round =>
      obtain ⟨k, G, AG, cG, hk, rfl, rfl, HFR, HGO, HJ⟩ := hrel
      by_cases hlt : k < rs.length
      · obtain ⟨r, hr⟩ : ∃ r, rs[k]? = some r := ⟨_, List.getElem?_eq_getElem hlt⟩
        have HORk := ownsRow_below HOR.out HJ.out.bel
        obtain ⟨rl, rc⟩ := r
        have hrok := HRO.out _ (List.mem_of_getElem? hr)
        obtain ⟨nr, rfl⟩ := Int.eq_ofNat_of_zero_le (show 0 ≤ rc by have := hrok.2; simp at this; omega)
        obtain ⟨gr, cr', hv, _⟩ := own_form HORk (by omega)
        injection hv with hv1 hv2 hv3
        subst hv1 hv3
        clear hv2
        obtain ⟨hc0, hc1, hgl⟩ := OwnRuns.at HORk hr
        have hsr := runSum_step hr
        have hst := runSum_take HRO.out (k + 1)
        have hst0 := runSum_take HRO.out k
        obtain ⟨t1, t2, t3, t4⟩ := run_tol HGO.out.1 HGO.out.2 hrok (by have := HSU.out; have := hst.2; rw [← hsr]; omega) hst0.1
        have hcnt : nr ≤ 2000 := by have := HSU.out; have := hst.2; simp only at hsr; omega
        have hwl : wordOk rl = true := by rw [wordOk_one (isLet_size hrok.1)]; exact hrok.1
        have HWL := Lib.hid hwl
        obtain ⟨P, hP⟩ : ∃ P, plainG rl = P := ⟨_, rfl⟩
        have hPl : P.length ≤ 5 := by have h1 := plainG_len rl; have h2 := isLet_size hrok.1; have h3 : rl.size = 1 := h2; rw [hP] at h1; omega
        have HPl := Lib.hid (show P.length ≤ 1048576 by omega)
        obtain ⟨Q, hQ⟩ : ∃ Q, runPart ⟨rl, (nr : Int)⟩ = Q := ⟨_, rfl⟩
        have HPQ := Lib.hid (show powG P nr = Q by rw [← hQ, ← hP]; rfl)
        have HP := Lib.hid hP
        have hQl := (runPart_lens hrok (by simp only; omega)).2
        have hG4 := gram_len400 HGO.out.1
        rw [hQ] at t1 t2 t3 t4 hQl
        obtain ⟨J, hJ⟩ : ∃ J, joinG G Q = J := ⟨_, rfl⟩
        have HJQ := Lib.hid hJ
        rw [hJ] at t2 t3 t4
        obtain ⟨X, hX⟩ : ∃ X, tolOut J = X := ⟨_, rfl⟩
        obtain ⟨cd, hcd⟩ : ∃ cd, tolCode J = cd := ⟨_, rfl⟩
        have HTO : Hid (∀ v w', Sl RuleE w' w'.heap.size v J → Calls Tryd.prog 41 #[.agg #[v]] w' (GRes X cd w')) := by
          intro v w' h
          rw [← hX, ← hcd]
          exact trimOrLimit_any v J w' h (by omega) t2
        have HT4 := Lib.hid t4
        rw [hX, hcd] at HT4
        have HSR := Lib.hid hsr
        have HST := Lib.hid (runRun_step (g := G) hr)
        rw [HFR.out] at HST
        have HT1 := Lib.hid t1
        have hGl : G.length ≤ 1048576 := by omega
        have hQl2 : Q.length ≤ 1048576 := by omega
        have HHR := Lib.hid hr
        have hik : (k : Int) < (rs.length : Int) := by omega
        have hcn : nr < 1152921504606846976 := by omega
        have ba := fun o => (Below.refl wr.heap.size wr).alloc (Nat.le_refl _) o
        have HBA := Lib.hid ba
        clear t1 t2 t3 t4 hP hQ hJ hX hcd hsr hst hst0 hr hrok HFR HORk hwl ba
        have cg0 := Blk.cell (i := 0) (v := .slice AG G.length cG) HJ.out.box rfl
        have lg0 := Blk.lt HJ.out.box
        go_upto_region 6 with fail
        have J2 := Lib.hid (HJ.out.up (HBA.out (.cells #[.string rl, .int .i64 nr] 60)))
        have K2 := Lib.hid (Blk.new wr #[.string rl, .int .i64 nr] 60)
        have B2 := Lib.hid (HBA.out (.cells #[.string rl, .int .i64 nr] 60))
        have Z2 : (wr.alloc (.cells #[.string rl, .int .i64 nr] 60)).heap.size = wr.heap.size + 1 := by simp
        revert J2 K2 B2 Z2
        generalize (wr.alloc (.cells #[.string rl, .int .i64 nr] 60)) = W
        intro J2 K2 B2 Z2
        clear HBA HJ hc0 hc1 cg0 lg0
        have KD := keepR3 J2.out.box K2.out (Below.drew (Below.refl W.heap.size W))
        have HKJ := Lib.hid (fun (W' : World) (h : Below W.heap.size W W') => keepR3 J2.out.box K2.out h)
        have HTW := Lib.hid (tabB (tabB HT.out HB1.out) J2.out.bel)
        have cg1 := KD.2.1
        have cr0 := KD.2.2.1
        have cr1 := KD.2.2.2
        have lg1 := Blk.lt J2.out.box
        have lr1 := Blk.lt K2.out
        clear KD
        have hX1 : X.length ≤ 600 := by
          rcases HT4.out with ⟨_, h2, _⟩ | ⟨_, h2, _, h4, _⟩
          · rw [h2]; simp
          · rw [← h2] at h4; have := gram_len400 h4; omega
        go_cut [5] from 21 to 32 (fun cv wx => ∃ (A4 : Option Addr) (c4 : Nat), cv = .int .i64 cd ∧ RnJ w1 wx A4 c4 X)
        case first =>
          go_region_law (first
            | ((first | (go_at_call 42) | (go_simp; go_at_call 42)); (refine (plain_any rl _ HWL.out).mono ?_); rintro e t1 ⟨hb1, v1, own1, rfl⟩; have b1 : Below W.heap.size W t1 := Below.undrew hb1; rw [HP.out] at own1; obtain ⟨A1, c1, rfl, _⟩ := own_nil own1; have cg2 := (HKJ.out _ b1).2.1; have cr2 := (HKJ.out _ b1).2.2.2)
            | ((first | (go_at_call 27) | (go_simp; go_at_call 27)); (refine (power_any _ P nr _ (OwnRules.sl own1) HPl.out hcn (tabB HTW.out b1)).mono ?_); rintro e t2 ⟨hb2, v2, own2, rfl⟩; have b2 := Below.tr b1 hb2; rw [HPQ.out] at own2; obtain ⟨A2, c2, rfl, _⟩ := own_nil own2; have cg3 := (HKJ.out _ b2).2.1)
            | ((first | (go_at_call 25) | (go_simp; go_at_call 25)); (refine (join_any _ _ G Q _ (OwnRules.sl (OwnRules.below J2.out.own b2)) (OwnRules.sl own2) hGl hQl2 HT1.out).mono ?_); rintro e t3 ⟨hb3, v3, own3, rfl⟩; have b3 := Below.tr b2 hb3; rw [HJQ.out] at own3; obtain ⟨A3, c3, rfl, _⟩ := own_nil own3)
            | ((first | (go_at_call 41) | (go_simp; go_at_call 41)); (refine (HTO.out _ _ (OwnRules.sl own3)).mono ?_); rintro e t4 ⟨hb4, v4, own4, rfl⟩; have b4 := Below.tr b3 hb4; obtain ⟨A4, c4, rfl, _⟩ := own_nil own4; have hfz := Blk.frozen (Blk.up J2.out.box b4) 0; have hcl := Blk.cell (i := 0) (Blk.up J2.out.box b4) rfl; have hll := Blk.lt (Blk.up J2.out.box b4)))
          all_goals
            go_wp2_with fail
            go_meet
            exact ⟨A4, c4, rfl, RnJ.put (J2.out.up b4) own4 (Nat.lt_of_lt_of_le lg1 b3.size)⟩
        case rest =>
          revert hcut
          generalize wc = w4
          intro hcut
          obtain ⟨A4, c4, rfl, HJ4⟩ := hcut
          have HJ4 := Lib.hid HJ4
          have cg4 := Blk.cell (i := 0) (v := .slice A4 X.length c4) HJ4.out.box rfl
          have zg4 := Blk.frozen HJ4.out.box 0
          have lg4 := Blk.lt HJ4.out.box
          have KRx := HKR.out.up HJ4.out.bel
          have cr4 := Blk.cell (i := 0) (v := .slice none 0 0) KRx rfl
          have zr4 := Blk.frozen KRx 0
          have lr4 := Blk.lt KRx
          have HB4 := Lib.hid (Below.tr HB1.out HJ4.out.bel)
          clear KRx cg1 cr0 cr1 lg1 lr1
          rcases HT4.out with ⟨s1, s2, s3⟩ | ⟨s1, s2, s3, s4, s5⟩
          · rw [s3]
            have HQQ := Lib.hid (runOut_none HOK.out (by rw [HRS.out, HST.out, s1]))
            clear s1 s2 s3
            go_wp2_with fail
            refine bodyPost_ret (v := .tuple #[.agg #[.slice none 0 0], .int .i64 3]) (by simp [results, Tryd.results16, go_sem, cr4]) rfl ⟨Below.setCell HB4.out (Nat.le_refl _) _, .slice none 0 0, by rw [HQQ.out.1]; exact World.ownsRow_nil _ _ _ _, by rw [HQQ.out.2]⟩
          · rw [s3]
            have HRUN := Lib.hid (show runRun X (rs.drop (k + 1)) = runRun [] rs by rw [HST.out, s1, s2])
            rw [← s2] at s4 s5
            have HGG := Lib.hid (And.intro s4 s5)
            clear s1 s2 s3 s4 s5
            go_wp2_with fail
            exact ⟨⟨k + 1, X, A4, c4, by omega, rfl, by go_num, HRUN, Lib.hid ⟨HGG.out.1, by rw [HGG.out.2, HSR.out]⟩, HJ4⟩, by simp [intOf]; omega⟩
      · have hkn : k = rs.length := by omega
        subst hkn
        have hrn := HFR.out
        rw [List.drop_length] at hrn
        have HQQ := Lib.hid (runOut_some HOK.out (by rw [HRS.out, ← hrn]; rfl))
        clear hrn
        have KRx := HKR.out.up HJ.out.bel
        have cr4 := Blk.cell (i := 0) (v := .slice none 0 0) KRx rfl
        have zr4 := Blk.frozen KRx 0
        have lr4 := Blk.lt KRx
        have cg0 := Blk.cell (i := 0) (v := .slice AG G.length cG) HJ.out.box rfl
        have lg0 := Blk.lt HJ.out.box
        have HB4 := Lib.hid (Below.tr HB1.out HJ.out.bel)
        clear KRx
        go_wp2_with fail
        refine bodyPost_ret (v := .tuple #[.agg #[.slice AG G.length cG], .int .i64 0]) (by simp [results, Tryd.results16, go_sem, cr4]) rfl ⟨Below.setCell HB4.out (Nat.le_refl _) _, _, ?_, by rw [HQQ.out.2]⟩
        rw [HQQ.out.1]
        exact ownsRow_more (ownsRow_setCell_below HJ.out.own (a := ⟨w.heap.size, 0, none⟩) (by show w.heap.size < w1.heap.size + 1; omega) _) (by omega)
end Go.Proofs.YtagpjommhoedlaaDoor

namespace Go.Proofs.YtagpjommhoedlaaDoor
open Go.RowKit

theorem gram_smallR {xs : List GRule} (h : gramOk xs = true) : SmallL xs := by
  obtain ⟨_, ls, hl⟩ := gram_lens h
  exact fun r hr => Nat.le_trans (okAll_small (okAll_lens hl) r hr) (by decide)
theorem keepR2 {W w' : World} {g k : Nat} {u0 u1 : Value} (c0 : W.cell? ⟨g, k * 2, none⟩ = some u0) (c1 : W.cell? ⟨g, k * 2 + 1, none⟩ = some u1) (hg : g < W.heap.size) (h : Below W.heap.size W w') :
    Below W.heap.size W w' ∧ w'.cell? ⟨g, k * 2, none⟩ = some u0 ∧ w'.cell? ⟨g, k * 2 + 1, none⟩ = some u1 :=
  ⟨h, (h.cell (p := ⟨g, k * 2, none⟩) hg).trans c0, (h.cell (p := ⟨g, k * 2 + 1, none⟩) hg).trans c1⟩
set_option maxRecDepth 100000 in
set_option maxHeartbeats 4000000 in
theorem specRunsG_any (s : ByteArray) (w : World) (hsz : s.size ≤ maxLen) :
    Calls Tryd.prog 15 #[.string s] w (GRes (runOut s) (runCode s) w) := by
  cases hok : wordOk s with
  | false =>
    have HQ := Lib.hid (runOut_bad hok)
    go_enter Tryd.func15, Tryd.ntmps15
    go_wp2_with fail
    refine (l01Ok_any s _ hsz).mono ?_
    rintro e w1 ⟨rfl, rfl⟩
    rw [hok]
    go_wp2_with fail
    refine bodyPost_ret (v := .tuple #[.agg #[.slice none 0 0], .int .i64 1]) (by simp [results, Tryd.results15, go_sem]) rfl ⟨(by repeat (first | exact Below.refl _ _ | (refine Below.alloc ?_ (by first | omega | (simp; done) | (simp; omega)) _) | (refine Below.setCell ?_ (by first | exact Nat.le_refl _ | (show _ ≤ _; omega) | (simp; done) | (simp; omega)) _) | refine below_drewN ?_ _ | refine Below.drew ?_)), .slice none 0 0, by rw [HQ.out.1]; exact World.ownsRow_nil _ _ _ _, by rw [HQ.out.2]⟩
  | true =>
    have HOK := Lib.hid hok
    obtain ⟨hro, hsum, hlen⟩ := runsTo_ok (word_lets hok) s.size (Nat.le_refl _)
    have hs2 : s.size ≤ 2000 := by unfold wordOk at hok; simp only [Bool.and_eq_true, decide_eq_true_eq] at hok; omega
    obtain ⟨rs, hrs⟩ : ∃ rs, runsTo s s.size = rs := ⟨_, rfl⟩
    have HRS := Lib.hid hrs
    rw [hrs] at hro hsum hlen
    have HRO := Lib.hid hro
    have HSU := Lib.hid hsum
    clear hok hro hsum hrs
    go_enter Tryd.func15, Tryd.ntmps15
    go_wp2_with fail
    refine (l01Ok_any s _ hsz).mono ?_
    rintro e w1 ⟨rfl, rfl⟩
    rw [HOK.out]
    go_wp2_with fail
    refine (specRuns_any s _ HOK.out).mono ?_
    rintro e w1 ⟨hb1, v, own, rfl⟩
    rw [HRS.out] at own
    have KR : Blk w1 w.heap.size #[.slice none 0 0] 26 := by have := (Below.unalloc hb1).2; simpa [Blk] using this
    replace hb1 := (Below.unalloc hb1).1
    have hw1 := KR.lt
    have HB1 := Lib.hid hb1
    have HKR := Lib.hid KR
    obtain ⟨Ar, cr, rfl, _⟩ := own_nil own
    have HOR := Lib.hid own
    clear own hb1 KR
    go_wp2_with fail
    go_loopw [6] (fun i wx => ∃ (k : Nat) (G : List GRule) (AG : Option Addr) (cG : Nat), k ≤ rs.length ∧ i = .int .i64 k ∧ Hid (runRun G (rs.drop k) = runRun [] rs) ∧ Hid (gramOk G = true ∧ gramLen G = runSum (rs.take k)) ∧ Hid (RnJ w1 wx AG cG G)) (fun i _ => rs.length - (intOf i).toNat)
    case atStart =>
      refine ⟨0, [], none, 0, Nat.zero_le _, rfl, Lib.hid rfl, Lib.hid ⟨rfl, rfl⟩, Lib.hid ⟨(by repeat (first | exact Below.refl _ _ | (refine Below.alloc ?_ (by first | omega | (simp; done) | (simp; omega)) _) | (refine Below.setCell ?_ (by first | exact Nat.le_refl _ | (show _ ≤ _; omega) | (simp; done) | (simp; omega)) _) | refine below_drewN ?_ _ | refine Below.drew ?_)), ?_, World.ownsRow_nil _ _ _ _⟩⟩
      repeat (first | (apply Blk.new'; simp; done) | apply Blk.alloc | apply Blk.drew)
    case round =>
      obtain ⟨k, G, AG, cG, hk, rfl, HFR, HGO, HJ⟩ := hrel
      by_cases hlt : k < rs.length
      · obtain ⟨r, hr⟩ : ∃ r, rs[k]? = some r := ⟨_, List.getElem?_eq_getElem hlt⟩
        have HORk := ownsRow_below HOR.out HJ.out.bel
        obtain ⟨rl, rc⟩ := r
        have hrok := HRO.out _ (List.mem_of_getElem? hr)
        obtain ⟨nr, rfl⟩ := Int.eq_ofNat_of_zero_le (show 0 ≤ rc by have := hrok.2; simp at this; omega)
        obtain ⟨gr, cr', hv, _⟩ := own_form HORk (by omega)
        injection hv with hv1 hv2 hv3
        subst hv1 hv3
        clear hv2
        obtain ⟨hc0, hc1, hgl⟩ := OwnRuns.at HORk hr
        have hsr := runSum_step hr
        have hst := runSum_take HRO.out (k + 1)
        have hst0 := runSum_take HRO.out k
        obtain ⟨t1, t2, t3, t4⟩ := run_tol HGO.out.1 HGO.out.2 hrok (by have := HSU.out; have := hst.2; rw [← hsr]; omega) hst0.1
        have hcnt : nr ≤ 2000 := by have := HSU.out; have := hst.2; simp only at hsr; omega
        have hwl : wordOk rl = true := by rw [wordOk_one (isLet_size hrok.1)]; exact hrok.1
        have HWL := Lib.hid hwl
        obtain ⟨P, hP⟩ : ∃ P, plainG rl = P := ⟨_, rfl⟩
        have hPl : P.length ≤ 5 := by have h1 := plainG_len rl; have h2 := isLet_size hrok.1; have h3 : rl.size = 1 := h2; rw [hP] at h1; omega
        have HPl := Lib.hid (show P.length ≤ 1048576 by omega)
        obtain ⟨Q, hQ⟩ : ∃ Q, runPart ⟨rl, (nr : Int)⟩ = Q := ⟨_, rfl⟩
        have HPQ := Lib.hid (show powG P nr = Q by rw [← hQ, ← hP]; rfl)
        have HP := Lib.hid hP
        have hQl := (runPart_lens hrok (by simp only; omega)).2
        have hG4 := gram_len400 HGO.out.1
        rw [hQ] at t1 t2 t3 t4 hQl
        obtain ⟨J, hJ⟩ : ∃ J, joinG G Q = J := ⟨_, rfl⟩
        have HJQ := Lib.hid hJ
        rw [hJ] at t2 t3 t4
        have HT2 := Lib.hid t2
        have HT4 := Lib.hid t4
        have HSR := Lib.hid hsr
        have HST := Lib.hid (runRun_step (g := G) hr)
        rw [HFR.out] at HST
        have HT1 := Lib.hid t1
        have hGl : G.length ≤ 1048576 := by omega
        have hQl2 : Q.length ≤ 1048576 := by omega
        have HHR := Lib.hid hr
        have hik : (k : Int) < (rs.length : Int) := by omega
        have hcn : nr < 1152921504606846976 := by omega
        have hrA : runAdd G ⟨rl, (nr : Int)⟩ = if 400 < J.length then none else some (trimG J) := by unfold runAdd; rw [hQ, hJ]
        have HRA := Lib.hid hrA
        have hpo : powOut P (nr : Int) = Q ∧ powCode P (nr : Int) = 0 ∧ SmallL P := by
          obtain ⟨⟨l, h1, _⟩, h2⟩ := runPart_lens hrok (by simp only; omega)
          have hp1 := plain_one hrok.1
          have hPg : gramOk P = true := by have h9 := hPl; rw [← hP] at h9 ⊢; simp [gramOk, hp1]; omega
          have hQe : powG P nr = Q := HPQ.out
          have hg : gramOk Q = true := by rw [← hQ]; simp [gramOk, h1]; omega
          have hin : inB (nr : Int) 0 1000000000000000 = true := by simp [inB]; omega
          exact ⟨by simp [powOut, limOut, hPg, hin, hQe, hg], by simp [powCode, limCode, hPg, hin, hQe, hg], gram_smallR hPg⟩
        obtain ⟨hpo1, hpo2, hpo3⟩ := hpo
        have HSP := Lib.hid hpo3
        have HPO := Lib.hid (And.intro hpo1 hpo2)
        have HK2 := Lib.hid (fun (W' : World) (h : Below wr.heap.size wr W') => keepR2 hc0 hc1 hgl h)
        have KD := HK2.out _ (Below.drew (Below.refl wr.heap.size wr))
        clear t1 t2 t3 t4 hP hQ hJ hsr hst hst0 hr hrok HFR HORk hwl hrA hpo1 hpo2 hpo3
        go_upto_region 8 with fail
        clear hc0 hc1
        go_cut [7, 8] from 22 to 36 (fun pv _ wx => ∃ (N : Nat) (A2 : Option Addr) (c2 : Nat), pv = .pointer (some ⟨N, 0, none⟩) ∧ Below wr.heap.size wr wx ∧ Blk wx N #[.slice A2 Q.length c2] 26 ∧ Sl RuleE wx wx.heap.size (.slice A2 Q.length c2) Q)
        case first =>
          go_region_held3 (fun w' => Below wr.heap.size wr w' ∧ w'.cell? ⟨gr, k * 2, none⟩ = some (.string rl) ∧ w'.cell? ⟨gr, k * 2 + 1, none⟩ = some (.int .i64 nr))
            (first | (with_reducible exact KD) | (exact HK2.out _ b2) | (exact HK2.out _ b1) | (exact HK2.out _ (Below.alloc b2 (Below.size b2) _)) | (exact HK2.out _ (Below.alloc b1 (Below.size b1) _)) | (exact HK2.out _ (Below.alloc (Below.drew (Below.refl _ _)) (Nat.le_refl _) _)) | (exact HK2.out _ (Below.setCell (Below.alloc b2 (Below.size b2) _) (Below.size b2) _)) | (exact HK2.out _ (Below.setCell b2 (Nat.le_refl _) _)) | (exact HK2.out _ (Below.setCell b2 (Below.size b1) _)))
            (first
              | (go_at_call 37; (refine (l02Plain_any rl _ HWL.out).mono ?_); rintro e t1 ⟨hb1, v1, own1, rfl⟩; have b1 : Below wr.heap.size wr t1 := (by first | exact Below.undrew hb1 | exact (Below.unalloc (Below.undrew hb1)).1 | exact Below.undrew (Below.unalloc hb1).1); rw [HP.out] at own1; obtain ⟨A1, c1, rfl, _⟩ := own_nil own1)
              | (go_at_call 36; (refine (specPower_any _ P (nr : Int) _ ((OwnRules.sl own1).up (by first | exact Below.refl _ _ | exact Below.alloc (Below.refl _ _) (Nat.le_refl _) _)) HPl.out HSP.out).mono ?_); rintro e t2 ⟨hb2, v2, own2, rfl⟩; have b2 : Below wr.heap.size wr t2 := (by first | exact Below.tr b1 hb2 | exact Below.tr b1 (Below.unalloc hb2).1); rw [HPO.out.1] at own2; rw [HPO.out.2]; obtain ⟨A2, c2, rfl, _⟩ := own_nil own2;
                  (try (have KN : Blk t2 wr.heap.size #[.slice none 0 0] 26 := Blk.up (Blk.up (Blk.new wr.drew #[.slice none 0 0] 26) hb1) hb2; have lN := hb1.size; have cN := Blk.cell (i := 0) (v := .slice none 0 0) KN rfl; have zN := Blk.frozen KN 0; have lN2 := Blk.lt KN));
                  (try (have KM := Blk.up (Blk.new t1 #[.slice none 0 0] 26) hb2; have cM := Blk.cell (i := 0) (v := .slice none 0 0) KM rfl; have zM := Blk.frozen KM 0; have lM := Blk.lt KM))))
          all_goals
            go_wp2_with fail
            go_meet
            first
              | exact ⟨_, A2, c2, rfl, Below.setCell b2 (Nat.le_refl _) _, Blk.set KN 0 _, OwnRules.sl (ownsRow_setCell_below own2 (a := ⟨wr.heap.size, 0, none⟩) (by simp at lN; show wr.heap.size < t1.heap.size; omega) _)⟩
              | exact ⟨_, A2, c2, rfl, Below.setCell b2 (Below.size b1) _, Blk.set KM 0 _, OwnRules.sl (ownsRow_setCell_below own2 (a := ⟨t1.heap.size, 0, none⟩) (by simp) _)⟩
              | exact ⟨_, A2, c2, rfl, Below.alloc b2 (Below.size b2) _, Blk.new t2 _ _, OwnRules.sl (OwnRules.below own2 (Below.alloc (Below.refl _ _) (Nat.le_refl _) _))⟩
        case rest =>
          revert hcut
          generalize wc = w3
          intro hcut
          obtain ⟨N, A2, c2, rfl, hb3, kn, hsl⟩ := hcut
          have J3 := Lib.hid (HJ.out.up hb3)
          have KN := Lib.hid kn
          have HS3 := Lib.hid hsl
          have lN := Blk.lt kn
          have lG := Blk.lt J3.out.box
          have hlw3 : w1.heap.size < w3.heap.size := lG
          have cG3 := Blk.cell (i := 0) (v := .slice AG G.length cG) J3.out.box rfl
          have cN3 := Blk.cell (i := 0) (v := .slice A2 Q.length c2) kn rfl
          clear hb3 kn hsl KD
          go_wp2_with fail
          refine (l02Join_any w1.heap.size 0 N 0 _ _ G Q _ cG3 cN3 lG lN (OwnRules.sl J3.out.own) HS3.out hGl hQl2 HT1.out).mono ?_
          rintro e w7 ⟨hb7, v7, own7, rfl⟩
          rw [HJQ.out] at own7
          obtain ⟨A7, c7, rfl, _⟩ := own_nil own7
          have J7 := Lib.hid (RnJ.put (J3.out.up hb7) own7 hlw3)
          have cG7 := Blk.cell (i := 0) (v := .slice AG G.length cG) (J3.out.up hb7).box rfl
          have zG7 := Blk.frozen (J3.out.up hb7).box 0
          have lG7 := Blk.lt (J3.out.up hb7).box
          clear own7 cG3 cN3
          go_upto_region 10 with fail
          clear cG7 zG7 lG7
          revert J7
          generalize (w7.setCell ⟨w1.heap.size, 0, none⟩ (.slice A7 J.length c7)) = w8
          intro J7
          have cG8 := Blk.cell (i := 0) (v := .slice A7 J.length c7) J7.out.box rfl
          have zG8 := Blk.frozen J7.out.box 0
          have lG8 := Blk.lt J7.out.box
          by_cases h4 : 400 < J.length
          · have hi4 : (400 : Int) < (J.length : Int) := by omega
            have HQQ := Lib.hid (runOut_none HOK.out (by rw [HRS.out, HST.out, HRA.out, if_pos h4]))
            have KRx := HKR.out.up J7.out.bel
            have cr4 := Blk.cell (i := 0) (v := .slice none 0 0) KRx rfl
            have zr4 := Blk.frozen KRx 0
            have lr4 := Blk.lt KRx
            have HB4 := Lib.hid (Below.tr HB1.out J7.out.bel)
            clear KRx
            go_wp2_with fail
            refine bodyPost_ret (v := .tuple #[.agg #[.slice none 0 0], .int .i64 3]) (by simp [results, Tryd.results15, go_sem, cr4]) rfl ⟨Below.setCell HB4.out (Nat.le_refl _) _, .slice none 0 0, by rw [HQQ.out.1]; exact World.ownsRow_nil _ _ _ _, by rw [HQQ.out.2]⟩
          · have hi4 : ¬ (400 : Int) < (J.length : Int) := by omega
            have hs1 : runAdd G ⟨rl, (nr : Int)⟩ = some (trimG J) := by rw [HRA.out, if_neg h4]
            have hrun : runRun (trimG J) (rs.drop (k + 1)) = runRun [] rs := by rw [HST.out, hs1]
            have hgg : gramOk (trimG J) = true ∧ gramLen (trimG J) = runSum (rs.take (k + 1)) := by
              rcases HT4.out with ⟨s1, _⟩ | ⟨_, _, _, s4, s5⟩
              · rw [hs1] at s1; cases s1
              · exact ⟨s4, by rw [s5, HSR.out]⟩
            obtain ⟨X, hX⟩ : ∃ X, trimG J = X := ⟨_, rfl⟩
            have HX := Lib.hid hX
            rw [hX] at hrun hgg
            have HRUN := Lib.hid hrun
            have HGG := Lib.hid hgg
            clear hX hs1 hrun hgg
            have hJl : J.length ≤ 4194304 := by omega
            go_wp2_with fail
            refine (l02Trim_any w1.heap.size 0 _ J _ cG8 lG8 (OwnRules.sl J7.out.own) hJl HT2.out).mono ?_
            rintro e w9 ⟨hb9, v9, own9, rfl⟩
            rw [HX.out] at own9
            obtain ⟨A8, c8, rfl, _⟩ := own_nil own9
            have J9 := Lib.hid (RnJ.put (J7.out.up hb9) own9 lG8)
            have cG9 := Blk.cell (i := 0) (v := .slice A7 J.length c7) (J7.out.up hb9).box rfl
            have zG9 := Blk.frozen (J7.out.up hb9).box 0
            have lG9 := Blk.lt (J7.out.up hb9).box
            clear own9 cG8 zG8
            go_wp2_with fail
            exact ⟨⟨k + 1, X, A8, c8, by omega, by go_num, HRUN, HGG, J9⟩, by simp [intOf]; omega⟩
      · have hkn : k = rs.length := by omega
        subst hkn
        have hrn := HFR.out
        rw [List.drop_length] at hrn
        have HQQ := Lib.hid (runOut_some HOK.out (by rw [HRS.out, ← hrn]; rfl))
        clear hrn
        have KRx := HKR.out.up HJ.out.bel
        have cr4 := Blk.cell (i := 0) (v := .slice none 0 0) KRx rfl
        have zr4 := Blk.frozen KRx 0
        have lr4 := Blk.lt KRx
        have cg0 := Blk.cell (i := 0) (v := .slice AG G.length cG) HJ.out.box rfl
        have lg0 := Blk.lt HJ.out.box
        have HB4 := Lib.hid (Below.tr HB1.out HJ.out.bel)
        clear KRx
        go_wp2_with fail
        refine bodyPost_ret (v := .tuple #[.agg #[.slice AG G.length cG], .int .i64 0]) (by simp [results, Tryd.results15, go_sem, cr4]) rfl ⟨Below.setCell HB4.out (Nat.le_refl _) _, _, ?_, by rw [HQQ.out.2]⟩
        rw [HQQ.out.1]
        exact ownsRow_more (ownsRow_setCell_below HJ.out.own (a := ⟨w.heap.size, 0, none⟩) (by show w.heap.size < w1.heap.size + 1; omega) _) (by omega)
end Go.Proofs.YtagpjommhoedlaaDoor

namespace Go.Proofs.YtagpjommhoedlaaDoor
open Go.RowKit

theorem runOut_ok (s : ByteArray) : gramOk (runOut s) = true := by
  cases hok : wordOk s with
  | false => rw [(runOut_bad hok).1]; rfl
  | true =>
    obtain ⟨h1, h2, _⟩ := runsTo_ok (word_lets hok) s.size (Nat.le_refl _)
    have hs2 : s.size ≤ 2000 := by unfold wordOk at hok; simp only [Bool.and_eq_true, decide_eq_true_eq] at hok; omega
    cases hr : runRun [] (runsTo s s.size) with
    | none => rw [(runOut_none hok hr).1]; rfl
    | some g => rw [(runOut_some hok hr).1]; exact runRun_ok h1 (g := []) (n := 0) rfl rfl (Int.le_refl _) (by omega) hr
set_option maxRecDepth 100000 in
set_option maxHeartbeats 4000000 in
theorem lawRuns_any (s : ByteArray) (w : World) (hsz : s.size ≤ maxLen) (htab : Lib.TabIs Tryd.prog w "math/bits.deBruijn64tab" .u8 deB64) :
    Calls Tryd.prog 4 #[.string s] w fun r w' => r = .returned (.bool true) ∧ Below w.heap.size w w' := by
  have HT := Lib.hid htab
  clear htab
  by_cases hbig : 1048576 < s.size
  · have hb2 : (1048576 : Int) < (s.size : Int) := by omega
    go_enter Tryd.func4, Tryd.ntmps4
    go_wp2_with fail
    go_ret
    exact ⟨rfl, Below.refl _ _⟩
  have hb2 : ¬ (1048576 : Int) < (s.size : Int) := by omega
  go_enter Tryd.func4, Tryd.ntmps4
  go_wp2_with fail
  have hgo := runOut_ok s
  have hlo := gram_len400 hgo
  obtain ⟨out, hout⟩ : ∃ out, runOut s = out := ⟨_, rfl⟩
  rw [hout] at hlo
  have HOUT := Lib.hid hout
  clear hgo hout
  refine (specRunsG_any s _ hsz).mono ?_
  rintro e w3 ⟨hb_1, v3, own3, rfl⟩
  have z_w3 : w.heap.size ≤ w3.heap.size := hb_1.size
  have KB_2 := Lib.hid hb_1
  rw [HOUT.out] at own3
  obtain ⟨A3, c3, rfl, _⟩ := own_nil own3
  have KW := Lib.hid (OwnRules.sl own3)
  clear own3
  go_wp2_with fail
  refine (implRunsG_any s _ hsz (tabB HT.out (by repeat (first | exact KB_2.out | (refine Below.alloc ?_ (by first | omega | (simp; done) | (simp; omega)) _) | (refine Below.setCell ?_ (by first | exact Nat.le_refl _ | (show _ ≤ _; omega) | (simp; done) | (simp; omega)) _) | refine below_drewN ?_ _ | refine Below.drew ?_)))).mono ?_
  rintro e w5 ⟨hb_3, v5, own5, rfl⟩
  have Kz_4 : Blk w5 (w3.heap.size) #[.slice A3 out.length c3] 26 := by have := (Below.unalloc hb_3).2; simpa [Blk] using this
  replace hb_3 := (Below.unalloc hb_3).1
  have z_w5 : w3.heap.size ≤ w5.heap.size := hb_3.size
  have KB_5 := Lib.hid (Below.tr KB_2.out hb_3)
  have KW_6 := Lib.hid (SlS.upN KW.out (by omega) hb_3)
  clear hb_1 KB_2 KW
  rw [HOUT.out] at own5
  obtain ⟨A5, c5, rfl, _⟩ := own_nil own5
  have KQ := Lib.hid (OwnR.of (ownsRow_more own5 (base' := w3.heap.size + 1) (by simp)))
  clear own5
  have qc : (runCode s != runCode s) = false := by simp
  have lz5 := Blk.lt Kz_4
  have cz0_7 := Blk.cell (i := 0) (v := .slice A3 out.length c3) Kz_4 rfl
  have lz_8 := Blk.lt Kz_4
  go_wp2_with fail
  refine (eqGrammar_any _ _ out _ (SlS.up (OwnR.sl KQ.out) (by repeat (first | exact Below.refl _ _ | (refine Below.alloc ?_ (by first | omega | (simp; done) | (simp; omega)) _) | (refine Below.setCell ?_ (by first | exact Nat.le_refl _ | (show _ ≤ _; omega) | (simp; done) | (simp; omega)) _) | refine below_drewN ?_ _ | refine Below.drew ?_))) (SlS.le (SlS.below KW_6.out (by repeat (first | exact Below.refl _ _ | (refine Below.alloc ?_ (by first | omega | (simp; done) | (simp; omega)) _) | (refine Below.setCell ?_ (by first | exact Nat.le_refl _ | (show _ ≤ _; omega) | (simp; done) | (simp; omega)) _) | refine below_drewN ?_ _ | refine Below.drew ?_))) (by simp; omega))).mono ?_
  rintro e w6 ⟨rfl, hb_9⟩
  have Kg_10 : Blk w6 (w5.heap.size) #[.slice A5 out.length c5] 26 := by have := (Below.unalloc hb_9).2; simpa [Blk] using this
  replace hb_9 := (Below.unalloc hb_9).1
  have z_w6 : w5.heap.size ≤ w6.heap.size := hb_9.size
  have KB_11 := Lib.hid (Below.tr KB_5.out hb_9)
  have KW_12 := Lib.hid (SlS.upN KW_6.out (by omega) hb_9)
  have Kz_13 := Blk.up Kz_4 hb_9
  have KQ_14 := Lib.hid (OwnR.up KQ.out hb_9)
  clear hb_3 cz0_7 lz_8 KB_5 KW_6 Kz_4 KQ
  have cg0_15 := Blk.cell (i := 0) (v := .slice A5 out.length c5) Kg_10 rfl
  have lg_16 := Blk.lt Kg_10
  go_wp2_with fail
  refine (markGrammar1 _ _ out _ (KQ_14.out).1 (by omega)).mono ?_
  rintro e w11 ⟨rfl, ho_18, hg_17⟩
  have hc_19 := chg_of KQ_14.out hg_17
  have z_w11 : w6.heap.size ≤ w11.heap.size := Chg.size hc_19
  have KB_20 := Lib.hid (Below.chg KB_11.out (by have := Below.size KB_11.out; omega) hc_19 (by omega))
  have KW_21 := Lib.hid (SlS.chgN KW_12.out (by omega) hc_19 (by omega))
  have Kz_22 := Blk.chg Kz_13 hc_19 (by omega)
  have KQ_23 := Lib.hid (OwnR.markedC KQ_14.out ho_18 hc_19)
  have Kg_24 := Blk.chg Kg_10 hc_19 (by omega)
  clear hb_9 cg0_15 lg_16 KB_11 KW_12 Kz_13 KQ_14 Kg_10 ho_18 hg_17 hc_19
  have cg0_25 := Blk.cell (i := 0) (v := .slice A5 out.length c5) Kg_24 rfl
  have lg_26 := Blk.lt Kg_24
  go_wp2_with fail
  refine (heldGrammar1 _ out.length _ (OwnR.sl KQ_23.out) (by omega)).mono ?_
  rintro e w12 ⟨rfl, hb_27⟩
  have z_w12 : w11.heap.size ≤ w12.heap.size := hb_27.size
  have KB_28 := Lib.hid (Below.tr KB_20.out hb_27)
  have KW_29 := Lib.hid (SlS.upN KW_21.out (by omega) hb_27)
  have Kz_30 := Blk.up Kz_22 hb_27
  have KQ_31 := Lib.hid (OwnR.up KQ_23.out hb_27)
  have Kg_32 := Blk.up Kg_24 hb_27
  clear cg0_25 lg_26 KB_20 KW_21 Kz_22 KQ_23 Kg_24
  go_wp2_with fail
  refine (implRunsG_any s _ hsz (tabB HT.out KB_28.out)).mono ?_
  rintro e w14 ⟨hb_33, v14, own14, rfl⟩
  have z_w14 : w12.heap.size ≤ w14.heap.size := hb_33.size
  have KB_34 := Lib.hid (Below.tr KB_28.out hb_33)
  have KW_35 := Lib.hid (SlS.upN KW_29.out (by omega) hb_33)
  have Kz_36 := Blk.up Kz_30 hb_33
  have KQ_37 := Lib.hid (OwnR.up KQ_31.out hb_33)
  have Kg_38 := Blk.up Kg_32 hb_33
  clear hb_27 KB_28 KW_29 Kz_30 KQ_31 Kg_32
  rw [HOUT.out] at own14
  obtain ⟨A14, c14, rfl, _⟩ := own_nil own14
  have KH := Lib.hid (OwnRules.sl own14)
  clear own14
  have cz0_39 := Blk.cell (i := 0) (v := .slice A3 out.length c3) Kz_36 rfl
  have lz_40 := Blk.lt Kz_36
  go_wp2_with fail
  refine (eqGrammar_any _ _ out _ (SlS.le (SlS.below KH.out (by repeat (first | exact Below.refl _ _ | (refine Below.alloc ?_ (by first | omega | (simp; done) | (simp; omega)) _) | (refine Below.setCell ?_ (by first | exact Nat.le_refl _ | (show _ ≤ _; omega) | (simp; done) | (simp; omega)) _) | refine below_drewN ?_ _ | refine Below.drew ?_))) (by simp; done)) (SlS.le (SlS.below KW_35.out (by repeat (first | exact Below.refl _ _ | (refine Below.alloc ?_ (by first | omega | (simp; done) | (simp; omega)) _) | (refine Below.setCell ?_ (by first | exact Nat.le_refl _ | (show _ ≤ _; omega) | (simp; done) | (simp; omega)) _) | refine below_drewN ?_ _ | refine Below.drew ?_))) (by simp; omega))).mono ?_
  rintro e w15 ⟨rfl, hb_41⟩
  have Kh_42 : Blk w15 (w14.heap.size) #[.slice A14 out.length c14] 26 := by have := (Below.unalloc hb_41).2; simpa [Blk] using this
  replace hb_41 := (Below.unalloc hb_41).1
  have z_w15 : w14.heap.size ≤ w15.heap.size := hb_41.size
  have KB_43 := Lib.hid (Below.tr KB_34.out hb_41)
  have KW_44 := Lib.hid (SlS.upN KW_35.out (by omega) hb_41)
  have Kz_45 := Blk.up Kz_36 hb_41
  have KQ_46 := Lib.hid (OwnR.up KQ_37.out hb_41)
  have Kg_47 := Blk.up Kg_38 hb_41
  have KH_48 := Lib.hid (SlS.upN KH.out (by omega) hb_41)
  clear hb_33 cz0_39 lz_40 KB_34 KW_35 Kz_36 KQ_37 Kg_38 KH
  have cg0_49 := Blk.cell (i := 0) (v := .slice A5 out.length c5) Kg_47 rfl
  have lg_50 := Blk.lt Kg_47
  go_wp2_with fail
  refine (heldGrammar1 _ out.length _ (OwnR.sl KQ_46.out) (by omega)).mono ?_
  rintro e w16 ⟨rfl, hb_51⟩
  have z_w16 : w15.heap.size ≤ w16.heap.size := hb_51.size
  have KB_52 := Lib.hid (Below.tr KB_43.out hb_51)
  have KW_53 := Lib.hid (SlS.upN KW_44.out (by omega) hb_51)
  have Kz_54 := Blk.up Kz_45 hb_51
  have KQ_55 := Lib.hid (OwnR.up KQ_46.out hb_51)
  have Kg_56 := Blk.up Kg_47 hb_51
  have KH_57 := Lib.hid (SlS.upN KH_48.out (by omega) hb_51)
  have Kh_58 := Blk.up Kh_42 hb_51
  clear hb_41 cg0_49 lg_50 KB_43 KW_44 Kz_45 KQ_46 Kg_47 KH_48 Kh_42
  go_wp2
  go_ret
  exact ⟨rfl, KB_52.out⟩
end Go.Proofs.YtagpjommhoedlaaDoor

namespace Go.Proofs.YtagpjommhoedlaaDoor
open Go.RowKit Go.WideShapes Go.ChangeShapes
section
variable {H : Type} {enc : TypeId × Value → H} {P : Program}
theorem post_of_below {f : Func} {s : ChangeSpec} {apart fresh handsOn again : Bool} {W W' : World} {args : Array Value} {v : Value} {ds gs : List (DataW H)} {before pa pv : List MemPlace}
    (hW : DataW.Whole enc P f.params.toList s.vars apart W args.toList ds gs before)
    (hres : ∀ (b : Nat) (sp : Nat → Bool) (hd : Bool), DataW.TrodAll enc P W' b sp hd f.resultTypes.toList (v.resultList f.resultTypes.size) (s.fn H (ds ++ gs)).results [])
    (hargs : ∀ sp : Nat → Bool, (∀ p ∈ before, sp p.block = true) → DataW.TrodAll enc P W' 0 sp true f.params.toList args.toList (s.fn H (ds ++ gs)).args pa)
    (hvars : ∀ sp : Nat → Bool, (∀ p ∈ before, sp p.block = true) → DataW.TrodVars enc P W' sp s.vars (s.fn H (ds ++ gs)).vars pv)
    (hps : before = pa ++ pv) (hb : Below W.heap.size W W')
    (hok : ∀ (j : Nat) (t : TypeId) (r : Value), f.resultTypes[j]? = some t → (v.resultList f.resultTypes.size)[j]? = some r → Value.okWide P W' .any 0 t r) :
    s.post enc P f apart fresh handsOn again W args v W' := by
  have hlt : ∀ p ∈ before, p.block < W.heap.size := fun p hp => hW.lt p hp
  have hold : ∀ p ∈ before, (fun b => decide (b < W.heap.size)) p.block = true := fun p hp => by simpa using hlt p hp
  refine ⟨ds, gs, before, [], pa, pv, hW, hres _ _ _, hargs _ hold, hvars _ hold, World.keptBut_mono (fun p hp => ⟨hp, ?_⟩) (hb.frame (· ∈ before)), fun _ => ?_⟩
  · rw [hps, List.mem_append] at hp
    exact Or.inr hp
  · obtain ⟨_, _, _, _, _, hz, hn⟩ := hW
    refine ⟨hok, _, _, ([] ++ pa) ++ pv, ⟨[] ++ pa, pv, trodAll_append (hargs _ (fun _ _ => rfl)) (hres _ _ _), hvars _ (fun _ _ => rfl), rfl, ?_, ?_⟩, ?_⟩
    · intro b off hp
      have hin : MemPlace.cell b off ∈ before := by rw [hps]; simpa using hp
      rw [hb.frozen (hlt _ hin)]
      exact hz b off hin
    · intro ha
      have := hn ha
      rw [hps] at this
      simpa using this
    · intro p hp _
      rw [hps]
      simpa using hp

theorem trodAll_below (hl : laidOutB P = true) {W W' : World} (hb : Below W.heap.size W W') : ∀ {ts : List TypeId} {vs : List Value} {ds : List (DataW H)} {ps : List MemPlace},
    (∀ t ∈ ts, P.readableRec t = true ∧ t < P.types.size) → DataW.TrodAll enc P W 0 (fun _ => true) true ts vs ds ps → (∀ x ∈ ps, x.block < W.heap.size) → ∀ sp : Nat → Bool, (∀ p ∈ ps, sp p.block = true) →
    DataW.TrodAll enc P W' 0 sp true ts vs ds ps
  | [], _, _, _, _, h, _, _, _ => by
    obtain ⟨rfl, rfl, rfl⟩ := trodAll_nil h
    exact trodAll_mk0
  | t :: ts, vs, ds, ps, hts, h, hlt, sp, hsp => by
    obtain ⟨v, vs', d, ds', p, q, rfl, rfl, rfl, h0, r0⟩ := trodAll_cons h
    refine trodAll_cons_mk (WideElems.Trod_stays hl (hts t (by simp)).1 (hts t (by simp)).2 h0 (fun x hx => hb.same (hlt x (by simp [hx]))) (fun x hx => hsp x (by simp [hx]))) ?_
    exact trodAll_below hl hb (fun t ht => hts t (by simp [ht])) r0 (fun x hx => hlt x (by simp [hx])) sp (fun x hx => hsp x (by simp [hx]))
end
theorem laidOut : laidOutB Tryd.prog = true := by kernel_rfl
theorem own : ownKnob Tryd.prog.godebug = none := by kernel_rfl
end Go.Proofs.YtagpjommhoedlaaDoor

namespace Go.Proofs.YtagpjommhoedlaaDoor
open Go.RowKit Go.ChangeShapes Go.WideShapes Go.Deep
section
variable {H : Type} {enc : TypeId × Value → H} {P : Program} {w : World} {base : Nat} {spare : Nat → Bool} {held : Bool}
end
end Go.Proofs.YtagpjommhoedlaaDoor

