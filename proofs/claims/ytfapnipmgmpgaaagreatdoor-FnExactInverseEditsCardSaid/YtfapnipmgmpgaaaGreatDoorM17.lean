import Derived.Test.YtfapnipmgmpgaaaGreatDoorM16
import Derived.Test.YtfapnipmgmpgaaaGreatDoorM1
import Derived.Deep.Slices
import Derived.Deep.Fields
import Derived.Test.YtfapnipmgmpgaaaGreatDoorM3
namespace Go.Proofs.YtfapnipmgmpgaaaGreatDoor
open Go.RowKit Go.ChangeShapes Go.WideShapes Go.Deep
section
variable {H : Type} {enc : TypeId × Value → H} {P : Program} {w : World} {base : Nat} {spare : Nat → Bool} {held : Bool}
theorem open_slice_fields {t e : TypeId} {fs : Array Field} {fuel : Nat} {cs : List Value} {x : DataW H × List MemPlace} (ht : P.underlying t = some (.slice e)) (he : P.underlying e = some (.struct fs))
    (hone : oneCellFields P fs = true) (hC : P.cellsOf e = fs.size) (h : DataW.trod enc P w base spare held fuel t cs = some x) :
    (cs = [.slice none 0 0] ∧ x = (.nil, [])) ∨
    ∃ (a : Addr) (len cap m : Nat) (D : Nat → DataW H) (Pl : Nat → List MemPlace), cs = [.slice (some a) len cap] ∧ base ≤ a.block ∧ len ≤ cap ∧ cap ≤ maxLen ∧ m = (if spare a.block then cap else len) ∧
      x = (.slice ((List.range len).map D) ((List.range (m - len)).map fun j => D (len + j)), MemPlace.row a (m * fs.size) ++ (List.range m).flatMap Pl) ∧
      ∀ i, i < m → ∃ (ys : List (DataW H × List MemPlace)) (n : Nat), D i = .agg (ys.map (·.1)) ∧ Pl i = ys.flatMap (·.2) ∧ ys.length = fs.size ∧
        ∀ (j : Nat) (f : Field), fs[j]? = some f → ∃ (v : Value) (y : DataW H × List MemPlace), w.cell? (a.add (i * fs.size + j)) = some v ∧ ys[j]? = some y ∧ DataW.trod enc P w base spare held n f.type [v] = some y := by
  rcases open_slice ht h with h0 | ⟨a, len, cap, m, n, D, Pl, hcs, hb, hl, hm, hmm, hx, hi⟩
  · exact .inl h0
  · refine .inr ⟨a, len, cap, m, D, Pl, hcs, hb, hl, hm, hmm, by rw [hC] at hx; exact hx, fun i him => ?_⟩
    obtain ⟨cs', hc, ht'⟩ := hi i him
    rw [hC] at hc
    obtain ⟨ys, n', hn', hy, hlen, hyl, hf⟩ := DataW.trod_struct he ht'
    obtain ⟨_, hcl, hat⟩ := World.cells?_some hc
    simp only [Prod.mk.injEq] at hy
    refine ⟨ys, n', hy.1, hy.2, hyl, fun j f hj => ?_⟩
    obtain ⟨ho, hk⟩ := hone_of hone j f hj
    have hjl : j < fs.size := (Array.getElem?_eq_some_iff.1 hj).1
    have hcell := hat j hjl
    have hv : cs'[j]? = some (cs'[j]'(by omega)) := List.getElem?_eq_getElem (by omega)
    have h1 := hf j f hj
    rw [ho, hk] at h1
    have hone' : (cs'.drop j).take 1 = [cs'[j]'(by omega)] := by
      rw [List.drop_eq_getElem_cons (by omega)]
      rfl
    rw [hone'] at h1
    have hys : ys[j]? = some (ys[j]'(by omega)) := List.getElem?_eq_getElem (by omega)
    refine ⟨_, _, ?_, hys, h1.trans hys⟩
    rw [← Go.Deep.add_add, hcell, hv]

theorem add_plain (b o n : Nat) : (⟨b, o, none⟩ : Addr).add n = ⟨b, o + n, none⟩ := by unfold Addr.add; split <;> simp_all
theorem spot_none {a : Addr} {v : Value} (h : w.cell? a = some v) : a = ⟨a.block, a.off, none⟩ ∧ a.block < w.heap.size := by
  have hl := World.block_lt_of_cell? w a h
  refine ⟨?_, hl⟩
  obtain ⟨b, o, s⟩ := a
  unfold World.cell? at h
  cases s with
  | none => rfl
  | some s => split at h <;> simp at h
theorem len_map_range {α : Type} (f : Nat → α) (n : Nat) : ((List.range n).map f).length = n := by simp

theorem open_rules {t e : TypeId} {f0 f1 f2 : Field} {fuel : Nat} {v : Value} {x : DataW H × List MemPlace} (ht : P.underlying t = some (.slice e)) (he : P.underlying e = some (.struct #[f0, f1, f2]))
    (hone : oneCellFields P #[f0, f1, f2] = true) (hC : P.cellsOf e = 3) (h0 : P.underlying f0.type = some .string) (h1 : P.underlying f1.type = some (.int .i64)) (h2 : P.underlying f2.type = some (.int .i64))
    (h : DataW.trod enc P w base spare held fuel t [v] = some x) : ∃ xs : List GRule, Sl RuleE w w.heap.size v xs ∧ SmallL xs := by
  rcases open_slice_fields ht he hone hC h with ⟨hcs, _⟩ | ⟨a, len, cap, m, D, Pl, hcs, _, hl, hm, hmm, _, hf⟩
  · simp at hcs
    subst hcs
    exact ⟨[], SlS.nil _ _, fun r hr => by simp at hr⟩
  · simp at hcs
    subst hcs
    have hmle : len ≤ m := by rw [hmm]; split <;> omega
    have H : ∀ i, ∃ r : GRule, i < len → (w.cell? (a.add (i * 3)) = some (.string r.letter) ∧ w.cell? (a.add (i * 3 + 1)) = some (.int .i64 r.left) ∧ w.cell? (a.add (i * 3 + 2)) = some (.int .i64 r.right) ∧ r.letter.size ≤ maxLen) := by
      intro i
      by_cases hi : i < len
      · obtain ⟨ys, n, _, _, _, hx⟩ := hf i (by omega)
        obtain ⟨v0, y0, g0, _, t0⟩ := hx 0 f0 rfl
        obtain ⟨v1, y1, g1, _, t1⟩ := hx 1 f1 rfl
        obtain ⟨v2, y2, g2, _, t2⟩ := hx 2 f2 rfl
        obtain ⟨s, e0, _, hs⟩ := DataW.trod_string h0 t0
        obtain ⟨p, e1, _, _⟩ := DataW.trod_int h1 t1
        obtain ⟨q, e2, _, _⟩ := DataW.trod_int h2 t2
        simp at e0 e1 e2
        subst e0 e1 e2
        exact ⟨⟨s, p, q⟩, fun _ => ⟨by simpa using g0, g1, g2, hs⟩⟩
      · exact ⟨⟨⟨#[]⟩, 0, 0⟩, fun h => absurd h hi⟩
    obtain ⟨F, hF⟩ : ∃ F : Nat → GRule, ∀ i, i < len → (w.cell? (a.add (i * 3)) = some (.string (F i).letter) ∧ w.cell? (a.add (i * 3 + 1)) = some (.int .i64 (F i).left) ∧ w.cell? (a.add (i * 3 + 2)) = some (.int .i64 (F i).right) ∧ (F i).letter.size ≤ maxLen) :=
      ⟨fun i => Classical.choose (H i), fun i hi => Classical.choose_spec (H i) hi⟩
    clear H
    refine ⟨(List.range len).map F, ⟨some a, cap, by rw [len_map_range], by rw [len_map_range]; exact hl, hm, fun hn => ?_⟩, ?_⟩
    · rw [len_map_range] at hn
      obtain ⟨g0, _⟩ := hF 0 hn
      have ha : a.add (0 * 3) = a := by simp [Addr.add]
      rw [ha] at g0
      obtain ⟨hsp, hlt⟩ := spot_none g0
      refine ⟨a.block, a.off, by rw [← hsp], hlt, fun k r hr => ⟨r.cells, rfl, fun j u hu => ?_⟩⟩
      have hk : k < len := by
        have := (List.getElem?_eq_some_iff.1 hr).1
        rw [len_map_range] at this; exact this
      have er : F k = r := by
        rw [List.getElem?_map, List.getElem?_range hk] at hr; simpa using hr
      obtain ⟨g0, g1, g2, _⟩ := hF k hk
      rw [er, hsp, add_plain] at g0 g1 g2
      match j, hu with
      | 0, hu => simp [GRule.cells] at hu; subst hu; exact g0
      | 1, hu => simp [GRule.cells] at hu; subst hu; exact g1
      | 2, hu => simp [GRule.cells] at hu; subst hu; exact g2
      | j + 3, hu => simp [GRule.cells] at hu
    · intro r hr
      rw [List.mem_map] at hr
      obtain ⟨k, hk, rfl⟩ := hr
      have := (hF k (by simpa using hk)).2.2.2
      unfold maxLen at this
      exact this

theorem open_struct1 {t : TypeId} {f : Field} {v : Value} {d : DataW H} {p : List MemPlace} {r : Reach} {b0 : Nat} (hs : P.underlying t = some (.struct #[f])) (hone : oneCellFields P #[f] = true) (hC : P.cellsOf t = 1)
    (hv : Value.okWide P w r b0 t v) (h : DataW.Trod enc P w base spare held t v d p) : ∃ v0 n x, v = .agg #[v0] ∧ DataW.trod enc P w base spare held n f.type [v0] = some x := by
  obtain ⟨cs, rfl, hsz⟩ := okWide_struct hs hv
  obtain ⟨l⟩ := cs
  match l, hsz.trans hC with
  | [c0], _ =>
    obtain ⟨fuel, hf⟩ := h
    obtain ⟨xs, n, _, _, _, hlen, hg⟩ := DataW.trod_struct hs hf
    obtain ⟨o0, k0⟩ := hone_of hone 0 f rfl
    match xs, hlen with
    | [y0], _ => exact ⟨c0, n, y0, rfl, by simpa [Value.cells, o0, k0] using hg 0 f rfl⟩
end
set_option maxRecDepth 100000 in
theorem open_gram {H : Type} {enc : TypeId × Value → H} {w : World} {base : Nat} {spare : Nat → Bool} {held : Bool} {r : Reach} {b0 : Nat} {v : Value} {d : DataW H} {p : List MemPlace}
    (hv : Value.okWide Tryz.prog w r b0 24 v) (h : DataW.Trod enc Tryz.prog w base spare held 24 v d p) : ∃ v0 xs, v = .agg #[v0] ∧ Sl RuleE w w.heap.size v0 xs ∧ SmallL xs := by
  obtain ⟨v0, n, x, rfl, hx⟩ := open_struct1 Tryz.underlying24 (by kernel_rfl) (by kernel_rfl) hv h
  obtain ⟨xs, h1, h2⟩ := open_rules Tryz.underlying22 Tryz.underlying111 (by kernel_rfl) (by kernel_rfl) Tryz.underlying9 Tryz.underlying2 Tryz.underlying2 hx
  exact ⟨v0, xs, rfl, h1, h2⟩
end Go.Proofs.YtfapnipmgmpgaaaGreatDoor

namespace Go.Proofs.YtfapnipmgmpgaaaGreatDoor
open Go.RowKit Go.ChangeShapes Go.WideShapes Go.Deep

/-- Whatever reads at type t lies as E says, and has the property Q. -/
def Opens {α : Type} (P : Program) (E : Enc α) (Q : α → Prop) (t : TypeId) : Prop :=
  ∀ {H : Type} (enc : TypeId × Value → H) (w : World) (base : Nat) (spare : Nat → Bool) (held : Bool) (fuel : Nat) (cs : List Value) (x : DataW H × List MemPlace), DataW.trod enc P w base spare held fuel t cs = some x → ∃ a, E.cells w (· < w.heap.size) a cs ∧ Q a

theorem opens_int {P : Program} {t : TypeId} (ht : P.underlying t = some (.int .i64)) : Opens P IntE (fun _ => True) t := by
  intro H enc w base spare held fuel cs x h
  obtain ⟨p, e1, _, _⟩ := DataW.trod_int ht h
  exact ⟨p, e1, trivial⟩
theorem opens_string {P : Program} {t : TypeId} (ht : P.underlying t = some .string) : Opens P StrE (fun s => s.size ≤ maxLen) t := by
  intro H enc w base spare held fuel cs x h
  obtain ⟨s, e0, _, hs⟩ := DataW.trod_string ht h
  exact ⟨s, e0, hs⟩
theorem opens_rule {P : Program} {t : TypeId} {f0 f1 f2 : Field} (he : P.underlying t = some (.struct #[f0, f1, f2])) (hone : oneCellFields P #[f0, f1, f2] = true) (hC : P.cellsOf t = 3)
    (h0 : P.underlying f0.type = some .string) (h1 : P.underlying f1.type = some (.int .i64)) (h2 : P.underlying f2.type = some (.int .i64)) : Opens P RuleE (fun r => r.letter.size ≤ maxLen) t := by
  intro H enc w base spare held fuel cs x h
  obtain ⟨ys, n', hn', hy, hlen, hyl, hf⟩ := DataW.trod_struct he h
  obtain ⟨o0, k0⟩ := hone_of hone 0 f0 rfl
  obtain ⟨o1, k1⟩ := hone_of hone 1 f1 rfl
  obtain ⟨o2, k2⟩ := hone_of hone 2 f2 rfl
  have g0 := hf 0 f0 rfl
  have g1 := hf 1 f1 rfl
  have g2 := hf 2 f2 rfl
  rw [o0, k0] at g0
  rw [o1, k1] at g1
  rw [o2, k2] at g2
  have hc3 : cs.length = 3 := hlen.trans hC
  match ys, hyl, cs, hc3 with
  | [y0, y1, y2], _, [c0, c1, c2], _ =>
    simp at g0 g1 g2
    obtain ⟨s, e0, _, hs⟩ := DataW.trod_string h0 g0
    obtain ⟨p, e1, _, _⟩ := DataW.trod_int h1 g1
    obtain ⟨q, e2, _, _⟩ := DataW.trod_int h2 g2
    refine ⟨⟨s, p, q⟩, ?_, hs⟩
    simp at e0 e1 e2
    subst e0 e1 e2
    rfl
instance : Inhabited GRule := ⟨⟨⟨#[]⟩, 0, 0⟩⟩
theorem opens_slice {α : Type} {P : Program} {E : Enc α} {Q : α → Prop} {t e : TypeId} [Inhabited α] (hE : Opens P E Q e) (ht : P.underlying t = some (.slice e)) (hC : P.cellsOf e = E.size) : Opens P (SliceE E) (fun xs => ∀ x ∈ xs, Q x) t := by
  intro H enc w base spare held fuel cs x h
  rcases open_slice ht h with ⟨h0, _⟩ | ⟨a, len, cap, m, n, D, Pl, hcs, hb, hl, hm, hmm, hx, hi⟩
  · exact ⟨[], ⟨_, h0, SlS.nil _ _⟩, fun x hx => by simp at hx⟩
  · have hmle : len ≤ m := by rw [hmm]; split <;> omega
    have Hh : ∀ i, i < len → ∃ r : α, ∃ cs', E.cells w (· < w.heap.size) r cs' ∧ (∀ j u, cs'[j]? = some u → w.cell? (a.add (i * E.size + j)) = some u) ∧ Q r := by
      intro i hil
      obtain ⟨cs', hc, ht'⟩ := hi i (by omega)
      obtain ⟨r, hr, hq⟩ := hE enc w base spare held n cs' _ ht'
      obtain ⟨_, hcl, hat⟩ := World.cells?_some hc
      refine ⟨r, cs', hr, fun j u hu => ?_, hq⟩
      have hj : j < cs'.length := (List.getElem?_eq_some_iff.1 hu).1
      rw [← Go.Deep.add_add, ← hC, hat j (by omega), hu]
    obtain ⟨F, hF⟩ := choose_lt Hh
    clear Hh
    refine ⟨(List.range len).map F, ⟨.slice (some a) len cap, hcs, some a, cap, by rw [len_map_range], by rw [len_map_range]; exact hl, hm, fun hn => ?_⟩, ?_⟩
    · rw [len_map_range] at hn
      obtain ⟨cs', h1, h2, _⟩ := hF 0 hn
      have hlen := E.len h1
      have hpos := E.pos
      have g0 := h2 0 cs'[0] (List.getElem?_eq_getElem (by omega))
      have ha : a.add (0 * E.size + 0) = a := by simp [Addr.add]
      rw [ha] at g0
      obtain ⟨hsp, hlt⟩ := spot_none g0
      refine ⟨a.block, a.off, by rw [← hsp], hlt, fun k r hr => ?_⟩
      have hk : k < len := by
        have := (List.getElem?_eq_some_iff.1 hr).1
        rw [len_map_range] at this; exact this
      have er : F k = r := by
        rw [List.getElem?_map, List.getElem?_range hk] at hr; simpa using hr
      obtain ⟨cs'', h3, h4, _⟩ := hF k hk
      rw [er] at h3
      refine ⟨cs'', h3, fun j u hu => ?_⟩
      have := h4 j u hu
      rw [hsp, add_plain] at this
      exact this
    · intro r hr
      rw [List.mem_map] at hr
      obtain ⟨k, hk, rfl⟩ := hr
      exact (hF k (by simpa using hk)).choose_spec.2.2
theorem opens_struct1 {α : Type} {P : Program} {E : Enc α} {Q : α → Prop} {t : TypeId} {f : Field} (hs : P.underlying t = some (.struct #[f])) (hone : oneCellFields P #[f] = true) (hC : P.cellsOf t = 1) (hE : Opens P E Q f.type) : Opens P E Q t := by
  intro H enc w base spare held fuel cs x h
  obtain ⟨ys, n', hn', hy, hlen, hyl, hf⟩ := DataW.trod_struct hs h
  obtain ⟨o0, k0⟩ := hone_of hone 0 f rfl
  have g0 := hf 0 f rfl
  rw [o0, k0] at g0
  have hc1 : cs.length = 1 := hlen.trans hC
  match ys, hyl, cs, hc1 with
  | [y0], _, [c0], _ =>
    simp at g0
    exact hE enc w base spare held _ _ _ g0
theorem SmallL_of {xs : List GRule} (h : ∀ r ∈ xs, r.letter.size ≤ maxLen) : SmallL xs := fun r hr => by have := h r hr; unfold maxLen at this; exact this
set_option maxRecDepth 100000 in
theorem opensRule : Opens Tryz.prog RuleE (fun r => r.letter.size ≤ maxLen) 111 := opens_rule Tryz.underlying111 (by kernel_rfl) (by kernel_rfl) Tryz.underlying9 Tryz.underlying2 Tryz.underlying2
theorem opensRuleS : Opens Tryz.prog (SliceE RuleE) (fun xs => ∀ r ∈ xs, r.letter.size ≤ maxLen) 22 := opens_slice opensRule Tryz.underlying22 (by kernel_rfl)
set_option maxRecDepth 100000 in
theorem opensGram : Opens Tryz.prog (SliceE RuleE) (fun xs => ∀ r ∈ xs, r.letter.size ≤ maxLen) 24 := opens_struct1 Tryz.underlying24 (by kernel_rfl) (by kernel_rfl) opensRuleS
end Go.Proofs.YtfapnipmgmpgaaaGreatDoor

namespace Go.Proofs.YtfapnipmgmpgaaaGreatDoor
open Go.ChangeShapes Go.WideShapes Go.ChangeAt Go.RowKit Go.Joins
open Go.ChangeMaps (open_string)
theorem opensInts : Opens Tryz.prog IntE (fun _ => True) 2 := opens_int Tryz.underlying2
theorem opensIntS : Opens Tryz.prog (SliceE IntE) (fun xs => ∀ x ∈ xs, True) 112 := opens_slice opensInts Tryz.underlying112 (by kernel_rfl)
end Go.Proofs.YtfapnipmgmpgaaaGreatDoor

namespace Go.Proofs.YtfapnipmgmpgaaaGreatDoor
open Go.ChangeShapes Go.WideShapes Go.ChangeAt Go.RowKit Go.Joins Go.Deep
open Go.ChangeMaps (open_string)
section
variable {H : Type} {enc : TypeId × Value → H} {P : Program} {w : World} {base : Nat} {spare : Nat → Bool} {held : Bool}
theorem open_struct6 {t : TypeId} {f0 f1 f2 f3 f4 f5 : Field} {v : Value} {d : DataW H} {p : List MemPlace} {r : Reach} {b0 : Nat} (hs : P.underlying t = some (.struct #[f0, f1, f2, f3, f4, f5])) (hone : oneCellFields P #[f0, f1, f2, f3, f4, f5] = true) (hC : P.cellsOf t = 6)
    (hv : Value.okWide P w r b0 t v) (h : DataW.Trod enc P w base spare held t v d p) : ∃ v0 v1 v2 v3 v4 v5 n x0 x1 x2 x3 x4 x5, v = .agg #[v0, v1, v2, v3, v4, v5] ∧ DataW.trod enc P w base spare held n f0.type [v0] = some x0 ∧ DataW.trod enc P w base spare held n f1.type [v1] = some x1 ∧
      DataW.trod enc P w base spare held n f2.type [v2] = some x2 ∧ DataW.trod enc P w base spare held n f3.type [v3] = some x3 ∧ DataW.trod enc P w base spare held n f4.type [v4] = some x4 ∧ DataW.trod enc P w base spare held n f5.type [v5] = some x5 := by
  obtain ⟨cs, rfl, hsz⟩ := okWide_struct hs hv
  obtain ⟨l⟩ := cs
  match l, hsz.trans hC with
  | [c0, c1, c2, c3, c4, c5], _ =>
    obtain ⟨fuel, hf⟩ := h
    obtain ⟨xs, n, _, _, _, hlen, hg⟩ := DataW.trod_struct hs hf
    obtain ⟨o0, k0⟩ := hone_of hone 0 f0 rfl
    obtain ⟨o1, k1⟩ := hone_of hone 1 f1 rfl
    obtain ⟨o2, k2⟩ := hone_of hone 2 f2 rfl
    obtain ⟨o3, k3⟩ := hone_of hone 3 f3 rfl
    obtain ⟨o4, k4⟩ := hone_of hone 4 f4 rfl
    obtain ⟨o5, k5⟩ := hone_of hone 5 f5 rfl
    match xs, hlen with
    | [y0, y1, y2, y3, y4, y5], _ => exact ⟨c0, c1, c2, c3, c4, c5, n, y0, y1, y2, y3, y4, y5, rfl, by simpa [Value.cells, o0, k0] using hg 0 f0 rfl, by simpa [Value.cells, o1, k1] using hg 1 f1 rfl, by simpa [Value.cells, o2, k2] using hg 2 f2 rfl, by simpa [Value.cells, o3, k3] using hg 3 f3 rfl, by simpa [Value.cells, o4, k4] using hg 4 f4 rfl, by simpa [Value.cells, o5, k5] using hg 5 f5 rfl⟩
end
set_option maxRecDepth 100000 in
theorem open_edit {H : Type} {enc : TypeId × Value → H} {w : World} {base : Nat} {spare : Nat → Bool} {held : Bool} {r : Reach} {b0 : Nat} {v : Value} {d : DataW H} {p : List MemPlace}
    (hv : Value.okWide Tryz.prog w r b0 26 v) (h : DataW.Trod enc Tryz.prog w base spare held 26 v d p) : ∃ e, EditV w w.heap.size v e ∧ SmallL e.part ∧ e.map.size ≤ maxLen := by
  obtain ⟨v0, v1, v2, v3, v4, v5, n, x0, x1, x2, x3, x4, x5, rfl, h0, h1, h2, h3, h4, h5⟩ := open_struct6 Tryz.underlying26 (by kernel_rfl) (by kernel_rfl) hv h
  obtain ⟨k, e0, _, _⟩ := DataW.trod_int Tryz.underlying2 h0
  obtain ⟨i, e1, _, _⟩ := DataW.trod_int Tryz.underlying2 h1
  obtain ⟨j, e2, _, _⟩ := DataW.trod_int Tryz.underlying2 h2
  obtain ⟨kk, e3, _, _⟩ := DataW.trod_int Tryz.underlying2 h3
  obtain ⟨xs, ⟨v4', e4, hsl⟩, hsm⟩ := opensGram enc w base spare held _ _ _ h4
  obtain ⟨s, e5, _, hs⟩ := DataW.trod_string Tryz.underlying9 h5
  simp at e0 e1 e2 e3 e4 e5
  subst e0 e1 e2 e3 e4 e5
  exact ⟨⟨k, i, j, kk, xs, s⟩, ⟨_, rfl, hsl⟩, SmallL_of hsm, hs⟩
end Go.Proofs.YtfapnipmgmpgaaaGreatDoor

