import Derived.Test.YtoemoifeiigkoaaOpen
import Derived.Test.YtoemoifeiigkoaaAuto3
namespace Go.Proofs.Ytoemoifeiigkoaa
open Go.RowKit Go.ChangeShapes Go.WideShapes Go.Deep

/-- Whatever reads at type t lies as E says, and has the property Q. -/
def Opens {α : Type} (P : Program) (E : Enc α) (Q : α → Prop) (t : TypeId) : Prop :=
  ∀ {H : Type} (enc : TypeId × Value → H) (w : World) (base : Nat) (spare : Nat → Bool) (held : Bool) (fuel : Nat) (cs : List Value) (x : DataW H × List MemPlace), DataW.trod enc P w base spare held fuel t cs = some x → ∃ a, E.cells w (· < w.heap.size) a cs ∧ Q a

theorem opens_int {P : Program} {t : TypeId} (ht : P.underlying t = some (.int .i64)) : Opens P IntE (fun _ => True) t := by
  intro H enc w base spare held fuel cs x h
  obtain ⟨p, e1, _, _⟩ := DataW.trod_int ht h
  exact ⟨p, e1, trivial⟩
theorem opens_string {P : Program} {t : TypeId} (ht : P.underlying t = some .string) : Opens P StrE (fun s => s.size ≤ maxLen) t := by
  intro H enc w base spare held fuel cs x h
  obtain ⟨s, e0, _, hs⟩ := DataW.trod_string ht h
  exact ⟨s, e0, hs⟩
theorem opens_rule {P : Program} {t : TypeId} {f0 f1 f2 : Field} (he : P.underlying t = some (.struct #[f0, f1, f2])) (hone : oneCellFields P #[f0, f1, f2] = true) (hC : P.cellsOf t = 3)
    (h0 : P.underlying f0.type = some .string) (h1 : P.underlying f1.type = some (.int .i64)) (h2 : P.underlying f2.type = some (.int .i64)) : Opens P RuleE (fun r => r.letter.size ≤ maxLen) t := by
  intro H enc w base spare held fuel cs x h
  obtain ⟨ys, n', hn', hy, hlen, hyl, hf⟩ := DataW.trod_struct he h
  obtain ⟨o0, k0⟩ := hone_of hone 0 f0 rfl
  obtain ⟨o1, k1⟩ := hone_of hone 1 f1 rfl
  obtain ⟨o2, k2⟩ := hone_of hone 2 f2 rfl
  have g0 := hf 0 f0 rfl
  have g1 := hf 1 f1 rfl
  have g2 := hf 2 f2 rfl
  rw [o0, k0] at g0
  rw [o1, k1] at g1
  rw [o2, k2] at g2
  have hc3 : cs.length = 3 := hlen.trans hC
  match ys, hyl, cs, hc3 with
  | [y0, y1, y2], _, [c0, c1, c2], _ =>
    simp at g0 g1 g2
    obtain ⟨s, e0, _, hs⟩ := DataW.trod_string h0 g0
    obtain ⟨p, e1, _, _⟩ := DataW.trod_int h1 g1
    obtain ⟨q, e2, _, _⟩ := DataW.trod_int h2 g2
    refine ⟨⟨s, p, q⟩, ?_, hs⟩
    simp at e0 e1 e2
    subst e0 e1 e2
    rfl
instance : Inhabited GRule := ⟨⟨⟨#[]⟩, 0, 0⟩⟩
theorem opens_slice {α : Type} {P : Program} {E : Enc α} {Q : α → Prop} {t e : TypeId} [Inhabited α] (hE : Opens P E Q e) (ht : P.underlying t = some (.slice e)) (hC : P.cellsOf e = E.size) : Opens P (SliceE E) (fun xs => ∀ x ∈ xs, Q x) t := by
  intro H enc w base spare held fuel cs x h
  rcases open_slice ht h with ⟨h0, _⟩ | ⟨a, len, cap, m, n, D, Pl, hcs, hb, hl, hm, hmm, hx, hi⟩
  · exact ⟨[], ⟨_, h0, SlS.nil _ _⟩, fun x hx => by simp at hx⟩
  · have hmle : len ≤ m := by rw [hmm]; split <;> omega
    have Hh : ∀ i, i < len → ∃ r : α, ∃ cs', E.cells w (· < w.heap.size) r cs' ∧ (∀ j u, cs'[j]? = some u → w.cell? (a.add (i * E.size + j)) = some u) ∧ Q r := by
      intro i hil
      obtain ⟨cs', hc, ht'⟩ := hi i (by omega)
      obtain ⟨r, hr, hq⟩ := hE enc w base spare held n cs' _ ht'
      obtain ⟨_, hcl, hat⟩ := World.cells?_some hc
      refine ⟨r, cs', hr, fun j u hu => ?_, hq⟩
      have hj : j < cs'.length := (List.getElem?_eq_some_iff.1 hu).1
      rw [← Go.Deep.add_add, ← hC, hat j (by omega), hu]
    obtain ⟨F, hF⟩ := choose_lt Hh
    clear Hh
    refine ⟨(List.range len).map F, ⟨.slice (some a) len cap, hcs, some a, cap, by rw [len_map_range], by rw [len_map_range]; exact hl, hm, fun hn => ?_⟩, ?_⟩
    · rw [len_map_range] at hn
      obtain ⟨cs', h1, h2, _⟩ := hF 0 hn
      have hlen := E.len h1
      have hpos := E.pos
      have g0 := h2 0 cs'[0] (List.getElem?_eq_getElem (by omega))
      have ha : a.add (0 * E.size + 0) = a := by simp [Addr.add]
      rw [ha] at g0
      obtain ⟨hsp, hlt⟩ := spot_none g0
      refine ⟨a.block, a.off, by rw [← hsp], hlt, fun k r hr => ?_⟩
      have hk : k < len := by
        have := (List.getElem?_eq_some_iff.1 hr).1
        rw [len_map_range] at this; exact this
      have er : F k = r := by
        rw [List.getElem?_map, List.getElem?_range hk] at hr; simpa using hr
      obtain ⟨cs'', h3, h4, _⟩ := hF k hk
      rw [er] at h3
      refine ⟨cs'', h3, fun j u hu => ?_⟩
      have := h4 j u hu
      rw [hsp, add_plain] at this
      exact this
    · intro r hr
      rw [List.mem_map] at hr
      obtain ⟨k, hk, rfl⟩ := hr
      exact (hF k (by simpa using hk)).choose_spec.2.2
theorem opens_struct1 {α : Type} {P : Program} {E : Enc α} {Q : α → Prop} {t : TypeId} {f : Field} (hs : P.underlying t = some (.struct #[f])) (hone : oneCellFields P #[f] = true) (hC : P.cellsOf t = 1) (hE : Opens P E Q f.type) : Opens P E Q t := by
  intro H enc w base spare held fuel cs x h
  obtain ⟨ys, n', hn', hy, hlen, hyl, hf⟩ := DataW.trod_struct hs h
  obtain ⟨o0, k0⟩ := hone_of hone 0 f rfl
  have g0 := hf 0 f rfl
  rw [o0, k0] at g0
  have hc1 : cs.length = 1 := hlen.trans hC
  match ys, hyl, cs, hc1 with
  | [y0], _, [c0], _ =>
    simp at g0
    exact hE enc w base spare held _ _ _ g0
theorem SmallL_of {xs : List GRule} (h : ∀ r ∈ xs, r.letter.size ≤ maxLen) : SmallL xs := fun r hr => by have := h r hr; unfold maxLen at this; exact this
set_option maxRecDepth 100000 in
theorem opensRule : Opens Try.prog RuleE (fun r => r.letter.size ≤ maxLen) 194 := opens_rule Try.underlying194 (by kernel_rfl) (by kernel_rfl) Try.underlying9 Try.underlying2 Try.underlying2
theorem opensRuleS : Opens Try.prog (SliceE RuleE) (fun xs => ∀ r ∈ xs, r.letter.size ≤ maxLen) 22 := opens_slice opensRule Try.underlying22 (by kernel_rfl)
set_option maxRecDepth 100000 in
theorem opensGram : Opens Try.prog (SliceE RuleE) (fun xs => ∀ r ∈ xs, r.letter.size ≤ maxLen) 24 := opens_struct1 Try.underlying24 (by kernel_rfl) (by kernel_rfl) opensRuleS
end Go.Proofs.Ytoemoifeiigkoaa
