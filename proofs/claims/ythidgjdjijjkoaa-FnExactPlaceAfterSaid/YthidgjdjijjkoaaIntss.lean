import Derived.Test.YthidgjdjijjkoaaInts2
namespace Go.Proofs.Ythidgjdjijjkoaa
open Go.RowKit

theorem Try.infoII : (Try.prog.info? 28).map (fun i => (i.zero, i.size, i.bytes)) = some (some (.slice none 0 0), 1, 24) := by kernel_rfl
theorem madeNils (n : Nat) : (madeCells (Value.slice none 0 0).cells (n * 1)).toList = List.replicate n (Value.slice none 0 0) := by
  rw [Nat.mul_one]; exact toList_madeCells_one _ n

/-- A row of k values that read as the lists xs, in blocks of S. -/
def Each {α : Type} (E : Enc α) (w : World) (S : Nat → Prop) (vs : List Value) (xs : List (List α)) : Prop := vs.length = xs.length ∧ ∀ (k : Nat) x, xs[k]? = some x → ∃ v, vs[k]? = some v ∧ SlS E w S v x
theorem Each.keep {α : Type} {E : Enc α} {w w' : World} {S : Nat → Prop} {vs : List Value} {xs : List (List α)} (h : Each E w S vs xs) (hk : Keep S w w') : Each E w' S vs xs :=
  ⟨h.1, fun k x hx => by obtain ⟨v, h1, h2⟩ := h.2 k x hx; exact ⟨v, h1, h2.keep hk⟩⟩
theorem Each.more {α : Type} {E : Enc α} {w : World} {S S' : Nat → Prop} {vs : List Value} {xs : List (List α)} (h : Each E w S vs xs) (hk : ∀ b, S b → S' b) : Each E w S' vs xs :=
  ⟨h.1, fun k x hx => by obtain ⟨v, h1, h2⟩ := h.2 k x hx; exact ⟨v, h1, h2.more hk⟩⟩
theorem Each.snoc {α : Type} {E : Enc α} {w : World} {S : Nat → Prop} {vs : List Value} {xs : List (List α)} {v : Value} {x : List α} (h : Each E w S vs xs) (hv : SlS E w S v x) : Each E w S (vs ++ [v]) (xs ++ [x]) :=
  ⟨by simp [h.1], fun k y hy => by
    rcases Nat.lt_trichotomy k xs.length with hk | hk | hk
    · rw [List.getElem?_append_left hk] at hy
      obtain ⟨u, h1, h2⟩ := h.2 k y hy
      exact ⟨u, by rw [List.getElem?_append_left (by rw [h.1]; exact hk)]; exact h1, h2⟩
    · rw [hk] at hy ⊢
      rw [List.getElem?_append_right (Nat.le_refl _)] at hy
      simp at hy
      subst hy
      exact ⟨v, by rw [List.getElem?_append_right (by rw [h.1]; exact Nat.le_refl _), h.1]; simp, hv⟩
    · rw [List.getElem?_append_right (by omega)] at hy
      have : ([x] : List (List α))[k - xs.length]? = none := List.getElem?_eq_none (by simp; omega)
      rw [this] at hy; cases hy⟩
theorem Each.nil {α : Type} {E : Enc α} {w : World} {S : Nat → Prop} : Each E w S [] [] := ⟨rfl, fun k x hx => by simp at hx⟩
theorem Each.sl {α : Type} {E : Enc α} {w : World} {S : Nat → Prop} {vs : List Value} {xs : List (List α)} {base e : Nat} {v : Value} (h : Each E w S vs xs) (ho : w.ownsRow base e 1 v xs.length vs) (hS : ∀ g, v.ownBlock = some g → S g) : SlS (SliceE E) w S v xs := by
  obtain ⟨A, cap, rfl, h1, h2⟩ := own_nil ho
  refine ⟨A, cap, rfl, h1, h2, Row.of_own (E := SliceE E) ho rfl hS fun k x hx => ?_⟩
  obtain ⟨u, hu, hs⟩ := h.2 k x hx
  refine ⟨[u], ⟨u, rfl, hs⟩, fun j y hy => ?_⟩
  cases j with
  | zero => simp at hy; subst hy; simpa [SliceE] using hu
  | succ j => simp at hy

set_option maxRecDepth 100000 in
theorem toInt64SS_any (v : Value) (xs : List (List Int)) (w : World) (h : Sl (SliceE IntE) w w.heap.size v xs) (hl : xs.length ≤ 1048576) (hll : ∀ x ∈ xs, x.length ≤ 1048576) :
    Calls Try.prog 58 #[v] w fun e w' => ∃ v', e = .returned v' ∧ SlS (SliceE IntE) w' (fun b => w.heap.size ≤ b ∧ b < w'.heap.size) v' xs ∧ Below w.heap.size w w' := by
  obtain ⟨A, c, rfl, hc, hm, hrow⟩ := h
  clear hm
  have Hll := Lib.hid hll
  clear hll
  obtain ⟨i0, hi0, hz0, hz1, hz2⟩ := info_parts Try.infoII
  go_enter Try.func58, Try.ntmps58
  go_wp2_with (at_make; go_must (refine wpList_make_full _ rfl _ _ 29 rfl w.heap.size 28 i0 (.slice none 0 0) 1 Try.underlying29 hi0 hz0 hz1 _ _ _ _ xs.length rfl rfl rfl rfl (by rw [hz2]; omega) (by unfold maxLen; omega) (Nat.le_refl _) ?_); intro w1 hown1 hg1; rw [madeNils] at hown1)
  have hb1 : Below w.heap.size w w1 := (Below.refl _ _).grown hg1 (Nat.le_refl _) (by simp)
  have hlt1 : w.heap.size < w1.heap.size := (hown1.lt _ rfl).2
  have Hown := Lib.hid hown1
  clear hown1 hg1 hi0 hz0 hz1 hz2
  go_loopw [4] (fun i wr => ∃ (k : Nat) (vs : List Value), k ≤ xs.length ∧ i = .int .i64 k ∧ Below w.heap.size w wr ∧ w.heap.size < wr.heap.size ∧ Each IntE wr (fun b => w.heap.size < b ∧ b < wr.heap.size) vs (xs.take k) ∧
    wr.ownsRow w.heap.size 28 1 (.slice (some ⟨w.heap.size, 0, none⟩) xs.length xs.length) xs.length (vs ++ List.replicate (xs.length - k) (.slice none 0 0))) (fun i _ => xs.length - (intOf i).toNat)
  case atStart => exact ⟨0, [], Nat.zero_le _, rfl, hb1, hlt1, Each.nil, by simpa using Hown.out⟩
  case round =>
    obtain ⟨k, vs, hk, rfl, hb, hsz, hea, hown⟩ := hrel
    by_cases hlt : k < xs.length
    · obtain ⟨b, o, rfl, hbl, hcell⟩ := hrow.sl hlt
      obtain ⟨x, hx⟩ : ∃ x, xs[k]? = some x := ⟨_, List.getElem?_eq_getElem hlt⟩
      obtain ⟨u, hu, hsl⟩ := hcell k x hx
      have hc0 : wr.cell? ⟨b, o + k, none⟩ = some u := (hb.cell hbl).trans hu
      have hxl := Hll.out x (List.mem_of_getElem? hx)
      have hsl' : Sl IntE wr wr.heap.size u x := (hsl.below hb).le (by omega)
      have hvk : vs.length = k := by rw [hea.1, List.length_take]; omega
      have Hx := Lib.hid hx
      have Hvk := Lib.hid hvk
      have Hea := Lib.hid hea
      have Hown := Lib.hid hown
      clear hcell hown hx hu hsl hvk hea
      go_wp2_with fail
      refine (toInt64S_any _ _ _ hsl' hxl).mono ?_
      rintro e w2 ⟨v2, rfl, hown2, hb2⟩
      have hgk : w2.ownsRow w.heap.size 28 1 (.slice (some ⟨w.heap.size, 0, none⟩) xs.length xs.length) xs.length (vs ++ List.replicate (xs.length - k) (.slice none 0 0)) :=
        ownsRow_below Hown.out hb2
      have hvk := Hvk.out
      obtain ⟨u2, hu2⟩ : ∃ u, w2.cell? ⟨w.heap.size, k, none⟩ = some u := by
        refine ⟨_, (hgk.cellAt k (by omega)).trans (List.getElem?_eq_getElem ?_)⟩
        simp; omega
      clear hvk
      have hfz := hgk.frozenAt k
      have hst := hgk.stored k v2
      have hkp : Keep (fun b => w.heap.size < b ∧ b < w2.heap.size) w2 (w2.setCell ⟨w.heap.size, k, none⟩ v2) := (Keep.of_grown hst.2).mono fun b hb => ⟨hb.2, by simp; omega⟩
      have Hst := Lib.hid hst
      have hs2 := hown2.slS (S := fun b => w.heap.size < b ∧ b < w2.heap.size) fun g hg => by have := hown2.lt g hg; omega
      have hea2 := ((Hea.out.keep (Keep.of_below hb2 |>.mono fun b h => h.2)).more (S' := fun b => w.heap.size < b ∧ b < w2.heap.size) fun b h => ⟨h.1, Nat.lt_of_lt_of_le h.2 hb2.size⟩).snoc hs2
      have hsz2 : w.heap.size < w2.heap.size := Nat.lt_of_lt_of_le hsz hb2.size
      clear hgk hst
      obtain ⟨A2, c2, hv2, _⟩ := own_nil hown2
      have Hfin : Hid (∃ (vs' : List Value), Each IntE (w2.setCell ⟨w.heap.size, k, none⟩ v2) (fun b => w.heap.size < b ∧ b < w2.heap.size) vs' (xs.take (k + 1)) ∧
          (w2.setCell ⟨w.heap.size, k, none⟩ v2).ownsRow w.heap.size 28 1 (.slice (some ⟨w.heap.size, 0, none⟩) xs.length xs.length) xs.length (vs' ++ List.replicate (xs.length - (k + 1)) (.slice none 0 0))) := by
        refine ⟨vs ++ [v2], ?_, ?_⟩
        · rw [List.take_add_one, Hx.out]
          exact hea2.keep hkp
        · have := Hst.out.1
          rw [List.set_append, if_neg (by rw [Hvk.out]; omega), Hvk.out, Nat.sub_self, show xs.length - k = (xs.length - (k+1)) + 1 by omega, List.replicate_succ, List.set_cons_zero] at this
          simpa using this
      have hb3 : Below w.heap.size w (w2.setCell ⟨w.heap.size, k, none⟩ v2) := ((hb.trans (hb2.mono (by omega))).setCell (Nat.le_refl _) _)
      subst hv2
      clear hea2 hs2 hkp
      go_wp2
      go_roundw
      case rel =>
        obtain ⟨vs', h1, h2⟩ := Hfin.out
        exact ⟨k + 1, vs', by omega, by go_num, hb3, by simpa [World.setCell] using hsz2, by simpa [World.setCell] using h1, h2⟩
      case measure => simp [intOf]; omega
    · have hkn : k = xs.length := by omega
      subst hkn
      have Hown2 := Lib.hid hown
      have Hea := Lib.hid hea
      clear hown hea
      go_wp2
      go_ret
      refine ⟨_, rfl, ?_, hb⟩
      have h1 := Hea.out
      have h2 := Hown2.out
      rw [List.take_length] at h1
      exact (h1.more fun b h => ⟨by omega, h.2⟩).sl (by simpa using h2) fun g hg => by simp [Value.ownBlock] at hg; subst hg; exact ⟨Nat.le_refl _, hsz⟩

theorem eqInt64SS_any (v v' : Value) (xs : List (List Int)) (w : World) (h : Sl (SliceE IntE) w w.heap.size v xs) (h' : Sl (SliceE IntE) w w.heap.size v' xs) :
    Calls Try.prog 64 #[v, v'] w fun e w' => e = .returned (.bool true) ∧ ∃ n, w' = w.drewN n := by
  obtain ⟨A, c, rfl, hc, hm, hrow⟩ := h
  obtain ⟨A', c', rfl, hc', hm', hrow'⟩ := h'
  unfold maxLen at hm
  have hn : xs.length ≤ 9223372036854775807 := by omega
  clear hm hm'
  go_enter Try.func64, Try.ntmps64
  go_wp2_with fail
  go_loopw [5] (fun i wr => ∃ (k : Nat), k ≤ xs.length ∧ i = .int .i64 k ∧ ∃ m, wr = w.drewN m) (fun i _ => xs.length - (intOf i).toNat)
  case atStart => exact ⟨0, Nat.zero_le _, rfl, 0, rfl⟩
  case round =>
    obtain ⟨k, hk, rfl, m, rfl⟩ := hrel
    by_cases hlt : k < xs.length
    · obtain ⟨b, o, rfl, hbl, hcell⟩ := hrow.sl hlt
      obtain ⟨b', o', rfl, hbl', hcell'⟩ := hrow'.sl hlt
      obtain ⟨x, hx⟩ : ∃ x, xs[k]? = some x := ⟨_, List.getElem?_eq_getElem hlt⟩
      obtain ⟨u, hu, hsl⟩ := hcell k x hx
      obtain ⟨u', hu', hsl'⟩ := hcell' k x hx
      have h1 : ∀ n, Sl IntE (w.drewN n) (w.drewN n).heap.size u x := fun n => hsl.drewN n
      have h2 : ∀ n, Sl IntE (w.drewN n) (w.drewN n).heap.size u' x := fun n => hsl'.drewN n
      have H1 := Lib.hid h1
      have H2 := Lib.hid h2
      have hi : (k : Int) < (xs.length : Int) := by omega
      clear hcell hcell' hsl hsl' hx h1 h2
      go_wp2_with fail
      go_quiet ((go_at_call 63; first | exact quiet_add (eqInt64S_any _ _ _ _ (H1.out _) (H2.out _)) | exact quiet_one (eqInt64S_any _ _ _ _ (H1.out _) (H2.out _))))
      go_wp2
      go_roundw
      case rel => exact ⟨k + 1, by omega, by go_num, _, rfl⟩
      case measure => simp [intOf]; omega
    · go_wp2
      go_ret
      exact ⟨rfl, m, rfl⟩
end Go.Proofs.Ythidgjdjijjkoaa
