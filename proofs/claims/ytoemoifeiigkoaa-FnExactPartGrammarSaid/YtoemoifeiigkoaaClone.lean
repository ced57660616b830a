import Derived.Test.YtoemoifeiigkoaaSizes
namespace Go.Proofs.Ytoemoifeiigkoaa
open Go.RowKit

/-- The cells of a row, one element behind the other. -/
theorem row_cells {α : Type} {E : Enc α} {w : World} {S : Nat → Prop} {a : Addr} {xs : List α} (h : Row E w S (some a) xs) (cs : List Value) (hcs : cs.length = xs.length * E.size)
    (hc : ∀ k x us, xs[k]? = some x → E.cells w S x us → ∀ j u, us[j]? = some u → cs[k * E.size + j]? = some u) : ∀ j u, cs[j]? = some u → w.cell? (a.add j) = some u := by
  intro j u hu
  have hj : j < xs.length * E.size := by rw [← hcs]; exact (List.getElem?_eq_some_iff.1 hu).1
  have hpos : 0 < xs.length := by
    rcases Nat.eq_zero_or_pos xs.length with h0 | h0
    · rw [h0, Nat.zero_mul] at hj; omega
    · exact h0
  obtain ⟨b, o, he, hs, hr⟩ := h hpos
  injection he with he
  subst he
  have hk : j / E.size < xs.length := (Nat.div_lt_iff_lt_mul E.pos).2 hj
  obtain ⟨us, h1, h2⟩ := hr (j / E.size) xs[j / E.size] (List.getElem?_eq_getElem hk)
  have hm : j % E.size < us.length := by rw [E.len h1]; exact Nat.mod_lt _ E.pos
  have h3 := h2 (j % E.size) us[j % E.size] (List.getElem?_eq_getElem hm)
  have h4 := hc _ _ _ (List.getElem?_eq_getElem hk) h1 (j % E.size) us[j % E.size] (List.getElem?_eq_getElem hm)
  rw [Nat.mul_comm, Nat.div_add_mod] at h3 h4
  rw [h4] at hu
  injection hu with hu
  subst hu
  have : (⟨b, o, none⟩ : Addr).add j = ⟨b, o + j, none⟩ := by unfold Addr.add; split <;> simp_all
  rw [this]; exact h3

theorem cells_len (xs : List GRule) : (xs.flatMap GRule.cells).length = xs.length * 3 := by
  induction xs with
  | nil => rfl
  | cons x xs ih =>
    rw [List.flatMap_cons, List.length_append, ih, List.length_cons]
    show 3 + _ = _
    omega
theorem rules_cells {w : World} {S : Nat → Prop} {a : Addr} {xs : List GRule} (h : Row RuleE w S (some a) xs) : ∀ j u, (xs.flatMap GRule.cells)[j]? = some u → w.cell? (a.add j) = some u := by
  refine row_cells h _ (cells_len xs) ?_
  · intro k x us hk hus j u hu
    obtain ⟨c0, c1, c2⟩ := cells3 xs k x hk
    have e : us = x.cells := hus
    subst e
    match j, hu with
    | 0, hu => simp [GRule.cells] at hu; subst hu; simpa [RuleE] using c0
    | 1, hu => simp [GRule.cells] at hu; subst hu; simpa [RuleE] using c1
    | 2, hu => simp [GRule.cells] at hu; subst hu; simpa [RuleE] using c2
    | j + 3, hu => simp [GRule.cells] at hu
theorem ints_cells {w : World} {S : Nat → Prop} {a : Addr} {xs : List Int} (h : Row IntE w S (some a) xs) : ∀ j u, (xs.map (Value.int .i64))[j]? = some u → w.cell? (a.add j) = some u := by
  refine row_cells h _ (by simp [IntE]) ?_
  intro k x us hk hus j u hu
  have e : us = [.int .i64 x] := hus
  subst e
  cases j with
  | zero => simp at hu; subst hu; simp [IntE, hk]
  | succ j => simp at hu

theorem rules_one (xs : List GRule) : ∀ u ∈ xs.flatMap GRule.cells, u.oneCell' = true := by
  intro u hu
  rw [List.mem_flatMap] at hu
  obtain ⟨x, _, hx⟩ := hu
  simp [GRule.cells] at hx
  rcases hx with rfl | rfl | rfl <;> rfl

theorem run_append_of_nil {P : Program} (w : World) (base : Nat) (t ty e : TypeId) (i : TypeInfo) (size : Nat) (ht : P.underlying t = some (.slice e)) (hi : P.info? e = some i)
    (v : Value) (n : Nat) (xs : List Value) (hown : w.ownsRow base e size v n xs) (c : Nat) : (Builtin.append_ #[t, t] ty #[v, .slice none 0 c]).run P w = .ok v w := by
  rcases hown.2 with ⟨rfl, rfl⟩ | ⟨g, cap, cur, rfl, _, _, hnc, _⟩
  · simp [Builtin.append_, run_underlying ht, sizeOf, typeInfo, hi, Builtin.lenOf, Builtin.firstCells]
  · simp [Builtin.append_, run_underlying ht, sizeOf, typeInfo, hi, Builtin.lenOf, Builtin.firstCells, hnc, storeCells]

/-- 'append(s, x...)' onto a row of the call's own, x any slice of rules. -/
theorem append_rules {W : World} {ops : Array Oper} {rest : List Oper} {o : Oper} {a : Act} {Q : Exit → Act → World → Prop} (hgd : o.guard = none) (s x : Operand)
    (ho : o.op = .call { callee := .builtin .append, args := #[s, x], argTypes := #[26, 26] }) {ys : List GRule} {base : Nat} {v sv : Value} {l : List GRule} {S : Nat → Prop}
    (hs : a.eval s = v) (hx : a.eval x = sv) (hown : OwnRules W base v l) (hsl : SlS RuleE W S sv ys) (hlen : l.length + ys.length ≤ 1099511627776) (hbase : base ≤ W.heap.size)
    (h : ∀ v' w', OwnRules w' base v' (l ++ ys) → W.grownBy w' v.ownBlock → Below base W w' → wpList Try.prog ops Q rest (a.put o.dst v') w') :
    wpList Try.prog ops Q (o :: rest) a W := by
  obtain ⟨i0, hi0, hz0, hz1, hz2⟩ := info_parts Try.infoR
  obtain ⟨A, c, rfl, hc, hm, hrow⟩ := hsl
  refine wpList_plain hgd fun _ hK => ?_
  have H : ∃ v' w', (Builtin.append_ #[26, 26] o.type #[v, .slice A ys.length c]).run Try.prog W = .ok v' w' ∧ OwnRules w' base v' (l ++ ys) ∧ W.grownBy w' v.ownBlock := by
    rcases A with _ | ad
    · have h0 : ys = [] := by
        rcases Nat.eq_zero_or_pos ys.length with h0 | h0
        · exact List.eq_nil_of_length_eq_zero h0
        · obtain ⟨b, o, h, _⟩ := hrow h0; cases h
      subst h0
      exact ⟨v, W, run_append_of_nil W base _ _ 171 i0 3 Try.underlying26 hi0 v _ _ hown c, by simpa using hown, World.grownBy.refl W _⟩
    · obtain ⟨v', w', hrun, h2, h3, _⟩ := run_append_own_at (P := Try.prog) W base 26 o.type 171 i0 _ 3 32 Try.underlying26 hi0 hz0 hz1 hz2 rfl (by decide) v _ _ hown ad ys.length c (ys.flatMap GRule.cells)
        (cells_len ys) (rules_cells hrow) (rules_one ys) (by simp only [maxLen]; omega) (by omega) hbase
      exact ⟨v', w', hrun, by unfold OwnRules; simpa using h2, h3⟩
  obtain ⟨v', w', hrun, h2, h3⟩ := H
  unfold Oper.wp execOp
  simp only [ho, resolve, invoke, builtin, Sem.run_bind, Sem.run_pure, Result.andThen_ok, List.map_toArray, List.map_cons, List.map_nil, hs, hx, hrun]
  exact hK _ _ (h v' w' h2 h3 ((Below.refl base W).grown h3 hbase (fun k hk => (World.ownsRow.lt hown k hk).1)))

theorem Clone_any (v : Value) (xs : List GRule) (w : World) (h : Sl RuleE w w.heap.size v xs) (hn : xs.length ≤ 1099511627776) :
    Calls Try.prog 231 #[v] w fun e w' => ∃ v', e = .returned v' ∧ OwnRules w' w.heap.size v' xs ∧ Below w.heap.size w w' := by
  have h1 := fun o => (h.below ((Below.refl w.heap.size w).alloc (Nat.le_refl _) o))
  have H1 := Lib.hid h1
  clear h1
  obtain ⟨A, c, rfl, hc, hm, hrow⟩ := h
  rcases A with _ | ad
  · have h0 : xs = [] := by
      rcases Nat.eq_zero_or_pos xs.length with h0 | h0
      · exact List.eq_nil_of_length_eq_zero h0
      · obtain ⟨b, o, h, _⟩ := hrow h0; cases h
    subst h0
    clear hm hrow
    have heq := fun W => Lib.run_eql_slice_nil (P := Try.prog) W 26 171 none 0 c 0 0 Try.underlying26
    go_enter Try.func231, Try.ntmps231
    go_wp2
    go_ret
    exact ⟨_, rfl, World.ownsRow_nil _ _ _ _, Below.refl _ _⟩
  · clear hm hrow
    have heq := fun W => Lib.run_eql_slice_nil (P := Try.prog) W 26 171 (some ad) xs.length c 0 0 Try.underlying26
    go_enter Try.func231, Try.ntmps231
    go_wp2_with (at_builtin; go_must (refine append_rules rfl _ _ rfl rfl rfl (OwnRules.empty rfl (Nat.le_refl _)) (H1.out _) (by simp; omega) (by simp) ?_); intro v' w1 hown1 hg1 hb1)
    go_ret
    exact ⟨v', rfl, hown1, ((Below.refl _ _).alloc (Nat.le_refl _) _).trans hb1⟩

theorem copied_any (v : Value) (xs : List GRule) (w : World) (h : Sl RuleE w w.heap.size v xs) (hn : xs.length ≤ 1099511627776) :
    Calls Try.prog 179 #[.agg #[v]] w fun e w' => ∃ v', e = .returned (.agg #[v']) ∧ OwnRules w' w.heap.size v' xs ∧ Below w.heap.size w w' := by
  have h1 := fun o o' => (h.below (((Below.refl w.heap.size w).alloc (Nat.le_refl _) o).alloc (by simp) o')).le (B' := ((w.alloc o).alloc o').heap.size) (by simp; omega)
  have H1 := Lib.hid h1
  clear h1
  obtain ⟨A, c, rfl, _⟩ := h
  go_enter Try.func179, Try.ntmps179
  go_wp2_with fail
  refine (Clone_any _ _ _ (H1.out _ _) hn).mono ?_
  rintro e w1 ⟨v1, rfl, hown, hb1⟩
  obtain ⟨A1, c1, rfl, _⟩ := own_nil hown
  obtain ⟨hc1, hf1⟩ := bcell hb1
  have hz1 : w.heap.size + 2 ≤ w1.heap.size := by have := hb1.size; simp at this; omega
  have Hown := Lib.hid hown
  have Hb1 := Lib.hid hb1
  clear hown hb1
  go_wp2
  refine bodyPost_ret (v := .agg #[.slice A1 xs.length c1]) (by simp [results, Try.results179, go_sem, hc1]) rfl ⟨_, rfl, ?_, ?_⟩
  · have h4 : w1.ownsRow (w.heap.size + 2) 171 3 (.slice A1 xs.length c1) xs.length (xs.flatMap GRule.cells) := ownsRow_more Hown.out (by simp)
    exact ownsRow_more (ownsRow_setCell_below h4 (by show w.heap.size + 1 < w.heap.size + 2; omega) _) (by omega)
  · exact ((((Below.refl _ _).alloc (Nat.le_refl _) _).alloc (by simp) _).trans (Hb1.out.mono (by simp; omega))).setCell (by show w.heap.size ≤ w.heap.size + 1; omega) _

theorem l02Own_any (b o : Nat) (v : Value) (xs : List GRule) (w : World) (hp : w.cell? ⟨b, o, none⟩ = some v) (hbl : b < w.heap.size) (h : Sl RuleE w w.heap.size v xs) (hn : xs.length ≤ 1099511627776) :
    Calls Try.prog 172 #[.pointer (some ⟨b, o, none⟩)] w fun e w' => ∃ v', e = .returned (.agg #[v']) ∧ OwnRules w' w.heap.size v' xs ∧ Below w.heap.size w w' := by
  have h1 := fun o o' => (h.below (((Below.refl w.heap.size w).alloc (Nat.le_refl _) o).alloc (by simp) o'))
  have H1 := Lib.hid h1
  clear h1
  obtain ⟨A, c, rfl, _⟩ := h
  go_enter Try.func172, Try.ntmps172
  go_wp2_with (at_builtin; go_must (refine append_rules (base := w.heap.size + 1) rfl _ _ rfl rfl rfl (OwnRules.empty (by simp) (by simp)) (H1.out _ _) (by first | omega | (simp; done) | (simp; omega)) (by first | omega | (simp; done) | (simp; omega)) ?_); intro v' w1 hown1 hg1 hb1; simp only [List.nil_append] at hown1; obtain ⟨A1, c1, rfl, _⟩ := own_nil hown1; obtain ⟨hc1, hf1⟩ := bcell hb1; have Hown := Lib.hid hown1; have hz1 : w.heap.size + 1 ≤ w1.heap.size := (by have := hb1.size; simp at this; omega); clear hg1 hown1)
  refine bodyPost_ret (v := .agg #[.slice A1 xs.length c1]) (by simp [results, Try.results172, go_sem, hc1]) rfl ⟨_, rfl, ?_, ?_⟩
  · have h4 := Hown.out
    exact ownsRow_more (ownsRow_setCell_below h4 (by show w.heap.size < w.heap.size + 1; omega) _) (by omega)
  · exact ((((Below.refl _ _).alloc (Nat.le_refl _) _).alloc (by simp) _).trans (hb1.mono (by omega))).setCell (Nat.le_refl _) _
end Go.Proofs.Ytoemoifeiigkoaa
