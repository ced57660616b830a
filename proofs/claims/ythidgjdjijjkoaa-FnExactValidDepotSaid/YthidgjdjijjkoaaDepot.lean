import Derived.Test.YthidgjdjijjkoaaAuto5
namespace Go.Proofs.Ythidgjdjijjkoaa
open Go.RowKit

structure GDepot where
  servers : Int
  names : Int
  words : List (List GRule)
def DepotV (w : World) (B : Nat) (v : Value) (d : GDepot) : Prop := ∃ vW, v = .agg #[.int .i64 d.servers, .int .i64 d.names, vW] ∧ Sl (SliceE RuleE) w B vW d.words
theorem DepotV.below {w w' : World} {B : Nat} {v : Value} {a : GDepot} (h : DepotV w B v a) (hb : Below B w w') : DepotV w' B v a := by
  obtain ⟨vW, rfl, h1⟩ := h
  exact ⟨vW, rfl, h1.below hb⟩
theorem DepotV.le {w : World} {B B' : Nat} {v : Value} {a : GDepot} (h : DepotV w B v a) (hb : B ≤ B') : DepotV w B' v a := by
  obtain ⟨vW, rfl, h1⟩ := h
  exact ⟨vW, rfl, h1.le hb⟩
theorem DepotV.up {w0 w : World} {v : Value} {a : GDepot} (h : DepotV w0 w0.heap.size v a) (hb : Below w0.heap.size w0 w) : DepotV w w.heap.size v a := (h.below hb).le hb.size
def SmallLs (ws : List (List GRule)) : Prop := ∀ g ∈ ws, SmallL g

/-! sizes -/
def szG (xs : List GRule) (left : Int) : Int := if szRs xs left < 0 then -1 else szRs xs left
def szGG : List (List GRule) → Int → Int
  | [], left => left
  | x :: xs, left => if szG x left < 0 then -1 else szGG xs (szG x left)
def szGs (xs : List (List GRule)) (left : Int) : Int := if szN xs.length left < 0 then -1 else szGG xs (szN xs.length left)
theorem szGG_at (xs : List (List GRule)) (left : Int) (k : Nat) (x : List GRule) (hx : xs[k]? = some x) : szGG (xs.drop k) left = if szG x left < 0 then -1 else szGG (xs.drop (k+1)) (szG x left) := by
  obtain ⟨hk, rfl⟩ := List.getElem?_eq_some_iff.1 hx
  rw [List.drop_eq_getElem_cons hk]; rfl
theorem szG_le {x : List GRule} {l : Int} (h : 0 ≤ szG x l) : szG x l ≤ l ∧ (x.length : Int) ≤ l := by
  unfold szG at *
  split at h
  · omega
  · rename_i h2
    rw [if_neg h2]
    exact szRs_le x l h
theorem szGG_all (xs : List (List GRule)) : ∀ left : Int, 0 ≤ szGG xs left → left ≤ 1048576 → ∀ x ∈ xs, x.length ≤ 1048576 := by
  induction xs with
  | nil => intro l _ _ x hx; simp at hx
  | cons y ys ih =>
    intro l h hl x hx
    unfold szGG at h
    split at h
    · omega
    · rename_i hn
      obtain ⟨h3, h4⟩ := szG_le (x := y) (l := l) (by omega)
      rcases List.mem_cons.1 hx with rfl | hx
      · omega
      · exact ih _ h (by omega) x hx
theorem szGs_le {xs : List (List GRule)} (h : 0 ≤ szGs xs 1048576) : xs.length ≤ 1048576 ∧ ∀ x ∈ xs, x.length ≤ 1048576 := by
  unfold szGs at h
  split at h
  · omega
  · rename_i h5
    have h6 : szN xs.length 1048576 ≤ 1048576 := by unfold szN; split <;> omega
    have h7 : (xs.length : Int) ≤ 1048576 := by unfold szN at h5; split at h5 <;> omega
    exact ⟨by omega, szGG_all _ _ h h6⟩

set_option maxRecDepth 100000 in
theorem szGrammarS_any (v : Value) (xs : List (List GRule)) (left : Int) (w : World) (h : Sl (SliceE RuleE) w w.heap.size v xs) (hsm : SmallLs xs) (hl : 0 ≤ left ∧ left ≤ 1048576) :
    Calls Try.prog 65 #[v, .int .i64 left] w fun e w' => e = .returned (.int .i64 (szGs xs left)) ∧ Below w.heap.size w w' := by
  obtain ⟨A, c, rfl, hc, hm, hrow⟩ := h
  unfold maxLen at hm
  have Hsm := Lib.hid hsm
  clear hsm
  go_enter Try.func65, Try.ntmps65
  go_wp2_with fail
  · go_ret
    exact ⟨ret_int (by unfold szGs szN; rw [if_pos (by omega)]), Below.refl _ _⟩
  · have hs : szN xs.length left = left - xs.length := by unfold szN; rw [if_neg (by omega)]
    have hfin : szGs xs left = szGG xs (left - xs.length) := by unfold szGs; rw [hs, if_neg (by omega)]
    have Hfin := Lib.hid hfin
    clear hs hfin
    go_loopw [1, 5] (fun l i wr => ∃ (k : Nat) (q : Int), k ≤ xs.length ∧ 0 ≤ q ∧ q ≤ 1048576 ∧ i = .int .i64 k ∧ l = .int .i64 q ∧ Hid (szGG (xs.drop k) q = szGs xs left) ∧ Below w.heap.size w wr) (fun _ i _ => xs.length - (intOf i).toNat)
    case atStart => exact ⟨0, _, Nat.zero_le _, by omega, by omega, rfl, rfl, by rw [Hfin.out]; rfl, Below.refl _ _⟩
    case round =>
      obtain ⟨k, q, hk, hq0, hq1, rfl, rfl, HN, hb⟩ := hrel
      by_cases hlt : k < xs.length
      · obtain ⟨b, o, rfl, hbl, hcell⟩ := hrow.sl hlt
        obtain ⟨x, hx⟩ : ∃ x, xs[k]? = some x := ⟨_, List.getElem?_eq_getElem hlt⟩
        obtain ⟨u, hu, hsl⟩ := hcell k x hx
        have hc0 := (hb.cell (p := ⟨b, o + k, none⟩) hbl).trans hu
        have Hsl := Lib.hid ((hsl.below hb).le (B' := wr.heap.size) hb.size)
        have Hx := Lib.hid hx
        have hsx := Hsm.out x (List.mem_of_getElem? hx)
        clear hcell hx hu hsl
        go_wp2_with fail
        refine (szGrammar_any _ x _ _ Hsl.out hsx ⟨hq0, hq1⟩).mono ?_
        rintro e w2 ⟨rfl, hb2⟩
        have B2 := Lib.hid (hb.trans (hb2.mono hb.size))
        have e2 : Hid (szGG (xs.drop k) q = if szG x q < 0 then -1 else szGG (xs.drop (k + 1)) (szG x q)) := szGG_at _ _ _ _ Hx.out
        have eg : (if szRs x q < 0 then -1 else szRs x q) = szG x q := rfl
        rw [eg]
        clear hb2 eg
        by_cases c1 : szG x q < 0
        · have E2 : Hid (szGs xs left = -1) := by rw [Hid, ← HN.out, e2.out, if_pos c1]
          go_wp2_with fail
          go_ret
          exact ⟨ret_int E2.out.symm, B2.out⟩
        · have E2 : Hid (szGG (xs.drop (k + 1)) (szG x q) = szGs xs left) := by rw [Hid, ← HN.out, e2.out, if_neg c1]
          have h3 := szG_le (x := x) (l := q) (by omega)
          obtain ⟨h3, _⟩ := h3
          go_wp2_with fail
          go_roundw
          case rel => exact ⟨k + 1, _, by omega, by omega, by omega, by go_num, rfl, E2.out, B2.out⟩
          case measure => simp [intOf]; omega
      · go_wp2
        go_ret
        exact ⟨ret_int (by have := HN.out; rw [List.drop_eq_nil_of_le (by omega)] at this; exact this), hb⟩

theorem szDepot_any (v : Value) (a : GDepot) (left : Int) (w : World) (h : DepotV w w.heap.size v a) (hsm : SmallLs a.words) (hl : 0 ≤ left ∧ left ≤ 1048576) :
    Calls Try.prog 21 #[v, .int .i64 left] w fun e w' => e = .returned (.int .i64 (if szGs a.words left < 0 then -1 else szGs a.words left)) ∧ Below w.heap.size w w' := by
  obtain ⟨vW, rfl, hW⟩ := h
  have hW' := fun o => (hW.below ((Below.refl w.heap.size w).alloc (Nat.le_refl _) o)).le (B' := (w.alloc o).heap.size) (by simp)
  have HW := Lib.hid hW'
  clear hW'
  obtain ⟨AW, cW, rfl, _⟩ := hW
  go_enter Try.func21, Try.ntmps21
  go_wp2_with fail
  refine (szGrammarS_any _ _ _ _ (HW.out _) hsm hl).mono ?_
  rintro e w1 ⟨rfl, hb1⟩
  have B1 := Lib.hid (((Below.refl w.heap.size w).alloc (Nat.le_refl _) _).trans (hb1.mono (by simp)))
  clear hb1
  by_cases c1 : szGs a.words left < 0
  · go_wp2_with fail
    go_ret
    exact ⟨rfl, B1.out⟩
  · go_wp2_with fail
    go_ret
    exact ⟨rfl, B1.out⟩

/-! new memory -/
theorem Try.infoG : (Try.prog.info? 56).map (fun i => (i.zero, i.size, i.bytes)) = some (some (.agg #[.slice none 0 0]), 1, 24) := by kernel_rfl
theorem madeGrams (n : Nat) : (madeCells (Value.agg #[.slice none 0 0]).cells (n * 1)).toList = List.replicate n (Value.slice none 0 0) := by
  rw [Nat.mul_one]; exact toList_madeCells_one _ n

set_option maxRecDepth 100000 in
theorem toGrammarS_any (v : Value) (xs : List (List GRule)) (w : World) (h : Sl (SliceE RuleE) w w.heap.size v xs) (hl : xs.length ≤ 1048576) (hll : ∀ x ∈ xs, x.length ≤ 1048576) :
    Calls Try.prog 67 #[v] w fun e w' => ∃ v', e = .returned v' ∧ SlS (SliceE RuleE) w' (fun b => w.heap.size ≤ b ∧ b < w'.heap.size) v' xs ∧ Below w.heap.size w w' := by
  obtain ⟨A, c, rfl, hc, hm, hrow⟩ := h
  clear hm
  have Hll := Lib.hid hll
  clear hll
  obtain ⟨i0, hi0, hz0, hz1, hz2⟩ := info_parts Try.infoG
  go_enter Try.func67, Try.ntmps67
  go_wp2_with (at_make; go_must (refine wpList_make_full _ rfl _ _ 44 rfl w.heap.size 56 i0 _ 1 Try.underlying44 hi0 hz0 hz1 _ _ _ _ xs.length rfl rfl rfl rfl (by rw [hz2]; omega) (by unfold maxLen; omega) (Nat.le_refl _) ?_); intro w1 hown1 hg1; rw [madeGrams] at hown1)
  have hb1 : Below w.heap.size w w1 := (Below.refl _ _).grown hg1 (Nat.le_refl _) (by simp)
  have hlt1 : w.heap.size < w1.heap.size := (hown1.lt _ rfl).2
  have Hown := Lib.hid hown1
  clear hown1 hg1 hi0 hz0 hz1 hz2
  go_loopw [4] (fun i wr => ∃ (k : Nat) (vs : List Value), k ≤ xs.length ∧ i = .int .i64 k ∧ Below w.heap.size w wr ∧ w.heap.size < wr.heap.size ∧ Each RuleE wr (fun b => w.heap.size < b ∧ b < wr.heap.size) vs (xs.take k) ∧
    wr.ownsRow w.heap.size 56 1 (.slice (some ⟨w.heap.size, 0, none⟩) xs.length xs.length) xs.length (vs ++ List.replicate (xs.length - k) (.slice none 0 0))) (fun i _ => xs.length - (intOf i).toNat)
  case atStart => exact ⟨0, [], Nat.zero_le _, rfl, hb1, hlt1, Each.nil, by simpa using Hown.out⟩
  case round =>
    obtain ⟨k, vs, hk, rfl, hb, hsz, hea, hown⟩ := hrel
    by_cases hlt : k < xs.length
    · obtain ⟨b, o, rfl, hbl, hcell⟩ := hrow.sl hlt
      obtain ⟨x, hx⟩ : ∃ x, xs[k]? = some x := ⟨_, List.getElem?_eq_getElem hlt⟩
      obtain ⟨u, hu, hsl⟩ := hcell k x hx
      have hc0 : wr.cell? ⟨b, o + k, none⟩ = some u := (hb.cell hbl).trans hu
      have hxl := Hll.out x (List.mem_of_getElem? hx)
      have hsl' : Sl RuleE wr wr.heap.size u x := (hsl.below hb).le (by omega)
      have hvk : vs.length = k := by rw [hea.1, List.length_take]; omega
      have Hsl' := Lib.hid hsl'
      have Hx := Lib.hid hx
      have Hvk := Lib.hid hvk
      have Hea := Lib.hid hea
      have Hown := Lib.hid hown
      clear hcell hown hx hu hsl hsl' hvk hea
      obtain ⟨Au, cu, rfl, _⟩ := Hsl'.out
      go_wp2_with fail
      refine (toGrammar_any _ _ _ Hsl'.out hxl).mono ?_
      rintro e w2 ⟨v2, rfl, hown2, hb2⟩
      have hgk : w2.ownsRow w.heap.size 56 1 (.slice (some ⟨w.heap.size, 0, none⟩) xs.length xs.length) xs.length (vs ++ List.replicate (xs.length - k) (.slice none 0 0)) :=
        ownsRow_below Hown.out hb2
      have hvk := Hvk.out
      obtain ⟨u2, hu2⟩ : ∃ u, w2.cell? ⟨w.heap.size, k, none⟩ = some u := by
        refine ⟨_, (hgk.cellAt k (by omega)).trans (List.getElem?_eq_getElem ?_)⟩
        simp; omega
      clear hvk
      have hfz := hgk.frozenAt k
      have hst := hgk.stored k v2
      have hkp : Keep (fun b => w.heap.size < b ∧ b < w2.heap.size) w2 (w2.setCell ⟨w.heap.size, k, none⟩ v2) := (Keep.of_grown hst.2).mono fun b hb => ⟨hb.2, by simp; omega⟩
      have Hst := Lib.hid hst
      have hs2 := hown2.slS (S := fun b => w.heap.size < b ∧ b < w2.heap.size) fun g hg => by have := hown2.lt g hg; omega
      have hea2 := ((Hea.out.keep (Keep.of_below hb2 |>.mono fun b h => h.2)).more (S' := fun b => w.heap.size < b ∧ b < w2.heap.size) fun b h => ⟨h.1, Nat.lt_of_lt_of_le h.2 hb2.size⟩).snoc hs2
      have hsz2 : w.heap.size < w2.heap.size := Nat.lt_of_lt_of_le hsz hb2.size
      clear hgk hst
      obtain ⟨A2, c2, hv2, _⟩ := own_nil hown2
      have Hfin : Hid (∃ (vs' : List Value), Each RuleE (w2.setCell ⟨w.heap.size, k, none⟩ v2) (fun b => w.heap.size < b ∧ b < w2.heap.size) vs' (xs.take (k + 1)) ∧
          (w2.setCell ⟨w.heap.size, k, none⟩ v2).ownsRow w.heap.size 56 1 (.slice (some ⟨w.heap.size, 0, none⟩) xs.length xs.length) xs.length (vs' ++ List.replicate (xs.length - (k + 1)) (.slice none 0 0))) := by
        refine ⟨vs ++ [v2], ?_, ?_⟩
        · rw [List.take_add_one, Hx.out]
          exact hea2.keep hkp
        · have := Hst.out.1
          rw [List.set_append, if_neg (by rw [Hvk.out]; omega), Hvk.out, Nat.sub_self, show xs.length - k = (xs.length - (k+1)) + 1 by omega, List.replicate_succ, List.set_cons_zero] at this
          simpa using this
      have hb3 : Below w.heap.size w (w2.setCell ⟨w.heap.size, k, none⟩ v2) := ((hb.trans (hb2.mono (by omega))).setCell (Nat.le_refl _) _)
      subst hv2
      clear hea2 hs2 hkp
      go_wp2
      go_roundw
      case rel =>
        obtain ⟨vs', h1, h2⟩ := Hfin.out
        exact ⟨k + 1, vs', by omega, by go_num, hb3, by simpa [World.setCell] using hsz2, by simpa [World.setCell] using h1, h2⟩
      case measure => simp [intOf]; omega
    · have hkn : k = xs.length := by omega
      subst hkn
      have Hown2 := Lib.hid hown
      have Hea := Lib.hid hea
      clear hown hea
      go_wp2
      go_ret
      refine ⟨_, rfl, ?_, hb⟩
      have h1 := Hea.out
      have h2 := Hown2.out
      rw [List.take_length] at h1
      exact (h1.more fun b h => ⟨by omega, h.2⟩).sl (by simpa using h2) fun g hg => by simp [Value.ownBlock] at hg; subst hg; exact ⟨Nat.le_refl _, hsz⟩
end Go.Proofs.Ythidgjdjijjkoaa
