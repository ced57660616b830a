import Derived.Test.YthidgjdjijjkoaaJoin
namespace Go.Proofs.Ythidgjdjijjkoaa
open Go.RowKit

def limOut (xs : List GRule) : List GRule := if gramOk xs then xs else []
def limCode (xs : List GRule) : Int := if gramOk xs then 0 else 3
def joinOut (xs ys : List GRule) : List GRule := if gramOk xs && gramOk ys then limOut (joinG xs ys) else []
def joinCode (xs ys : List GRule) : Int := if gramOk xs && gramOk ys then limCode (joinG xs ys) else 1

theorem lens_okRule {xs : List GRule} {ls : List Int} (h : lens xs = some ls) : ∀ (k : Nat) r, xs[k]? = some r → okRule k r = true := by
  intro k r hr
  rcases hk : lens (xs.take k) with _ | out
  · have h2 : lens xs = (xs.drop k).foldl lensStep (lens (xs.take k)) := by unfold lens; rw [← List.foldl_append, List.take_append_drop]
    rw [h2, hk, lens_none] at h; cases h
  · by_cases hok : okRule k r = true
    · exact hok
    · have hlen := lens_length hk
      rw [List.length_take, Nat.min_eq_left (Nat.le_of_lt (List.getElem?_eq_some_iff.1 hr).1)] at hlen
      have hb := lens_bad hk hr (lensStep_none (by rw [hlen]; simpa using hok))
      rw [hb] at h; cases h
theorem gram_lens {xs : List GRule} (h : gramOk xs = true) : xs.length ≤ 400 ∧ ∃ ls, lens xs = some ls := by
  simp only [gramOk, Bool.and_eq_true, decide_eq_true_eq] at h
  exact ⟨h.1, Option.isSome_iff_exists.1 h.2⟩
theorem gram_smallP {xs : List GRule} (h : gramOk xs = true) : SmallP xs := by
  obtain ⟨hl, ls, hls⟩ := gram_lens h
  intro r hr hp
  obtain ⟨k, hk, he⟩ := List.getElem_of_mem hr
  have hok := lens_okRule hls k r (by rw [List.getElem?_eq_getElem hk, he])
  simp [okRule, hp] at hok
  omega
theorem joinG_len {xs ys : List GRule} (h : xs.length ≤ 400) (h' : ys.length ≤ 400) : (joinG xs ys).length ≤ 801 := by
  unfold joinG
  split
  · omega
  · split
    · omega
    · simp; omega

def LimPost (base : Nat) (xs : List GRule) (w : World) (e : Ending) (w' : World) : Prop :=
  Below w.heap.size w w' ∧ ∃ v', OwnRules w' base v' (limOut xs) ∧ e = .returned (.tuple #[.agg #[v'], .int .i64 (limCode xs)])

theorem orLimit_any (base : Nat) (v : Value) (xs : List GRule) (w : World) (h : OwnRules w base v xs) (hn : xs.length ≤ 1099511627776) :
    Calls Try.prog 82 #[.agg #[v]] w (LimPost base xs w) := by
  have h1 := fun o o' => (h.sl.below (((Below.refl w.heap.size w).alloc (Nat.le_refl _) o).alloc (by simp) o')).le (B' := ((w.alloc o).alloc o').heap.size) (by simp; omega)
  have hv : v.ownBlock ≠ some (w.heap.size + 1) := fun e => by have := (World.ownsRow.lt h _ e).2; omega
  have H1 := Lib.hid h1
  have H := Lib.hid h
  have Hv := Lib.hid hv
  clear h1 hv
  obtain ⟨A, c, rfl, _⟩ := own_nil h
  clear h
  go_enter Try.func82, Try.ntmps82
  go_wp2_with fail
  refine (ValidGrammar_any _ _ _ (H1.out _ _) hn).mono ?_
  rintro e w1 ⟨rfl, hb1⟩
  obtain ⟨hc1, hf1⟩ := bcell hb1
  have hz1 : w.heap.size + 1 < w1.heap.size := by have := hb1.size; simp at this; omega
  have hc2 : w1.cell? ⟨w.heap.size + 1, 0, none⟩ = some (.slice none 0 0) := by rw [hc1 _ _ (by simp)]; simp [go_sem]
  have hf2 : w1.frozen? ⟨w.heap.size + 1, 0, none⟩ = false := by rw [hf1 _ _ (by simp)]; simp [go_sem]
  have hc3 : w1.cell? ⟨w.heap.size, 0, none⟩ = some (.slice A xs.length c) := by rw [hc1 _ _ (by simp; omega)]; simp [go_sem]
  have Hb1 := Lib.hid (((Below.refl w.heap.size w).alloc (Nat.le_refl _) (Obj.cells #[Value.slice A xs.length c] 56)).alloc (by simp) (Obj.cells #[Value.slice none 0 0] 56) |>.trans (hb1.mono (by simp; omega)))
  clear hc1 hf1 hb1
  by_cases hok : gramOk xs = true
  · have hok2 : (!gramOk xs) = false := by simp [hok]
    have Hok := Lib.hid hok
    clear hok
    go_wp2
    refine bodyPost_ret (v := .tuple #[.agg #[.slice A xs.length c], .int .i64 0]) (by simp [results, Try.results82, go_sem, hc2]) rfl ⟨?_, _, ?_, by rw [limCode, if_pos Hok.out]⟩
    · exact Hb1.out.setCell (by show w.heap.size ≤ w.heap.size + 1; omega) _
    · rw [limOut, if_pos Hok.out]
      refine own_keep (OwnRules.below H.out Hb1.out) fun g hg => Below.heap_setCell _ _ _ _ (fun e => Hv.out ?_)
      rw [hg, e]
  · have hok2 : (!gramOk xs) = true := by simp [hok]
    have Hok := Lib.hid hok
    clear hok
    go_wp2
    refine bodyPost_ret (v := .tuple #[.agg #[.slice none 0 0], .int .i64 3]) (by simp [results, Try.results82, go_sem, hc2]) rfl ⟨?_, _, ?_, by rw [limCode, if_neg Hok.out]⟩
    · exact Hb1.out.setCell (by show w.heap.size ≤ w.heap.size + 1; omega) _
    · rw [limOut, if_neg Hok.out]; exact World.ownsRow_nil _ _ _ _

set_option maxHeartbeats 1000000 in
theorem implJoin_any (v u : Value) (xs ys : List GRule) (w : World) (h : Sl RuleE w w.heap.size v xs) (h' : Sl RuleE w w.heap.size u ys) (hn : xs.length ≤ 1048576) (hn' : ys.length ≤ 1048576) :
    Calls Try.prog 34 #[.agg #[v], .agg #[u]] w (GRes (joinOut xs ys) (joinCode xs ys) w) := by
  have h1 := fun o o' o'' => (h.below ((((Below.refl w.heap.size w).alloc (Nat.le_refl _) o).alloc (by simp) o').alloc (by first | omega | (simp; done) | (simp; omega)) o'')).le (B' := (((w.alloc o).alloc o').alloc o'').heap.size) (by simp; omega)
  have h2 := fun o o' o'' => (h'.below ((((Below.refl w.heap.size w).alloc (Nat.le_refl _) o).alloc (by simp) o').alloc (by first | omega | (simp; done) | (simp; omega)) o'')).le (B' := (((w.alloc o).alloc o').alloc o'').heap.size) (by simp; omega)
  have H1 := Lib.hid h1
  have H2 := Lib.hid h2
  clear h1 h2
  obtain ⟨A, c, rfl, hc, hm, hrow⟩ := h
  obtain ⟨A', c', rfl, hc', hm', hrow'⟩ := h'
  clear hm hm' hrow hrow'
  go_enter Try.func34, Try.ntmps34
  go_wp2_with fail
  refine (ValidGrammar_any _ _ _ (H1.out _ _ _) (by omega)).mono ?_
  rintro e w1 ⟨rfl, hb1⟩
  obtain ⟨hc1, hf1⟩ := bcell hb1
  have hz1 : w.heap.size + 2 < w1.heap.size := by have := hb1.size; simp at this; omega
  have a1 : w1.cell? ⟨w.heap.size, 0, none⟩ = some (.slice A xs.length c) := by rw [hc1 _ _ (by first | omega | (simp; done) | (simp; omega))]; simp [go_sem]
  have b1 : w1.cell? ⟨w.heap.size + 1, 0, none⟩ = some (.slice A' ys.length c') := by rw [hc1 _ _ (by first | omega | (simp; done) | (simp; omega))]; simp [go_sem]
  have c1 : w1.cell? ⟨w.heap.size + 2, 0, none⟩ = some (.slice none 0 0) := by rw [hc1 _ _ (by first | omega | (simp; done) | (simp; omega))]; simp [go_sem]
  have f1 : w1.frozen? ⟨w.heap.size + 2, 0, none⟩ = false := by rw [hf1 _ _ (by first | omega | (simp; done) | (simp; omega))]; simp [go_sem]
  have S1 := Lib.hid ((H1.out (Obj.cells #[Value.slice A xs.length c] 56) (Obj.cells #[Value.slice A' ys.length c'] 56) (Obj.cells #[Value.slice none 0 0] 56)).up hb1)
  have T1 := Lib.hid ((H2.out (Obj.cells #[Value.slice A xs.length c] 56) (Obj.cells #[Value.slice A' ys.length c'] 56) (Obj.cells #[Value.slice none 0 0] 56)).up hb1)
  have B1 := Lib.hid ((((Below.refl w.heap.size w).alloc (Nat.le_refl _) (Obj.cells #[Value.slice A xs.length c] 56)).alloc (by simp) (Obj.cells #[Value.slice A' ys.length c'] 56)).alloc (by simp; omega) (Obj.cells #[Value.slice none 0 0] 56) |>.trans (hb1.mono (by simp; omega)))
  clear hc1 hf1 hb1
  by_cases hok : gramOk xs = true
  · have hok2 : (!gramOk xs) = false := by simp [hok]
    have Hok := Lib.hid hok
    clear hok
    go_wp2_with fail
    refine (ValidGrammar_any _ _ _ T1.out (by omega)).mono ?_
    rintro e w2 ⟨rfl, hb2⟩
    have z2 : w1.heap.size ≤ w2.heap.size := hb2.size
    have hz2 : w.heap.size + 2 < w2.heap.size := by omega
    have a2 := cell_up a1 hb2 (by omega)
    have b2 := cell_up b1 hb2 (by omega)
    have c2 := cell_up c1 hb2 (by omega)
    have f2 : w2.frozen? ⟨w.heap.size + 2, 0, none⟩ = false := by rw [hb2.frozen hz1, f1]
    have S2 := Lib.hid (S1.out.up hb2)
    have T2 := Lib.hid (T1.out.up hb2)
    have B2 := Lib.hid (B1.out.trans (hb2.mono (by omega)))
    clear a1 b1 c1 f1 hb2
    by_cases hoky : gramOk ys = true
    · have hoky2 : (!gramOk ys) = false := by simp [hoky]
      have Hoky := Lib.hid hoky
      clear hoky
      go_wp2_with fail
      refine (join_any _ _ _ _ _ S2.out T2.out hn hn' (gram_smallP Hoky.out)).mono ?_
      rintro e w3 ⟨hb3, v3, own3, rfl⟩
      have z3 : w2.heap.size ≤ w3.heap.size := hb3.size
      have hz3 : w.heap.size + 2 < w3.heap.size := by omega
      have c3 := cell_up c2 hb3 (by omega)
      have f3 : w3.frozen? ⟨w.heap.size + 2, 0, none⟩ = false := by rw [hb3.frozen hz2, f2]
      have B3 := Lib.hid (B2.out.trans (hb3.mono (by omega)))
      have O3 := Lib.hid own3
      have hjl := joinG_len (gram_lens Hok.out).1 (gram_lens Hoky.out).1
      clear a2 b2 c2 f2 hb3 own3
      go_wp2_with fail
      refine (orLimit_any _ _ _ _ O3.out (by omega)).mono ?_
      rintro e w4 ⟨hb4, v4, own4, rfl⟩
      obtain ⟨A4, k4, rfl, _⟩ := own_nil own4
      have c4 := cell_up c3 hb4 (by omega)
      have f4 : w4.frozen? ⟨w.heap.size + 2, 0, none⟩ = false := by rw [hb4.frozen hz3, f3]
      have B4 := Lib.hid (B3.out.trans (hb4.mono (by omega)))
      have O4 := Lib.hid own4
      clear c3 f3 hb4 own4
      have e1 : joinOut xs ys = limOut (joinG xs ys) := by rw [joinOut, Hok.out, Hoky.out]; rfl
      have e2 : joinCode xs ys = limCode (joinG xs ys) := by rw [joinCode, Hok.out, Hoky.out]; rfl
      have E1 := Lib.hid e1
      have E2 := Lib.hid e2
      clear e1 e2
      go_wp2
      refine bodyPost_ret (v := .tuple #[.agg #[.slice A4 (limOut (joinG xs ys)).length k4], .int .i64 (limCode (joinG xs ys))]) (by simp [results, Try.results34, go_sem, c4]) rfl ⟨?_, _, ?_, by rw [E2.out]⟩
      · exact B4.out.setCell (by show w.heap.size ≤ w.heap.size + 2; omega) _
      · rw [E1.out]
        exact ownsRow_more (ownsRow_setCell_below O4.out (a := ⟨w.heap.size + 2, 0, none⟩) (by show w.heap.size + 2 < w2.heap.size; omega) _) (by omega)
    · have hoky2 : (!gramOk ys) = true := by simp [hoky]
      have Hoky := Lib.hid hoky
      clear hoky
      go_wp2
      refine bodyPost_ret (v := .tuple #[.agg #[.slice none 0 0], .int .i64 1]) (by simp [results, Try.results34, go_sem, c2]) rfl ⟨?_, _, ?_, by rw [joinCode, if_neg (by simp [Hoky.out])]⟩
      · exact B2.out.setCell (by show w.heap.size ≤ w.heap.size + 2; omega) _
      · rw [joinOut, if_neg (by simp [Hoky.out])]; exact World.ownsRow_nil _ _ _ _
  · have hok2 : (!gramOk xs) = true := by simp [hok]
    have Hok := Lib.hid hok
    clear hok
    go_wp2
    refine bodyPost_ret (v := .tuple #[.agg #[.slice none 0 0], .int .i64 1]) (by simp [results, Try.results34, go_sem, c1]) rfl ⟨?_, _, ?_, by rw [joinCode, if_neg (by simp [Hok.out])]⟩
    · exact B1.out.setCell (by show w.heap.size ≤ w.heap.size + 2; omega) _
    · rw [joinOut, if_neg (by simp [Hok.out])]; exact World.ownsRow_nil _ _ _ _
end Go.Proofs.Ythidgjdjijjkoaa
