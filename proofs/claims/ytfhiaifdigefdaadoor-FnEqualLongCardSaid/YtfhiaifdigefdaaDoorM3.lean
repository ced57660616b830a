import Derived.Test.YtfhiaifdigefdaaDoorM2
import Derived.Deep.RegionLaw
import Derived.RangeFuncBox
import Derived.Shelf.Strconv.Itoa0
import Derived.Shelf.Strconv.Itoa1
import Derived.Shelf.LaysM
import Derived.Shelf.Strconv.Itoa2
import Derived.Shelf.Strconv.Itoa3
import Derived.Shelf.Strconv.Itoa4
import Derived.Test.YtfhiaifdigefdaaDoorProg
import Derived.Test.YtfhiaifdigefdaaDoorM1
import Derived.Lib.LaidTab
import Derived.WalkSmall
import Derived.Lib.OthersKept
import Derived.Deep.CutRange
import Derived.Deep.DeepCutAuto
namespace Go.Proofs.YtfhiaifdigefdaaDoor
open Go.RowKit
def limOut (xs : List GRule) : List GRule := if gramOk xs then xs else []
def limCode (xs : List GRule) : Int := if gramOk xs then 0 else 3
def joinOut (xs ys : List GRule) : List GRule := if gramOk xs && gramOk ys then limOut (joinG xs ys) else []
def joinCode (xs ys : List GRule) : Int := if gramOk xs && gramOk ys then limCode (joinG xs ys) else 1
theorem lens_okRule {xs : List GRule} {ls : List Int} (h : lens xs = some ls) : ∀ (k : Nat) r, xs[k]? = some r → okRule k r = true := by
  intro k r hr
  rcases hk : lens (xs.take k) with _ | out
  · have h2 : lens xs = (xs.drop k).foldl lensStep (lens (xs.take k)) := by unfold lens; rw [← List.foldl_append, List.take_append_drop]
    rw [h2, hk, lens_none] at h; cases h
  · by_cases hok : okRule k r = true
    · exact hok
    · have hlen := lens_length hk
      rw [List.length_take, Nat.min_eq_left (Nat.le_of_lt (List.getElem?_eq_some_iff.1 hr).1)] at hlen
      have hb := lens_bad hk hr (lensStep_none (by rw [hlen]; simpa using hok))
      rw [hb] at h; cases h
theorem gram_lens {xs : List GRule} (h : gramOk xs = true) : xs.length ≤ 400 ∧ ∃ ls, lens xs = some ls := by
  simp only [gramOk, Bool.and_eq_true, decide_eq_true_eq] at h
  exact ⟨h.1, Option.isSome_iff_exists.1 h.2⟩
theorem gram_smallP {xs : List GRule} (h : gramOk xs = true) : SmallP xs := by
  obtain ⟨hl, ls, hls⟩ := gram_lens h
  intro r hr hp
  obtain ⟨k, hk, he⟩ := List.getElem_of_mem hr
  have hok := lens_okRule hls k r (by rw [List.getElem?_eq_getElem hk, he])
  simp [okRule, hp] at hok
  omega
theorem joinG_len {xs ys : List GRule} (h : xs.length ≤ 400) (h' : ys.length ≤ 400) : (joinG xs ys).length ≤ 801 := by
  unfold joinG
  split
  · omega
  · split
    · omega
    · simp; omega
def LimPost (base : Nat) (xs : List GRule) (w : World) (e : Ending) (w' : World) : Prop :=
  Below w.heap.size w w' ∧ ∃ v', OwnRules w' base v' (limOut xs) ∧ e = .returned (.tuple #[.agg #[v'], .int .i64 (limCode xs)])
theorem orLimit_any (base : Nat) (v : Value) (xs : List GRule) (w : World) (h : OwnRules w base v xs) (hn : xs.length ≤ 1099511627776) :
    Calls Tryd.prog 26 #[.agg #[v]] w (LimPost base xs w) := by
  have h1 := fun o o' => (h.sl.below (((Below.refl w.heap.size w).alloc (Nat.le_refl _) o).alloc (by simp) o')).le (B' := ((w.alloc o).alloc o').heap.size) (by simp; omega)
  have hv : v.ownBlock ≠ some (w.heap.size + 1) := fun e => by have := (World.ownsRow.lt h _ e).2; omega
  have H1 := Lib.hid h1
  have H := Lib.hid h
  have Hv := Lib.hid hv
  clear h1 hv
  obtain ⟨A, c, rfl, _⟩ := own_nil h
  clear h
  go_enter Tryd.func26, Tryd.ntmps26
  go_wp2_with fail
  refine (ValidGrammar_any _ _ _ (H1.out _ _) hn).mono ?_
  rintro e w1 ⟨rfl, hb1⟩
  obtain ⟨hc1, hf1⟩ := bcell hb1
  have hz1 : w.heap.size + 1 < w1.heap.size := by have := hb1.size; simp at this; omega
  have hc2 : w1.cell? ⟨w.heap.size + 1, 0, none⟩ = some (.slice none 0 0) := by rw [hc1 _ _ (by simp)]; simp [go_sem]
  have hf2 : w1.frozen? ⟨w.heap.size + 1, 0, none⟩ = false := by rw [hf1 _ _ (by simp)]; simp [go_sem]
  have hc3 : w1.cell? ⟨w.heap.size, 0, none⟩ = some (.slice A xs.length c) := by rw [hc1 _ _ (by simp; omega)]; simp [go_sem]
  have Hb1 := Lib.hid (((Below.refl w.heap.size w).alloc (Nat.le_refl _) (Obj.cells #[Value.slice A xs.length c] 26)).alloc (by simp) (Obj.cells #[Value.slice none 0 0] 26) |>.trans (hb1.mono (by simp; omega)))
  clear hc1 hf1 hb1
  by_cases hok : gramOk xs = true
  · have hok2 : (!gramOk xs) = false := by simp [hok]
    have Hok := Lib.hid hok
    clear hok
    go_wp2
    refine bodyPost_ret (v := .tuple #[.agg #[.slice A xs.length c], .int .i64 0]) (by simp [results, Tryd.results26, go_sem, hc2]) rfl ⟨?_, _, ?_, by rw [limCode, if_pos Hok.out]⟩
    · exact Hb1.out.setCell (by show w.heap.size ≤ w.heap.size + 1; omega) _
    · rw [limOut, if_pos Hok.out]
      refine own_keep (OwnRules.below H.out Hb1.out) fun g hg => Below.heap_setCell _ _ _ _ (fun e => Hv.out ?_)
      rw [hg, e]
  · have hok2 : (!gramOk xs) = true := by simp [hok]
    have Hok := Lib.hid hok
    clear hok
    go_wp2
    refine bodyPost_ret (v := .tuple #[.agg #[.slice none 0 0], .int .i64 3]) (by simp [results, Tryd.results26, go_sem, hc2]) rfl ⟨?_, _, ?_, by rw [limCode, if_neg Hok.out]⟩
    · exact Hb1.out.setCell (by show w.heap.size ≤ w.heap.size + 1; omega) _
    · rw [limOut, if_neg Hok.out]; exact World.ownsRow_nil _ _ _ _
set_option maxHeartbeats 1000000 in
theorem implJoin_any (v u : Value) (xs ys : List GRule) (w : World) (h : Sl RuleE w w.heap.size v xs) (h' : Sl RuleE w w.heap.size u ys) (hn : xs.length ≤ 1048576) (hn' : ys.length ≤ 1048576) :
    Calls Tryd.prog 14 #[.agg #[v], .agg #[u]] w (GRes (joinOut xs ys) (joinCode xs ys) w) := by
  have h1 := fun o o' o'' => (h.below ((((Below.refl w.heap.size w).alloc (Nat.le_refl _) o).alloc (by simp) o').alloc (by first | omega | (simp; done) | (simp; omega)) o'')).le (B' := (((w.alloc o).alloc o').alloc o'').heap.size) (by simp; omega)
  have h2 := fun o o' o'' => (h'.below ((((Below.refl w.heap.size w).alloc (Nat.le_refl _) o).alloc (by simp) o').alloc (by first | omega | (simp; done) | (simp; omega)) o'')).le (B' := (((w.alloc o).alloc o').alloc o'').heap.size) (by simp; omega)
  have H1 := Lib.hid h1
  have H2 := Lib.hid h2
  clear h1 h2
  obtain ⟨A, c, rfl, hc, hm, hrow⟩ := h
  obtain ⟨A', c', rfl, hc', hm', hrow'⟩ := h'
  clear hm hm' hrow hrow'
  go_enter Tryd.func14, Tryd.ntmps14
  go_wp2_with fail
  refine (ValidGrammar_any _ _ _ (H1.out _ _ _) (by omega)).mono ?_
  rintro e w1 ⟨rfl, hb1⟩
  obtain ⟨hc1, hf1⟩ := bcell hb1
  have hz1 : w.heap.size + 2 < w1.heap.size := by have := hb1.size; simp at this; omega
  have a1 : w1.cell? ⟨w.heap.size, 0, none⟩ = some (.slice A xs.length c) := by rw [hc1 _ _ (by first | omega | (simp; done) | (simp; omega))]; simp [go_sem]
  have b1 : w1.cell? ⟨w.heap.size + 1, 0, none⟩ = some (.slice A' ys.length c') := by rw [hc1 _ _ (by first | omega | (simp; done) | (simp; omega))]; simp [go_sem]
  have c1 : w1.cell? ⟨w.heap.size + 2, 0, none⟩ = some (.slice none 0 0) := by rw [hc1 _ _ (by first | omega | (simp; done) | (simp; omega))]; simp [go_sem]
  have f1 : w1.frozen? ⟨w.heap.size + 2, 0, none⟩ = false := by rw [hf1 _ _ (by first | omega | (simp; done) | (simp; omega))]; simp [go_sem]
  have S1 := Lib.hid ((H1.out (Obj.cells #[Value.slice A xs.length c] 26) (Obj.cells #[Value.slice A' ys.length c'] 26) (Obj.cells #[Value.slice none 0 0] 26)).up hb1)
  have T1 := Lib.hid ((H2.out (Obj.cells #[Value.slice A xs.length c] 26) (Obj.cells #[Value.slice A' ys.length c'] 26) (Obj.cells #[Value.slice none 0 0] 26)).up hb1)
  have B1 := Lib.hid ((((Below.refl w.heap.size w).alloc (Nat.le_refl _) (Obj.cells #[Value.slice A xs.length c] 26)).alloc (by simp) (Obj.cells #[Value.slice A' ys.length c'] 26)).alloc (by simp; omega) (Obj.cells #[Value.slice none 0 0] 26) |>.trans (hb1.mono (by simp; omega)))
  clear hc1 hf1 hb1
  by_cases hok : gramOk xs = true
  · have hok2 : (!gramOk xs) = false := by simp [hok]
    have Hok := Lib.hid hok
    clear hok
    go_wp2_with fail
    refine (ValidGrammar_any _ _ _ T1.out (by omega)).mono ?_
    rintro e w2 ⟨rfl, hb2⟩
    have z2 : w1.heap.size ≤ w2.heap.size := hb2.size
    have hz2 : w.heap.size + 2 < w2.heap.size := by omega
    have a2 := cell_up a1 hb2 (by omega)
    have b2 := cell_up b1 hb2 (by omega)
    have c2 := cell_up c1 hb2 (by omega)
    have f2 : w2.frozen? ⟨w.heap.size + 2, 0, none⟩ = false := by rw [hb2.frozen hz1, f1]
    have S2 := Lib.hid (S1.out.up hb2)
    have T2 := Lib.hid (T1.out.up hb2)
    have B2 := Lib.hid (B1.out.trans (hb2.mono (by omega)))
    clear a1 b1 c1 f1 hb2
    by_cases hoky : gramOk ys = true
    · have hoky2 : (!gramOk ys) = false := by simp [hoky]
      have Hoky := Lib.hid hoky
      clear hoky
      go_wp2_with fail
      refine (join_any _ _ _ _ _ S2.out T2.out hn hn' (gram_smallP Hoky.out)).mono ?_
      rintro e w3 ⟨hb3, v3, own3, rfl⟩
      have z3 : w2.heap.size ≤ w3.heap.size := hb3.size
      have hz3 : w.heap.size + 2 < w3.heap.size := by omega
      have c3 := cell_up c2 hb3 (by omega)
      have f3 : w3.frozen? ⟨w.heap.size + 2, 0, none⟩ = false := by rw [hb3.frozen hz2, f2]
      have B3 := Lib.hid (B2.out.trans (hb3.mono (by omega)))
      have O3 := Lib.hid own3
      have hjl := joinG_len (gram_lens Hok.out).1 (gram_lens Hoky.out).1
      clear a2 b2 c2 f2 hb3 own3
      go_wp2_with fail
      refine (orLimit_any _ _ _ _ O3.out (by omega)).mono ?_
      rintro e w4 ⟨hb4, v4, own4, rfl⟩
      obtain ⟨A4, k4, rfl, _⟩ := own_nil own4
      have c4 := cell_up c3 hb4 (by omega)
      have f4 : w4.frozen? ⟨w.heap.size + 2, 0, none⟩ = false := by rw [hb4.frozen hz3, f3]
      have B4 := Lib.hid (B3.out.trans (hb4.mono (by omega)))
      have O4 := Lib.hid own4
      clear c3 f3 hb4 own4
      have e1 : joinOut xs ys = limOut (joinG xs ys) := by rw [joinOut, Hok.out, Hoky.out]; rfl
      have e2 : joinCode xs ys = limCode (joinG xs ys) := by rw [joinCode, Hok.out, Hoky.out]; rfl
      have E1 := Lib.hid e1
      have E2 := Lib.hid e2
      clear e1 e2
      go_wp2
      refine bodyPost_ret (v := .tuple #[.agg #[.slice A4 (limOut (joinG xs ys)).length k4], .int .i64 (limCode (joinG xs ys))]) (by simp [results, Tryd.results14, go_sem, c4]) rfl ⟨?_, _, ?_, by rw [E2.out]⟩
      · exact B4.out.setCell (by show w.heap.size ≤ w.heap.size + 2; omega) _
      · rw [E1.out]
        exact ownsRow_more (ownsRow_setCell_below O4.out (a := ⟨w.heap.size + 2, 0, none⟩) (by show w.heap.size + 2 < w2.heap.size; omega) _) (by omega)
    · have hoky2 : (!gramOk ys) = true := by simp [hoky]
      have Hoky := Lib.hid hoky
      clear hoky
      go_wp2
      refine bodyPost_ret (v := .tuple #[.agg #[.slice none 0 0], .int .i64 1]) (by simp [results, Tryd.results14, go_sem, c2]) rfl ⟨?_, _, ?_, by rw [joinCode, if_neg (by simp [Hoky.out])]⟩
      · exact B2.out.setCell (by show w.heap.size ≤ w.heap.size + 2; omega) _
      · rw [joinOut, if_neg (by simp [Hoky.out])]; exact World.ownsRow_nil _ _ _ _
  · have hok2 : (!gramOk xs) = true := by simp [hok]
    have Hok := Lib.hid hok
    clear hok
    go_wp2
    refine bodyPost_ret (v := .tuple #[.agg #[.slice none 0 0], .int .i64 1]) (by simp [results, Tryd.results14, go_sem, c1]) rfl ⟨?_, _, ?_, by rw [joinCode, if_neg (by simp [Hok.out])]⟩
    · exact B1.out.setCell (by show w.heap.size ≤ w.heap.size + 2; omega) _
    · rw [joinOut, if_neg (by simp [Hok.out])]; exact World.ownsRow_nil _ _ _ _
theorem okA_at {xs : List GRule} (h : OkAll xs) {r : Nat} (hx : r < xs.length) (hp : (getR xs r).pair = true) :
    0 ≤ (getR xs r).left ∧ (getR xs r).left.toNat < r ∧ 0 ≤ (getR xs r).right ∧ (getR xs r).right.toNat < r := okRule_at (h r _ (getR_at hx)) hp
theorem wordR_fuelA {xs : List GRule} (h : OkAll xs) : ∀ (f r : Nat), r < f → r < xs.length → wordR xs f r = W1 xs r := by
  intro f
  induction f using Nat.strongRecOn with
  | _ f ih =>
    intro r hr hx
    obtain ⟨g, rfl⟩ : ∃ g, f = g + 1 := ⟨f - 1, by omega⟩
    unfold W1
    rw [wordR, wordR]
    cases hp : (getR xs r).pair with
    | false => rfl
    | true =>
      obtain ⟨q1, q2, q3, q4⟩ := okA_at h hx hp
      rw [if_pos rfl, if_pos rfl, ih g (by omega) _ (by omega) (by omega), ih g (by omega) _ (by omega) (by omega)]
      by_cases e : r = g
      · subst e
        rw [ih r (by omega) _ (by omega) (by omega), ih r (by omega) _ (by omega) (by omega)]
      · rw [ih r (by omega) _ q2 (by omega), ih r (by omega) _ q4 (by omega)]
theorem W1_pairA {xs : List GRule} (h : OkAll xs) {r : Nat} (hx : r < xs.length) (hp : (getR xs r).pair = true) : W1 xs r = W1 xs (getR xs r).left.toNat ++ W1 xs (getR xs r).right.toNat := by
  obtain ⟨q1, q2, q3, q4⟩ := okA_at h hx hp
  rw [W1, wordR, if_pos hp, wordR_fuelA h r _ q2 (by omega), wordR_fuelA h r _ q4 (by omega)]
theorem W1_same {xs : List GRule} (h : OkAll xs) {i j : Nat} (hi : i < xs.length) (hj : j < xs.length) (e : getR xs i = getR xs j) : W1 xs i = W1 xs j := by
  cases hp : (getR xs i).pair with
  | true => rw [W1_pairA h hi hp, W1_pairA h hj (by rw [← e]; exact hp), e]
  | false => rw [W1_let hp, W1_let (by rw [← e]; exact hp), e]
theorem W1_app {xs ys : List GRule} (h : OkAll xs) (h' : OkAll (xs ++ ys)) : ∀ (r : Nat), r < xs.length → W1 (xs ++ ys) r = W1 xs r := by
  intro r
  induction r using Nat.strongRecOn with
  | _ r ih =>
    intro hx
    have e : getR (xs ++ ys) r = getR xs r := getR_append hx
    cases hp : (getR xs r).pair with
    | true =>
      obtain ⟨q1, q2, q3, q4⟩ := okA_at h hx hp
      rw [W1_pairA h hx hp, W1_pairA h' (by simp; omega) (by rw [e]; exact hp), e, ih _ q2 (by omega), ih _ q4 (by omega)]
    | false => rw [W1_let hp, W1_let (by rw [e]; exact hp), e]
theorem W1_let1 {xs : List GRule} (h : OkAll xs) {r : Nat} (hx : r < xs.length) (hp : (getR xs r).pair = false) : (W1 xs r).length = 1 := by
  rw [W1_let hp]
  have := (okRule_let (h r _ (getR_at hx)) hp).1
  rw [Array.length_toList]; exact this
theorem lens_ofA {xs : List GRule} (h : OkAll xs) (hm : ∀ r, r < xs.length → ((W1 xs r).length : Int) ≤ maxL) : ∃ ls, lens xs = some ls := by
  suffices H : ∀ k, k ≤ xs.length → ∃ out, lens (xs.take k) = some out ∧ out.length = k ∧ ∀ r, r < k → out.getD r 0 = ((W1 xs r).length : Int) by
    obtain ⟨out, h1, _⟩ := H xs.length (Nat.le_refl _)
    rw [List.take_length] at h1
    exact ⟨out, h1⟩
  intro k
  induction k with
  | zero => intro _; exact ⟨[], rfl, rfl, fun r hr => absurd hr (by omega)⟩
  | succ k ih =>
    intro hk
    obtain ⟨out, h1, h2, h3⟩ := ih (by omega)
    have hr := getR_at (xs := xs) (r := k) (by omega)
    have hok := h k _ hr
    have hlen : ruleLen out (getR xs k) = ((W1 xs k).length : Int) := by
      unfold ruleLen
      cases hp : (getR xs k).pair with
      | true =>
        obtain ⟨q1, q2, q3, q4⟩ := okA_at h (by omega) hp
        rw [if_pos rfl, h3 _ q2, h3 _ q4, W1_pairA h (by omega) hp, List.length_append]; omega
      | false => rw [if_neg (by simp), W1_let1 h (by omega) hp]; rfl
    have := hm k (by omega)
    refine ⟨_, lens_next h1 hr (by rw [h2]; exact hok) (by rw [hlen]; exact this), by simp [h2], fun r hr => ?_⟩
    rcases Nat.lt_or_ge r k with hlt | hge
    · rw [getI_append (by omega)]; exact h3 r hlt
    · have : r = out.length := by omega
      subst this
      rw [getI_last, hlen, h2]
theorem lens_W1 {xs : List GRule} {ls : List Int} (h : lens xs = some ls) {r : Nat} (hx : r < xs.length) : ((W1 xs r).length : Int) ≤ maxL := by
  rw [W1_len h r hx, List.getD_eq_getElem?_getD, List.getElem?_eq_getElem (by rw [lens_length h]; exact hx)]
  exact (lens_pos h _ (List.getElem_mem _)).2
theorem trimR_more {S : List Int} {x : Int} {r : GRule} (h : r.pair = true → r.left.toNat < S.length ∧ r.right.toNat < S.length) : trimR (S ++ [x]) r = trimR S r := by
  cases hp : r.pair with
  | true => rw [trimR_pair hp, trimR_pair hp, getI_append (h hp).1, getI_append (h hp).2]
  | false => rw [trimR_let hp, trimR_let hp]
theorem canon_get {xs : List GRule} (h : OkAll xs) : ∀ k, k ≤ xs.length → ∀ i, i < k → getR (canon (xs.take k)).1 i = trimR (canon (xs.take k)).2 (getR xs i) := by
  intro k
  induction k with
  | zero => intro _ i hi; omega
  | succ k ih =>
    intro hk i hi
    have H := ih (by omega)
    have C := canon_ok h k (by omega)
    have hr := getR_at (xs := xs) (r := k) (by omega)
    rw [canon_snoc hr]
    obtain ⟨K, S, hp⟩ : ∃ K S, canon (xs.take k) = (K, S) := ⟨_, _, rfl⟩
    rw [hp] at H C ⊢
    have l1 : K.length = k := C.l1
    have l2 : S.length = k := C.l2
    show getR (K ++ [trimR S (getR xs k)]) i = trimR (S ++ [((K.idxOf (trimR S (getR xs k)) : Nat) : Int)]) (getR xs i)
    rw [trimR_more (fun hpr => by
      obtain ⟨q1, q2, q3, q4⟩ := okA_at h (show i < xs.length by omega) hpr
      omega)]
    rcases Nat.lt_or_ge i k with hlt | hge
    · rw [getR_append (by omega)]; exact H i hlt
    · have : i = K.length := by omega
      subst this
      rw [getR_last, l1]
theorem canon_word {xs : List GRule} (h : OkAll xs) : ∀ i, i < xs.length → W1 (canon xs).1 i = W1 xs i := by
  have C := canon_all h
  have G := canon_get h xs.length (Nat.le_refl _)
  rw [List.take_length] at G
  obtain ⟨K, S, hp⟩ : ∃ K S, canon xs = (K, S) := ⟨_, _, rfl⟩
  rw [hp] at C G ⊢
  have l1 : K.length = xs.length := C.l1
  have cok : OkAll K := C.ok
  intro i
  induction i using Nat.strongRecOn with
  | _ i ih =>
    intro hi
    show W1 K i = W1 xs i
    have e : getR K i = trimR S (getR xs i) := G i hi
    cases hpr : (getR xs i).pair with
    | true =>
      obtain ⟨q1, q2, q3, q4⟩ := okA_at h hi hpr
      rw [trimR_pair hpr] at e
      have key : ∀ j, j < i → (S.getD j 0).toNat < K.length ∧ W1 K (S.getD j 0).toNat = W1 xs j := by
        intro j hj
        have h1 : S.getD j 0 = ((K.idxOf (getR K j) : Nat) : Int) := C.idx j (by omega)
        have hm : getR K j ∈ K := getR_mem (by omega)
        have hlt : K.idxOf (getR K j) < K.length := List.idxOf_lt_length_iff.2 hm
        rw [h1, Int.toNat_natCast]
        refine ⟨hlt, ?_⟩
        rw [← ih j hj (by omega)]
        refine W1_same cok hlt (by omega) ?_
        exact (getR_some (List.getElem?_eq_getElem hlt)).trans (List.getElem_idxOf hlt)
      have hpk : (getR K i).pair = true := by rw [e]; rfl
      rw [W1_pairA cok (by omega) hpk, W1_pairA h hi hpr, e]
      show W1 K (S.getD (getR xs i).left.toNat 0).toNat ++ W1 K (S.getD (getR xs i).right.toNat 0).toNat = _
      rw [(key _ q2).2, (key _ q4).2]
    | false =>
      rw [trimR_let hpr] at e
      rw [W1_let (by rw [e]; exact hpr), W1_let hpr, e]
theorem set_true {l : List Bool} {i x : Nat} (h : l.getD x false = true) : (l.set i true).getD x false = true := by
  rw [List.getD_eq_getElem?_getD, List.getElem?_set]
  split
  · split
    · rfl
    · rename_i h1 h2; subst h1
      rw [List.getD_eq_getElem?_getD, List.getElem?_eq_none (by omega)] at h; simp at h
  · rw [← List.getD_eq_getElem?_getD]; exact h
theorem set_at {l : List Bool} {i : Nat} (h : i < l.length) : (l.set i true).getD i false = true := by
  rw [List.getD_eq_getElem?_getD, List.getElem?_set, if_pos rfl, if_pos h]; rfl
theorem set_ne {α : Type} {l : List α} {i x : Nat} {v d : α} (h : i ≠ x) : (l.set i v).getD x d = l.getD x d := by
  rw [List.getD_eq_getElem?_getD, List.getElem?_set, if_neg h, ← List.getD_eq_getElem?_getD]
theorem needStep_true {ks : List GRule} {l : List Bool} {i x : Nat} (h : l.getD x false = true) : (needStep ks l i).getD x false = true := by
  unfold needStep; split
  · exact set_true (set_true h)
  · exact h
theorem needDown_true {ks : List GRule} : ∀ (i : Nat) {l : List Bool} {x : Nat}, l.getD x false = true → (needDown ks i l).getD x false = true
  | 0, _, _, h => h
  | i + 1, _, _, h => needDown_true i (needStep_true h)
theorem needStep_above {ks : List GRule} (hk : OkAll ks) {l : List Bool} {i x : Nat} (hi : i < ks.length) (h : i ≤ x) : (needStep ks l i).getD x false = l.getD x false := by
  unfold needStep; split
  · rename_i c
    simp only [Bool.and_eq_true] at c
    obtain ⟨q1, q2, q3, q4⟩ := okA_at hk hi c.2
    rw [set_ne (by omega), set_ne (by omega)]
  · rfl
theorem needDown_above {ks : List GRule} (hk : OkAll ks) : ∀ (i : Nat) {l : List Bool} {x : Nat}, i ≤ ks.length → i ≤ x → (needDown ks i l).getD x false = l.getD x false
  | 0, _, _, _, _ => rfl
  | i + 1, l, x, hi, h => by rw [needDown, needDown_above hk i (by omega) (by omega), needStep_above hk (by omega) (by omega)]
theorem needDown_closed {ks : List GRule} (hk : OkAll ks) : ∀ (i : Nat) {l : List Bool} {x : Nat}, i ≤ ks.length → l.length = ks.length → x < i → (needDown ks i l).getD x false = true → (getR ks x).pair = true →
    (needDown ks i l).getD (getR ks x).left.toNat false = true ∧ (needDown ks i l).getD (getR ks x).right.toNat false = true
  | 0, _, _, _, _, hx, _, _ => by omega
  | i + 1, l, x, hi, hl, hx, h, hp => by
    rw [needDown] at h ⊢
    rcases Nat.lt_or_ge x i with hlt | hge
    · exact needDown_closed hk i (by omega) (by rw [needStep_len]; exact hl) hlt h hp
    · have : x = i := by omega
      subst this
      rw [needDown_above hk x (by omega) (Nat.le_refl _), needStep_above hk (by omega) (Nat.le_refl _)] at h
      obtain ⟨q1, q2, q3, q4⟩ := okA_at hk (by omega) hp
      have e : needStep ks l x = (l.set (getR ks x).left.toNat true).set (getR ks x).right.toNat true := by
        unfold needStep; rw [if_pos (by rw [h, hp]; rfl)]
      rw [e]
      exact ⟨needDown_true _ (set_true (set_at (by omega))), needDown_true _ (set_at (by simp; omega))⟩
theorem needDown_most {ks : List GRule} (hk : OkAll ks) {m : Nat} : ∀ (i : Nat) {l : List Bool}, i ≤ ks.length → (∀ x, l.getD x false = true → x ≤ m) → ∀ x, (needDown ks i l).getD x false = true → x ≤ m
  | 0, _, _, h, x, hx => h x hx
  | i + 1, l, hi, h, x, hx => by
    rw [needDown] at hx
    refine needDown_most hk i (by omega) (fun y hy => ?_) x hx
    unfold needStep at hy
    split at hy
    · rename_i c
      simp only [Bool.and_eq_true] at c
      obtain ⟨q1, q2, q3, q4⟩ := okA_at hk (show i < ks.length by omega) c.2
      have hm := h i c.1
      by_cases e1 : (getR ks i).right.toNat = y
      · omega
      · rw [set_ne e1] at hy
        by_cases e2 : (getR ks i).left.toNat = y
        · omega
        · rw [set_ne e2] at hy; exact h y hy
    · exact h y hy
structure OutOk (xs ks : List GRule) (need : List Bool) (k : Nat) (p : List GRule × List Int) : Prop where
  l2 : p.2.length = xs.length
  pos : ∀ i, i < k → need.getD i false = true → 0 ≤ p.2.getD i 0 ∧ (p.2.getD i 0).toNat < p.1.length
  ok : OkAll p.1
  word : ∀ i, i < k → need.getD i false = true → W1 p.1 (p.2.getD i 0).toNat = W1 ks i
  from_ : ∀ a, a < p.1.length → ∃ i, i < k ∧ need.getD i false = true ∧ (p.2.getD i 0).toNat = a
theorem out_ok {xs : List GRule} (h : OkAll xs) (hcl : ∀ x, x < xs.length → (needL xs).getD x false = true → (getR (canon xs).1 x).pair = true → (needL xs).getD (getR (canon xs).1 x).left.toNat false = true ∧ (needL xs).getD (getR (canon xs).1 x).right.toNat false = true) :
    ∀ k, k ≤ xs.length → OutOk xs (canon xs).1 (needL xs) k (trimO xs k) := by
  have C := canon_all h
  obtain ⟨K, hK⟩ : ∃ K, (canon xs).1 = K := ⟨_, rfl⟩
  have cok : OkAll K := hK ▸ C.ok
  have cl1 : K.length = xs.length := hK ▸ C.l1
  rw [hK] at hcl ⊢
  intro k
  induction k with
  | zero => intro _; exact ⟨by simp [trimO], fun i hi => absurd hi (by omega), fun k r hk => by simp [trimO] at hk, fun i hi => absurd hi (by omega), fun a ha => by simp [trimO] at ha⟩
  | succ k ih =>
    intro hk
    have H := ih (by omega)
    rw [trimO_succ, hK]
    obtain ⟨O, M, hp⟩ : ∃ O M, trimO xs k = (O, M) := ⟨_, _, rfl⟩
    rw [hp] at H ⊢
    have l2 : M.length = xs.length := H.l2
    unfold outStep
    by_cases hn : (needL xs).getD k false = true
    · rw [if_pos hn]
      obtain ⟨X, hX⟩ : ∃ X, trimR M (getR K k) = X := ⟨_, rfl⟩
      show OutOk xs K (needL xs) (k + 1) (O ++ [trimR M (getR K k)], M.set k (O.length : Int))
      have hkk : k < K.length := by omega
      have hXok : okRule O.length X = true := by
        rw [← hX]
        cases hpr : (getR K k).pair with
        | true =>
          obtain ⟨q1, q2, q3, q4⟩ := okA_at cok hkk hpr
          obtain ⟨c1, c2⟩ := hcl k (by omega) hn hpr
          obtain ⟨a1, a2⟩ := H.pos _ q2 c1
          obtain ⟨a3, a4⟩ := H.pos _ q4 c2
          rw [trimR_pair hpr]
          have a1' : 0 ≤ M.getD (getR K k).left.toNat 0 := a1
          have a2' : (M.getD (getR K k).left.toNat 0).toNat < O.length := a2
          have a3' : 0 ≤ M.getD (getR K k).right.toNat 0 := a3
          have a4' : (M.getD (getR K k).right.toNat 0).toNat < O.length := a4
          exact okRule_pair ⟨a1', by omega⟩ ⟨a3', by omega⟩
        | false =>
          rw [trimR_let hpr]
          have h1 := cok k _ (getR_at hkk)
          unfold okRule at h1 ⊢
          rw [if_neg (by simp [hpr])] at h1 ⊢
          exact h1
      rw [hX]
      have hO : OkAll O := H.ok
      have hO2 : OkAll (O ++ [X]) := hO.snoc hXok
      have hold : ∀ i, i < k → (M.set k (O.length : Int)).getD i 0 = M.getD i 0 := fun i hi => set_ne (by omega)
      have hnew : (M.set k (O.length : Int)).getD k 0 = (O.length : Int) := by
        rw [List.getD_eq_getElem?_getD, List.getElem?_set, if_pos rfl, if_pos (by omega)]; rfl
      refine ⟨by simp [l2], ?_, hO2, ?_, ?_⟩
      · intro i hi hni
        show 0 ≤ (M.set k (O.length : Int)).getD i 0 ∧ ((M.set k (O.length : Int)).getD i 0).toNat < (O ++ [X]).length
        rcases Nat.lt_or_ge i k with hlt | hge
        · rw [hold i hlt, List.length_append]
          have := H.pos i hlt hni
          exact ⟨this.1, Nat.lt_of_lt_of_le this.2 (Nat.le_add_right _ _)⟩
        · have : i = k := by omega
          subst this
          rw [hnew]; simp
      · intro i hi hni
        show W1 (O ++ [X]) ((M.set k (O.length : Int)).getD i 0).toNat = W1 K i
        rcases Nat.lt_or_ge i k with hlt | hge
        · rw [hold i hlt, W1_app hO hO2 _ (H.pos i hlt hni).2]
          exact H.word i hlt hni
        · have : i = k := by omega
          subst this
          rw [hnew, Int.toNat_natCast]
          have eX : getR (O ++ [X]) O.length = X := getR_last _ _
          cases hpr : (getR K i).pair with
          | true =>
            obtain ⟨q1, q2, q3, q4⟩ := okA_at cok hkk hpr
            obtain ⟨c1, c2⟩ := hcl i (by omega) hn hpr
            have hXp : X = pairR (M.getD (getR K i).left.toNat 0) (M.getD (getR K i).right.toNat 0) := by rw [← hX, trimR_pair hpr]
            rw [W1_pairA hO2 (by simp) (by rw [eX, hXp]; rfl), eX, hXp]
            show W1 _ (M.getD (getR K i).left.toNat 0).toNat ++ W1 _ (M.getD (getR K i).right.toNat 0).toNat = _
            rw [← hXp, W1_app hO hO2 _ (H.pos _ q2 c1).2, W1_app hO hO2 _ (H.pos _ q4 c2).2, W1_pairA cok hkk hpr]
            have w1 := H.word _ q2 c1
            have w2 := H.word _ q4 c2
            show W1 O _ ++ W1 O _ = _
            rw [← w1, ← w2]
          | false =>
            have hXl : X = getR K i := by rw [← hX, trimR_let hpr]
            rw [W1_let (by rw [eX, hXl]; exact hpr), eX, hXl, W1_let hpr]
      · intro a ha
        rcases Nat.lt_or_ge a O.length with hlt | hge
        · obtain ⟨i, h1, h2, h3⟩ := H.from_ a hlt
          exact ⟨i, by omega, h2, by show ((M.set k (O.length : Int)).getD i 0).toNat = a; rw [hold i h1]; exact h3⟩
        · have ha' : a < (O ++ [X]).length := ha
          rw [List.length_append] at ha'
          have : a = O.length := by simp at ha'; omega
          subst this
          exact ⟨k, by omega, hn, by show ((M.set k (O.length : Int)).getD k 0).toNat = O.length; rw [hnew]; simp⟩
    · rw [if_neg hn]
      refine ⟨l2, ?_, H.ok, ?_, ?_⟩
      · intro i hi hni
        rcases Nat.lt_or_ge i k with hlt | hge
        · exact H.pos i hlt hni
        · have : i = k := by omega
          subst this; exact absurd hni hn
      · intro i hi hni
        rcases Nat.lt_or_ge i k with hlt | hge
        · exact H.word i hlt hni
        · have : i = k := by omega
          subst this; exact absurd hni hn
      · intro a ha
        obtain ⟨i, h1, h2, h3⟩ := H.from_ a ha
        exact ⟨i, by omega, h2, h3⟩
theorem trimG_sem {xs : List GRule} {ls : List Int} (hl : lens xs = some ls) : ∃ ls', lens (trimG xs) = some ls' ∧ wordG (trimG xs) = wordG xs ∧ (0 < xs.length → 0 < (trimG xs).length) := by
  by_cases h0 : 0 < xs.length
  · have h := okAll_lens hl
    have C := canon_all h
    obtain ⟨K, S, hp⟩ : ∃ K S, canon xs = (K, S) := ⟨_, _, rfl⟩
    rw [hp] at C
    have l1 : K.length = xs.length := C.l1
    have cok : OkAll K := C.ok
    have hroot : 0 ≤ S.getD (xs.length - 1) 0 ∧ S.getD (xs.length - 1) 0 ≤ ((xs.length - 1 : Nat) : Int) := C.low (xs.length - 1) (by omega)
    obtain ⟨R, hR⟩ : ∃ R, (S.getD (xs.length - 1) 0).toNat = R := ⟨_, rfl⟩
    have hRl : R < xs.length := by omega
    have eN : needL xs = needDown K xs.length ((List.replicate xs.length false).set R true) := by
      unfold needL rootB; rw [hp]; show needDown K _ ((List.replicate xs.length false).set (S.getD (xs.length - 1) 0).toNat true) = _; rw [hR]
    have hbl : ((List.replicate xs.length false).set R true).length = K.length := by simp [l1]
    have hNR : (needL xs).getD R false = true := by rw [eN]; exact needDown_true _ (set_at (by simp; omega))
    have hmost : ∀ x, (needL xs).getD x false = true → x ≤ R := by
      rw [eN]
      refine needDown_most cok _ (by omega) (fun x hx => ?_)
      by_cases e : R = x
      · omega
      · rw [set_ne e] at hx
        rw [List.getD_eq_getElem?_getD, List.getElem?_replicate] at hx
        split at hx <;> simp at hx
    have hcl : ∀ x, x < xs.length → (needL xs).getD x false = true → (getR (canon xs).1 x).pair = true → (needL xs).getD (getR (canon xs).1 x).left.toNat false = true ∧ (needL xs).getD (getR (canon xs).1 x).right.toNat false = true := by
      rw [hp, eN]
      intro x hx h1 h2
      exact needDown_closed cok _ (by omega) hbl hx h1 h2
    have H := out_ok h hcl xs.length (Nat.le_refl _)
    rw [hp] at H
    have hw := canon_word h
    rw [hp] at hw
    -- the last rule is that of the root
    have hlast : ∀ k, R < k → k ≤ xs.length → (trimO xs k).1.length = (trimO xs (R + 1)).1.length ∧ (trimO xs k).2.getD R 0 = (trimO xs (R + 1)).2.getD R 0 := by
      intro k
      induction k with
      | zero => intro h; omega
      | succ k ih =>
        intro h1 h2
        rcases Nat.lt_or_ge R k with hlt | hge
        · have hnk : ¬ (needL xs).getD k false = true := fun e => by have := hmost k e; omega
          rw [trimO_succ]
          unfold outStep
          rw [if_neg hnk]
          exact ih hlt (by omega)
        · have : k = R := by omega
          subst this; exact ⟨rfl, rfl⟩
    obtain ⟨e1, e2⟩ := hlast xs.length hRl (Nat.le_refl _)
    have e3 : (trimO xs (R + 1)).1.length = (trimO xs R).1.length + 1 ∧ (trimO xs (R + 1)).2.getD R 0 = ((trimO xs R).1.length : Int) := by
      rw [trimO_succ]; unfold outStep; rw [if_pos hNR]
      refine ⟨by simp, ?_⟩
      show ((trimO xs R).2.set R _).getD R 0 = _
      rw [List.getD_eq_getElem?_getD, List.getElem?_set, if_pos rfl, if_pos (by rw [(trimO_len xs R).1]; exact hRl)]; rfl
    have hlen : (trimG xs).length = (trimO xs R).1.length + 1 := by rw [trimG, e1, e3.1]
    have hnum : ((trimO xs xs.length).2.getD R 0).toNat = (trimG xs).length - 1 := by rw [e2, e3.2, hlen]; simp
    have hword : W1 (trimG xs) ((trimG xs).length - 1) = W1 xs (xs.length - 1) := by
      rw [← hnum]
      have h1 : W1 (trimG xs) ((trimO xs xs.length).2.getD R 0).toNat = W1 K R := H.word R hRl hNR
      rw [h1]
      have h2 : W1 K R = W1 K (xs.length - 1) := by
        have hi : S.getD (xs.length - 1) 0 = ((K.idxOf (getR K (xs.length - 1)) : Nat) : Int) := C.idx _ (by omega)
        have hm : getR K (xs.length - 1) ∈ K := getR_mem (by omega)
        have hlt : K.idxOf (getR K (xs.length - 1)) < K.length := List.idxOf_lt_length_iff.2 hm
        have hRe : R = K.idxOf (getR K (xs.length - 1)) := by rw [← hR, hi]; simp
        refine W1_same cok (by omega) (by omega) ?_
        rw [hRe]
        exact (getR_some (List.getElem?_eq_getElem hlt)).trans (List.getElem_idxOf hlt)
      rw [h2]
      exact hw _ (by omega)
    have hmax : ∀ r, r < (trimG xs).length → ((W1 (trimG xs) r).length : Int) ≤ maxL := by
      intro r hr
      obtain ⟨i, h1, h2, h3⟩ := H.from_ r hr
      have h4 : W1 (trimG xs) ((trimO xs xs.length).2.getD i 0).toNat = W1 K i := H.word i h1 h2
      have h5 : W1 K i = W1 xs i := hw i h1
      rw [show r = ((trimO xs xs.length).2.getD i 0).toNat from h3.symm, h4, h5]
      exact lens_W1 hl h1
    obtain ⟨ls', hl'⟩ := lens_ofA H.ok hmax
    refine ⟨ls', hl', ?_, fun _ => by omega⟩
    rw [wordG_pos (by omega), wordG_pos h0]
    exact hword
  · have hx : xs = [] := List.eq_nil_of_length_eq_zero (by omega)
    subst hx
    exact ⟨[], rfl, rfl, fun h => absurd h (by simp)⟩
theorem step_push_rule {W : World} {ops : Array Oper} {o : Oper} {a : Act} {K : Act → World → Prop} {Q : Exit → Act → World → Prop} {E : Prop} (hgd : o.guard = none) (s x : Operand)
    (ho : o.op = .call { callee := .builtin .append, args := #[s, x], argTypes := #[24, 24] }) {t : ByteArray} {p q : Int} {base : Nat} {v : Value} {l : List GRule}
    (hs : a.eval s = v) {N : Nat} (hx : a.eval x = .slice (some ⟨N, 0, none⟩) 1 1) (hN : N = W.heap.size) (hown : OwnRules W base v l) (hlen : l.length ≤ 1099511627775) (hbase : base ≤ W.heap.size)
    (h : ∀ v' w', OwnRules w' base v' (l ++ [⟨t, p, q⟩]) → (W.alloc (.cells #[.string t, .int .i64 p, .int .i64 q] 42)).grownBy w' v.ownBlock → Below base (W.alloc (.cells #[.string t, .int .i64 p, .int .i64 q] 42)) w' → K (a.put o.dst v') w') :
    if Region.wanted o (yielded ops a.tmps) = true then Oper.wp Tryd.prog o a (W.alloc (.cells #[.string t, .int .i64 p, .int .i64 q] 42)) K Q else E := by
  subst hN
  refine step_append_rules (ys := [⟨t, p, q⟩]) (S := fun b => b = W.heap.size) hgd s x ho hs hx (hown.alloc _) ⟨_, 1, rfl, Nat.le_refl _, by simp [maxLen], fun _ => ⟨W.heap.size, 0, rfl, rfl, fun k r hk => ⟨r.cells, rfl, fun j u hu => ?_⟩⟩⟩ (by simp; omega) (by simp; omega) h
  have hk0 : k = 0 := by
    have := (List.getElem?_eq_some_iff.1 hk).1
    simp at this; exact this
  subst hk0
  simp at hk
  subst hk
  have hc : (W.alloc (.cells #[.string t, .int .i64 p, .int .i64 q] 42)).cell? ⟨W.heap.size, j, none⟩ = (#[Value.string t, .int .i64 p, .int .i64 q] : Array Value)[j]? := cell_of_row _ _ _ _ 42 (0, 0) (heap_alloc_new W _)
  simp only [Nat.zero_mul, Nat.zero_add]
  rw [hc]
  simpa [GRule.cells] using hu
theorem Boxed.mk' {w : World} {B : Nat} {t : TypeId} {v : Value} (h : w.heap[B]? = some (.cells #[v] t (0, 0))) : Boxed w.drew B t v := h
theorem Boxed.up {w w' : World} {B N : Nat} {t : TypeId} {v : Value} (h : Boxed w B t v) (hb : Below N w w') (hlt : B < N) : Boxed w' B t v := (hb.block B hlt).trans h
theorem Boxed.grown {w w' : World} {B base e s n : Nat} {t : TypeId} {v : Value} {xs : List Value} {o : Obj} (h : Boxed w B t v) (hte : t ≠ e) (own : w.ownsRow base e s v n xs) (hg : (w.alloc o).grownBy w' v.ownBlock) : Boxed w' B t v := (h.alloc o).kept hg (h.not_row hte own)
end Go.Proofs.YtfhiaifdigefdaaDoor
namespace Go.Proofs
open Go.Shelf Go.RowKit
def Tryd.laysM173_ren : Go.Shelf.Ren := ⟨fun | 173 => 47 | 246 => 68 | 283 => 76 | 284 => 77 | 285 => 78 | 286 => 79 | 129 => 86 | 317 => 85 | 318 => 87 | 319 => 88 | 320 => 89 | 337 => 90 | 338 => 91 | n => n, fun | 2 => 2 | 3 => 3 | 9 => 9 | 4 => 4 | 171 => 118 | 0 => 0 | 53 => 76 | 37 => 22 | 5 => 5 | 173 => 121 | 212 => 130 | 51 => 131 | 20 => 20 | 213 => 132 | 46 => 107 | 232 => 136 | 233 => 137 | n => n, fun | 17 => 0 | 18 => 1 | 19 => 2 | n => n⟩
theorem Tryd.laysM173 : Go.Proofs.LaysM.n173 Tryd.prog Tryd.laysM173_ren := {
  mixed := by kernel_rfl
  f129 := Tryd.func86.trans (congrArg some (by kernel_rfl))
  f173 := Tryd.func47.trans (congrArg some (by kernel_rfl))
  f246 := Tryd.func68.trans (congrArg some (by kernel_rfl))
  f283 := Tryd.func76.trans (congrArg some (by kernel_rfl))
  f284 := Tryd.func77.trans (congrArg some (by kernel_rfl))
  f285 := Tryd.func78.trans (congrArg some (by kernel_rfl))
  f286 := Tryd.func79.trans (congrArg some (by kernel_rfl))
  f317 := Tryd.func85.trans (congrArg some (by kernel_rfl))
  f318 := Tryd.func87.trans (congrArg some (by kernel_rfl))
  f319 := Tryd.func88.trans (congrArg some (by kernel_rfl))
  f320 := Tryd.func89.trans (congrArg some (by kernel_rfl))
  f337 := Tryd.func90.trans (congrArg some (by kernel_rfl))
  f338 := Tryd.func91.trans (congrArg some (by kernel_rfl))
  t0 := Tryd.underlying0
  a0 := Tryd.isAgg0
  z0 := Tryd.sizeOf0
  v0 := Tryd.zeroValue0
  t2 := Tryd.underlying2
  a2 := Tryd.isAgg2
  z2 := Tryd.sizeOf2
  v2 := Tryd.zeroValue2
  t3 := Tryd.underlying3
  a3 := Tryd.isAgg3
  z3 := Tryd.sizeOf3
  v3 := Tryd.zeroValue3
  t4 := Tryd.underlying4
  a4 := Tryd.isAgg4
  z4 := Tryd.sizeOf4
  v4 := Tryd.zeroValue4
  t5 := Tryd.underlying5
  a5 := Tryd.isAgg5
  z5 := Tryd.sizeOf5
  v5 := Tryd.zeroValue5
  t9 := Tryd.underlying9
  a9 := Tryd.isAgg9
  z9 := Tryd.sizeOf9
  v9 := Tryd.zeroValue9
  t20 := Tryd.underlying20
  a20 := Tryd.isAgg20
  z20 := Tryd.sizeOf20
  v20 := Tryd.zeroValue20
  t37 := Tryd.underlying22
  a37 := Tryd.isAgg22
  z37 := Tryd.sizeOf22
  v37 := Tryd.zeroValue22
  t46 := Tryd.underlying107
  a46 := Tryd.isAgg107
  z46 := Tryd.sizeOf107
  v46 := Tryd.zeroValue107
  t51 := Tryd.underlying131
  a51 := Tryd.isAgg131
  z51 := Tryd.sizeOf131
  v51 := Tryd.zeroValue131
  t53 := Tryd.underlying76
  a53 := Tryd.isAgg76
  z53 := Tryd.sizeOf76
  v53 := Tryd.zeroValue76
  t171 := Tryd.underlying118
  a171 := Tryd.isAgg118
  z171 := Tryd.sizeOf118
  v171 := Tryd.zeroValue118
  t173 := Tryd.underlying121
  a173 := Tryd.isAgg121
  z173 := Tryd.sizeOf121
  v173 := Tryd.zeroValue121
  t212 := Tryd.underlying130
  a212 := Tryd.isAgg130
  z212 := Tryd.sizeOf130
  v212 := Tryd.zeroValue130
  t213 := Tryd.underlying132
  a213 := Tryd.isAgg132
  z213 := Tryd.sizeOf132
  t232 := Tryd.underlying136
  a232 := Tryd.isAgg136
  z232 := Tryd.sizeOf136
  v232 := Tryd.zeroValue136
  t233 := Tryd.underlying137
  a233 := Tryd.isAgg137
  z233 := Tryd.sizeOf137
  v233 := Tryd.zeroValue137
  g17 := by kernel_rfl
  g18 := by kernel_rfl
  g19 := by kernel_rfl
  i0 := by kernel_rfl
  i2 := by kernel_rfl
  i3 := by kernel_rfl
  i4 := by kernel_rfl
  i5 := by kernel_rfl
  i9 := by kernel_rfl
  i20 := by kernel_rfl
  i37 := by kernel_rfl
  i46 := by kernel_rfl
  i51 := by kernel_rfl
  i53 := by kernel_rfl
  i171 := by kernel_rfl
  i173 := by kernel_rfl
  i212 := by kernel_rfl
  i232 := by kernel_rfl
  i233 := by kernel_rfl
  m17 := by kernel_rfl
  m18 := by kernel_rfl
  m19 := by kernel_rfl }
open Go.RowKit Go.Sort Go.Lib in
theorem Tryd.strconv_FormatInt_10 (n : Int) (h0 : -9223372036854775808 ≤ n) (h1 : n ≤ 9223372036854775807) (w : World) (htab : Lib.TabIs Tryd.prog w "internal/strconv.uint64pow10" .u64 Lib.pow10Tab) :
    Calls Tryd.prog 47 #[.int .i64 n, .int .i64 10] w fun e w' => e = .returned (.string ⟨(Lib.itoa n).toArray⟩) ∧ ∃ k os, w' = grow (w.drewN k) os := Any.strconv_FormatInt_10 Tryd.laysM173 n h0 h1 w htab
end Go.Proofs
namespace Go.Proofs.YtfhiaifdigefdaaDoor
open Go.RowKit
theorem tab_below {P : Program} {w w' : World} {nm : String} {k : IntKind} {zs : List Int} (h : Lib.TabIs P w nm k zs) (hb : Below w.heap.size w w') : Lib.TabIs P w' nm k zs := by
  unfold Lib.TabIs World.var? at h ⊢
  obtain ⟨g, hg, h2⟩ := Option.bind_eq_some_iff.1 h
  rw [hg]
  simp only [Option.bind_some]
  have hlt : g < w.heap.size := by
    rcases Nat.lt_or_ge g w.heap.size with h' | h'
    · exact h'
    · rw [Array.getElem?_eq_none h'] at h2; cases h2
  rw [hb.block g hlt]; exact h2
def binL (n : Nat) : List UInt8 := if h : n < 2 then [UInt8.ofNat (48 + n)] else binL (n / 2) ++ [UInt8.ofNat (48 + n % 2)]
termination_by n
decreasing_by omega
theorem binL_lt {n : Nat} (h : n < 2) : binL n = [UInt8.ofNat (48 + n)] := by rw [binL, dif_pos h]
theorem binL_ge {n : Nat} (h : ¬ n < 2) : binL n = binL (n / 2) ++ [UInt8.ofNat (48 + n % 2)] := by rw [binL, dif_neg h]
def deB64 : List Int := [0, 1, 56, 2, 57, 49, 28, 3, 61, 58, 42, 50, 38, 29, 17, 4, 62, 47, 59, 36, 45, 43, 51, 22, 53, 39, 33, 30, 24, 18, 12, 5, 63, 55, 48, 27, 60, 41, 37, 16, 46, 35, 44, 21, 52, 32, 23, 11, 54, 26, 40, 15, 34, 20, 31, 10, 25, 14, 19, 9, 13, 8, 7, 6]
theorem tz_two (w : World) (htab : Lib.TabIs Tryd.prog w "math/bits.deBruijn64tab" .u8 deB64) :
    Calls Tryd.prog 89 #[.int .u64 2] w fun e w' => e = .returned (.int .i64 1) ∧ w = w' := by
  have hc0 := htab.cell (g := 2) (by kernel_rfl) 1 (by decide)
  have hc : w.cell? ⟨2, 1, none⟩ = some (.int .u8 1) := hc0
  clear hc0
  have e1 : IntKind.u64.wrap (-2) = 18446744073709551614 := by decide
  have e2 : bits BinOp.and IntKind.u64 2 18446744073709551614 = 2 := by decide
  have e3 : IntKind.u64.wrap (2 * 285870213051353865) = 571740426102707730 := by decide
  clear htab
  go_enter Tryd.func89, Tryd.ntmps89
  go_wp2
  go_ret
  exact ⟨rfl, rfl⟩
theorem pow2_two (w : World) : Calls Tryd.prog 88 #[.int .i64 2] w fun e w' => e = .returned (.bool true) ∧ w = w' := by
  have e2 : bits BinOp.and IntKind.i64 2 1 = 0 := by decide
  go_enter Tryd.func88, Tryd.ntmps88
  go_wp2
  go_ret
  exact ⟨rfl, rfl⟩
theorem convL (L : List UInt8) (b p n c : Nat) (W : World) (hn : n = L.length) (h : ∀ t (ht : t < L.length), W.cell? ⟨b, p + t, none⟩ = some (.int .u8 (L[t].toNat : Int))) :
    (convert 22 9 (.slice (some ⟨b, p, none⟩) n c)).run Tryd.prog W = .ok (.string ⟨L.toArray⟩) W := by
  subst hn
  exact run_convert_bytes_back (P := Tryd.prog) W 22 9 5 ⟨b, p, none⟩ c L Tryd.underlying22 Tryd.underlying5 Tryd.underlying9 (fun j hj => by
    have e : (⟨b, p, none⟩ : Addr).add j = ⟨b, p + j, none⟩ := by unfold Addr.add; split <;> simp_all
    rw [e]; exact h j hj)
set_option maxRecDepth 100000 in
set_option maxHeartbeats 1000000 in
theorem formatBits_two (n : Nat) (hn : n < 1152921504606846976) (w : World) (htab : Lib.TabIs Tryd.prog w "math/bits.deBruijn64tab" .u8 deB64) :
    Calls Tryd.prog 79 #[.slice none 0 0, .int .u64 n, .int .i64 2, .bool false, .bool false] w fun e w' => e = .returned (.tuple #[.slice none 0 0, .string ⟨(binL n).toArray⟩]) ∧ Below w.heap.size w w' := by
  have HT := Lib.hid htab
  clear htab
  go_enter Tryd.func79, Tryd.ntmps79
  go_wp2_with fail
  refine (pow2_two _).mono ?_
  rintro e w' ⟨rfl, rfl⟩
  go_wp2_with fail
  refine (tz_two _ (tab_below HT.out ((Below.refl _ _).alloc (Nat.le_refl _) _))).mono ?_
  rintro e w' ⟨rfl, rfl⟩
  go_wp2_with fail
  go_loopw [1, 13] (fun u i wr => ∃ (m : Nat) (S : List UInt8) (arr : Array Value), u = .int .u64 m ∧ i = .int .i64 (65 - (S.length : Int)) ∧ m < 2 ^ (60 - S.length) ∧ S.length ≤ 60 ∧ Hid (binL n = binL m ++ S) ∧ arr.size = 65 ∧ Hid (∀ t (h : t < S.length), arr[65 - S.length + t]? = some (.int .u8 (S[t].toNat : Int))) ∧ wr = w.alloc (.cells arr 132)) (fun u _ _ => (intOf u).toNat)
  case atStart => exact ⟨n, [], Tryd.zeroCells132, rfl, rfl, hn, by simp, by simp [Hid], by kernel_rfl, fun t h => absurd h (by simp), rfl⟩
  case round =>
    obtain ⟨m, S, arr, rfl, rfl, hm, hS, hbin, hsz, harr, rfl⟩ := hrel
    by_cases c : 2 ≤ m
    · have c' : (2 : Int) ≤ m := by omega
      have hS58 : S.length ≤ 58 := by
        rcases Nat.lt_or_ge S.length 59 with h | h
        · omega
        · have : 60 - S.length ≤ 1 := by omega
          have := Nat.pow_le_pow_right (show 0 < 2 by omega) this
          omega
      obtain ⟨p, hp⟩ : ∃ p : Nat, 65 - (S.length : Int) - 1 = (p : Int) := ⟨64 - S.length, by omega⟩
      have hwi : IntKind.i64.wrap (65 - (S.length : Int) - 1) = (p : Int) := by rw [hp]; exact IntWalk.i64_in _ (by omega)
      have hp65 : p < 65 := by omega
      have hpa : p < arr.size := by omega
      have hpi : (p : Int) < 65 := by omega
      have HP := Lib.hid hp
      obtain ⟨d, hd⟩ : ∃ d : Nat, m % 2 = d := ⟨_, rfl⟩
      have hd2 : d = 0 ∨ d = 1 := by omega
      have hand : bits BinOp.and IntKind.u64 (m : Int) 1 = (d : Int) := by rw [and_one_u64 _ (by omega) (by have := Nat.pow_le_pow_right (show 0 < 2 by omega) (show 60 - S.length ≤ 60 by omega); omega)]; omega
      have Hd := Lib.hid hd
      clear hp hd
      have hmp : m < 2 ^ (60 - S.length - 1) * 2 := by
        have e : 60 - S.length = (60 - S.length - 1) + 1 := by omega
        rw [e, Nat.pow_succ] at hm; exact hm
      have Hmp := Lib.hid hmp
      have Hsz := Lib.hid hsz
      have HS58 := Lib.hid hS58
      clear hmp hm
      rcases hd2 with rfl | rfl
      all_goals
        go_wp2_with fail
        have hp' := HP.out
        have hL := HS58.out
        have hz := Hsz.out
        refine ⟨⟨m / 2, UInt8.ofNat (48 + m % 2) :: S, arr.setIfInBounds p (.int .u8 ((UInt8.ofNat (48 + m % 2)).toNat : Int)), ?_, ?_, ?_, ?_, ?_, ?_, ?_, ?_⟩, ?_⟩
        · rw [show ((m / 2 : Nat) : Int) = (m : Int) / 2 by omega]
        · simp only [List.length_cons]; congr 1; omega
        · have := Hmp.out
          simp only [List.length_cons]
          rw [show 60 - (S.length + 1) = 60 - S.length - 1 by omega]; omega
        · simp only [List.length_cons]; omega
        · show binL n = _
          rw [hbin.out, binL_ge (show ¬ m < 2 by omega)]; simp
        · simp [hz]
        · intro t ht
          simp only [List.length_cons] at ht ⊢
          cases t with
          | zero =>
            rw [show 65 - (S.length + 1) + 0 = p by omega, Array.getElem?_setIfInBounds_self_of_lt (by omega)]
            simp
          | succ t =>
            rw [show 65 - (S.length + 1) + (t + 1) = 65 - S.length + t by omega, Array.getElem?_setIfInBounds_ne (by omega), harr.out t (by omega)]
            simp
        · rw [Hd.out]; rfl
        · simp [intOf]; omega
    · have hbm : binL m = [UInt8.ofNat (48 + m)] := binL_lt (by omega)
      have c' : ¬ ((2 : Int) ≤ m) := by omega
      obtain ⟨p, hp⟩ : ∃ p : Nat, 65 - (S.length : Int) - 1 = (p : Int) := ⟨64 - S.length, by omega⟩
      have hwi : IntKind.i64.wrap (65 - (S.length : Int) - 1) = (p : Int) := by rw [hp]; exact IntWalk.i64_in _ (by omega)
      have hp65 : p < 65 := by omega
      have hp65' : p ≤ 65 := by omega
      have hpa : p < arr.size := by omega
      have hpi : (p : Int) < 65 := by omega
      have hpi' : (p : Int) ≤ 65 := by omega
      have HP := Lib.hid hp
      have Hsz := Lib.hid hsz
      have Hbm := Lib.hid hbm
      have hm2 : m = 0 ∨ m = 1 := by omega
      clear hp hm hbm
      rcases hm2 with rfl | rfl
      all_goals
        go_wp2_with fail
        have hp' := HP.out
        have hz := Hsz.out
      · rw [convL (UInt8.ofNat (48 + 0) :: S) w.heap.size p _ _ _ (by simp only [List.length_cons]; omega) ?_]
        · go_wp2_with fail
          go_ret2
          refine ⟨?_, (by repeat (first | exact Below.refl _ _ | (refine Below.alloc ?_ (by first | omega | (simp; done) | (simp; omega)) _) | refine below_drewN ?_ _ | refine Below.drew ?_))⟩
          rw [hbin.out, Hbm.out]; rfl
        · intro t ht
          simp only [List.length_cons] at ht
          rw [World.cell?_alloc_mark]
          cases t with
          | zero => exact Array.getElem?_setIfInBounds_self_of_lt (by omega)
          | succ t => rw [Array.getElem?_setIfInBounds_ne (by omega), show p + (t + 1) = 65 - S.length + t by omega, harr.out t (by omega)]; rfl
      · rw [convL (UInt8.ofNat (48 + 1) :: S) w.heap.size p _ _ _ (by simp only [List.length_cons]; omega) ?_]
        · go_wp2_with fail
          go_ret2
          refine ⟨?_, (by repeat (first | exact Below.refl _ _ | (refine Below.alloc ?_ (by first | omega | (simp; done) | (simp; omega)) _) | refine below_drewN ?_ _ | refine Below.drew ?_))⟩
          rw [hbin.out, Hbm.out]; rfl
        · intro t ht
          simp only [List.length_cons] at ht
          rw [World.cell?_alloc_mark]
          cases t with
          | zero => exact Array.getElem?_setIfInBounds_self_of_lt (by omega)
          | succ t => rw [Array.getElem?_setIfInBounds_ne (by omega), show p + (t + 1) = 65 - S.length + t by omega, harr.out t (by omega)]; rfl
set_option maxRecDepth 100000 in
theorem formatIntI_two (n : Nat) (hn : n < 1152921504606846976) (w : World) (htab : Lib.TabIs Tryd.prog w "math/bits.deBruijn64tab" .u8 deB64) :
    Calls Tryd.prog 68 #[.int .i64 n, .int .i64 2] w fun e w' => e = .returned (.string ⟨(binL n).toArray⟩) ∧ Below w.heap.size w w' := by
  have HT := Lib.hid htab
  have hw : IntKind.u64.wrap (n : Int) = (n : Int) := IntWalk.u64_in _ (by omega)
  have h0 : ¬ ((n : Int) < 0) := by omega
  clear htab
  go_enter Tryd.func68, Tryd.ntmps68
  go_wp2_with fail
  refine (formatBits_two n hn _ HT.out).mono ?_
  rintro e w1 ⟨rfl, hb1⟩
  go_wp2_with fail
  go_ret
  exact ⟨rfl, hb1⟩
theorem formatInt_two (n : Nat) (hn : n < 1152921504606846976) (w : World) (htab : Lib.TabIs Tryd.prog w "math/bits.deBruijn64tab" .u8 deB64) :
    Calls Tryd.prog 47 #[.int .i64 n, .int .i64 2] w fun e w' => e = .returned (.string ⟨(binL n).toArray⟩) ∧ Below w.heap.size w w' := by
  have HT := Lib.hid htab
  clear htab
  go_enter Tryd.func47, Tryd.ntmps47
  go_wp2_with fail
  refine (formatIntI_two n hn _ HT.out).mono ?_
  rintro e w1 ⟨rfl, hb1⟩
  go_wp2_with fail
  go_ret
  exact ⟨rfl, hb1⟩
def Iter (W : World) (K : Nat) (s : ByteArray) (pos : Nat) : Prop := W.heap[K]? = some (.stringIter s pos)
theorem Iter.lt {W : World} {K : Nat} {s : ByteArray} {pos : Nat} (h : Iter W K s pos) : K < W.heap.size := (Array.getElem?_eq_some_iff.1 h).1
theorem Iter.up {w w' : World} {K N : Nat} {s : ByteArray} {pos : Nat} (h : Iter w K s pos) (hb : Below N w w') (hlt : K < N) : Iter w' K s pos := (hb.block K hlt).trans h
theorem Iter.not_row {w : World} {K : Nat} {s : ByteArray} {pos : Nat} (h : Iter w K s pos) {base e sz n : Nat} {v : Value} {xs : List Value} (own : w.ownsRow base e sz v n xs) : some K ≠ v.ownBlock := by
  intro he
  rcases own.2 with ⟨hn, _⟩ | ⟨g, cap, cur, rfl, hb, hgg, rest⟩
  · rw [hn] at he; cases he
  · have : g = K := by
      have : some g = some K := he.symm ▸ rfl
      injection this
    subst this
    rw [h] at hgg; cases hgg
theorem Iter.grown {w w' : World} {K base e sz n : Nat} {s : ByteArray} {pos : Nat} {v : Value} {xs : List Value} {o : Obj} (h : Iter w K s pos) (own : w.ownsRow base e sz v n xs) (hg : (w.alloc o).grownBy w' v.ownBlock) : Iter w' K s pos := by
  have h1 : Iter (w.alloc o) K s pos := h.up ((Below.refl w.heap.size w).alloc (Nat.le_refl _) o) h.lt
  exact (hg.block K h1.lt (h.not_row own)).trans h1
theorem Iter.set {w : World} {K B : Nat} {s : ByteArray} {pos : Nat} (h : Iter w K s pos) (hne : K ≠ B) (v : Value) : Iter (w.setCell ⟨B, 0, none⟩ v) K s pos := (heap_setCell_other w ⟨B, 0, none⟩ K v hne).trans h
def powStep (root : Int) (L : List GRule) (d : UInt8) : List GRule := L ++ [pairR ((L.length : Int) - 1) ((L.length : Int) - 1)] ++ (if d = 49 then [pairR (L.length : Int) root] else [])
def powG (xs : List GRule) (n : Nat) : List GRule := if n = 0 ∨ xs.length = 0 then [] else (binL n).tail.foldl (powStep ((xs.length : Int) - 1)) xs
theorem binL_len (n : Nat) : ∀ k, n < 2 ^ k → 1 ≤ k → (binL n).length ≤ k := by
  induction n using Nat.strongRecOn with
  | ind n ih =>
    intro k hk h1
    by_cases c : n < 2
    · rw [binL_lt c]; simpa using h1
    · rw [binL_ge c, List.length_append]
      have hk2 : 2 ≤ k := by
        rcases Nat.lt_or_ge k 2 with h | h
        · have : k = 1 := by omega
          subst this; simp at hk; omega
        · exact h
      obtain ⟨j, rfl⟩ : ∃ j, k = j + 1 := ⟨k - 1, by omega⟩
      rw [Nat.pow_succ] at hk
      have := ih (n / 2) (by omega) j (by omega) (by omega)
      simp; omega
theorem binL_dig (n : Nat) : ∀ d ∈ binL n, d = 48 ∨ d = 49 := by
  induction n using Nat.strongRecOn with
  | ind n ih =>
    by_cases c : n < 2
    · rw [binL_lt c]
      intro d hd
      have : d = UInt8.ofNat (48 + n) := by simpa using hd
      have h2 : n = 0 ∨ n = 1 := by omega
      rcases h2 with rfl | rfl
      · left; rw [this]; rfl
      · right; rw [this]; rfl
    · rw [binL_ge c]
      intro d hd
      rcases List.mem_append.1 hd with h | h
      · exact ih (n / 2) (by omega) d h
      · have : d = UInt8.ofNat (48 + n % 2) := by simpa using h
        have h2 : n % 2 = 0 ∨ n % 2 = 1 := by omega
        rcases h2 with e | e
        · left; rw [this, e]; rfl
        · right; rw [this, e]; rfl
theorem binL_pos (n : Nat) : 1 ≤ (binL n).length := by
  by_cases c : n < 2
  · rw [binL_lt c]; simp
  · rw [binL_ge c]; simp
theorem powStep_len (root : Int) (L : List GRule) (d : UInt8) : (powStep root L d).length ≤ L.length + 2 := by
  unfold powStep; split <;> simp
theorem powFold_len (root : Int) : ∀ (ds : List UInt8) (L : List GRule), (ds.foldl (powStep root) L).length ≤ L.length + 2 * ds.length := by
  intro ds
  induction ds with
  | nil => intro L; simp
  | cons d ds ih =>
    intro L
    have h1 := ih (powStep root L d)
    have h2 := powStep_len root L d
    simp only [List.foldl_cons, List.length_cons]
    omega
theorem SlS.drew1 {α : Type} {E : Enc α} {w : World} {v : Value} {xs : List α} (h : Sl E w w.heap.size v xs) : Sl E w.drew w.drew.heap.size v xs := h.keep fun _ _ => rfl
set_option maxRecDepth 100000 in
set_option maxHeartbeats 4000000 in
theorem power_any (v : Value) (xs : List GRule) (n : Nat) (w : World) (h : Sl RuleE w w.heap.size v xs) (hn : xs.length ≤ 1048576) (ht : n < 1152921504606846976) (htab : Lib.TabIs Tryd.prog w "math/bits.deBruijn64tab" .u8 deB64) :
    Calls Tryd.prog 27 #[.agg #[v], .int .i64 n] w (GOwn (powG xs n) w) := by
  have h1 := fun o o' => (h.below (((Below.refl w.heap.size w).alloc (Nat.le_refl _) o).alloc (by simp) o')).le (B' := ((w.alloc o).alloc o').heap.size) (by simp; omega)
  have H1 := Lib.hid h1
  have HT := Lib.hid htab
  clear h1 htab
  obtain ⟨A, c, rfl, hc, hm, hrow⟩ := h
  clear hm hrow
  by_cases h0 : n = 0 ∨ xs.length = 0
  · have hg : powG xs n = [] := by rw [powG, if_pos h0]
    have Hg := Lib.hid hg
    clear hg
    by_cases hz : n = 0
    · subst hz
      clear h0
      go_enter Tryd.func27, Tryd.ntmps27
      go_wp2_with fail
      refine bodyPost_ret (v := .agg #[.slice none 0 0]) (by simp [results, Tryd.results27, go_sem]) rfl ⟨(by repeat (first | exact Below.refl _ _ | (refine Below.alloc ?_ (by first | omega | (simp; done) | (simp; omega)) _) | refine below_drewN ?_ _ | refine Below.drew ?_)), _, by rw [Hg.out]; exact World.ownsRow_nil _ _ _ _, rfl⟩
    · have hx : xs.length = 0 := by omega
      have g0 : ((n : Int) == 0) = false := by rw [beq_eq_false_iff_ne]; omega
      have g1 : ((xs.length : Int) == 0) = true := by simp [hx]
      clear h0 hx
      go_enter Tryd.func27, Tryd.ntmps27
      go_wp2_with fail
      refine bodyPost_ret (v := .agg #[.slice none 0 0]) (by simp [results, Tryd.results27, go_sem]) rfl ⟨(by repeat (first | exact Below.refl _ _ | (refine Below.alloc ?_ (by first | omega | (simp; done) | (simp; omega)) _) | refine below_drewN ?_ _ | refine Below.drew ?_)), _, by rw [Hg.out]; exact World.ownsRow_nil _ _ _ _, rfl⟩
  · have hg : powG xs n = (binL n).tail.foldl (powStep ((xs.length : Int) - 1)) xs := by rw [powG, if_neg h0]
    have Hg := Lib.hid hg
    have g0 : ((n : Int) == 0) = false := by rw [beq_eq_false_iff_ne]; omega
    have g1 : ((xs.length : Int) == 0) = false := by rw [beq_eq_false_iff_ne]; omega
    have hwx : IntKind.i64.wrap ((xs.length : Int) - 1) = (xs.length : Int) - 1 := IntWalk.i64_in _ (by omega)
    clear hg
    go_enter Tryd.func27, Tryd.ntmps27
    have hW0 : ∃ w0, w0 = (w.alloc (Obj.cells #[Value.slice A xs.length c] 26)).alloc (Obj.cells #[Value.slice none 0 0] 26) := ⟨_, rfl⟩
    obtain ⟨w0, hw0⟩ := hW0
    have HW0 := Lib.hid hw0
    have hs0 : w0.heap.size = w.heap.size + 2 := by rw [hw0]; simp
    have hB0 : Below w.heap.size w w0 := by rw [hw0]; exact (by repeat (first | exact Below.refl _ _ | (refine Below.alloc ?_ (by first | omega | (simp; done) | (simp; omega)) _) | refine below_drewN ?_ _ | refine Below.drew ?_))
    have hS0 : Sl RuleE w0 w0.heap.size (Value.slice A xs.length c) xs := by rw [hw0]; exact H1.out _ _
    have x0 : w0.cell? ⟨w.heap.size, 0, none⟩ = some (.slice A xs.length c) := by rw [hw0]; simp [go_sem]
    have y0 : w0.cell? ⟨w.heap.size + 1, 0, none⟩ = some (.slice none 0 0) := by rw [hw0]; simp [go_sem]
    have f0 : w0.frozen? ⟨w.heap.size + 1, 0, none⟩ = false := by rw [hw0]; simp [go_sem]
    have X0 := Lib.hid x0
    have Y0 := Lib.hid y0
    have F0 := Lib.hid f0
    have HB0 := Lib.hid hB0
    have cB : Calls Tryd.prog 46 #[.agg #[.slice A xs.length c]] w0.drew fun e w' => ∃ A1 c1, e = .returned (.agg #[.slice A1 xs.length c1]) ∧ OwnRules w' w0.heap.size (.slice A1 xs.length c1) xs ∧ Below w0.heap.size w0 w' :=
      (copied_any _ xs w0.drew (hS0.up (Below.drew (Below.refl _ _))) (by omega)).mono fun e w' ⟨v', h1, h2, h3⟩ => by
        obtain ⟨A1, c1, rfl, _⟩ := own_nil h2
        exact ⟨A1, c1, h1, h2, (Below.drew (Below.refl w0.heap.size w0)).trans h3⟩
    have cA : ∀ o, Calls Tryd.prog 46 #[.agg #[.slice A xs.length c]] (w0.alloc o).drew fun e w' => (∃ A1 c1, e = .returned (.agg #[.slice A1 xs.length c1]) ∧ OwnRules w' w0.heap.size (.slice A1 xs.length c1) xs ∧ Below w0.heap.size w0 w') ∧ w'.heap[w0.heap.size]? = some o :=
      fun o => (copied_any _ xs (w0.alloc o).drew ((hS0.up ((Below.refl _ _).alloc (Nat.le_refl _) o)).drew1) (by omega)).mono fun e w' ⟨v', h1, h2, h3⟩ => by
        obtain ⟨A1, c1, rfl, _⟩ := own_nil h2
        have hsz : w0.heap.size < (w0.alloc o).drew.heap.size := by show w0.heap.size < (w0.alloc o).heap.size; simp
        exact ⟨⟨A1, c1, h1, ownsRow_more h2 (Nat.le_of_lt hsz), (Below.drew ((Below.refl w0.heap.size w0).alloc (Nat.le_refl _) o)).trans (h3.mono (Nat.le_of_lt hsz))⟩, (h3.block w0.heap.size hsz).trans (alloc_heap_last _ _)⟩
    have CA := Lib.hid cA
    have CB := Lib.hid cB
    have Hs0 := Lib.hid hs0
    clear cA cB hB0 hS0 hw0 x0 y0 f0 hs0
    go_upto_region 3 with fail
    rw [← HW0.out]
    clear HW0
    go_cut [5, 6] (fun p q wx => ∃ (K : Nat) (vo : Value), p = .pointer (some ⟨K, 0, none⟩) ∧ q = .int .i64 ((xs.length : Int) - 1) ∧ w0.heap.size ≤ K ∧ Boxed wx K 26 vo ∧ OwnRules wx w0.heap.size vo xs ∧ Below w0.heap.size w0 wx)
    case first =>
      have x0 := X0.out
      have z0 : w.heap.size < w0.heap.size := by have := Hs0.out; omega
      go_region_law (go_simp; go_at_call 46; first
          | ((with_reducible refine (CA.out _).mono ?_); rintro e w1 ⟨⟨A1, c1, rfl, own1, hb1⟩, bx1⟩; have bxB : Boxed w1 w0.heap.size 26 (.slice none 0 0) := bx1; have hcb := bxB.cell; have hfb := bxB.frozen; have hlb := bxB.lt; have xx1 := (hb1.cell (p := ⟨w.heap.size, 0, none⟩) z0).trans X0.out; have zz1 := Nat.lt_of_lt_of_le z0 hb1.size)
          | ((with_reducible refine CB.out.mono ?_); rintro e w1 ⟨A1, c1, rfl, own1, hb1⟩; have xx1 := (hb1.cell (p := ⟨w.heap.size, 0, none⟩) z0).trans X0.out; have zz1 := Nat.lt_of_lt_of_le z0 hb1.size))
      all_goals
        go_wp2_with fail
        go_meet
        first
          | exact ⟨_, _, rfl, rfl, hb1.size, Boxed.new _ _ _, own1.alloc _, hb1.alloc hb1.size _⟩
          | exact ⟨_, _, rfl, rfl, Nat.le_refl _, Boxed.set _ bxB, ownsRow_setCell_other (a := ⟨w0.heap.size, 0, none⟩) own1 (bxB.not_row (by decide) own1).symm _, hb1.setCell (Nat.le_refl _) _⟩
    case rest =>
      revert hcut
      generalize wc = w1
      intro hcut
      obtain ⟨K, vo, rfl, rfl, hK, bx1, own1, hb1⟩ := hcut
      have hKl := bx1.lt
      have hxt := binL_len n 60 ht (by omega)
      have HT1 := Lib.hid (tab_below HT.out (HB0.out.trans (hb1.mono HB0.out.size)))
      go_wp2_with fail
      refine (formatInt_two n ht _ HT1.out).mono ?_
      rintro e w2 ⟨rfl, hb2⟩
      have bx2 := Boxed.up bx1 hb2 hKl
      have own2 : OwnRules w2 w0.heap.size vo xs := OwnRules.below own1 hb2
      have B2 := Lib.hid (hb1.trans (hb2.mono hb1.size))
      clear hb1 hb2 bx1 own1
      obtain ⟨BL, hBL⟩ : ∃ BL, binL n = BL := ⟨_, rfl⟩
      have hB1 : 1 ≤ BL.length := by rw [← hBL]; exact binL_pos n
      have hB60 : BL.length ≤ 60 := by rw [← hBL]; exact hxt
      have hdig : ∀ d ∈ BL, d = 48 ∨ d = 49 := by rw [← hBL]; exact binL_dig n
      have HBL := Lib.hid hBL
      rw [hBL]
      clear hBL
      obtain ⟨d0, ds, rfl⟩ : ∃ d0 ds, BL = d0 :: ds := by
        cases BL with
        | nil => simp at hB1
        | cons a l => exact ⟨a, l, rfl⟩
      have Hdig := Lib.hid hdig
      clear hdig hxt
      go_wp2_with fail
      have hex : (⟨(d0 :: ds).toArray⟩ : ByteArray).extract 1 (ds.length + 1) = ⟨ds.toArray⟩ := by
        apply ByteArray.ext
        simp [ByteArray.data_extract]
      rw [hex]
      clear hex
      have hit : Iter (w2.iter ⟨ds.toArray⟩ 0) w2.heap.size ⟨ds.toArray⟩ 0 := World.iter_heap _ _ _
      have hb3 : Below w2.heap.size w2 (w2.iter ⟨ds.toArray⟩ 0) := (Below.refl _ _).alloc (Nat.le_refl _) _
      have bx3 := Boxed.up bx2 hb3 bx2.lt
      have own3 : OwnRules (w2.iter ⟨ds.toArray⟩ 0) w0.heap.size vo xs := OwnRules.below own2 hb3
      have hK2 : K < w2.heap.size := bx2.lt
      have B3 := Lib.hid (B2.out.trans (hb3.mono B2.out.size))
      have hw02 : w0.heap.size ≤ w2.heap.size := B2.out.size
      clear hb3 bx2 own2
      revert hit bx3 own3 B3
      generalize w2.iter ⟨ds.toArray⟩ 0 = w3
      intro hit bx3 own3 B3
      obtain ⟨I, hI⟩ : ∃ I, w2.heap.size = I := ⟨_, rfl⟩
      rw [hI] at hit hK2 hw02
      rw [hI]
      clear hI
      have hdl : ds.length ≤ 60 := by simp at hB60; omega
      go_loopw [9] (fun q wr => ∃ (k : Nat) (vo : Value), k ≤ ds.length ∧ Iter wr I ⟨ds.toArray⟩ k ∧ Boxed wr K 26 vo ∧ OwnRules wr w0.heap.size vo ((ds.take k).foldl (powStep ((xs.length : Int) - 1)) xs) ∧ Below w0.heap.size w0 wr) (fun _ wr => ds.length - (match wr.heap[I]? with | some (.stringIter _ p) => p | _ => 0))
      case atStart => exact ⟨0, vo, Nat.zero_le _, hit, bx3, by simpa using own3, B3.out⟩
      case round =>
        obtain ⟨k, vo, hk, hit, hbox, hown, hb⟩ := hrel
        have Hb := Lib.hid hb
        have Hown := Lib.hid hown
        have Hbox := Lib.hid hbox
        have Hit := Lib.hid hit
        have hll := powFold_len ((xs.length : Int) - 1) (ds.take k) xs
        obtain ⟨L, hL⟩ : ∃ L, (ds.take k).foldl (powStep ((xs.length : Int) - 1)) xs = L := ⟨_, rfl⟩
        have HL := Lib.hid hL
        have hlen : L.length ≤ 2000000 := by rw [← hL]; simp at hll; omega
        rw [hL] at Hown
        clear hb hown hbox hit hll hL
        by_cases hlt : k < ds.length
        · have Hlt := Lib.hid hlt
          have hsz : k < (⟨ds.toArray⟩ : ByteArray).size := by show k < ds.toArray.size; simpa using hlt
          have hdk : (⟨ds.toArray⟩ : ByteArray)[k]'hsz = ds[k] := rfl
          have hd := Hdig.out ds[k] (by simp)
          have hnx := fun ty => Lib.run_next_ascii_at (P := Tryd.prog) wr I ⟨ds.toArray⟩ k ty Hit.out hsz (by rw [hdk]; rcases hd with h | h <;> rw [h] <;> decide)
          rw [hdk] at hnx
          have hii := Lib.iterAt_heap wr I ⟨ds.toArray⟩ k (k + 1) Hit.out
          have hio := fun j hj => Lib.iterAt_other wr I j ⟨ds.toArray⟩ (k + 1) hj
          have his := Lib.iterAt_size wr I ⟨ds.toArray⟩ (k + 1)
          have hbi := Lib.below_iterAt Hb.out (k := I) hw02 ⟨ds.toArray⟩ (k + 1)
          obtain ⟨wi, hwi⟩ : ∃ wi, wr.iterAt I ⟨ds.toArray⟩ (k + 1) = wi := ⟨_, rfl⟩
          simp only [hwi] at hnx hii hio his hbi
          have Bi := Lib.hid hbi
          have Iti := Lib.hid (show Iter wi I ⟨ds.toArray⟩ (k + 1) from hii)
          have Bxi := Lib.hid (show Boxed wi K 26 vo from (hio K (by omega)).trans Hbox.out)
          have Owi := Lib.hid (show OwnRules wi w0.heap.size vo L from own_keep Hown.out fun g hg => hio g fun e => by
            have := Hit.out.not_row Hown.out
            rw [hg, e] at this; exact this rfl)
          obtain ⟨D, hD⟩ : ∃ D, ds[k] = D := ⟨_, rfl⟩
          rw [hD] at hnx hd
          have HD := Lib.hid hD
          obtain ⟨Ao, co, rfl, _⟩ := own_nil Owi.out
          have bxc := Bxi.out.cell
          have bxf := Bxi.out.frozen
          clear hwi hii hio his hbi hdk hD
          have hw1 : IntKind.i64.wrap ((L.length : Int) - 1) = (L.length : Int) - 1 := IntWalk.i64_in _ (by omega)
          have Hll : Hid (L.length ≤ 1099511627775) := by rw [Hid]; omega
          have Hw0 := Lib.hid (show w0.heap.size ≤ wi.heap.size from Bi.out.size)
          have HKw := Lib.hid (show K < wi.heap.size from Bxi.out.lt)
          have HIw := Lib.hid (show I < wi.heap.size from Iti.out.lt)
          have Hlen := Lib.hid hlen
          clear hlen
          go_upto_region 8 with fail
          go_cut [9] from 29 to 54 (fun q wx => q = .int .i64 L.length ∧ ∃ vo : Value, Iter wx I ⟨ds.toArray⟩ (k + 1) ∧ Boxed wx K 26 vo ∧ OwnRules wx w0.heap.size vo (L ++ [pairR ((L.length : Int) - 1) ((L.length : Int) - 1)]) ∧ Below w0.heap.size w0 wx)
          case first =>
            go_region_law (first
              | (refine step_push_rule (base := w0.heap.size) (by rfl) _ _ (by rfl) (by rfl) (by first | rfl | simp) rfl (OwnRules.below Owi.out.drew hb2) Hll hs2 ?_; intro v3 w3 own3 hg3 hb3; have bx4 : Boxed w3 K 26 _ := Boxed.grown (Boxed.up (Boxed.mk' Bxi.out) hb2 HKw.out) (by decide) (OwnRules.below Owi.out.drew hb2) hg3; have it4 : Iter w3 I ⟨ds.toArray⟩ (k + 1) := Iter.grown (Iter.up (w := wi.drew) Iti.out hb2 HIw.out) (OwnRules.below Owi.out.drew hb2) hg3; obtain ⟨A3, c3, rfl, _⟩ := own_nil own3; have hcb3 := bx4.cell; have hfb3 := bx4.frozen; have hlb3 := bx4.lt)
              | (go_simp; go_at_call 48; refine (pairInt_any _ _ _).mono ?_; rintro e w4 ⟨rfl, hb2⟩; have bx2 := Boxed.up (Boxed.mk' Bxi.out) hb2 HKw.out; have hcb2 := bx2.cell; have hfb2 := bx2.frozen; have hlb2 := bx2.lt; have hs2 : w0.heap.size ≤ w4.heap.size := Nat.le_trans Hw0.out hb2.size))
            all_goals
              go_wp2_with fail
              go_meet
              try rw [hw1] at own3
              have e9 : (L ++ [pairR ((L.length : Int) - 1) ((L.length : Int) - 1)]).length = L.length + 1 := by simp
              have own9 : OwnRules w3 w0.heap.size (.slice A3 (L.length + 1) c3) (L ++ [pairR ((L.length : Int) - 1) ((L.length : Int) - 1)]) := by rw [← e9]; exact own3
              refine ⟨rfl, _, it4.set (by omega) _, Boxed.set _ bx4, ownsRow_setCell_other (a := ⟨K, 0, none⟩) own9 (bx4.not_row (by decide) own9).symm _, ?_⟩
              exact ((((Below.drew Bi.out).trans (hb2.mono Hw0.out)).alloc hs2 _).trans hb3).setCell hK _
          case rest =>
            revert hcut
            generalize wc = w5
            intro hcut
            obtain ⟨rfl, vo5, it5, bx5, own5, b5⟩ := hcut
            have It5 := Lib.hid it5
            have Bx5 := Lib.hid bx5
            have B5 := Lib.hid b5
            obtain ⟨M, hM⟩ : ∃ M, L ++ [pairR ((L.length : Int) - 1) ((L.length : Int) - 1)] = M := ⟨_, rfl⟩
            rw [hM] at own5
            have hMl : M.length = L.length + 1 := by rw [← hM]; simp
            have HM := Lib.hid hM
            have Ow5 := Lib.hid own5
            obtain ⟨A5, c5, rfl, _⟩ := own_nil own5
            have bxc5 := bx5.cell
            have bxf5 := bx5.frozen
            clear hM it5 bx5 b5 own5
            have Hstep : Hid ((ds.take (k + 1)).foldl (powStep ((xs.length : Int) - 1)) xs = powStep ((xs.length : Int) - 1) L D) := by
              rw [Hid, List.take_add_one, List.getElem?_eq_getElem hlt, List.foldl_append, HL.out, HD.out]; rfl
            rcases hd with rfl | rfl
            · go_wp2_with fail
              have e : powStep ((xs.length : Int) - 1) L 48 = M := by rw [← HM.out]; simp [powStep]
              refine ⟨⟨k + 1, _, by omega, It5.out, Bx5.out, ?_, B5.out⟩, ?_⟩
              · rw [Hstep.out, e]; exact Ow5.out
              · have i1 : w5.heap[I]? = some (.stringIter ⟨ds.toArray⟩ (k + 1)) := It5.out
                have i2 : wr.heap[I]? = some (.stringIter ⟨ds.toArray⟩ k) := Hit.out
                rw [i1, i2]
                show ds.length - (k + 1) < ds.length - k
                have := Hlt.out; omega
            · have Hw5 := Lib.hid (show w0.heap.size ≤ w5.heap.size from B5.out.size)
              have HK5 := Lib.hid (show K < w5.heap.size from Bx5.out.lt)
              have HI5 := Lib.hid (show I < w5.heap.size from It5.out.lt)
              have Hml : Hid (M.length ≤ 1099511627775) := by rw [Hid]; have := Hlen.out; omega
              have HMl := Lib.hid hMl
              clear hMl
              go_wp2_with fail
              go_region_law (first
                | (refine step_push_rule (base := w0.heap.size) (by rfl) _ _ (by rfl) (by rfl) (by first | rfl | simp) rfl (OwnRules.below Ow5.out.drew hb6) Hml hs6 ?_; intro v7 w7 own7 hg7 hb7; have bx7 : Boxed w7 K 26 _ := Boxed.grown (Boxed.up (Boxed.mk' Bx5.out) hb6 HK5.out) (by decide) (OwnRules.below Ow5.out.drew hb6) hg7; have it7 : Iter w7 I ⟨ds.toArray⟩ (k + 1) := Iter.grown (Iter.up (w := w5.drew) It5.out hb6 HI5.out) (OwnRules.below Ow5.out.drew hb6) hg7; obtain ⟨A7, c7, rfl, _⟩ := own_nil own7; have hcb7 := bx7.cell; have hfb7 := bx7.frozen; have hlb7 := bx7.lt)
                | (go_simp; go_at_call 48; refine (pairInt_any _ _ _).mono ?_; rintro e w6 ⟨rfl, hb6⟩; have bx6 := Boxed.up (Boxed.mk' Bx5.out) hb6 HK5.out; have hcb6 := bx6.cell; have hfb6 := bx6.frozen; have hlb6 := bx6.lt; have hs6 : w0.heap.size ≤ w6.heap.size := Nat.le_trans Hw5.out hb6.size))
              all_goals
                go_wp2_with fail
                have e : powStep ((xs.length : Int) - 1) L 49 = M ++ [pairR (L.length : Int) ((xs.length : Int) - 1)] := by rw [← HM.out]; simp [powStep]
                have e9 : (M ++ [pairR (L.length : Int) ((xs.length : Int) - 1)]).length = M.length + 1 := by simp
                have own9 : OwnRules w7 w0.heap.size (.slice A7 (M.length + 1) c7) (M ++ [pairR (L.length : Int) ((xs.length : Int) - 1)]) := by rw [← e9]; exact own7
                have it9 := it7.set (B := K) (by omega) (.slice A7 (M.length + 1) c7)
                refine ⟨⟨k + 1, _, by have := Hlt.out; omega, it9, Boxed.set _ bx7, ?_, ?_⟩, ?_⟩
                · rw [Hstep.out, e]; exact ownsRow_setCell_other (a := ⟨K, 0, none⟩) own9 (bx7.not_row (by decide) own9).symm _
                · exact ((((Below.drew B5.out).trans (hb6.mono Hw5.out)).alloc hs6 _).trans hb7).setCell hK _
                · have i1 : (w7.setCell ⟨K, 0, none⟩ (.slice A7 (M.length + 1) c7)).heap[I]? = some (.stringIter ⟨ds.toArray⟩ (k + 1)) := it9
                  have i2 : wr.heap[I]? = some (.stringIter ⟨ds.toArray⟩ k) := Hit.out
                  rw [i1, i2]
                  show ds.length - (k + 1) < ds.length - k
                  have := Hlt.out; omega
        · have hkn : k = ds.length := by omega
          subst hkn
          have hsz : ¬ ds.length < (⟨ds.toArray⟩ : ByteArray).size := by show ¬ ds.length < ds.toArray.size; simp
          have hnx := fun ty => Lib.run_next_end_at (P := Tryd.prog) wr I ⟨ds.toArray⟩ ds.length ty Hit.out hsz
          obtain ⟨Ao, co, rfl, _⟩ := own_nil Hown.out
          have bxc := Hbox.out.cell
          have y0 := (Hb.out.cell (p := ⟨w.heap.size + 1, 0, none⟩) (by have := Hs0.out; show w.heap.size + 1 < _; omega)).trans Y0.out
          have f0 := (Hb.out.frozen (p := ⟨w.heap.size + 1, 0, none⟩) (by have := Hs0.out; show w.heap.size + 1 < _; omega)).trans F0.out
          have HL' : Hid (powG xs n = L) := by rw [Hid, Hg.out, HBL.out, List.tail_cons, ← HL.out, List.take_length]
          clear hlen hlt hsz
          go_wp2_with fail
          refine bodyPost_ret (v := .agg #[.slice Ao L.length co]) (by simp [results, Tryd.results27, go_sem, y0]) rfl ⟨?_, _, ?_, rfl⟩
          · exact (HB0.out.trans (Hb.out.mono HB0.out.size)).setCell (by show w.heap.size ≤ w.heap.size + 1; omega) _
          · rw [HL'.out]
            have h6 := ownsRow_setCell_below (a := ⟨w.heap.size + 1, 0, none⟩) Hown.out (by have := Hs0.out; show w.heap.size + 1 < w0.heap.size; omega) (.slice Ao L.length co)
            exact ownsRow_more h6 HB0.out.size
def gramLen (xs : List GRule) : Int := match lens xs with | some ls => lastI ls | none => 0
theorem gramLen_of {xs : List GRule} {ls : List Int} (h : lens xs = some ls) : gramLen xs = lastI ls := by simp [gramLen, h]
theorem lastI_bounds {xs : List GRule} {ls : List Int} (h : lens xs = some ls) : 0 ≤ lastI ls ∧ lastI ls ≤ 1000000000000000 := by
  have hll := lens_length h
  unfold lastI
  by_cases h0 : xs.length = 0
  · have : ls = [] := List.eq_nil_of_length_eq_zero (by omega)
    subst this; simp
  · have := lens_pos' h (r := ls.length - 1) (by omega)
    omega
theorem gramLen_bounds (xs : List GRule) : 0 ≤ gramLen xs ∧ gramLen xs ≤ 1000000000000000 := by
  unfold gramLen
  split
  · rename_i ls h; exact lastI_bounds h
  · omega
set_option maxRecDepth 100000 in
theorem l02Length_any (b o : Nat) (v : Value) (xs : List GRule) (ls : List Int) (w : World) (hl : lens xs = some ls) (hp : w.cell? ⟨b, o, none⟩ = some v) (hbl : b < w.heap.size) (h : Sl RuleE w w.heap.size v xs) (hsm : SmallL xs) (hn : xs.length ≤ 1099511627776) :
    Calls Tryd.prog 45 #[.pointer (some ⟨b, o, none⟩)] w fun e w' => e = .returned (.int .i64 (lastI ls)) ∧ Below w.heap.size w w' := by
  have Hsl := Lib.hid h
  have Hl := Lib.hid hl
  clear h hl
  go_enter Tryd.func45, Tryd.ntmps45
  go_wp2_with fail
  refine (l02Sizes_any _ _ _ _ _ hp hbl Hsl.out hsm hn).mono ?_
  rintro e w1 ⟨hb, (⟨ls', v1, h1, rfl, h2⟩ | ⟨h1, _⟩)⟩
  · have e1 : ls' = ls := by rw [Hl.out] at h1; injection h1 with h1; exact h1.symm
    subst e1
    have HB := Lib.hid hb
    have hsl := h2.sl
    obtain ⟨A, c, rfl, hc, hm, hrow⟩ := hsl
    unfold maxLen at hm
    clear h1 h2 hb
    by_cases h0 : ls'.length = 0
    · have hl : ls' = [] := List.eq_nil_of_length_eq_zero h0
      subst hl
      clear hrow
      go_wp2_with fail
      go_ret
      exact ⟨rfl, HB.out⟩
    · obtain ⟨b, o, rfl, hbl, hcell⟩ := hrow.int (k := 0) (by omega)
      have hc0 := hcell (ls'.length - 1) (by omega)
      have g0 : ((ls'.length : Int) == 0) = false := by rw [beq_eq_false_iff_ne]; omega
      have hk : ((ls'.length : Int) - 1).toNat = ls'.length - 1 := by omega
      have hl : 0 ≤ (ls'.length : Int) - 1 := by omega
      have hwr : IntKind.i64.wrap ((ls'.length : Int) - 1) = (ls'.length : Int) - 1 := IntWalk.i64_in _ (by omega)
      obtain ⟨x, hx⟩ : ∃ x, ls'.getD (ls'.length - 1) 0 = x := ⟨_, rfl⟩
      have Hx := Lib.hid hx
      rw [hx] at hc0
      clear hcell hx hrow
      go_wp2_with fail
      go_ret
      exact ⟨ret_int (by rw [lastI, Hx.out]), HB.out⟩
  · rw [Hl.out] at h1; cases h1
def lenV (xs : List GRule) : Int := if gramOk xs then gramLen xs else 0
def lenC (xs : List GRule) : Int := if gramOk xs then 0 else 1
set_option maxRecDepth 100000 in
theorem LengthOf_any (v : Value) (xs : List GRule) (w : World) (h : Sl RuleE w w.heap.size v xs) (hn : xs.length ≤ 1099511627776) :
    Calls Tryd.prog 10 #[.agg #[v]] w fun e w' => e = .returned (.tuple #[.int .i64 (lenV xs), .int .i64 (lenC xs)]) ∧ Below w.heap.size w w' := by
  have h1 := fun o => (h.below ((Below.refl w.heap.size w).alloc (Nat.le_refl _) o)).le (B' := (w.alloc o).heap.size) (by simp)
  have H1 := Lib.hid h1
  clear h1 h
  go_enter Tryd.func10, Tryd.ntmps10
  go_wp2_with fail
  refine (lengths_any _ _ _ (H1.out _) hn).mono ?_
  rintro e w1 ⟨hb, (⟨ls, v1, h1, rfl, h2⟩ | ⟨h1, rfl⟩)⟩
  · have HL := Lib.hid h2.sl
    have H1' := Lib.hid h1
    have HB := Lib.hid hb
    obtain ⟨A, c, rfl, _⟩ := h2.sl
    clear h1 h2 hb
    by_cases hc : xs.length ≤ 400
    · have hd : decide (xs.length ≤ 400) = true := by simp [hc]
      have hg : gramOk xs = true := by simp [gramOk, H1'.out, hc]
      have Hg := Lib.hid hg
      rw [hd]
      clear hd hc hg
      go_wp2_with fail
      refine (last_any _ ls _ HL.out).mono ?_
      rintro e w2 ⟨rfl, rfl⟩
      go_wp2_with fail
      go_ret2
      exact ⟨by simp [lenV, lenC, Hg.out, gramLen_of H1'.out], ((Below.refl _ _).alloc (Nat.le_refl _) _).trans (HB.out.mono (by simp))⟩
    · have hd : decide (xs.length ≤ 400) = false := by simp [hc]
      have hg : gramOk xs = false := by simp [gramOk, hc]
      have Hg := Lib.hid hg
      rw [hd]
      clear hd hc hg
      go_wp2_with fail
      go_ret2
      exact ⟨by simp [lenV, lenC, Hg.out], ((Below.refl _ _).alloc (Nat.le_refl _) _).trans (HB.out.mono (by simp))⟩
  · have hg : gramOk xs = false := by simp [gramOk, h1]
    have Hg := Lib.hid hg
    have HB := Lib.hid hb
    clear h1 hg hb
    go_wp2_with fail
    go_ret2
    exact ⟨by simp [lenV, lenC, Hg.out], ((Below.refl _ _).alloc (Nat.le_refl _) _).trans (HB.out.mono (by simp))⟩
theorem lens_app (xs ys : List GRule) : lens (xs ++ ys) = ys.foldl lensStep (lens xs) := by simp [lens, List.foldl_append]
theorem lens_pre {xs ys : List GRule} {l : List Int} (h : lens (xs ++ ys) = some l) : ∃ l1 t, lens xs = some l1 ∧ l = l1 ++ t := by
  rw [lens_app] at h
  cases hx : lens xs with
  | none => rw [hx, lens_none] at h; cases h
  | some l1 =>
    rw [hx] at h
    suffices H : ∀ (ys : List GRule) (a o : List Int), ys.foldl lensStep (some a) = some o → ∃ t, o = a ++ t by
      obtain ⟨t, ht⟩ := H ys l1 l h
      exact ⟨l1, t, rfl, ht⟩
    intro ys
    induction ys with
    | nil => intro a o h; simp at h; exact ⟨[], by simp [h]⟩
    | cons y ys ih =>
      intro a o h
      rw [List.foldl_cons] at h
      cases hs : lensStep (some a) y with
      | none => rw [hs, lens_none] at h; cases h
      | some b =>
        rw [hs] at h
        obtain ⟨t, rfl⟩ := ih b o h
        simp only [lensStep, Option.bind_some] at hs
        split at hs
        · cases hs; exact ⟨_, by rw [List.append_assoc]⟩
        · cases hs
theorem getR_app {xs ys : List GRule} {r : Nat} (h : r < xs.length) : getR (xs ++ ys) r = getR xs r := by
  unfold getR; rw [List.getD_eq_getElem?_getD, List.getElem?_append_left h, List.getD_eq_getElem?_getD]
theorem wordR_app {xs ys : List GRule} {ls : List Int} (h : lens xs = some ls) : ∀ (f r : Nat), r < xs.length → wordR (xs ++ ys) f r = wordR xs f r := by
  intro f
  induction f with
  | zero => intro r _; rfl
  | succ f ih =>
    intro r hr
    rw [wordR, wordR, getR_app hr]
    cases hp : (getR xs r).pair with
    | false => rfl
    | true =>
      obtain ⟨q1, q2, q3, q4, q5⟩ := lens_pair h hr hp
      rw [if_pos rfl, if_pos rfl, ih _ (by omega), ih _ (by omega)]
theorem W1_appL {xs ys : List GRule} {ls : List Int} (h : lens xs = some ls) {r : Nat} (hr : r < xs.length) : W1 (xs ++ ys) r = W1 xs r := wordR_app h _ _ hr
theorem getR_new (xs : List GRule) (x : GRule) : getR (xs ++ [x]) xs.length = x := by
  unfold getR; rw [List.getD_eq_getElem?_getD, List.getElem?_append_right (Nat.le_refl _), Nat.sub_self]; rfl
theorem W1_snoc {xs : List GRule} {l : List Int} {a b : Nat} (h : lens (xs ++ [pairR a b]) = some l) (ha : a < xs.length) (hb : b < xs.length) : W1 (xs ++ [pairR a b]) xs.length = W1 xs a ++ W1 xs b := by
  obtain ⟨l1, t, h1, _⟩ := lens_pre h
  have hp : (getR (xs ++ [pairR a b]) xs.length).pair = true := by rw [getR_new]; exact pairR_pair _ _
  rw [W1_pair h (by simp) hp, getR_new]
  show W1 (xs ++ [pairR a b]) (Int.toNat (a : Int)) ++ W1 (xs ++ [pairR a b]) (Int.toNat (b : Int)) = _
  rw [Int.toNat_natCast, Int.toNat_natCast, W1_appL h1 ha, W1_appL h1 hb]
theorem lens_snoc {xs : List GRule} {ls : List Int} {a b : Nat} (h : lens xs = some ls) (ha : a < xs.length) (hb : b < xs.length) (hm : ls.getD a 0 + ls.getD b 0 ≤ maxL) : lens (xs ++ [pairR a b]) = some (ls ++ [ls.getD a 0 + ls.getD b 0]) := by
  rw [lens_app, h]
  have hl := lens_length h
  have hr : ruleLen ls (pairR a b) = ls.getD a 0 + ls.getD b 0 := by
    unfold ruleLen
    rw [if_pos (pairR_pair _ _)]
    show ls.getD (Int.toNat (a : Int)) 0 + ls.getD (Int.toNat (b : Int)) 0 = _
    rw [Int.toNat_natCast, Int.toNat_natCast]
  simp only [List.foldl_cons, List.foldl_nil, lensStep, Option.bind_some]
  rw [hr, if_pos ⟨okRule_pair ⟨by omega, by omega⟩ ⟨by omega, by omega⟩, hm⟩]
theorem wordG_snoc {xs : List GRule} {x : GRule} : wordG (xs ++ [x]) = W1 (xs ++ [x]) xs.length := by
  rw [wordG_pos (by simp)]; simp
theorem join_word {xs : List GRule} {ls : List Int} (h : lens xs = some ls) : ∀ (cs : List Nat) (L : List GRule) (l0 : List Int) (t : Nat) (w : List UInt8), lens L = some l0 → (∃ y, L = xs ++ y) → t < L.length → W1 L t = w → (∀ c ∈ cs, c < xs.length) →
    ((w ++ cs.flatMap (W1 xs)).length : Int) ≤ maxL → ∃ (l1 : List Int) (T : Nat), lens (cs.foldl joinStep (L, (t : Int))).1 = some l1 ∧ (cs.foldl joinStep (L, (t : Int))).2 = (T : Int) ∧ T < (cs.foldl joinStep (L, (t : Int))).1.length ∧ W1 (cs.foldl joinStep (L, (t : Int))).1 T = w ++ cs.flatMap (W1 xs) ∧ (cs ≠ [] → T = (cs.foldl joinStep (L, (t : Int))).1.length - 1) := by
  intro cs
  induction cs with
  | nil => intro L l0 t w h1 _ ht hw _ _; exact ⟨l0, t, h1, rfl, ht, by simpa using hw, fun h => absurd rfl h⟩
  | cons c cs ih =>
    intro L l0 t w h1 hy ht hw hc hm
    obtain ⟨y, rfl⟩ := hy
    have hcl : c < xs.length := hc c (by simp)
    have hcL : c < (xs ++ y).length := by simp; omega
    have hwc : W1 (xs ++ y) c = W1 xs c := W1_appL h hcl
    have e1 := W1_len h1 t ht
    have e2 := W1_len h1 c hcL
    rw [hw] at e1
    rw [hwc] at e2
    rw [List.flatMap_cons, ← List.append_assoc] at hm
    have hsum : l0.getD t 0 + l0.getD c 0 ≤ maxL := by
      rw [List.length_append, List.length_append] at hm
      omega
    have h2 := lens_snoc h1 ht hcL hsum
    have hw2 := W1_snoc h2 ht hcL
    rw [hw, hwc] at hw2
    obtain ⟨l1, T, k1, k2, k3, k4, k5⟩ := ih ((xs ++ y) ++ [pairR t c]) _ (xs ++ y).length (w ++ W1 xs c) h2 ⟨y ++ [pairR t c], by rw [List.append_assoc]⟩ (by simp) hw2 (fun d hd => hc d (by simp [hd])) hm
    have e : (c :: cs).foldl joinStep (xs ++ y, (t : Int)) = cs.foldl joinStep ((xs ++ y) ++ [pairR t c], (((xs ++ y).length : Nat) : Int)) := rfl
    rw [e]
    refine ⟨l1, T, k1, k2, k3, by rw [k4, List.flatMap_cons, List.append_assoc], fun _ => ?_⟩
    by_cases hcs : cs = []
    · subst hcs
      have : T = (xs ++ y).length := by
        have h3 : (((xs ++ y).length : Nat) : Int) = (T : Int) := k2
        omega
      rw [this]; simp
    · exact k5 hcs
theorem cutG_word {xs : List GRule} {ls : List Int} (h : lens xs = some ls) (cs : List Nat) (hc : ∀ c ∈ cs, c < xs.length) (hm : ((cs.flatMap (W1 xs)).length : Int) ≤ maxL) : ∃ l1, lens (cutG xs cs) = some l1 ∧ wordG (cutG xs cs) = cs.flatMap (W1 xs) := by
  match cs with
  | [] => exact ⟨[], rfl, rfl⟩
  | [c] =>
    have hcl : c < xs.length := hc c (by simp)
    have hx : xs.take (c + 1) ++ xs.drop (c + 1) = xs := List.take_append_drop _ _
    obtain ⟨l1, t, h1, _⟩ := lens_pre (xs := xs.take (c + 1)) (ys := xs.drop (c + 1)) (by rw [hx]; exact h)
    refine ⟨l1, h1, ?_⟩
    show wordG (xs.take (c + 1)) = _
    have hl : (xs.take (c + 1)).length = c + 1 := by rw [List.length_take]; omega
    rw [wordG_pos (by omega), hl, List.flatMap_cons, List.flatMap_nil, List.append_nil]
    have := W1_appL (ys := xs.drop (c + 1)) h1 (r := c) (by omega)
    rw [hx] at this
    rw [this]; rfl
  | c :: d :: cs =>
    obtain ⟨l1, T, k1, k2, k3, k4, k5⟩ := join_word h (d :: cs) xs ls c (W1 xs c) h ⟨[], by simp⟩ (hc c (by simp)) rfl (fun x hx => hc x (by simp at hx; simp; exact .inr hx)) (by simpa using hm)
    refine ⟨l1, k1, ?_⟩
    have hT := k5 (by simp)
    show wordG ((d :: cs).foldl joinStep (xs, (c : Int))).1 = _
    rw [wordG_pos (by omega), ← hT, k4]; simp
theorem partG_word {xs : List GRule} {ls : List Int} (h : lens xs = some ls) {i j : Int} (hi : 0 ≤ i) (hij : i ≤ j) (hj : j ≤ lastI ls) : ∃ l1, lens (partG xs ls i j) = some l1 ∧ wordG (partG xs ls i j) = cutL (wordG xs) i j := by
  have hw := pieces_word h (i := i) (j := j)
  have hlen := wordG_len h
  have hb := gramLen_bounds xs
  rw [gramLen_of h] at hb
  have hm : (((piecesL xs ls i j).flatMap (W1 xs)).length : Int) ≤ maxL := by
    rw [hw, cutL_len hi hij (by omega)]; unfold maxL; omega
  obtain ⟨l1, h1, h2⟩ := cutG_word h _ (pieces_mem h i j) hm
  obtain ⟨l2, h3, h4, _⟩ := trimG_sem h1
  exact ⟨l2, h3, by unfold partG; rw [h4, h2, hw]⟩
def repW (w : List UInt8) (n : Nat) : List UInt8 := (List.replicate n w).flatten
theorem repW_add (w : List UInt8) (m n : Nat) : repW w (m + n) = repW w m ++ repW w n := by
  unfold repW; rw [← List.replicate_append_replicate, List.flatten_append]
theorem repW_one (w : List UInt8) : repW w 1 = w := by simp [repW]
theorem repW_len (w : List UInt8) (n : Nat) : (repW w n).length = n * w.length := by simp [repW]
def digV (m : Nat) (d : UInt8) : Nat := 2 * m + (if d = 49 then 1 else 0)
theorem powStep_pre (root : Int) (L : List GRule) (ds : List UInt8) : ∃ t, ds.foldl (powStep root) L = L ++ t := by
  induction ds generalizing L with
  | nil => exact ⟨[], by simp⟩
  | cons d ds ih =>
    obtain ⟨t, ht⟩ := ih (powStep root L d)
    rw [List.foldl_cons, ht]
    unfold powStep
    exact ⟨_, by simp only [List.append_assoc]; rfl⟩
theorem powFold_word {w : List UInt8} {root : Nat} : ∀ (ds : List UInt8) (L : List GRule) (l : List Int) (m : Nat), lens (ds.foldl (powStep (root : Int)) L) = some l → 0 < L.length → root < L.length → W1 L root = w → wordG L = repW w m →
    wordG (ds.foldl (powStep (root : Int)) L) = repW w (ds.foldl digV m) := by
  intro ds
  induction ds with
  | nil => intro L l m _ _ _ _ h; exact h
  | cons d ds ih =>
    intro L l m hl h0 hr hw hm
    rw [List.foldl_cons] at hl ⊢
    rw [List.foldl_cons]
    obtain ⟨t, ht⟩ := powStep_pre root (powStep root L d) ds
    obtain ⟨l1, _, h1, _⟩ := lens_pre (by rw [← ht]; exact hl)
    have e0 : ((L.length : Int) - 1) = ((L.length - 1 : Nat) : Int) := by omega
    have hS : powStep root L d = (L ++ [pairR ((L.length - 1 : Nat) : Int) ((L.length - 1 : Nat) : Int)]) ++ (if d = 49 then [pairR (L.length : Int) root] else []) := by
      unfold powStep; rw [e0]
    rw [hS] at h1
    obtain ⟨l2, _, h2, _⟩ := lens_pre h1
    obtain ⟨l3, _, h3, _⟩ := lens_pre h2
    have w2 := W1_snoc h2 (by omega) (by omega)
    have hlast : W1 L (L.length - 1) = repW w m := by rw [← hm, wordG_pos h0]
    rw [hlast] at w2
    refine ih _ l _ hl ?_ ?_ ?_ ?_
    · rw [hS]; simp only [List.length_append]; omega
    · rw [hS]; simp only [List.length_append]; omega
    · rw [hS, List.append_assoc, W1_appL h3 hr, hw]
    · rw [hS]
      by_cases hd : d = 49
      · rw [if_pos hd] at h1 ⊢
        have hl2 : (L ++ [pairR ((L.length - 1 : Nat) : Int) ((L.length - 1 : Nat) : Int)]).length = L.length + 1 := by simp
        have w3 := W1_snoc (a := L.length) (b := root) h1 (by omega) (by omega)
        rw [wordG_snoc, w3, w2, W1_appL h3 hr, hw]
        unfold digV
        rw [if_pos hd, Nat.two_mul, repW_add, repW_add, repW_one]
      · rw [if_neg hd, List.append_nil, wordG_snoc, w2]
        unfold digV
        rw [if_neg hd, Nat.two_mul, Nat.add_zero, repW_add]
theorem binL_val (n : Nat) : (binL n).foldl digV 0 = n := by
  induction n using Nat.strongRecOn with
  | ind n ih =>
    by_cases c : n < 2
    · rw [binL_lt c]
      rcases (by omega : n = 0 ∨ n = 1) with rfl | rfl <;> rfl
    · rw [binL_ge c, List.foldl_append, ih (n / 2) (by omega)]
      simp only [List.foldl_cons, List.foldl_nil, digV]
      rcases (by omega : n % 2 = 0 ∨ n % 2 = 1) with h | h
      · rw [h]; simp; omega
      · rw [h]; simp; omega
theorem binL_head (n : Nat) (h : 0 < n) : ∃ t, binL n = 49 :: t := by
  induction n using Nat.strongRecOn with
  | ind n ih =>
    by_cases c : n < 2
    · rw [binL_lt c, show n = 1 by omega]; exact ⟨[], rfl⟩
    · obtain ⟨t, ht⟩ := ih (n / 2) (by omega) (by omega)
      rw [binL_ge c, ht]; exact ⟨_, rfl⟩
theorem powG_word {xs : List GRule} {ls l : List Int} (h : lens xs = some ls) {n : Nat} (hp : lens (powG xs n) = some l) : wordG (powG xs n) = repW (wordG xs) n := by
  unfold powG at hp ⊢
  split
  · rename_i hc
    rcases hc with rfl | hc
    · rfl
    · have : xs = [] := List.eq_nil_of_length_eq_zero hc
      subst this
      simp [repW, wordG]
  · rename_i hc
    rw [if_neg hc] at hp
    have h0 : 0 < xs.length := by omega
    obtain ⟨t, ht⟩ := binL_head n (by omega)
    have hv := binL_val n
    rw [ht] at hp hv ⊢
    rw [List.tail_cons] at hp ⊢
    have e0 : ((xs.length : Int) - 1) = ((xs.length - 1 : Nat) : Int) := by omega
    rw [e0] at hp ⊢
    have := powFold_word (w := wordG xs) t xs l 1 hp h0 (by omega) (by rw [wordG_pos h0]) (repW_one _).symm
    rw [this]
    rw [List.foldl_cons] at hv
    have e1 : digV 0 49 = 1 := rfl
    rw [e1] at hv
    rw [hv]
end Go.Proofs.YtfhiaifdigefdaaDoor
