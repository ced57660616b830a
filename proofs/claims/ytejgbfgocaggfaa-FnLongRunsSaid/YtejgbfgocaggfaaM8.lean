import Derived.Test.YtejgbfgocaggfaaM4
import Derived.Test.YtejgbfgocaggfaaM6
import Derived.Shelf.Strconv.Itoa0
import Derived.Shelf.Strconv.Itoa1
import Derived.Shelf.LaysM
import Derived.Shelf.Strconv.Itoa2
import Derived.Shelf.Strconv.Itoa3
import Derived.Shelf.Strconv.Itoa4
import Derived.Test.YtejgbfgocaggfaaProg
import Derived.Test.YtejgbfgocaggfaaM1
import Derived.Lib.LaidTab
import Derived.WalkSmall
import Derived.Test.YtejgbfgocaggfaaM5
import Derived.Lib.OthersKept
import Derived.Deep.CutRange
import Derived.Deep.DeepCutAuto
import Derived.Test.YtejgbfgocaggfaaM7
import Derived.Lib.UnsafeStr
import Derived.Laws.IdiomStrings
import Derived.BigQuiet
import Derived.Lib.Builder
import Derived.Laws.Bits64b
namespace Go.Proofs.Ytejgbfgocaggfaa
theorem okA_at {xs : List GRule} (h : OkAll xs) {r : Nat} (hx : r < xs.length) (hp : (getR xs r).pair = true) :
    0 ≤ (getR xs r).left ∧ (getR xs r).left.toNat < r ∧ 0 ≤ (getR xs r).right ∧ (getR xs r).right.toNat < r := okRule_at (h r _ (getR_at hx)) hp
theorem wordR_fuelA {xs : List GRule} (h : OkAll xs) : ∀ (f r : Nat), r < f → r < xs.length → wordR xs f r = W1 xs r := by
  intro f
  induction f using Nat.strongRecOn with
  | _ f ih =>
    intro r hr hx
    obtain ⟨g, rfl⟩ : ∃ g, f = g + 1 := ⟨f - 1, by omega⟩
    unfold W1
    rw [wordR, wordR]
    cases hp : (getR xs r).pair with
    | false => rfl
    | true =>
      obtain ⟨q1, q2, q3, q4⟩ := okA_at h hx hp
      rw [if_pos rfl, if_pos rfl, ih g (by omega) _ (by omega) (by omega), ih g (by omega) _ (by omega) (by omega)]
      by_cases e : r = g
      · subst e
        rw [ih r (by omega) _ (by omega) (by omega), ih r (by omega) _ (by omega) (by omega)]
      · rw [ih r (by omega) _ q2 (by omega), ih r (by omega) _ q4 (by omega)]
theorem W1_pairA {xs : List GRule} (h : OkAll xs) {r : Nat} (hx : r < xs.length) (hp : (getR xs r).pair = true) : W1 xs r = W1 xs (getR xs r).left.toNat ++ W1 xs (getR xs r).right.toNat := by
  obtain ⟨q1, q2, q3, q4⟩ := okA_at h hx hp
  rw [W1, wordR, if_pos hp, wordR_fuelA h r _ q2 (by omega), wordR_fuelA h r _ q4 (by omega)]
theorem W1_same {xs : List GRule} (h : OkAll xs) {i j : Nat} (hi : i < xs.length) (hj : j < xs.length) (e : getR xs i = getR xs j) : W1 xs i = W1 xs j := by
  cases hp : (getR xs i).pair with
  | true => rw [W1_pairA h hi hp, W1_pairA h hj (by rw [← e]; exact hp), e]
  | false => rw [W1_let hp, W1_let (by rw [← e]; exact hp), e]
theorem W1_app {xs ys : List GRule} (h : OkAll xs) (h' : OkAll (xs ++ ys)) : ∀ (r : Nat), r < xs.length → W1 (xs ++ ys) r = W1 xs r := by
  intro r
  induction r using Nat.strongRecOn with
  | _ r ih =>
    intro hx
    have e : getR (xs ++ ys) r = getR xs r := getR_append hx
    cases hp : (getR xs r).pair with
    | true =>
      obtain ⟨q1, q2, q3, q4⟩ := okA_at h hx hp
      rw [W1_pairA h hx hp, W1_pairA h' (by simp; omega) (by rw [e]; exact hp), e, ih _ q2 (by omega), ih _ q4 (by omega)]
    | false => rw [W1_let hp, W1_let (by rw [e]; exact hp), e]
theorem W1_let1 {xs : List GRule} (h : OkAll xs) {r : Nat} (hx : r < xs.length) (hp : (getR xs r).pair = false) : (W1 xs r).length = 1 := by
  rw [W1_let hp]
  have := (okRule_let (h r _ (getR_at hx)) hp).1
  rw [Array.length_toList]; exact this
theorem lens_ofA {xs : List GRule} (h : OkAll xs) (hm : ∀ r, r < xs.length → ((W1 xs r).length : Int) ≤ maxL) : ∃ ls, lens xs = some ls := by
  suffices H : ∀ k, k ≤ xs.length → ∃ out, lens (xs.take k) = some out ∧ out.length = k ∧ ∀ r, r < k → out.getD r 0 = ((W1 xs r).length : Int) by
    obtain ⟨out, h1, _⟩ := H xs.length (Nat.le_refl _)
    rw [List.take_length] at h1
    exact ⟨out, h1⟩
  intro k
  induction k with
  | zero => intro _; exact ⟨[], rfl, rfl, fun r hr => absurd hr (by omega)⟩
  | succ k ih =>
    intro hk
    obtain ⟨out, h1, h2, h3⟩ := ih (by omega)
    have hr := getR_at (xs := xs) (r := k) (by omega)
    have hok := h k _ hr
    have hlen : ruleLen out (getR xs k) = ((W1 xs k).length : Int) := by
      unfold ruleLen
      cases hp : (getR xs k).pair with
      | true =>
        obtain ⟨q1, q2, q3, q4⟩ := okA_at h (by omega) hp
        rw [if_pos rfl, h3 _ q2, h3 _ q4, W1_pairA h (by omega) hp, List.length_append]; omega
      | false => rw [if_neg (by simp), W1_let1 h (by omega) hp]; rfl
    have := hm k (by omega)
    refine ⟨_, lens_next h1 hr (by rw [h2]; exact hok) (by rw [hlen]; exact this), by simp [h2], fun r hr => ?_⟩
    rcases Nat.lt_or_ge r k with hlt | hge
    · rw [getI_append (by omega)]; exact h3 r hlt
    · have : r = out.length := by omega
      subst this
      rw [getI_last, hlen, h2]
theorem lens_W1 {xs : List GRule} {ls : List Int} (h : lens xs = some ls) {r : Nat} (hx : r < xs.length) : ((W1 xs r).length : Int) ≤ maxL := by
  rw [W1_len h r hx, List.getD_eq_getElem?_getD, List.getElem?_eq_getElem (by rw [lens_length h]; exact hx)]
  exact (lens_pos h _ (List.getElem_mem _)).2
theorem trimR_more {S : List Int} {x : Int} {r : GRule} (h : r.pair = true → r.left.toNat < S.length ∧ r.right.toNat < S.length) : trimR (S ++ [x]) r = trimR S r := by
  cases hp : r.pair with
  | true => rw [trimR_pair hp, trimR_pair hp, getI_append (h hp).1, getI_append (h hp).2]
  | false => rw [trimR_let hp, trimR_let hp]
theorem canon_get {xs : List GRule} (h : OkAll xs) : ∀ k, k ≤ xs.length → ∀ i, i < k → getR (canon (xs.take k)).1 i = trimR (canon (xs.take k)).2 (getR xs i) := by
  intro k
  induction k with
  | zero => intro _ i hi; omega
  | succ k ih =>
    intro hk i hi
    have H := ih (by omega)
    have C := canon_ok h k (by omega)
    have hr := getR_at (xs := xs) (r := k) (by omega)
    rw [canon_snoc hr]
    obtain ⟨K, S, hp⟩ : ∃ K S, canon (xs.take k) = (K, S) := ⟨_, _, rfl⟩
    rw [hp] at H C ⊢
    have l1 : K.length = k := C.l1
    have l2 : S.length = k := C.l2
    show getR (K ++ [trimR S (getR xs k)]) i = trimR (S ++ [((K.idxOf (trimR S (getR xs k)) : Nat) : Int)]) (getR xs i)
    rw [trimR_more (fun hpr => by
      obtain ⟨q1, q2, q3, q4⟩ := okA_at h (show i < xs.length by omega) hpr
      omega)]
    rcases Nat.lt_or_ge i k with hlt | hge
    · rw [getR_append (by omega)]; exact H i hlt
    · have : i = K.length := by omega
      subst this
      rw [getR_last, l1]
theorem canon_word {xs : List GRule} (h : OkAll xs) : ∀ i, i < xs.length → W1 (canon xs).1 i = W1 xs i := by
  have C := canon_all h
  have G := canon_get h xs.length (Nat.le_refl _)
  rw [List.take_length] at G
  obtain ⟨K, S, hp⟩ : ∃ K S, canon xs = (K, S) := ⟨_, _, rfl⟩
  rw [hp] at C G ⊢
  have l1 : K.length = xs.length := C.l1
  have cok : OkAll K := C.ok
  intro i
  induction i using Nat.strongRecOn with
  | _ i ih =>
    intro hi
    show W1 K i = W1 xs i
    have e : getR K i = trimR S (getR xs i) := G i hi
    cases hpr : (getR xs i).pair with
    | true =>
      obtain ⟨q1, q2, q3, q4⟩ := okA_at h hi hpr
      rw [trimR_pair hpr] at e
      have key : ∀ j, j < i → (S.getD j 0).toNat < K.length ∧ W1 K (S.getD j 0).toNat = W1 xs j := by
        intro j hj
        have h1 : S.getD j 0 = ((K.idxOf (getR K j) : Nat) : Int) := C.idx j (by omega)
        have hm : getR K j ∈ K := getR_mem (by omega)
        have hlt : K.idxOf (getR K j) < K.length := List.idxOf_lt_length_iff.2 hm
        rw [h1, Int.toNat_natCast]
        refine ⟨hlt, ?_⟩
        rw [← ih j hj (by omega)]
        refine W1_same cok hlt (by omega) ?_
        exact (getR_some (List.getElem?_eq_getElem hlt)).trans (List.getElem_idxOf hlt)
      have hpk : (getR K i).pair = true := by rw [e]; rfl
      rw [W1_pairA cok (by omega) hpk, W1_pairA h hi hpr, e]
      show W1 K (S.getD (getR xs i).left.toNat 0).toNat ++ W1 K (S.getD (getR xs i).right.toNat 0).toNat = _
      rw [(key _ q2).2, (key _ q4).2]
    | false =>
      rw [trimR_let hpr] at e
      rw [W1_let (by rw [e]; exact hpr), W1_let hpr, e]
theorem set_true {l : List Bool} {i x : Nat} (h : l.getD x false = true) : (l.set i true).getD x false = true := by
  rw [List.getD_eq_getElem?_getD, List.getElem?_set]
  split
  · split
    · rfl
    · rename_i h1 h2; subst h1
      rw [List.getD_eq_getElem?_getD, List.getElem?_eq_none (by omega)] at h; simp at h
  · rw [← List.getD_eq_getElem?_getD]; exact h
theorem set_at {l : List Bool} {i : Nat} (h : i < l.length) : (l.set i true).getD i false = true := by
  rw [List.getD_eq_getElem?_getD, List.getElem?_set, if_pos rfl, if_pos h]; rfl
theorem set_ne {α : Type} {l : List α} {i x : Nat} {v d : α} (h : i ≠ x) : (l.set i v).getD x d = l.getD x d := by
  rw [List.getD_eq_getElem?_getD, List.getElem?_set, if_neg h, ← List.getD_eq_getElem?_getD]
theorem needStep_true {ks : List GRule} {l : List Bool} {i x : Nat} (h : l.getD x false = true) : (needStep ks l i).getD x false = true := by
  unfold needStep; split
  · exact set_true (set_true h)
  · exact h
theorem needDown_true {ks : List GRule} : ∀ (i : Nat) {l : List Bool} {x : Nat}, l.getD x false = true → (needDown ks i l).getD x false = true
  | 0, _, _, h => h
  | i + 1, _, _, h => needDown_true i (needStep_true h)
theorem needStep_above {ks : List GRule} (hk : OkAll ks) {l : List Bool} {i x : Nat} (hi : i < ks.length) (h : i ≤ x) : (needStep ks l i).getD x false = l.getD x false := by
  unfold needStep; split
  · rename_i c
    simp only [Bool.and_eq_true] at c
    obtain ⟨q1, q2, q3, q4⟩ := okA_at hk hi c.2
    rw [set_ne (by omega), set_ne (by omega)]
  · rfl
theorem needDown_above {ks : List GRule} (hk : OkAll ks) : ∀ (i : Nat) {l : List Bool} {x : Nat}, i ≤ ks.length → i ≤ x → (needDown ks i l).getD x false = l.getD x false
  | 0, _, _, _, _ => rfl
  | i + 1, l, x, hi, h => by rw [needDown, needDown_above hk i (by omega) (by omega), needStep_above hk (by omega) (by omega)]
theorem needDown_closed {ks : List GRule} (hk : OkAll ks) : ∀ (i : Nat) {l : List Bool} {x : Nat}, i ≤ ks.length → l.length = ks.length → x < i → (needDown ks i l).getD x false = true → (getR ks x).pair = true →
    (needDown ks i l).getD (getR ks x).left.toNat false = true ∧ (needDown ks i l).getD (getR ks x).right.toNat false = true
  | 0, _, _, _, _, hx, _, _ => by omega
  | i + 1, l, x, hi, hl, hx, h, hp => by
    rw [needDown] at h ⊢
    rcases Nat.lt_or_ge x i with hlt | hge
    · exact needDown_closed hk i (by omega) (by rw [needStep_len]; exact hl) hlt h hp
    · have : x = i := by omega
      subst this
      rw [needDown_above hk x (by omega) (Nat.le_refl _), needStep_above hk (by omega) (Nat.le_refl _)] at h
      obtain ⟨q1, q2, q3, q4⟩ := okA_at hk (by omega) hp
      have e : needStep ks l x = (l.set (getR ks x).left.toNat true).set (getR ks x).right.toNat true := by
        unfold needStep; rw [if_pos (by rw [h, hp]; rfl)]
      rw [e]
      exact ⟨needDown_true _ (set_true (set_at (by omega))), needDown_true _ (set_at (by simp; omega))⟩
theorem needDown_most {ks : List GRule} (hk : OkAll ks) {m : Nat} : ∀ (i : Nat) {l : List Bool}, i ≤ ks.length → (∀ x, l.getD x false = true → x ≤ m) → ∀ x, (needDown ks i l).getD x false = true → x ≤ m
  | 0, _, _, h, x, hx => h x hx
  | i + 1, l, hi, h, x, hx => by
    rw [needDown] at hx
    refine needDown_most hk i (by omega) (fun y hy => ?_) x hx
    unfold needStep at hy
    split at hy
    · rename_i c
      simp only [Bool.and_eq_true] at c
      obtain ⟨q1, q2, q3, q4⟩ := okA_at hk (show i < ks.length by omega) c.2
      have hm := h i c.1
      by_cases e1 : (getR ks i).right.toNat = y
      · omega
      · rw [set_ne e1] at hy
        by_cases e2 : (getR ks i).left.toNat = y
        · omega
        · rw [set_ne e2] at hy; exact h y hy
    · exact h y hy
structure OutOk (xs ks : List GRule) (need : List Bool) (k : Nat) (p : List GRule × List Int) : Prop where
  l2 : p.2.length = xs.length
  pos : ∀ i, i < k → need.getD i false = true → 0 ≤ p.2.getD i 0 ∧ (p.2.getD i 0).toNat < p.1.length
  ok : OkAll p.1
  word : ∀ i, i < k → need.getD i false = true → W1 p.1 (p.2.getD i 0).toNat = W1 ks i
  from_ : ∀ a, a < p.1.length → ∃ i, i < k ∧ need.getD i false = true ∧ (p.2.getD i 0).toNat = a
theorem out_ok {xs : List GRule} (h : OkAll xs) (hcl : ∀ x, x < xs.length → (needL xs).getD x false = true → (getR (canon xs).1 x).pair = true → (needL xs).getD (getR (canon xs).1 x).left.toNat false = true ∧ (needL xs).getD (getR (canon xs).1 x).right.toNat false = true) :
    ∀ k, k ≤ xs.length → OutOk xs (canon xs).1 (needL xs) k (trimO xs k) := by
  have C := canon_all h
  obtain ⟨K, hK⟩ : ∃ K, (canon xs).1 = K := ⟨_, rfl⟩
  have cok : OkAll K := hK ▸ C.ok
  have cl1 : K.length = xs.length := hK ▸ C.l1
  rw [hK] at hcl ⊢
  intro k
  induction k with
  | zero => intro _; exact ⟨by simp [trimO], fun i hi => absurd hi (by omega), fun k r hk => by simp [trimO] at hk, fun i hi => absurd hi (by omega), fun a ha => by simp [trimO] at ha⟩
  | succ k ih =>
    intro hk
    have H := ih (by omega)
    rw [trimO_succ, hK]
    obtain ⟨O, M, hp⟩ : ∃ O M, trimO xs k = (O, M) := ⟨_, _, rfl⟩
    rw [hp] at H ⊢
    have l2 : M.length = xs.length := H.l2
    unfold outStep
    by_cases hn : (needL xs).getD k false = true
    · rw [if_pos hn]
      obtain ⟨X, hX⟩ : ∃ X, trimR M (getR K k) = X := ⟨_, rfl⟩
      show OutOk xs K (needL xs) (k + 1) (O ++ [trimR M (getR K k)], M.set k (O.length : Int))
      have hkk : k < K.length := by omega
      have hXok : okRule O.length X = true := by
        rw [← hX]
        cases hpr : (getR K k).pair with
        | true =>
          obtain ⟨q1, q2, q3, q4⟩ := okA_at cok hkk hpr
          obtain ⟨c1, c2⟩ := hcl k (by omega) hn hpr
          obtain ⟨a1, a2⟩ := H.pos _ q2 c1
          obtain ⟨a3, a4⟩ := H.pos _ q4 c2
          rw [trimR_pair hpr]
          have a1' : 0 ≤ M.getD (getR K k).left.toNat 0 := a1
          have a2' : (M.getD (getR K k).left.toNat 0).toNat < O.length := a2
          have a3' : 0 ≤ M.getD (getR K k).right.toNat 0 := a3
          have a4' : (M.getD (getR K k).right.toNat 0).toNat < O.length := a4
          exact okRule_pair ⟨a1', by omega⟩ ⟨a3', by omega⟩
        | false =>
          rw [trimR_let hpr]
          have h1 := cok k _ (getR_at hkk)
          unfold okRule at h1 ⊢
          rw [if_neg (by simp [hpr])] at h1 ⊢
          exact h1
      rw [hX]
      have hO : OkAll O := H.ok
      have hO2 : OkAll (O ++ [X]) := hO.snoc hXok
      have hold : ∀ i, i < k → (M.set k (O.length : Int)).getD i 0 = M.getD i 0 := fun i hi => set_ne (by omega)
      have hnew : (M.set k (O.length : Int)).getD k 0 = (O.length : Int) := by
        rw [List.getD_eq_getElem?_getD, List.getElem?_set, if_pos rfl, if_pos (by omega)]; rfl
      refine ⟨by simp [l2], ?_, hO2, ?_, ?_⟩
      · intro i hi hni
        show 0 ≤ (M.set k (O.length : Int)).getD i 0 ∧ ((M.set k (O.length : Int)).getD i 0).toNat < (O ++ [X]).length
        rcases Nat.lt_or_ge i k with hlt | hge
        · rw [hold i hlt, List.length_append]
          have := H.pos i hlt hni
          exact ⟨this.1, Nat.lt_of_lt_of_le this.2 (Nat.le_add_right _ _)⟩
        · have : i = k := by omega
          subst this
          rw [hnew]; simp
      · intro i hi hni
        show W1 (O ++ [X]) ((M.set k (O.length : Int)).getD i 0).toNat = W1 K i
        rcases Nat.lt_or_ge i k with hlt | hge
        · rw [hold i hlt, W1_app hO hO2 _ (H.pos i hlt hni).2]
          exact H.word i hlt hni
        · have : i = k := by omega
          subst this
          rw [hnew, Int.toNat_natCast]
          have eX : getR (O ++ [X]) O.length = X := getR_last _ _
          cases hpr : (getR K i).pair with
          | true =>
            obtain ⟨q1, q2, q3, q4⟩ := okA_at cok hkk hpr
            obtain ⟨c1, c2⟩ := hcl i (by omega) hn hpr
            have hXp : X = pairR (M.getD (getR K i).left.toNat 0) (M.getD (getR K i).right.toNat 0) := by rw [← hX, trimR_pair hpr]
            rw [W1_pairA hO2 (by simp) (by rw [eX, hXp]; rfl), eX, hXp]
            show W1 _ (M.getD (getR K i).left.toNat 0).toNat ++ W1 _ (M.getD (getR K i).right.toNat 0).toNat = _
            rw [← hXp, W1_app hO hO2 _ (H.pos _ q2 c1).2, W1_app hO hO2 _ (H.pos _ q4 c2).2, W1_pairA cok hkk hpr]
            have w1 := H.word _ q2 c1
            have w2 := H.word _ q4 c2
            show W1 O _ ++ W1 O _ = _
            rw [← w1, ← w2]
          | false =>
            have hXl : X = getR K i := by rw [← hX, trimR_let hpr]
            rw [W1_let (by rw [eX, hXl]; exact hpr), eX, hXl, W1_let hpr]
      · intro a ha
        rcases Nat.lt_or_ge a O.length with hlt | hge
        · obtain ⟨i, h1, h2, h3⟩ := H.from_ a hlt
          exact ⟨i, by omega, h2, by show ((M.set k (O.length : Int)).getD i 0).toNat = a; rw [hold i h1]; exact h3⟩
        · have ha' : a < (O ++ [X]).length := ha
          rw [List.length_append] at ha'
          have : a = O.length := by simp at ha'; omega
          subst this
          exact ⟨k, by omega, hn, by show ((M.set k (O.length : Int)).getD k 0).toNat = O.length; rw [hnew]; simp⟩
    · rw [if_neg hn]
      refine ⟨l2, ?_, H.ok, ?_, ?_⟩
      · intro i hi hni
        rcases Nat.lt_or_ge i k with hlt | hge
        · exact H.pos i hlt hni
        · have : i = k := by omega
          subst this; exact absurd hni hn
      · intro i hi hni
        rcases Nat.lt_or_ge i k with hlt | hge
        · exact H.word i hlt hni
        · have : i = k := by omega
          subst this; exact absurd hni hn
      · intro a ha
        obtain ⟨i, h1, h2, h3⟩ := H.from_ a ha
        exact ⟨i, by omega, h2, h3⟩
theorem trimG_sem {xs : List GRule} {ls : List Int} (hl : lens xs = some ls) : ∃ ls', lens (trimG xs) = some ls' ∧ wordG (trimG xs) = wordG xs ∧ (0 < xs.length → 0 < (trimG xs).length) := by
  by_cases h0 : 0 < xs.length
  · have h := okAll_lens hl
    have C := canon_all h
    obtain ⟨K, S, hp⟩ : ∃ K S, canon xs = (K, S) := ⟨_, _, rfl⟩
    rw [hp] at C
    have l1 : K.length = xs.length := C.l1
    have cok : OkAll K := C.ok
    have hroot : 0 ≤ S.getD (xs.length - 1) 0 ∧ S.getD (xs.length - 1) 0 ≤ ((xs.length - 1 : Nat) : Int) := C.low (xs.length - 1) (by omega)
    obtain ⟨R, hR⟩ : ∃ R, (S.getD (xs.length - 1) 0).toNat = R := ⟨_, rfl⟩
    have hRl : R < xs.length := by omega
    have eN : needL xs = needDown K xs.length ((List.replicate xs.length false).set R true) := by
      unfold needL rootB; rw [hp]; show needDown K _ ((List.replicate xs.length false).set (S.getD (xs.length - 1) 0).toNat true) = _; rw [hR]
    have hbl : ((List.replicate xs.length false).set R true).length = K.length := by simp [l1]
    have hNR : (needL xs).getD R false = true := by rw [eN]; exact needDown_true _ (set_at (by simp; omega))
    have hmost : ∀ x, (needL xs).getD x false = true → x ≤ R := by
      rw [eN]
      refine needDown_most cok _ (by omega) (fun x hx => ?_)
      by_cases e : R = x
      · omega
      · rw [set_ne e] at hx
        rw [List.getD_eq_getElem?_getD, List.getElem?_replicate] at hx
        split at hx <;> simp at hx
    have hcl : ∀ x, x < xs.length → (needL xs).getD x false = true → (getR (canon xs).1 x).pair = true → (needL xs).getD (getR (canon xs).1 x).left.toNat false = true ∧ (needL xs).getD (getR (canon xs).1 x).right.toNat false = true := by
      rw [hp, eN]
      intro x hx h1 h2
      exact needDown_closed cok _ (by omega) hbl hx h1 h2
    have H := out_ok h hcl xs.length (Nat.le_refl _)
    rw [hp] at H
    have hw := canon_word h
    rw [hp] at hw
    -- the last rule is that of the root
    have hlast : ∀ k, R < k → k ≤ xs.length → (trimO xs k).1.length = (trimO xs (R + 1)).1.length ∧ (trimO xs k).2.getD R 0 = (trimO xs (R + 1)).2.getD R 0 := by
      intro k
      induction k with
      | zero => intro h; omega
      | succ k ih =>
        intro h1 h2
        rcases Nat.lt_or_ge R k with hlt | hge
        · have hnk : ¬ (needL xs).getD k false = true := fun e => by have := hmost k e; omega
          rw [trimO_succ]
          unfold outStep
          rw [if_neg hnk]
          exact ih hlt (by omega)
        · have : k = R := by omega
          subst this; exact ⟨rfl, rfl⟩
    obtain ⟨e1, e2⟩ := hlast xs.length hRl (Nat.le_refl _)
    have e3 : (trimO xs (R + 1)).1.length = (trimO xs R).1.length + 1 ∧ (trimO xs (R + 1)).2.getD R 0 = ((trimO xs R).1.length : Int) := by
      rw [trimO_succ]; unfold outStep; rw [if_pos hNR]
      refine ⟨by simp, ?_⟩
      show ((trimO xs R).2.set R _).getD R 0 = _
      rw [List.getD_eq_getElem?_getD, List.getElem?_set, if_pos rfl, if_pos (by rw [(trimO_len xs R).1]; exact hRl)]; rfl
    have hlen : (trimG xs).length = (trimO xs R).1.length + 1 := by rw [trimG, e1, e3.1]
    have hnum : ((trimO xs xs.length).2.getD R 0).toNat = (trimG xs).length - 1 := by rw [e2, e3.2, hlen]; simp
    have hword : W1 (trimG xs) ((trimG xs).length - 1) = W1 xs (xs.length - 1) := by
      rw [← hnum]
      have h1 : W1 (trimG xs) ((trimO xs xs.length).2.getD R 0).toNat = W1 K R := H.word R hRl hNR
      rw [h1]
      have h2 : W1 K R = W1 K (xs.length - 1) := by
        have hi : S.getD (xs.length - 1) 0 = ((K.idxOf (getR K (xs.length - 1)) : Nat) : Int) := C.idx _ (by omega)
        have hm : getR K (xs.length - 1) ∈ K := getR_mem (by omega)
        have hlt : K.idxOf (getR K (xs.length - 1)) < K.length := List.idxOf_lt_length_iff.2 hm
        have hRe : R = K.idxOf (getR K (xs.length - 1)) := by rw [← hR, hi]; simp
        refine W1_same cok (by omega) (by omega) ?_
        rw [hRe]
        exact (getR_some (List.getElem?_eq_getElem hlt)).trans (List.getElem_idxOf hlt)
      rw [h2]
      exact hw _ (by omega)
    have hmax : ∀ r, r < (trimG xs).length → ((W1 (trimG xs) r).length : Int) ≤ maxL := by
      intro r hr
      obtain ⟨i, h1, h2, h3⟩ := H.from_ r hr
      have h4 : W1 (trimG xs) ((trimO xs xs.length).2.getD i 0).toNat = W1 K i := H.word i h1 h2
      have h5 : W1 K i = W1 xs i := hw i h1
      rw [show r = ((trimO xs xs.length).2.getD i 0).toNat from h3.symm, h4, h5]
      exact lens_W1 hl h1
    obtain ⟨ls', hl'⟩ := lens_ofA H.ok hmax
    refine ⟨ls', hl', ?_, fun _ => by omega⟩
    rw [wordG_pos (by omega), wordG_pos h0]
    exact hword
  · have hx : xs = [] := List.eq_nil_of_length_eq_zero (by omega)
    subst hx
    exact ⟨[], rfl, rfl, fun h => absurd h (by simp)⟩
end Go.Proofs.Ytejgbfgocaggfaa
namespace Go.Proofs
open Go.Shelf Go.RowKit
end Go.Proofs
namespace Go.Proofs.Ytejgbfgocaggfaa
open Go.RowKit
def binL (n : Nat) : List UInt8 := if h : n < 2 then [UInt8.ofNat (48 + n)] else binL (n / 2) ++ [UInt8.ofNat (48 + n % 2)]
termination_by n
decreasing_by omega
theorem binL_lt {n : Nat} (h : n < 2) : binL n = [UInt8.ofNat (48 + n)] := by rw [binL, dif_pos h]
theorem binL_ge {n : Nat} (h : ¬ n < 2) : binL n = binL (n / 2) ++ [UInt8.ofNat (48 + n % 2)] := by rw [binL, dif_neg h]
def powStep (root : Int) (L : List GRule) (d : UInt8) : List GRule := L ++ [pairR ((L.length : Int) - 1) ((L.length : Int) - 1)] ++ (if d = 49 then [pairR (L.length : Int) root] else [])
def powG (xs : List GRule) (n : Nat) : List GRule := if n = 0 ∨ xs.length = 0 then [] else (binL n).tail.foldl (powStep ((xs.length : Int) - 1)) xs
theorem binL_len (n : Nat) : ∀ k, n < 2 ^ k → 1 ≤ k → (binL n).length ≤ k := by
  induction n using Nat.strongRecOn with
  | ind n ih =>
    intro k hk h1
    by_cases c : n < 2
    · rw [binL_lt c]; simpa using h1
    · rw [binL_ge c, List.length_append]
      have hk2 : 2 ≤ k := by
        rcases Nat.lt_or_ge k 2 with h | h
        · have : k = 1 := by omega
          subst this; simp at hk; omega
        · exact h
      obtain ⟨j, rfl⟩ : ∃ j, k = j + 1 := ⟨k - 1, by omega⟩
      rw [Nat.pow_succ] at hk
      have := ih (n / 2) (by omega) j (by omega) (by omega)
      simp; omega
theorem binL_pos (n : Nat) : 1 ≤ (binL n).length := by
  by_cases c : n < 2
  · rw [binL_lt c]; simp
  · rw [binL_ge c]; simp
theorem powStep_len (root : Int) (L : List GRule) (d : UInt8) : (powStep root L d).length ≤ L.length + 2 := by
  unfold powStep; split <;> simp
theorem powFold_len (root : Int) : ∀ (ds : List UInt8) (L : List GRule), (ds.foldl (powStep root) L).length ≤ L.length + 2 * ds.length := by
  intro ds
  induction ds with
  | nil => intro L; simp
  | cons d ds ih =>
    intro L
    have h1 := ih (powStep root L d)
    have h2 := powStep_len root L d
    simp only [List.foldl_cons, List.length_cons]
    omega
theorem lens_app (xs ys : List GRule) : lens (xs ++ ys) = ys.foldl lensStep (lens xs) := by simp [lens, List.foldl_append]
theorem lens_pre {xs ys : List GRule} {l : List Int} (h : lens (xs ++ ys) = some l) : ∃ l1 t, lens xs = some l1 ∧ l = l1 ++ t := by
  rw [lens_app] at h
  cases hx : lens xs with
  | none => rw [hx, lens_none] at h; cases h
  | some l1 =>
    rw [hx] at h
    suffices H : ∀ (ys : List GRule) (a o : List Int), ys.foldl lensStep (some a) = some o → ∃ t, o = a ++ t by
      obtain ⟨t, ht⟩ := H ys l1 l h
      exact ⟨l1, t, rfl, ht⟩
    intro ys
    induction ys with
    | nil => intro a o h; simp at h; exact ⟨[], by simp [h]⟩
    | cons y ys ih =>
      intro a o h
      rw [List.foldl_cons] at h
      cases hs : lensStep (some a) y with
      | none => rw [hs, lens_none] at h; cases h
      | some b =>
        rw [hs] at h
        obtain ⟨t, rfl⟩ := ih b o h
        simp only [lensStep, Option.bind_some] at hs
        split at hs
        · cases hs; exact ⟨_, by rw [List.append_assoc]⟩
        · cases hs
theorem getR_app {xs ys : List GRule} {r : Nat} (h : r < xs.length) : getR (xs ++ ys) r = getR xs r := by
  unfold getR; rw [List.getD_eq_getElem?_getD, List.getElem?_append_left h, List.getD_eq_getElem?_getD]
theorem wordR_app {xs ys : List GRule} {ls : List Int} (h : lens xs = some ls) : ∀ (f r : Nat), r < xs.length → wordR (xs ++ ys) f r = wordR xs f r := by
  intro f
  induction f with
  | zero => intro r _; rfl
  | succ f ih =>
    intro r hr
    rw [wordR, wordR, getR_app hr]
    cases hp : (getR xs r).pair with
    | false => rfl
    | true =>
      obtain ⟨q1, q2, q3, q4, q5⟩ := lens_pair h hr hp
      rw [if_pos rfl, if_pos rfl, ih _ (by omega), ih _ (by omega)]
theorem W1_appL {xs ys : List GRule} {ls : List Int} (h : lens xs = some ls) {r : Nat} (hr : r < xs.length) : W1 (xs ++ ys) r = W1 xs r := wordR_app h _ _ hr
theorem getR_new (xs : List GRule) (x : GRule) : getR (xs ++ [x]) xs.length = x := by
  unfold getR; rw [List.getD_eq_getElem?_getD, List.getElem?_append_right (Nat.le_refl _), Nat.sub_self]; rfl
theorem W1_snoc {xs : List GRule} {l : List Int} {a b : Nat} (h : lens (xs ++ [pairR a b]) = some l) (ha : a < xs.length) (hb : b < xs.length) : W1 (xs ++ [pairR a b]) xs.length = W1 xs a ++ W1 xs b := by
  obtain ⟨l1, t, h1, _⟩ := lens_pre h
  have hp : (getR (xs ++ [pairR a b]) xs.length).pair = true := by rw [getR_new]; exact pairR_pair _ _
  rw [W1_pair h (by simp) hp, getR_new]
  show W1 (xs ++ [pairR a b]) (Int.toNat (a : Int)) ++ W1 (xs ++ [pairR a b]) (Int.toNat (b : Int)) = _
  rw [Int.toNat_natCast, Int.toNat_natCast, W1_appL h1 ha, W1_appL h1 hb]
theorem lens_snoc {xs : List GRule} {ls : List Int} {a b : Nat} (h : lens xs = some ls) (ha : a < xs.length) (hb : b < xs.length) (hm : ls.getD a 0 + ls.getD b 0 ≤ maxL) : lens (xs ++ [pairR a b]) = some (ls ++ [ls.getD a 0 + ls.getD b 0]) := by
  rw [lens_app, h]
  have hl := lens_length h
  have hr : ruleLen ls (pairR a b) = ls.getD a 0 + ls.getD b 0 := by
    unfold ruleLen
    rw [if_pos (pairR_pair _ _)]
    show ls.getD (Int.toNat (a : Int)) 0 + ls.getD (Int.toNat (b : Int)) 0 = _
    rw [Int.toNat_natCast, Int.toNat_natCast]
  simp only [List.foldl_cons, List.foldl_nil, lensStep, Option.bind_some]
  rw [hr, if_pos ⟨okRule_pair ⟨by omega, by omega⟩ ⟨by omega, by omega⟩, hm⟩]
theorem join_word {xs : List GRule} {ls : List Int} (h : lens xs = some ls) : ∀ (cs : List Nat) (L : List GRule) (l0 : List Int) (t : Nat) (w : List UInt8), lens L = some l0 → (∃ y, L = xs ++ y) → t < L.length → W1 L t = w → (∀ c ∈ cs, c < xs.length) →
    ((w ++ cs.flatMap (W1 xs)).length : Int) ≤ maxL → ∃ (l1 : List Int) (T : Nat), lens (cs.foldl joinStep (L, (t : Int))).1 = some l1 ∧ (cs.foldl joinStep (L, (t : Int))).2 = (T : Int) ∧ T < (cs.foldl joinStep (L, (t : Int))).1.length ∧ W1 (cs.foldl joinStep (L, (t : Int))).1 T = w ++ cs.flatMap (W1 xs) ∧ (cs ≠ [] → T = (cs.foldl joinStep (L, (t : Int))).1.length - 1) := by
  intro cs
  induction cs with
  | nil => intro L l0 t w h1 _ ht hw _ _; exact ⟨l0, t, h1, rfl, ht, by simpa using hw, fun h => absurd rfl h⟩
  | cons c cs ih =>
    intro L l0 t w h1 hy ht hw hc hm
    obtain ⟨y, rfl⟩ := hy
    have hcl : c < xs.length := hc c (by simp)
    have hcL : c < (xs ++ y).length := by simp; omega
    have hwc : W1 (xs ++ y) c = W1 xs c := W1_appL h hcl
    have e1 := W1_len h1 t ht
    have e2 := W1_len h1 c hcL
    rw [hw] at e1
    rw [hwc] at e2
    rw [List.flatMap_cons, ← List.append_assoc] at hm
    have hsum : l0.getD t 0 + l0.getD c 0 ≤ maxL := by
      rw [List.length_append, List.length_append] at hm
      omega
    have h2 := lens_snoc h1 ht hcL hsum
    have hw2 := W1_snoc h2 ht hcL
    rw [hw, hwc] at hw2
    obtain ⟨l1, T, k1, k2, k3, k4, k5⟩ := ih ((xs ++ y) ++ [pairR t c]) _ (xs ++ y).length (w ++ W1 xs c) h2 ⟨y ++ [pairR t c], by rw [List.append_assoc]⟩ (by simp) hw2 (fun d hd => hc d (by simp [hd])) hm
    have e : (c :: cs).foldl joinStep (xs ++ y, (t : Int)) = cs.foldl joinStep ((xs ++ y) ++ [pairR t c], (((xs ++ y).length : Nat) : Int)) := rfl
    rw [e]
    refine ⟨l1, T, k1, k2, k3, by rw [k4, List.flatMap_cons, List.append_assoc], fun _ => ?_⟩
    by_cases hcs : cs = []
    · subst hcs
      have : T = (xs ++ y).length := by
        have h3 : (((xs ++ y).length : Nat) : Int) = (T : Int) := k2
        omega
      rw [this]; simp
    · exact k5 hcs
theorem cutG_word {xs : List GRule} {ls : List Int} (h : lens xs = some ls) (cs : List Nat) (hc : ∀ c ∈ cs, c < xs.length) (hm : ((cs.flatMap (W1 xs)).length : Int) ≤ maxL) : ∃ l1, lens (cutG xs cs) = some l1 ∧ wordG (cutG xs cs) = cs.flatMap (W1 xs) := by
  match cs with
  | [] => exact ⟨[], rfl, rfl⟩
  | [c] =>
    have hcl : c < xs.length := hc c (by simp)
    have hx : xs.take (c + 1) ++ xs.drop (c + 1) = xs := List.take_append_drop _ _
    obtain ⟨l1, t, h1, _⟩ := lens_pre (xs := xs.take (c + 1)) (ys := xs.drop (c + 1)) (by rw [hx]; exact h)
    refine ⟨l1, h1, ?_⟩
    show wordG (xs.take (c + 1)) = _
    have hl : (xs.take (c + 1)).length = c + 1 := by rw [List.length_take]; omega
    rw [wordG_pos (by omega), hl, List.flatMap_cons, List.flatMap_nil, List.append_nil]
    have := W1_appL (ys := xs.drop (c + 1)) h1 (r := c) (by omega)
    rw [hx] at this
    rw [this]; rfl
  | c :: d :: cs =>
    obtain ⟨l1, T, k1, k2, k3, k4, k5⟩ := join_word h (d :: cs) xs ls c (W1 xs c) h ⟨[], by simp⟩ (hc c (by simp)) rfl (fun x hx => hc x (by simp at hx; simp; exact .inr hx)) (by simpa using hm)
    refine ⟨l1, k1, ?_⟩
    have hT := k5 (by simp)
    show wordG ((d :: cs).foldl joinStep (xs, (c : Int))).1 = _
    rw [wordG_pos (by omega), ← hT, k4]; simp
theorem partG_word {xs : List GRule} {ls : List Int} (h : lens xs = some ls) {i j : Int} (hi : 0 ≤ i) (hij : i ≤ j) (hj : j ≤ lastI ls) : ∃ l1, lens (partG xs ls i j) = some l1 ∧ wordG (partG xs ls i j) = cutL (wordG xs) i j := by
  have hw := pieces_word h (i := i) (j := j)
  have hlen := wordG_len h
  have hb := gramLen_bounds xs
  rw [gramLen_of h] at hb
  have hm : (((piecesL xs ls i j).flatMap (W1 xs)).length : Int) ≤ maxL := by
    rw [hw, cutL_len hi hij (by omega)]; unfold maxL; omega
  obtain ⟨l1, h1, h2⟩ := cutG_word h _ (pieces_mem h i j) hm
  obtain ⟨l2, h3, h4, _⟩ := trimG_sem h1
  exact ⟨l2, h3, by unfold partG; rw [h4, h2, hw]⟩
theorem W1_letters {xs : List GRule} {ls : List Int} (hl : lens xs = some ls) : ∀ (r : Nat), r < xs.length → ∀ c ∈ W1 xs r, 97 ≤ c.toNat ∧ c.toNat ≤ 100 := by
  intro r
  induction r using Nat.strongRecOn with
  | _ r ih =>
    intro hr c hc
    cases hp : (getR xs r).pair with
    | true =>
      obtain ⟨q1, q2, q3, q4, _⟩ := lens_pair hl hr hp
      rw [W1_pair hl hr hp, List.mem_append] at hc
      rcases hc with hc | hc
      · exact ih _ q2 (by omega) c hc
      · exact ih _ q4 (by omega) c hc
    | false =>
      rw [W1_let hp] at hc
      have hL := lens_isLet hl hr hp
      have hsz := isLet_size hL
      unfold isLet at hL
      simp at hL
      generalize (getR xs r).letter = s at *
      obtain ⟨⟨L⟩⟩ := s
      have hl : L.length = 1 := hsz
      obtain ⟨x, rfl⟩ := List.length_eq_one_iff.1 hl
      simp at hc hL
      subst hc
      omega
theorem wordG_letters {xs : List GRule} {ls : List Int} (hl : lens xs = some ls) : ∀ c ∈ wordG xs, 97 ≤ c.toNat ∧ c.toNat ≤ 100 := by
  intro c hc
  by_cases h0 : 0 < xs.length
  · rw [wordG_pos h0] at hc
    exact W1_letters hl _ (by omega) c hc
  · have hx : xs = [] := List.eq_nil_of_length_eq_zero (by omega)
    subst hx; simp [wordG] at hc
theorem cut_take {α : Type} (l : List α) (i : Int) : cutL l 0 i = l.take i.toNat := by unfold cutL; simp
theorem pieces_read {a : GAuto} (ha : autoOk a = true) {xs : List GRule} {ls : List Int} (hl : lens xs = some ls) (i : Int) {s : Nat} (hs : s < a.next.length) :
    (piecesL xs ls 0 i).foldl (stepM (mapsOf a.next xs)) s = readW a.next s ((wordG xs).take i.toNat) := by
  rw [fold_word ha hl _ _ (pieces_mem hl 0 i) hs, pieces_word hl, cut_take]
theorem sa_read {a : GAuto} (ha : autoOk a = true) {xs : List GRule} {ls : List Int} (hg : gramOk xs = true) (hl : lens xs = some ls) {i : Int} (h0 : 0 ≤ i) (hi : i ≤ lastI ls) :
    saC a i xs = 0 ∧ saV a i xs = (nowA a.next a.start.toNat (wordG xs) i.toNat : Nat) := by
  obtain ⟨p0, p1⟩ := autoOk_start ha
  have e1 : inR i 0 (gramLen xs) = true := by rw [gramLen_of hl]; simp [inR, h0, hi]
  have e0 : saC a i xs = 0 := by simp [saC, ha, hg, e1]
  refine ⟨e0, ?_⟩
  rw [saV, if_pos e0, hl]
  show (((aftR xs ls xs.length (xs.length - 1) i).foldl (stepM (mapsOf a.next xs)) a.start.toNat : Nat) : Int) = _
  rw [← aft_pieces hl hi, pieces_read ha hl i (by omega)]
  rfl
theorem rg_read {a : GAuto} (ha : autoOk a = true) {xs : List GRule} {ls : List Int} (hg : gramOk xs = true) (hl : lens xs = some ls) {s : Nat} (hs : s < a.next.length) :
    rgC a s xs = 0 ∧ rgV a s xs = (readW a.next s (wordG xs) : Nat) := by
  have h3 := (autoOk_get ha).2.2.1
  have e1 : inR (s : Int) 0 (a.states - 1) = true := by simp only [inR, Bool.and_eq_true, decide_eq_true_eq]; omega
  have e0 : rgC a s xs = 0 := by simp [rgC, ha, hg, e1]
  refine ⟨e0, ?_⟩
  have e2 : rgV a s xs = (endS a.next xs s : Nat) := by simp [rgV, ha, hg, e1]
  have h4 := wordG_len hl
  rw [e2, ← fold_all hl, pieces_read ha hl (lastI ls) hs, List.take_of_length_le (by omega)]
theorem vis_read {a : GAuto} (ha : autoOk a = true) {xs : List GRule} {ls : List Int} (hl : lens xs = some ls) :
    (visOut a xs ls (lastI ls)).length = a.next.length ∧ ∀ x, (visOut a xs ls (lastI ls)).getD x 0 = visV a.next x a.start.toNat (wordG xs) := by
  obtain ⟨p0, p1⟩ := autoOk_start ha
  obtain ⟨h1, h2⟩ := visOut_word ha (by omega) hl (j := lastI ls) (pieces_mem hl 0 _)
  have h4 := wordG_len hl
  refine ⟨h1, fun x => ?_⟩
  rw [h2, cut_take, List.take_of_length_le (by omega)]
theorem part_yes {xs : List GRule} {ls : List Int} (hg : gramOk xs = true) (hl : lens xs = some ls) {i j : Int} (hi : 0 ≤ i ∧ i ≤ j ∧ j ≤ lastI ls) :
    (partCode xs i j = 3 ∨ (partCode xs i j = 0 ∧ gramOk (partOut xs i j) = true ∧ wordG (partOut xs i j) = cutL (wordG xs) i j)) := by
  obtain ⟨h1, h2⟩ := partOut_yes hg hl hi
  rw [h1, h2]
  unfold limOut limCode
  by_cases h : gramOk (partG xs ls i j) = true
  · rw [if_pos h, if_pos h]
    obtain ⟨_, _, e⟩ := partG_word hl hi.1 hi.2.1 hi.2.2
    exact Or.inr ⟨rfl, h, e⟩
  · rw [if_neg h]; exact Or.inl rfl
theorem auto_from {a : GAuto} (ha : autoOk a = true) {s : Nat} (hs : s < a.next.length) : autoOk ⟨a.states, (s : Int), a.finals, a.next⟩ = true := by
  have h3 := (autoOk_get ha).2.2.1
  unfold autoOk at ha ⊢
  simp only [Bool.and_eq_true] at ha ⊢
  refine ⟨⟨⟨ha.1.1.1, ?_⟩, ha.1.2⟩, ha.2⟩
  simp only [inR, Bool.and_eq_true, decide_eq_true_eq]; omega
structure LrF (a : GAuto) (xs L R : List GRule) (lx lL lR : List Int) (i : Int) (s u : Nat) : Prop where
  sc : saC a i xs = 0
  sv : saV a i xs = (s : Nat)
  lc : rgC a a.start L = 0
  lv : rgV a a.start L = (s : Nat)
  rc : rgC a s R = 0
  rv : rgV a s R = (u : Nat)
  gc : rgC a a.start xs = 0
  gv : rgV a a.start xs = (u : Nat)
  slt : s < a.next.length
  vl : (visOut a L lL (lastI lL)).length = a.next.length
  vr : (visOut ⟨a.states, (s : Int), a.finals, a.next⟩ R lR (lastI lR)).length = a.next.length
  vg : (visOut a xs lx (lastI lx)).length = a.next.length
  add : ∀ x, (visOut a L lL (lastI lL)).getD x 0 + (visOut ⟨a.states, (s : Int), a.finals, a.next⟩ R lR (lastI lR)).getD x 0 = (visOut a xs lx (lastI lx)).getD x 0
  sum : ((List.range a.next.length).map (fun x => (visOut a xs lx (lastI lx)).getD x 0)).sum = (lastI lx).toNat
theorem lr_all {a : GAuto} (ha : autoOk a = true) {xs L R : List GRule} {lx lL lR : List Int} (hg : gramOk xs = true) (hl : lens xs = some lx) (gL : gramOk L = true) (hL : lens L = some lL) (gR : gramOk R = true) (hR : lens R = some lR) {i : Int} (h0 : 0 ≤ i) (hi : i ≤ lastI lx)
    (wL : wordG L = cutL (wordG xs) 0 i) (wR : wordG R = cutL (wordG xs) i (lastI lx)) : ∃ s u, LrF a xs L R lx lL lR i s u := by
  obtain ⟨p0, p1⟩ := autoOk_start ha
  have h4 := wordG_len hl
  have e1 : wordG L = (wordG xs).take i.toNat := by rw [wL, cut_take]
  have e2 : wordG R = (wordG xs).drop i.toNat := by
    rw [wR]; unfold cutL; rw [List.take_of_length_le (by omega)]
  obtain ⟨q1, q2, q3, q4, q5⟩ := runs_parts ha (wordG_letters hl) (show a.start.toNat < a.next.length by omega) e1 e2
  obtain ⟨s1, s2⟩ := sa_read ha hg hl h0 hi
  have est : a.start = ((a.start.toNat : Nat) : Int) := by omega
  obtain ⟨l1, l2⟩ := rg_read ha gL hL (show a.start.toNat < a.next.length by omega)
  obtain ⟨r1, r2⟩ := rg_read ha gR hR q3
  obtain ⟨g1, g2⟩ := rg_read ha hg hl (show a.start.toNat < a.next.length by omega)
  rw [← est] at l1 l2 g1 g2
  have hb := auto_from ha q3
  obtain ⟨v1, v2⟩ := vis_read ha hL
  obtain ⟨v3, v4⟩ := vis_read hb hR
  obtain ⟨v5, v6⟩ := vis_read ha hl
  refine ⟨readW a.next a.start.toNat (wordG L), readW a.next a.start.toNat (wordG xs), s1, by rw [s2, q1], l1, l2, r1, by rw [r2, q2], g1, g2, q3, v1, v3, v5, fun x => ?_, ?_⟩
  · rw [v2, v4, v6]
    exact q4 x
  · have : (fun x => (visOut a xs lx (lastI lx)).getD x 0) = fun x => visV a.next x a.start.toNat (wordG xs) := funext v6
    rw [this, q5]; omega
theorem convB (L : List UInt8) (b p n c : Nat) (W : World) (hn : n = L.length) (h : ∀ t (ht : t < L.length), W.cell? ⟨b, p + t, none⟩ = some (.int .u8 (L[t].toNat : Int))) :
    (convert 41 9 (.slice (some ⟨b, p, none⟩) n c)).run Try.prog W = .ok (.string ⟨L.toArray⟩) W := by
  subst hn
  exact run_convert_bytes_back (P := Try.prog) W 41 9 5 ⟨b, p, none⟩ c L Try.underlying41 Try.underlying5 Try.underlying9 (fun j hj => by
    have e : (⟨b, p, none⟩ : Addr).add j = ⟨b, p + j, none⟩ := by unfold Addr.add; split <;> simp_all
    rw [e]; exact h j hj)
structure But (b : Nat) (w w' : World) : Prop where
  os : w'.os = w.os
  tape : w'.tape = w.tape
  output : w'.output = w.output
  size : w.heap.size ≤ w'.heap.size
  block : ∀ k, k < w.heap.size → k ≠ b → w'.heap[k]? = w.heap[k]?
theorem But.refl (b : Nat) (w : World) : But b w w := ⟨rfl, rfl, rfl, Nat.le_refl _, fun _ _ _ => rfl⟩
theorem But.trans {b : Nat} {x y z : World} (h : But b x y) (k : But b y z) : But b x z :=
  ⟨k.os.trans h.os, k.tape.trans h.tape, k.output.trans h.output, Nat.le_trans h.size k.size, fun i hi hne => (k.block i (Nat.lt_of_lt_of_le hi h.size) hne).trans (h.block i hi hne)⟩
theorem But.of {b : Nat} {w w' : World} (h : Below w.heap.size w w') : But b w w' := ⟨h.os, h.tape, h.output, h.size, fun k hk _ => h.block k hk⟩
theorem But.below {b B : Nat} {w w' : World} (h : But b w w') (hB : B ≤ b) (hw : B ≤ w.heap.size) : Below B w w' := ⟨h.os, h.tape, h.output, h.size, fun k hk => h.block k (Nat.lt_of_lt_of_le hk hw) (by omega)⟩
theorem But.cell {b : Nat} {w w' : World} (h : But b w w') {p : Addr} (hp : p.block < w.heap.size) (hne : p.block ≠ b) : w'.cell? p = w.cell? p := by
  simp only [World.cell?, h.block _ hp hne]
theorem But.drew {b : Nat} {w w' : World} (h : But b w w') : But b w w'.drew := ⟨h.os, h.tape, h.output, h.size, h.block⟩
theorem But.drewN {b : Nat} {w w' : World} (h : But b w w') (n : Nat) : But b w (w'.drewN n) := ⟨h.os, h.tape, h.output, h.size, h.block⟩
theorem But.setCell {b o : Nat} {w w' : World} (h : But b w w') (v : Value) : But b w (w'.setCell ⟨b, o, none⟩ v) :=
  ⟨h.os, h.tape, h.output, by simpa [World.setCell] using h.size, fun k hk hne => by
    rw [← h.block k hk hne]
    simp only [World.setCell, Array.getElem?_modify]
    rw [if_neg (fun e => hne e.symm)]⟩
theorem But.alloc {b : Nat} {w w' : World} (h : But b w w') (o : Obj) : But b w (w'.alloc o) :=
  ⟨h.os, h.tape, h.output, Nat.le_trans h.size (by simp), fun k hk hne => (Below.heap_alloc w' o k (Nat.lt_of_lt_of_le hk h.size)).trans (h.block k hk hne)⟩
theorem But.tr {b : Nat} {w w1 w2 : World} (h : But b w w1) (hb : Below w1.heap.size w1 w2) : But b w w2 := h.trans (But.of hb)
def ByteE : Enc UInt8 where
  size := 1
  pos := by decide
  cells := fun _ _ x cs => cs = [.int .u8 (x.toNat : Int)]
  len := by rintro _ _ _ _ rfl; rfl
  keep := fun h _ => h
  more := fun h _ => h
  one := by rintro _ _ _ _ rfl; simp [Value.oneCell']
def Src (w : World) (b N : Nat) : Prop :=
  ∃ (AC : Option Addr) (l : List UInt8) (cC a d : Nat), w.heap[b]? = some (.cells #[.slice AC l.length cC, .int .i64 (a : Int), .int .u64 (d : Int)] 147 (0, 0)) ∧ a ≤ N ∧ d < 18446744073709551616 ∧ Sl ByteE w b (.slice AC l.length cC) l
theorem Src.lt {w : World} {b N : Nat} (h : Src w b N) : b < w.heap.size := by
  obtain ⟨AC, l, cC, a, d, h, _⟩ := h
  exact (Array.getElem?_eq_some_iff.1 h).1
theorem Src.more {w : World} {b N M : Nat} (h : Src w b N) (hM : N ≤ M) : Src w b M := by
  obtain ⟨AC, l, cC, a, d, h, h1, h2⟩ := h
  exact ⟨AC, l, cC, a, d, h, Nat.le_trans h1 hM, h2⟩
theorem Src.keep {w w' : World} {b N : Nat} (h : Src w b N) (hb : Below w.heap.size w w') : Src w' b N := by
  have hlt := h.lt
  obtain ⟨AC, l, cC, a, d, h, h1, h2, h3⟩ := h
  exact ⟨AC, l, cC, a, d, (hb.block b hlt).trans h, h1, h2, h3.below (hb.mono (Nat.le_of_lt hlt))⟩
theorem u64_nat (n : Int) : ∃ d : Nat, IntKind.u64.wrap n = (d : Int) ∧ d < 18446744073709551616 := by
  rw [IntKind.wrap_u64]
  refine ⟨(n % 18446744073709551616).toNat, ?_, ?_⟩ <;> omega
theorem Src.stored {w w' : World} {b N a d : Nat} {AC : Option Addr} {l : List UInt8} {cC : Nat} {a' d' : Nat} (hbk : w.heap[b]? = some (.cells #[.slice AC l.length cC, .int .i64 (a : Int), .int .u64 (d : Int)] 147 (0, 0))) (hl : Sl ByteE w b (.slice AC l.length cC) l) (ha : a' ≤ N) (hd : d' < 18446744073709551616)
    (hw : ∃ n m, w' = (((w.drewN n).setCell ⟨b, 1, none⟩ (.int .i64 (a' : Int))).setCell ⟨b, 2, none⟩ (.int .u64 (d' : Int))).drewN m) : Src w' b N ∧ But b w w' := by
  obtain ⟨n, m, rfl⟩ := hw
  have hB : But b w ((((w.drewN n).setCell ⟨b, 1, none⟩ (.int .i64 (a' : Int))).setCell ⟨b, 2, none⟩ (.int .u64 (d' : Int))).drewN m) := ((((But.refl b w).drewN n).setCell _).setCell _).drewN m
  refine ⟨⟨AC, l, cC, a', d', ?_, ha, hd, hl.keep fun k hk => hB.block k (Nat.lt_trans hk (Array.getElem?_eq_some_iff.1 hbk).1) (Nat.ne_of_lt hk)⟩, hB⟩
  simp [World.setCell, World.drewN, Array.getElem?_modify, hbk]
theorem and255 (d : Nat) (hd : d < 18446744073709551616) : ∃ x : Nat, bits .and .u64 ((d : Int) / 1099511627776) 255 = (x : Int) ∧ x ≤ 255 := by
  refine ⟨(d / 1099511627776) &&& 255, ?_, Nat.and_le_right⟩
  have e : (d : Int) / 1099511627776 = ((d / 1099511627776 : Nat) : Int) := by rw [Int.natCast_ediv]; rfl
  rw [e]
  exact bits_and_u64_nat _ 255 (by omega) (by decide)
theorem from_any (v : Value) (l : List UInt8) (w : World) (h : Sl ByteE w w.heap.size v l) :
    Calls Try.prog 75 #[v] w fun r w' => ∃ b, r = .returned (.pointer (some ⟨b, 0, none⟩)) ∧ b = w.heap.size ∧ Src w' b 0 ∧ Below w.heap.size w w' := by
  have HS := Lib.hid h
  obtain ⟨A, c, rfl, hc1, hc2, _⟩ := h
  go_enter Try.func75, Try.ntmps75
  go_wp2
  go_ret
  have hb : Below w.heap.size w (w.alloc (.cells #[.slice A l.length c, .int .i64 0, .int .u64 0] 147)) := (Below.refl _ w).alloc (Nat.le_refl _) _
  exact ⟨_, rfl, rfl, ⟨A, l, c, 0, 0, heap_alloc_new w _, Nat.le_refl _, by decide, HS.out.below hb⟩, hb⟩
set_option maxRecDepth 100000 in
set_option maxHeartbeats 1000000 in
theorem next_any (b N : Nat) (w : World) (h : Src w b N) (hN : N ≤ 1000000) :
    Calls Try.prog 117 #[.pointer (some ⟨b, 0, none⟩)] w fun r w' => ∃ x : Nat, r = .returned (.int .i64 (x : Int)) ∧ x ≤ 255 ∧ Src w' b (N + 1) ∧ But b w w' := by
  obtain ⟨AC, l, cC, a, d, hbk, ha, hd, hl⟩ := h
  have c0 : w.cell? ⟨b, 0, none⟩ = some (.slice AC l.length cC) := by rw [Lib.cell_of_heap hbk]; rfl
  have c1 : w.cell? ⟨b, 1, none⟩ = some (.int .i64 (a : Int)) := by rw [Lib.cell_of_heap hbk]; rfl
  have c2 : w.cell? ⟨b, 2, none⟩ = some (.int .u64 (d : Int)) := by rw [Lib.cell_of_heap hbk]; rfl
  have f1 : w.frozen? ⟨b, 1, none⟩ = false := Lib.frozen_of_heap hbk 1
  have f2 : w.frozen? ⟨b, 2, none⟩ = false := Lib.frozen_of_heap hbk 2
  have HB := Lib.hid hbk
  have HL := Lib.hid hl
  obtain ⟨_, _, ev, hc1, hc2, hrow⟩ := hl
  clear hbk
  go_enter Try.func117, Try.ntmps117
  go_wp2_with fail
  go_quiet (fail)
  by_cases hlt : a < l.length
  · obtain ⟨bc, oc, rfl, hbc, hcs⟩ := hrow (by omega)
    obtain ⟨cs, hcs1, hcs2⟩ := hcs a l[a] (List.getElem?_eq_getElem hlt)
    have hcs1' : cs = [.int .u8 (l[a].toNat : Int)] := hcs1
    subst hcs1'
    have hcx := hcs2 0 _ rfl
    have e1 : oc + (a * ByteE.size + 0) = oc + a := by show oc + (a * 1 + 0) = oc + a; omega
    rw [e1] at hcx
    have hx := l[a].toNat_lt
    obtain ⟨x, hxe⟩ : ∃ x, l[a].toNat = x := ⟨_, rfl⟩
    rw [hxe] at hcx hx
    clear hcs hcs1 hcs2 hrow e1 hxe
    have hlI : (a : Int) < (l.length : Int) := by omega
    go_wp2_with fail
    go_quiet (fail)
    go_wp2_with fail
    obtain ⟨d2, hd2, hd2b⟩ := u64_nat (IntKind.u64.wrap (IntKind.u64.wrap ((d : Int) * 6364136223846793005) + (x : Int)) + 1442695040888963407)
    rw [hd2]
    have hle : ((a : Int) + 1) ≤ (l.length : Int) := by omega
    go_wp2_with fail
    go_quiet (fail)
    go_wp2_with fail
    go_ret
    refine ⟨x, rfl, by omega, ?_, ?_⟩
    · exact (Src.stored (N := N + 1) (a' := a + 1) HB.out HL.out (by omega) hd2b ⟨_, _, rfl⟩).1
    · exact (Src.stored (N := N + 1) (a' := a + 1) HB.out HL.out (by omega) hd2b ⟨_, _, rfl⟩).2
  · have hlI : ¬ (a : Int) < (l.length : Int) := by omega
    go_wp2_with fail
    obtain ⟨d2, hd2, hd2b⟩ := u64_nat (IntKind.u64.wrap (IntKind.u64.wrap ((d : Int) * 6364136223846793005)) + 1442695040888963407)
    rw [hd2]
    have hle : ¬ ((a : Int) + 1) ≤ (l.length : Int) := by omega
    obtain ⟨x, hx, hx2⟩ := and255 d2 hd2b
    go_wp2_with fail
    go_quiet (fail)
    go_wp2_with fail
    go_ret
    refine ⟨x, rfl, by omega, ?_, ?_⟩
    · exact (Src.stored (N := N + 1) (a' := a + 1) HB.out HL.out (by omega) hd2b ⟨_, _, rfl⟩).1
    · exact (Src.stored (N := N + 1) (a' := a + 1) HB.out HL.out (by omega) hd2b ⟨_, _, rfl⟩).2
def PickPost (b N : Nat) (n : Int) (w : World) (r : Ending) (w' : World) : Prop := ∃ x : Nat, r = .returned (.int .i64 (x : Int)) ∧ (x = 0 ∨ (x : Int) < n) ∧ x ≤ 65535 ∧ Src w' b (N + 2) ∧ But b w w'
set_option maxRecDepth 100000 in
theorem pick_any (b N : Nat) (n : Int) (w : World) (h : Src w b N) (hN : N ≤ 900000) :
    Calls Try.prog 78 #[.pointer (some ⟨b, 0, none⟩), .int .i64 n] w (PickPost b N n w) := by
  have HS := Lib.hid h
  clear h
  go_enter Try.func78, Try.ntmps78
  by_cases h1 : n ≤ 1
  · go_wp2_with fail
    go_ret
    exact ⟨0, rfl, .inl rfl, by omega, HS.out.more (by omega), But.refl b w⟩
  · go_wp2_with fail
    refine (next_any b N w HS.out (by omega)).mono ?_
    rintro r w1 ⟨x, rfl, hx, hs1, hb1⟩
    have H1 := Lib.hid hs1
    have B1 := Lib.hid hb1
    clear hs1 hb1
    obtain ⟨m, rfl⟩ := Int.eq_ofNat_of_zero_le (show 0 ≤ n by omega)
    have hm : ¬ (m : Int) = 0 := by omega
    by_cases h2 : (200 : Int) < m
    · go_wp2_with fail
      refine (next_any b (N + 1) w1 H1.out (by omega)).mono ?_
      rintro r w2 ⟨y, rfl, hy, hs2, hb2⟩
      have H2 := Lib.hid hs2
      have B2 := Lib.hid hb2
      clear hs2 hb2
      go_wp2_with fail
      go_ret
      refine ⟨(x * 256 + y) % m, ?_, .inr ?_, ?_, H2.out.more (by omega), B1.out.trans B2.out⟩
      · rfl
      · have := Nat.mod_lt (x * 256 + y) (show 0 < m by omega)
        omega
      · have := Nat.mod_le (x * 256 + y) m
        omega
    · go_wp2_with fail
      go_ret
      refine ⟨x % m, ?_, .inr ?_, ?_, H1.out.more (by omega), B1.out⟩
      · rfl
      · have := Nat.mod_lt x (show 0 < m by omega)
        omega
      · have := Nat.mod_le x m
        omega
theorem one_any (b N : Nat) (n : Int) (w : World) (h : Src w b N) (hN : N ≤ 900000) :
    Calls Try.prog 96 #[.pointer (some ⟨b, 0, none⟩), .int .i64 n] w fun r w' => ∃ t : Bool, r = .returned (.bool t) ∧ Src w' b (N + 2) ∧ But b w w' := by
  have HS := Lib.hid h
  clear h
  go_enter Try.func96, Try.ntmps96
  go_wp2_with fail
  refine (pick_any b N n w HS.out hN).mono ?_
  rintro r w1 ⟨x, rfl, _, _, hs1, hb1⟩
  have H1 := Lib.hid hs1
  have B1 := Lib.hid hb1
  clear hs1 hb1
  go_wp2_with fail
  go_ret
  exact ⟨_, rfl, H1.out, B1.out⟩
theorem But.keep {b : Nat} {w w' : World} (h : But b w w') : Keep (fun k => k ≠ b ∧ k < w.heap.size) w w' := fun k hk => h.block k hk.2 hk.1
end Go.Proofs.Ytejgbfgocaggfaa
