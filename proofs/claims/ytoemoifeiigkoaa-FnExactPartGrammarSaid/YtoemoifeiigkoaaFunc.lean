import Derived.Test.YtoemoifeiigkoaaSizes
namespace Go.Proofs.Ytoemoifeiigkoaa
open Go.RowKit

def allB (n : Nat) (c : Nat → Bool) : Bool := (List.range n).all c
theorem allB_true {n : Nat} {c : Nat → Bool} (h : ∀ i, i < n → c i = true) : allB n c = true := by
  unfold allB; rw [List.all_eq_true]; intro i hi; exact h i (by simpa using hi)
theorem allB_false {n : Nat} {c : Nat → Bool} (k : Nat) (hk : k < n) (h : c k = false) : allB n c = false := by
  unfold allB; rw [List.all_eq_false]; exact ⟨k, by simpa using hk, by simp [h]⟩
/-- The index of the first element for which p holds, or -1. -/
def idxOf {α : Type} (p : α → Bool) : List α → Int
  | [] => -1
  | x :: xs => if p x then 0 else if idxOf p xs < 0 then -1 else idxOf p xs + 1
theorem idxOf_none {α : Type} {p : α → Bool} {xs : List α} (h : ∀ x ∈ xs, p x = false) : idxOf p xs = -1 := by
  induction xs with
  | nil => rfl
  | cons x xs ih => rw [idxOf, h x (by simp), ih (fun y hy => h y (by simp [hy]))]; rfl
theorem idxOf_some {α : Type} {p : α → Bool} {xs : List α} {k : Nat} {x : α} (h : ∀ (i : Nat) y, i < k → xs[i]? = some y → p y = false) (hx : xs[k]? = some x) (hp : p x = true) : idxOf p xs = k := by
  induction xs generalizing k with
  | nil => simp at hx
  | cons y ys ih =>
    cases k with
    | zero => simp at hx; subst hx; rw [idxOf, if_pos hp]; rfl
    | succ k =>
      have h0 := h 0 y (by omega) rfl
      have := ih (k := k) (fun i z hi hz => h (i + 1) z (by omega) (by simpa using hz)) (by simpa using hx)
      rw [idxOf, if_neg (by simp [h0]), this, if_neg (by omega)]; omega
theorem idxOf_any {α : Type} (p : α → Bool) (xs : List α) : decide (0 ≤ idxOf p xs) = xs.any p := by
  induction xs with
  | nil => rfl
  | cons x xs ih =>
    rw [idxOf, List.any_cons, ← ih]
    by_cases h : p x = true
    · simp [h]
    · rw [if_neg h]
      split <;> simp [h] <;> omega

set_option maxRecDepth 100000 in
theorem IndexRows_any (v : Value) (xs : List (List Int)) (F : FuncId) (cap : Array Value) (p : List Int → Bool) (w : World) (h : Sl (SliceE IntE) w w.heap.size v xs)
    (eg : ∀ args w, (callFunc F args).run Try.prog w = .ok (.enter F args) w) (hf : ∀ (W : World) u x, Below w.heap.size w W → x ∈ xs → Sl IntE W W.heap.size u x → Calls Try.prog F (#[u] ++ cap) W fun e w' => e = .returned (.bool (p x)) ∧ Below W.heap.size W w') :
    Calls Try.prog 276 #[v, .func (.func F) #[] cap] w fun e w' => e = .returned (.int .i64 (idxOf p xs)) ∧ Below w.heap.size w w' := by
  obtain ⟨A, c, rfl, hc, hm, hrow⟩ := h
  unfold maxLen at hm
  have Hf := Lib.hid hf
  clear hf
  go_enter Try.func276, Try.ntmps276
  go_wp2_with fail
  go_loopw [8] (fun i wr => ∃ k : Nat, k ≤ xs.length ∧ i = .int .i64 k ∧ Below w.heap.size w wr ∧ ∀ (j : Nat) y, j < k → xs[j]? = some y → p y = false) (fun i _ => xs.length - (intOf i).toNat)
  case atStart => exact ⟨0, Nat.zero_le _, rfl, Below.refl _ _, fun j y hj => absurd hj (by omega)⟩
  case round =>
    obtain ⟨k, hk, rfl, hb, hno⟩ := hrel
    have Hno := Lib.hid hno
    clear hno
    by_cases hlt : k < xs.length
    · obtain ⟨b, o, rfl, hbl, hcell⟩ := hrow.sl hlt
      obtain ⟨x, hx⟩ : ∃ x, xs[k]? = some x := ⟨_, List.getElem?_eq_getElem hlt⟩
      obtain ⟨u, hu, hsl⟩ := hcell k x hx
      have hc0 : wr.cell? ⟨b, o + k, none⟩ = some u := (hb.cell hbl).trans hu
      have Hx := Lib.hid hx
      have Hsl := Lib.hid ((hsl.below hb).le (B' := wr.heap.size) hb.size)
      clear hcell hu hx hsl
      go_wp2_with fail
      refine (Hf.out _ _ x hb (List.mem_of_getElem? Hx.out) Hsl.out).mono ?_
      rintro e w2 ⟨rfl, hb2⟩
      by_cases hp : p x = true
      · have Hp := Lib.hid hp
        go_wp2
        go_ret
        exact ⟨ret_int (by rw [idxOf_some Hno.out Hx.out Hp.out]), hb.trans (hb2.mono hb.size)⟩
      · have hp2 : p x = false := by simpa using hp
        have Hp := Lib.hid hp2
        clear hp
        go_wp2
        go_roundw
        case rel =>
          refine ⟨k + 1, by omega, by go_num, hb.trans (hb2.mono hb.size), fun j y hj hy => ?_⟩
          by_cases e : j = k
          · subst e
            have := Hx.out
            rw [hy] at this
            injection this with this
            rw [this]; exact Hp.out
          · exact Hno.out j y (by omega) hy
        case measure => simp [intOf]; omega
    · go_wp2
      go_ret
      exact ⟨ret_int (by
        rw [idxOf_none]
        intro x hx
        obtain ⟨j, hj, rfl⟩ := List.getElem_of_mem hx
        exact Hno.out j _ (by omega) (List.getElem?_eq_getElem hj)), hb⟩

set_option maxRecDepth 100000 in
theorem IndexInts_any (v : Value) (xs : List Int) (F : FuncId) (cap : Array Value) (p : Int → Bool) (w : World) (h : Sl IntE w w.heap.size v xs)
    (eg : ∀ args w, (callFunc F args).run Try.prog w = .ok (.enter F args) w) (hf : ∀ (W : World) x, Below w.heap.size w W → x ∈ xs → Calls Try.prog F (#[.int .i64 x] ++ cap) W fun e w' => e = .returned (.bool (p x)) ∧ Below W.heap.size W w') :
    Calls Try.prog 277 #[v, .func (.func F) #[] cap] w fun e w' => e = .returned (.int .i64 (idxOf p xs)) ∧ Below w.heap.size w w' := by
  obtain ⟨A, c, rfl, hc, hm, hrow⟩ := h
  unfold maxLen at hm
  have Hf := Lib.hid hf
  clear hf
  go_enter Try.func277, Try.ntmps277
  go_wp2_with fail
  go_loopw [8] (fun i wr => ∃ k : Nat, k ≤ xs.length ∧ i = .int .i64 k ∧ Below w.heap.size w wr ∧ ∀ (j : Nat) y, j < k → xs[j]? = some y → p y = false) (fun i _ => xs.length - (intOf i).toNat)
  case atStart => exact ⟨0, Nat.zero_le _, rfl, Below.refl _ _, fun j y hj => absurd hj (by omega)⟩
  case round =>
    obtain ⟨k, hk, rfl, hb, hno⟩ := hrel
    have Hno := Lib.hid hno
    clear hno
    by_cases hlt : k < xs.length
    · obtain ⟨b, o, rfl, hbl, hcell⟩ := hrow.int hlt
      obtain ⟨x, hx⟩ : ∃ x, xs[k]? = some x := ⟨_, List.getElem?_eq_getElem hlt⟩
      have hc0 : wr.cell? ⟨b, o + k, none⟩ = some (.int .i64 x) := (hb.cell hbl).trans (by rw [hcell k hlt, List.getD_eq_getElem?_getD, hx]; rfl)
      have Hx := Lib.hid hx
      clear hcell hx
      go_wp2_with fail
      refine (Hf.out _ x hb (List.mem_of_getElem? Hx.out)).mono ?_
      rintro e w2 ⟨rfl, hb2⟩
      by_cases hp : p x = true
      · have Hp := Lib.hid hp
        go_wp2
        go_ret
        exact ⟨ret_int (by rw [idxOf_some Hno.out Hx.out Hp.out]), hb.trans (hb2.mono hb.size)⟩
      · have hp2 : p x = false := by simpa using hp
        have Hp := Lib.hid hp2
        clear hp
        go_wp2
        go_roundw
        case rel =>
          refine ⟨k + 1, by omega, by go_num, hb.trans (hb2.mono hb.size), fun j y hj hy => ?_⟩
          by_cases e : j = k
          · subst e
            have := Hx.out
            rw [hy] at this
            injection this with this
            rw [this]; exact Hp.out
          · exact Hno.out j y (by omega) hy
        case measure => simp [intOf]; omega
    · go_wp2
      go_ret
      exact ⟨ret_int (by
        rw [idxOf_none]
        intro x hx
        obtain ⟨j, hj, rfl⟩ := List.getElem_of_mem hx
        exact Hno.out j _ (by omega) (List.getElem?_eq_getElem hj)), hb⟩

theorem ContainsRows_any (v : Value) (xs : List (List Int)) (F : FuncId) (cap : Array Value) (p : List Int → Bool) (w : World) (h : Sl (SliceE IntE) w w.heap.size v xs)
    (eg : ∀ args w, (callFunc F args).run Try.prog w = .ok (.enter F args) w) (hf : ∀ (W : World) u x, Below w.heap.size w W → x ∈ xs → Sl IntE W W.heap.size u x → Calls Try.prog F (#[u] ++ cap) W fun e w' => e = .returned (.bool (p x)) ∧ Below W.heap.size W w') :
    Calls Try.prog 249 #[v, .func (.func F) #[] cap] w fun e w' => e = .returned (.bool (xs.any p)) ∧ Below w.heap.size w w' := by
  have H := Lib.hid (IndexRows_any v xs F cap p w h eg hf)
  clear hf eg
  obtain ⟨A, c, rfl, _⟩ := h
  go_enter Try.func249, Try.ntmps249
  go_wp2_with fail
  refine H.out.mono ?_
  rintro e w2 ⟨rfl, hb2⟩
  go_wp2
  go_ret
  exact ⟨ret_bool (idxOf_any p xs), hb2⟩

theorem ContainsInts_any (v : Value) (xs : List Int) (F : FuncId) (cap : Array Value) (p : Int → Bool) (w : World) (h : Sl IntE w w.heap.size v xs)
    (eg : ∀ args w, (callFunc F args).run Try.prog w = .ok (.enter F args) w) (hf : ∀ (W : World) x, Below w.heap.size w W → x ∈ xs → Calls Try.prog F (#[.int .i64 x] ++ cap) W fun e w' => e = .returned (.bool (p x)) ∧ Below W.heap.size W w') :
    Calls Try.prog 251 #[v, .func (.func F) #[] cap] w fun e w' => e = .returned (.bool (xs.any p)) ∧ Below w.heap.size w w' := by
  have H := Lib.hid (IndexInts_any v xs F cap p w h eg hf)
  clear hf eg
  obtain ⟨A, c, rfl, _⟩ := h
  go_enter Try.func251, Try.ntmps251
  go_wp2_with fail
  refine H.out.mono ?_
  rintro e w2 ⟨rfl, hb2⟩
  go_wp2
  go_ret
  exact ⟨ret_bool (idxOf_any p xs), hb2⟩
end Go.Proofs.Ytoemoifeiigkoaa
