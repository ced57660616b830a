import Derived.Test.YtoemoifeiigkoaaAuto3
namespace Go.Proofs.Ytoemoifeiigkoaa
open Go.RowKit

theorem any_false_of {α : Type} {p : α → Bool} {d : α} {l : List α} (h : ∀ i, i < l.length → p (l.getD i d) = true) : (l.any fun r => !p r) = false := by
  rw [List.any_eq_false]
  intro x hx
  obtain ⟨i, hi, rfl⟩ := List.getElem_of_mem hx
  have := h i hi
  rw [List.getD_eq_getElem?_getD, List.getElem?_eq_getElem hi, Option.getD_some] at this
  simp [this]
theorem any_true_of {α : Type} {p : α → Bool} {d : α} {l : List α} (i : Nat) (hi : i < l.length) (h : p (l.getD i d) = false) : (l.any fun r => !p r) = true := by
  rw [List.any_eq_true]
  rw [List.getD_eq_getElem?_getD, List.getElem?_eq_getElem hi, Option.getD_some] at h
  exact ⟨l[i], List.getElem_mem hi, by simp [h]⟩
theorem rowOk_no1 {s : Int} {row : List Int} (h : row.length ≠ 4) : rowOk s row = false := by simp [rowOk, h]
theorem rowOk_no2 {s : Int} {row : List Int} (i : Nat) (hi : i < row.length) (h : inR (row.getD i 0) 0 (s - 1) = false) : rowOk s row = false := by
  unfold rowOk; rw [any_true_of (p := fun x => inR x 0 (s - 1)) (d := 0) i hi h]; simp
theorem rowOk_yes {s : Int} {row : List Int} (h : row.length = 4) (h' : ∀ i, i < 4 → inR (row.getD i 0) 0 (s - 1) = true) : rowOk s row = true := by
  unfold rowOk; rw [any_false_of (p := fun x => inR x 0 (s - 1)) (d := 0) (by rw [h]; exact h')]; simp [h]
theorem nextOk_no {s : Int} {next : List (List Int)} (i : Nat) (hi : i < next.length) (h : rowOk s (next.getD i []) = false) : nextOk s next = false := by
  unfold nextOk; rw [any_true_of (p := rowOk s) (d := []) i hi h]; simp
theorem nextOk_of {s : Int} {next : List (List Int)} (h : ∀ i, i < next.length → rowOk s (next.getD i []) = true) : nextOk s next = ((next.length : Int) == s) := by
  unfold nextOk; rw [any_false_of (p := rowOk s) (d := []) h]; simp

set_option maxRecDepth 100000 in
theorem l04Next_any (states : Int) (v : Value) (next : List (List Int)) (w : World) (h : Sl (SliceE IntE) w w.heap.size v next) (h1 : 1 ≤ states) (h2 : states ≤ 24) :
    Calls Try.prog 196 #[.int .i64 states, v] w fun e w' => e = .returned (.bool (nextOk states next)) ∧ w = w' := by
  obtain ⟨A, c, rfl, hc, hm, hrow⟩ := h
  unfold maxLen at hm
  have hn : next.length ≤ 9223372036854775807 := by omega
  clear hm
  go_enter Try.func196, Try.ntmps196
  go_wp2_with fail
  go_loop [5, 6] (fun i _ => ∃ (k : Nat), k ≤ next.length ∧ i = .int .i64 k ∧ Hid (∀ i, i < k → rowOk states (next.getD i []) = true)) (fun i _ => next.length - (intOf i).toNat)
  case atStart => exact ⟨0, Nat.zero_le _, rfl, fun i hi => absurd hi (by omega)⟩
  case round =>
    obtain ⟨k, hk, rfl, HA⟩ := hrel
    by_cases hlt : k < next.length
    · obtain ⟨b, o, rfl, hbl, hcell⟩ := hrow.sl hlt
      obtain ⟨x, hx⟩ : ∃ x, next[k]? = some x := ⟨_, List.getElem?_eq_getElem hlt⟩
      obtain ⟨u, hu, hsl⟩ := hcell k x hx
      have Hx : Hid (next.getD k [] = x) := by rw [Hid, List.getD_eq_getElem?_getD, hx]; rfl
      have hki : (k : Int) < (next.length : Int) := by omega
      clear hcell hx
      obtain ⟨A2, c2, rfl, hc2, hm2, hrow2⟩ := hsl
      unfold maxLen at hm2
      by_cases h4 : x.length = 4
      · have g4 : ((x.length : Int) != 4) = false := by simp [h4]
        have H4 := Lib.hid h4
        obtain ⟨b2, o2, rfl, hb2, hcell2⟩ := hrow2.int (k := 0) (by omega)
        have hx4 : (4 : Int) ≤ (x.length : Int) := by omega
        have Hc2 := Lib.hid hcell2
        clear h4 hcell2
        go_wp2_with fail
        go_loop [6] (fun i => ∃ (l : Nat), l ≤ 4 ∧ i = .int .i64 l ∧ Hid (∀ i, i < l → inR (x.getD i 0) 0 (states - 1) = true)) (fun i => 4 - (intOf i).toNat)
        case atStart => exact ⟨0, Nat.zero_le _, rfl, fun i hi => absurd hi (by omega)⟩
        case round =>
          obtain ⟨l, hl, rfl, HB⟩ := hrel
          by_cases hl4 : l < 4
          · have hcl := Hc2.out l (by have := H4.out; omega)
            have hli : (l : Int) < (x.length : Int) := by omega
            generalize hy : x.getD l 0 = y at *
            have Hy := Lib.hid hy
            clear hy
            by_cases c1 : inR y 0 (states - 1) = true
            · have C1 := Lib.hid c1
              clear c1
              go_wp2_with fail
              refine (l00In_yes _ _ _ _ C1.out).mono ?_
              rintro e w' ⟨rfl, rfl⟩
              go_wp2_with fail
              go_round
              case rel => exact ⟨l + 1, by omega, by go_num, fun i hi => by
                rcases Nat.lt_or_ge i l with h | h
                · exact HB.out i h
                · obtain rfl : i = l := by omega
                  rw [Hy.out, C1.out]⟩
              case measure => simp [intOf]; omega
            · have c1' : inR y 0 (states - 1) = false := by simpa using c1
              have C1 := Lib.hid c1'
              clear c1 c1'
              go_wp2_with fail
              refine (l00In_no _ _ _ _ C1.out).mono ?_
              rintro e w' ⟨rfl, rfl⟩
              go_wp2_with fail
              go_ret
              exact ⟨ret_bool (by rw [nextOk_no k hlt (by rw [Hx.out]; exact rowOk_no2 l (by omega) (by rw [Hy.out, C1.out]))]), rfl⟩
          · have hl5 : l = 4 := by omega
            subst hl5
            go_wp2_with fail
            go_round
            case rel => exact ⟨k + 1, by omega, by go_num, fun i hi => by
              rcases Nat.lt_or_ge i k with h | h
              · exact HA.out i h
              · obtain rfl : i = k := by omega
                rw [Hx.out]; exact rowOk_yes H4.out HB.out⟩
            case measure => simp [intOf]; omega
      · have g4 : ((x.length : Int) != 4) = true := by simp; omega
        have H4 := Lib.hid h4
        clear h4
        go_wp2_with fail
        go_ret
        exact ⟨ret_bool (by rw [nextOk_no k hlt (by rw [Hx.out]; exact rowOk_no1 H4.out)]), rfl⟩
    · go_wp2_with fail
      go_ret
      exact ⟨ret_bool (by rw [nextOk_of fun i hi => HA.out i (by omega)]), rfl⟩

theorem l00Rises_yes (v : Value) (l : List Int) (hi : Int) (w : World) (h : Sl IntE w w.heap.size v l) (hr : risesOk hi l = true) :
    Calls Try.prog 195 #[v, .int .i64 0, .int .i64 hi] w fun e w' => e = .returned (.bool true) ∧ ∃ n, w' = w.drewN n := by
  rw [← hr]; exact l00Rises_any v l hi w h
theorem l00Rises_no (v : Value) (l : List Int) (hi : Int) (w : World) (h : Sl IntE w w.heap.size v l) (hr : risesOk hi l = false) :
    Calls Try.prog 195 #[v, .int .i64 0, .int .i64 hi] w fun e w' => e = .returned (.bool false) ∧ ∃ n, w' = w.drewN n := by
  rw [← hr]; exact l00Rises_any v l hi w h

set_option maxRecDepth 100000 in
theorem l04Ok_any (b o : Nat) (vF vN : Value) (a : GAuto) (w : World) (h0 : w.cell? ⟨b, o, none⟩ = some (.int .i64 a.states)) (h1 : w.cell? ⟨b, o + 1, none⟩ = some (.int .i64 a.start)) (h2 : w.cell? ⟨b, o + 2, none⟩ = some vF) (h3 : w.cell? ⟨b, o + 3, none⟩ = some vN)
    (hF : Sl IntE w w.heap.size vF a.finals) (hN : Sl (SliceE IntE) w w.heap.size vN a.next) :
    Calls Try.prog 113 #[.pointer (some ⟨b, o, none⟩)] w fun e w' => e = .returned (.bool (autoOk a)) ∧ ∃ n, w' = w.drewN n := by
  obtain ⟨states, start, finals, next⟩ := a
  simp only at h0 h1 hF hN ⊢
  have hFd : ∀ n, Sl IntE (w.drewN n) (w.drewN n).heap.size vF finals := fun n => hF.drewN n
  have hNd : ∀ n, Sl (SliceE IntE) (w.drewN n) (w.drewN n).heap.size vN next := fun n => hN.drewN n
  have HF := Lib.hid hFd
  have HN := Lib.hid hNd
  clear hF hN hFd hNd
  by_cases c1 : inR states 1 24 = true
  · have k1 : 1 ≤ states ∧ states ≤ 24 := by simpa [inR] using c1
    obtain ⟨k1, k2⟩ := k1
    have C1 := Lib.hid c1
    have hwr : IntKind.i64.wrap (states - 1) = states - 1 := IntWalk.i64_in _ (by omega)
    clear c1
    by_cases c2 : inR start 0 (states - 1) = true
    · have C2 := Lib.hid c2
      clear c2
      by_cases c3 : risesOk (states - 1) finals = true
      · have C3 := Lib.hid c3
        clear c3
        go_enter Try.func113, Try.ntmps113
        go_wp2_with fail
        go_quiet (first
          | (go_at_call 120; first | exact quiet_add_left (l00In_yes _ _ _ _ C1.out) | exact quiet_left (l00In_yes _ _ _ _ C1.out) | exact quiet_add_left (l00In_yes _ _ _ _ C2.out) | exact quiet_left (l00In_yes _ _ _ _ C2.out))
          | (go_at_call 195; first | exact quiet_add (l00Rises_yes _ _ _ _ (HF.out _) C3.out) | exact quiet_one (l00Rises_yes _ _ _ _ (HF.out _) C3.out))
          | (go_at_call 196; first | exact quiet_add_left (l04Next_any _ _ _ _ (HN.out _) k1 k2) | exact quiet_left (l04Next_any _ _ _ _ (HN.out _) k1 k2)))
        clear hwr
        go_wp2
        go_ret
        exact ⟨ret_bool (by simp [autoOk, C1.out, C2.out, C3.out]), _, rfl⟩
      · have c3' : risesOk (states - 1) finals = false := by simpa using c3
        have C3 := Lib.hid c3'
        clear c3 c3'
        go_enter Try.func113, Try.ntmps113
        go_wp2_with fail
        go_quiet (first
          | (go_at_call 120; first | exact quiet_add_left (l00In_yes _ _ _ _ C1.out) | exact quiet_left (l00In_yes _ _ _ _ C1.out) | exact quiet_add_left (l00In_yes _ _ _ _ C2.out) | exact quiet_left (l00In_yes _ _ _ _ C2.out))
          | (go_at_call 195; first | exact quiet_add (l00Rises_no _ _ _ _ (HF.out _) C3.out) | exact quiet_one (l00Rises_no _ _ _ _ (HF.out _) C3.out)))
        clear hwr
        go_wp2
        go_ret
        exact ⟨ret_bool (by simp [autoOk, C1.out, C2.out, C3.out]), _, rfl⟩
    · have c2' : inR start 0 (states - 1) = false := by simpa using c2
      have C2 := Lib.hid c2'
      clear c2 c2'
      go_enter Try.func113, Try.ntmps113
      go_wp2_with fail
      go_quiet ((go_at_call 120; first | exact quiet_add_left (l00In_yes _ _ _ _ C1.out) | exact quiet_left (l00In_yes _ _ _ _ C1.out) | exact quiet_add_left (l00In_no _ _ _ _ C2.out) | exact quiet_left (l00In_no _ _ _ _ C2.out)))
      clear hwr
      go_wp2
      go_ret
      exact ⟨ret_bool (by simp [autoOk, C1.out, C2.out]), _, rfl⟩
  · have c1' : inR states 1 24 = false := by simpa using c1
    have C1 := Lib.hid c1'
    clear c1 c1'
    go_enter Try.func113, Try.ntmps113
    go_wp2_with fail
    go_quiet ((go_at_call 120; first | exact quiet_add_left (l00In_no _ _ _ _ C1.out) | exact quiet_left (l00In_no _ _ _ _ C1.out)))
    go_wp2
    go_ret
    exact ⟨ret_bool (by simp [autoOk, C1.out]), _, rfl⟩
end Go.Proofs.Ytoemoifeiigkoaa
