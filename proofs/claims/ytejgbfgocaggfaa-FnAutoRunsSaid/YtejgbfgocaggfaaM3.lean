import Derived.Test.YtejgbfgocaggfaaM2
namespace Go.Proofs.Ytejgbfgocaggfaa
open Go.RowKit
theorem any_false_of {α : Type} {p : α → Bool} {d : α} {l : List α} (h : ∀ i, i < l.length → p (l.getD i d) = true) : (l.any fun r => !p r) = false := by
  rw [List.any_eq_false]
  intro x hx
  obtain ⟨i, hi, rfl⟩ := List.getElem_of_mem hx
  have := h i hi
  rw [List.getD_eq_getElem?_getD, List.getElem?_eq_getElem hi, Option.getD_some] at this
  simp [this]
theorem any_true_of {α : Type} {p : α → Bool} {d : α} {l : List α} (i : Nat) (hi : i < l.length) (h : p (l.getD i d) = false) : (l.any fun r => !p r) = true := by
  rw [List.any_eq_true]
  rw [List.getD_eq_getElem?_getD, List.getElem?_eq_getElem hi, Option.getD_some] at h
  exact ⟨l[i], List.getElem_mem hi, by simp [h]⟩
theorem rowOk_no1 {s : Int} {row : List Int} (h : row.length ≠ 4) : rowOk s row = false := by simp [rowOk, h]
theorem rowOk_no2 {s : Int} {row : List Int} (i : Nat) (hi : i < row.length) (h : inR (row.getD i 0) 0 (s - 1) = false) : rowOk s row = false := by
  unfold rowOk; rw [any_true_of (p := fun x => inR x 0 (s - 1)) (d := 0) i hi h]; simp
theorem rowOk_yes {s : Int} {row : List Int} (h : row.length = 4) (h' : ∀ i, i < 4 → inR (row.getD i 0) 0 (s - 1) = true) : rowOk s row = true := by
  unfold rowOk; rw [any_false_of (p := fun x => inR x 0 (s - 1)) (d := 0) (by rw [h]; exact h')]; simp [h]
theorem nextOk_no {s : Int} {next : List (List Int)} (i : Nat) (hi : i < next.length) (h : rowOk s (next.getD i []) = false) : nextOk s next = false := by
  unfold nextOk; rw [any_true_of (p := rowOk s) (d := []) i hi h]; simp
theorem nextOk_of {s : Int} {next : List (List Int)} (h : ∀ i, i < next.length → rowOk s (next.getD i []) = true) : nextOk s next = ((next.length : Int) == s) := by
  unfold nextOk; rw [any_false_of (p := rowOk s) (d := []) h]; simp
set_option maxRecDepth 100000 in
theorem l04Next_any (states : Int) (v : Value) (next : List (List Int)) (w : World) (h : Sl (SliceE IntE) w w.heap.size v next) (h1 : 1 ≤ states) (h2 : states ≤ 24) :
    Calls Try.prog 127 #[.int .i64 states, v] w fun e w' => e = .returned (.bool (nextOk states next)) ∧ w = w' := by
  obtain ⟨A, c, rfl, hc, hm, hrow⟩ := h
  unfold maxLen at hm
  have hn : next.length ≤ 9223372036854775807 := by omega
  clear hm
  go_enter Try.func127, Try.ntmps127
  go_wp2_with fail
  go_loop [5, 6] (fun i _ => ∃ (k : Nat), k ≤ next.length ∧ i = .int .i64 k ∧ Hid (∀ i, i < k → rowOk states (next.getD i []) = true)) (fun i _ => next.length - (intOf i).toNat)
  case atStart => exact ⟨0, Nat.zero_le _, rfl, fun i hi => absurd hi (by omega)⟩
  case round =>
    obtain ⟨k, hk, rfl, HA⟩ := hrel
    by_cases hlt : k < next.length
    · obtain ⟨b, o, rfl, hbl, hcell⟩ := hrow.sl hlt
      obtain ⟨x, hx⟩ : ∃ x, next[k]? = some x := ⟨_, List.getElem?_eq_getElem hlt⟩
      obtain ⟨u, hu, hsl⟩ := hcell k x hx
      have Hx : Hid (next.getD k [] = x) := by rw [Hid, List.getD_eq_getElem?_getD, hx]; rfl
      have hki : (k : Int) < (next.length : Int) := by omega
      clear hcell hx
      obtain ⟨A2, c2, rfl, hc2, hm2, hrow2⟩ := hsl
      unfold maxLen at hm2
      by_cases h4 : x.length = 4
      · have g4 : ((x.length : Int) != 4) = false := by simp [h4]
        have H4 := Lib.hid h4
        obtain ⟨b2, o2, rfl, hb2, hcell2⟩ := hrow2.int (k := 0) (by omega)
        have hx4 : (4 : Int) ≤ (x.length : Int) := by omega
        have Hc2 := Lib.hid hcell2
        clear h4 hcell2
        go_wp2_with fail
        go_loop [6] (fun i => ∃ (l : Nat), l ≤ 4 ∧ i = .int .i64 l ∧ Hid (∀ i, i < l → inR (x.getD i 0) 0 (states - 1) = true)) (fun i => 4 - (intOf i).toNat)
        case atStart => exact ⟨0, Nat.zero_le _, rfl, fun i hi => absurd hi (by omega)⟩
        case round =>
          obtain ⟨l, hl, rfl, HB⟩ := hrel
          by_cases hl4 : l < 4
          · have hcl := Hc2.out l (by have := H4.out; omega)
            have hli : (l : Int) < (x.length : Int) := by omega
            generalize hy : x.getD l 0 = y at *
            have Hy := Lib.hid hy
            clear hy
            by_cases c1 : inR y 0 (states - 1) = true
            · have C1 := Lib.hid c1
              clear c1
              go_wp2_with fail
              refine (l00In_yes _ _ _ _ C1.out).mono ?_
              rintro e w' ⟨rfl, rfl⟩
              go_wp2_with fail
              go_round
              case rel => exact ⟨l + 1, by omega, by go_num, fun i hi => by
                rcases Nat.lt_or_ge i l with h | h
                · exact HB.out i h
                · obtain rfl : i = l := by omega
                  rw [Hy.out, C1.out]⟩
              case measure => simp [intOf]; omega
            · have c1' : inR y 0 (states - 1) = false := by simpa using c1
              have C1 := Lib.hid c1'
              clear c1 c1'
              go_wp2_with fail
              refine (l00In_no _ _ _ _ C1.out).mono ?_
              rintro e w' ⟨rfl, rfl⟩
              go_wp2_with fail
              go_ret
              exact ⟨ret_bool (by rw [nextOk_no k hlt (by rw [Hx.out]; exact rowOk_no2 l (by omega) (by rw [Hy.out, C1.out]))]), rfl⟩
          · have hl5 : l = 4 := by omega
            subst hl5
            go_wp2_with fail
            go_round
            case rel => exact ⟨k + 1, by omega, by go_num, fun i hi => by
              rcases Nat.lt_or_ge i k with h | h
              · exact HA.out i h
              · obtain rfl : i = k := by omega
                rw [Hx.out]; exact rowOk_yes H4.out HB.out⟩
            case measure => simp [intOf]; omega
      · have g4 : ((x.length : Int) != 4) = true := by simp; omega
        have H4 := Lib.hid h4
        clear h4
        go_wp2_with fail
        go_ret
        exact ⟨ret_bool (by rw [nextOk_no k hlt (by rw [Hx.out]; exact rowOk_no1 H4.out)]), rfl⟩
    · go_wp2_with fail
      go_ret
      exact ⟨ret_bool (by rw [nextOk_of fun i hi => HA.out i (by omega)]), rfl⟩
theorem l00Rises_yes (v : Value) (l : List Int) (hi : Int) (w : World) (h : Sl IntE w w.heap.size v l) (hr : risesOk hi l = true) :
    Calls Try.prog 126 #[v, .int .i64 0, .int .i64 hi] w fun e w' => e = .returned (.bool true) ∧ ∃ n, w' = w.drewN n := by
  rw [← hr]; exact l00Rises_any v l hi w h
theorem l00Rises_no (v : Value) (l : List Int) (hi : Int) (w : World) (h : Sl IntE w w.heap.size v l) (hr : risesOk hi l = false) :
    Calls Try.prog 126 #[v, .int .i64 0, .int .i64 hi] w fun e w' => e = .returned (.bool false) ∧ ∃ n, w' = w.drewN n := by
  rw [← hr]; exact l00Rises_any v l hi w h
set_option maxRecDepth 100000 in
theorem l04Ok_any (b o : Nat) (vF vN : Value) (a : GAuto) (w : World) (h0 : w.cell? ⟨b, o, none⟩ = some (.int .i64 a.states)) (h1 : w.cell? ⟨b, o + 1, none⟩ = some (.int .i64 a.start)) (h2 : w.cell? ⟨b, o + 2, none⟩ = some vF) (h3 : w.cell? ⟨b, o + 3, none⟩ = some vN)
    (hF : Sl IntE w w.heap.size vF a.finals) (hN : Sl (SliceE IntE) w w.heap.size vN a.next) :
    Calls Try.prog 90 #[.pointer (some ⟨b, o, none⟩)] w fun e w' => e = .returned (.bool (autoOk a)) ∧ ∃ n, w' = w.drewN n := by
  obtain ⟨states, start, finals, next⟩ := a
  simp only at h0 h1 hF hN ⊢
  have hFd : ∀ n, Sl IntE (w.drewN n) (w.drewN n).heap.size vF finals := fun n => hF.drewN n
  have hNd : ∀ n, Sl (SliceE IntE) (w.drewN n) (w.drewN n).heap.size vN next := fun n => hN.drewN n
  have HF := Lib.hid hFd
  have HN := Lib.hid hNd
  clear hF hN hFd hNd
  by_cases c1 : inR states 1 24 = true
  · have k1 : 1 ≤ states ∧ states ≤ 24 := by simpa [inR] using c1
    obtain ⟨k1, k2⟩ := k1
    have C1 := Lib.hid c1
    have hwr : IntKind.i64.wrap (states - 1) = states - 1 := IntWalk.i64_in _ (by omega)
    clear c1
    by_cases c2 : inR start 0 (states - 1) = true
    · have C2 := Lib.hid c2
      clear c2
      by_cases c3 : risesOk (states - 1) finals = true
      · have C3 := Lib.hid c3
        clear c3
        go_enter Try.func90, Try.ntmps90
        go_wp2_with fail
        go_quiet (first
          | (go_at_call 63; first | exact quiet_add_left (l00In_yes _ _ _ _ C1.out) | exact quiet_left (l00In_yes _ _ _ _ C1.out) | exact quiet_add_left (l00In_yes _ _ _ _ C2.out) | exact quiet_left (l00In_yes _ _ _ _ C2.out))
          | (go_at_call 126; first | exact quiet_add (l00Rises_yes _ _ _ _ (HF.out _) C3.out) | exact quiet_one (l00Rises_yes _ _ _ _ (HF.out _) C3.out))
          | (go_at_call 127; first | exact quiet_add_left (l04Next_any _ _ _ _ (HN.out _) k1 k2) | exact quiet_left (l04Next_any _ _ _ _ (HN.out _) k1 k2)))
        clear hwr
        go_wp2
        go_ret
        exact ⟨ret_bool (by simp [autoOk, C1.out, C2.out, C3.out]), _, rfl⟩
      · have c3' : risesOk (states - 1) finals = false := by simpa using c3
        have C3 := Lib.hid c3'
        clear c3 c3'
        go_enter Try.func90, Try.ntmps90
        go_wp2_with fail
        go_quiet (first
          | (go_at_call 63; first | exact quiet_add_left (l00In_yes _ _ _ _ C1.out) | exact quiet_left (l00In_yes _ _ _ _ C1.out) | exact quiet_add_left (l00In_yes _ _ _ _ C2.out) | exact quiet_left (l00In_yes _ _ _ _ C2.out))
          | (go_at_call 126; first | exact quiet_add (l00Rises_no _ _ _ _ (HF.out _) C3.out) | exact quiet_one (l00Rises_no _ _ _ _ (HF.out _) C3.out)))
        clear hwr
        go_wp2
        go_ret
        exact ⟨ret_bool (by simp [autoOk, C1.out, C2.out, C3.out]), _, rfl⟩
    · have c2' : inR start 0 (states - 1) = false := by simpa using c2
      have C2 := Lib.hid c2'
      clear c2 c2'
      go_enter Try.func90, Try.ntmps90
      go_wp2_with fail
      go_quiet ((go_at_call 63; first | exact quiet_add_left (l00In_yes _ _ _ _ C1.out) | exact quiet_left (l00In_yes _ _ _ _ C1.out) | exact quiet_add_left (l00In_no _ _ _ _ C2.out) | exact quiet_left (l00In_no _ _ _ _ C2.out)))
      clear hwr
      go_wp2
      go_ret
      exact ⟨ret_bool (by simp [autoOk, C1.out, C2.out]), _, rfl⟩
  · have c1' : inR states 1 24 = false := by simpa using c1
    have C1 := Lib.hid c1'
    clear c1 c1'
    go_enter Try.func90, Try.ntmps90
    go_wp2_with fail
    go_quiet ((go_at_call 63; first | exact quiet_add_left (l00In_no _ _ _ _ C1.out) | exact quiet_left (l00In_no _ _ _ _ C1.out)))
    go_wp2
    go_ret
    exact ⟨ret_bool (by simp [autoOk, C1.out]), _, rfl⟩
theorem Keep.of_set {S : Nat → Prop} {w : World} {p : Addr} (h : ¬ S p.block) (v : Value) : Keep S w (w.setCell p v) := by
  intro b hb
  exact heap_setCell_other w p b v (fun e => h (e ▸ hb))
theorem Keep.of_set2 {N M b o : Nat} {w : World} (h : b < N) (v : Value) : Keep (fun k => N ≤ k ∧ k < M) w (w.setCell ⟨b, o, none⟩ v) := Keep.of_set (fun h' => by have := h'.1; simp at this; omega) v
def stepW (next : List (List Int)) (s : Nat) (d : Nat) : Nat := ((next.getD s []).getD d 0).toNat
def readW (next : List (List Int)) (s : Nat) (l : List UInt8) : Nat := l.foldl (fun s c => stepW next s (c.toNat - 97)) s
theorem any_false_get {α : Type} {p : α → Bool} {d : α} {l : List α} (h : (l.any fun r => !p r) = false) (i : Nat) (hi : i < l.length) : p (l.getD i d) = true := by
  rw [List.any_eq_false] at h
  have := h l[i] (List.getElem_mem hi)
  rw [List.getD_eq_getElem?_getD, List.getElem?_eq_getElem hi, Option.getD_some]
  simpa using this
theorem nextOk_get {s : Int} {next : List (List Int)} (h : nextOk s next = true) : (next.length : Int) = s ∧ ∀ t, t < next.length → (next.getD t []).length = 4 ∧ ∀ d, d < 4 → 0 ≤ (next.getD t []).getD d 0 ∧ (next.getD t []).getD d 0 < next.length := by
  unfold nextOk at h
  rw [Bool.and_eq_true, Bool.not_eq_true'] at h
  obtain ⟨h1, h2⟩ := h
  have h1 : (next.length : Int) = s := by simpa using h1
  refine ⟨h1, fun t ht => ?_⟩
  have h3 := any_false_get (p := rowOk s) (d := []) h2 t ht
  unfold rowOk at h3
  rw [Bool.and_eq_true, Bool.not_eq_true'] at h3
  have h4 : (next.getD t []).length = 4 := by simpa using h3.1
  refine ⟨h4, fun d hd => ?_⟩
  have h5 := any_false_get (p := fun x => inR x 0 (s - 1)) (d := 0) h3.2 d (by omega)
  simp only [inR, Bool.and_eq_true, decide_eq_true_eq] at h5
  omega
theorem autoOk_get {a : GAuto} (h : autoOk a = true) : 1 ≤ a.states ∧ a.states ≤ 24 ∧ (a.next.length : Int) = a.states ∧ ∀ t, t < a.next.length → (a.next.getD t []).length = 4 ∧ ∀ d, d < 4 → 0 ≤ (a.next.getD t []).getD d 0 ∧ (a.next.getD t []).getD d 0 < a.next.length := by
  unfold autoOk at h
  simp only [Bool.and_eq_true] at h
  have h1 := h.1.1.1
  simp only [inR, Bool.and_eq_true, decide_eq_true_eq] at h1
  exact ⟨h1.1, h1.2, nextOk_get h.2⟩
theorem stepW_lt {a : GAuto} (h : autoOk a = true) {t d : Nat} (ht : t < a.next.length) (hd : d < 4) : stepW a.next t d < a.next.length := by
  obtain ⟨_, _, _, h4⟩ := autoOk_get h
  have := ((h4 t ht).2 d hd)
  unfold stepW
  omega
theorem wordOk_at {s : ByteArray} (h : wordOk s = true) {k : Nat} (hk : k < s.size) : 97 ≤ s[k].toNat ∧ s[k].toNat ≤ 100 := by
  unfold wordOk at h
  rw [Bool.and_eq_true, List.all_eq_true] at h
  have := h.2 s[k] (List.mem_of_getElem? (toList_getElem? s k hk))
  simp [letOk] at this
  omega
theorem readW_step {next : List (List Int)} {s : Nat} {l : ByteArray} {k : Nat} (h : k < l.size) : readW next s (l.data.toList.take (k + 1)) = stepW next (readW next s (l.data.toList.take k)) (l[k].toNat - 97) := by
  unfold readW
  rw [foldl_take_succ _ _ _ _ _ (toList_getElem? l k h)]
theorem row_at {w : World} {A : Option Addr} {next : List (List Int)} (hrow : Row (SliceE IntE) w (· < w.heap.size) A next) {t d : Nat} (ht : t < next.length) (h4 : (next.getD t []).length = 4) (hd : d < 4) :
    ∃ b o b' o' c, A = some ⟨b, o, none⟩ ∧ w.cell? ⟨b, o + t, none⟩ = some (.slice (some ⟨b', o', none⟩) 4 c) ∧ w.cell? ⟨b', o' + d, none⟩ = some (.int .i64 ((next.getD t []).getD d 0)) := by
  obtain ⟨b, o, rfl, hbl, hcell⟩ := hrow.sl ht
  have hx : next[t]? = some (next.getD t []) := by rw [List.getD_eq_getElem?_getD, List.getElem?_eq_getElem ht]; rfl
  obtain ⟨u, hu, A2, c2, rfl, hc2, hm2, hrow2⟩ := hcell t _ hx
  obtain ⟨b2, o2, rfl, hb2, hcell2⟩ := hrow2.int (k := d) (by omega)
  rw [h4] at hu
  exact ⟨b, o, b2, o2, c2, rfl, hu, hcell2 d (by omega)⟩
set_option maxRecDepth 100000 in
theorem read_any (v : Value) (a : GAuto) (s : Nat) (l : ByteArray) (w : World) (h : AutoV w w.heap.size v a) (ha : autoOk a = true) (hl : wordOk l = true) (hsz : l.size ≤ maxLen) (hs : s < a.next.length) :
    Calls Try.prog 89 #[v, .int .i64 s, .string l] w fun e w' => e = .returned (.int .i64 (readW a.next s l.data.toList)) ∧ Below w.heap.size w w' := by
  obtain ⟨vF, vN, rfl, hF, hN⟩ := h
  unfold maxLen at hsz
  have Ha := Lib.hid ha
  have Hl := Lib.hid hl
  clear ha hl
  obtain ⟨A, c, rfl, hc', hm, hrow⟩ := hN
  obtain ⟨AF, cF, rfl, _⟩ := hF
  obtain ⟨g1, g2, g3, g4⟩ := autoOk_get Ha.out
  have G3 := Lib.hid g3
  have G4 := Lib.hid g4
  clear g3 g4
  go_enter Try.func89, Try.ntmps89
  go_wp2_with fail
  go_loopw [1, 10] (fun q i wr => ∃ (k t : Nat), k ≤ l.size ∧ i = .int .i64 k ∧ q = .int .i64 t ∧ t < a.next.length ∧ Hid (readW a.next s (l.data.toList.take k) = t) ∧ ∃ m, wr = (w.alloc (Obj.cells #[.int .i64 a.states, .int .i64 a.start, .slice AF a.finals.length cF, .slice A a.next.length c] 45)).drewN m) (fun _ i _ => l.size - (intOf i).toNat)
  case atStart => exact ⟨0, s, Nat.zero_le _, rfl, rfl, hs, rfl, 0, rfl⟩
  case round =>
    obtain ⟨k, t, hk, rfl, rfl, ht, HR, m, rfl⟩ := hrel
    by_cases hlt : k < l.size
    · obtain ⟨hd1, hd2⟩ := wordOk_at Hl.out hlt
      obtain ⟨d, hd⟩ : ∃ d, l[k].toNat = 97 + d := ⟨l[k].toNat - 97, by omega⟩
      have hd4 : d < 4 := by omega
      have hrow' := (hrow.keep (Keep.of_below ((Below.refl w.heap.size w).alloc (Nat.le_refl _) (Obj.cells #[.int .i64 a.states, .int .i64 a.start, .slice AF a.finals.length cF, .slice A a.next.length c] 45))))
      obtain ⟨b, o, b', o', c', rfl, k1, k2⟩ := row_at (hrow'.more (S' := (· < (w.alloc (Obj.cells #[.int .i64 a.states, .int .i64 a.start, .slice AF a.finals.length cF, .slice A a.next.length c] 45)).heap.size)) fun b hb => by simp; omega) ht (G4.out t ht).1 hd4
      have h8 : IntKind.u8.wrap ((l[k].toNat : Int) - 97) = (d : Int) := by rw [hd, IntWalk.u8_in _ (by omega)]; omega
      have hti : (t : Int) < (a.next.length : Int) := by omega
      have hdi : (d : Int) < 4 := by omega
      have hki : (k : Int) < (l.size : Int) := by omega
      have hst : Hid ((a.next.getD t []).getD d 0 = ((stepW a.next t d : Nat) : Int)) := by
        have := ((G4.out t ht).2 d hd4).1
        unfold stepW Hid; omega
      have hsl := stepW_lt Ha.out ht hd4
      rw [hst.out] at k2
      have Hst' : Hid (∀ x, stepW a.next t d = x → readW a.next s (l.data.toList.take (k + 1)) = x) := by
        rintro x rfl
        rw [readW_step hlt, HR.out, hd]; congr 1; omega
      obtain ⟨t', ht'⟩ : ∃ t', stepW a.next t d = t' := ⟨_, rfl⟩
      rw [ht'] at k2 hsl
      have Hend := Lib.hid (Hst'.out t' ht')
      clear hrow' hd hst ht'
      go_wp2_with fail
      go_quiet (fail)
      clear h8
      go_wp2
      go_roundw
      case rel => exact ⟨k + 1, t', by omega, by go_num, rfl, hsl, Hend.out, _, rfl⟩
      case measure => simp [intOf]; omega
    · have hfin : readW a.next s l.data.toList = t := by
        have := HR.out
        rwa [List.take_of_length_le (by simpa using (by omega : l.size ≤ k))] at this
      have Hfin := Lib.hid hfin
      clear hfin
      go_wp2_with fail
      go_ret
      exact ⟨by rw [Hfin.out]; rfl, (by repeat (first | exact Below.refl _ _ | (refine Below.alloc ?_ (by first | omega | (simp; done) | (simp; omega)) _) | refine below_drewN ?_ _ | refine Below.drew ?_))⟩
theorem isState_any (v : Value) (a : GAuto) (s : Int) (w : World) (h : AutoV w w.heap.size v a) (ha : autoOk a = true) :
    Calls Try.prog 85 #[v, .int .i64 s] w fun e w' => e = .returned (.bool (inR s 0 (a.states - 1))) ∧ Below w.heap.size w w' := by
  obtain ⟨vF, vN, rfl, hF, hN⟩ := h
  obtain ⟨g1, g2, _⟩ := autoOk_get ha
  go_enter Try.func85, Try.ntmps85
  go_wp2_with fail
  refine (within_any _ _ _ _).mono ?_
  rintro e w' ⟨rfl, rfl⟩
  go_wp2_with fail
  go_ret
  exact ⟨by rfl, (by repeat (first | exact Below.refl _ _ | (refine Below.alloc ?_ (by first | omega | (simp; done) | (simp; omega)) _) | refine below_drewN ?_ _ | refine Below.drew ?_))⟩
def runWV (a : GAuto) (s : Int) (l : ByteArray) : Int := if autoOk a && wordOk l && inR s 0 (a.states - 1) then readW a.next s.toNat l.data.toList else 0
def runWC (a : GAuto) (s : Int) (l : ByteArray) : Int := if autoOk a && wordOk l then if inR s 0 (a.states - 1) then 0 else 2 else 1
set_option maxRecDepth 100000 in
theorem implRunWord_any (v : Value) (a : GAuto) (s : Int) (l : ByteArray) (w : World) (h : AutoV w w.heap.size v a) (hsz : l.size ≤ maxLen) :
    Calls Try.prog 30 #[v, .int .i64 s, .string l] w fun e w' => e = .returned (.tuple #[.int .i64 (runWV a s l), .int .i64 (runWC a s l)]) ∧ Below w.heap.size w w' := by
  have h1 := fun o => (h.below ((Below.refl w.heap.size w).alloc (Nat.le_refl _) o)).le (B' := (w.alloc o).heap.size) (by simp)
  have H1 := Lib.hid h1
  obtain ⟨vF, vN, rfl, hF, hN⟩ := h
  obtain ⟨AF, cF, rfl, _⟩ := hF
  obtain ⟨AN, cN, rfl, _⟩ := hN
  clear h1
  go_enter Try.func30, Try.ntmps30
  go_wp2_with fail
  refine (ValidAuto_any _ a _ (H1.out _)).mono ?_
  rintro e w1 ⟨rfl, hb1⟩
  have H2 := Lib.hid ((H1.out _).up hb1)
  have hcb : w1.cell? ⟨w.heap.size, 0, none⟩ = some (.int .i64 a.states) ∧ w1.cell? ⟨w.heap.size, 1, none⟩ = some (.int .i64 a.start) ∧ w1.cell? ⟨w.heap.size, 2, none⟩ = some (.slice AF a.finals.length cF) ∧ w1.cell? ⟨w.heap.size, 3, none⟩ = some (.slice AN a.next.length cN) :=
    ⟨(hb1.cell (p := ⟨w.heap.size, 0, none⟩) (by simp)).trans (by simp [go_sem]), (hb1.cell (p := ⟨w.heap.size, 1, none⟩) (by simp)).trans (by simp [go_sem]), (hb1.cell (p := ⟨w.heap.size, 2, none⟩) (by simp)).trans (by simp [go_sem]), (hb1.cell (p := ⟨w.heap.size, 3, none⟩) (by simp)).trans (by simp [go_sem])⟩
  obtain ⟨b0, b1, b2, b3⟩ := hcb
  have hsz1 : w.heap.size < w1.heap.size := Nat.lt_of_lt_of_le (by simp) hb1.size
  have B1 := Lib.hid (((Below.refl w.heap.size w).alloc (Nat.le_refl _) _).trans (hb1.mono (by simp)))
  clear hb1
  by_cases c1 : autoOk a = true
  · have C1 := Lib.hid c1
    have g1 : (!autoOk a) = false := by simp [c1]
    clear c1
    go_wp2_with fail
    refine (ValidWord_any _ _ hsz).mono ?_
    rintro e w2 ⟨rfl, rfl⟩
    by_cases c2 : wordOk l = true
    · have C2 := Lib.hid c2
      have g2 : (!wordOk l) = false := by simp [c2]
      clear c2
      go_wp2_with fail
      refine (isState_any _ a _ _ H2.out C1.out).mono ?_
      rintro e w2 ⟨rfl, hb2⟩
      have H3 := Lib.hid (H2.out.up hb2)
      have d0 := (hb2.cell (p := ⟨w.heap.size, 0, none⟩) hsz1).trans b0
      have d1 := (hb2.cell (p := ⟨w.heap.size, 1, none⟩) hsz1).trans b1
      have d2 := (hb2.cell (p := ⟨w.heap.size, 2, none⟩) hsz1).trans b2
      have d3 := (hb2.cell (p := ⟨w.heap.size, 3, none⟩) hsz1).trans b3
      have B2 := Lib.hid (B1.out.trans (hb2.mono (by omega)))
      clear hb2 b0 b1 b2 b3
      by_cases c3 : inR s 0 (a.states - 1) = true
      · have C3 := Lib.hid c3
        have g3 : (!inR s 0 (a.states - 1)) = false := by simp [c3]
        have hs0 : 0 ≤ s ∧ s ≤ a.states - 1 := by simpa [inR] using c3
        have hs1 : s.toNat < a.next.length := by have := (autoOk_get C1.out).2.2.1; omega
        obtain ⟨t, rfl⟩ := Int.eq_ofNat_of_zero_le hs0.1
        clear c3 hs0
        go_wp2_with fail
        refine (read_any _ a t l _ H3.out C1.out C2.out hsz (by simpa using hs1)).mono ?_
        rintro e w3 ⟨rfl, hb3⟩
        go_wp2_with fail
        go_ret2
        exact ⟨by simp [runWV, runWC, C1.out, C2.out, C3.out], B2.out.trans (hb3.mono B2.out.size)⟩
      · have c3' : inR s 0 (a.states - 1) = false := by simpa using c3
        have C3 := Lib.hid c3'
        have g3 : (!inR s 0 (a.states - 1)) = true := by simp [c3]
        clear c3 c3'
        go_wp2_with fail
        go_ret2
        exact ⟨by simp [runWV, runWC, C1.out, C2.out, C3.out], B2.out⟩
    · have c2' : wordOk l = false := by simpa using c2
      have C2 := Lib.hid c2'
      have g2 : (!wordOk l) = true := by simp [c2]
      clear c2 c2'
      go_wp2_with fail
      go_ret2
      exact ⟨by simp [runWV, runWC, C1.out, C2.out], B1.out⟩
  · have c1' : autoOk a = false := by simpa using c1
    have C1 := Lib.hid c1'
    have g1 : (!autoOk a) = true := by simp [c1]
    clear c1 c1'
    go_wp2_with fail
    go_ret2
    exact ⟨by simp [runWV, runWC, C1.out], B1.out⟩
theorem l04Letter_any (c : UInt8) (w : World) (h1 : 97 ≤ c.toNat) (h2 : c.toNat ≤ 100) :
    Calls Try.prog 50 #[.int .u8 c.toNat] w fun e w' => e = .returned (.int .i64 ((c.toNat - 97 : Nat) : Int)) ∧ w = w' := by
  obtain ⟨d, hd⟩ : ∃ d, c.toNat = 97 + d := ⟨c.toNat - 97, by omega⟩
  have hd3 : d ≤ 3 := by omega
  rw [hd]
  clear hd h1 h2
  go_enter Try.func50, Try.ntmps50
  go_wp2_with fail
  go_ret
  exact ⟨ret_int (by omega), rfl⟩
theorem drewN_below {w w' : World} (h : ∃ n, w' = w.drewN n) : Below w.heap.size w w' := by
  obtain ⟨n, rfl⟩ := h; exact below_drewN (Below.refl _ _) n
def Box4 (w : World) (b : Nat) (c0 c1 c2 c3 : Value) : Prop := w.cell? ⟨b, 0, none⟩ = some c0 ∧ w.cell? ⟨b, 1, none⟩ = some c1 ∧ w.cell? ⟨b, 2, none⟩ = some c2 ∧ w.cell? ⟨b, 3, none⟩ = some c3
theorem Box4.up {w w' : World} {b N : Nat} {c0 c1 c2 c3 : Value} (h : Box4 w b c0 c1 c2 c3) (hb : Below N w w') (hlt : b < N) : Box4 w' b c0 c1 c2 c3 :=
  ⟨(hb.cell (p := ⟨b, 0, none⟩) hlt).trans h.1, (hb.cell (p := ⟨b, 1, none⟩) hlt).trans h.2.1, (hb.cell (p := ⟨b, 2, none⟩) hlt).trans h.2.2.1, (hb.cell (p := ⟨b, 3, none⟩) hlt).trans h.2.2.2⟩
theorem Box4.new {w w' : World} {c0 c1 c2 c3 : Value} {t : TypeId} (hb : Below (w.alloc (.cells #[c0, c1, c2, c3] t)).heap.size (w.alloc (.cells #[c0, c1, c2, c3] t)) w') : Box4 w' w.heap.size c0 c1 c2 c3 :=
  Box4.up (w := w.alloc (.cells #[c0, c1, c2, c3] t)) ⟨by simp [go_sem], by simp [go_sem], by simp [go_sem], by simp [go_sem]⟩ hb (by simp)
theorem wpList_push2 {P : Program} {W : World} {ops : Array Oper} {rest : List Oper} {o : Oper} {a : Act} {Q : Exit → Act → World → Prop} (hgd : o.guard = none) (s x : Operand) (t : TypeId)
    (ho : o.op = .call { callee := .builtin .append, args := #[s, x], argTypes := #[t, t] }) {cs : Array Value} {e : TypeId}
    (i : TypeInfo) (z : Value) (size bytes : Nat) (ht : P.underlying t = some (.slice e)) (hi : P.info? e = some i) (hz : i.zero = some z)
    (hsize : i.size = size) (hby : i.bytes = bytes) (hzs : z.cells.size = size) (hsz : 0 < size)
    {base : Nat} {v : Value} {n : Nat} {xs : List Value} (hs : a.eval s = v) (hx : a.eval x = .slice (some ⟨W.heap.size, 0, none⟩) 1 1)
    (hcs : cs.size = size) (h1 : ∀ u ∈ cs.toList, u.oneCell' = true) (hown : W.ownsRow base e size v n xs)
    (hlen : (n + 1) * bytes ≤ 140737488355328) (hn : n + 1 ≤ 140737488355328) (hbase : base ≤ W.heap.size)
    (h : ∀ v' w', w'.ownsRow base e size v' (n + 1) (xs ++ cs.toList) → (W.alloc (.cells cs e)).grownBy w' v.ownBlock → (v'.ownBlock = v.ownBlock ∨ v'.ownBlock = some (W.heap.size + 1)) → wpList P ops Q rest (a.put o.dst v') w') :
    wpList P ops Q (o :: rest) a (W.alloc (.cells cs e)) := by
  refine wpList_plain hgd fun _ hK => ?_
  obtain ⟨v', w', hrun, h2, h3, _, h5⟩ := run_append_own_at (P := P) (W.alloc (.cells cs e)) base t o.type e i z size bytes ht hi hz hsize hby hzs hsz v n xs (hown.alloc _) ⟨W.heap.size, 0, none⟩ 1 1 cs.toList (by simpa using hcs)
    (fun j u hu => by
      have : (W.alloc (.cells cs e)).cell? ⟨W.heap.size, j, none⟩ = cs[j]? := cell_of_row _ _ _ _ e (0, 0) (heap_alloc_new W _)
      have ha : (⟨W.heap.size, 0, none⟩ : Addr).add j = ⟨W.heap.size, j, none⟩ := by unfold Addr.add; split <;> simp_all
      rw [ha, this]; simpa using hu) h1 (by simp only [maxLen]; omega) hlen (by simp; omega)
  unfold Oper.wp execOp
  simp only [ho, resolve, invoke, builtin, Sem.run_bind, Sem.run_pure, Result.andThen_ok, List.map_toArray, List.map_cons, List.map_nil, hs, hx, hrun]
  exact hK _ _ (h v' w' h2 h3 (by simpa using h5))
theorem push_sl {W : World} {ops : Array Oper} {rest : List Oper} {o : Oper} {a : Act} {Q : Exit → Act → World → Prop} (hgd : o.guard = none) (s x : Operand)
    (ho : o.op = .call { callee := .builtin .append, args := #[s, x], argTypes := #[43, 43] }) {u : Value} {base n : Nat} {v : Value} {vs : List Value}
    (hs : a.eval s = v) {N : Nat} (hx : a.eval x = .slice (some ⟨N, 0, none⟩) 1 1) (hN : N = W.heap.size) (hu : u.oneCell' = true) (hown : W.ownsRow base 26 1 v n vs) (hlen : n ≤ 1099511627776) (hbase : base ≤ W.heap.size)
    (h : ∀ v' w', w'.ownsRow base 26 1 v' (n + 1) (vs ++ [u]) → (W.alloc (.cells #[u] 26)).grownBy w' v.ownBlock → (v'.ownBlock = v.ownBlock ∨ v'.ownBlock = some (W.heap.size + 1)) → wpList Try.prog ops Q rest (a.put o.dst v') w') :
    wpList Try.prog ops Q (o :: rest) a (W.alloc (.cells #[u] 26)) := by
  subst hN
  obtain ⟨i0, hi0, hz0, hz1, hz2⟩ := info_parts Try.infoII
  refine wpList_push2 hgd s x 43 ho i0 (.slice none 0 0) 1 24 Try.underlying43 hi0 hz0 hz1 hz2 rfl (by decide) hs hx rfl (by simpa using hu) hown (by omega) (by omega) hbase ?_
  intro v' w' h1 h2 h3
  exact h v' w' (by simpa using h1) h2 h3
theorem step_push_int {W : World} {ops : Array Oper} {o : Oper} {a : Act} {K : Act → World → Prop} {Q : Exit → Act → World → Prop} {E : Prop} (hgd : o.guard = none) (s x : Operand)
    (ho : o.op = .call { callee := .builtin .append, args := #[s, x], argTypes := #[26, 26] }) {y : Int} {base : Nat} {v : Value} {l : List Int}
    (hs : a.eval s = v) {N : Nat} (hx : a.eval x = .slice (some ⟨N, 0, none⟩) 1 1) (hc : W.cell? ⟨N, 0, none⟩ = some (.int .i64 y)) (hown : OwnInts W base v l) (hlen : l.length ≤ 1099511627776) (hbase : base ≤ W.heap.size)
    (h : ∀ v' w', OwnInts w' base v' (l ++ [y]) → W.grownBy w' v.ownBlock → (v'.ownBlock = v.ownBlock ∨ v'.ownBlock = some W.heap.size) → K (a.put o.dst v') w') :
    if Region.wanted o (yielded ops a.tmps) = true then Oper.wp Try.prog o a W K Q else E := by
  have hw : Region.wanted o (yielded ops a.tmps) = true := by simp [Region.wanted, hgd]
  rw [if_pos hw]
  obtain ⟨i0, hi0, hz0, hz1, hz2⟩ := info_parts Try.infoI
  obtain ⟨v', w', hrun, h2, h3, _, h5⟩ := run_append_own_at (P := Try.prog) W base 26 o.type 2 i0 (.int .i64 0) 1 8 Try.underlying26 hi0 hz0 hz1 hz2 rfl (by decide) v _ _ hown ⟨N, 0, none⟩ 1 1 [.int .i64 y] rfl
    (fun j u hu => by
      cases j with
      | zero => simp at hu; subst hu; simpa [Addr.add] using hc
      | succ j => simp at hu) (by simp [Value.oneCell']) (by simp only [maxLen]; omega) (by omega) hbase
  unfold Oper.wp execOp
  simp only [ho, resolve, invoke, builtin, Sem.run_bind, Sem.run_pure, Result.andThen_ok, List.map_toArray, List.map_cons, List.map_nil, hs, hx, hrun]
  exact h v' w' (by unfold OwnInts; simpa using h2) h3 h5
def mapCell (next out : List (List Int)) (r : GRule) (s : Nat) : Int :=
  if r.pair then (out.getD r.right.toNat []).getD ((out.getD r.left.toNat []).getD s 0).toNat 0 else (next.getD s []).getD ((r.letter.data.getD 0 0).toNat - 97) 0
def mapRow (next out : List (List Int)) (r : GRule) : List Int := (List.range next.length).map (mapCell next out r)
def mapsOf (next : List (List Int)) (xs : List GRule) : List (List Int) := xs.foldl (fun out r => out ++ [mapRow next out r]) []
theorem mapsOf_snoc {next : List (List Int)} {xs : List GRule} {k : Nat} {r : GRule} (h : xs[k]? = some r) : mapsOf next (xs.take (k + 1)) = mapsOf next (xs.take k) ++ [mapRow next (mapsOf next (xs.take k)) r] := by
  unfold mapsOf; rw [foldl_take_succ _ _ _ _ _ h]
theorem mapsOf_len (next : List (List Int)) (xs : List GRule) : (mapsOf next xs).length = xs.length := by
  suffices H : ∀ (ys : List GRule) (a : List (List Int)), (ys.foldl (fun out r => out ++ [mapRow next out r]) a).length = a.length + ys.length by simpa [mapsOf] using H xs []
  intro ys
  induction ys with
  | nil => intro a; rfl
  | cons y ys ih => intro a; rw [List.foldl_cons, ih]; simp; omega
def RowsOk (n : Nat) (l : List (List Int)) : Prop := ∀ t, t < l.length → (l.getD t []).length = n ∧ ∀ d, d < n → 0 ≤ (l.getD t []).getD d 0 ∧ (l.getD t []).getD d 0 < n
theorem RowsOk.snoc {n : Nat} {l : List (List Int)} {row : List Int} (h : RowsOk n l) (h1 : row.length = n) (h2 : ∀ d, d < n → 0 ≤ row.getD d 0 ∧ row.getD d 0 < n) : RowsOk n (l ++ [row]) := by
  intro t ht
  rcases Nat.lt_or_ge t l.length with h3 | h3
  · have e : (l ++ [row]).getD t [] = l.getD t [] := by rw [List.getD_eq_getElem?_getD, List.getElem?_append_left h3, List.getD_eq_getElem?_getD]
    rw [e]; exact h t h3
  · have ht' : t = l.length := by simp at ht; omega
    subst ht'
    have e : (l ++ [row]).getD l.length [] = row := by rw [List.getD_eq_getElem?_getD, List.getElem?_append_right (Nat.le_refl _)]; simp
    rw [e]; exact ⟨h1, h2⟩
theorem letter_of_ok {i : Nat} {r : GRule} (h : okRule i r = true) (hp : r.pair = false) : r.letter.size = 1 ∧ 97 ≤ (r.letter.data.getD 0 0).toNat ∧ (r.letter.data.getD 0 0).toNat ≤ 100 := by
  simp only [okRule, hp, isLet, Bool.and_eq_true, Bool.false_eq_true, if_false, decide_eq_true_eq, beq_iff_eq] at h
  omega
theorem pair_of_ok {i : Nat} {r : GRule} (h : okRule i r = true) (hp : r.pair = true) : 0 ≤ r.left ∧ r.left.toNat < i ∧ 0 ≤ r.right ∧ r.right.toNat < i := by
  simp only [okRule, hp, if_true, Bool.and_eq_true, decide_eq_true_eq] at h
  omega
theorem mapCell_ok {a : GAuto} (ha : autoOk a = true) {out : List (List Int)} (ho : RowsOk a.next.length out) {r : GRule} (hr : okRule out.length r = true) {s : Nat} (hs : s < a.next.length) :
    0 ≤ mapCell a.next out r s ∧ mapCell a.next out r s < a.next.length := by
  unfold mapCell
  split
  · rename_i hp
    obtain ⟨h1, h2, h3, h4⟩ := pair_of_ok hr hp
    obtain ⟨g1, g2⟩ := ho _ h2
    obtain ⟨k1, k2⟩ := ho _ h4
    have := g2 s hs
    exact k2 _ (by omega)
  · rename_i hp
    obtain ⟨h1, h2, h3⟩ := letter_of_ok hr (by simpa using hp)
    exact ((autoOk_get ha).2.2.2 s hs).2 _ (by omega)
theorem mapRow_len (next out : List (List Int)) (r : GRule) : (mapRow next out r).length = next.length := by simp [mapRow]
theorem mapRow_get (next out : List (List Int)) (r : GRule) {d : Nat} (hd : d < next.length) : (mapRow next out r).getD d 0 = mapCell next out r d := by
  rw [mapRow, List.getD_eq_getElem?_getD, List.getElem?_map, List.getElem?_range hd]; rfl
theorem mapsOf_ok {a : GAuto} (ha : autoOk a = true) {xs : List GRule} {ls : List Int} (hl : lens xs = some ls) : ∀ k, k ≤ xs.length → RowsOk a.next.length (mapsOf a.next (xs.take k)) := by
  intro k
  induction k with
  | zero => intro _ t ht; simp [mapsOf] at ht
  | succ k ih =>
    intro hk
    have hr := getR_at (xs := xs) (r := k) (by omega)
    have h1 := ih (by omega)
    have hok := (lens_steps hl k _ hr).1
    have hlen : (mapsOf a.next (xs.take k)).length = k := by rw [mapsOf_len, List.length_take]; omega
    rw [mapsOf_snoc hr]
    refine h1.snoc (mapRow_len _ _ _) fun d hd => ?_
    rw [mapRow_get _ _ _ hd]
    exact mapCell_ok ha h1 (by rw [hlen]; exact hok) hd
theorem cells2 {w : World} {S : Nat → Prop} {A : Option Addr} {l : List (List Int)} (hrow : Row (SliceE IntE) w S A l) (hl : 0 < l.length) :
    ∃ b o, A = some ⟨b, o, none⟩ ∧ S b ∧ ∀ t d, t < l.length → d < (l.getD t []).length → ∃ b' o' c, w.cell? ⟨b, o + t, none⟩ = some (.slice (some ⟨b', o', none⟩) (l.getD t []).length c) ∧ S b' ∧ w.cell? ⟨b', o' + d, none⟩ = some (.int .i64 ((l.getD t []).getD d 0)) := by
  obtain ⟨b, o, rfl, hbl, hcell⟩ := hrow.sl hl
  refine ⟨b, o, rfl, hbl, fun t d ht hd => ?_⟩
  have hx : l[t]? = some (l.getD t []) := by rw [List.getD_eq_getElem?_getD, List.getElem?_eq_getElem ht]; rfl
  obtain ⟨u, hu, A2, c2, rfl, hc2, hm2, hrow2⟩ := hcell t _ hx
  obtain ⟨b2, o2, rfl, hb2, hcell2⟩ := hrow2.int (k := d) hd
  exact ⟨b2, o2, c2, hu, hb2, hcell2 d hd⟩
theorem own_grown {w w' : World} {base e s : Nat} {v : Value} {n : Nat} {xs : List Value} {row : Option Nat} (h : w.ownsRow base e s v n xs) (hg : w.grownBy w' row) (hne : ∀ g, v.ownBlock = some g → some g ≠ row) : w'.ownsRow base e s v n xs :=
  own_keep h fun g hgg => hg.block g (h.lt g hgg).2 (hne g hgg)
theorem ownSl_empty {w : World} {base N : Nat} (hN : N = w.heap.size) (hb : base ≤ w.heap.size) : (w.alloc (Obj.cells #[] 26)).ownsRow base 26 1 (Value.slice (some ⟨N, 0, none⟩) 0 0) 0 [] := by
  subst hN
  exact World.ownsRow_lit w #[] 0 hb (Nat.zero_le _) rfl
theorem leDA (w : World) (o : Obj) : w.heap.size ≤ (w.alloc o).drew.heap.size := Nat.le_trans (by simp) (Nat.le_refl _)
theorem isPair_b (l : ByteArray) (a b : Int) (w : World) :
    Calls Try.prog 124 #[.agg #[.string l, .int .i64 a, .int .i64 b]] w fun e w' => e = .returned (.bool (l.toList.isEmpty)) ∧ Below w.heap.size w w' :=
  (isPair_any l a b w).mono fun _ _ ⟨he, hw⟩ => ⟨he, hw ▸ (Below.refl _ _).alloc (Nat.le_refl _) _⟩
theorem keepM {W W2 : World} {row : Option Nat} {N : Nat} {p0 p1 p2 p3 p4 p5 : Addr} {v0 v1 v2 v3 v4 v5 : Value}
    (h : W.cell? p0 = some v0 ∧ W.cell? p1 = some v1 ∧ W.cell? p2 = some v2 ∧ W.cell? p3 = some v3 ∧ W.cell? p4 = some v4 ∧ W.cell? p5 = some v5) (hg : W.grownBy W2 row) (hr : ∀ g, row = some g → N ≤ g)
    (h0 : p0.block < N) (h1 : p1.block < N) (h2 : p2.block < N) (h3 : p3.block < N) (h4 : p4.block < N) (h5 : p5.block < N) :
    W2.cell? p0 = some v0 ∧ W2.cell? p1 = some v1 ∧ W2.cell? p2 = some v2 ∧ W2.cell? p3 = some v3 ∧ W2.cell? p4 = some v4 ∧ W2.cell? p5 = some v5 := by
  have k : ∀ {p : Addr} {v : Value}, W.cell? p = some v → p.block < N → W2.cell? p = some v := fun {p v} hc hp => hg.cell hc (fun e => by have := hr _ e.symm; omega)
  exact ⟨k h.1 h0, k h.2.1 h1, k h.2.2.1 h2, k h.2.2.2.1 h3, k h.2.2.2.2.1 h4, k h.2.2.2.2.2 h5⟩
theorem maps_push {N B : Nat} {wo wr w2 : World} {outv v' rowv : Value} {k : Nat} {vs : List Value} {M : List (List Int)} {row : List Int} {o : Obj} (hN : N ≤ wo.heap.size) (hB : wo.heap.size ≤ B) (hown : wo.ownsRow N 26 1 outv k vs)
    (hea : Each IntE wo (fun b => N ≤ b ∧ b < wo.heap.size ∧ some b ≠ outv.ownBlock) vs M) (hb : Below wo.heap.size wo wr) (hrow : OwnInts wr B rowv row) (hg : (wr.alloc o).grownBy w2 outv.ownBlock) (hv : v'.ownBlock = outv.ownBlock ∨ v'.ownBlock = some (wr.heap.size + 1)) :
    Each IntE w2 (fun b => N ≤ b ∧ b < w2.heap.size ∧ some b ≠ v'.ownBlock) (vs ++ [rowv]) (M ++ [row]) := by
  have hs1 : wo.heap.size ≤ wr.heap.size := hb.size
  have hs2 : wr.heap.size < w2.heap.size := Nat.lt_of_lt_of_le (by simp) hg.size
  have hob := fun g hg => (hown.lt g hg).2
  have h1 := hea.keep ((Keep.of_below hb).mono fun b h => h.2.1)
  have h2 := h1.keep ((Keep.of_below ((Below.refl wr.heap.size wr).alloc (Nat.le_refl _) o)).mono fun b h => by have := h.2.1; omega)
  have h3 := h2.keep ((Keep.of_grown hg).mono fun b h => ⟨by have := h.2.1; simp; omega, h.2.2⟩)
  have h4 := h3.more (S' := fun b => N ≤ b ∧ b < w2.heap.size ∧ some b ≠ v'.ownBlock) fun b h => ⟨h.1, by have := h.2.1; omega, fun e => by
    rcases hv with hv | hv
    · exact h.2.2 (e.trans hv)
    · rw [hv] at e; injection e with e; have := h.2.1; omega⟩
  refine h4.snoc ?_
  have r1 := World.ownsRow.alloc hrow o
  have r2 : OwnInts w2 B rowv row := own_grown r1 hg fun g hgg e => by
    have := (World.ownsRow.lt hrow g hgg).1
    have := hob g e.symm
    omega
  refine r2.slS fun g hgg => ⟨?_, ?_, ?_⟩
  · have := (World.ownsRow.lt hrow g hgg).1; omega
  · have := (World.ownsRow.lt hrow g hgg).2; omega
  · intro e
    rcases hv with hv | hv
    · have := hob g (hv ▸ e.symm); have := (World.ownsRow.lt hrow g hgg).1; omega
    · rw [hv] at e; injection e with e; have := (World.ownsRow.lt hrow g hgg).2; omega
theorem keepM3 {W W2 : World} {row : Option Nat} {N : Nat} {p0 p1 p2 : Addr} {v0 v1 v2 : Value}
    (h : W.cell? p0 = some v0 ∧ W.cell? p1 = some v1 ∧ W.cell? p2 = some v2) (hg : W.grownBy W2 row) (hr : ∀ g, row = some g → N ≤ g)
    (h0 : p0.block < N) (h1 : p1.block < N) (h2 : p2.block < N) :
    W2.cell? p0 = some v0 ∧ W2.cell? p1 = some v1 ∧ W2.cell? p2 = some v2 := by
  have k : ∀ {p : Addr} {v : Value}, W.cell? p = some v → p.block < N → W2.cell? p = some v := fun {p v} hc hp => hg.cell hc (fun e => by have := hr _ e.symm; omega)
  exact ⟨k h.1 h0, k h.2.1 h1, k h.2.2 h2⟩
def MapsPost (w : World) (m : List (List Int)) (e : Ending) (w' : World) : Prop :=
  ∃ v, e = .returned v ∧ SlS (SliceE IntE) w' (fun b => w.heap.size ≤ b ∧ b < w'.heap.size) v m ∧ Below w.heap.size w w'
set_option maxRecDepth 100000 in
set_option maxHeartbeats 4000000 in
theorem stateMaps_any (vN vR : Value) (a : GAuto) (xs : List GRule) (ls : List Int) (w : World) (hN : Sl (SliceE IntE) w w.heap.size vN a.next) (hR : Sl RuleE w w.heap.size vR xs) (ha : autoOk a = true) (hl : lens xs = some ls) (hn : xs.length ≤ 1099511627776) :
    Calls Try.prog 120 #[vN, .agg #[vR]] w (MapsPost w (mapsOf a.next xs)) := by
  obtain ⟨AN, cN, rfl, _, hmN, hrowN⟩ := hN
  obtain ⟨AR, cR, rfl, _, _, hrowR⟩ := hR
  obtain ⟨n1, n2, n3, n4⟩ := autoOk_get ha
  have hnext : a.next.length ≤ 24 := by omega
  have hnext0 : 1 ≤ a.next.length := by omega
  have Hl := Lib.hid hl
  have Ha := Lib.hid ha
  have N3 := Lib.hid n3
  have N4 := Lib.hid n4
  have HN := Lib.hid hrowN
  have HR := Lib.hid hrowR
  clear n3 n4 hl ha hrowN hrowR
  go_enter Try.func120, Try.ntmps120
  go_wp2_with fail
  go_loopw [5, 14] (fun out i wr => ∃ (k : Nat) (vs : List Value), k ≤ xs.length ∧ i = .int .i64 k ∧ Below (w.heap.size + 1) (w.alloc (Obj.cells #[Value.slice AR xs.length cR] 31)) wr ∧ wr.ownsRow (w.heap.size + 1) 26 1 out k vs ∧
    Each IntE wr (fun b => w.heap.size + 1 ≤ b ∧ b < wr.heap.size ∧ some b ≠ out.ownBlock) vs (mapsOf a.next (xs.take k))) (fun _ i _ => xs.length - (intOf i).toNat)
  case atStart => exact ⟨0, [], Nat.zero_le _, rfl, (Below.refl _ _).alloc (by simp) _, ownSl_empty (by simp) (by simp), Each.nil⟩
  case round =>
    obtain ⟨k, vs, hk, rfl, hb, hown, hea⟩ := hrel
    obtain ⟨wo, rfl⟩ : ∃ wo : World, wo = wr := ⟨_, rfl⟩
    have hsz : w.heap.size + 1 ≤ wo.heap.size := Nat.le_trans (by simp) hb.size
    have hB : Below w.heap.size w wo := ((Below.refl _ _).alloc (Nat.le_refl _) _).trans (hb.mono (by omega))
    have HB := Lib.hid hb
    have HBB := Lib.hid hB
    have Hown := Lib.hid hown
    have Hea := Lib.hid hea
    clear hb hB hown hea
    by_cases hlt : k < xs.length
    · obtain ⟨b2, o2, rfl, hb2, hcellR⟩ := HR.out.rule (k := k) hlt
      have hrk := getR_at hlt
      obtain ⟨k0, k1, k2⟩ := hcellR k _ hrk
      have hc0 := (HBB.out.cell (p := ⟨b2, o2 + k * 3, none⟩) hb2).trans k0
      have hc1 := (HBB.out.cell (p := ⟨b2, o2 + k * 3 + 1, none⟩) hb2).trans k1
      have hc2 := (HBB.out.cell (p := ⟨b2, o2 + k * 3 + 2, none⟩) hb2).trans k2
      have hok := (lens_steps Hl.out k _ hrk).1
      have hki : (k : Int) < (xs.length : Int) := by omega
      have Hok := Lib.hid hok
      have Hrk := Lib.hid hrk
      have hmo := mapsOf_ok Ha.out Hl.out k hk
      have Hmo := Lib.hid hmo
      have hml : (mapsOf a.next (xs.take k)).length = k := by rw [mapsOf_len, List.length_take]; omega
      have Hml := Lib.hid hml
      have hsl : SlS (SliceE IntE) wo (fun b => b < wo.heap.size) u5 (mapsOf a.next (xs.take k)) :=
        (Hea.out.more (S' := fun b => b < wo.heap.size) fun b h => h.2.1).sl (by rw [hml]; exact Hown.out) fun g hg => (World.ownsRow.lt Hown.out g hg).2
      have Hsl := Lib.hid hsl
      obtain ⟨Ao, co, hvo, _⟩ := hsl
      rw [hml] at hvo
      subst hvo
      clear hok hrk hmo hml k0 k1 k2 hcellR
      obtain ⟨R, hR⟩ : ∃ R, getR xs k = R := ⟨_, rfl⟩
      rw [hR] at hc0 hc1 hc2 Hok Hrk
      clear hR
      have Hsn : Hid (mapsOf a.next (xs.take (k + 1)) = mapsOf a.next (xs.take k) ++ [mapRow a.next (mapsOf a.next (xs.take k)) R]) := mapsOf_snoc Hrk.out
      obtain ⟨M, hM⟩ : ∃ M, mapsOf a.next (xs.take k) = M := ⟨_, rfl⟩
      rw [hM] at Hmo Hml Hsl Hea Hsn
      clear hM
      obtain ⟨rs, rl, rr⟩ := R
      simp only at hc0 hc1 hc2
      have hmc : ∀ s, s < a.next.length → 0 ≤ mapCell a.next M ⟨rs, rl, rr⟩ s ∧ mapCell a.next M ⟨rs, rl, rr⟩ s < a.next.length := fun s hs => mapCell_ok Ha.out Hmo.out (r := ⟨rs, rl, rr⟩) (by rw [Hml.out]; exact Hok.out) hs
      have Hmc := Lib.hid hmc
      clear hmc
      go_wp2_with fail
      go_loopw [8, 21] (fun row i wi => ∃ j : Nat, j ≤ a.next.length ∧ i = .int .i64 j ∧ Below wo.heap.size wo wi ∧ wo.heap.size < wi.heap.size ∧ wi.cell? ⟨wo.heap.size, 0, none⟩ = some (.string rs) ∧ wi.cell? ⟨wo.heap.size, 1, none⟩ = some (.int .i64 rl) ∧ wi.cell? ⟨wo.heap.size, 2, none⟩ = some (.int .i64 rr) ∧
        OwnInts wi (wo.heap.size + 1) row ((List.range j).map (mapCell a.next M ⟨rs, rl, rr⟩))) (fun _ i _ => a.next.length - (intOf i).toNat)
      case atStart => exact ⟨0, Nat.zero_le _, rfl, (by repeat (first | exact Below.refl _ _ | (refine Below.alloc ?_ (by first | omega | (simp; done) | (simp; omega)) _) | refine below_drewN ?_ _ | refine Below.drew ?_)), by simp; omega, by simp [go_sem], by simp [go_sem], by simp [go_sem], OwnInts.empty (by simp) (by simp)⟩
      case round =>
        obtain ⟨j, hj, rfl, hbi, hzi, x0, x1, x2, howni⟩ := hrel
        have Hbi := Lib.hid hbi
        have Howni := Lib.hid howni
        clear hbi howni
        have hlen : ((List.range j).map (mapCell a.next M ⟨rs, rl, rr⟩)).length ≤ 1099511627776 := by simp; omega
        have hsi : wo.heap.size ≤ wr.heap.size := by omega
        by_cases hjl : j < a.next.length
        · have Hnx : Hid ((List.range (j + 1)).map (mapCell a.next M ⟨rs, rl, rr⟩) = (List.range j).map (mapCell a.next M ⟨rs, rl, rr⟩) ++ [mapCell a.next M ⟨rs, rl, rr⟩ j]) := by rw [Hid, List.range_succ, List.map_append]; rfl
          have hce := Hmc.out j hjl
          obtain ⟨m2, hm2⟩ : ∃ m2 : Nat, mapCell a.next M ⟨rs, rl, rr⟩ j = m2 := ⟨(mapCell a.next M ⟨rs, rl, rr⟩ j).toNat, by omega⟩
          have Hm2 := Lib.hid hm2
          clear hce hm2
          have i3 : (j : Int) < (a.next.length : Int) := by omega
          by_cases hp : (⟨rs, rl, rr⟩ : GRule).pair = true
          · obtain ⟨p1, p2, p3, p4⟩ := pair_of_ok Hok.out hp
            have Hp := Lib.hid hp
            have hemp : rs.toList.isEmpty = true := by rw [isEmpty_size]; exact hp
            obtain ⟨l, hl⟩ := Int.eq_ofNat_of_zero_le p1
            obtain ⟨q, hq⟩ := Int.eq_ofNat_of_zero_le p3
            simp only at hl hq p2 p4
            rw [hl] at x1
            rw [hq] at x2
            rw [hl, Int.toNat_natCast] at p2
            rw [hq, Int.toNat_natCast] at p4
            have Hl1 := Lib.hid hl
            have Hq1 := Lib.hid hq
            clear hp p1 p3 hl hq
            have hM0 := Hml.out
            obtain ⟨Ao2, co2, hv2, _, _, hrow2⟩ := (Hsl.out.keep (Keep.of_below Hbi.out))
            have ea : Ao = Ao2 := by injection hv2
            subst ea
            clear hv2
            obtain ⟨b, o, rfl, hbb, hcells⟩ := cells2 hrow2 (by omega)
            have r1 := Hmo.out l (by omega)
            have r2 := Hmo.out q (by omega)
            obtain ⟨m1, hm1⟩ : ∃ m1 : Nat, (M.getD l []).getD j 0 = m1 := ⟨((M.getD l []).getD j 0).toNat, by have := (r1.2 j hjl).1; omega⟩
            have hm1l : m1 < a.next.length := by have := (r1.2 j hjl).2; omega
            obtain ⟨b1, o1, c1, d1, d2, d3⟩ := hcells l j (by omega) (by rw [r1.1]; exact hjl)
            obtain ⟨b3, o3, c3, f1, f2, f3⟩ := hcells q m1 (by omega) (by rw [r2.1]; exact hm1l)
            rw [r1.1] at d1
            rw [r2.1] at f1
            rw [hm1] at d3
            have hcellv : (M.getD q []).getD m1 0 = m2 := by
              have := Hm2.out
              rw [mapCell, if_pos Hp.out] at this
              simp only [Hl1.out, Hq1.out, Int.toNat_natCast, hm1] at this
              exact this
            rw [hcellv] at f3
            have y0 : b < wo.heap.size := hbb
            have y2 : b1 < wo.heap.size := d2
            have y3 : b3 < wo.heap.size := f2
            have i1 : (l : Int) < (k : Int) := by omega
            have i2 : (q : Int) < (k : Int) := by omega
            have i4 : (m1 : Int) < (a.next.length : Int) := by omega
            clear hrow2 hcells r1 r2 hm1 hcellv hM0
            go_wp2_with fail
            refine (isPair_b _ _ _ _).mono ?_
            rintro e w1 ⟨rfl, hb1⟩
            have g0 := (hb1.cell (p := ⟨wo.heap.size, 0, none⟩) hzi).trans x0
            have g1 := (hb1.cell (p := ⟨wo.heap.size, 1, none⟩) hzi).trans x1
            have g2 := (hb1.cell (p := ⟨wo.heap.size, 2, none⟩) hzi).trans x2
            have g3 := (hb1.cell (p := ⟨b, o + l, none⟩) (by show b < _; omega)).trans d1
            have g4 := (hb1.cell (p := ⟨b1, o1 + j, none⟩) (by show b1 < _; omega)).trans d3
            have g5 := (hb1.cell (p := ⟨b, o + q, none⟩) (by show b < _; omega)).trans f1
            have g6 := (hb1.cell (p := ⟨b3, o3 + m1, none⟩) (by show b3 < _; omega)).trans f3
            have hz1 : wo.heap.size < w1.heap.size := by have := hb1.size; omega
            have z0 : b < w1.heap.size := by omega
            have z2 : b1 < w1.heap.size := by omega
            have z3 : b3 < w1.heap.size := by omega
            have Hb1 := Lib.hid (Hbi.out.trans (hb1.mono hsi))
            have Hown1 := Lib.hid (ownsRow_below Howni.out hb1)
            have G0 := Lib.hid g0
            have G1 := Lib.hid g1
            have G2 := Lib.hid g2
            clear hb1 x0 x1 x2 d1 d3 f1 f3 d2 f2 hbb g0
            go_wp2_with fail
            go_region_held3 (fun w' => w'.cell? ⟨wo.heap.size, 1, none⟩ = some (.int .i64 (l : Int)) ∧ w'.cell? ⟨wo.heap.size, 2, none⟩ = some (.int .i64 (q : Int)) ∧ w'.cell? ⟨b, o + l, none⟩ = some (.slice (some ⟨b1, o1, none⟩) a.next.length c1) ∧ w'.cell? ⟨b1, o1 + j, none⟩ = some (.int .i64 (m1 : Int)) ∧ w'.cell? ⟨b, o + q, none⟩ = some (.slice (some ⟨b3, o3, none⟩) a.next.length c3) ∧ w'.cell? ⟨b3, o3 + m1, none⟩ = some (.int .i64 (m2 : Int)))
              (first | go_keep | exact keepM (N := wo.heap.size + 1) (by assumption) hgrow (fun g hg => (World.ownsRow.lt Hown1.out g hg).1) (by simp) (by simp) (by show b < _; omega) (by show b1 < _; omega) (by show b < _; omega) (by show b3 < _; omega))
              ((refine step_push_int (y := (m2 : Int)) (N := w1.heap.size) (base := wo.heap.size + 1) (by rfl) _ _ (by rfl) (by rfl) (by rfl) (by simp [go_sem]) (OwnInts.drew (OwnInts.alloc Hown1.out _)) hlen (Nat.le_trans hz1 (leDA _ _)) ?_; intro v' w2 hown2 hgrow hblk))
            have B2 : Below (wo.heap.size + 1) w1 w2 := (((Below.refl _ _).alloc hz1 _).drew).grown hgrow (Nat.le_trans hz1 (leDA _ _)) (fun g hg => (World.ownsRow.lt Hown1.out g hg).1)
            have q0 := (B2.cell (p := ⟨wo.heap.size, 0, none⟩) (by simp)).trans G0.out
            have q1 := (B2.cell (p := ⟨wo.heap.size, 1, none⟩) (by simp)).trans G1.out
            have q2 := (B2.cell (p := ⟨wo.heap.size, 2, none⟩) (by simp)).trans G2.out
            have hz2 : wo.heap.size < w2.heap.size := by have := B2.size; omega
            have HB2 := Lib.hid (Hb1.out.trans (B2.mono (by omega)))
            have Hown2 := Lib.hid hown2
            clear B2 hown2 hgrow hblk
            go_wp2_with fail
            go_roundw
            case rel => exact ⟨j + 1, by omega, by go_num, HB2.out, hz2, q0, by rw [q1, Hl1.out], by rw [q2, Hq1.out], by rw [Hnx.out, Hm2.out]; exact Hown2.out⟩
            case measure => simp [intOf]; omega
          · obtain ⟨p1, p2, p3⟩ := letter_of_ok Hok.out (by simpa using hp)
            have hp' : (⟨rs, rl, rr⟩ : GRule).pair = false := by simpa using hp
            have Hp := Lib.hid hp'
            have hemp : rs.toList.isEmpty = false := by rw [isEmpty_size]; simpa [GRule.pair] using hp'
            simp only at p1 p2 p3
            have hs0 : 0 < rs.size := by omega
            rw [getD0 rs hs0] at p2 p3
            obtain ⟨d, hd⟩ : ∃ d, rs[0].toNat = 97 + d := ⟨rs[0].toNat - 97, by omega⟩
            have hd4 : d < 4 := by omega
            have r1 := N4.out j hjl
            have hcellv : (a.next.getD j []).getD d 0 = m2 := by
              have := Hm2.out
              rw [mapCell, Hp.out] at this
              simp only [Bool.false_eq_true, if_false, getD0 rs hs0, hd] at this
              rw [← this]; congr 1; omega
            have hBr := HBB.out.trans (Hbi.out.mono (by omega))
            obtain ⟨b, o, rfl, hbb, hcells⟩ := cells2 (HN.out.keep (Keep.of_below hBr)) (by omega)
            obtain ⟨b1, o1, c1, d1, d2, d3⟩ := hcells j d hjl (by rw [r1.1]; exact hd4)
            rw [r1.1] at d1
            rw [hcellv] at d3
            have y0 : b < wo.heap.size := by have : b < w.heap.size := hbb; omega
            have y2 : b1 < wo.heap.size := by have : b1 < w.heap.size := d2; omega
            have i4 : (d : Int) < 4 := by omega
            have h8 : IntKind.u8.wrap ((rs[0].toNat : Int) - 97) = (d : Int) := by rw [hd, IntWalk.u8_in _ (by omega)]; omega
            have his : (0 : Int) < (rs.size : Int) := by omega
            have H8 := Lib.hid h8
            clear hp hp' r1 hcellv hcells hd h8 hBr p1 p2 p3
            go_wp2_with fail
            refine (isPair_b _ _ _ _).mono ?_
            rintro e w1 ⟨rfl, hb1⟩
            have g0 := (hb1.cell (p := ⟨wo.heap.size, 0, none⟩) hzi).trans x0
            have g1 := (hb1.cell (p := ⟨wo.heap.size, 1, none⟩) hzi).trans x1
            have g2 := (hb1.cell (p := ⟨wo.heap.size, 2, none⟩) hzi).trans x2
            have g3 := (hb1.cell (p := ⟨b, o + j, none⟩) (by show b < _; omega)).trans d1
            have g4 := (hb1.cell (p := ⟨b1, o1 + d, none⟩) (by show b1 < _; omega)).trans d3
            have hz1 : wo.heap.size < w1.heap.size := by have := hb1.size; omega
            have z0 : b < w1.heap.size := by omega
            have z2 : b1 < w1.heap.size := by omega
            have Hb1 := Lib.hid (Hbi.out.trans (hb1.mono hsi))
            have Hown1 := Lib.hid (ownsRow_below Howni.out hb1)
            have G0 := Lib.hid g0
            have G1 := Lib.hid g1
            have G2 := Lib.hid g2
            clear hb1 x0 x1 x2 d1 d3 d2 hbb g1 g2
            go_wp2_with fail
            have h8 := H8.out
            go_region_held3 (fun w' => w'.cell? ⟨wo.heap.size, 0, none⟩ = some (.string rs) ∧ w'.cell? ⟨b, o + j, none⟩ = some (.slice (some ⟨b1, o1, none⟩) 4 c1) ∧ w'.cell? ⟨b1, o1 + d, none⟩ = some (.int .i64 (m2 : Int)))
              (first | go_keep | exact keepM3 (N := wo.heap.size + 1) (by assumption) hgrow (fun g hg => (World.ownsRow.lt Hown1.out g hg).1) (by simp) (by show b < _; omega) (by show b1 < _; omega))
              ((refine step_push_int (y := (m2 : Int)) (N := w1.heap.size) (base := wo.heap.size + 1) (by rfl) _ _ (by rfl) (by rfl) (by rfl) (by simp [go_sem]) (OwnInts.drew (OwnInts.alloc Hown1.out _)) hlen (Nat.le_trans hz1 (leDA _ _)) ?_; intro v' w2 hown2 hgrow hblk))
            clear h8
            have B2 : Below (wo.heap.size + 1) w1 w2 := (((Below.refl _ _).alloc hz1 _).drew).grown hgrow (Nat.le_trans hz1 (leDA _ _)) (fun g hg => (World.ownsRow.lt Hown1.out g hg).1)
            have q0 := (B2.cell (p := ⟨wo.heap.size, 0, none⟩) (by simp)).trans G0.out
            have q1 := (B2.cell (p := ⟨wo.heap.size, 1, none⟩) (by simp)).trans G1.out
            have q2 := (B2.cell (p := ⟨wo.heap.size, 2, none⟩) (by simp)).trans G2.out
            have hz2 : wo.heap.size < w2.heap.size := by have := B2.size; omega
            have HB2 := Lib.hid (Hb1.out.trans (B2.mono (by omega)))
            have Hown2 := Lib.hid hown2
            clear B2 hown2 hgrow hblk
            go_wp2_with fail
            go_roundw
            case rel => exact ⟨j + 1, by omega, by go_num, HB2.out, hz2, q0, q1, q2, by rw [Hnx.out, Hm2.out]; exact Hown2.out⟩
            case measure => simp [intOf]; omega
        · have hjn : j = a.next.length := by omega
          have hown3 := ownsRow_below Hown.out Hbi.out
          have Hown3 := Lib.hid hown3
          obtain ⟨Ar, cr, hvr, _⟩ := own_nil Howni.out
          subst hvr
          have Hrow : Hid ((List.range j).map (mapCell a.next M ⟨rs, rl, rr⟩) = mapRow a.next M ⟨rs, rl, rr⟩) := by rw [Hid, mapRow, hjn]
          clear hown3
          go_wp2_with (at_builtin; go_must (refine push_sl (W := wr) (N := wr.heap.size) (base := w.heap.size + 1) rfl _ _ rfl rfl rfl rfl rfl (by exact Hown3.out) (by omega) (by omega) ?_); intro v' w2 hown2 hgrow hblk)
          have Hea2 := Lib.hid (maps_push (B := wo.heap.size + 1) (by omega) (by omega) Hown.out Hea.out Hbi.out Howni.out hgrow hblk)
          have Hown2 := Lib.hid hown2
          have B2 := Lib.hid (HB.out.trans (((Hbi.out.mono (by omega)).alloc (by omega) _).grown hgrow (by simp; omega) (fun g hg => (World.ownsRow.lt Hown.out g hg).1)))
          clear hown2 hgrow hblk
          go_roundw
          case rel => exact ⟨k + 1, _, by omega, by go_num, B2.out, Hown2.out, by rw [Hsn.out, ← Hrow.out]; have := Hea2.out; simp only [List.length_map, List.length_range, hjn] at this ⊢; exact this⟩
          case measure => simp [intOf]; omega
    · have hkn : k = xs.length := by omega
      subst hkn
      rw [List.take_length] at Hea
      have Hsl : Hid (SlS (SliceE IntE) wo (fun b => w.heap.size ≤ b ∧ b < wo.heap.size) u5 (mapsOf a.next xs)) :=
        (Hea.out.more (S' := fun b => w.heap.size ≤ b ∧ b < wo.heap.size) fun b h => ⟨by have := h.1; omega, h.2.1⟩).sl (by rw [mapsOf_len]; exact Hown.out) fun g hg => by have := World.ownsRow.lt Hown.out g hg; omega
      go_wp2_with fail
      go_ret
      exact ⟨_, rfl, Hsl.out, HBB.out⟩
end Go.Proofs.Ytejgbfgocaggfaa
