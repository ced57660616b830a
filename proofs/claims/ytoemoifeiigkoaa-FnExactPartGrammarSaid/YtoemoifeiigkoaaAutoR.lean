import Derived.Test.YtoemoifeiigkoaaAuto5
namespace Go.Proofs.Ytoemoifeiigkoaa
open Go.RowKit

def stepW (next : List (List Int)) (s : Nat) (d : Nat) : Nat := ((next.getD s []).getD d 0).toNat
def readW (next : List (List Int)) (s : Nat) (l : List UInt8) : Nat := l.foldl (fun s c => stepW next s (c.toNat - 97)) s
theorem any_false_get {α : Type} {p : α → Bool} {d : α} {l : List α} (h : (l.any fun r => !p r) = false) (i : Nat) (hi : i < l.length) : p (l.getD i d) = true := by
  rw [List.any_eq_false] at h
  have := h l[i] (List.getElem_mem hi)
  rw [List.getD_eq_getElem?_getD, List.getElem?_eq_getElem hi, Option.getD_some]
  simpa using this
theorem nextOk_get {s : Int} {next : List (List Int)} (h : nextOk s next = true) : (next.length : Int) = s ∧ ∀ t, t < next.length → (next.getD t []).length = 4 ∧ ∀ d, d < 4 → 0 ≤ (next.getD t []).getD d 0 ∧ (next.getD t []).getD d 0 < next.length := by
  unfold nextOk at h
  rw [Bool.and_eq_true, Bool.not_eq_true'] at h
  obtain ⟨h1, h2⟩ := h
  have h1 : (next.length : Int) = s := by simpa using h1
  refine ⟨h1, fun t ht => ?_⟩
  have h3 := any_false_get (p := rowOk s) (d := []) h2 t ht
  unfold rowOk at h3
  rw [Bool.and_eq_true, Bool.not_eq_true'] at h3
  have h4 : (next.getD t []).length = 4 := by simpa using h3.1
  refine ⟨h4, fun d hd => ?_⟩
  have h5 := any_false_get (p := fun x => inR x 0 (s - 1)) (d := 0) h3.2 d (by omega)
  simp only [inR, Bool.and_eq_true, decide_eq_true_eq] at h5
  omega
theorem autoOk_get {a : GAuto} (h : autoOk a = true) : 1 ≤ a.states ∧ a.states ≤ 24 ∧ (a.next.length : Int) = a.states ∧ ∀ t, t < a.next.length → (a.next.getD t []).length = 4 ∧ ∀ d, d < 4 → 0 ≤ (a.next.getD t []).getD d 0 ∧ (a.next.getD t []).getD d 0 < a.next.length := by
  unfold autoOk at h
  simp only [Bool.and_eq_true] at h
  have h1 := h.1.1.1
  simp only [inR, Bool.and_eq_true, decide_eq_true_eq] at h1
  exact ⟨h1.1, h1.2, nextOk_get h.2⟩
theorem stepW_lt {a : GAuto} (h : autoOk a = true) {t d : Nat} (ht : t < a.next.length) (hd : d < 4) : stepW a.next t d < a.next.length := by
  obtain ⟨_, _, _, h4⟩ := autoOk_get h
  have := ((h4 t ht).2 d hd)
  unfold stepW
  omega
theorem wordOk_at {s : ByteArray} (h : wordOk s = true) {k : Nat} (hk : k < s.size) : 97 ≤ s[k].toNat ∧ s[k].toNat ≤ 100 := by
  unfold wordOk at h
  rw [Bool.and_eq_true, List.all_eq_true] at h
  have := h.2 s[k] (List.mem_of_getElem? (toList_getElem? s k hk))
  simp [letOk] at this
  omega
theorem readW_step {next : List (List Int)} {s : Nat} {l : ByteArray} {k : Nat} (h : k < l.size) : readW next s (l.data.toList.take (k + 1)) = stepW next (readW next s (l.data.toList.take k)) (l[k].toNat - 97) := by
  unfold readW
  rw [foldl_take_succ _ _ _ _ _ (toList_getElem? l k h)]

/-- The row t of the table, and its cells. -/
theorem row_at {w : World} {A : Option Addr} {next : List (List Int)} (hrow : Row (SliceE IntE) w (· < w.heap.size) A next) {t d : Nat} (ht : t < next.length) (h4 : (next.getD t []).length = 4) (hd : d < 4) :
    ∃ b o b' o' c, A = some ⟨b, o, none⟩ ∧ w.cell? ⟨b, o + t, none⟩ = some (.slice (some ⟨b', o', none⟩) 4 c) ∧ w.cell? ⟨b', o' + d, none⟩ = some (.int .i64 ((next.getD t []).getD d 0)) := by
  obtain ⟨b, o, rfl, hbl, hcell⟩ := hrow.sl ht
  have hx : next[t]? = some (next.getD t []) := by rw [List.getD_eq_getElem?_getD, List.getElem?_eq_getElem ht]; rfl
  obtain ⟨u, hu, A2, c2, rfl, hc2, hm2, hrow2⟩ := hcell t _ hx
  obtain ⟨b2, o2, rfl, hb2, hcell2⟩ := hrow2.int (k := d) (by omega)
  rw [h4] at hu
  exact ⟨b, o, b2, o2, c2, rfl, hu, hcell2 d (by omega)⟩

set_option maxRecDepth 100000 in
theorem read_any (v : Value) (a : GAuto) (s : Nat) (l : ByteArray) (w : World) (h : AutoV w w.heap.size v a) (ha : autoOk a = true) (hl : wordOk l = true) (hsz : l.size ≤ maxLen) (hs : s < a.next.length) :
    Calls Try.prog 112 #[v, .int .i64 s, .string l] w fun e w' => e = .returned (.int .i64 (readW a.next s l.data.toList)) ∧ Below w.heap.size w w' := by
  obtain ⟨vF, vN, rfl, hF, hN⟩ := h
  unfold maxLen at hsz
  have Ha := Lib.hid ha
  have Hl := Lib.hid hl
  clear ha hl
  obtain ⟨A, c, rfl, hc', hm, hrow⟩ := hN
  obtain ⟨AF, cF, rfl, _⟩ := hF
  obtain ⟨g1, g2, g3, g4⟩ := autoOk_get Ha.out
  have G3 := Lib.hid g3
  have G4 := Lib.hid g4
  clear g3 g4
  go_enter Try.func112, Try.ntmps112
  go_wp2_with fail
  go_loopw [1, 10] (fun q i wr => ∃ (k t : Nat), k ≤ l.size ∧ i = .int .i64 k ∧ q = .int .i64 t ∧ t < a.next.length ∧ Hid (readW a.next s (l.data.toList.take k) = t) ∧ ∃ m, wr = (w.alloc (Obj.cells #[.int .i64 a.states, .int .i64 a.start, .slice AF a.finals.length cF, .slice A a.next.length c] 45)).drewN m) (fun _ i _ => l.size - (intOf i).toNat)
  case atStart => exact ⟨0, s, Nat.zero_le _, rfl, rfl, hs, rfl, 0, rfl⟩
  case round =>
    obtain ⟨k, t, hk, rfl, rfl, ht, HR, m, rfl⟩ := hrel
    by_cases hlt : k < l.size
    · obtain ⟨hd1, hd2⟩ := wordOk_at Hl.out hlt
      obtain ⟨d, hd⟩ : ∃ d, l[k].toNat = 97 + d := ⟨l[k].toNat - 97, by omega⟩
      have hd4 : d < 4 := by omega
      have hrow' := (hrow.keep (Keep.of_below ((Below.refl w.heap.size w).alloc (Nat.le_refl _) (Obj.cells #[.int .i64 a.states, .int .i64 a.start, .slice AF a.finals.length cF, .slice A a.next.length c] 45))))
      obtain ⟨b, o, b', o', c', rfl, k1, k2⟩ := row_at (hrow'.more (S' := (· < (w.alloc (Obj.cells #[.int .i64 a.states, .int .i64 a.start, .slice AF a.finals.length cF, .slice A a.next.length c] 45)).heap.size)) fun b hb => by simp; omega) ht (G4.out t ht).1 hd4
      have h8 : IntKind.u8.wrap ((l[k].toNat : Int) - 97) = (d : Int) := by rw [hd, IntWalk.u8_in _ (by omega)]; omega
      have hti : (t : Int) < (a.next.length : Int) := by omega
      have hdi : (d : Int) < 4 := by omega
      have hki : (k : Int) < (l.size : Int) := by omega
      have hst : Hid ((a.next.getD t []).getD d 0 = ((stepW a.next t d : Nat) : Int)) := by
        have := ((G4.out t ht).2 d hd4).1
        unfold stepW Hid; omega
      have hsl := stepW_lt Ha.out ht hd4
      rw [hst.out] at k2
      have Hst' : Hid (∀ x, stepW a.next t d = x → readW a.next s (l.data.toList.take (k + 1)) = x) := by
        rintro x rfl
        rw [readW_step hlt, HR.out, hd]; congr 1; omega
      obtain ⟨t', ht'⟩ : ∃ t', stepW a.next t d = t' := ⟨_, rfl⟩
      rw [ht'] at k2 hsl
      have Hend := Lib.hid (Hst'.out t' ht')
      clear hrow' hd hst ht'
      go_wp2_with fail
      go_quiet (fail)
      clear h8
      go_wp2
      go_roundw
      case rel => exact ⟨k + 1, t', by omega, by go_num, rfl, hsl, Hend.out, _, rfl⟩
      case measure => simp [intOf]; omega
    · have hfin : readW a.next s l.data.toList = t := by
        have := HR.out
        rwa [List.take_of_length_le (by simpa using (by omega : l.size ≤ k))] at this
      have Hfin := Lib.hid hfin
      clear hfin
      go_wp2_with fail
      go_ret
      exact ⟨by rw [Hfin.out]; rfl, (by repeat (first | exact Below.refl _ _ | (refine Below.alloc ?_ (by first | omega | (simp; done) | (simp; omega)) _) | refine below_drewN ?_ _ | refine Below.drew ?_))⟩

theorem isState_any (v : Value) (a : GAuto) (s : Int) (w : World) (h : AutoV w w.heap.size v a) (ha : autoOk a = true) :
    Calls Try.prog 108 #[v, .int .i64 s] w fun e w' => e = .returned (.bool (inR s 0 (a.states - 1))) ∧ Below w.heap.size w w' := by
  obtain ⟨vF, vN, rfl, hF, hN⟩ := h
  obtain ⟨g1, g2, _⟩ := autoOk_get ha
  go_enter Try.func108, Try.ntmps108
  go_wp2_with fail
  refine (within_any _ _ _ _).mono ?_
  rintro e w' ⟨rfl, rfl⟩
  go_wp2_with fail
  go_ret
  exact ⟨by rfl, (by repeat (first | exact Below.refl _ _ | (refine Below.alloc ?_ (by first | omega | (simp; done) | (simp; omega)) _) | refine below_drewN ?_ _ | refine Below.drew ?_))⟩

/-- What RunWord answers. -/
def runWV (a : GAuto) (s : Int) (l : ByteArray) : Int := if autoOk a && wordOk l && inR s 0 (a.states - 1) then readW a.next s.toNat l.data.toList else 0
def runWC (a : GAuto) (s : Int) (l : ByteArray) : Int := if autoOk a && wordOk l then if inR s 0 (a.states - 1) then 0 else 2 else 1

set_option maxRecDepth 100000 in
theorem implRunWord_any (v : Value) (a : GAuto) (s : Int) (l : ByteArray) (w : World) (h : AutoV w w.heap.size v a) (hsz : l.size ≤ maxLen) :
    Calls Try.prog 35 #[v, .int .i64 s, .string l] w fun e w' => e = .returned (.tuple #[.int .i64 (runWV a s l), .int .i64 (runWC a s l)]) ∧ Below w.heap.size w w' := by
  have h1 := fun o => (h.below ((Below.refl w.heap.size w).alloc (Nat.le_refl _) o)).le (B' := (w.alloc o).heap.size) (by simp)
  have H1 := Lib.hid h1
  obtain ⟨vF, vN, rfl, hF, hN⟩ := h
  obtain ⟨AF, cF, rfl, _⟩ := hF
  obtain ⟨AN, cN, rfl, _⟩ := hN
  clear h1
  go_enter Try.func35, Try.ntmps35
  go_wp2_with fail
  refine (ValidAuto_any _ a _ (H1.out _)).mono ?_
  rintro e w1 ⟨rfl, hb1⟩
  have H2 := Lib.hid ((H1.out _).up hb1)
  have hcb : w1.cell? ⟨w.heap.size, 0, none⟩ = some (.int .i64 a.states) ∧ w1.cell? ⟨w.heap.size, 1, none⟩ = some (.int .i64 a.start) ∧ w1.cell? ⟨w.heap.size, 2, none⟩ = some (.slice AF a.finals.length cF) ∧ w1.cell? ⟨w.heap.size, 3, none⟩ = some (.slice AN a.next.length cN) :=
    ⟨(hb1.cell (p := ⟨w.heap.size, 0, none⟩) (by simp)).trans (by simp [go_sem]), (hb1.cell (p := ⟨w.heap.size, 1, none⟩) (by simp)).trans (by simp [go_sem]), (hb1.cell (p := ⟨w.heap.size, 2, none⟩) (by simp)).trans (by simp [go_sem]), (hb1.cell (p := ⟨w.heap.size, 3, none⟩) (by simp)).trans (by simp [go_sem])⟩
  obtain ⟨b0, b1, b2, b3⟩ := hcb
  have hsz1 : w.heap.size < w1.heap.size := Nat.lt_of_lt_of_le (by simp) hb1.size
  have B1 := Lib.hid (((Below.refl w.heap.size w).alloc (Nat.le_refl _) _).trans (hb1.mono (by simp)))
  clear hb1
  by_cases c1 : autoOk a = true
  · have C1 := Lib.hid c1
    have g1 : (!autoOk a) = false := by simp [c1]
    clear c1
    go_wp2_with fail
    refine (ValidWord_any _ _ hsz).mono ?_
    rintro e w2 ⟨rfl, rfl⟩
    by_cases c2 : wordOk l = true
    · have C2 := Lib.hid c2
      have g2 : (!wordOk l) = false := by simp [c2]
      clear c2
      go_wp2_with fail
      refine (isState_any _ a _ _ H2.out C1.out).mono ?_
      rintro e w2 ⟨rfl, hb2⟩
      have H3 := Lib.hid (H2.out.up hb2)
      have d0 := (hb2.cell (p := ⟨w.heap.size, 0, none⟩) hsz1).trans b0
      have d1 := (hb2.cell (p := ⟨w.heap.size, 1, none⟩) hsz1).trans b1
      have d2 := (hb2.cell (p := ⟨w.heap.size, 2, none⟩) hsz1).trans b2
      have d3 := (hb2.cell (p := ⟨w.heap.size, 3, none⟩) hsz1).trans b3
      have B2 := Lib.hid (B1.out.trans (hb2.mono (by omega)))
      clear hb2 b0 b1 b2 b3
      by_cases c3 : inR s 0 (a.states - 1) = true
      · have C3 := Lib.hid c3
        have g3 : (!inR s 0 (a.states - 1)) = false := by simp [c3]
        have hs0 : 0 ≤ s ∧ s ≤ a.states - 1 := by simpa [inR] using c3
        have hs1 : s.toNat < a.next.length := by have := (autoOk_get C1.out).2.2.1; omega
        obtain ⟨t, rfl⟩ := Int.eq_ofNat_of_zero_le hs0.1
        clear c3 hs0
        go_wp2_with fail
        refine (read_any _ a t l _ H3.out C1.out C2.out hsz (by simpa using hs1)).mono ?_
        rintro e w3 ⟨rfl, hb3⟩
        go_wp2_with fail
        go_ret2
        exact ⟨by simp [runWV, runWC, C1.out, C2.out, C3.out], B2.out.trans (hb3.mono B2.out.size)⟩
      · have c3' : inR s 0 (a.states - 1) = false := by simpa using c3
        have C3 := Lib.hid c3'
        have g3 : (!inR s 0 (a.states - 1)) = true := by simp [c3]
        clear c3 c3'
        go_wp2_with fail
        go_ret2
        exact ⟨by simp [runWV, runWC, C1.out, C2.out, C3.out], B2.out⟩
    · have c2' : wordOk l = false := by simpa using c2
      have C2 := Lib.hid c2'
      have g2 : (!wordOk l) = true := by simp [c2]
      clear c2 c2'
      go_wp2_with fail
      go_ret2
      exact ⟨by simp [runWV, runWC, C1.out, C2.out], B1.out⟩
  · have c1' : autoOk a = false := by simpa using c1
    have C1 := Lib.hid c1'
    have g1 : (!autoOk a) = true := by simp [c1]
    clear c1 c1'
    go_wp2_with fail
    go_ret2
    exact ⟨by simp [runWV, runWC, C1.out], B1.out⟩
end Go.Proofs.Ytoemoifeiigkoaa
