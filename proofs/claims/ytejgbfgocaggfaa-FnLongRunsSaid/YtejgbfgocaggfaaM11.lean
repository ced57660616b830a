import Derived.Test.YtejgbfgocaggfaaM10
import Derived.Test.YtejgbfgocaggfaaM4
import Derived.Test.YtejgbfgocaggfaaM6
import Derived.Test.YtejgbfgocaggfaaM5
namespace Go.Proofs.Ytejgbfgocaggfaa
open Go.RowKit
theorem P6Pick_any (v : Value) (l : List UInt8) (n : Int) (w : World) (h : Sl ByteE w w.heap.size v l) :
    Calls Try.prog 23 #[v, .int .i64 n] w fun e w' => ∃ x : Nat, e = .returned (.int .i64 (x : Int)) ∧ (x = 0 ∨ (x : Int) < n) ∧ x ≤ 65535 ∧ Below w.heap.size w w' := by
  have HL := Lib.hid h
  obtain ⟨A, c, rfl, _⟩ := h
  go_enter Try.func23, Try.ntmps23
  go_wp2_with fail
  refine (from_any _ l _ HL.out).mono ?_
  rintro r w1 ⟨b, rfl, hb, hs, hb1⟩
  have HS := Lib.hid hs
  have HB := Lib.hid hb1
  have Hb := Lib.hid hb
  clear hs hb1 hb
  go_wp2_with fail
  refine (pick_any b 0 n _ HS.out (by omega)).mono ?_
  rintro r w2 ⟨x, rfl, hx, hx2, _, hb2⟩
  have HB2 := Lib.hid (HB.out.trans (hb2.below (B := w.heap.size) (by rw [Hb.out]; exact Nat.le_refl _) (by have := HB.out.size; omega)))
  have HX := Lib.hid hx
  clear hb2 hx
  go_wp2_with fail
  go_ret
  exact ⟨x, rfl, HX.out, hx2, HB2.out⟩
theorem four {wx : World} {R : Nat} {a0 a1 a2 a3 : Value} {t : TypeId} (h : Blk wx R #[a0, a1, a2, a3] t) (v0 v1 v2 v3 : Value) :
    let W := (((wx.setCell ⟨R, 0, none⟩ v0).setCell ⟨R, 1, none⟩ v1).setCell ⟨R, 2, none⟩ v2).setCell ⟨R, 3, none⟩ v3
    Blk W R #[v0, v1, v2, v3] t ∧ (∀ k, k ≠ R → W.heap[k]? = wx.heap[k]?) ∧ Below R wx W := by
  intro W
  exact ⟨(((h.set 0 v0).set 1 v1).set 2 v2).set 3 v3,
    fun k hk => (Below.heap_setCell _ ⟨R, 3, none⟩ v3 k hk).trans ((Below.heap_setCell _ ⟨R, 2, none⟩ v2 k hk).trans ((Below.heap_setCell _ ⟨R, 1, none⟩ v1 k hk).trans (Below.heap_setCell _ ⟨R, 0, none⟩ v0 k hk))),
    ((((Below.refl _ wx).setCell (p := ⟨R, 0, none⟩) (Nat.le_refl _) v0).setCell (p := ⟨R, 1, none⟩) (Nat.le_refl _) v1).setCell (p := ⟨R, 2, none⟩) (Nat.le_refl _) v2).setCell (p := ⟨R, 3, none⟩) (Nat.le_refl _) v3⟩
theorem P6Auto_any (v : Value) (l : List UInt8) (w : World) (h : Sl ByteE w w.heap.size v l) :
    Calls Try.prog 20 #[v] w fun e w' => ∃ u a, e = .returned u ∧ AutoV w' w'.heap.size u a ∧ autoOk a = true ∧ Below w.heap.size w w' := by
  have HL := Lib.hid h
  obtain ⟨A, c, rfl, _⟩ := h
  go_enter Try.func20, Try.ntmps20
  go_wp2_with fail
  have ba := (Below.refl _ w).alloc (Nat.le_refl _) (.cells #[.int .i64 0, .int .i64 0, .slice none 0 0, .slice none 0 0] 45)
  refine (from_any _ l _ (HL.out.up ba)).mono ?_
  rintro r w1 ⟨b, rfl, hb, hs, hb1⟩
  have KR1 := Lib.hid (Blk.up (Blk.new w #[.int .i64 0, .int .i64 0, .slice none 0 0, .slice none 0 0] 45) hb1)
  have hbz : w.heap.size < b := by simp at hb; omega
  have HS := Lib.hid hs
  have HB := Lib.hid (ba.trans (hb1.mono ba.size))
  have hz1 : w.heap.size < w1.heap.size := KR1.out.lt
  clear hs hb1 ba hb
  go_wp2_with fail
  refine (l04Draw_any b 0 4 _ HS.out (by omega) (by omega)).mono ?_
  rintro r w2 ⟨u, a, rfl, hV, hok, _, hb2⟩
  have KR2 := Lib.hid (KR1.out.but hb2 (by omega))
  have cR0 := Blk.cell (i := 0) (v := .int .i64 0) KR2.out rfl
  have cR1 := Blk.cell (i := 1) (v := .int .i64 0) KR2.out rfl
  have cR2 := Blk.cell (i := 2) (v := .slice none 0 0) KR2.out rfl
  have cR3 := Blk.cell (i := 3) (v := .slice none 0 0) KR2.out rfl
  have zR := Blk.frozen KR2.out
  have hz2 : w.heap.size < w2.heap.size := KR2.out.lt
  have HB2 := Lib.hid (HB.out.trans (hb2.below (B := w.heap.size) (by omega) (by omega)))
  have HV := Lib.hid (hV.more (S' := fun g => w.heap.size < g ∧ g < w2.heap.size) fun g hg => ⟨by have := hg.1; omega, hg.2⟩)
  have HK := Lib.hid hok
  have HKR := KR2
  clear hb2 hok KR2
  obtain ⟨vF, vN, rfl, hF, hN⟩ := hV
  obtain ⟨AF, cF, rfl, _⟩ := hF
  obtain ⟨AN, cN, rfl, _⟩ := hN
  go_wp2_with fail
  obtain ⟨s1, s2, s3⟩ := four HKR.out (.int .i64 a.states) (.int .i64 a.start) (.slice AF a.finals.length cF) (.slice AN a.next.length cN)
  have HB3 := HB2.out.trans s3
  clear cR0 cR1 cR2 cR3 zR
  revert s1 s2 s3 HB3
  generalize (((w2.setCell ⟨w.heap.size, 0, none⟩ (.int .i64 a.states)).setCell ⟨w.heap.size, 1, none⟩ (.int .i64 a.start)).setCell ⟨w.heap.size, 2, none⟩ (.slice AF a.finals.length cF)).setCell ⟨w.heap.size, 3, none⟩ (.slice AN a.next.length cN) = W
  intro s1 s2 s3 HB3
  have x0 := Blk.cell (i := 0) (v := .int .i64 a.states) s1 rfl
  have x1 := Blk.cell (i := 1) (v := .int .i64 a.start) s1 rfl
  have x2 := Blk.cell (i := 2) (v := .slice AF a.finals.length cF) s1 rfl
  have x3 := Blk.cell (i := 3) (v := .slice AN a.next.length cN) s1 rfl
  exact bodyPost_ret (v := .agg #[.int .i64 a.states, .int .i64 a.start, .slice AF a.finals.length cF, .slice AN a.next.length cN]) (by simp [results, Try.results20, go_sem, x0, x1, x2, x3]) rfl
    ⟨_, a, rfl, ((HV.out.keep fun k hk => s2 k (by omega)).more (S' := (· < W.heap.size)) fun k hk => Nat.lt_of_lt_of_le hk.2 s3.size).v, HK.out, HB3⟩
set_option maxRecDepth 100000 in
set_option maxHeartbeats 4000000 in
theorem P6Huge_any (v : Value) (l : List UInt8) (w : World) (h : Sl ByteE w w.heap.size v l) :
    Calls Try.prog 21 #[v] w fun e w' => ∃ u xs, e = .returned (.agg #[u]) ∧ Sl RuleE w' w'.heap.size u xs ∧ gramOk xs = true ∧ Below w.heap.size w w' := by
  have HL := Lib.hid h
  obtain ⟨A, c, rfl, _⟩ := h
  go_enter Try.func21, Try.ntmps21
  go_wp2_with fail
  have ba := (Below.refl _ w).alloc (Nat.le_refl _) (.cells #[.slice none 0 0] 31)
  refine (from_any _ l _ (HL.out.up ba)).mono ?_
  rintro r w1 ⟨b, rfl, hb, hs, hb1⟩
  have KR1 := Lib.hid (show Boxed w1 w.heap.size 31 (.slice none 0 0) from Blk.up (Blk.new w #[.slice none 0 0] 31) hb1)
  have hbz : w.heap.size < b := by simp at hb; omega
  have HS := Lib.hid hs
  have HB := Lib.hid (ba.trans (hb1.mono ba.size))
  clear hs hb1 ba hb
  go_wp2_with fail
  go_loopw [4] (fun i wx => ∃ k : Nat, k ≤ 3 ∧ i = .int .i64 k ∧ Src wx b (500 * k) ∧ Boxed wx w.heap.size 31 (.slice none 0 0) ∧ Below w.heap.size w wx) (fun i _ => 3 - (intOf i).toNat)
  case atStart => exact ⟨0, by omega, rfl, HS.out, KR1.out, HB.out⟩
  case round =>
    obtain ⟨k, hk, rfl, hs, hbx, hb⟩ := hrel
    have HS2 := Lib.hid hs
    have HX := Lib.hid hbx
    have HBB := Lib.hid hb
    have cR := Boxed.cell hbx
    have fR := Boxed.frozen hbx
    have zR := (Array.getElem?_eq_some_iff.1 hbx).1
    clear hs hbx hb
    by_cases hk3 : k < 3
    · have hk32 : (k : Int) < 3 := by omega
      go_wp2_with fail
      refine (l02Huge_any b (500 * k) _ HS2.out (by omega)).mono ?_
      rintro r w2 ⟨v2, xs, rfl, hsl, hok, hs2, hb2⟩
      have hbx2 := Boxed.but HX.out hb2 (by omega)
      have HX2 := Lib.hid hbx2
      have HS3 := Lib.hid hs2
      have HB3 := Lib.hid (HBB.out.trans (hb2.below (B := w.heap.size) (by omega) (by omega)))
      obtain ⟨_, ls, hl⟩ := gram_lens hok
      have Hl := Lib.hid hl
      have HOK := Lib.hid hok
      have hsm := gram_small1 hok
      have Hsm := Lib.hid hsm
      have hx9 : xs.length ≤ 1099511627776 := by have := (gram_lens hok).1; omega
      have HSL := Lib.hid hsl
      have zz := hb2.size
      obtain ⟨AX, cX, rfl, _⟩ := hsl
      clear cR fR hbx2 hs2 hl hsm
      have kc := (Below.refl _ w2).alloc (Nat.le_refl _) (.cells #[.slice AX xs.length cX] 31)
      have kx : (w2.alloc (.cells #[.slice AX xs.length cX] 31)).cell? ⟨w2.heap.size, 0, none⟩ = some (.slice AX xs.length cX) := by simp [go_sem]
      have kz : w2.heap.size < (w2.alloc (.cells #[.slice AX xs.length cX] 31)).heap.size := by simp
      have HS4 := Lib.hid (HS3.out.keep kc)
      have HX4 := Lib.hid (Boxed.up HX2.out kc (by omega))
      have HB4 := Lib.hid (HB3.out.trans (kc.mono (by omega)))
      have HSL4 : Hid (SlS RuleE (w2.alloc (.cells #[.slice AX xs.length cX] 31)) (fun j => wr.heap.size < j ∧ j < w2.heap.size) (.slice AX xs.length cX) xs) := HSL.out.keep fun j hj => kc.block j hj.2
      go_wp2_with fail
      clear kc
      generalize w2.alloc (.cells #[.slice AX xs.length cX] 31) = w4 at *
      refine (l02Ok_any _ _ _ xs _ kx kz (HSL4.out.more fun j hj => by omega) Hsm.out).mono ?_
      rintro e w5 ⟨rfl, hb5⟩
      have kx5 := (hb5.cell (p := ⟨w2.heap.size, 0, none⟩) kz).trans kx
      have kz5 : w2.heap.size < w5.heap.size := Nat.lt_of_lt_of_le kz hb5.size
      have HS5 := Lib.hid (HS4.out.keep hb5)
      have HX5 := Lib.hid (Boxed.up HX4.out hb5 (by omega))
      have HB5 := Lib.hid (HB4.out.trans (hb5.mono (by omega)))
      have HSL5 : Hid (SlS RuleE w5 (fun j => wr.heap.size < j ∧ j < w2.heap.size) (.slice AX xs.length cX) xs) := HSL4.out.keep fun j hj => hb5.block j (by omega)
      clear hb5 kx
      rw [hok]
      go_wp2_with fail
      refine (l02Length_any _ _ _ xs ls _ Hl.out kx5 kz5 (HSL5.out.more fun j hj => by omega) Hsm.out hx9).mono ?_
      rintro e w6 ⟨rfl, hb6⟩
      have kx6 := (hb6.cell (p := ⟨w2.heap.size, 0, none⟩) kz5).trans kx5
      have kz6 : w2.heap.size < w6.heap.size := Nat.lt_of_lt_of_le kz5 hb6.size
      have HS6 := Lib.hid (HS5.out.keep hb6)
      have hX6 := Boxed.up HX5.out hb6 (by omega)
      have HX6 := Lib.hid hX6
      have HB6 := Lib.hid (HB5.out.trans (hb6.mono (by omega)))
      have HSL6 : Hid (SlS RuleE w6 (fun j => wr.heap.size < j ∧ j < w2.heap.size) (.slice AX xs.length cX) xs) := HSL5.out.keep fun j hj => hb6.block j (by omega)
      have cR := Boxed.cell hX6
      have fR := Boxed.frozen hX6
      have zR6 := (Array.getElem?_eq_some_iff.1 hX6).1
      clear hb6 kx5 hX6
      by_cases hle : lastI ls ≤ 250000000000000
      · go_wp2_with fail
        exact bodyPost_ret (v := .agg #[.slice AX xs.length cX]) (by simp [results, Try.results21, go_sem, cR]) rfl
          ⟨_, xs, rfl, (HSL6.out.keep fun k hk => Below.heap_setCell w6 ⟨w.heap.size, 0, none⟩ _ k (by show k ≠ w.heap.size; omega)).more fun k hk => by simp [World.setCell]; omega, HOK.out, HB6.out.setCell (p := ⟨w.heap.size, 0, none⟩) (Nat.le_refl _) _⟩
      · have hle2 : decide (lastI ls ≤ 250000000000000) = false := decide_eq_false hle
        go_wp2_with fail
        go_roundw
        case rel => exact ⟨k + 1, by omega, by go_num, HS6.out.more (by omega), HX6.out, HB6.out⟩
        case measure => simp [intOf]; omega
    · have hk9 : k = 3 := by omega
      subst hk9
      clear cR fR
      go_wp2_with fail
      refine (l02Drawn_any b (500 * 3) 8 _ HS2.out (by omega)).mono ?_
      rintro r w2 ⟨v2, xs, rfl, hsl, hok, h14, hs2, hb2⟩
      have hbx2 := Boxed.but HX.out hb2 (by omega)
      have cR := Boxed.cell hbx2
      have fR := Boxed.frozen hbx2
      have zR2 := (Array.getElem?_eq_some_iff.1 hbx2).1
      have HB3 := Lib.hid (HBB.out.trans (hb2.below (B := w.heap.size) (by omega) (by omega)))
      have HOK := Lib.hid hok.1
      have HSL := Lib.hid hsl
      obtain ⟨AX, cX, rfl, _⟩ := hsl
      clear hok hs2 hb2
      go_wp2_with fail
      exact bodyPost_ret (v := .agg #[.slice AX xs.length cX]) (by simp [results, Try.results21, go_sem, cR]) rfl
        ⟨_, xs, rfl, (HSL.out.keep fun k hk => Below.heap_setCell w2 ⟨w.heap.size, 0, none⟩ _ k (by show k ≠ w.heap.size; omega)).more fun k hk => by simp [World.setCell]; omega, HOK.out, HB3.out.setCell (p := ⟨w.heap.size, 0, none⟩) (Nat.le_refl _) _⟩
theorem specLengthOf_any (v : Value) (xs : List GRule) (ls : List Int) (w : World) (h : Sl RuleE w w.heap.size v xs) (hok : gramOk xs = true) (hl : lens xs = some ls) :
    Calls Try.prog 22 #[.agg #[v]] w fun e w' => e = .returned (.tuple #[.int .i64 (lastI ls), .int .i64 0]) ∧ Below w.heap.size w w' := by
  have hsm := gram_small1 hok
  have Hsm := Lib.hid hsm
  have hx9 : xs.length ≤ 1099511627776 := by have := (gram_lens hok).1; omega
  have h1 := fun o => (h.below ((Below.refl w.heap.size w).alloc (Nat.le_refl _) o)).le (B' := (w.alloc o).heap.size) (by simp)
  have H1 := Lib.hid h1
  have Hl := Lib.hid hl
  obtain ⟨A, c, rfl, _⟩ := h
  clear h1 hsm hl
  go_enter Try.func22, Try.ntmps22
  go_wp2_with fail
  refine (l02Ok_any _ _ _ xs _ (by simp [go_sem]) (by simp) (H1.out _) Hsm.out).mono ?_
  rintro e w5 ⟨rfl, hb5⟩
  have kx5 : w5.cell? ⟨w.heap.size, 0, none⟩ = some (.slice A xs.length c) := (hb5.cell (p := ⟨w.heap.size, 0, none⟩) (by simp)).trans (by simp [go_sem])
  have kz5 : w.heap.size < w5.heap.size := Nat.lt_of_lt_of_le (by simp) hb5.size
  have HB5 := Lib.hid (((Below.refl w.heap.size w).alloc (Nat.le_refl _) _).trans (hb5.mono (by simp)))
  have HSL := Lib.hid ((H1.out _).up hb5)
  clear hb5
  rw [hok]
  go_wp2_with fail
  refine (l02Length_any _ _ _ xs ls _ Hl.out kx5 kz5 HSL.out Hsm.out hx9).mono ?_
  rintro e w6 ⟨rfl, hb6⟩
  have HB6 := Lib.hid (HB5.out.trans (hb6.mono (by omega)))
  clear hb6
  go_wp2_with fail
  go_ret2
  exact ⟨rfl, HB6.out⟩
def RowN (w : World) (b : Nat) (l : List Nat) : Prop := w.rowIs b 2 l.length fun i => .int .i64 ((l.getD i 0 : Nat) : Int)
section
variable {w w' : World} {b M : Nat} {l : List Nat}
theorem RowN.made (w : World) (n : Nat) : RowN (w.alloc (.cells (madeCells #[.int .i64 0] n) 2)) w.heap.size (List.replicate n 0) := by
  have h := World.rowIs_made w (.int .i64 0) n 2
  unfold RowN; rw [List.length_replicate]
  exact h.congr fun i hi => by simp [hi]
theorem RowN.set (h : RowN w b l) {i : Nat} (_hi : i < l.length) (x : Nat) : RowN (w.setCell ⟨b, i, none⟩ (.int .i64 (x : Int))) b (l.set i x) := by
  have h2 := World.rowIs.set h i (.int .i64 (x : Int))
  unfold RowN; rw [List.length_set]
  exact h2.congr fun j hj => by
    by_cases e : j = i
    · subst e; simp [hj]
    · rw [if_neg e, List.getD_eq_getElem?_getD, List.getD_eq_getElem?_getD, List.getElem?_set_ne (by omega)]
theorem RowN.lt (h : RowN w b l) : b < w.heap.size := World.rowIs.lt h
theorem RowN.cell (h : RowN w b l) {i : Nat} (hi : i < l.length) : w.cell? ⟨b, i, none⟩ = some (.int .i64 ((l.getD i 0 : Nat) : Int)) := World.rowIs.cell h hi
theorem RowN.frozen (h : RowN w b l) (i : Nat) : w.frozen? ⟨b, i, none⟩ = false := World.rowIs.frozen h i
theorem RowN.same (h : RowN w b l) (e : w'.heap[b]? = w.heap[b]?) : RowN w' b l := World.rowIs.of_block h e
theorem RowN.other (h : RowN w b l) {c o : Nat} (hne : b ≠ c) (u : Value) : RowN (w.setCell ⟨c, o, none⟩ u) b l := World.rowIs.setOther h hne u
theorem RowN.sl (h : RowN w b l) : Sl IntE w w.heap.size (.slice (some ⟨b, 0, none⟩) l.length l.length) (l.map Int.ofNat) ∨ maxLen < l.length := by
  rcases Nat.lt_or_ge maxLen l.length with hm | hm
  · exact Or.inr hm
  · refine Or.inl ⟨some ⟨b, 0, none⟩, l.length, by simp, by simp, hm, fun _ => ⟨b, 0, rfl, h.lt, fun k x hx => ⟨[.int .i64 x], rfl, fun j u hu => ?_⟩⟩⟩
    match j, hu with
    | 0, hu =>
      simp at hu; subst hu
      rw [List.getElem?_map] at hx
      obtain ⟨y, hy, rfl⟩ : ∃ y, l[k]? = some y ∧ Int.ofNat y = x := by
        cases hy : l[k]? with
        | none => rw [hy] at hx; cases hx
        | some y => rw [hy] at hx; exact ⟨y, rfl, by simpa using hx⟩
      have hk : k < l.length := (List.getElem?_eq_some_iff.1 hy).1
      have := h.cell hk
      rw [List.getD_eq_getElem?_getD, hy] at this
      simpa [IntE] using this
    | j + 1, hu => simp at hu
end
structure TabN (w : World) (N0 B : Nat) (R : Nat → Nat) (n S : Nat) (M : List (List Nat)) : Prop where
  top : w.rowIs B 26 n fun i => .slice (some ⟨R i, 0, none⟩) S S
  row : ∀ i, i < n → RowN w (R i) (M.getD i [])
  len : M.length = n
  wid : ∀ i, i < n → (M.getD i []).length = S
  inj : ∀ i j, i < n → j < n → R i = R j → i = j
  ne : ∀ i, i < n → R i ≠ B
  lowB : N0 ≤ B
  low : ∀ i, i < n → N0 ≤ R i
section
variable {w w' : World} {N0 B : Nat} {R : Nat → Nat} {n S : Nat} {M : List (List Nat)}
theorem TabN.same (h : TabN w N0 B R n S M) (e0 : w'.heap[B]? = w.heap[B]?) (e1 : ∀ i, i < n → w'.heap[R i]? = w.heap[R i]?) : TabN w' N0 B R n S M :=
  ⟨World.rowIs.of_block h.top e0, fun i hi => (h.row i hi).same (e1 i hi), h.len, h.wid, h.inj, h.ne, h.lowB, h.low⟩
theorem TabN.below (h : TabN w N0 B R n S M) (hb : Below w.heap.size w w') : TabN w' N0 B R n S M :=
  h.same (hb.block B (World.rowIs.lt h.top)) fun i hi => hb.block (R i) (h.row i hi).lt
theorem TabN.drew (h : TabN w N0 B R n S M) : TabN w.drew N0 B R n S M := h.same rfl fun _ _ => rfl
theorem TabN.other (h : TabN w N0 B R n S M) {c o : Nat} (h0 : B ≠ c) (h1 : ∀ i, i < n → R i ≠ c) (u : Value) : TabN (w.setCell ⟨c, o, none⟩ u) N0 B R n S M :=
  h.same (Below.heap_setCell w ⟨c, o, none⟩ u B h0) fun i hi => Below.heap_setCell w ⟨c, o, none⟩ u (R i) (h1 i hi)
theorem TabN.at_ (h : TabN w N0 B R n S M) {r s : Nat} (hr : r < n) (hs : s < S) : w.cell? ⟨B, r, none⟩ = some (.slice (some ⟨R r, 0, none⟩) S S) ∧ w.cell? ⟨R r, s, none⟩ = some (.int .i64 (((M.getD r []).getD s 0 : Nat) : Int)) ∧
    w.frozen? ⟨R r, s, none⟩ = false ∧ B < w.heap.size ∧ R r < w.heap.size :=
  ⟨World.rowIs.cell h.top hr, (h.row r hr).cell (by rw [h.wid r hr]; exact hs), (h.row r hr).frozen s, World.rowIs.lt h.top, (h.row r hr).lt⟩
theorem TabN.top_at (h : TabN w N0 B R n S M) {r : Nat} (hr : r < n) : w.cell? ⟨B, r, none⟩ = some (.slice (some ⟨R r, 0, none⟩) S S) ∧ B < w.heap.size := ⟨World.rowIs.cell h.top hr, World.rowIs.lt h.top⟩
theorem TabN.add (h : TabN w N0 B R n S M) {r s : Nat} (hr : r < n) (hs : s < S) (x : Nat) : TabN (w.setCell ⟨R r, s, none⟩ (.int .i64 ((((M.getD r []).getD s 0 + x : Nat)) : Int))) N0 B R n S (addM M r s x) := by
  have hrl : r < M.length := by rw [h.len]; exact hr
  refine ⟨World.rowIs.of_block h.top (Below.heap_setCell w ⟨R r, s, none⟩ _ B (fun e => h.ne r hr e.symm)), fun i hi => ?_, by rw [addM_len]; exact h.len, fun i hi => ?_, h.inj, h.ne, h.lowB, h.low⟩
  · rw [addM_get _ _ _ _ _ hrl]
    by_cases e : i = r
    · subst e
      rw [if_pos rfl]
      exact (h.row i hi).set (by rw [h.wid i hi]; exact hs) _
    · rw [if_neg e]
      exact (h.row i hi).other (fun e2 => e (h.inj i r hi hr e2)) _
  · rw [addM_get _ _ _ _ _ hrl]
    by_cases e : i = r
    · subst e; rw [if_pos rfl, addR_len]; exact h.wid i hi
    · rw [if_neg e]; exact h.wid i hi
end
structure TabK (w : World) (N0 B : Nat) (R : Nat → Nat) (n k S : Nat) : Prop where
  top : w.rowIs B 26 n fun i => if i < k then .slice (some ⟨R i, 0, none⟩) S S else .slice none 0 0
  row : ∀ i, i < k → RowN w (R i) (List.replicate S 0)
  inj : ∀ i j, i < k → j < k → R i = R j → i = j
  ne : ∀ i, i < k → R i ≠ B
  lowB : N0 ≤ B
  low : ∀ i, i < k → N0 ≤ R i
theorem TabK.done {w : World} {N0 B : Nat} {R : Nat → Nat} {n S : Nat} (h : TabK w N0 B R n n S) : TabN w N0 B R n S (List.replicate n (List.replicate S 0)) := by
  have e : ∀ i, i < n → (List.replicate n (List.replicate S 0)).getD i [] = List.replicate S 0 := fun i hi => by
    rw [List.getD_eq_getElem?_getD, List.getElem?_replicate_of_lt hi]; rfl
  exact ⟨h.top.congr fun i hi => by rw [if_pos hi], fun i hi => by rw [e i hi]; exact h.row i hi, by simp, fun i hi => by rw [e i hi]; simp, h.inj, h.ne, h.lowB, h.low⟩
theorem TabK.next {w w' : World} {N0 B : Nat} {R : Nat → Nat} {n k S b : Nat} (h : TabK w N0 B R n k S) (_hk : k < n) (hb : Below w.heap.size w w') (hr : RowN w' b (List.replicate S 0)) (hn : w.heap.size ≤ b) (hN : N0 ≤ w.heap.size) :
    TabK (w'.setCell ⟨B, k, none⟩ (.slice (some ⟨b, 0, none⟩) S S)) N0 B (fun i => if i = k then b else R i) n (k + 1) S := by
  have hB := World.rowIs.lt h.top
  refine ⟨?_, fun i hi => ?_, fun i j hi hj e => ?_, fun i hi => ?_, h.lowB, fun i hi => ?_⟩
  · have h1 : w'.rowIs B 26 n (fun i => if i < k then .slice (some ⟨R i, 0, none⟩) S S else .slice none 0 0) := World.rowIs.of_block h.top (hb.block B hB)
    refine (h1.set k (.slice (some ⟨b, 0, none⟩) S S)).congr fun i hi => ?_
    by_cases e : i = k
    · subst e; simp
    · simp only [if_neg e]
      by_cases g : i < k
      · rw [if_pos g, if_pos (by omega)]
      · rw [if_neg g, if_neg (by omega)]
  · by_cases e : i = k
    · simp only [e, if_true]; exact hr.other (by omega) _
    · simp only [if_neg e]
      have h2 := h.row i (by omega)
      exact (h2.same (hb.block _ h2.lt)).other (h.ne i (by omega)) _
  · by_cases e1 : i = k
    · by_cases e2 : j = k
      · omega
      · simp only [e1, if_true, if_neg e2] at e
        have := (h.row j (by omega)).lt; omega
    · by_cases e2 : j = k
      · simp only [e2, if_true, if_neg e1] at e
        have := (h.row i (by omega)).lt; omega
      · simp only [if_neg e1, if_neg e2] at e
        exact h.inj i j (by omega) (by omega) e
  · by_cases e : i = k
    · simp only [e, if_true]; omega
    · simp only [if_neg e]; exact h.ne i (by omega)
  · by_cases e : i = k
    · simp only [e, if_true]; omega
    · simp only [if_neg e]; exact h.low i (by omega)
theorem TabK.start {w : World} {N0 n S : Nat} (R : Nat → Nat) {B : Nat} (h : w.rowIs B 26 n fun _ => .slice none 0 0) (hN : N0 ≤ B) : TabK w N0 B R n 0 S :=
  ⟨h.congr fun i hi => by rw [if_neg (by omega)], fun i hi => absurd hi (by omega), fun i j hi => absurd hi (by omega), fun i hi => absurd hi (by omega), hN, fun i hi => absurd hi (by omega)⟩
theorem TabK.below {w w' : World} {N0 B : Nat} {R : Nat → Nat} {n k S : Nat} (h : TabK w N0 B R n k S) (hb : Below w.heap.size w w') : TabK w' N0 B R n k S :=
  ⟨World.rowIs.of_block h.top (hb.block B (World.rowIs.lt h.top)), fun i hi => (h.row i hi).same (hb.block _ (h.row i hi).lt), h.inj, h.ne, h.lowB, h.low⟩
theorem visPut_le (maps : List (List Int)) : ∀ (L : List Nat) (M : List (List Nat)) (s : Nat) (k : Nat), (∀ r t, (M.getD r []).getD t 0 ≤ k) → ∀ r t, ((visPut maps L M s).getD r []).getD t 0 ≤ k + L.length := by
  intro L
  induction L with
  | nil => intro M s k h; exact h
  | cons r L ih =>
    intro M s k h r' t'
    have e := ih (addM M r s 1) (stepM maps s r) (k + 1) (fun r2 t2 => by
      by_cases hr : r < M.length
      · rw [addM_get _ _ _ _ _ hr]
        by_cases e : r2 = r
        · rw [if_pos e]
          by_cases hs : s < (M.getD r []).length
          · by_cases e2 : t2 = s
            · subst e2
              unfold addR
              rw [List.getD_eq_getElem?_getD, List.getElem?_set_self hs]
              have := h r t2; show (M.getD r []).getD t2 0 + 1 ≤ _; omega
            · unfold addR
              rw [List.getD_eq_getElem?_getD, List.getElem?_set_ne (by omega), ← List.getD_eq_getElem?_getD]
              have := h r t2; omega
          · unfold addR
            rw [List.set_eq_of_length_le (by omega)]
            have := h r t2; omega
        · rw [if_neg e]; have := h r2 t2; omega
      · unfold addM
        rw [List.set_eq_of_length_le (by omega)]
        have := h r2 t2; omega) r' t'
    rw [visPut, List.length_cons]; omega
structure VJ (w0 : World) (N0 bs B : Nat) (R : Nat → Nat) (n S : Nat) (C : Nat → Prop) (st : Nat × List (List Nat)) (w : World) : Prop where
  wk : Wk (fun b => b < w0.heap.size ∧ b ≠ bs ∧ ∀ i, i < n → b ≠ R i) w0 w
  cell : w.cell? ⟨bs, 0, none⟩ = some (.int .i64 st.1)
  fr : w.frozen? ⟨bs, 0, none⟩ = false
  tab : TabN w N0 B R n S st.2
  nc : ¬ C bs
  nr : ∀ i, i < n → ¬ C (R i)
  lt : st.1 < S
theorem VJ.ext {w0 : World} {N0 bs B : Nat} {R : Nat → Nat} {n S : Nat} (hbs : bs < w0.heap.size) (hR : ∀ i, i < n → R i < w0.heap.size) : ∀ C st w w', VJ w0 N0 bs B R n S C st w → Below w.heap.size w w' → (∀ b, C b → b < w.heap.size) → VJ w0 N0 bs B R n S (ext C w.heap.size w'.heap.size) st w' := by
  intro C st w w' h hb hC
  have hsz := h.wk.size
  refine ⟨h.wk.trans (Wk.of_below hb fun k hk => by have := hk.1; omega), (hb.cell (p := ⟨bs, 0, none⟩) (by show bs < _; omega)).trans h.cell, (hb.frozen (p := ⟨bs, 0, none⟩) (by show bs < _; omega)).trans h.fr, h.tab.below hb, ?_, ?_, h.lt⟩
  · intro h'
    rcases h' with h' | h'
    · exact h.nc h'
    · omega
  · intro i hi h'
    rcases h' with h' | h'
    · exact h.nr i hi h'
    · have := hR i hi; omega
def visStepP (maps : List (List Int)) (st : Nat × List (List Nat)) (r : Nat) : Nat × List (List Nat) := (stepM maps st.1 r, addM st.2 r st.1 1)
theorem visStepP_fold (maps : List (List Int)) : ∀ (L : List Nat) (s : Nat) (M : List (List Nat)), L.foldl (visStepP maps) (s, M) = (L.foldl (stepM maps) s, visPut maps L M s) := by
  intro L
  induction L with
  | nil => intro s M; rfl
  | cons r L ih => intro s M; rw [List.foldl_cons, List.foldl_cons, visPut, ← ih]; rfl
def VOk (st : Nat × List (List Nat)) (r : Nat) : Prop := (st.2.getD r []).getD st.1 0 ≤ 1000000000000000
set_option maxRecDepth 100000 in
set_option maxHeartbeats 1000000 in
theorem visCl_any (w0 : World) (br bo bs B N0 : Nat) (R : Nat → Nat) (n S : Nat) (vM : Value) (maps : List (List Int)) (hbr : br < w0.heap.size ∧ br ≠ bs ∧ ∀ i, i < n → br ≠ R i) (hbo : bo < w0.heap.size ∧ bo ≠ bs ∧ ∀ i, i < n → bo ≠ R i)
    (hbs : bs < w0.heap.size) (hR : ∀ i, i < n → R i < w0.heap.size ∧ R i ≠ bs) (hB : B ≠ bs) (hn : n ≤ 1099511627776)
    (hm : w0.cell? ⟨br, 6, none⟩ = some vM) (ho : w0.cell? ⟨bo, 0, none⟩ = some (.slice (some ⟨B, 0, none⟩) n n)) (hM : SlS (SliceE IntE) w0 (fun b => b < w0.heap.size ∧ b ≠ bs ∧ ∀ i, i < n → b ≠ R i) vM maps) (hok : RowsOk S maps) (hml : maps.length = n) :
    ∀ C st (r : Nat) (w : World), VJ w0 N0 bs B R n S C st w → VOk st r → r < n → (∀ b, C b → b < w.heap.size) → Calls Try.prog 123 (#[.int .i64 r] ++ #[.pointer (some ⟨bo, 0, none⟩), .pointer (some ⟨bs, 0, none⟩), .pointer (some ⟨br, 0, none⟩)]) w (TakePost (VJ w0 N0 bs B R n S) C (visStepP maps st r) w) := by
  intro C st r w hJ hO hr hC
  have HJ := Lib.hid hJ
  have HC := Lib.hid hC
  obtain ⟨s, M⟩ := st
  have hlt : s < S := hJ.lt
  obtain ⟨A, c, rfl, _, hmx, hrow⟩ := (hM.keep hJ.wk.keep)
  obtain ⟨b, o, rfl, hbb, hcells⟩ := cells2 hrow (by omega)
  have r1 := hok r (by omega)
  obtain ⟨b', o', c', d1, d2, d3⟩ := hcells r s (by omega) (by rw [r1.1]; exact hlt)
  rw [r1.1] at d1
  obtain ⟨m, hm1⟩ : ∃ m : Nat, (maps.getD r []).getD s 0 = m := ⟨((maps.getD r []).getD s 0).toNat, by have := (r1.2 s hlt).1; omega⟩
  have hmn : m < S := by have := (r1.2 s hlt).2; omega
  rw [hm1] at d3
  have hst : stepM maps s r = m := by rw [stepM, hm1]; rfl
  have Hst := Lib.hid hst
  have x6 := hJ.wk.cell (k := br) (o := 6) hbr hm
  have x0 := hJ.wk.cell (k := bo) (o := 0) hbo ho
  have xs : w.cell? ⟨bs, 0, none⟩ = some (.int .i64 (s : Int)) := hJ.cell
  have xf := hJ.fr
  have hsz := hJ.wk.size
  have y1 : bs < w.heap.size := by omega
  have y2 : br < w.heap.size := by omega
  have y3 : bo < w.heap.size := by omega
  have y4 : b < w.heap.size := by have := hbb.1; omega
  have y5 : b' < w.heap.size := by have := d2.1; omega
  have i1 : (r : Int) < (maps.length : Int) := by omega
  have i2 : (s : Int) < (S : Int) := by omega
  have i3 : (r : Int) < (n : Int) := by omega
  obtain ⟨t1, t2, t3, t4, t5⟩ := hJ.tab.at_ hr hlt
  have hO' : (M.getD r []).getD s 0 ≤ 1000000000000000 := hO
  obtain ⟨x, hx⟩ : ∃ x, (M.getD r []).getD s 0 = x := ⟨_, rfl⟩
  have Hx := Lib.hid hx
  have t2' : w.cell? ⟨R r, s, none⟩ = some (.int .i64 (x : Int)) := by have := t2; simp only at this; rw [hx] at this; exact this
  have hwr : IntKind.i64.wrap ((x : Int) + 1) = (x : Int) + 1 := IntWalk.i64_in _ (by omega)
  have n1 : ¬ (br = R r) := fun e => hbr.2.2 r hr e
  have n2 : ¬ (bs = R r) := fun e => (hR r hr).2 e.symm
  have n3 : ¬ (b = R r) := fun e => hbb.2.2 r hr e
  have n4 : ¬ (b' = R r) := fun e => d2.2.2 r hr e
  have g6 := fun v => show (w.setCell ⟨R r, s, none⟩ v).drew.cell? ⟨br, 6, none⟩ = _ from (World.cell?_of_block (a := ⟨br, 6, none⟩) (Below.heap_setCell w ⟨R r, s, none⟩ v br n1)).trans x6
  have gs := fun v => show (w.setCell ⟨R r, s, none⟩ v).drew.cell? ⟨bs, 0, none⟩ = _ from (World.cell?_of_block (a := ⟨bs, 0, none⟩) (Below.heap_setCell w ⟨R r, s, none⟩ v bs n2)).trans xs
  have gb := fun v => show (w.setCell ⟨R r, s, none⟩ v).drew.cell? ⟨b, o + r, none⟩ = _ from (World.cell?_of_block (a := ⟨b, o + r, none⟩) (Below.heap_setCell w ⟨R r, s, none⟩ v b n3)).trans d1
  have gb' := fun v => show (w.setCell ⟨R r, s, none⟩ v).drew.cell? ⟨b', o' + s, none⟩ = _ from (World.cell?_of_block (a := ⟨b', o' + s, none⟩) (Below.heap_setCell w ⟨R r, s, none⟩ v b' n4)).trans d3
  have gf := fun v => show (w.setCell ⟨R r, s, none⟩ v).drew.frozen? ⟨bs, 0, none⟩ = _ from (World.frozen?_of_block (a := ⟨bs, 0, none⟩) (Below.heap_setCell w ⟨R r, s, none⟩ v bs n2)).trans xf
  have G6 := Lib.hid g6
  have Gs := Lib.hid gs
  have Gb := Lib.hid gb
  have Gb' := Lib.hid gb'
  have Gf := Lib.hid gf
  unfold maxLen at hmx
  have Hnr : Hid (∀ i, i < n → R i ≠ bs) := fun i hi => (hR i hi).2
  have HBs := Lib.hid hB
  have Hr := Lib.hid hr
  have Hlt := Lib.hid hlt
  clear hcells r1 hm1 hst hrow hM hm hJ hok hC hx hO hO' t2 d2 hbb n1 n3 n4 g6 gs gb gb' gf hR hbr hbo hB
  show Calls Try.prog 123 #[.int .i64 r, .pointer (some ⟨bo, 0, none⟩), .pointer (some ⟨bs, 0, none⟩), .pointer (some ⟨br, 0, none⟩)] w _
  go_enter Try.func123, Try.ntmps123
  go_wp2_with fail
  go_still_tail 9, (by kernel_rfl)
  change wpList _ _ _ _ _ w.drew
  go_wp2_with fail
  have e6 := G6.out (.int .i64 ((x : Int) + 1))
  have es := Gs.out (.int .i64 ((x : Int) + 1))
  have eb := Gb.out (.int .i64 ((x : Int) + 1))
  have eb' := Gb'.out (.int .i64 ((x : Int) + 1))
  have ef := Gf.out (.int .i64 ((x : Int) + 1))
  clear x6 xs d1 d3 xf t1 t2' t3 x0
  have T1 := Lib.hid (HJ.out.tab.add Hr.out Hlt.out 1)
  rw [show (((M.getD r []).getD s 0 + 1 : Nat) : Int) = (x : Int) + 1 by rw [Hx.out]; rfl] at T1
  replace T1 := Lib.hid T1.out.drew
  have W1 : Hid (Wk (fun b => b < w0.heap.size ∧ b ≠ bs ∧ ∀ i, i < n → b ≠ R i) w0 (w.setCell ⟨R r, s, none⟩ (.int .i64 ((x : Int) + 1))).drew) := HJ.out.wk.trans (Wk.set fun h => h.2.2 r Hr.out rfl)
  have W2 : Hid (Wk C w (w.setCell ⟨R r, s, none⟩ (.int .i64 ((x : Int) + 1))).drew) := Wk.set (HJ.out.nr r Hr.out)
  have z0 : (w.setCell ⟨R r, s, none⟩ (.int .i64 ((x : Int) + 1))).drew.heap.size = w.heap.size := by simp
  clear Gf G6 Gs Gb Gb'
  generalize (w.setCell ⟨R r, s, none⟩ (.int .i64 ((x : Int) + 1))).drew = w1 at *
  have v1 : bs < w1.heap.size := by omega
  have v2 : br < w1.heap.size := by omega
  have v4 : b < w1.heap.size := by omega
  have v5 : b' < w1.heap.size := by omega
  clear y1 y2 y3 y4 y5 t4 t5 hwr
  go_still_tail 8, (by kernel_rfl)
  change wpList _ _ _ _ _ w1.drew
  go_wp2_with fail
  go_end0
  have nC : ¬ C bs := HJ.out.nc
  refine ⟨rfl, C, fun _ h => h, ?_, ⟨?_, ?_, ?_, ?_, HJ.out.nc, HJ.out.nr, by show stepM maps s r < S; rw [Hst.out]; exact hmn⟩, ?_⟩
  · intro b h
    have := HC.out b h
    simp [World.setCell]; omega
  · exact W1.out.trans (Wk.set (C := fun b => b < w0.heap.size ∧ b ≠ bs ∧ ∀ i, i < n → b ≠ R i) (w := w1) (b := bs) (o := 0) (v := .int .i64 (m : Int)) fun h => h.2.1 rfl)
  · show _ = some (Value.int .i64 ((stepM maps s r : Nat) : Int))
    rw [Hst.out]; simp [go_sem, es]
  · simp [go_sem, ef]
  · exact (T1.out.other (c := bs) (o := 0) (by exact HBs.out) (fun i hi => Hnr.out i hi) (.int .i64 (m : Int))).drew
  · exact W2.out.trans (Wk.set nC)
end Go.Proofs.Ytejgbfgocaggfaa
