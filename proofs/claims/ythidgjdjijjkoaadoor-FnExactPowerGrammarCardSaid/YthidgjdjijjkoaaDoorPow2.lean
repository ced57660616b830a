import Derived.Test.YthidgjdjijjkoaaDoorJoin3
import Derived.Test.YthidgjdjijjkoaaDoorPow1
import Derived.Lib.OthersKept
import Derived.Deep.CutRange
import Derived.Deep.DeepCutAuto
namespace Go.Proofs.YthidgjdjijjkoaaDoor
open Go.RowKit

/-- An iterator over a string lies in a block. -/
def Iter (W : World) (K : Nat) (s : ByteArray) (pos : Nat) : Prop := W.heap[K]? = some (.stringIter s pos)
theorem Iter.lt {W : World} {K : Nat} {s : ByteArray} {pos : Nat} (h : Iter W K s pos) : K < W.heap.size := (Array.getElem?_eq_some_iff.1 h).1
theorem Iter.up {w w' : World} {K N : Nat} {s : ByteArray} {pos : Nat} (h : Iter w K s pos) (hb : Below N w w') (hlt : K < N) : Iter w' K s pos := (hb.block K hlt).trans h
theorem Iter.not_row {w : World} {K : Nat} {s : ByteArray} {pos : Nat} (h : Iter w K s pos) {base e sz n : Nat} {v : Value} {xs : List Value} (own : w.ownsRow base e sz v n xs) : some K ≠ v.ownBlock := by
  intro he
  rcases own.2 with ⟨hn, _⟩ | ⟨g, cap, cur, rfl, hb, hgg, rest⟩
  · rw [hn] at he; cases he
  · have : g = K := by
      have : some g = some K := he.symm ▸ rfl
      injection this
    subst this
    rw [h] at hgg; cases hgg
theorem Iter.grown {w w' : World} {K base e sz n : Nat} {s : ByteArray} {pos : Nat} {v : Value} {xs : List Value} {o : Obj} (h : Iter w K s pos) (own : w.ownsRow base e sz v n xs) (hg : (w.alloc o).grownBy w' v.ownBlock) : Iter w' K s pos := by
  have h1 : Iter (w.alloc o) K s pos := h.up ((Below.refl w.heap.size w).alloc (Nat.le_refl _) o) h.lt
  exact (hg.block K h1.lt (h.not_row own)).trans h1
theorem Iter.set {w : World} {K B : Nat} {s : ByteArray} {pos : Nat} (h : Iter w K s pos) (hne : K ≠ B) (v : Value) : Iter (w.setCell ⟨B, 0, none⟩ v) K s pos := (heap_setCell_other w ⟨B, 0, none⟩ K v hne).trans h

/-- One digit of the number of times. -/
def powStep (root : Int) (L : List GRule) (d : UInt8) : List GRule := L ++ [pairR ((L.length : Int) - 1) ((L.length : Int) - 1)] ++ (if d = 49 then [pairR (L.length : Int) root] else [])
def powG (xs : List GRule) (n : Nat) : List GRule := if n = 0 ∨ xs.length = 0 then [] else (binL n).tail.foldl (powStep ((xs.length : Int) - 1)) xs
theorem binL_len (n : Nat) : ∀ k, n < 2 ^ k → 1 ≤ k → (binL n).length ≤ k := by
  induction n using Nat.strongRecOn with
  | ind n ih =>
    intro k hk h1
    by_cases c : n < 2
    · rw [binL_lt c]; simpa using h1
    · rw [binL_ge c, List.length_append]
      have hk2 : 2 ≤ k := by
        rcases Nat.lt_or_ge k 2 with h | h
        · have : k = 1 := by omega
          subst this; simp at hk; omega
        · exact h
      obtain ⟨j, rfl⟩ : ∃ j, k = j + 1 := ⟨k - 1, by omega⟩
      rw [Nat.pow_succ] at hk
      have := ih (n / 2) (by omega) j (by omega) (by omega)
      simp; omega
theorem binL_dig (n : Nat) : ∀ d ∈ binL n, d = 48 ∨ d = 49 := by
  induction n using Nat.strongRecOn with
  | ind n ih =>
    by_cases c : n < 2
    · rw [binL_lt c]
      intro d hd
      have : d = UInt8.ofNat (48 + n) := by simpa using hd
      have h2 : n = 0 ∨ n = 1 := by omega
      rcases h2 with rfl | rfl
      · left; rw [this]; rfl
      · right; rw [this]; rfl
    · rw [binL_ge c]
      intro d hd
      rcases List.mem_append.1 hd with h | h
      · exact ih (n / 2) (by omega) d h
      · have : d = UInt8.ofNat (48 + n % 2) := by simpa using h
        have h2 : n % 2 = 0 ∨ n % 2 = 1 := by omega
        rcases h2 with e | e
        · left; rw [this, e]; rfl
        · right; rw [this, e]; rfl
theorem binL_pos (n : Nat) : 1 ≤ (binL n).length := by
  by_cases c : n < 2
  · rw [binL_lt c]; simp
  · rw [binL_ge c]; simp
theorem powStep_len (root : Int) (L : List GRule) (d : UInt8) : (powStep root L d).length ≤ L.length + 2 := by
  unfold powStep; split <;> simp
theorem powFold_len (root : Int) : ∀ (ds : List UInt8) (L : List GRule), (ds.foldl (powStep root) L).length ≤ L.length + 2 * ds.length := by
  intro ds
  induction ds with
  | nil => intro L; simp
  | cons d ds ih =>
    intro L
    have h1 := ih (powStep root L d)
    have h2 := powStep_len root L d
    simp only [List.foldl_cons, List.length_cons]
    omega

theorem SlS.drew1 {α : Type} {E : Enc α} {w : World} {v : Value} {xs : List α} (h : Sl E w w.heap.size v xs) : Sl E w.drew w.drew.heap.size v xs := h.keep fun _ _ => rfl
set_option maxRecDepth 100000 in
set_option maxHeartbeats 4000000 in
theorem power_any (v : Value) (xs : List GRule) (n : Nat) (w : World) (h : Sl RuleE w w.heap.size v xs) (hn : xs.length ≤ 1048576) (ht : n < 1152921504606846976) (htab : Lib.TabIs Tryd.prog w "math/bits.deBruijn64tab" .u8 deB64) :
    Calls Tryd.prog 31 #[.agg #[v], .int .i64 n] w (GOwn (powG xs n) w) := by
  have h1 := fun o o' => (h.below (((Below.refl w.heap.size w).alloc (Nat.le_refl _) o).alloc (by simp) o')).le (B' := ((w.alloc o).alloc o').heap.size) (by simp; omega)
  have H1 := Lib.hid h1
  have HT := Lib.hid htab
  clear h1 htab
  obtain ⟨A, c, rfl, hc, hm, hrow⟩ := h
  clear hm hrow
  by_cases h0 : n = 0 ∨ xs.length = 0
  · have hg : powG xs n = [] := by rw [powG, if_pos h0]
    have Hg := Lib.hid hg
    clear hg
    by_cases hz : n = 0
    · subst hz
      clear h0
      go_enter Tryd.func31, Tryd.ntmps31
      go_wp2_with fail
      refine bodyPost_ret (v := .agg #[.slice none 0 0]) (by simp [results, Tryd.results31, go_sem]) rfl ⟨(by repeat (first | exact Below.refl _ _ | (refine Below.alloc ?_ (by first | omega | (simp; done) | (simp; omega)) _) | refine below_drewN ?_ _ | refine Below.drew ?_)), _, by rw [Hg.out]; exact World.ownsRow_nil _ _ _ _, rfl⟩
    · have hx : xs.length = 0 := by omega
      have g0 : ((n : Int) == 0) = false := by rw [beq_eq_false_iff_ne]; omega
      have g1 : ((xs.length : Int) == 0) = true := by simp [hx]
      clear h0 hx
      go_enter Tryd.func31, Tryd.ntmps31
      go_wp2_with fail
      refine bodyPost_ret (v := .agg #[.slice none 0 0]) (by simp [results, Tryd.results31, go_sem]) rfl ⟨(by repeat (first | exact Below.refl _ _ | (refine Below.alloc ?_ (by first | omega | (simp; done) | (simp; omega)) _) | refine below_drewN ?_ _ | refine Below.drew ?_)), _, by rw [Hg.out]; exact World.ownsRow_nil _ _ _ _, rfl⟩
  · have hg : powG xs n = (binL n).tail.foldl (powStep ((xs.length : Int) - 1)) xs := by rw [powG, if_neg h0]
    have Hg := Lib.hid hg
    have g0 : ((n : Int) == 0) = false := by rw [beq_eq_false_iff_ne]; omega
    have g1 : ((xs.length : Int) == 0) = false := by rw [beq_eq_false_iff_ne]; omega
    have hwx : IntKind.i64.wrap ((xs.length : Int) - 1) = (xs.length : Int) - 1 := IntWalk.i64_in _ (by omega)
    clear hg
    go_enter Tryd.func31, Tryd.ntmps31
    have hW0 : ∃ w0, w0 = (w.alloc (Obj.cells #[Value.slice A xs.length c] 34)).alloc (Obj.cells #[Value.slice none 0 0] 34) := ⟨_, rfl⟩
    obtain ⟨w0, hw0⟩ := hW0
    have HW0 := Lib.hid hw0
    have hs0 : w0.heap.size = w.heap.size + 2 := by rw [hw0]; simp
    have hB0 : Below w.heap.size w w0 := by rw [hw0]; exact (by repeat (first | exact Below.refl _ _ | (refine Below.alloc ?_ (by first | omega | (simp; done) | (simp; omega)) _) | refine below_drewN ?_ _ | refine Below.drew ?_))
    have hS0 : Sl RuleE w0 w0.heap.size (Value.slice A xs.length c) xs := by rw [hw0]; exact H1.out _ _
    have x0 : w0.cell? ⟨w.heap.size, 0, none⟩ = some (.slice A xs.length c) := by rw [hw0]; simp [go_sem]
    have y0 : w0.cell? ⟨w.heap.size + 1, 0, none⟩ = some (.slice none 0 0) := by rw [hw0]; simp [go_sem]
    have f0 : w0.frozen? ⟨w.heap.size + 1, 0, none⟩ = false := by rw [hw0]; simp [go_sem]
    have X0 := Lib.hid x0
    have Y0 := Lib.hid y0
    have F0 := Lib.hid f0
    have HB0 := Lib.hid hB0
    have cB : Calls Tryd.prog 40 #[.agg #[.slice A xs.length c]] w0.drew fun e w' => ∃ A1 c1, e = .returned (.agg #[.slice A1 xs.length c1]) ∧ OwnRules w' w0.heap.size (.slice A1 xs.length c1) xs ∧ Below w0.heap.size w0 w' :=
      (copied_any _ xs w0.drew (hS0.up (Below.drew (Below.refl _ _))) (by omega)).mono fun e w' ⟨v', h1, h2, h3⟩ => by
        obtain ⟨A1, c1, rfl, _⟩ := own_nil h2
        exact ⟨A1, c1, h1, h2, (Below.drew (Below.refl w0.heap.size w0)).trans h3⟩
    have cA : ∀ o, Calls Tryd.prog 40 #[.agg #[.slice A xs.length c]] (w0.alloc o).drew fun e w' => (∃ A1 c1, e = .returned (.agg #[.slice A1 xs.length c1]) ∧ OwnRules w' w0.heap.size (.slice A1 xs.length c1) xs ∧ Below w0.heap.size w0 w') ∧ w'.heap[w0.heap.size]? = some o :=
      fun o => (copied_any _ xs (w0.alloc o).drew ((hS0.up ((Below.refl _ _).alloc (Nat.le_refl _) o)).drew1) (by omega)).mono fun e w' ⟨v', h1, h2, h3⟩ => by
        obtain ⟨A1, c1, rfl, _⟩ := own_nil h2
        have hsz : w0.heap.size < (w0.alloc o).drew.heap.size := by show w0.heap.size < (w0.alloc o).heap.size; simp
        exact ⟨⟨A1, c1, h1, ownsRow_more h2 (Nat.le_of_lt hsz), (Below.drew ((Below.refl w0.heap.size w0).alloc (Nat.le_refl _) o)).trans (h3.mono (Nat.le_of_lt hsz))⟩, (h3.block w0.heap.size hsz).trans (alloc_heap_last _ _)⟩
    have CA := Lib.hid cA
    have CB := Lib.hid cB
    have Hs0 := Lib.hid hs0
    clear cA cB hB0 hS0 hw0 x0 y0 f0 hs0
    go_upto_region 3 with fail
    rw [← HW0.out]
    clear HW0
    go_cut [5, 6] (fun p q wx => ∃ (K : Nat) (vo : Value), p = .pointer (some ⟨K, 0, none⟩) ∧ q = .int .i64 ((xs.length : Int) - 1) ∧ w0.heap.size ≤ K ∧ Boxed wx K 34 vo ∧ OwnRules wx w0.heap.size vo xs ∧ Below w0.heap.size w0 wx)
    case first =>
      have x0 := X0.out
      have z0 : w.heap.size < w0.heap.size := by have := Hs0.out; omega
      go_region_law (go_simp; go_at_call 40; first
          | ((with_reducible refine (CA.out _).mono ?_); rintro e w1 ⟨⟨A1, c1, rfl, own1, hb1⟩, bx1⟩; have bxB : Boxed w1 w0.heap.size 34 (.slice none 0 0) := bx1; have hcb := bxB.cell; have hfb := bxB.frozen; have hlb := bxB.lt; have xx1 := (hb1.cell (p := ⟨w.heap.size, 0, none⟩) z0).trans X0.out; have zz1 := Nat.lt_of_lt_of_le z0 hb1.size)
          | ((with_reducible refine CB.out.mono ?_); rintro e w1 ⟨A1, c1, rfl, own1, hb1⟩; have xx1 := (hb1.cell (p := ⟨w.heap.size, 0, none⟩) z0).trans X0.out; have zz1 := Nat.lt_of_lt_of_le z0 hb1.size))
      all_goals
        go_wp2_with fail
        go_meet
        first
          | exact ⟨_, _, rfl, rfl, hb1.size, Boxed.new _ _ _, own1.alloc _, hb1.alloc hb1.size _⟩
          | exact ⟨_, _, rfl, rfl, Nat.le_refl _, Boxed.set _ bxB, ownsRow_setCell_other (a := ⟨w0.heap.size, 0, none⟩) own1 (bxB.not_row (by decide) own1).symm _, hb1.setCell (Nat.le_refl _) _⟩
    case rest =>
      revert hcut
      generalize wc = w1
      intro hcut
      obtain ⟨K, vo, rfl, rfl, hK, bx1, own1, hb1⟩ := hcut
      have hKl := bx1.lt
      have hxt := binL_len n 60 ht (by omega)
      have HT1 := Lib.hid (tab_below HT.out (HB0.out.trans (hb1.mono HB0.out.size)))
      go_wp2_with fail
      refine (formatInt_two n ht _ HT1.out).mono ?_
      rintro e w2 ⟨rfl, hb2⟩
      have bx2 := Boxed.up bx1 hb2 hKl
      have own2 : OwnRules w2 w0.heap.size vo xs := OwnRules.below own1 hb2
      have B2 := Lib.hid (hb1.trans (hb2.mono hb1.size))
      clear hb1 hb2 bx1 own1
      obtain ⟨BL, hBL⟩ : ∃ BL, binL n = BL := ⟨_, rfl⟩
      have hB1 : 1 ≤ BL.length := by rw [← hBL]; exact binL_pos n
      have hB60 : BL.length ≤ 60 := by rw [← hBL]; exact hxt
      have hdig : ∀ d ∈ BL, d = 48 ∨ d = 49 := by rw [← hBL]; exact binL_dig n
      have HBL := Lib.hid hBL
      rw [hBL]
      clear hBL
      obtain ⟨d0, ds, rfl⟩ : ∃ d0 ds, BL = d0 :: ds := by
        cases BL with
        | nil => simp at hB1
        | cons a l => exact ⟨a, l, rfl⟩
      have Hdig := Lib.hid hdig
      clear hdig hxt
      go_wp2_with fail
      have hex : (⟨(d0 :: ds).toArray⟩ : ByteArray).extract 1 (ds.length + 1) = ⟨ds.toArray⟩ := by
        apply ByteArray.ext
        simp [ByteArray.data_extract]
      rw [hex]
      clear hex
      have hit : Iter (w2.iter ⟨ds.toArray⟩ 0) w2.heap.size ⟨ds.toArray⟩ 0 := World.iter_heap _ _ _
      have hb3 : Below w2.heap.size w2 (w2.iter ⟨ds.toArray⟩ 0) := (Below.refl _ _).alloc (Nat.le_refl _) _
      have bx3 := Boxed.up bx2 hb3 bx2.lt
      have own3 : OwnRules (w2.iter ⟨ds.toArray⟩ 0) w0.heap.size vo xs := OwnRules.below own2 hb3
      have hK2 : K < w2.heap.size := bx2.lt
      have B3 := Lib.hid (B2.out.trans (hb3.mono B2.out.size))
      have hw02 : w0.heap.size ≤ w2.heap.size := B2.out.size
      clear hb3 bx2 own2
      revert hit bx3 own3 B3
      generalize w2.iter ⟨ds.toArray⟩ 0 = w3
      intro hit bx3 own3 B3
      obtain ⟨I, hI⟩ : ∃ I, w2.heap.size = I := ⟨_, rfl⟩
      rw [hI] at hit hK2 hw02
      rw [hI]
      clear hI
      have hdl : ds.length ≤ 60 := by simp at hB60; omega
      go_loopw [9] (fun q wr => ∃ (k : Nat) (vo : Value), k ≤ ds.length ∧ Iter wr I ⟨ds.toArray⟩ k ∧ Boxed wr K 34 vo ∧ OwnRules wr w0.heap.size vo ((ds.take k).foldl (powStep ((xs.length : Int) - 1)) xs) ∧ Below w0.heap.size w0 wr) (fun _ wr => ds.length - (match wr.heap[I]? with | some (.stringIter _ p) => p | _ => 0))
      case atStart => exact ⟨0, vo, Nat.zero_le _, hit, bx3, by simpa using own3, B3.out⟩
      case round =>
        obtain ⟨k, vo, hk, hit, hbox, hown, hb⟩ := hrel
        have Hb := Lib.hid hb
        have Hown := Lib.hid hown
        have Hbox := Lib.hid hbox
        have Hit := Lib.hid hit
        have hll := powFold_len ((xs.length : Int) - 1) (ds.take k) xs
        obtain ⟨L, hL⟩ : ∃ L, (ds.take k).foldl (powStep ((xs.length : Int) - 1)) xs = L := ⟨_, rfl⟩
        have HL := Lib.hid hL
        have hlen : L.length ≤ 2000000 := by rw [← hL]; simp at hll; omega
        rw [hL] at Hown
        clear hb hown hbox hit hll hL
        by_cases hlt : k < ds.length
        · have Hlt := Lib.hid hlt
          have hsz : k < (⟨ds.toArray⟩ : ByteArray).size := by show k < ds.toArray.size; simpa using hlt
          have hdk : (⟨ds.toArray⟩ : ByteArray)[k]'hsz = ds[k] := rfl
          have hd := Hdig.out ds[k] (by simp)
          have hnx := fun ty => Lib.run_next_ascii_at (P := Tryd.prog) wr I ⟨ds.toArray⟩ k ty Hit.out hsz (by rw [hdk]; rcases hd with h | h <;> rw [h] <;> decide)
          rw [hdk] at hnx
          have hii := Lib.iterAt_heap wr I ⟨ds.toArray⟩ k (k + 1) Hit.out
          have hio := fun j hj => Lib.iterAt_other wr I j ⟨ds.toArray⟩ (k + 1) hj
          have his := Lib.iterAt_size wr I ⟨ds.toArray⟩ (k + 1)
          have hbi := Lib.below_iterAt Hb.out (k := I) hw02 ⟨ds.toArray⟩ (k + 1)
          obtain ⟨wi, hwi⟩ : ∃ wi, wr.iterAt I ⟨ds.toArray⟩ (k + 1) = wi := ⟨_, rfl⟩
          simp only [hwi] at hnx hii hio his hbi
          have Bi := Lib.hid hbi
          have Iti := Lib.hid (show Iter wi I ⟨ds.toArray⟩ (k + 1) from hii)
          have Bxi := Lib.hid (show Boxed wi K 34 vo from (hio K (by omega)).trans Hbox.out)
          have Owi := Lib.hid (show OwnRules wi w0.heap.size vo L from own_keep Hown.out fun g hg => hio g fun e => by
            have := Hit.out.not_row Hown.out
            rw [hg, e] at this; exact this rfl)
          obtain ⟨D, hD⟩ : ∃ D, ds[k] = D := ⟨_, rfl⟩
          rw [hD] at hnx hd
          have HD := Lib.hid hD
          obtain ⟨Ao, co, rfl, _⟩ := own_nil Owi.out
          have bxc := Bxi.out.cell
          have bxf := Bxi.out.frozen
          clear hwi hii hio his hbi hdk hD
          have hw1 : IntKind.i64.wrap ((L.length : Int) - 1) = (L.length : Int) - 1 := IntWalk.i64_in _ (by omega)
          have Hll : Hid (L.length ≤ 1099511627775) := by rw [Hid]; omega
          have Hw0 := Lib.hid (show w0.heap.size ≤ wi.heap.size from Bi.out.size)
          have HKw := Lib.hid (show K < wi.heap.size from Bxi.out.lt)
          have HIw := Lib.hid (show I < wi.heap.size from Iti.out.lt)
          have Hlen := Lib.hid hlen
          clear hlen
          go_upto_region 8 with fail
          go_cut [9] from 29 to 54 (fun q wx => q = .int .i64 L.length ∧ ∃ vo : Value, Iter wx I ⟨ds.toArray⟩ (k + 1) ∧ Boxed wx K 34 vo ∧ OwnRules wx w0.heap.size vo (L ++ [pairR ((L.length : Int) - 1) ((L.length : Int) - 1)]) ∧ Below w0.heap.size w0 wx)
          case first =>
            go_region_law (first
              | (refine step_push_rule (base := w0.heap.size) (by rfl) _ _ (by rfl) (by rfl) (by first | rfl | simp) rfl (OwnRules.below Owi.out.drew hb2) Hll hs2 ?_; intro v3 w3 own3 hg3 hb3; have bx4 : Boxed w3 K 34 _ := Boxed.grown (Boxed.up (Boxed.mk' Bxi.out) hb2 HKw.out) (by decide) (OwnRules.below Owi.out.drew hb2) hg3; have it4 : Iter w3 I ⟨ds.toArray⟩ (k + 1) := Iter.grown (Iter.up (w := wi.drew) Iti.out hb2 HIw.out) (OwnRules.below Owi.out.drew hb2) hg3; obtain ⟨A3, c3, rfl, _⟩ := own_nil own3; have hcb3 := bx4.cell; have hfb3 := bx4.frozen; have hlb3 := bx4.lt)
              | (go_simp; go_at_call 41; refine (pairInt_any _ _ _).mono ?_; rintro e w4 ⟨rfl, hb2⟩; have bx2 := Boxed.up (Boxed.mk' Bxi.out) hb2 HKw.out; have hcb2 := bx2.cell; have hfb2 := bx2.frozen; have hlb2 := bx2.lt; have hs2 : w0.heap.size ≤ w4.heap.size := Nat.le_trans Hw0.out hb2.size))
            all_goals
              go_wp2_with fail
              go_meet
              try rw [hw1] at own3
              have e9 : (L ++ [pairR ((L.length : Int) - 1) ((L.length : Int) - 1)]).length = L.length + 1 := by simp
              have own9 : OwnRules w3 w0.heap.size (.slice A3 (L.length + 1) c3) (L ++ [pairR ((L.length : Int) - 1) ((L.length : Int) - 1)]) := by rw [← e9]; exact own3
              refine ⟨rfl, _, it4.set (by omega) _, Boxed.set _ bx4, ownsRow_setCell_other (a := ⟨K, 0, none⟩) own9 (bx4.not_row (by decide) own9).symm _, ?_⟩
              exact ((((Below.drew Bi.out).trans (hb2.mono Hw0.out)).alloc hs2 _).trans hb3).setCell hK _
          case rest =>
            revert hcut
            generalize wc = w5
            intro hcut
            obtain ⟨rfl, vo5, it5, bx5, own5, b5⟩ := hcut
            have It5 := Lib.hid it5
            have Bx5 := Lib.hid bx5
            have B5 := Lib.hid b5
            obtain ⟨M, hM⟩ : ∃ M, L ++ [pairR ((L.length : Int) - 1) ((L.length : Int) - 1)] = M := ⟨_, rfl⟩
            rw [hM] at own5
            have hMl : M.length = L.length + 1 := by rw [← hM]; simp
            have HM := Lib.hid hM
            have Ow5 := Lib.hid own5
            obtain ⟨A5, c5, rfl, _⟩ := own_nil own5
            have bxc5 := bx5.cell
            have bxf5 := bx5.frozen
            clear hM it5 bx5 b5 own5
            have Hstep : Hid ((ds.take (k + 1)).foldl (powStep ((xs.length : Int) - 1)) xs = powStep ((xs.length : Int) - 1) L D) := by
              rw [Hid, List.take_add_one, List.getElem?_eq_getElem hlt, List.foldl_append, HL.out, HD.out]; rfl
            rcases hd with rfl | rfl
            · go_wp2_with fail
              have e : powStep ((xs.length : Int) - 1) L 48 = M := by rw [← HM.out]; simp [powStep]
              refine ⟨⟨k + 1, _, by omega, It5.out, Bx5.out, ?_, B5.out⟩, ?_⟩
              · rw [Hstep.out, e]; exact Ow5.out
              · have i1 : w5.heap[I]? = some (.stringIter ⟨ds.toArray⟩ (k + 1)) := It5.out
                have i2 : wr.heap[I]? = some (.stringIter ⟨ds.toArray⟩ k) := Hit.out
                rw [i1, i2]
                show ds.length - (k + 1) < ds.length - k
                have := Hlt.out; omega
            · have Hw5 := Lib.hid (show w0.heap.size ≤ w5.heap.size from B5.out.size)
              have HK5 := Lib.hid (show K < w5.heap.size from Bx5.out.lt)
              have HI5 := Lib.hid (show I < w5.heap.size from It5.out.lt)
              have Hml : Hid (M.length ≤ 1099511627775) := by rw [Hid]; have := Hlen.out; omega
              have HMl := Lib.hid hMl
              clear hMl
              go_wp2_with fail
              go_region_law (first
                | (refine step_push_rule (base := w0.heap.size) (by rfl) _ _ (by rfl) (by rfl) (by first | rfl | simp) rfl (OwnRules.below Ow5.out.drew hb6) Hml hs6 ?_; intro v7 w7 own7 hg7 hb7; have bx7 : Boxed w7 K 34 _ := Boxed.grown (Boxed.up (Boxed.mk' Bx5.out) hb6 HK5.out) (by decide) (OwnRules.below Ow5.out.drew hb6) hg7; have it7 : Iter w7 I ⟨ds.toArray⟩ (k + 1) := Iter.grown (Iter.up (w := w5.drew) It5.out hb6 HI5.out) (OwnRules.below Ow5.out.drew hb6) hg7; obtain ⟨A7, c7, rfl, _⟩ := own_nil own7; have hcb7 := bx7.cell; have hfb7 := bx7.frozen; have hlb7 := bx7.lt)
                | (go_simp; go_at_call 41; refine (pairInt_any _ _ _).mono ?_; rintro e w6 ⟨rfl, hb6⟩; have bx6 := Boxed.up (Boxed.mk' Bx5.out) hb6 HK5.out; have hcb6 := bx6.cell; have hfb6 := bx6.frozen; have hlb6 := bx6.lt; have hs6 : w0.heap.size ≤ w6.heap.size := Nat.le_trans Hw5.out hb6.size))
              all_goals
                go_wp2_with fail
                have e : powStep ((xs.length : Int) - 1) L 49 = M ++ [pairR (L.length : Int) ((xs.length : Int) - 1)] := by rw [← HM.out]; simp [powStep]
                have e9 : (M ++ [pairR (L.length : Int) ((xs.length : Int) - 1)]).length = M.length + 1 := by simp
                have own9 : OwnRules w7 w0.heap.size (.slice A7 (M.length + 1) c7) (M ++ [pairR (L.length : Int) ((xs.length : Int) - 1)]) := by rw [← e9]; exact own7
                have it9 := it7.set (B := K) (by omega) (.slice A7 (M.length + 1) c7)
                refine ⟨⟨k + 1, _, by have := Hlt.out; omega, it9, Boxed.set _ bx7, ?_, ?_⟩, ?_⟩
                · rw [Hstep.out, e]; exact ownsRow_setCell_other (a := ⟨K, 0, none⟩) own9 (bx7.not_row (by decide) own9).symm _
                · exact ((((Below.drew B5.out).trans (hb6.mono Hw5.out)).alloc hs6 _).trans hb7).setCell hK _
                · have i1 : (w7.setCell ⟨K, 0, none⟩ (.slice A7 (M.length + 1) c7)).heap[I]? = some (.stringIter ⟨ds.toArray⟩ (k + 1)) := it9
                  have i2 : wr.heap[I]? = some (.stringIter ⟨ds.toArray⟩ k) := Hit.out
                  rw [i1, i2]
                  show ds.length - (k + 1) < ds.length - k
                  have := Hlt.out; omega
        · have hkn : k = ds.length := by omega
          subst hkn
          have hsz : ¬ ds.length < (⟨ds.toArray⟩ : ByteArray).size := by show ¬ ds.length < ds.toArray.size; simp
          have hnx := fun ty => Lib.run_next_end_at (P := Tryd.prog) wr I ⟨ds.toArray⟩ ds.length ty Hit.out hsz
          obtain ⟨Ao, co, rfl, _⟩ := own_nil Hown.out
          have bxc := Hbox.out.cell
          have y0 := (Hb.out.cell (p := ⟨w.heap.size + 1, 0, none⟩) (by have := Hs0.out; show w.heap.size + 1 < _; omega)).trans Y0.out
          have f0 := (Hb.out.frozen (p := ⟨w.heap.size + 1, 0, none⟩) (by have := Hs0.out; show w.heap.size + 1 < _; omega)).trans F0.out
          have HL' : Hid (powG xs n = L) := by rw [Hid, Hg.out, HBL.out, List.tail_cons, ← HL.out, List.take_length]
          clear hlen hlt hsz
          go_wp2_with fail
          refine bodyPost_ret (v := .agg #[.slice Ao L.length co]) (by simp [results, Tryd.results31, go_sem, y0]) rfl ⟨?_, _, ?_, rfl⟩
          · exact (HB0.out.trans (Hb.out.mono HB0.out.size)).setCell (by show w.heap.size ≤ w.heap.size + 1; omega) _
          · rw [HL'.out]
            have h6 := ownsRow_setCell_below (a := ⟨w.heap.size + 1, 0, none⟩) Hown.out (by have := Hs0.out; show w.heap.size + 1 < w0.heap.size; omega) (.slice Ao L.length co)
            exact ownsRow_more h6 HB0.out.size
end Go.Proofs.YthidgjdjijjkoaaDoor
