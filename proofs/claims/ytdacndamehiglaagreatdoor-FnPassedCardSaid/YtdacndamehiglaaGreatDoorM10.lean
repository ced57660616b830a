import Derived.Test.YtdacndamehiglaaGreatDoorM3
import Derived.Test.YtdacndamehiglaaGreatDoorM9
import Derived.Lib.OthersKept
import Derived.Deep.CutRange
import Derived.Deep.DeepCutAuto
import Derived.Test.YtdacndamehiglaaGreatDoorM4
import Derived.WalkArith
import Derived.Test.YtdacndamehiglaaGreatDoorM7
import Derived.Test.YtdacndamehiglaaGreatDoorM2
namespace Go.Proofs.YtdacndamehiglaaGreatDoor
open Go.RowKit
def Iter (W : World) (K : Nat) (s : ByteArray) (pos : Nat) : Prop := W.heap[K]? = some (.stringIter s pos)
theorem Iter.lt {W : World} {K : Nat} {s : ByteArray} {pos : Nat} (h : Iter W K s pos) : K < W.heap.size := (Array.getElem?_eq_some_iff.1 h).1
theorem Iter.up {w w' : World} {K N : Nat} {s : ByteArray} {pos : Nat} (h : Iter w K s pos) (hb : Below N w w') (hlt : K < N) : Iter w' K s pos := (hb.block K hlt).trans h
theorem Iter.not_row {w : World} {K : Nat} {s : ByteArray} {pos : Nat} (h : Iter w K s pos) {base e sz n : Nat} {v : Value} {xs : List Value} (own : w.ownsRow base e sz v n xs) : some K ≠ v.ownBlock := by
  intro he
  rcases own.2 with ⟨hn, _⟩ | ⟨g, cap, cur, rfl, hb, hgg, rest⟩
  · rw [hn] at he; cases he
  · have : g = K := by
      have : some g = some K := he.symm ▸ rfl
      injection this
    subst this
    rw [h] at hgg; cases hgg
theorem Iter.grown {w w' : World} {K base e sz n : Nat} {s : ByteArray} {pos : Nat} {v : Value} {xs : List Value} {o : Obj} (h : Iter w K s pos) (own : w.ownsRow base e sz v n xs) (hg : (w.alloc o).grownBy w' v.ownBlock) : Iter w' K s pos := by
  have h1 : Iter (w.alloc o) K s pos := h.up ((Below.refl w.heap.size w).alloc (Nat.le_refl _) o) h.lt
  exact (hg.block K h1.lt (h.not_row own)).trans h1
theorem Iter.set {w : World} {K B : Nat} {s : ByteArray} {pos : Nat} (h : Iter w K s pos) (hne : K ≠ B) (v : Value) : Iter (w.setCell ⟨B, 0, none⟩ v) K s pos := (heap_setCell_other w ⟨B, 0, none⟩ K v hne).trans h
def powStep (root : Int) (L : List GRule) (d : UInt8) : List GRule := L ++ [pairR ((L.length : Int) - 1) ((L.length : Int) - 1)] ++ (if d = 49 then [pairR (L.length : Int) root] else [])
def powG (xs : List GRule) (n : Nat) : List GRule := if n = 0 ∨ xs.length = 0 then [] else (binL n).tail.foldl (powStep ((xs.length : Int) - 1)) xs
theorem binL_len (n : Nat) : ∀ k, n < 2 ^ k → 1 ≤ k → (binL n).length ≤ k := by
  induction n using Nat.strongRecOn with
  | ind n ih =>
    intro k hk h1
    by_cases c : n < 2
    · rw [binL_lt c]; simpa using h1
    · rw [binL_ge c, List.length_append]
      have hk2 : 2 ≤ k := by
        rcases Nat.lt_or_ge k 2 with h | h
        · have : k = 1 := by omega
          subst this; simp at hk; omega
        · exact h
      obtain ⟨j, rfl⟩ : ∃ j, k = j + 1 := ⟨k - 1, by omega⟩
      rw [Nat.pow_succ] at hk
      have := ih (n / 2) (by omega) j (by omega) (by omega)
      simp; omega
theorem binL_dig (n : Nat) : ∀ d ∈ binL n, d = 48 ∨ d = 49 := by
  induction n using Nat.strongRecOn with
  | ind n ih =>
    by_cases c : n < 2
    · rw [binL_lt c]
      intro d hd
      have : d = UInt8.ofNat (48 + n) := by simpa using hd
      have h2 : n = 0 ∨ n = 1 := by omega
      rcases h2 with rfl | rfl
      · left; rw [this]; rfl
      · right; rw [this]; rfl
    · rw [binL_ge c]
      intro d hd
      rcases List.mem_append.1 hd with h | h
      · exact ih (n / 2) (by omega) d h
      · have : d = UInt8.ofNat (48 + n % 2) := by simpa using h
        have h2 : n % 2 = 0 ∨ n % 2 = 1 := by omega
        rcases h2 with e | e
        · left; rw [this, e]; rfl
        · right; rw [this, e]; rfl
theorem binL_pos (n : Nat) : 1 ≤ (binL n).length := by
  by_cases c : n < 2
  · rw [binL_lt c]; simp
  · rw [binL_ge c]; simp
theorem powStep_len (root : Int) (L : List GRule) (d : UInt8) : (powStep root L d).length ≤ L.length + 2 := by
  unfold powStep; split <;> simp
theorem powFold_len (root : Int) : ∀ (ds : List UInt8) (L : List GRule), (ds.foldl (powStep root) L).length ≤ L.length + 2 * ds.length := by
  intro ds
  induction ds with
  | nil => intro L; simp
  | cons d ds ih =>
    intro L
    have h1 := ih (powStep root L d)
    have h2 := powStep_len root L d
    simp only [List.foldl_cons, List.length_cons]
    omega
theorem SlS.drew1 {α : Type} {E : Enc α} {w : World} {v : Value} {xs : List α} (h : Sl E w w.heap.size v xs) : Sl E w.drew w.drew.heap.size v xs := h.keep fun _ _ => rfl
set_option maxRecDepth 100000 in
set_option maxHeartbeats 4000000 in
theorem power_any (v : Value) (xs : List GRule) (n : Nat) (w : World) (h : Sl RuleE w w.heap.size v xs) (hn : xs.length ≤ 1048576) (ht : n < 1152921504606846976) (htab : Lib.TabIs Tryz.prog w "math/bits.deBruijn64tab" .u8 deB64) :
    Calls Tryz.prog 138 #[.agg #[v], .int .i64 n] w (GOwn (powG xs n) w) := by
  have h1 := fun o o' => (h.below (((Below.refl w.heap.size w).alloc (Nat.le_refl _) o).alloc (by simp) o')).le (B' := ((w.alloc o).alloc o').heap.size) (by simp; omega)
  have H1 := Lib.hid h1
  have HT := Lib.hid htab
  clear h1 htab
  obtain ⟨A, c, rfl, hc, hm, hrow⟩ := h
  clear hm hrow
  by_cases h0 : n = 0 ∨ xs.length = 0
  · have hg : powG xs n = [] := by rw [powG, if_pos h0]
    have Hg := Lib.hid hg
    clear hg
    by_cases hz : n = 0
    · subst hz
      clear h0
      go_enter Tryz.func138, Tryz.ntmps138
      go_wp2_with fail
      refine bodyPost_ret (v := .agg #[.slice none 0 0]) (by simp [results, Tryz.results138, go_sem]) rfl ⟨(by repeat (first | exact Below.refl _ _ | (refine Below.alloc ?_ (by first | omega | (simp; done) | (simp; omega)) _) | refine below_drewN ?_ _ | refine Below.drew ?_)), _, by rw [Hg.out]; exact World.ownsRow_nil _ _ _ _, rfl⟩
    · have hx : xs.length = 0 := by omega
      have g0 : ((n : Int) == 0) = false := by rw [beq_eq_false_iff_ne]; omega
      have g1 : ((xs.length : Int) == 0) = true := by simp [hx]
      clear h0 hx
      go_enter Tryz.func138, Tryz.ntmps138
      go_wp2_with fail
      refine bodyPost_ret (v := .agg #[.slice none 0 0]) (by simp [results, Tryz.results138, go_sem]) rfl ⟨(by repeat (first | exact Below.refl _ _ | (refine Below.alloc ?_ (by first | omega | (simp; done) | (simp; omega)) _) | refine below_drewN ?_ _ | refine Below.drew ?_)), _, by rw [Hg.out]; exact World.ownsRow_nil _ _ _ _, rfl⟩
  · have hg : powG xs n = (binL n).tail.foldl (powStep ((xs.length : Int) - 1)) xs := by rw [powG, if_neg h0]
    have Hg := Lib.hid hg
    have g0 : ((n : Int) == 0) = false := by rw [beq_eq_false_iff_ne]; omega
    have g1 : ((xs.length : Int) == 0) = false := by rw [beq_eq_false_iff_ne]; omega
    have hwx : IntKind.i64.wrap ((xs.length : Int) - 1) = (xs.length : Int) - 1 := IntWalk.i64_in _ (by omega)
    clear hg
    go_enter Tryz.func138, Tryz.ntmps138
    have hW0 : ∃ w0, w0 = (w.alloc (Obj.cells #[Value.slice A xs.length c] 26)).alloc (Obj.cells #[Value.slice none 0 0] 26) := ⟨_, rfl⟩
    obtain ⟨w0, hw0⟩ := hW0
    have HW0 := Lib.hid hw0
    have hs0 : w0.heap.size = w.heap.size + 2 := by rw [hw0]; simp
    have hB0 : Below w.heap.size w w0 := by rw [hw0]; exact (by repeat (first | exact Below.refl _ _ | (refine Below.alloc ?_ (by first | omega | (simp; done) | (simp; omega)) _) | refine below_drewN ?_ _ | refine Below.drew ?_))
    have hS0 : Sl RuleE w0 w0.heap.size (Value.slice A xs.length c) xs := by rw [hw0]; exact H1.out _ _
    have x0 : w0.cell? ⟨w.heap.size, 0, none⟩ = some (.slice A xs.length c) := by rw [hw0]; simp [go_sem]
    have y0 : w0.cell? ⟨w.heap.size + 1, 0, none⟩ = some (.slice none 0 0) := by rw [hw0]; simp [go_sem]
    have f0 : w0.frozen? ⟨w.heap.size + 1, 0, none⟩ = false := by rw [hw0]; simp [go_sem]
    have X0 := Lib.hid x0
    have Y0 := Lib.hid y0
    have F0 := Lib.hid f0
    have HB0 := Lib.hid hB0
    have cB : Calls Tryz.prog 61 #[.agg #[.slice A xs.length c]] w0.drew fun e w' => ∃ A1 c1, e = .returned (.agg #[.slice A1 xs.length c1]) ∧ OwnRules w' w0.heap.size (.slice A1 xs.length c1) xs ∧ Below w0.heap.size w0 w' :=
      (copied_any _ xs w0.drew (hS0.up (Below.drew (Below.refl _ _))) (by omega)).mono fun e w' ⟨v', h1, h2, h3⟩ => by
        obtain ⟨A1, c1, rfl, _⟩ := own_nil h2
        exact ⟨A1, c1, h1, h2, (Below.drew (Below.refl w0.heap.size w0)).trans h3⟩
    have cA : ∀ o, Calls Tryz.prog 61 #[.agg #[.slice A xs.length c]] (w0.alloc o).drew fun e w' => (∃ A1 c1, e = .returned (.agg #[.slice A1 xs.length c1]) ∧ OwnRules w' w0.heap.size (.slice A1 xs.length c1) xs ∧ Below w0.heap.size w0 w') ∧ w'.heap[w0.heap.size]? = some o :=
      fun o => (copied_any _ xs (w0.alloc o).drew ((hS0.up ((Below.refl _ _).alloc (Nat.le_refl _) o)).drew1) (by omega)).mono fun e w' ⟨v', h1, h2, h3⟩ => by
        obtain ⟨A1, c1, rfl, _⟩ := own_nil h2
        have hsz : w0.heap.size < (w0.alloc o).drew.heap.size := by show w0.heap.size < (w0.alloc o).heap.size; simp
        exact ⟨⟨A1, c1, h1, ownsRow_more h2 (Nat.le_of_lt hsz), (Below.drew ((Below.refl w0.heap.size w0).alloc (Nat.le_refl _) o)).trans (h3.mono (Nat.le_of_lt hsz))⟩, (h3.block w0.heap.size hsz).trans (alloc_heap_last _ _)⟩
    have CA := Lib.hid cA
    have CB := Lib.hid cB
    have Hs0 := Lib.hid hs0
    clear cA cB hB0 hS0 hw0 x0 y0 f0 hs0
    go_upto_region 3 with fail
    rw [← HW0.out]
    clear HW0
    go_cut [5, 6] (fun p q wx => ∃ (K : Nat) (vo : Value), p = .pointer (some ⟨K, 0, none⟩) ∧ q = .int .i64 ((xs.length : Int) - 1) ∧ w0.heap.size ≤ K ∧ Boxed wx K 26 vo ∧ OwnRules wx w0.heap.size vo xs ∧ Below w0.heap.size w0 wx)
    case first =>
      have x0 := X0.out
      have z0 : w.heap.size < w0.heap.size := by have := Hs0.out; omega
      go_region_law (go_simp; go_at_call 61; first
          | ((with_reducible refine (CA.out _).mono ?_); rintro e w1 ⟨⟨A1, c1, rfl, own1, hb1⟩, bx1⟩; have bxB : Boxed w1 w0.heap.size 26 (.slice none 0 0) := bx1; have hcb := bxB.cell; have hfb := bxB.frozen; have hlb := bxB.lt; have xx1 := (hb1.cell (p := ⟨w.heap.size, 0, none⟩) z0).trans X0.out; have zz1 := Nat.lt_of_lt_of_le z0 hb1.size)
          | ((with_reducible refine CB.out.mono ?_); rintro e w1 ⟨A1, c1, rfl, own1, hb1⟩; have xx1 := (hb1.cell (p := ⟨w.heap.size, 0, none⟩) z0).trans X0.out; have zz1 := Nat.lt_of_lt_of_le z0 hb1.size))
      all_goals
        go_wp2_with fail
        go_meet
        first
          | exact ⟨_, _, rfl, rfl, hb1.size, Boxed.new _ _ _, own1.alloc _, hb1.alloc hb1.size _⟩
          | exact ⟨_, _, rfl, rfl, Nat.le_refl _, Boxed.set _ bxB, ownsRow_setCell_other (a := ⟨w0.heap.size, 0, none⟩) own1 (bxB.not_row (by decide) own1).symm _, hb1.setCell (Nat.le_refl _) _⟩
    case rest =>
      revert hcut
      generalize wc = w1
      intro hcut
      obtain ⟨K, vo, rfl, rfl, hK, bx1, own1, hb1⟩ := hcut
      have hKl := bx1.lt
      have hxt := binL_len n 60 ht (by omega)
      have HT1 := Lib.hid (tab_below HT.out (HB0.out.trans (hb1.mono HB0.out.size)))
      go_wp2_with fail
      refine (formatInt_two n ht _ HT1.out).mono ?_
      rintro e w2 ⟨rfl, hb2⟩
      have bx2 := Boxed.up bx1 hb2 hKl
      have own2 : OwnRules w2 w0.heap.size vo xs := OwnRules.below own1 hb2
      have B2 := Lib.hid (hb1.trans (hb2.mono hb1.size))
      clear hb1 hb2 bx1 own1
      obtain ⟨BL, hBL⟩ : ∃ BL, binL n = BL := ⟨_, rfl⟩
      have hB1 : 1 ≤ BL.length := by rw [← hBL]; exact binL_pos n
      have hB60 : BL.length ≤ 60 := by rw [← hBL]; exact hxt
      have hdig : ∀ d ∈ BL, d = 48 ∨ d = 49 := by rw [← hBL]; exact binL_dig n
      have HBL := Lib.hid hBL
      rw [hBL]
      clear hBL
      obtain ⟨d0, ds, rfl⟩ : ∃ d0 ds, BL = d0 :: ds := by
        cases BL with
        | nil => simp at hB1
        | cons a l => exact ⟨a, l, rfl⟩
      have Hdig := Lib.hid hdig
      clear hdig hxt
      go_wp2_with fail
      have hex : (⟨(d0 :: ds).toArray⟩ : ByteArray).extract 1 (ds.length + 1) = ⟨ds.toArray⟩ := by
        apply ByteArray.ext
        simp [ByteArray.data_extract]
      rw [hex]
      clear hex
      have hit : Iter (w2.iter ⟨ds.toArray⟩ 0) w2.heap.size ⟨ds.toArray⟩ 0 := World.iter_heap _ _ _
      have hb3 : Below w2.heap.size w2 (w2.iter ⟨ds.toArray⟩ 0) := (Below.refl _ _).alloc (Nat.le_refl _) _
      have bx3 := Boxed.up bx2 hb3 bx2.lt
      have own3 : OwnRules (w2.iter ⟨ds.toArray⟩ 0) w0.heap.size vo xs := OwnRules.below own2 hb3
      have hK2 : K < w2.heap.size := bx2.lt
      have B3 := Lib.hid (B2.out.trans (hb3.mono B2.out.size))
      have hw02 : w0.heap.size ≤ w2.heap.size := B2.out.size
      clear hb3 bx2 own2
      revert hit bx3 own3 B3
      generalize w2.iter ⟨ds.toArray⟩ 0 = w3
      intro hit bx3 own3 B3
      obtain ⟨I, hI⟩ : ∃ I, w2.heap.size = I := ⟨_, rfl⟩
      rw [hI] at hit hK2 hw02
      rw [hI]
      clear hI
      have hdl : ds.length ≤ 60 := by simp at hB60; omega
      go_loopw [9] (fun q wr => ∃ (k : Nat) (vo : Value), k ≤ ds.length ∧ Iter wr I ⟨ds.toArray⟩ k ∧ Boxed wr K 26 vo ∧ OwnRules wr w0.heap.size vo ((ds.take k).foldl (powStep ((xs.length : Int) - 1)) xs) ∧ Below w0.heap.size w0 wr) (fun _ wr => ds.length - (match wr.heap[I]? with | some (.stringIter _ p) => p | _ => 0))
      case atStart => exact ⟨0, vo, Nat.zero_le _, hit, bx3, by simpa using own3, B3.out⟩
      case round =>
        obtain ⟨k, vo, hk, hit, hbox, hown, hb⟩ := hrel
        have Hb := Lib.hid hb
        have Hown := Lib.hid hown
        have Hbox := Lib.hid hbox
        have Hit := Lib.hid hit
        have hll := powFold_len ((xs.length : Int) - 1) (ds.take k) xs
        obtain ⟨L, hL⟩ : ∃ L, (ds.take k).foldl (powStep ((xs.length : Int) - 1)) xs = L := ⟨_, rfl⟩
        have HL := Lib.hid hL
        have hlen : L.length ≤ 2000000 := by rw [← hL]; simp at hll; omega
        rw [hL] at Hown
        clear hb hown hbox hit hll hL
        by_cases hlt : k < ds.length
        · have Hlt := Lib.hid hlt
          have hsz : k < (⟨ds.toArray⟩ : ByteArray).size := by show k < ds.toArray.size; simpa using hlt
          have hdk : (⟨ds.toArray⟩ : ByteArray)[k]'hsz = ds[k] := rfl
          have hd := Hdig.out ds[k] (by simp)
          have hnx := fun ty => Lib.run_next_ascii_at (P := Tryz.prog) wr I ⟨ds.toArray⟩ k ty Hit.out hsz (by rw [hdk]; rcases hd with h | h <;> rw [h] <;> decide)
          rw [hdk] at hnx
          have hii := Lib.iterAt_heap wr I ⟨ds.toArray⟩ k (k + 1) Hit.out
          have hio := fun j hj => Lib.iterAt_other wr I j ⟨ds.toArray⟩ (k + 1) hj
          have his := Lib.iterAt_size wr I ⟨ds.toArray⟩ (k + 1)
          have hbi := Lib.below_iterAt Hb.out (k := I) hw02 ⟨ds.toArray⟩ (k + 1)
          obtain ⟨wi, hwi⟩ : ∃ wi, wr.iterAt I ⟨ds.toArray⟩ (k + 1) = wi := ⟨_, rfl⟩
          simp only [hwi] at hnx hii hio his hbi
          have Bi := Lib.hid hbi
          have Iti := Lib.hid (show Iter wi I ⟨ds.toArray⟩ (k + 1) from hii)
          have Bxi := Lib.hid (show Boxed wi K 26 vo from (hio K (by omega)).trans Hbox.out)
          have Owi := Lib.hid (show OwnRules wi w0.heap.size vo L from own_keep Hown.out fun g hg => hio g fun e => by
            have := Hit.out.not_row Hown.out
            rw [hg, e] at this; exact this rfl)
          obtain ⟨D, hD⟩ : ∃ D, ds[k] = D := ⟨_, rfl⟩
          rw [hD] at hnx hd
          have HD := Lib.hid hD
          obtain ⟨Ao, co, rfl, _⟩ := own_nil Owi.out
          have bxc := Bxi.out.cell
          have bxf := Bxi.out.frozen
          clear hwi hii hio his hbi hdk hD
          have hw1 : IntKind.i64.wrap ((L.length : Int) - 1) = (L.length : Int) - 1 := IntWalk.i64_in _ (by omega)
          have Hll : Hid (L.length ≤ 1099511627775) := by rw [Hid]; omega
          have Hw0 := Lib.hid (show w0.heap.size ≤ wi.heap.size from Bi.out.size)
          have HKw := Lib.hid (show K < wi.heap.size from Bxi.out.lt)
          have HIw := Lib.hid (show I < wi.heap.size from Iti.out.lt)
          have Hlen := Lib.hid hlen
          clear hlen
          go_upto_region 8 with fail
          go_cut [9] from 29 to 54 (fun q wx => q = .int .i64 L.length ∧ ∃ vo : Value, Iter wx I ⟨ds.toArray⟩ (k + 1) ∧ Boxed wx K 26 vo ∧ OwnRules wx w0.heap.size vo (L ++ [pairR ((L.length : Int) - 1) ((L.length : Int) - 1)]) ∧ Below w0.heap.size w0 wx)
          case first =>
            go_region_law (first
              | (refine step_push_rule (base := w0.heap.size) (by rfl) _ _ (by rfl) (by rfl) (by first | rfl | simp) rfl (OwnRules.below Owi.out.drew hb2) Hll hs2 ?_; intro v3 w3 own3 hg3 hb3; have bx4 : Boxed w3 K 26 _ := Boxed.grown (Boxed.up (Boxed.mk' Bxi.out) hb2 HKw.out) (by decide) (OwnRules.below Owi.out.drew hb2) hg3; have it4 : Iter w3 I ⟨ds.toArray⟩ (k + 1) := Iter.grown (Iter.up (w := wi.drew) Iti.out hb2 HIw.out) (OwnRules.below Owi.out.drew hb2) hg3; obtain ⟨A3, c3, rfl, _⟩ := own_nil own3; have hcb3 := bx4.cell; have hfb3 := bx4.frozen; have hlb3 := bx4.lt)
              | (go_simp; go_at_call 173; refine (pairInt_any _ _ _).mono ?_; rintro e w4 ⟨rfl, hb2⟩; have bx2 := Boxed.up (Boxed.mk' Bxi.out) hb2 HKw.out; have hcb2 := bx2.cell; have hfb2 := bx2.frozen; have hlb2 := bx2.lt; have hs2 : w0.heap.size ≤ w4.heap.size := Nat.le_trans Hw0.out hb2.size))
            all_goals
              go_wp2_with fail
              go_meet
              try rw [hw1] at own3
              have e9 : (L ++ [pairR ((L.length : Int) - 1) ((L.length : Int) - 1)]).length = L.length + 1 := by simp
              have own9 : OwnRules w3 w0.heap.size (.slice A3 (L.length + 1) c3) (L ++ [pairR ((L.length : Int) - 1) ((L.length : Int) - 1)]) := by rw [← e9]; exact own3
              refine ⟨rfl, _, it4.set (by omega) _, Boxed.set _ bx4, ownsRow_setCell_other (a := ⟨K, 0, none⟩) own9 (bx4.not_row (by decide) own9).symm _, ?_⟩
              exact ((((Below.drew Bi.out).trans (hb2.mono Hw0.out)).alloc hs2 _).trans hb3).setCell hK _
          case rest =>
            revert hcut
            generalize wc = w5
            intro hcut
            obtain ⟨rfl, vo5, it5, bx5, own5, b5⟩ := hcut
            have It5 := Lib.hid it5
            have Bx5 := Lib.hid bx5
            have B5 := Lib.hid b5
            obtain ⟨M, hM⟩ : ∃ M, L ++ [pairR ((L.length : Int) - 1) ((L.length : Int) - 1)] = M := ⟨_, rfl⟩
            rw [hM] at own5
            have hMl : M.length = L.length + 1 := by rw [← hM]; simp
            have HM := Lib.hid hM
            have Ow5 := Lib.hid own5
            obtain ⟨A5, c5, rfl, _⟩ := own_nil own5
            have bxc5 := bx5.cell
            have bxf5 := bx5.frozen
            clear hM it5 bx5 b5 own5
            have Hstep : Hid ((ds.take (k + 1)).foldl (powStep ((xs.length : Int) - 1)) xs = powStep ((xs.length : Int) - 1) L D) := by
              rw [Hid, List.take_add_one, List.getElem?_eq_getElem hlt, List.foldl_append, HL.out, HD.out]; rfl
            rcases hd with rfl | rfl
            · go_wp2_with fail
              have e : powStep ((xs.length : Int) - 1) L 48 = M := by rw [← HM.out]; simp [powStep]
              refine ⟨⟨k + 1, _, by omega, It5.out, Bx5.out, ?_, B5.out⟩, ?_⟩
              · rw [Hstep.out, e]; exact Ow5.out
              · have i1 : w5.heap[I]? = some (.stringIter ⟨ds.toArray⟩ (k + 1)) := It5.out
                have i2 : wr.heap[I]? = some (.stringIter ⟨ds.toArray⟩ k) := Hit.out
                rw [i1, i2]
                show ds.length - (k + 1) < ds.length - k
                have := Hlt.out; omega
            · have Hw5 := Lib.hid (show w0.heap.size ≤ w5.heap.size from B5.out.size)
              have HK5 := Lib.hid (show K < w5.heap.size from Bx5.out.lt)
              have HI5 := Lib.hid (show I < w5.heap.size from It5.out.lt)
              have Hml : Hid (M.length ≤ 1099511627775) := by rw [Hid]; have := Hlen.out; omega
              have HMl := Lib.hid hMl
              clear hMl
              go_wp2_with fail
              go_region_law (first
                | (refine step_push_rule (base := w0.heap.size) (by rfl) _ _ (by rfl) (by rfl) (by first | rfl | simp) rfl (OwnRules.below Ow5.out.drew hb6) Hml hs6 ?_; intro v7 w7 own7 hg7 hb7; have bx7 : Boxed w7 K 26 _ := Boxed.grown (Boxed.up (Boxed.mk' Bx5.out) hb6 HK5.out) (by decide) (OwnRules.below Ow5.out.drew hb6) hg7; have it7 : Iter w7 I ⟨ds.toArray⟩ (k + 1) := Iter.grown (Iter.up (w := w5.drew) It5.out hb6 HI5.out) (OwnRules.below Ow5.out.drew hb6) hg7; obtain ⟨A7, c7, rfl, _⟩ := own_nil own7; have hcb7 := bx7.cell; have hfb7 := bx7.frozen; have hlb7 := bx7.lt)
                | (go_simp; go_at_call 173; refine (pairInt_any _ _ _).mono ?_; rintro e w6 ⟨rfl, hb6⟩; have bx6 := Boxed.up (Boxed.mk' Bx5.out) hb6 HK5.out; have hcb6 := bx6.cell; have hfb6 := bx6.frozen; have hlb6 := bx6.lt; have hs6 : w0.heap.size ≤ w6.heap.size := Nat.le_trans Hw5.out hb6.size))
              all_goals
                go_wp2_with fail
                have e : powStep ((xs.length : Int) - 1) L 49 = M ++ [pairR (L.length : Int) ((xs.length : Int) - 1)] := by rw [← HM.out]; simp [powStep]
                have e9 : (M ++ [pairR (L.length : Int) ((xs.length : Int) - 1)]).length = M.length + 1 := by simp
                have own9 : OwnRules w7 w0.heap.size (.slice A7 (M.length + 1) c7) (M ++ [pairR (L.length : Int) ((xs.length : Int) - 1)]) := by rw [← e9]; exact own7
                have it9 := it7.set (B := K) (by omega) (.slice A7 (M.length + 1) c7)
                refine ⟨⟨k + 1, _, by have := Hlt.out; omega, it9, Boxed.set _ bx7, ?_, ?_⟩, ?_⟩
                · rw [Hstep.out, e]; exact ownsRow_setCell_other (a := ⟨K, 0, none⟩) own9 (bx7.not_row (by decide) own9).symm _
                · exact ((((Below.drew B5.out).trans (hb6.mono Hw5.out)).alloc hs6 _).trans hb7).setCell hK _
                · have i1 : (w7.setCell ⟨K, 0, none⟩ (.slice A7 (M.length + 1) c7)).heap[I]? = some (.stringIter ⟨ds.toArray⟩ (k + 1)) := it9
                  have i2 : wr.heap[I]? = some (.stringIter ⟨ds.toArray⟩ k) := Hit.out
                  rw [i1, i2]
                  show ds.length - (k + 1) < ds.length - k
                  have := Hlt.out; omega
        · have hkn : k = ds.length := by omega
          subst hkn
          have hsz : ¬ ds.length < (⟨ds.toArray⟩ : ByteArray).size := by show ¬ ds.length < ds.toArray.size; simp
          have hnx := fun ty => Lib.run_next_end_at (P := Tryz.prog) wr I ⟨ds.toArray⟩ ds.length ty Hit.out hsz
          obtain ⟨Ao, co, rfl, _⟩ := own_nil Hown.out
          have bxc := Hbox.out.cell
          have y0 := (Hb.out.cell (p := ⟨w.heap.size + 1, 0, none⟩) (by have := Hs0.out; show w.heap.size + 1 < _; omega)).trans Y0.out
          have f0 := (Hb.out.frozen (p := ⟨w.heap.size + 1, 0, none⟩) (by have := Hs0.out; show w.heap.size + 1 < _; omega)).trans F0.out
          have HL' : Hid (powG xs n = L) := by rw [Hid, Hg.out, HBL.out, List.tail_cons, ← HL.out, List.take_length]
          clear hlen hlt hsz
          go_wp2_with fail
          refine bodyPost_ret (v := .agg #[.slice Ao L.length co]) (by simp [results, Tryz.results138, go_sem, y0]) rfl ⟨?_, _, ?_, rfl⟩
          · exact (HB0.out.trans (Hb.out.mono HB0.out.size)).setCell (by show w.heap.size ≤ w.heap.size + 1; omega) _
          · rw [HL'.out]
            have h6 := ownsRow_setCell_below (a := ⟨w.heap.size + 1, 0, none⟩) Hown.out (by have := Hs0.out; show w.heap.size + 1 < w0.heap.size; omega) (.slice Ao L.length co)
            exact ownsRow_more h6 HB0.out.size
def inB (n a b : Int) : Bool := decide (a ≤ n) && decide (n ≤ b)
theorem withinY (n a b : Int) (r : Bool) (w : World) (h : inB n a b = r) : Calls Tryz.prog 57 #[.int .i64 n, .int .i64 a, .int .i64 b] w fun e w' => e = .returned (.bool r) ∧ w = w' :=
  (within_any n a b w).mono fun _ _ ⟨he, hw⟩ => ⟨by rw [he, ← h]; rfl, hw⟩
def powOut (xs : List GRule) (t : Int) : List GRule := if gramOk xs && inB t 0 1000000000000000 then limOut (powG xs t.toNat) else []
def powCode (xs : List GRule) (t : Int) : Int := if gramOk xs then if inB t 0 1000000000000000 then limCode (powG xs t.toNat) else 2 else 1
theorem powG_len (xs : List GRule) (n : Nat) (h : n < 1152921504606846976) : (powG xs n).length ≤ xs.length + 120 := by
  unfold powG
  split
  · simp
  · have h1 := powFold_len ((xs.length : Int) - 1) (binL n).tail xs
    have h2 := binL_len n 60 h (by omega)
    have h3 : (binL n).tail.length ≤ 60 := by simp; omega
    omega
set_option maxRecDepth 100000 in
set_option maxHeartbeats 1000000 in
theorem implPower_any (v : Value) (xs : List GRule) (t : Int) (w : World) (h : Sl RuleE w w.heap.size v xs) (hn : xs.length ≤ 1048576) (htab : Lib.TabIs Tryz.prog w "math/bits.deBruijn64tab" .u8 deB64) :
    Calls Tryz.prog 100 #[.agg #[v], .int .i64 t] w (GRes (powOut xs t) (powCode xs t) w) := by
  have h1 := fun o o' => (h.below (((Below.refl w.heap.size w).alloc (Nat.le_refl _) o).alloc (by simp) o')).le (B' := ((w.alloc o).alloc o').heap.size) (by simp; omega)
  have H1 := Lib.hid h1
  have HT := Lib.hid htab
  clear h1 htab
  obtain ⟨A, c, rfl, hc, hm, hrow⟩ := h
  clear hm hrow
  go_enter Tryz.func100, Tryz.ntmps100
  go_wp2_with fail
  refine (ValidGrammar_any _ _ _ (H1.out _ _) (by omega)).mono ?_
  rintro e w1 ⟨rfl, hb1⟩
  obtain ⟨hc1, hf1⟩ := bcell hb1
  have hz1 : w.heap.size + 1 < w1.heap.size := by have := hb1.size; simp at this; omega
  have a1 : w1.cell? ⟨w.heap.size, 0, none⟩ = some (.slice A xs.length c) := by rw [hc1 _ _ (by first | omega | (simp; done) | (simp; omega))]; simp [go_sem]
  have c1 : w1.cell? ⟨w.heap.size + 1, 0, none⟩ = some (.slice none 0 0) := by rw [hc1 _ _ (by first | omega | (simp; done) | (simp; omega))]; simp [go_sem]
  have f1 : w1.frozen? ⟨w.heap.size + 1, 0, none⟩ = false := by rw [hf1 _ _ (by first | omega | (simp; done) | (simp; omega))]; simp [go_sem]
  have S1 := Lib.hid ((H1.out (Obj.cells #[Value.slice A xs.length c] 26) (Obj.cells #[Value.slice none 0 0] 26)).up hb1)
  have B1 := Lib.hid (((Below.refl w.heap.size w).alloc (Nat.le_refl _) (Obj.cells #[Value.slice A xs.length c] 26)).alloc (by simp) (Obj.cells #[Value.slice none 0 0] 26) |>.trans (hb1.mono (by simp; omega)))
  clear hc1 hf1 hb1
  by_cases hok : gramOk xs = true
  · have hok2 : (!gramOk xs) = false := by simp [hok]
    have Hok := Lib.hid hok
    clear hok
    go_wp2_with fail
    by_cases hin : inB t 0 1000000000000000 = true
    · have Hin := Lib.hid hin
      have ht : 0 ≤ t ∧ t ≤ 1000000000000000 := by simpa [inB] using hin
      obtain ⟨n, rfl⟩ := Int.eq_ofNat_of_zero_le ht.1
      have hn60 : n < 1152921504606846976 := by omega
      clear hin ht
      refine (withinY _ _ _ _ _ Hin.out).mono ?_
      rintro e w' ⟨rfl, rfl⟩
      go_wp2_with fail
      refine (power_any _ xs n _ S1.out hn hn60 (tab_below HT.out B1.out)).mono ?_
      rintro e w3 ⟨hb3, v3, own3, rfl⟩
      have z3 : w1.heap.size ≤ w3.heap.size := hb3.size
      have hz3 : w.heap.size + 1 < w3.heap.size := by omega
      have c3 := cell_up c1 hb3 (by omega)
      have f3 : w3.frozen? ⟨w.heap.size + 1, 0, none⟩ = false := by rw [hb3.frozen hz1, f1]
      have B3 := Lib.hid (B1.out.trans (hb3.mono (by omega)))
      have O3 := Lib.hid own3
      have hpl := powG_len xs n hn60
      clear a1 c1 f1 hb3 own3
      go_wp2_with fail
      refine (orLimit_any _ _ _ _ O3.out (by omega)).mono ?_
      rintro e w4 ⟨hb4, v4, own4, rfl⟩
      obtain ⟨A4, k4, rfl, _⟩ := own_nil own4
      have c4 := cell_up c3 hb4 (by omega)
      have f4 : w4.frozen? ⟨w.heap.size + 1, 0, none⟩ = false := by rw [hb4.frozen hz3, f3]
      have B4 := Lib.hid (B3.out.trans (hb4.mono (by omega)))
      have O4 := Lib.hid own4
      clear c3 f3 hb4 own4
      have e1 : powOut xs n = limOut (powG xs n) := by rw [powOut, Hok.out, Hin.out]; rfl
      have e2 : powCode xs n = limCode (powG xs n) := by rw [powCode, Hok.out, Hin.out]; rfl
      have E1 := Lib.hid e1
      have E2 := Lib.hid e2
      clear e1 e2
      go_wp2
      refine bodyPost_ret (v := .tuple #[.agg #[.slice A4 (limOut (powG xs n)).length k4], .int .i64 (limCode (powG xs n))]) (by simp [results, Tryz.results100, go_sem, c4]) rfl ⟨?_, _, ?_, by rw [E2.out]⟩
      · exact B4.out.setCell (by show w.heap.size ≤ w.heap.size + 1; omega) _
      · rw [E1.out]
        exact ownsRow_more (ownsRow_setCell_below O4.out (a := ⟨w.heap.size + 1, 0, none⟩) (by show w.heap.size + 1 < w1.heap.size; omega) _) (by omega)
    · have hin' : inB t 0 1000000000000000 = false := by simpa using hin
      have Hin := Lib.hid hin'
      clear hin hin'
      refine (withinY _ _ _ _ _ Hin.out).mono ?_
      rintro e w' ⟨rfl, rfl⟩
      go_wp2
      refine bodyPost_ret (v := .tuple #[.agg #[.slice none 0 0], .int .i64 2]) (by simp [results, Tryz.results100, go_sem, c1]) rfl ⟨?_, _, ?_, by rw [powCode, if_pos Hok.out, if_neg (by rw [Hin.out]; decide)]⟩
      · exact B1.out.setCell (by show w.heap.size ≤ w.heap.size + 1; omega) _
      · rw [powOut, if_neg (by simp [Hin.out])]; exact World.ownsRow_nil _ _ _ _
  · have hok2 : (!gramOk xs) = true := by simp [hok]
    have Hok := Lib.hid hok
    clear hok
    go_wp2
    refine bodyPost_ret (v := .tuple #[.agg #[.slice none 0 0], .int .i64 1]) (by simp [results, Tryz.results100, go_sem, c1]) rfl ⟨?_, _, ?_, by rw [powCode, if_neg (by simp [Hok.out])]⟩
    · exact B1.out.setCell (by show w.heap.size ≤ w.heap.size + 1; omega) _
    · rw [powOut, if_neg (by simp [Hok.out])]; exact World.ownsRow_nil _ _ _ _
def mapW (t : ByteArray) : List ByteArray := Lib.charsB t
def mapO (xs : List GRule) (ws : List ByteArray) : Option (List GRule) :=
  if 400 < (mapP xs ws).1.length then none else if xs.length = 0 ∨ lastI (mapP xs ws).2 < 0 then some [] else limO (trimG ((mapP xs ws).1.take ((lastI (mapP xs ws).2).toNat + 1)))
theorem codeIs_map (xs : List GRule) (ws : List ByteArray) : CodeIs (mapO xs ws) (mapOut xs ws) (mapCode xs ws) := by
  unfold mapO mapOut mapCode
  split
  · exact .inr ⟨rfl, rfl⟩
  · split
    · exact .inl ⟨rfl, rfl, rfl⟩
    · exact codeIs_lim _
def chgO (e : GEdit) (p : List GRule) : Option (List GRule) := if e.kind = 5 then some (p.map turnR) else if e.kind = 6 then limO (powG p e.k.toNat) else mapO p (mapW e.map)
theorem turnR_pair (r : GRule) : (turnR r).pair = r.pair := rfl
theorem okRule_turn (i : Nat) (r : GRule) : okRule i (turnR r) = okRule i r := by
  unfold okRule
  rw [turnR_pair]
  split
  · show (decide (0 ≤ r.right) && decide (r.right ≤ (i : Int) - 1) && decide (0 ≤ r.left) && decide (r.left ≤ (i : Int) - 1)) = _
    rw [Bool.and_comm, Bool.and_left_comm, ← Bool.and_assoc]
    cases decide (0 ≤ r.right) <;> cases decide (r.right ≤ (i : Int) - 1) <;> cases decide (0 ≤ r.left) <;> cases decide (r.left ≤ (i : Int) - 1) <;> rfl
  · show (isLet r.letter && r.right == 0 && r.left == 0) = _
    cases isLet r.letter <;> cases (r.right == 0) <;> cases (r.left == 0) <;> rfl
theorem ruleLen_turn (out : List Int) (r : GRule) : ruleLen out (turnR r) = ruleLen out r := by
  unfold ruleLen
  rw [turnR_pair]
  split
  · show out.getD r.right.toNat 0 + out.getD r.left.toNat 0 = _
    omega
  · rfl
theorem lens_turn (xs : List GRule) : lens (xs.map turnR) = lens xs := by
  unfold lens
  generalize some ([] : List Int) = o
  induction xs generalizing o with
  | nil => rfl
  | cons x xs ih =>
    simp only [List.map_cons, List.foldl_cons]
    have : lensStep o (turnR x) = lensStep o x := by
      unfold lensStep
      cases o with
      | none => rfl
      | some out => simp only [Option.bind_some, okRule_turn, ruleLen_turn]
    rw [this, ih]
theorem gramOk_turn {xs : List GRule} (h : gramOk xs = true) : gramOk (xs.map turnR) = true := by
  unfold gramOk at *
  rw [lens_turn, List.length_map]; exact h
theorem map_words {t : ByteArray} (hw : wordOk t = true) (h4 : t.size = 4) : (mapW t).length = 4 ∧ ∀ s ∈ mapW t, wordOk s = true := by
  have hall : ∀ k (h : k < t.size), letOk t[k] = true := fun k h => letOk_at hw h
  refine ⟨by simp [mapW, Lib.charsB, Lib.charsUpTo_length, h4], fun s hs => ?_⟩
  unfold mapW Lib.charsB Lib.charsUpTo at hs
  obtain ⟨k, hk, rfl⟩ := List.mem_map.1 hs
  have hk4 : k < t.size := by rw [List.mem_range] at hk; exact hk
  unfold wordOk
  have hsz : (t.extract k (k + 1)).size = 1 := by simp; omega
  rw [hsz, Bool.and_eq_true]
  refine ⟨by decide, ?_⟩
  rw [List.all_eq_true]
  intro c hc
  obtain ⟨j, hj⟩ := List.mem_iff_getElem?.1 hc
  have h2 := (List.getElem?_eq_some_iff.1 hj).1
  rw [Lib.extract_data, List.getElem?_take, List.getElem?_drop] at hj
  split at hj
  · rename_i hlt
    have : j = 0 := by omega
    subst this
    rw [Nat.add_zero, toList_getElem? t k hk4] at hj
    rw [← Option.some.inj hj]; exact hall k hk4
  · cases hj
theorem mapWords_any (t : ByteArray) (w : World) (hw : wordOk t = true) (h4 : t.size = 4) :
    Calls Tryz.prog 102 #[.string t] w fun e w' => ∃ v, e = .returned v ∧ Sl StrE w' w'.heap.size v (mapW t) ∧ Below w.heap.size w w' := by
  have hm := map_words hw h4
  have hal : ∀ (j : Nat) b, t.data.toList[j]? = some b → b.toNat < 128 := fun j b hj => by
    have h1 : letOk b = true := by
      unfold wordOk at hw; simp only [Bool.and_eq_true] at hw
      exact List.all_eq_true.1 hw.2 _ (List.mem_of_getElem? hj)
    simp [letOk] at h1; omega
  have HC := Lib.hid (Tryz.strings_Split_chars t ⟨#[]⟩ w (by rfl) (by omega) hal)
  have H4 := Lib.hid h4
  have HM := Lib.hid hm
  clear hal hm h4 hw
  go_enter Tryz.func102, Tryz.ntmps102
  go_wp2_with fail
  refine HC.out.mono ?_
  rintro e w1 ⟨rfl, rfl⟩
  go_wp2
  go_ret
  have e1 : (mapW t).length = t.size := by rw [HM.out.1, H4.out]
  refine ⟨.slice (some ⟨(w.iter t t.size).heap.size, 0, none⟩) t.size t.size, rfl, ?_, ?_⟩
  · refine ⟨some ⟨(w.iter t t.size).heap.size, 0, none⟩, t.size, by rw [e1], by omega, by rw [H4.out]; decide, fun _ => ⟨_, 0, rfl, by simp, fun k x hx => ⟨[.string x], rfl, fun j u hu => ?_⟩⟩⟩
    cases j with
    | succ j => simp at hu
    | zero =>
      simp at hu; subst hu
      have hc := cell_of_row ((w.iter t t.size).alloc (.cells ((Lib.charsB t).map Value.string).toArray 9)) (w.iter t t.size).heap.size k ((Lib.charsB t).map Value.string).toArray 9 (0, 0) (heap_alloc_new _ _)
      have hx' : (Lib.charsB t)[k]? = some x := hx
      have hk : ((Lib.charsB t).map Value.string).toArray[k]? = some (Value.string x) := by rw [List.getElem?_toArray, List.getElem?_map, hx']; rfl
      rw [hk] at hc
      simpa [StrE] using hc
  · have : Below w.heap.size w (w.iter t t.size) := (Below.refl _ _).alloc (Nat.le_refl _) _
    exact this.alloc (by simp [World.iter]) _
def CRes (s : Option (List GRule)) (w : World) (e : Ending) (w' : World) : Prop :=
  Below w.heap.size w w' ∧ ∃ v out c, OwnRules w' w.heap.size v out ∧ CodeIs s out c ∧ e = .returned (.tuple #[.agg #[v], .int .i64 c])
def editCells (e : GEdit) (vR : Value) : Array Value := #[.int .i64 e.kind, .int .i64 e.i, .int .i64 e.j, .int .i64 e.k, vR, .string e.map]
theorem tabB {P : Program} {w w' : World} {nm : String} {k : IntKind} {zs : List Int} (h : Lib.TabIs P w nm k zs) (hb : Below w.heap.size w w') : Lib.TabIs P w' nm k zs := by
  unfold Lib.TabIs World.var? at h ⊢
  obtain ⟨g, hg, h2⟩ := Option.bind_eq_some_iff.1 h
  rw [hg]
  simp only [Option.bind_some]
  have hlt : g < w.heap.size := by
    rcases Nat.lt_or_ge g w.heap.size with h' | h'
    · exact h'
    · rw [Array.getElem?_eq_none h'] at h2; cases h2
  rw [hb.block g hlt]; exact h2
theorem gram_len400 {p : List GRule} (h : gramOk p = true) : p.length ≤ 400 := (gram_lens h).1
set_option maxRecDepth 100000 in
set_option maxHeartbeats 1000000 in
theorem chg_any (E : Nat) (e : GEdit) (vR vP : Value) (p : List GRule) (w : World) (hE : Blk w E (editCells e vR) 30) (hP : Sl RuleE w w.heap.size vP p) (hg : gramOk p = true) (hk : e.kind = 5 ∨ (e.kind = 6 ∧ 0 ≤ e.k ∧ e.k ≤ 1000000000000000) ∨ (e.kind = 7 ∧ wordOk e.map = true ∧ e.map.size = 4))
    (htab : Lib.TabIs Tryz.prog w "math/bits.deBruijn64tab" .u8 deB64) :
    Calls Tryz.prog 98 #[.agg #[vP], .pointer (some ⟨E, 0, none⟩)] w (CRes (chgO e p) w) := by
  have HP := Lib.hid hP
  have HG := Lib.hid hg
  have HT := Lib.hid htab
  have hp4 := gram_len400 hg
  obtain ⟨AP, cP, rfl, _⟩ := hP
  have lE := hE.lt
  clear hg htab
  rcases hk with hk | ⟨hk, hk0, hk1⟩ | ⟨hk, hm, hm4⟩
  · have hc : chgO e p = some (p.map turnR) := by unfold chgO; rw [if_pos hk]
    have HC := Lib.hid hc
    have x0 : w.cell? ⟨E, 0, none⟩ = some (.int .i64 5) := by rw [← hk]; exact hE.cell rfl
    clear hE hc hk
    go_enter Tryz.func98, Tryz.ntmps98
    go_wp2_with fail
    refine (turnedOver_any _ p _ (HP.out.up (by repeat (first | exact Below.refl _ _ | (refine Below.alloc ?_ (by first | omega | (simp; done) | (simp; omega)) _) | (refine Below.setCell ?_ (by first | exact Nat.le_refl _ | (show _ ≤ _; omega) | (simp; done) | (simp; omega)) _) | refine below_drewN ?_ _ | refine Below.drew ?_))) (by omega)).mono ?_
    rintro e w1 ⟨v1, rfl, own1, hb_1⟩
    have KR_2 : Blk w1 (w.heap.size + 1) #[.slice none 0 0] 26 := by have := (Below.unalloc hb_1).2; simpa [Blk] using this
    replace hb_1 := (Below.unalloc hb_1).1
    have KP_3 : Blk w1 (w.heap.size) #[.slice AP p.length cP] 26 := by have := (Below.unalloc hb_1).2; simpa [Blk] using this
    replace hb_1 := (Below.unalloc hb_1).1
    have z_w1 : w.heap.size ≤ w1.heap.size := hb_1.size
    have KB_4 := Lib.hid hb_1
    have HO := Lib.hid own1
    obtain ⟨A1, c1, rfl, _⟩ := own_nil own1
    clear own1 x0
    have cR0_5 := Blk.cell (i := 0) (v := .slice none 0 0) KR_2 rfl
    have zR0_6 := Blk.frozen KR_2 0
    have lR_7 := Blk.lt KR_2
    go_wp2_with fail
    refine bodyPost_ret (v := .tuple #[.agg #[.slice A1 (p.map turnR).length c1], .int .i64 0]) (by simp [results, Tryz.results98, go_sem, cR0_5]) rfl ⟨KB_4.out.setCell (by show w.heap.size ≤ w.heap.size + 1; omega) _, _, _, _, ?_, by rw [HC.out]; exact .inl ⟨rfl, rfl, gramOk_turn HG.out⟩, rfl⟩
    exact ownsRow_more (ownsRow_setCell_below HO.out (a := ⟨w.heap.size + 1, 0, none⟩) (by simp) _) (by simp; omega)
  · have hn5 : ¬ e.kind = 5 := by omega
    have hc : chgO e p = limO (powG p e.k.toNat) := by unfold chgO; rw [if_neg hn5, if_pos hk]
    have hpc : powOut p e.k = limOut (powG p e.k.toNat) ∧ powCode p e.k = limCode (powG p e.k.toNat) := by
      have hb : inB e.k 0 1000000000000000 = true := by simp [inB]; omega
      unfold powOut powCode; simp [HG.out, hb]
    have HC := Lib.hid hc
    have HPC := Lib.hid hpc
    have x0 : w.cell? ⟨E, 0, none⟩ = some (.int .i64 6) := by rw [← hk]; exact hE.cell rfl
    have x3 := hE.cell (i := 3) (v := .int .i64 e.k) rfl
    have hEk := hE
    clear hE hc hk hn5 hpc
    go_enter Tryz.func98, Tryz.ntmps98
    go_wp2_with fail
    refine (implPower_any _ p e.k _ (HP.out.up (by repeat (first | exact Below.refl _ _ | (refine Below.alloc ?_ (by first | omega | (simp; done) | (simp; omega)) _) | (refine Below.setCell ?_ (by first | exact Nat.le_refl _ | (show _ ≤ _; omega) | (simp; done) | (simp; omega)) _) | refine below_drewN ?_ _ | refine Below.drew ?_))) (by omega) (tabB HT.out (by repeat (first | exact Below.refl _ _ | (refine Below.alloc ?_ (by first | omega | (simp; done) | (simp; omega)) _) | (refine Below.setCell ?_ (by first | exact Nat.le_refl _ | (show _ ≤ _; omega) | (simp; done) | (simp; omega)) _) | refine below_drewN ?_ _ | refine Below.drew ?_)))).mono ?_
    rintro e w1 ⟨hb_8, v1, own1, rfl⟩
    have KR_9 : Blk w1 (w.heap.size + 1) #[.slice none 0 0] 26 := by have := (Below.unalloc hb_8).2; simpa [Blk] using this
    replace hb_8 := (Below.unalloc hb_8).1
    have KP_10 : Blk w1 (w.heap.size) #[.slice AP p.length cP] 26 := by have := (Below.unalloc hb_8).2; simpa [Blk] using this
    replace hb_8 := (Below.unalloc hb_8).1
    have z_w1 : w.heap.size ≤ w1.heap.size := hb_8.size
    have KE_11 := Blk.up hEk hb_8
    have KB_12 := Lib.hid hb_8
    clear hEk
    have HO := Lib.hid own1
    obtain ⟨A1, c1, rfl, _⟩ := own_nil own1
    clear own1 x0
    have cR0_13 := Blk.cell (i := 0) (v := .slice none 0 0) KR_9 rfl
    have zR0_14 := Blk.frozen KR_9 0
    have lR_15 := Blk.lt KR_9
    go_wp2_with fail
    refine bodyPost_ret (v := .tuple #[.agg #[.slice A1 (powOut p e.k).length c1], .int .i64 (powCode p e.k)]) (by simp [results, Tryz.results98, go_sem, cR0_13]) rfl ⟨KB_12.out.setCell (by show w.heap.size ≤ w.heap.size + 1; omega) _, _, powOut p e.k, powCode p e.k, ?_, by rw [HC.out, HPC.out.1, HPC.out.2]; exact codeIs_lim _, rfl⟩
    exact ownsRow_more (ownsRow_setCell_below HO.out (a := ⟨w.heap.size + 1, 0, none⟩) (by simp) _) (by simp; omega)
  · have hn5 : ¬ e.kind = 5 := by omega
    have hn6 : ¬ e.kind = 6 := by omega
    have hc : chgO e p = mapO p (mapW e.map) := by unfold chgO; rw [if_neg hn5, if_neg hn6]
    have hwm := map_words hm hm4
    have HC := Lib.hid hc
    have HWM := Lib.hid hwm
    have HM := Lib.hid hm
    have x0 : w.cell? ⟨E, 0, none⟩ = some (.int .i64 7) := by rw [← hk]; exact hE.cell rfl
    have hEk := hE
    clear hE hc hk hn5 hn6 hm hwm
    go_enter Tryz.func98, Tryz.ntmps98
    go_wp2_with fail
    have KE1 : Blk ((w.alloc (.cells #[.slice AP p.length cP] 26)).alloc (.cells #[.slice none 0 0] 26)) E (editCells e vR) 30 := (hEk.alloc _).alloc _
    have cE5 := Blk.cell (i := 5) (v := .string e.map) KE1 rfl
    go_region_law (first
      | (go_simp; go_at_call 102; (refine (mapWords_any e.map _ HM.out hm4).mono ?_); rintro e1 w1 ⟨vW, rfl, hW, hb1⟩; obtain ⟨hb2, KR1⟩ := Below.unalloc (Below.undrew hb1); obtain ⟨hb3, KP1⟩ := Below.unalloc hb2; have cP1 := Blk.cell (i := 0) (v := .slice AP p.length cP) KP1 rfl; have KR2 : Blk w1 (w.heap.size + 1) #[.slice none 0 0] 26 := (by simpa [Blk] using KR1); have lR2 := Blk.lt KR2)
      | (go_simp; go_at_call 101; (refine (implMap_any _ _ p (mapW e.map) _ (HP.out.up hb3) hW HG.out HWM.out.2 HWM.out.1).mono ?_); rintro e2 w2 ⟨hb4, v2, own2, rfl⟩; obtain ⟨A2, k2, rfl, _⟩ := own_nil own2; have KR3 := KR2.up hb4; have cR3 := KR3.cell (i := 0) (v := .slice none 0 0) rfl; have fR3 := KR3.frozen 0; have lR3 := KR3.lt))
    all_goals
      have HO := Lib.hid own2
      have HB := Lib.hid (Below.tr hb3 hb4)
      clear hb1 hb2 hb3 hb4 own2 KR1 KR2 KP1 cP1 hW cE5 KE1 KR3
      go_wp2_with fail
      refine bodyPost_ret (v := .tuple #[.agg #[.slice A2 (mapOut p (mapW e.map)).length k2], .int .i64 (mapCode p (mapW e.map))]) (by simp [results, Tryz.results98, go_sem, cR3]) rfl ⟨HB.out.setCell (by show w.heap.size ≤ w.heap.size + 1; omega) _, _, _, _, ?_, by rw [HC.out]; exact codeIs_map _ _, rfl⟩
      exact ownsRow_more (ownsRow_setCell_below HO.out (a := ⟨w.heap.size + 1, 0, none⟩) lR2 _) (by omega)
structure EditAt (w : World) (B b : Nat) (e : GEdit) (vR : Value) : Prop where
  box : Box6 w b (.int .i64 e.kind) (.int .i64 e.i) (.int .i64 e.j) (.int .i64 e.k) vR (.string e.map)
  lt : b < B
  sl : Sl RuleE w B vR e.part
theorem EditAt.up {w w' : World} {b : Nat} {e : GEdit} {vR : Value} (h : EditAt w w.heap.size b e vR) (hb : Below w.heap.size w w') : EditAt w' w'.heap.size b e vR :=
  ⟨h.box.up hb h.lt, Nat.lt_of_lt_of_le h.lt hb.size, h.sl.up hb⟩
end Go.Proofs.YtdacndamehiglaaGreatDoor
