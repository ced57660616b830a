import Derived.Test.YtfhiaifdigefdaaDoorM2
import Derived.Lib.OthersKept
import Derived.Deep.CutRange
import Derived.Deep.DeepCutAuto
import Derived.Test.YtfhiaifdigefdaaDoorM1
import Derived.Deep.RegionHeld3
import Derived.OrdersHeld
import Derived.StillTail
namespace Go.Proofs.YtfhiaifdigefdaaDoor
open Go.RowKit
def Iter (W : World) (K : Nat) (s : ByteArray) (pos : Nat) : Prop := W.heap[K]? = some (.stringIter s pos)
theorem Iter.lt {W : World} {K : Nat} {s : ByteArray} {pos : Nat} (h : Iter W K s pos) : K < W.heap.size := (Array.getElem?_eq_some_iff.1 h).1
theorem Iter.up {w w' : World} {K N : Nat} {s : ByteArray} {pos : Nat} (h : Iter w K s pos) (hb : Below N w w') (hlt : K < N) : Iter w' K s pos := (hb.block K hlt).trans h
theorem Iter.not_row {w : World} {K : Nat} {s : ByteArray} {pos : Nat} (h : Iter w K s pos) {base e sz n : Nat} {v : Value} {xs : List Value} (own : w.ownsRow base e sz v n xs) : some K ≠ v.ownBlock := by
  intro he
  rcases own.2 with ⟨hn, _⟩ | ⟨g, cap, cur, rfl, hb, hgg, rest⟩
  · rw [hn] at he; cases he
  · have : g = K := by
      have : some g = some K := he.symm ▸ rfl
      injection this
    subst this
    rw [h] at hgg; cases hgg
theorem Iter.grown {w w' : World} {K base e sz n : Nat} {s : ByteArray} {pos : Nat} {v : Value} {xs : List Value} {o : Obj} (h : Iter w K s pos) (own : w.ownsRow base e sz v n xs) (hg : (w.alloc o).grownBy w' v.ownBlock) : Iter w' K s pos := by
  have h1 : Iter (w.alloc o) K s pos := h.up ((Below.refl w.heap.size w).alloc (Nat.le_refl _) o) h.lt
  exact (hg.block K h1.lt (h.not_row own)).trans h1
theorem Iter.set {w : World} {K B : Nat} {s : ByteArray} {pos : Nat} (h : Iter w K s pos) (hne : K ≠ B) (v : Value) : Iter (w.setCell ⟨B, 0, none⟩ v) K s pos := (heap_setCell_other w ⟨B, 0, none⟩ K v hne).trans h
def powStep (root : Int) (L : List GRule) (d : UInt8) : List GRule := L ++ [pairR ((L.length : Int) - 1) ((L.length : Int) - 1)] ++ (if d = 49 then [pairR (L.length : Int) root] else [])
def powG (xs : List GRule) (n : Nat) : List GRule := if n = 0 ∨ xs.length = 0 then [] else (binL n).tail.foldl (powStep ((xs.length : Int) - 1)) xs
theorem binL_len (n : Nat) : ∀ k, n < 2 ^ k → 1 ≤ k → (binL n).length ≤ k := by
  induction n using Nat.strongRecOn with
  | ind n ih =>
    intro k hk h1
    by_cases c : n < 2
    · rw [binL_lt c]; simpa using h1
    · rw [binL_ge c, List.length_append]
      have hk2 : 2 ≤ k := by
        rcases Nat.lt_or_ge k 2 with h | h
        · have : k = 1 := by omega
          subst this; simp at hk; omega
        · exact h
      obtain ⟨j, rfl⟩ : ∃ j, k = j + 1 := ⟨k - 1, by omega⟩
      rw [Nat.pow_succ] at hk
      have := ih (n / 2) (by omega) j (by omega) (by omega)
      simp; omega
theorem binL_dig (n : Nat) : ∀ d ∈ binL n, d = 48 ∨ d = 49 := by
  induction n using Nat.strongRecOn with
  | ind n ih =>
    by_cases c : n < 2
    · rw [binL_lt c]
      intro d hd
      have : d = UInt8.ofNat (48 + n) := by simpa using hd
      have h2 : n = 0 ∨ n = 1 := by omega
      rcases h2 with rfl | rfl
      · left; rw [this]; rfl
      · right; rw [this]; rfl
    · rw [binL_ge c]
      intro d hd
      rcases List.mem_append.1 hd with h | h
      · exact ih (n / 2) (by omega) d h
      · have : d = UInt8.ofNat (48 + n % 2) := by simpa using h
        have h2 : n % 2 = 0 ∨ n % 2 = 1 := by omega
        rcases h2 with e | e
        · left; rw [this, e]; rfl
        · right; rw [this, e]; rfl
theorem binL_pos (n : Nat) : 1 ≤ (binL n).length := by
  by_cases c : n < 2
  · rw [binL_lt c]; simp
  · rw [binL_ge c]; simp
theorem powStep_len (root : Int) (L : List GRule) (d : UInt8) : (powStep root L d).length ≤ L.length + 2 := by
  unfold powStep; split <;> simp
theorem powFold_len (root : Int) : ∀ (ds : List UInt8) (L : List GRule), (ds.foldl (powStep root) L).length ≤ L.length + 2 * ds.length := by
  intro ds
  induction ds with
  | nil => intro L; simp
  | cons d ds ih =>
    intro L
    have h1 := ih (powStep root L d)
    have h2 := powStep_len root L d
    simp only [List.foldl_cons, List.length_cons]
    omega
theorem SlS.drew1 {α : Type} {E : Enc α} {w : World} {v : Value} {xs : List α} (h : Sl E w w.heap.size v xs) : Sl E w.drew w.drew.heap.size v xs := h.keep fun _ _ => rfl
set_option maxRecDepth 100000 in
set_option maxHeartbeats 4000000 in
theorem power_any (v : Value) (xs : List GRule) (n : Nat) (w : World) (h : Sl RuleE w w.heap.size v xs) (hn : xs.length ≤ 1048576) (ht : n < 1152921504606846976) (htab : Lib.TabIs Tryd.prog w "math/bits.deBruijn64tab" .u8 deB64) :
    Calls Tryd.prog 27 #[.agg #[v], .int .i64 n] w (GOwn (powG xs n) w) := by
  have h1 := fun o o' => (h.below (((Below.refl w.heap.size w).alloc (Nat.le_refl _) o).alloc (by simp) o')).le (B' := ((w.alloc o).alloc o').heap.size) (by simp; omega)
  have H1 := Lib.hid h1
  have HT := Lib.hid htab
  clear h1 htab
  obtain ⟨A, c, rfl, hc, hm, hrow⟩ := h
  clear hm hrow
  by_cases h0 : n = 0 ∨ xs.length = 0
  · have hg : powG xs n = [] := by rw [powG, if_pos h0]
    have Hg := Lib.hid hg
    clear hg
    by_cases hz : n = 0
    · subst hz
      clear h0
      go_enter Tryd.func27, Tryd.ntmps27
      go_wp2_with fail
      refine bodyPost_ret (v := .agg #[.slice none 0 0]) (by simp [results, Tryd.results27, go_sem]) rfl ⟨(by repeat (first | exact Below.refl _ _ | (refine Below.alloc ?_ (by first | omega | (simp; done) | (simp; omega)) _) | refine below_drewN ?_ _ | refine Below.drew ?_)), _, by rw [Hg.out]; exact World.ownsRow_nil _ _ _ _, rfl⟩
    · have hx : xs.length = 0 := by omega
      have g0 : ((n : Int) == 0) = false := by rw [beq_eq_false_iff_ne]; omega
      have g1 : ((xs.length : Int) == 0) = true := by simp [hx]
      clear h0 hx
      go_enter Tryd.func27, Tryd.ntmps27
      go_wp2_with fail
      refine bodyPost_ret (v := .agg #[.slice none 0 0]) (by simp [results, Tryd.results27, go_sem]) rfl ⟨(by repeat (first | exact Below.refl _ _ | (refine Below.alloc ?_ (by first | omega | (simp; done) | (simp; omega)) _) | refine below_drewN ?_ _ | refine Below.drew ?_)), _, by rw [Hg.out]; exact World.ownsRow_nil _ _ _ _, rfl⟩
  · have hg : powG xs n = (binL n).tail.foldl (powStep ((xs.length : Int) - 1)) xs := by rw [powG, if_neg h0]
    have Hg := Lib.hid hg
    have g0 : ((n : Int) == 0) = false := by rw [beq_eq_false_iff_ne]; omega
    have g1 : ((xs.length : Int) == 0) = false := by rw [beq_eq_false_iff_ne]; omega
    have hwx : IntKind.i64.wrap ((xs.length : Int) - 1) = (xs.length : Int) - 1 := IntWalk.i64_in _ (by omega)
    clear hg
    go_enter Tryd.func27, Tryd.ntmps27
    have hW0 : ∃ w0, w0 = (w.alloc (Obj.cells #[Value.slice A xs.length c] 26)).alloc (Obj.cells #[Value.slice none 0 0] 26) := ⟨_, rfl⟩
    obtain ⟨w0, hw0⟩ := hW0
    have HW0 := Lib.hid hw0
    have hs0 : w0.heap.size = w.heap.size + 2 := by rw [hw0]; simp
    have hB0 : Below w.heap.size w w0 := by rw [hw0]; exact (by repeat (first | exact Below.refl _ _ | (refine Below.alloc ?_ (by first | omega | (simp; done) | (simp; omega)) _) | refine below_drewN ?_ _ | refine Below.drew ?_))
    have hS0 : Sl RuleE w0 w0.heap.size (Value.slice A xs.length c) xs := by rw [hw0]; exact H1.out _ _
    have x0 : w0.cell? ⟨w.heap.size, 0, none⟩ = some (.slice A xs.length c) := by rw [hw0]; simp [go_sem]
    have y0 : w0.cell? ⟨w.heap.size + 1, 0, none⟩ = some (.slice none 0 0) := by rw [hw0]; simp [go_sem]
    have f0 : w0.frozen? ⟨w.heap.size + 1, 0, none⟩ = false := by rw [hw0]; simp [go_sem]
    have X0 := Lib.hid x0
    have Y0 := Lib.hid y0
    have F0 := Lib.hid f0
    have HB0 := Lib.hid hB0
    have cB : Calls Tryd.prog 46 #[.agg #[.slice A xs.length c]] w0.drew fun e w' => ∃ A1 c1, e = .returned (.agg #[.slice A1 xs.length c1]) ∧ OwnRules w' w0.heap.size (.slice A1 xs.length c1) xs ∧ Below w0.heap.size w0 w' :=
      (copied_any _ xs w0.drew (hS0.up (Below.drew (Below.refl _ _))) (by omega)).mono fun e w' ⟨v', h1, h2, h3⟩ => by
        obtain ⟨A1, c1, rfl, _⟩ := own_nil h2
        exact ⟨A1, c1, h1, h2, (Below.drew (Below.refl w0.heap.size w0)).trans h3⟩
    have cA : ∀ o, Calls Tryd.prog 46 #[.agg #[.slice A xs.length c]] (w0.alloc o).drew fun e w' => (∃ A1 c1, e = .returned (.agg #[.slice A1 xs.length c1]) ∧ OwnRules w' w0.heap.size (.slice A1 xs.length c1) xs ∧ Below w0.heap.size w0 w') ∧ w'.heap[w0.heap.size]? = some o :=
      fun o => (copied_any _ xs (w0.alloc o).drew ((hS0.up ((Below.refl _ _).alloc (Nat.le_refl _) o)).drew1) (by omega)).mono fun e w' ⟨v', h1, h2, h3⟩ => by
        obtain ⟨A1, c1, rfl, _⟩ := own_nil h2
        have hsz : w0.heap.size < (w0.alloc o).drew.heap.size := by show w0.heap.size < (w0.alloc o).heap.size; simp
        exact ⟨⟨A1, c1, h1, ownsRow_more h2 (Nat.le_of_lt hsz), (Below.drew ((Below.refl w0.heap.size w0).alloc (Nat.le_refl _) o)).trans (h3.mono (Nat.le_of_lt hsz))⟩, (h3.block w0.heap.size hsz).trans (alloc_heap_last _ _)⟩
    have CA := Lib.hid cA
    have CB := Lib.hid cB
    have Hs0 := Lib.hid hs0
    clear cA cB hB0 hS0 hw0 x0 y0 f0 hs0
    go_upto_region 3 with fail
    rw [← HW0.out]
    clear HW0
    go_cut [5, 6] (fun p q wx => ∃ (K : Nat) (vo : Value), p = .pointer (some ⟨K, 0, none⟩) ∧ q = .int .i64 ((xs.length : Int) - 1) ∧ w0.heap.size ≤ K ∧ Boxed wx K 26 vo ∧ OwnRules wx w0.heap.size vo xs ∧ Below w0.heap.size w0 wx)
    case first =>
      have x0 := X0.out
      have z0 : w.heap.size < w0.heap.size := by have := Hs0.out; omega
      go_region_law (go_simp; go_at_call 46; first
          | ((with_reducible refine (CA.out _).mono ?_); rintro e w1 ⟨⟨A1, c1, rfl, own1, hb1⟩, bx1⟩; have bxB : Boxed w1 w0.heap.size 26 (.slice none 0 0) := bx1; have hcb := bxB.cell; have hfb := bxB.frozen; have hlb := bxB.lt; have xx1 := (hb1.cell (p := ⟨w.heap.size, 0, none⟩) z0).trans X0.out; have zz1 := Nat.lt_of_lt_of_le z0 hb1.size)
          | ((with_reducible refine CB.out.mono ?_); rintro e w1 ⟨A1, c1, rfl, own1, hb1⟩; have xx1 := (hb1.cell (p := ⟨w.heap.size, 0, none⟩) z0).trans X0.out; have zz1 := Nat.lt_of_lt_of_le z0 hb1.size))
      all_goals
        go_wp2_with fail
        go_meet
        first
          | exact ⟨_, _, rfl, rfl, hb1.size, Boxed.new _ _ _, own1.alloc _, hb1.alloc hb1.size _⟩
          | exact ⟨_, _, rfl, rfl, Nat.le_refl _, Boxed.set _ bxB, ownsRow_setCell_other (a := ⟨w0.heap.size, 0, none⟩) own1 (bxB.not_row (by decide) own1).symm _, hb1.setCell (Nat.le_refl _) _⟩
    case rest =>
      revert hcut
      generalize wc = w1
      intro hcut
      obtain ⟨K, vo, rfl, rfl, hK, bx1, own1, hb1⟩ := hcut
      have hKl := bx1.lt
      have hxt := binL_len n 60 ht (by omega)
      have HT1 := Lib.hid (tab_below HT.out (HB0.out.trans (hb1.mono HB0.out.size)))
      go_wp2_with fail
      refine (formatInt_two n ht _ HT1.out).mono ?_
      rintro e w2 ⟨rfl, hb2⟩
      have bx2 := Boxed.up bx1 hb2 hKl
      have own2 : OwnRules w2 w0.heap.size vo xs := OwnRules.below own1 hb2
      have B2 := Lib.hid (hb1.trans (hb2.mono hb1.size))
      clear hb1 hb2 bx1 own1
      obtain ⟨BL, hBL⟩ : ∃ BL, binL n = BL := ⟨_, rfl⟩
      have hB1 : 1 ≤ BL.length := by rw [← hBL]; exact binL_pos n
      have hB60 : BL.length ≤ 60 := by rw [← hBL]; exact hxt
      have hdig : ∀ d ∈ BL, d = 48 ∨ d = 49 := by rw [← hBL]; exact binL_dig n
      have HBL := Lib.hid hBL
      rw [hBL]
      clear hBL
      obtain ⟨d0, ds, rfl⟩ : ∃ d0 ds, BL = d0 :: ds := by
        cases BL with
        | nil => simp at hB1
        | cons a l => exact ⟨a, l, rfl⟩
      have Hdig := Lib.hid hdig
      clear hdig hxt
      go_wp2_with fail
      have hex : (⟨(d0 :: ds).toArray⟩ : ByteArray).extract 1 (ds.length + 1) = ⟨ds.toArray⟩ := by
        apply ByteArray.ext
        simp [ByteArray.data_extract]
      rw [hex]
      clear hex
      have hit : Iter (w2.iter ⟨ds.toArray⟩ 0) w2.heap.size ⟨ds.toArray⟩ 0 := World.iter_heap _ _ _
      have hb3 : Below w2.heap.size w2 (w2.iter ⟨ds.toArray⟩ 0) := (Below.refl _ _).alloc (Nat.le_refl _) _
      have bx3 := Boxed.up bx2 hb3 bx2.lt
      have own3 : OwnRules (w2.iter ⟨ds.toArray⟩ 0) w0.heap.size vo xs := OwnRules.below own2 hb3
      have hK2 : K < w2.heap.size := bx2.lt
      have B3 := Lib.hid (B2.out.trans (hb3.mono B2.out.size))
      have hw02 : w0.heap.size ≤ w2.heap.size := B2.out.size
      clear hb3 bx2 own2
      revert hit bx3 own3 B3
      generalize w2.iter ⟨ds.toArray⟩ 0 = w3
      intro hit bx3 own3 B3
      obtain ⟨I, hI⟩ : ∃ I, w2.heap.size = I := ⟨_, rfl⟩
      rw [hI] at hit hK2 hw02
      rw [hI]
      clear hI
      have hdl : ds.length ≤ 60 := by simp at hB60; omega
      go_loopw [9] (fun q wr => ∃ (k : Nat) (vo : Value), k ≤ ds.length ∧ Iter wr I ⟨ds.toArray⟩ k ∧ Boxed wr K 26 vo ∧ OwnRules wr w0.heap.size vo ((ds.take k).foldl (powStep ((xs.length : Int) - 1)) xs) ∧ Below w0.heap.size w0 wr) (fun _ wr => ds.length - (match wr.heap[I]? with | some (.stringIter _ p) => p | _ => 0))
      case atStart => exact ⟨0, vo, Nat.zero_le _, hit, bx3, by simpa using own3, B3.out⟩
      case round =>
        obtain ⟨k, vo, hk, hit, hbox, hown, hb⟩ := hrel
        have Hb := Lib.hid hb
        have Hown := Lib.hid hown
        have Hbox := Lib.hid hbox
        have Hit := Lib.hid hit
        have hll := powFold_len ((xs.length : Int) - 1) (ds.take k) xs
        obtain ⟨L, hL⟩ : ∃ L, (ds.take k).foldl (powStep ((xs.length : Int) - 1)) xs = L := ⟨_, rfl⟩
        have HL := Lib.hid hL
        have hlen : L.length ≤ 2000000 := by rw [← hL]; simp at hll; omega
        rw [hL] at Hown
        clear hb hown hbox hit hll hL
        by_cases hlt : k < ds.length
        · have Hlt := Lib.hid hlt
          have hsz : k < (⟨ds.toArray⟩ : ByteArray).size := by show k < ds.toArray.size; simpa using hlt
          have hdk : (⟨ds.toArray⟩ : ByteArray)[k]'hsz = ds[k] := rfl
          have hd := Hdig.out ds[k] (by simp)
          have hnx := fun ty => Lib.run_next_ascii_at (P := Tryd.prog) wr I ⟨ds.toArray⟩ k ty Hit.out hsz (by rw [hdk]; rcases hd with h | h <;> rw [h] <;> decide)
          rw [hdk] at hnx
          have hii := Lib.iterAt_heap wr I ⟨ds.toArray⟩ k (k + 1) Hit.out
          have hio := fun j hj => Lib.iterAt_other wr I j ⟨ds.toArray⟩ (k + 1) hj
          have his := Lib.iterAt_size wr I ⟨ds.toArray⟩ (k + 1)
          have hbi := Lib.below_iterAt Hb.out (k := I) hw02 ⟨ds.toArray⟩ (k + 1)
          obtain ⟨wi, hwi⟩ : ∃ wi, wr.iterAt I ⟨ds.toArray⟩ (k + 1) = wi := ⟨_, rfl⟩
          simp only [hwi] at hnx hii hio his hbi
          have Bi := Lib.hid hbi
          have Iti := Lib.hid (show Iter wi I ⟨ds.toArray⟩ (k + 1) from hii)
          have Bxi := Lib.hid (show Boxed wi K 26 vo from (hio K (by omega)).trans Hbox.out)
          have Owi := Lib.hid (show OwnRules wi w0.heap.size vo L from own_keep Hown.out fun g hg => hio g fun e => by
            have := Hit.out.not_row Hown.out
            rw [hg, e] at this; exact this rfl)
          obtain ⟨D, hD⟩ : ∃ D, ds[k] = D := ⟨_, rfl⟩
          rw [hD] at hnx hd
          have HD := Lib.hid hD
          obtain ⟨Ao, co, rfl, _⟩ := own_nil Owi.out
          have bxc := Bxi.out.cell
          have bxf := Bxi.out.frozen
          clear hwi hii hio his hbi hdk hD
          have hw1 : IntKind.i64.wrap ((L.length : Int) - 1) = (L.length : Int) - 1 := IntWalk.i64_in _ (by omega)
          have Hll : Hid (L.length ≤ 1099511627775) := by rw [Hid]; omega
          have Hw0 := Lib.hid (show w0.heap.size ≤ wi.heap.size from Bi.out.size)
          have HKw := Lib.hid (show K < wi.heap.size from Bxi.out.lt)
          have HIw := Lib.hid (show I < wi.heap.size from Iti.out.lt)
          have Hlen := Lib.hid hlen
          clear hlen
          go_upto_region 8 with fail
          go_cut [9] from 29 to 54 (fun q wx => q = .int .i64 L.length ∧ ∃ vo : Value, Iter wx I ⟨ds.toArray⟩ (k + 1) ∧ Boxed wx K 26 vo ∧ OwnRules wx w0.heap.size vo (L ++ [pairR ((L.length : Int) - 1) ((L.length : Int) - 1)]) ∧ Below w0.heap.size w0 wx)
          case first =>
            go_region_law (first
              | (refine step_push_rule (base := w0.heap.size) (by rfl) _ _ (by rfl) (by rfl) (by first | rfl | simp) rfl (OwnRules.below Owi.out.drew hb2) Hll hs2 ?_; intro v3 w3 own3 hg3 hb3; have bx4 : Boxed w3 K 26 _ := Boxed.grown (Boxed.up (Boxed.mk' Bxi.out) hb2 HKw.out) (by decide) (OwnRules.below Owi.out.drew hb2) hg3; have it4 : Iter w3 I ⟨ds.toArray⟩ (k + 1) := Iter.grown (Iter.up (w := wi.drew) Iti.out hb2 HIw.out) (OwnRules.below Owi.out.drew hb2) hg3; obtain ⟨A3, c3, rfl, _⟩ := own_nil own3; have hcb3 := bx4.cell; have hfb3 := bx4.frozen; have hlb3 := bx4.lt)
              | (go_simp; go_at_call 48; refine (pairInt_any _ _ _).mono ?_; rintro e w4 ⟨rfl, hb2⟩; have bx2 := Boxed.up (Boxed.mk' Bxi.out) hb2 HKw.out; have hcb2 := bx2.cell; have hfb2 := bx2.frozen; have hlb2 := bx2.lt; have hs2 : w0.heap.size ≤ w4.heap.size := Nat.le_trans Hw0.out hb2.size))
            all_goals
              go_wp2_with fail
              go_meet
              try rw [hw1] at own3
              have e9 : (L ++ [pairR ((L.length : Int) - 1) ((L.length : Int) - 1)]).length = L.length + 1 := by simp
              have own9 : OwnRules w3 w0.heap.size (.slice A3 (L.length + 1) c3) (L ++ [pairR ((L.length : Int) - 1) ((L.length : Int) - 1)]) := by rw [← e9]; exact own3
              refine ⟨rfl, _, it4.set (by omega) _, Boxed.set _ bx4, ownsRow_setCell_other (a := ⟨K, 0, none⟩) own9 (bx4.not_row (by decide) own9).symm _, ?_⟩
              exact ((((Below.drew Bi.out).trans (hb2.mono Hw0.out)).alloc hs2 _).trans hb3).setCell hK _
          case rest =>
            revert hcut
            generalize wc = w5
            intro hcut
            obtain ⟨rfl, vo5, it5, bx5, own5, b5⟩ := hcut
            have It5 := Lib.hid it5
            have Bx5 := Lib.hid bx5
            have B5 := Lib.hid b5
            obtain ⟨M, hM⟩ : ∃ M, L ++ [pairR ((L.length : Int) - 1) ((L.length : Int) - 1)] = M := ⟨_, rfl⟩
            rw [hM] at own5
            have hMl : M.length = L.length + 1 := by rw [← hM]; simp
            have HM := Lib.hid hM
            have Ow5 := Lib.hid own5
            obtain ⟨A5, c5, rfl, _⟩ := own_nil own5
            have bxc5 := bx5.cell
            have bxf5 := bx5.frozen
            clear hM it5 bx5 b5 own5
            have Hstep : Hid ((ds.take (k + 1)).foldl (powStep ((xs.length : Int) - 1)) xs = powStep ((xs.length : Int) - 1) L D) := by
              rw [Hid, List.take_add_one, List.getElem?_eq_getElem hlt, List.foldl_append, HL.out, HD.out]; rfl
            rcases hd with rfl | rfl
            · go_wp2_with fail
              have e : powStep ((xs.length : Int) - 1) L 48 = M := by rw [← HM.out]; simp [powStep]
              refine ⟨⟨k + 1, _, by omega, It5.out, Bx5.out, ?_, B5.out⟩, ?_⟩
              · rw [Hstep.out, e]; exact Ow5.out
              · have i1 : w5.heap[I]? = some (.stringIter ⟨ds.toArray⟩ (k + 1)) := It5.out
                have i2 : wr.heap[I]? = some (.stringIter ⟨ds.toArray⟩ k) := Hit.out
                rw [i1, i2]
                show ds.length - (k + 1) < ds.length - k
                have := Hlt.out; omega
            · have Hw5 := Lib.hid (show w0.heap.size ≤ w5.heap.size from B5.out.size)
              have HK5 := Lib.hid (show K < w5.heap.size from Bx5.out.lt)
              have HI5 := Lib.hid (show I < w5.heap.size from It5.out.lt)
              have Hml : Hid (M.length ≤ 1099511627775) := by rw [Hid]; have := Hlen.out; omega
              have HMl := Lib.hid hMl
              clear hMl
              go_wp2_with fail
              go_region_law (first
                | (refine step_push_rule (base := w0.heap.size) (by rfl) _ _ (by rfl) (by rfl) (by first | rfl | simp) rfl (OwnRules.below Ow5.out.drew hb6) Hml hs6 ?_; intro v7 w7 own7 hg7 hb7; have bx7 : Boxed w7 K 26 _ := Boxed.grown (Boxed.up (Boxed.mk' Bx5.out) hb6 HK5.out) (by decide) (OwnRules.below Ow5.out.drew hb6) hg7; have it7 : Iter w7 I ⟨ds.toArray⟩ (k + 1) := Iter.grown (Iter.up (w := w5.drew) It5.out hb6 HI5.out) (OwnRules.below Ow5.out.drew hb6) hg7; obtain ⟨A7, c7, rfl, _⟩ := own_nil own7; have hcb7 := bx7.cell; have hfb7 := bx7.frozen; have hlb7 := bx7.lt)
                | (go_simp; go_at_call 48; refine (pairInt_any _ _ _).mono ?_; rintro e w6 ⟨rfl, hb6⟩; have bx6 := Boxed.up (Boxed.mk' Bx5.out) hb6 HK5.out; have hcb6 := bx6.cell; have hfb6 := bx6.frozen; have hlb6 := bx6.lt; have hs6 : w0.heap.size ≤ w6.heap.size := Nat.le_trans Hw5.out hb6.size))
              all_goals
                go_wp2_with fail
                have e : powStep ((xs.length : Int) - 1) L 49 = M ++ [pairR (L.length : Int) ((xs.length : Int) - 1)] := by rw [← HM.out]; simp [powStep]
                have e9 : (M ++ [pairR (L.length : Int) ((xs.length : Int) - 1)]).length = M.length + 1 := by simp
                have own9 : OwnRules w7 w0.heap.size (.slice A7 (M.length + 1) c7) (M ++ [pairR (L.length : Int) ((xs.length : Int) - 1)]) := by rw [← e9]; exact own7
                have it9 := it7.set (B := K) (by omega) (.slice A7 (M.length + 1) c7)
                refine ⟨⟨k + 1, _, by have := Hlt.out; omega, it9, Boxed.set _ bx7, ?_, ?_⟩, ?_⟩
                · rw [Hstep.out, e]; exact ownsRow_setCell_other (a := ⟨K, 0, none⟩) own9 (bx7.not_row (by decide) own9).symm _
                · exact ((((Below.drew B5.out).trans (hb6.mono Hw5.out)).alloc hs6 _).trans hb7).setCell hK _
                · have i1 : (w7.setCell ⟨K, 0, none⟩ (.slice A7 (M.length + 1) c7)).heap[I]? = some (.stringIter ⟨ds.toArray⟩ (k + 1)) := it9
                  have i2 : wr.heap[I]? = some (.stringIter ⟨ds.toArray⟩ k) := Hit.out
                  rw [i1, i2]
                  show ds.length - (k + 1) < ds.length - k
                  have := Hlt.out; omega
        · have hkn : k = ds.length := by omega
          subst hkn
          have hsz : ¬ ds.length < (⟨ds.toArray⟩ : ByteArray).size := by show ¬ ds.length < ds.toArray.size; simp
          have hnx := fun ty => Lib.run_next_end_at (P := Tryd.prog) wr I ⟨ds.toArray⟩ ds.length ty Hit.out hsz
          obtain ⟨Ao, co, rfl, _⟩ := own_nil Hown.out
          have bxc := Hbox.out.cell
          have y0 := (Hb.out.cell (p := ⟨w.heap.size + 1, 0, none⟩) (by have := Hs0.out; show w.heap.size + 1 < _; omega)).trans Y0.out
          have f0 := (Hb.out.frozen (p := ⟨w.heap.size + 1, 0, none⟩) (by have := Hs0.out; show w.heap.size + 1 < _; omega)).trans F0.out
          have HL' : Hid (powG xs n = L) := by rw [Hid, Hg.out, HBL.out, List.tail_cons, ← HL.out, List.take_length]
          clear hlen hlt hsz
          go_wp2_with fail
          refine bodyPost_ret (v := .agg #[.slice Ao L.length co]) (by simp [results, Tryd.results27, go_sem, y0]) rfl ⟨?_, _, ?_, rfl⟩
          · exact (HB0.out.trans (Hb.out.mono HB0.out.size)).setCell (by show w.heap.size ≤ w.heap.size + 1; omega) _
          · rw [HL'.out]
            have h6 := ownsRow_setCell_below (a := ⟨w.heap.size + 1, 0, none⟩) Hown.out (by have := Hs0.out; show w.heap.size + 1 < w0.heap.size; omega) (.slice Ao L.length co)
            exact ownsRow_more h6 HB0.out.size
def gramLen (xs : List GRule) : Int := match lens xs with | some ls => lastI ls | none => 0
theorem gramLen_of {xs : List GRule} {ls : List Int} (h : lens xs = some ls) : gramLen xs = lastI ls := by simp [gramLen, h]
theorem lastI_bounds {xs : List GRule} {ls : List Int} (h : lens xs = some ls) : 0 ≤ lastI ls ∧ lastI ls ≤ 1000000000000000 := by
  have hll := lens_length h
  unfold lastI
  by_cases h0 : xs.length = 0
  · have : ls = [] := List.eq_nil_of_length_eq_zero (by omega)
    subst this; simp
  · have := lens_pos' h (r := ls.length - 1) (by omega)
    omega
theorem gramLen_bounds (xs : List GRule) : 0 ≤ gramLen xs ∧ gramLen xs ≤ 1000000000000000 := by
  unfold gramLen
  split
  · rename_i ls h; exact lastI_bounds h
  · omega
set_option maxRecDepth 100000 in
theorem l02Length_any (b o : Nat) (v : Value) (xs : List GRule) (ls : List Int) (w : World) (hl : lens xs = some ls) (hp : w.cell? ⟨b, o, none⟩ = some v) (hbl : b < w.heap.size) (h : Sl RuleE w w.heap.size v xs) (hsm : SmallL xs) (hn : xs.length ≤ 1099511627776) :
    Calls Tryd.prog 45 #[.pointer (some ⟨b, o, none⟩)] w fun e w' => e = .returned (.int .i64 (lastI ls)) ∧ Below w.heap.size w w' := by
  have Hsl := Lib.hid h
  have Hl := Lib.hid hl
  clear h hl
  go_enter Tryd.func45, Tryd.ntmps45
  go_wp2_with fail
  refine (l02Sizes_any _ _ _ _ _ hp hbl Hsl.out hsm hn).mono ?_
  rintro e w1 ⟨hb, (⟨ls', v1, h1, rfl, h2⟩ | ⟨h1, _⟩)⟩
  · have e1 : ls' = ls := by rw [Hl.out] at h1; injection h1 with h1; exact h1.symm
    subst e1
    have HB := Lib.hid hb
    have hsl := h2.sl
    obtain ⟨A, c, rfl, hc, hm, hrow⟩ := hsl
    unfold maxLen at hm
    clear h1 h2 hb
    by_cases h0 : ls'.length = 0
    · have hl : ls' = [] := List.eq_nil_of_length_eq_zero h0
      subst hl
      clear hrow
      go_wp2_with fail
      go_ret
      exact ⟨rfl, HB.out⟩
    · obtain ⟨b, o, rfl, hbl, hcell⟩ := hrow.int (k := 0) (by omega)
      have hc0 := hcell (ls'.length - 1) (by omega)
      have g0 : ((ls'.length : Int) == 0) = false := by rw [beq_eq_false_iff_ne]; omega
      have hk : ((ls'.length : Int) - 1).toNat = ls'.length - 1 := by omega
      have hl : 0 ≤ (ls'.length : Int) - 1 := by omega
      have hwr : IntKind.i64.wrap ((ls'.length : Int) - 1) = (ls'.length : Int) - 1 := IntWalk.i64_in _ (by omega)
      obtain ⟨x, hx⟩ : ∃ x, ls'.getD (ls'.length - 1) 0 = x := ⟨_, rfl⟩
      have Hx := Lib.hid hx
      rw [hx] at hc0
      clear hcell hx hrow
      go_wp2_with fail
      go_ret
      exact ⟨ret_int (by rw [lastI, Hx.out]), HB.out⟩
  · rw [Hl.out] at h1; cases h1
theorem lens_app (xs ys : List GRule) : lens (xs ++ ys) = ys.foldl lensStep (lens xs) := by simp [lens, List.foldl_append]
theorem lens_pre {xs ys : List GRule} {l : List Int} (h : lens (xs ++ ys) = some l) : ∃ l1 t, lens xs = some l1 ∧ l = l1 ++ t := by
  rw [lens_app] at h
  cases hx : lens xs with
  | none => rw [hx, lens_none] at h; cases h
  | some l1 =>
    rw [hx] at h
    suffices H : ∀ (ys : List GRule) (a o : List Int), ys.foldl lensStep (some a) = some o → ∃ t, o = a ++ t by
      obtain ⟨t, ht⟩ := H ys l1 l h
      exact ⟨l1, t, rfl, ht⟩
    intro ys
    induction ys with
    | nil => intro a o h; simp at h; exact ⟨[], by simp [h]⟩
    | cons y ys ih =>
      intro a o h
      rw [List.foldl_cons] at h
      cases hs : lensStep (some a) y with
      | none => rw [hs, lens_none] at h; cases h
      | some b =>
        rw [hs] at h
        obtain ⟨t, rfl⟩ := ih b o h
        simp only [lensStep, Option.bind_some] at hs
        split at hs
        · cases hs; exact ⟨_, by rw [List.append_assoc]⟩
        · cases hs
theorem getR_app {xs ys : List GRule} {r : Nat} (h : r < xs.length) : getR (xs ++ ys) r = getR xs r := by
  unfold getR; rw [List.getD_eq_getElem?_getD, List.getElem?_append_left h, List.getD_eq_getElem?_getD]
theorem wordR_app {xs ys : List GRule} {ls : List Int} (h : lens xs = some ls) : ∀ (f r : Nat), r < xs.length → wordR (xs ++ ys) f r = wordR xs f r := by
  intro f
  induction f with
  | zero => intro r _; rfl
  | succ f ih =>
    intro r hr
    rw [wordR, wordR, getR_app hr]
    cases hp : (getR xs r).pair with
    | false => rfl
    | true =>
      obtain ⟨q1, q2, q3, q4, q5⟩ := lens_pair h hr hp
      rw [if_pos rfl, if_pos rfl, ih _ (by omega), ih _ (by omega)]
theorem W1_appL {xs ys : List GRule} {ls : List Int} (h : lens xs = some ls) {r : Nat} (hr : r < xs.length) : W1 (xs ++ ys) r = W1 xs r := wordR_app h _ _ hr
theorem getR_new (xs : List GRule) (x : GRule) : getR (xs ++ [x]) xs.length = x := by
  unfold getR; rw [List.getD_eq_getElem?_getD, List.getElem?_append_right (Nat.le_refl _), Nat.sub_self]; rfl
theorem W1_snoc {xs : List GRule} {l : List Int} {a b : Nat} (h : lens (xs ++ [pairR a b]) = some l) (ha : a < xs.length) (hb : b < xs.length) : W1 (xs ++ [pairR a b]) xs.length = W1 xs a ++ W1 xs b := by
  obtain ⟨l1, t, h1, _⟩ := lens_pre h
  have hp : (getR (xs ++ [pairR a b]) xs.length).pair = true := by rw [getR_new]; exact pairR_pair _ _
  rw [W1_pair h (by simp) hp, getR_new]
  show W1 (xs ++ [pairR a b]) (Int.toNat (a : Int)) ++ W1 (xs ++ [pairR a b]) (Int.toNat (b : Int)) = _
  rw [Int.toNat_natCast, Int.toNat_natCast, W1_appL h1 ha, W1_appL h1 hb]
theorem lens_snoc {xs : List GRule} {ls : List Int} {a b : Nat} (h : lens xs = some ls) (ha : a < xs.length) (hb : b < xs.length) (hm : ls.getD a 0 + ls.getD b 0 ≤ maxL) : lens (xs ++ [pairR a b]) = some (ls ++ [ls.getD a 0 + ls.getD b 0]) := by
  rw [lens_app, h]
  have hl := lens_length h
  have hr : ruleLen ls (pairR a b) = ls.getD a 0 + ls.getD b 0 := by
    unfold ruleLen
    rw [if_pos (pairR_pair _ _)]
    show ls.getD (Int.toNat (a : Int)) 0 + ls.getD (Int.toNat (b : Int)) 0 = _
    rw [Int.toNat_natCast, Int.toNat_natCast]
  simp only [List.foldl_cons, List.foldl_nil, lensStep, Option.bind_some]
  rw [hr, if_pos ⟨okRule_pair ⟨by omega, by omega⟩ ⟨by omega, by omega⟩, hm⟩]
theorem wordG_snoc {xs : List GRule} {x : GRule} : wordG (xs ++ [x]) = W1 (xs ++ [x]) xs.length := by
  rw [wordG_pos (by simp)]; simp
def repW (w : List UInt8) (n : Nat) : List UInt8 := (List.replicate n w).flatten
theorem repW_add (w : List UInt8) (m n : Nat) : repW w (m + n) = repW w m ++ repW w n := by
  unfold repW; rw [← List.replicate_append_replicate, List.flatten_append]
theorem repW_one (w : List UInt8) : repW w 1 = w := by simp [repW]
theorem repW_len (w : List UInt8) (n : Nat) : (repW w n).length = n * w.length := by simp [repW]
def digV (m : Nat) (d : UInt8) : Nat := 2 * m + (if d = 49 then 1 else 0)
theorem powStep_pre (root : Int) (L : List GRule) (ds : List UInt8) : ∃ t, ds.foldl (powStep root) L = L ++ t := by
  induction ds generalizing L with
  | nil => exact ⟨[], by simp⟩
  | cons d ds ih =>
    obtain ⟨t, ht⟩ := ih (powStep root L d)
    rw [List.foldl_cons, ht]
    unfold powStep
    exact ⟨_, by simp only [List.append_assoc]; rfl⟩
theorem powFold_word {w : List UInt8} {root : Nat} : ∀ (ds : List UInt8) (L : List GRule) (l : List Int) (m : Nat), lens (ds.foldl (powStep (root : Int)) L) = some l → 0 < L.length → root < L.length → W1 L root = w → wordG L = repW w m →
    wordG (ds.foldl (powStep (root : Int)) L) = repW w (ds.foldl digV m) := by
  intro ds
  induction ds with
  | nil => intro L l m _ _ _ _ h; exact h
  | cons d ds ih =>
    intro L l m hl h0 hr hw hm
    rw [List.foldl_cons] at hl ⊢
    rw [List.foldl_cons]
    obtain ⟨t, ht⟩ := powStep_pre root (powStep root L d) ds
    obtain ⟨l1, _, h1, _⟩ := lens_pre (by rw [← ht]; exact hl)
    have e0 : ((L.length : Int) - 1) = ((L.length - 1 : Nat) : Int) := by omega
    have hS : powStep root L d = (L ++ [pairR ((L.length - 1 : Nat) : Int) ((L.length - 1 : Nat) : Int)]) ++ (if d = 49 then [pairR (L.length : Int) root] else []) := by
      unfold powStep; rw [e0]
    rw [hS] at h1
    obtain ⟨l2, _, h2, _⟩ := lens_pre h1
    obtain ⟨l3, _, h3, _⟩ := lens_pre h2
    have w2 := W1_snoc h2 (by omega) (by omega)
    have hlast : W1 L (L.length - 1) = repW w m := by rw [← hm, wordG_pos h0]
    rw [hlast] at w2
    refine ih _ l _ hl ?_ ?_ ?_ ?_
    · rw [hS]; simp only [List.length_append]; omega
    · rw [hS]; simp only [List.length_append]; omega
    · rw [hS, List.append_assoc, W1_appL h3 hr, hw]
    · rw [hS]
      by_cases hd : d = 49
      · rw [if_pos hd] at h1 ⊢
        have hl2 : (L ++ [pairR ((L.length - 1 : Nat) : Int) ((L.length - 1 : Nat) : Int)]).length = L.length + 1 := by simp
        have w3 := W1_snoc (a := L.length) (b := root) h1 (by omega) (by omega)
        rw [wordG_snoc, w3, w2, W1_appL h3 hr, hw]
        unfold digV
        rw [if_pos hd, Nat.two_mul, repW_add, repW_add, repW_one]
      · rw [if_neg hd, List.append_nil, wordG_snoc, w2]
        unfold digV
        rw [if_neg hd, Nat.two_mul, Nat.add_zero, repW_add]
theorem binL_val (n : Nat) : (binL n).foldl digV 0 = n := by
  induction n using Nat.strongRecOn with
  | ind n ih =>
    by_cases c : n < 2
    · rw [binL_lt c]
      rcases (by omega : n = 0 ∨ n = 1) with rfl | rfl <;> rfl
    · rw [binL_ge c, List.foldl_append, ih (n / 2) (by omega)]
      simp only [List.foldl_cons, List.foldl_nil, digV]
      rcases (by omega : n % 2 = 0 ∨ n % 2 = 1) with h | h
      · rw [h]; simp; omega
      · rw [h]; simp; omega
theorem binL_head (n : Nat) (h : 0 < n) : ∃ t, binL n = 49 :: t := by
  induction n using Nat.strongRecOn with
  | ind n ih =>
    by_cases c : n < 2
    · rw [binL_lt c, show n = 1 by omega]; exact ⟨[], rfl⟩
    · obtain ⟨t, ht⟩ := ih (n / 2) (by omega) (by omega)
      rw [binL_ge c, ht]; exact ⟨_, rfl⟩
theorem powG_word {xs : List GRule} {ls l : List Int} (h : lens xs = some ls) {n : Nat} (hp : lens (powG xs n) = some l) : wordG (powG xs n) = repW (wordG xs) n := by
  unfold powG at hp ⊢
  split
  · rename_i hc
    rcases hc with rfl | hc
    · rfl
    · have : xs = [] := List.eq_nil_of_length_eq_zero hc
      subst this
      simp [repW, wordG]
  · rename_i hc
    rw [if_neg hc] at hp
    have h0 : 0 < xs.length := by omega
    obtain ⟨t, ht⟩ := binL_head n (by omega)
    have hv := binL_val n
    rw [ht] at hp hv ⊢
    rw [List.tail_cons] at hp ⊢
    have e0 : ((xs.length : Int) - 1) = ((xs.length - 1 : Nat) : Int) := by omega
    rw [e0] at hp ⊢
    have := powFold_word (w := wordG xs) t xs l 1 hp h0 (by omega) (by rw [wordG_pos h0]) (repW_one _).symm
    rw [this]
    rw [List.foldl_cons] at hv
    have e1 : digV 0 49 = 1 := rfl
    rw [e1] at hv
    rw [hv]
def polP (b : Nat) (w : List UInt8) : Nat := w.foldl (fun a c => (a * b + c.toNat) % pF) 0
def powP (b n : Nat) : Nat := b ^ n % pF
theorem pF_pos : 0 < pF := by decide
theorem polP_lt (b : Nat) (w : List UInt8) : polP b w < pF := by
  unfold polP
  suffices H : ∀ (w : List UInt8) (a : Nat), a < pF → w.foldl (fun a c => (a * b + c.toNat) % pF) a < pF from H w 0 pF_pos
  intro w
  induction w with
  | nil => intro a h; exact h
  | cons c w ih => intro a _; exact ih _ (Nat.mod_lt _ pF_pos)
theorem powP_lt (b n : Nat) : powP b n < pF := Nat.mod_lt _ pF_pos
theorem powP_add (b m n : Nat) : powP b (m + n) = powP b m * powP b n % pF := by
  unfold powP
  rw [Nat.pow_add, ← Nat.mul_mod]
theorem powP_one {b : Nat} (h : b < pF) : powP b 1 = b := by
  unfold powP
  rw [Nat.pow_one, Nat.mod_eq_of_lt h]
theorem polP_fold (b : Nat) : ∀ (v : List UInt8) (a : Nat), v.foldl (fun a c => (a * b + c.toNat) % pF) (a % pF) = (a * powP b v.length + polP b v) % pF := by
  intro v
  induction v with
  | nil =>
    intro a
    show a % pF = (a * powP b 0 + 0) % pF
    have : powP b 0 = 1 := by unfold powP; rw [Nat.pow_zero]; decide
    rw [this, Nat.mul_one, Nat.add_zero]
  | cons c v ih =>
    intro a
    rw [List.foldl_cons]
    have e1 : (a % pF * b + c.toNat) % pF = (a * b + c.toNat) % pF := by
      rw [Nat.add_mod, Nat.mul_mod, Nat.mod_mod, ← Nat.mul_mod, ← Nat.add_mod]
    have e0 : polP b (c :: v) = (c.toNat * powP b v.length + polP b v) % pF := by
      unfold polP
      rw [List.foldl_cons, Nat.zero_mul, Nat.zero_add]
      exact ih c.toNat
    rw [e1, ih (a * b + c.toNat), e0, List.length_cons, Nat.add_comm v.length 1, powP_add]
    have e2 : a * (powP b 1 * powP b v.length % pF) % pF = a * b * powP b v.length % pF := by
      unfold powP
      rw [Nat.pow_one, ← Nat.mul_mod, Nat.mul_mod, Nat.mod_mod, ← Nat.mul_mod, ← Nat.mul_assoc, Nat.mul_mod _ (b ^ _ % pF), Nat.mod_mod, ← Nat.mul_mod]
    rw [Nat.add_mul, Nat.add_assoc, Nat.add_mod, Nat.add_mod (a * (powP b 1 * powP b v.length % pF)), e2, Nat.mod_mod]
theorem polP_app (b : Nat) (u v : List UInt8) : polP b (u ++ v) = (polP b u * powP b v.length % pF + polP b v) % pF := by
  have h := polP_fold b v (polP b u)
  rw [Nat.mod_eq_of_lt (polP_lt b u)] at h
  unfold polP at h ⊢
  rw [List.foldl_append, h]
  exact (Nat.mod_add_mod _ _ _).symm
theorem polP_one (b : Nat) (c : UInt8) : polP b [c] = c.toNat := by
  unfold polP
  have h : c.toNat < 256 := c.toNat_lt
  rw [List.foldl_cons, List.foldl_nil, Nat.zero_mul, Nat.zero_add, Nat.mod_eq_of_lt]
  unfold pF
  omega
def bA : Nat := 1234567890123456789
def bB : Nat := 987654321987654321
theorem bA_lt : bA < pF := by decide
theorem bB_lt : bB < pF := by decide
def prCells (p : Nat × Nat) : List Value := [.int .u64 (p.1 : Int), .int .u64 (p.2 : Int)]
def OwnPr (w : World) (base : Nat) (v : Value) (l : List (Nat × Nat)) : Prop := w.ownsRow base 103 2 v l.length (l.flatMap prCells)
theorem pr_at {l : List (Nat × Nat)} {k : Nat} {p : Nat × Nat} (h : l[k]? = some p) : (l.flatMap prCells)[k * 2]? = some (.int .u64 (p.1 : Int)) ∧ (l.flatMap prCells)[k * 2 + 1]? = some (.int .u64 (p.2 : Int)) := by
  induction l generalizing k with
  | nil => simp at h
  | cons x xs ih =>
    cases k with
    | zero => simp at h; subst h; exact ⟨rfl, rfl⟩
    | succ k =>
      have h2 : xs[k]? = some p := by simpa using h
      obtain ⟨i1, i2⟩ := ih h2
      rw [List.flatMap_cons]
      have e : (prCells x).length = 2 := rfl
      rw [List.getElem?_append_right (by rw [e]; omega), List.getElem?_append_right (by rw [e]; omega), e]
      exact ⟨by rw [show (k + 1) * 2 - 2 = k * 2 by omega]; exact i1, by rw [show (k + 1) * 2 + 1 - 2 = k * 2 + 1 by omega]; exact i2⟩
theorem OwnPr.cells {w : World} {base : Nat} {v : Value} {l : List (Nat × Nat)} (h : OwnPr w base v l) {k : Nat} {p : Nat × Nat} (hk : l[k]? = some p) :
    ∃ g cap, v = .slice (some ⟨g, 0, none⟩) l.length cap ∧ base ≤ g ∧ g < w.heap.size ∧ w.cell? ⟨g, k * 2, none⟩ = some (.int .u64 (p.1 : Int)) ∧ w.cell? ⟨g, k * 2 + 1, none⟩ = some (.int .u64 (p.2 : Int)) := by
  have hl : k < l.length := (List.getElem?_eq_some_iff.1 hk).1
  obtain ⟨g, cap, rfl, hb, hg, _, hc⟩ := own_form h (by omega)
  obtain ⟨p1, p2⟩ := pr_at hk
  exact ⟨g, cap, rfl, hb, hg, hc _ _ p1, hc _ _ p2⟩
def mkOf (xs : List GRule) (k : Nat) : Nat × Nat := (polP bA (W1 xs k), polP bB (W1 xs k))
def stOf (xs : List GRule) (k : Nat) : Nat × Nat := (powP bA (W1 xs k).length, powP bB (W1 xs k).length)
def mksL (xs : List GRule) (n : Nat) : List (Nat × Nat) := (List.range n).map (mkOf xs)
def stsL (xs : List GRule) (n : Nat) : List (Nat × Nat) := (List.range n).map (stOf xs)
theorem mks_len (xs : List GRule) (n : Nat) : (mksL xs n).length = n := by simp [mksL]
theorem sts_len (xs : List GRule) (n : Nat) : (stsL xs n).length = n := by simp [stsL]
theorem mks_at {xs : List GRule} {n k : Nat} (h : k < n) : (mksL xs n)[k]? = some (mkOf xs k) := by simp [mksL, List.getElem?_range h]
theorem sts_at {xs : List GRule} {n k : Nat} (h : k < n) : (stsL xs n)[k]? = some (stOf xs k) := by simp [stsL, List.getElem?_range h]
theorem mks_succ (xs : List GRule) (n : Nat) : mksL xs (n + 1) = mksL xs n ++ [mkOf xs n] := by simp [mksL, List.range_succ]
theorem sts_succ (xs : List GRule) (n : Nat) : stsL xs (n + 1) = stsL xs n ++ [stOf xs n] := by simp [stsL, List.range_succ]
theorem mk_pair {xs : List GRule} {ls : List Int} (h : lens xs = some ls) {k : Nat} (hk : k < xs.length) (hp : (getR xs k).pair = true) :
    mkOf xs k = (((mkOf xs (getR xs k).left.toNat).1 * (stOf xs (getR xs k).right.toNat).1 % pF + (mkOf xs (getR xs k).right.toNat).1) % pF, ((mkOf xs (getR xs k).left.toNat).2 * (stOf xs (getR xs k).right.toNat).2 % pF + (mkOf xs (getR xs k).right.toNat).2) % pF) := by
  unfold mkOf stOf
  rw [W1_pair h hk hp, polP_app, polP_app]
theorem st_pair {xs : List GRule} {ls : List Int} (h : lens xs = some ls) {k : Nat} (hk : k < xs.length) (hp : (getR xs k).pair = true) :
    stOf xs k = ((stOf xs (getR xs k).left.toNat).1 * (stOf xs (getR xs k).right.toNat).1 % pF, (stOf xs (getR xs k).left.toNat).2 * (stOf xs (getR xs k).right.toNat).2 % pF) := by
  unfold stOf
  rw [W1_pair h hk hp, List.length_append, powP_add, powP_add]
theorem mk_let {xs : List GRule} {k : Nat} {c : UInt8} (hp : (getR xs k).pair = false) (hc : (getR xs k).letter = ⟨#[c]⟩) : mkOf xs k = (c.toNat, c.toNat) ∧ stOf xs k = (bA, bB) := by
  have hw : W1 xs k = [c] := by rw [W1_let hp, hc]
  unfold mkOf stOf
  rw [hw, polP_one, polP_one]
  exact ⟨rfl, by rw [List.length_singleton, powP_one bA_lt, powP_one bB_lt]⟩
theorem mk_lt (xs : List GRule) (k : Nat) : (mkOf xs k).1 < pF ∧ (mkOf xs k).2 < pF := ⟨polP_lt _ _, polP_lt _ _⟩
theorem st_lt (xs : List GRule) (k : Nat) : (stOf xs k).1 < pF ∧ (stOf xs k).2 < pF := ⟨powP_lt _ _, powP_lt _ _⟩
theorem bases_any (w : World) : Calls Tryd.prog 64 #[] w fun e w' => Below w.heap.size w w' ∧ e = .returned (.agg #[.int .u64 1234567890123456789, .int .u64 987654321987654321]) := by
  go_enter Tryd.func64, Tryd.ntmps64
  go_wp2_with fail
  exact bodyPost_ret (v := .agg #[.int .u64 1234567890123456789, .int .u64 987654321987654321]) (by simp [results, Tryd.results64, go_sem]) rfl ⟨(Below.refl _ _).alloc (Nat.le_refl _) _, rfl⟩
theorem Tryd.infoPr : (Tryd.prog.info? 103).map (fun i => (i.zero, i.size, i.bytes)) = some (some (.agg #[.int .u64 0, .int .u64 0]), 2, 16) := by kernel_rfl
theorem step_push_pr {W : World} {ops : Array Oper} {o : Oper} {a : Act} {K : Act → World → Prop} {Q : Exit → Act → World → Prop} {E : Prop} (hgd : o.guard = none) (s x : Operand)
    (ho : o.op = .call { callee := .builtin .append, args := #[s, x], argTypes := #[99, 99] }) {p : Nat × Nat} {base n c N : Nat} {A : Option Addr} {l : List (Nat × Nat)}
    (hs : a.eval s = .slice A n c) (hx : a.eval x = .slice (some ⟨N, 0, none⟩) 1 1) (hN : W.heap[N]? = some (.cells #[.int .u64 (p.1 : Int), .int .u64 (p.2 : Int)] 103 (0, 0))) (hn : n = l.length) (hown : OwnPr W base (.slice A n c) l) (hlen : l.length ≤ 1048576) (hbase : base ≤ W.heap.size)
    (h : ∀ A' c' w', OwnPr w' base (.slice A' (n + 1) c') (l ++ [p]) → ((Value.slice A' (n + 1) c').ownBlock = (Value.slice A n c).ownBlock ∨ ∃ g, (Value.slice A' (n + 1) c').ownBlock = some g ∧ W.heap.size ≤ g) → W.grownBy w' (Value.slice A n c).ownBlock → Below base W w' → K (a.put o.dst (.slice A' (n + 1) c')) w') :
    if Region.wanted o (yielded ops a.tmps) = true then Oper.wp Tryd.prog o a W K Q else E := by
  subst hn
  have hw : Region.wanted o (yielded ops a.tmps) = true := by simp [Region.wanted, hgd]
  rw [if_pos hw]
  obtain ⟨i0, hi0, hz0, hz1, hz2⟩ := info_parts Tryd.infoPr
  obtain ⟨v', w', hrun, k1, k2, _, k3⟩ := run_append_own_at (P := Tryd.prog) W base 99 o.type 103 i0 _ 2 16 Tryd.underlying99 hi0 hz0 hz1 hz2 rfl (by decide) (.slice A l.length c) l.length _ hown ⟨N, 0, none⟩ 1 1 (prCells p) rfl
    (fun j y hy => by
      have : W.cell? ⟨N, j, none⟩ = (#[Value.int .u64 (p.1 : Int), .int .u64 (p.2 : Int)] : Array Value)[j]? := cell_of_row _ _ _ _ 103 (0, 0) hN
      have ha : (⟨N, 0, none⟩ : Addr).add j = ⟨N, j, none⟩ := by unfold Addr.add; split <;> simp_all
      rw [ha, this]; simpa [prCells] using hy) (by simp [prCells, Value.oneCell']) (by simp only [maxLen]; omega) (by omega) hbase
  unfold Oper.wp execOp
  simp only [ho, resolve, invoke, builtin, Sem.run_bind, Sem.run_pure, Result.andThen_ok, List.map_toArray, List.map_cons, List.map_nil, hs, hx, hrun]
  have k1' : OwnPr w' base v' (l ++ [p]) := by
    unfold OwnPr
    simpa [prCells] using k1
  obtain ⟨A', c', rfl, _⟩ := own_nil k1'
  have el : (l ++ [p]).length = l.length + 1 := by simp
  rw [el] at k1' k3 ⊢
  refine h A' c' w' k1' ?_ k2 ((Below.refl base W).grown k2 hbase (fun y hy => (World.ownsRow.lt hown y hy).1))
  rcases k3 with k3 | k3
  · exact .inl k3
  · exact .inr ⟨_, k3, Nat.le_refl _⟩
structure WvSt (w wx : World) (P : Nat) (vR vL : Value) (xs : List GRule) (ls : List Int) (k : Nat) (AM : Option Addr) (cM : Nat) (AS : Option Addr) (cS : Nat) : Prop where
  bel : Below w.heap.size w wx
  box : Blk wx P #[vR, vL, .slice AM k cM, .slice AS k cS] 101
  len : OwnInts wx w.heap.size vL ls
  low : ∀ g, vL.ownBlock = some g → g < P
  mrk : OwnPr wx (P + 1) (.slice AM k cM) (mksL xs k)
  stp : OwnPr wx (P + 1) (.slice AS k cS) (stsL xs k)
  ne : ∀ g, (Value.slice AM k cM).ownBlock = some g → (Value.slice AS k cS).ownBlock ≠ some g
theorem WvSt.up {w wx w' : World} {P : Nat} {vR vL : Value} {xs : List GRule} {ls : List Int} {k : Nat} {AM AS : Option Addr} {cM cS : Nat} (h : WvSt w wx P vR vL xs ls k AM cM AS cS) (hb : Below wx.heap.size wx w') : WvSt w w' P vR vL xs ls k AM cM AS cS :=
  ⟨Below.tr h.bel hb, h.box.up hb, ownsRow_below h.len hb, h.low, ownsRow_below h.mrk hb, ownsRow_below h.stp hb, h.ne⟩
theorem pair_empty (rs : ByteArray) (rl rr : Int) : (⟨rs, rl, rr⟩ : GRule).pair = rs.toList.isEmpty := by
  rw [ByteArray.toList_eq]
  obtain ⟨⟨l⟩⟩ := rs
  cases l with
  | nil => rfl
  | cons x t => rfl
theorem let_byte {s : ByteArray} (h : isLet s = true) : ∃ c, s = ⟨#[c]⟩ := by
  have h1 := isLet_size h
  obtain ⟨⟨l⟩⟩ := s
  have hl : l.length = 1 := h1
  obtain ⟨c, rfl⟩ := List.length_eq_one_iff.1 hl
  exact ⟨c, rfl⟩
def prB (w : World) (b : Nat) (p : Nat × Nat) : Prop := Blk w b #[.int .u64 (p.1 : Int), .int .u64 (p.2 : Int)] 103
def WeavePost (xs : List GRule) (vR : Value) (w : World) (e : Ending) (w' : World) : Prop :=
  ∃ P ls vL AM cM AS cS, e = .returned (.tuple #[.pointer (some ⟨P, 0, none⟩), .bool true]) ∧ lens xs = some ls ∧ w.heap.size ≤ P ∧ WvSt w w' P vR vL xs ls xs.length AM cM AS cS
structure CI (w : World) (p : Addr) (v : Value) : Prop where
  c : w.cell? p = some v
  lt : p.block < w.heap.size
theorem CI.up {w W : World} {p : Addr} {v : Value} (h : CI w p v) (hb : Below w.heap.size w W) : W.cell? p = some v := (hb.cell h.lt).trans h.c
theorem Blk.ci {w : World} {b : Nat} {a : Array Value} {t : TypeId} (h : Blk w b a t) {i : Nat} {v : Value} (hi : a[i]? = some v) : CI w ⟨b, i, none⟩ v := ⟨h.cell hi, h.lt⟩
theorem keepN7 {w W : World} {p1 p2 p3 p4 p5 p6 p7 : Addr} {v1 v2 v3 v4 v5 v6 v7 : Value} (h1 : CI w p1 v1) (h2 : CI w p2 v2) (h3 : CI w p3 v3) (h4 : CI w p4 v4) (h5 : CI w p5 v5) (h6 : CI w p6 v6) (h7 : CI w p7 v7) (hb : Below w.heap.size w W) : Below w.heap.size w W ∧ W.cell? p1 = some v1 ∧ W.cell? p2 = some v2 ∧ W.cell? p3 = some v3 ∧ W.cell? p4 = some v4 ∧ W.cell? p5 = some v5 ∧ W.cell? p6 = some v6 ∧ W.cell? p7 = some v7 :=
  ⟨hb, h1.up hb, h2.up hb, h3.up hb, h4.up hb, h5.up hb, h6.up hb, h7.up hb⟩
theorem keepN10 {w W : World} {p1 p2 p3 p4 p5 p6 p7 p8 p9 p10 : Addr} {v1 v2 v3 v4 v5 v6 v7 v8 v9 v10 : Value} (h1 : CI w p1 v1) (h2 : CI w p2 v2) (h3 : CI w p3 v3) (h4 : CI w p4 v4) (h5 : CI w p5 v5) (h6 : CI w p6 v6) (h7 : CI w p7 v7) (h8 : CI w p8 v8) (h9 : CI w p9 v9) (h10 : CI w p10 v10) (hb : Below w.heap.size w W) : Below w.heap.size w W ∧ W.cell? p1 = some v1 ∧ W.cell? p2 = some v2 ∧ W.cell? p3 = some v3 ∧ W.cell? p4 = some v4 ∧ W.cell? p5 = some v5 ∧ W.cell? p6 = some v6 ∧ W.cell? p7 = some v7 ∧ W.cell? p8 = some v8 ∧ W.cell? p9 = some v9 ∧ W.cell? p10 = some v10 :=
  ⟨hb, h1.up hb, h2.up hb, h3.up hb, h4.up hb, h5.up hb, h6.up hb, h7.up hb, h8.up hb, h9.up hb, h10.up hb⟩
theorem OwnPr.two {w : World} {base n c : Nat} {A : Option Addr} {l : List (Nat × Nat)} (h : OwnPr w base (.slice A n c) l) {i j : Nat} {p q : Nat × Nat} (hi : l[i]? = some p) (hj : l[j]? = some q) :
    ∃ g, A = some ⟨g, 0, none⟩ ∧ CI w ⟨g, i * 2, none⟩ (.int .u64 (p.1 : Int)) ∧ CI w ⟨g, i * 2 + 1, none⟩ (.int .u64 (p.2 : Int)) ∧ CI w ⟨g, j * 2, none⟩ (.int .u64 (q.1 : Int)) ∧ CI w ⟨g, j * 2 + 1, none⟩ (.int .u64 (q.2 : Int)) := by
  obtain ⟨g, cap, e, _, hg, h1, h2⟩ := h.cells hi
  obtain ⟨g', cap', e', _, _, h3, h4⟩ := h.cells hj
  injection e with e1 _ _
  injection e' with e1' _ _
  subst e1
  injection e1' with e2
  injection e2 with e3
  subst e3
  exact ⟨g, rfl, ⟨h1, hg⟩, ⟨h2, hg⟩, ⟨h3, hg⟩, ⟨h4, hg⟩⟩
structure Psh (w W : World) (P M0 : Nat) (bx : Array Value) (vL : Value) (ls : List Int) (m s : Nat × Nat) (vM vS : Value) (lM lS : List (Nat × Nat)) : Prop where
  bel : Below w.heap.size w W
  hP : w.heap.size ≤ P
  box : Blk W P bx 101
  len : OwnInts W w.heap.size vL ls
  low : ∀ g, vL.ownBlock = some g → g < P
  pm : Blk W M0 #[.int .u64 (m.1 : Int), .int .u64 (m.2 : Int)] 103
  ps : Blk W (M0 + 1) #[.int .u64 (s.1 : Int), .int .u64 (s.2 : Int)] 103
  mrk : OwnPr W (P + 1) vM lM
  stp : OwnPr W (P + 1) vS lS
  ne : ∀ g, vM.ownBlock = some g → vS.ownBlock ≠ some g
  nm : ∀ g, vM.ownBlock = some g → g ≠ M0 ∧ g ≠ M0 + 1
  ns : ∀ g, vS.ownBlock = some g → g ≠ M0 ∧ g ≠ M0 + 1
section
variable {w W W' : World} {P M0 : Nat} {bx : Array Value} {vL : Value} {ls : List Int} {m s : Nat × Nat} {vM vS v' : Value} {lM lS l' : List (Nat × Nat)}
theorem Psh.up (h : Psh w W P M0 bx vL ls m s vM vS lM lS) (hb : Below W.heap.size W W') : Psh w W' P M0 bx vL ls m s vM vS lM lS :=
  ⟨Below.tr h.bel hb, h.hP, h.box.up hb, ownsRow_below h.len hb, h.low, h.pm.up hb, h.ps.up hb, ownsRow_below h.mrk hb, ownsRow_below h.stp hb, h.ne, h.nm, h.ns⟩
theorem Psh.drew (h : Psh w W P M0 bx vL ls m s vM vS lM lS) : Psh w W.drew P M0 bx vL ls m s vM vS lM lS := h.up (Below.drew (Below.refl _ _))
theorem Psh.alloc (h : Psh w W P M0 bx vL ls m s vM vS lM lS) (o : Obj) : Psh w (W.alloc o) P M0 bx vL ls m s vM vS lM lS := h.up (Below.alloc (Below.refl _ _) (Nat.le_refl _) o)
theorem Psh.cells {vR : Value} {AM AS : Option Addr} {n c c' : Nat} (h : Psh w W P M0 #[vR, vL, .slice AM n c, .slice AS n c'] vL ls m s vM vS lM lS) : W.cell? ⟨P, 2, none⟩ = some (.slice AM n c) ∧ W.cell? ⟨P, 3, none⟩ = some (.slice AS n c') ∧ W.cell? ⟨M0, 0, none⟩ = some (.int .u64 (m.1 : Int)) ∧ W.cell? ⟨M0, 1, none⟩ = some (.int .u64 (m.2 : Int)) ∧ W.cell? ⟨M0 + 1, 0, none⟩ = some (.int .u64 (s.1 : Int)) ∧ W.cell? ⟨M0 + 1, 1, none⟩ = some (.int .u64 (s.2 : Int)) :=
  ⟨h.box.cell rfl, h.box.cell rfl, h.pm.cell rfl, h.pm.cell rfl, h.ps.cell rfl, h.ps.cell rfl⟩
theorem Psh.push1 (h : Psh w W P M0 bx vL ls m s vM vS lM lS) (ho : OwnPr W' (P + 1) v' l') (hv : v'.ownBlock = vM.ownBlock ∨ ∃ g, v'.ownBlock = some g ∧ W.heap.size ≤ g) (hg : W.grownBy W' vM.ownBlock) (hb : Below (P + 1) W W') :
    Psh w W' P M0 bx vL ls m s v' vS l' lS := by
  have hM := h.pm.lt
  have hS := h.ps.lt
  have hb2 : Below w.heap.size W W' := hb.mono (by have := h.hP; omega)
  have hne : ∀ g, v'.ownBlock = some g → vS.ownBlock ≠ some g := by
    intro g e
    rcases hv with hv | ⟨g2, e2, h2⟩
    · rw [hv] at e
      exact h.ne g e
    · rw [e] at e2; cases e2
      intro e3
      exact absurd (World.ownsRow.lt h.stp g e3).2 (by omega)
  have hnn : ∀ g, v'.ownBlock = some g → g ≠ M0 ∧ g ≠ M0 + 1 := by
    intro g e
    rcases hv with hv | ⟨g2, e2, h2⟩
    · rw [hv] at e; exact h.nm g e
    · rw [e] at e2; cases e2; omega
  have hmm : Blk W' M0 #[.int .u64 (m.1 : Int), .int .u64 (m.2 : Int)] 103 := (hg.block M0 hM (fun e => (h.nm M0 e.symm).1 rfl)).trans h.pm
  have hss : Blk W' (M0 + 1) #[.int .u64 (s.1 : Int), .int .u64 (s.2 : Int)] 103 := (hg.block (M0 + 1) hS (fun e => (h.nm (M0 + 1) e.symm).2 rfl)).trans h.ps
  have hoo : OwnPr W' (P + 1) vS lS := own_keep h.stp (fun g e => hg.block g (World.ownsRow.lt h.stp g e).2 (fun e3 => h.ne g e3.symm e))
  have hl : OwnInts W' w.heap.size vL ls := own_keep h.len (fun g e => hb.block g (by have := h.low g e; omega))
  exact ⟨h.bel.trans hb2, h.hP, h.box.upB hb (Nat.lt_succ_self _), hl, h.low, hmm, hss, ho, hoo, hne, hnn, h.ns⟩
theorem Psh.push2 (h : Psh w W P M0 bx vL ls m s vM vS lM lS) (ho : OwnPr W' (P + 1) v' l') (hv : v'.ownBlock = vS.ownBlock ∨ ∃ g, v'.ownBlock = some g ∧ W.heap.size ≤ g) (hg : W.grownBy W' vS.ownBlock) (hb : Below (P + 1) W W') :
    Psh w W' P M0 bx vL ls m s vM v' lM l' := by
  have hM := h.pm.lt
  have hS := h.ps.lt
  have hb2 : Below w.heap.size W W' := hb.mono (by have := h.hP; omega)
  have hne : ∀ g, v'.ownBlock = some g → vM.ownBlock ≠ some g := by
    intro g e
    rcases hv with hv | ⟨g2, e2, h2⟩
    · rw [hv] at e
      exact fun e3 => h.ne g e3 e
    · rw [e] at e2; cases e2
      intro e3
      exact absurd (World.ownsRow.lt h.mrk g e3).2 (by omega)
  have hnn : ∀ g, v'.ownBlock = some g → g ≠ M0 ∧ g ≠ M0 + 1 := by
    intro g e
    rcases hv with hv | ⟨g2, e2, h2⟩
    · rw [hv] at e; exact h.ns g e
    · rw [e] at e2; cases e2; omega
  have hmm : Blk W' M0 #[.int .u64 (m.1 : Int), .int .u64 (m.2 : Int)] 103 := (hg.block M0 hM (fun e => (h.ns M0 e.symm).1 rfl)).trans h.pm
  have hss : Blk W' (M0 + 1) #[.int .u64 (s.1 : Int), .int .u64 (s.2 : Int)] 103 := (hg.block (M0 + 1) hS (fun e => (h.ns (M0 + 1) e.symm).2 rfl)).trans h.ps
  have hoo : OwnPr W' (P + 1) vM lM := own_keep h.mrk (fun g e => hg.block g (World.ownsRow.lt h.mrk g e).2 (fun e3 => h.ne g e e3.symm))
  have hl : OwnInts W' w.heap.size vL ls := own_keep h.len (fun g e => hb.block g (by have := h.low g e; omega))
  exact ⟨h.bel.trans hb2, h.hP, h.box.upB hb (Nat.lt_succ_self _), hl, h.low, hmm, hss, hoo, ho, fun g e e3 => hne g e3 e, h.nm, hnn⟩
theorem grown_kp (hg : W.grownBy W' vM.ownBlock) {N : Nat} (hN : ∀ g, vM.ownBlock = some g → g < N) : ∀ k o, N ≤ k → W.heap[k]? = some o → W'.heap[k]? = some o := fun k o hNk hk =>
  (hg.block k (Array.getElem?_eq_some_iff.1 hk).1 (fun e => absurd (hN k e.symm) (by omega))).trans hk
theorem pn_new {o : Obj} {k : Nat} (hk : k = W.heap.size) : (W.alloc o).heap[k]? = some o := by subst hk; exact heap_alloc_new W o
theorem pn_newD {o : Obj} {k : Nat} (hk : k = W.heap.size) : (W.alloc o).drew.heap[k]? = some o := by subst hk; exact heap_alloc_new W o
theorem pn_up {o o' : Obj} {k : Nat} (h : W.heap[k]? = some o) : (W.alloc o').heap[k]? = some o := (Below.heap_alloc W o' k (Array.getElem?_eq_some_iff.1 h).1).trans h
theorem Psh.done {vR : Value} {AM AS AM' AS' : Option Addr} {n n' c c' d d' : Nat} {xs : List GRule} (h : Psh w W P M0 #[vR, vL, .slice AM n c, .slice AS n c'] vL ls (mkOf xs n) (stOf xs n) (.slice AM' n' d) (.slice AS' n' d') (mksL xs n ++ [mkOf xs n]) (stsL xs n ++ [stOf xs n])) (hn : n' = n + 1) :
    WvSt w ((W.setCell ⟨P, 2, none⟩ (.slice AM' n' d)).setCell ⟨P, 3, none⟩ (.slice AS' n' d')) P vR vL xs ls (n + 1) AM' d AS' d' := by
  subst hn
  have hb : Below P W ((W.setCell ⟨P, 2, none⟩ (.slice AM' (n + 1) d)).setCell ⟨P, 3, none⟩ (.slice AS' (n + 1) d')) := ((Below.refl P W).setCell (p := ⟨P, 2, none⟩) (Nat.le_refl _) _).setCell (p := ⟨P, 3, none⟩) (Nat.le_refl _) _
  have hk : ∀ g, g ≠ P → ((W.setCell ⟨P, 2, none⟩ (.slice AM' (n + 1) d)).setCell ⟨P, 3, none⟩ (.slice AS' (n + 1) d')).heap[g]? = W.heap[g]? := fun g hg =>
    (Below.heap_setCell _ ⟨P, 3, none⟩ _ g hg).trans (Below.heap_setCell _ ⟨P, 2, none⟩ _ g hg)
  refine ⟨h.bel.trans (hb.mono h.hP), (h.box.set 2 _).set 3 _, own_keep h.len (fun g e => hk g (by have := h.low g e; omega)), h.low, ?_, ?_, h.ne⟩
  · rw [mks_succ]; exact own_keep h.mrk (fun g e => hk g (by have := (World.ownsRow.lt h.mrk g e).1; omega))
  · rw [sts_succ]; exact own_keep h.stp (fun g e => hk g (by have := (World.ownsRow.lt h.stp g e).1; omega))
end
open Go
section
variable {P : Program} {ops : Array Oper} {Q : Exit → Act → World → Prop} {md : Region.Mode} {S : World → Prop} {n : Nat}
def wpHL (P : Program) (md : Region.Mode) (ops : Array Oper) (Q : Exit → Act → World → Prop) (S : World → Prop) (n : Nat) (L : Array Bool → Act → World → Prop) : Nat → Array Bool → Act → World → Prop
  | 0, listed, a, w => L listed a w
  | f + 1, listed, a, w => Region.ready md ops listed ≠ [] ∧ ∀ i ∈ Region.ready md ops listed, i < n ∧ wpOp P ops Q i (fun a' w' => S w' ∧ wpHL P md ops Q S n L f (listed.setIfInBounds i true) a' w') a w
theorem wpAny_of_HL {g : Nat} {L : Array Bool → Act → World → Prop} (hL : ∀ listed a w, L listed a w → wpAny P md ops Q g listed a w) :
    ∀ (f : Nat) (listed : Array Bool) (a : Act) (w : World), wpHL P md ops Q S n L f listed a w → wpAny P md ops Q (f + g) listed a w
  | 0, listed, a, w, h => by rw [Nat.zero_add]; exact hL _ _ _ h
  | f + 1, listed, a, w, h => by
    rw [show f + 1 + g = (f + g) + 1 by omega]
    exact ⟨fun h0 => absurd h0 h.1, fun i hi => wpOp_mono (fun a' w' h' => wpAny_of_HL hL f _ a' w' h'.2) (h.2 i hi).2⟩
def sinkL (md : Region.Mode) (ops : Array Oper) (n : Nat) (l0 : Array Bool) : Bool :=
  (List.range n).all fun i => l0.getD i false || (List.range (n + 1)).any fun j => decide (i < j) && Region.waitsFor md ops j i
structure HInv (md : Region.Mode) (ops : Array Oper) (n : Nat) (l0 listed : Array Bool) : Prop where
  inv : HeadInv md ops n listed
  low : ∀ i, l0.getD i false = true → listed.getD i false = true
theorem HInv.set {n i : Nat} {l0 listed : Array Bool} (h : HInv md ops n l0 listed) (hi : i ∈ Region.ready md ops listed) (hin : i < n) : HInv md ops n l0 (listed.setIfInBounds i true) :=
  ⟨h.inv.set hi hin, fun k hk => getD_set_true (h.low k hk)⟩
theorem tail_waitsL {n : Nat} {l0 listed : Array Bool} (hs : sinkL md ops n l0 = true) (hc : Region.chainB md ops n = true) (hn : n < ops.size) (H : HInv md ops n l0 listed) :
    ∀ (d i : Nat), n - i = d → i < n → listed.getD i true = false → ∀ t, n ≤ t → t ∉ Region.ready md ops listed := by
  have inv := H.inv
  intro d
  induction d using Nat.strongRecOn with
  | _ d ih =>
    intro i hd hi hun t ht hr
    obtain ⟨_, ot, hot, hall⟩ := mem_ready.1 hr
    have htlt : t < ops.size := (Array.getElem?_eq_some_iff.1 hot).1
    by_cases htn : t = n
    · subst htn
      have h1 := List.all_eq_true.1 hs i (List.mem_range.2 hi)
      rw [Bool.or_eq_true] at h1
      rcases h1 with h1 | h1
      · have := H.low i h1
        rw [getD_both hun] at this
        cases this
      obtain ⟨j, hj, hj2⟩ := List.any_eq_true.1 h1
      simp only [Bool.and_eq_true, decide_eq_true_eq] at hj2
      obtain ⟨oj, hoj, e, he, hb, hon⟩ := Region.waitsFor_spec hj2.2
      have hjle : j ≤ t := by have := List.mem_range.1 hj; omega
      by_cases hjt : j = t
      · subst hjt
        have : oj = ot := Option.some.inj (hoj.symm.trans hot)
        subst this
        have h2 := hall e he hb
        rw [hon, getD_both hun] at h2
        cases h2
      · cases hl : listed.getD j false with
        | true =>
          have h2 := inv.closed j oj hoj hl e he hb
          rw [hon, getD_both hun] at h2
          cases h2
        | false =>
          have hjs : j < listed.size := by rw [inv.size]; omega
          exact ih (t - j) (by omega) j rfl (by omega) (getD_in hjs hl) t (Nat.le_refl _) hr
    · have h1 := List.all_eq_true.1 hc t (List.mem_range.2 htlt)
      simp only [Bool.or_eq_true, decide_eq_true_eq] at h1
      rcases h1 with h1 | h1
      · omega
      · obtain ⟨o', ho', e, he, hb, hon⟩ := Region.waitsFor_spec h1
        have : o' = ot := Option.some.inj (ho'.symm.trans hot)
        subst this
        have h2 := hall e he hb
        rw [hon, getD_both (inv.tail (t - 1) (by omega) (by omega))] at h2
        cases h2
theorem wpHL_first {i : Nat} {l0 : Array Bool} {oi : Oper} {v : Value} {L : Array Bool → Act → World → Prop} (hi : ops[i]? = some oi) (hsel : ∀ (j : Nat) (o : Oper) cs b, ops[j]? = some o → o.op ≠ .select cs b)
    (hs : sinkL md ops n l0 = true) (hc : Region.chainB md ops n = true) (hn : n < ops.size) (hin : i < n)
    (hdone : ∀ listed a w, L listed a w → ∀ j ∈ Region.ready md ops listed, n ≤ j) (hQ : ∀ c a w, Q (.panic c) (a.put oi.dst v) w → Q (.panic c) a w) :
    ∀ (f : Nat) (listed : Array Bool) (a : Act) (w : World), HInv md ops n l0 listed →
      (∀ j oj, ops[j]? = some oj → j ≠ i → listed.getD j true = false → (∀ e ∈ oj.after, Region.binds md e = true → e.on ≠ i) → oi.apart ops oj = true) →
      i ∈ Region.ready md ops listed → YieldsIf P ops S oi v a → S w →
      wpHL P md ops Q S n L f (listed.setIfInBounds i true) (a.put oi.dst v) w → wpHL P md ops Q S n L (f + 1) listed a w := by
  intro f
  induction f with
  | zero =>
    intro listed a w inv _ hr hy hS H
    have hun := (mem_ready.1 hr).1
    refine ⟨fun h => (by rw [h] at hr; cases hr), fun j hj => ?_⟩
    have hjn : j < n := by
      rcases Nat.lt_or_ge j n with h | h
      · exact h
      · exact absurd hj (tail_waitsL hs hc hn inv _ i rfl hin hun j h)
    refine ⟨hjn, ?_⟩
    by_cases hji : j = i
    · subst hji; exact hy.wpOp hi hS ⟨hS, H⟩
    · have := hdone _ _ _ H j (ready_mono hj hji)
      omega
  | succ f ih =>
    intro listed a w inv hfree hr hy hS H
    have hun := (mem_ready.1 hr).1
    refine ⟨fun h => (by rw [h] at hr; cases hr), fun j hj => ?_⟩
    have hjn : j < n := by
      rcases Nat.lt_or_ge j n with h | h
      · exact h
      · exact absurd hj (tail_waitsL hs hc hn inv _ i rfl hin hun j h)
    refine ⟨hjn, ?_⟩
    by_cases hji : j = i
    · subst hji; exact hy.wpOp hi hS ⟨hS, H⟩
    · have h1 := (H.2 j (ready_mono hj hji)).2
      obtain ⟨hjun, oj, hoj, hall⟩ := mem_ready.1 hj
      have hnot : ∀ e ∈ oj.after, Region.binds md e = true → e.on ≠ i := fun e he hb heq => by
        have h1 := hall e he hb
        rw [heq, getD_both hun] at h1
        cases h1
      have h2 := wpOp_putIf hoj (hfree j oj hoj hji hjun hnot) (fun cs b => hsel i oi cs b hi) (fun cs b => hsel j oj cs b hoj) hQ hy h1
      have hfree' : ∀ k ok, ops[k]? = some ok → k ≠ i → (listed.setIfInBounds j true).getD k true = false →
          (∀ e ∈ ok.after, Region.binds md e = true → e.on ≠ i) → oi.apart ops ok = true := fun k ok hk hki hun hno => by
        refine hfree k ok hk hki ?_ hno
        by_cases hjk : j = k
        · subst hjk; exact hjun
        · rw [getD_set_ne true hjk] at hun; exact hun
      refine wpOp_mono (fun a' w' h3 => ⟨h3.2.1, ih (listed.setIfInBounds j true) a' w' (inv.set hj hjn) hfree' (ready_mono hr (Ne.symm hji)) h3.1 h3.2.1 ?_⟩) h2
      rw [Array.setIfInBounds_comm _ _ hji]
      exact h3.2.2
def headB (md : Region.Mode) (ops : Array Oper) (n : Nat) (l0 listed : Array Bool) : Bool :=
  decide (listed.size = ops.size) && decide (l0.size = ops.size) && (List.range ops.size).all fun j => (!l0.getD j false || listed.getD j false) && (decide (j < n) || !listed.getD j true) && (!listed.getD j false || (match ops[j]? with
    | some o => o.after.all fun e => !Region.binds md e || listed.getD e.on false
    | none => true))
theorem headB_spec {l0 listed : Array Bool} (h : headB md ops n l0 listed = true) : HInv md ops n l0 listed := by
  unfold headB at h
  simp only [Bool.and_eq_true, decide_eq_true_eq, List.all_eq_true, List.mem_range, Bool.or_eq_true, Bool.not_eq_true'] at h
  refine ⟨⟨h.1.1, fun j oj hj hl e he hb => ?_, fun t ht hts => ?_⟩, fun i hi => ?_⟩
  · have hjs : j < ops.size := (Array.getElem?_eq_some_iff.1 hj).1
    have h2 := (h.2 j hjs).2
    rw [hj] at h2
    rcases h2 with h2 | h2
    · rw [h2] at hl; cases hl
    · have h3 := Array.all_eq_true_iff_forall_mem.1 h2 e he
      rw [hb] at h3
      simpa using h3
  · rcases (h.2 t hts).1.2 with h1 | h1
    · omega
    · exact h1
  · have his : i < ops.size := by
      rcases Nat.lt_or_ge i l0.size with h' | h'
      · have := h.1.2; omega
      · simp [Array.getElem?_eq_none h'] at hi
    rcases (h.2 i his).1.1 with h1 | h1
    · rw [h1] at hi; cases hi
    · exact h1
def TailL (md : Region.Mode) (ops : Array Oper) (g n : Nat) (K : Act → World → Prop) (listed : Array Bool) (a : Act) (w : World) : Prop := Region.seqB md ops g n listed = true ∧ K a w
def headsB (md : Region.Mode) (ops : Array Oper) (n : Nat) (l0 : Array Bool) : Bool := Region.noSelect ops && decide (n < ops.size) && sinkL md ops n l0 && Region.chainB md ops n
theorem wpHL_take (l0 : Array Bool) (i : Nat) (oi : Oper) (v : Value) {g f : Nat} {K : Act → World → Prop} {listed : Array Bool} {a : Act} {w : World} (hH : headsB md ops n l0 = true) (hi : ops[i]? = some oi)
    (hb : (decide (i < n) && headB md ops n l0 listed && Region.free md ops listed i && (Region.ready md ops listed).contains i) = true)
    (hQ : ∀ c a w, Q (.panic c) (a.put oi.dst v) w → Q (.panic c) a w) (hy : YieldsIf P ops S oi v a) (hS : S w)
    (h : wpHL P md ops Q S n (TailL md ops g n K) f (listed.setIfInBounds i true) (a.put oi.dst v) w) : wpHL P md ops Q S n (TailL md ops g n K) (f + 1) listed a w := by
  simp only [headsB, Bool.and_eq_true, decide_eq_true_eq] at hH hb
  exact wpHL_first hi (Region.noSelect_spec hH.1.1.1) hH.1.2 hH.2 hH.1.1.2 hb.1.1.1 (fun listed a w hL => seqB_ready hL.1) hQ f listed a w (headB_spec hb.1.1.2) (Region.free_spec hi hb.1.2) (by simpa using hb.2) hy hS h
theorem wpHL_takeV (l0 : Array Bool) (i : Nat) (oi : Oper) (v : Value) {g f : Nat} {K : Act → World → Prop} {listed : Array Bool} {a : Act} {w : World} (hH : headsB md ops n l0 = true) (hi : ops[i]? = some oi)
    (hb : (decide (i < n) && headB md ops n l0 listed && Region.free md ops listed i && (Region.ready md ops listed).contains i) = true)
    (hQ : ∀ c a w, Q (.panic c) (a.put oi.dst v) w → Q (.panic c) a w) (hw : Region.wanted oi (yielded ops a.tmps) = true) (hy : ∀ w, S w → (execOp a.eval oi).run P w = .ok (.value v) w) (hS : S w)
    (h : wpHL P md ops Q S n (TailL md ops g n K) f (listed.setIfInBounds i true) (a.put oi.dst v) w) : wpHL P md ops Q S n (TailL md ops g n K) (f + 1) listed a w :=
  wpHL_take l0 i oi v hH hi hb hQ (.inl ⟨hw, hy⟩) hS h
def AllReadyHL (P : Program) (md : Region.Mode) (ops : Array Oper) (Q : Exit → Act → World → Prop) (S : World → Prop) (n : Nat) (L : Array Bool → Act → World → Prop) (fuel : Nat) (listed : Array Bool) (a : Act) (w : World) (rs : List Nat) : Prop :=
  ∀ i ∈ rs, wpOp P ops Q i (fun a' w' => S w' ∧ wpHL P md ops Q S n L fuel (listed.setIfInBounds i true) a' w') a w
theorem AllReadyHL.nil {L : Array Bool → Act → World → Prop} {fuel : Nat} {listed : Array Bool} {a : Act} {w : World} : AllReadyHL P md ops Q S n L fuel listed a w [] := fun _ h => by cases h
theorem AllReadyHL.cons {L : Array Bool → Act → World → Prop} {fuel : Nat} {listed : Array Bool} {a : Act} {w : World} {i : Nat} {o : Oper} {rs : List Nat} (ho : ops[i]? = some o)
    (h : ∀ K' : Act → World → Prop, Shut (∀ a w, S w → (S w → wpHL P md ops Q S n L fuel (listed.setIfInBounds i true) a w) → K' a w) → if Region.wanted o (yielded ops a.tmps) = true then Oper.wp P o a w K' Q else K' (a.put o.dst undef) w)
    (hs : AllReadyHL P md ops Q S n L fuel listed a w rs) : AllReadyHL P md ops Q S n L fuel listed a w (i :: rs) := fun j hj => by
  rcases List.mem_cons.1 hj with rfl | hj
  · exact wpOp_step ho (fun K' hK => h K' (fun a w hS hW => hK a w ⟨hS, hW hS⟩))
  · exact hs j hj
theorem wpHL_ready (rs : List Nat) {L : Array Bool → Act → World → Prop} {fuel : Nat} {listed : Array Bool} {a : Act} {w : World} (hr : (decide (Region.ready md ops listed = rs) && decide (rs ≠ []) && rs.all fun i => decide (i < n)) = true)
    (h : AllReadyHL P md ops Q S n L fuel listed a w rs) : wpHL P md ops Q S n L (fuel + 1) listed a w := by
  simp only [Bool.and_eq_true, decide_eq_true_eq, List.all_eq_true] at hr
  exact ⟨hr.1.1 ▸ hr.1.2, fun i hi => ⟨hr.2 i (hr.1.1 ▸ hi), h i (hr.1.1 ▸ hi)⟩⟩
theorem wpHL_done {g : Nat} {K : Act → World → Prop} {listed : Array Bool} {a : Act} {w : World} (hB : Region.seqB md ops g n listed = true) (h : K a w) : wpHL P md ops Q S n (TailL md ops g n K) 0 listed a w := ⟨hB, h⟩
theorem wp_region_head {id : Nat} {a : Act} {w : World} {l : List Oper} (S : World → Prop) (n : Nat) (hm : P.follows .mixedOrders = true) (hB : decide (n < l.length) = true) (hS : S w.drew)
    (h : S w.drew → wpHL P .any l.toArray Q S n (TailL .any l.toArray (l.length - n) n (wpList P l.toArray Q (l.drop n))) n (Array.replicate l.toArray.size false) a w.drew) : (Code.region id l.toArray true).wp P Q a w := by
  have hn : n < l.length := by simpa using hB
  refine wp_region_any hm ?_
  have := wpAny_of_HL (P := P) (md := .any) (ops := l.toArray) (Q := Q) (S := S) (n := n) (g := l.length - n) (fun listed a' w' (hL : TailL .any l.toArray (l.length - n) n (wpList P l.toArray Q (l.drop n)) listed a' w') => by
    have := wpAny_of_seq (md := .any) (Q' := Q) (l.drop n) n listed a' w' (fun j => by simp [List.getElem?_drop]) (by rw [List.length_drop]; exact hL.1) hL.2
    rwa [List.length_drop] at this) n _ a w.drew (h hS)
  rw [show n + (l.length - n) = l.toArray.size by simp; omega] at this
  exact this
theorem wp_region_head1 {id : Nat} {a : Act} {w : World} {l : List Oper} (S : World → Prop) (n p : Nat) (op : Oper) (v : Value) (hm : P.follows .mixedOrders = true)
    (hB : (decide (n < l.length) && decide (0 < n) && Region.noSelect l.toArray && Region.free .any l.toArray (Array.replicate l.toArray.size false) p && (Region.ready .any l.toArray (Array.replicate l.toArray.size false)).contains p) = true) (hp : l.toArray[p]? = some op)
    (hQ : ∀ c a w, Q (.panic c) (a.put op.dst v) w → Q (.panic c) a w) (hw : Region.wanted op (yielded l.toArray a.tmps) = true) (hy : ∀ w, (execOp a.eval op).run P w = .ok (.value v) w) (hS : S w.drew)
    (h : S w.drew → wpHL P .any l.toArray Q S n (TailL .any l.toArray (l.length - n) n (wpList P l.toArray Q (l.drop n))) (n - 1) ((Array.replicate l.toArray.size false).setIfInBounds p true) (a.put op.dst v) w.drew) : (Code.region id l.toArray true).wp P Q a w := by
  simp only [Bool.and_eq_true, decide_eq_true_eq] at hB
  obtain ⟨⟨⟨⟨hn, hn0⟩, hsel⟩, hf⟩, hr⟩ := hB
  refine wp_region_any hm ?_
  have := wpAny_of_HL (P := P) (md := .any) (ops := l.toArray) (Q := Q) (S := S) (n := n) (g := l.length - n) (fun listed a' w' (hL : TailL .any l.toArray (l.length - n) n (wpList P l.toArray Q (l.drop n)) listed a' w') => by
    have := wpAny_of_seq (md := .any) (Q' := Q) (l.drop n) n listed a' w' (fun j => by simp [List.getElem?_drop]) (by rw [List.length_drop]; exact hL.1) hL.2
    rwa [List.length_drop] at this) (n - 1) _ _ w.drew (h hS)
  rw [show l.toArray.size = (n - 1 + (l.length - n)) + 1 by simp; omega]
  have e : Array.replicate ((n - 1 + (l.length - n)) + 1) false = Array.replicate l.toArray.size false := by
    congr 1; simp; omega
  rw [e]
  exact wpAny_take hp hsel hf hr hQ (.inl ⟨hw, hy⟩) this
end
end Go.Proofs.YtfhiaifdigefdaaDoor
