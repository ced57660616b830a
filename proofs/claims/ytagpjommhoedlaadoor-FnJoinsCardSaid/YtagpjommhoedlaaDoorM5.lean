import Derived.Test.YtagpjommhoedlaaDoorM4
import Derived.Test.YtagpjommhoedlaaDoorM1
import Derived.BigQuiet
import Derived.Test.YtagpjommhoedlaaDoorM3
import Derived.Test.YtagpjommhoedlaaDoorM2
import Derived.Deep.RegionWith
import Derived.Deep.RegionLaw
import Derived.Shelf.Small.Strs
import Derived.Shelf.Utf8.RuneCount
import Derived.Shelf.LaysM
import Derived.Shelf.Strings.Search1
import Derived.Shelf.Strings.Search2
import Derived.Shelf.Strings.Search3
import Derived.Shelf.Strings.Count
import Derived.Shelf.Strings.Shaped
import Derived.Shelf.Strings.Split
import Derived.Shelf.Strings.SplitShaped
import Derived.Shelf.Strings.RuneCount
import Derived.Shelf.Strings.Explode
import Derived.Test.YtagpjommhoedlaaDoorProg
import Derived.Lib.UnsafeStr
import Derived.Laws.IdiomStrings
import Derived.ArgAppend
import Derived.Deep.DeepCutAuto
import Derived.Deep.CutBlock
import Derived.WalkArith
import Derived.Shelf.Strings.BuilderK
import Derived.Laws.EntriesVeiled
namespace Go.Proofs.YtagpjommhoedlaaDoor
open Go.RowKit

theorem Row.take {α : Type} {E : Enc α} {w : World} {S : Nat → Prop} {A : Option Addr} {xs : List α} (h : Row E w S A xs) (m : Nat) : Row E w S A (xs.take m) := fun hn => by
  obtain ⟨b, o, rfl, hlt, hc⟩ := h (by simp at hn; omega)
  refine ⟨b, o, rfl, hlt, fun k x hx => hc k x ?_⟩
  rw [List.getElem?_take] at hx
  split at hx
  · exact hx
  · cases hx
theorem sl_take {α : Type} {E : Enc α} {w : World} {S : Nat → Prop} {A : Option Addr} {n c : Nat} {xs : List α} (h : SlS E w S (.slice A n c) xs) {m : Nat} (hm : m ≤ xs.length) : SlS E w S (.slice A m c) (xs.take m) := by
  obtain ⟨A', c', e, h1, h2, h3⟩ := h
  injection e with e1 e2 e3
  subst e1; subst e3
  exact ⟨A, c, by rw [List.length_take, Nat.min_eq_left hm], by rw [List.length_take]; omega, h2, h3.take m⟩
theorem joinFold_len : ∀ (l : List Nat) (p : List GRule × Int), (l.foldl joinStep p).1.length = p.1.length + l.length
  | [], p => rfl
  | a :: l, p => by rw [List.foldl_cons, joinFold_len l]; simp [joinStep]; omega
theorem foldl_snoc (l s : List Nat) : l.foldl (fun s r => s ++ [r]) s = s ++ l := by
  induction l generalizing s with
  | nil => simp
  | cons a l ih => rw [List.foldl_cons, ih]; simp

set_option maxRecDepth 100000 in
set_option maxHeartbeats 4000000 in
theorem part_any (vR vL : Value) (xs : List GRule) (ls : List Int) (i j : Int) (w : World) (hR : Sl RuleE w w.heap.size vR xs) (hL : Sl IntE w w.heap.size vL ls) (hl : lens xs = some ls) (hn : xs.length ≤ 1048576) :
    Calls Tryd.prog 31 #[.agg #[vR], vL, .int .i64 i, .int .i64 j] w (GOwn (partG xs ls i j) w) := by
  have HL := Lib.hid hL
  have HR := Lib.hid hR
  obtain ⟨AR, cR, rfl, _, hmR, _⟩ := hR
  obtain ⟨AL, cL, rfl, _⟩ := hL
  unfold maxLen at hmR
  have Hl := Lib.hid hl
  clear hl
  go_enter Tryd.func31, Tryd.ntmps31
  go_wp2_with fail
  have hz0 : ((((w.alloc (Obj.cells #[Value.slice AR xs.length cR] 26)).alloc (Obj.cells #[Value.slice none 0 0] 26)).alloc (Obj.cells #[] 2)).alloc (Obj.cells #[Value.slice (some ⟨w.heap.size + 1 + 1, 0, none⟩) 0 0] 51)).heap.size = w.heap.size + 4 := by simp
  have hB0 : Below w.heap.size w ((((w.alloc (Obj.cells #[Value.slice AR xs.length cR] 26)).alloc (Obj.cells #[Value.slice none 0 0] 26)).alloc (Obj.cells #[] 2)).alloc (Obj.cells #[Value.slice (some ⟨w.heap.size + 1 + 1, 0, none⟩) 0 0] 51)) := (by repeat (first | exact Below.refl _ _ | (refine Below.alloc ?_ (by first | omega | (simp; done) | (simp; omega)) _) | refine below_drewN ?_ _ | refine Below.drew ?_))
  have hx0 : ((((w.alloc (Obj.cells #[Value.slice AR xs.length cR] 26)).alloc (Obj.cells #[Value.slice none 0 0] 26)).alloc (Obj.cells #[] 2)).alloc (Obj.cells #[Value.slice (some ⟨w.heap.size + 1 + 1, 0, none⟩) 0 0] 51)).cell? ⟨w.heap.size, 0, none⟩ = some (.slice AR xs.length cR) := by simp [go_sem]
  have hbx1 : Boxed ((((w.alloc (Obj.cells #[Value.slice AR xs.length cR] 26)).alloc (Obj.cells #[Value.slice none 0 0] 26)).alloc (Obj.cells #[] 2)).alloc (Obj.cells #[Value.slice (some ⟨w.heap.size + 1 + 1, 0, none⟩) 0 0] 51)) (w.heap.size + 1) 26 (.slice none 0 0) := by
    have := ((Boxed.new (w.alloc (Obj.cells #[Value.slice AR xs.length cR] 26)) 26 (.slice none 0 0)).alloc (Obj.cells #[] 2)).alloc (Obj.cells #[Value.slice (some ⟨w.heap.size + 1 + 1, 0, none⟩) 0 0] 51)
    rwa [show (w.alloc (Obj.cells #[Value.slice AR xs.length cR] 26)).heap.size = w.heap.size + 1 by simp] at this
  have hCJ : CJ (w.heap.size + 3) (w.heap.size + 2) (fun b => b < w.heap.size + 2) [] ((((w.alloc (Obj.cells #[Value.slice AR xs.length cR] 26)).alloc (Obj.cells #[Value.slice none 0 0] 26)).alloc (Obj.cells #[] 2)).alloc (Obj.cells #[Value.slice (some ⟨w.heap.size + 1 + 1, 0, none⟩) 0 0] 51)) := by
    refine ⟨.slice (some ⟨w.heap.size + 1 + 1, 0, none⟩) 0 0, ?_, ?_, by simp, by omega, fun g hg => ?_⟩
    · have := Boxed.new (((w.alloc (Obj.cells #[Value.slice AR xs.length cR] 26)).alloc (Obj.cells #[Value.slice none 0 0] 26)).alloc (Obj.cells #[] 2)) 51 (Value.slice (some ⟨w.heap.size + 1 + 1, 0, none⟩) 0 0)
      rwa [show (((w.alloc (Obj.cells #[Value.slice AR xs.length cR] 26)).alloc (Obj.cells #[Value.slice none 0 0] 26)).alloc (Obj.cells #[] 2)).heap.size = w.heap.size + 3 by simp] at this
    · exact (OwnInts.empty (w := (w.alloc (Obj.cells #[Value.slice AR xs.length cR] 26)).alloc (Obj.cells #[Value.slice none 0 0] 26)) (by simp) (by simp)).alloc _
    · have : w.heap.size + 1 + 1 = g := Option.some.inj hg
      omega
  generalize ((((w.alloc (Obj.cells #[Value.slice AR xs.length cR] 26)).alloc (Obj.cells #[Value.slice none 0 0] 26)).alloc (Obj.cells #[] 2)).alloc (Obj.cells #[Value.slice (some ⟨w.heap.size + 1 + 1, 0, none⟩) 0 0] 51)) = w0 at *
  have HB0 := Lib.hid hB0
  have HX0 := Lib.hid hx0
  have HBX1 := Lib.hid hbx1
  have HZ0 := Lib.hid hz0
  have HCJ := Lib.hid hCJ
  clear hB0 hx0 hbx1 hz0 hCJ
  have hpl := pieces_len Hl.out i j
  have hpm := pieces_mem Hl.out i j
  refine (pieces_any (CJ (w.heap.size + 3) (w.heap.size + 2)) (fun s r => s ++ [r]) (fun s _ => s.length ≤ 1099511627775) 59 #[.pointer (some ⟨w.heap.size + 3, 0, none⟩)] xs ls i j Hl.out (by omega) (enters_of Tryd.func59 (by kernel_rfl) rfl) (fun C s w w' hJ hb _ hC => CJ.ext C s w w' hJ hb hC)
    (fun C s r w' hJ hok hr hC => coverCl_any _ _ C s r w' hJ hok hC) (.slice AL ls.length cL) (.slice AR xs.length cR) [] (fun b => b < w.heap.size + 2) w0 HCJ.out ?_ ?_ ?_ ?_).mono ?_
  · intro l1 r l2 e
    rw [foldl_snoc, List.nil_append]
    have := congrArg List.length e
    simp at this; omega
  · intro b hb
    have := HZ0.out
    omega
  · exact ((HL.out.below HB0.out).le (by omega))
  · exact ((HR.out.below HB0.out).le (by omega))
  rintro e w2 ⟨rfl, C2, g1, g2, g3, g4⟩
  rw [foldl_snoc, List.nil_append] at g3
  obtain ⟨P, hP⟩ : ∃ P, piecesL xs ls i j = P := ⟨_, rfl⟩
  rw [hP] at g3 hpl hpm
  obtain ⟨v, hbc, hoc, _, _, hvC⟩ := g3
  obtain ⟨Ac, cc, rfl, _⟩ := own_nil hoc
  have hb2 : Below (w.heap.size + 2) w0 w2 := g4.below fun k hk => hk
  have hg : partG xs ls i j = trimG (cutG xs P) := by rw [partG, hP]
  have hz2 : w.heap.size + 4 ≤ w2.heap.size := by have := hb2.size; have := HZ0.out; omega
  have hbR : Boxed w2 (w.heap.size + 1) 26 (.slice none 0 0) := Boxed.up HBX1.out hb2 (by omega)
  have c0 := (hb2.cell (p := ⟨w.heap.size, 0, none⟩) (by show w.heap.size < w.heap.size + 2; omega)).trans HX0.out
  have HB2 := Lib.hid (HB0.out.trans (hb2.mono (by omega)))
  have HBC := Lib.hid hbc
  have HOC := Lib.hid hoc
  have Hg := Lib.hid hg
  have HPM := Lib.hid hpm
  have HBR := Lib.hid hbR
  have bxc := hbc.cell
  have fR := hbR.frozen
  have cR1 := hbR.cell
  clear g1 g2 g4 hP hbc hoc hvC hb2 hg hbR hpm
  rcases P with _ | ⟨c, _ | ⟨d, cs⟩⟩
  · replace bxc : w2.cell? ⟨w.heap.size + 3, 0, none⟩ = some (.slice Ac 0 cc) := bxc
    go_wp2_with fail
    refine bodyPost_ret (v := .agg #[.slice none 0 0]) (by simp [results, Tryd.results31, go_sem, (Boxed.set (Value.slice none 0 0) HBR.out).cell]) rfl ⟨HB2.out.setCell (by show w.heap.size ≤ w.heap.size + 1; omega) _, _, ?_, rfl⟩
    rw [Hg.out]
    exact World.ownsRow_nil _ _ _ _
  · replace bxc : w2.cell? ⟨w.heap.size + 3, 0, none⟩ = some (.slice Ac 1 cc) := bxc
    obtain ⟨g, cap, e1, hg1, hg2, hg3, hgc⟩ := OwnInts.at_ HOC.out (j := 0) (by simp [nI])
    injection e1 with e11 e12 e13
    subst e11
    have cc0 : w2.cell? ⟨g, 0, none⟩ = some (.int .i64 (c : Int)) := hgc 0 (by simp [nI])
    have hcx : c < xs.length := HPM.out c (by simp)
    have hcR : (c : Int) + 1 ≤ (cR : Int) := by omega
    have hS2 : Sl RuleE w2 w2.heap.size (.slice AR xs.length cR) xs := (HR.out.below HB2.out).le (by omega)
    have hok := okAll_take (okAll_lens Hl.out) (c + 1)
    have TR := Lib.hid (trimmed_any (.slice AR (c + 1) cR) (xs.take (c + 1)) w2.drew (SlS.keep (sl_take hS2 (m := c + 1) (by omega)) fun _ _ => rfl) (by rw [List.length_take]; omega) hok)
    have htn : ((c : Int) + 1).toNat = c + 1 := by omega
    have hwc : IntKind.i64.wrap ((c : Int) + 1) = (c : Int) + 1 := IntWalk.i64_in _ (by omega)
    have hc0 : (0 : Int) ≤ (c : Int) + 1 := by omega
    clear hgc e12 hg3 hS2 hok
    go_wp2_with fail
    go_region_law (go_simp; go_at_call 60; (with_reducible refine TR.out.mono ?_); rintro e w3 ⟨hb3, v3, own3, rfl⟩; obtain ⟨A3, c3, rfl, _⟩ := own_nil own3; have hbR3 : Boxed w3 (w.heap.size + 1) 26 (.slice none 0 0) := Boxed.up (w := w2.drew) HBR.out hb3 (by show w.heap.size + 1 < w2.heap.size; omega); have fR3 := hbR3.frozen; have cR3 := hbR3.cell)
    all_goals
      go_wp2_with fail
      refine bodyPost_ret (v := .agg #[.slice A3 (trimG (xs.take (c + 1))).length c3]) (by simp [results, Tryd.results31, go_sem, (Boxed.set (Value.slice A3 (trimG (xs.take (c + 1))).length c3) hbR3).cell]) rfl ⟨((HB2.out.trans (Below.drew (Below.refl _ _))).trans (hb3.mono (by show w.heap.size ≤ w2.heap.size; omega))).setCell (by show w.heap.size ≤ w.heap.size + 1; omega) _, _, ?_, rfl⟩
      rw [Hg.out]
      exact ownsRow_more (ownsRow_setCell_other (a := ⟨w.heap.size + 1, 0, none⟩) own3 (hbR3.not_row (by decide) own3).symm _) (by show w.heap.size ≤ w2.heap.size; omega)
  · have hln : (nI (c :: d :: cs)).length = cs.length + 2 := by simp [nI]
    rw [hln] at bxc
    obtain ⟨g, cap, e1, hg1, hg2, hg3, hgc⟩ := OwnInts.at_ HOC.out (j := 0) (by simp [nI])
    injection e1 with e11 e12 e13
    subst e11; subst e13
    rw [hln] at hg3
    have cc0 : w2.cell? ⟨g, 0, none⟩ = some (.int .i64 (c : Int)) := hgc 0 (by simp [nI])
    have hS2 : Sl RuleE w2 w2.heap.size (.slice AR xs.length cR) xs := (HR.out.below HB2.out).le (by omega)
    have cA : ∀ o, Calls Tryd.prog 51 #[.agg #[.slice AR xs.length cR]] (w2.alloc o).drew fun e w' => (∃ A1 c1, e = .returned (.agg #[.slice A1 xs.length c1]) ∧ OwnRules w' w2.heap.size (.slice A1 xs.length c1) xs ∧ Below w2.heap.size w2 w') ∧ w'.heap[w2.heap.size]? = some o :=
      fun o => (copied_any _ xs (w2.alloc o).drew ((hS2.up ((Below.refl _ _).alloc (Nat.le_refl _) o)).keep fun _ _ => rfl) (by omega)).mono fun e w' ⟨v', h1, h2, h3⟩ => by
        obtain ⟨A1, c1, rfl, _⟩ := own_nil h2
        have hsz : w2.heap.size < (w2.alloc o).drew.heap.size := by show w2.heap.size < (w2.alloc o).heap.size; simp
        exact ⟨⟨A1, c1, h1, ownsRow_more h2 (Nat.le_of_lt hsz), (Below.drew ((Below.refl w2.heap.size w2).alloc (Nat.le_refl _) o)).trans (h3.mono (Nat.le_of_lt hsz))⟩, (h3.block w2.heap.size hsz).trans (alloc_heap_last _ _)⟩
    have cB : Calls Tryd.prog 51 #[.agg #[.slice AR xs.length cR]] w2.drew fun e w' => ∃ A1 c1, e = .returned (.agg #[.slice A1 xs.length c1]) ∧ OwnRules w' w2.heap.size (.slice A1 xs.length c1) xs ∧ Below w2.heap.size w2 w' :=
      (copied_any _ xs w2.drew (hS2.keep fun _ _ => rfl) (by omega)).mono fun e w' ⟨v', h1, h2, h3⟩ => by
        obtain ⟨A1, c1, rfl, _⟩ := own_nil h2
        exact ⟨A1, c1, h1, h2, (Below.drew (Below.refl w2.heap.size w2)).trans h3⟩
    have CA := Lib.hid cA
    have CB := Lib.hid cB
    have Hgc := Lib.hid hgc
    have l3 : w.heap.size + 3 < w2.heap.size := by omega
    have l0 : w.heap.size < w2.heap.size := by omega
    have BXC := Lib.hid bxc
    have h02 : (0 : Int) < (cs.length : Int) + 2 := by omega
    clear cA cB hgc hln hS2 e12
    go_upto_region 8 with fail
    go_cut [10, 11] from 24 to 41 (fun p q wx => ∃ (K : Nat) (vo : Value), p = .pointer (some ⟨K, 0, none⟩) ∧ q = .int .i64 (c : Int) ∧ w2.heap.size ≤ K ∧ Boxed wx K 26 vo ∧ OwnRules wx w2.heap.size vo xs ∧ Below w2.heap.size w2 wx)
    case first =>
      go_region_law (go_simp; go_at_call 51; first
        | ((with_reducible refine (CA.out _).mono ?_); rintro e w3 ⟨⟨A1, c1, rfl, own1, hb3⟩, bx3⟩; have bxB : Boxed w3 w2.heap.size 26 (.slice none 0 0) := bx3; have hcb := bxB.cell; have hfb := bxB.frozen; have xx3 := (hb3.cell (p := ⟨w.heap.size + 3, 0, none⟩) l3).trans BXC.out; have yy3 := (hb3.cell (p := ⟨g, 0, none⟩) hg2).trans cc0; have gg3 := Nat.lt_of_lt_of_le hg2 hb3.size; have ll3 := Nat.lt_of_lt_of_le l3 hb3.size; have kk3 := (hb3.cell (p := ⟨w.heap.size, 0, none⟩) l0).trans c0; have mm3 := Nat.lt_of_lt_of_le l0 hb3.size)
        | ((with_reducible refine CB.out.mono ?_); rintro e w3 ⟨A1, c1, rfl, own1, hb3⟩; have xx3 := (hb3.cell (p := ⟨w.heap.size + 3, 0, none⟩) l3).trans BXC.out; have yy3 := (hb3.cell (p := ⟨g, 0, none⟩) hg2).trans cc0; have gg3 := Nat.lt_of_lt_of_le hg2 hb3.size; have ll3 := Nat.lt_of_lt_of_le l3 hb3.size; have kk3 := (hb3.cell (p := ⟨w.heap.size, 0, none⟩) l0).trans c0; have mm3 := Nat.lt_of_lt_of_le l0 hb3.size))
      all_goals
        go_wp2_with fail
        go_meet
        first
          | exact ⟨_, _, rfl, rfl, hb3.size, Boxed.new _ _ _, own1.alloc _, hb3.alloc hb3.size _⟩
          | exact ⟨_, _, rfl, rfl, Nat.le_refl _, Boxed.set _ bxB, ownsRow_setCell_other (a := ⟨w2.heap.size, 0, none⟩) own1 (bxB.not_row (by decide) own1).symm _, hb3.setCell (Nat.le_refl _) _⟩
    case rest =>
      revert hcut
      generalize wc = w3
      intro hcut
      obtain ⟨K, vo, rfl, rfl, hK, bx3, own3, hb3⟩ := hcut
      have c3 := (hb3.cell (p := ⟨w.heap.size + 3, 0, none⟩) l3).trans BXC.out
      have HB3 := Lib.hid hb3
      have Bx3 := Lib.hid bx3
      have Ow3 := Lib.hid own3
      have Hcs : Hid (∀ k, k < cs.length + 1 → w3.cell? ⟨g, 1 + k, none⟩ = some (.int .i64 (((d :: cs).getD k 0 : Nat) : Int))) := fun k hk => by
        rw [hb3.cell (p := ⟨g, 1 + k, none⟩) hg2, Hgc.out (1 + k) (by simp [nI]; omega)]
        have e : (nI (c :: d :: cs)).getD (1 + k) 0 = (((d :: cs).getD k 0 : Nat) : Int) := by
          rw [Nat.add_comm, nI, List.getD_eq_getElem?_getD, List.map_cons, List.getElem?_cons_succ, List.getElem?_map, List.getD_eq_getElem?_getD, List.getElem?_eq_getElem (by simp; omega)]; rfl
        rw [e]
      have hne1 : ¬ cc = 1 := by omega
      clear hb3 bx3 own3
      go_wp2_with fail
      go_loopw [11, 45] (fun q i wx => ∃ (k : Nat) (b : Int) (vo : Value) (L : List GRule), k ≤ cs.length + 1 ∧ q = .int .i64 b ∧ i = .int .i64 k ∧ ((d :: cs).take k).foldl joinStep (xs, (c : Int)) = (L, b) ∧ Boxed wx K 26 vo ∧ OwnRules wx w2.heap.size vo L ∧ Below w2.heap.size w3 wx) (fun _ i _ => cs.length + 1 - (intOf i).toNat)
      case atStart => exact ⟨0, (c : Int), vo, xs, by omega, rfl, rfl, rfl, Bx3.out, Ow3.out, Below.refl _ _⟩
      case round =>
        obtain ⟨k, b, vk, L, hk, rfl, rfl, hLb, hbk, hok, hb4⟩ := hrel
        obtain ⟨Ak, ck, rfl, _⟩ := own_nil hok
        have hLn : L.length ≤ 1099511627774 := by
          have := joinFold_len ((d :: cs).take k) (xs, (c : Int))
          rw [hLb] at this
          simp at this hpl; omega
        have Hb4 := Lib.hid hb4
        have Hbk := Lib.hid hbk
        have Hok := Lib.hid hok
        have HLb := Lib.hid hLb
        have HLn := Lib.hid hLn
        have bxk := hbk.cell
        have cgk := fun k hk => (hb4.cell (p := ⟨g, 1 + k, none⟩) hg2).trans (Hcs.out k hk)
        clear hb4 hbk hok hLb hLn
        by_cases hlt : k < cs.length + 1
        · have cg := cgk k hlt
          clear cgk
          have hki : (k : Int) < (cs.length : Int) + 1 := by omega
          obtain ⟨x, hx⟩ : ∃ x, (d :: cs).getD k 0 = x := ⟨_, rfl⟩
          rw [hx] at cg
          have Hx := Lib.hid hx
          have hcl : cs.length ≤ 2097152 := by simp at hpl; omega
          have HKw := Lib.hid (show K < wr.heap.size from Hbk.out.lt)
          have HW := Lib.hid (show w2.heap.size ≤ wr.heap.size from Nat.le_trans HB3.out.size Hb4.out.size)
          clear hx
          go_upto_region 12 with fail
          go_cut [] from 46 to 56 (fun wx => ∃ vo : Value, Boxed wx K 26 vo ∧ OwnRules wx w2.heap.size vo (L ++ [pairR b x]) ∧ Below w2.heap.size w3 wx)
          case first =>
            go_region_law (first
              | (refine step_push_rule (base := w2.heap.size) (by rfl) _ _ (by rfl) (by rfl) (by first | rfl | simp) rfl (OwnRules.below Hok.out.drew hb2) (Nat.le_trans HLn.out (by omega)) hs2 ?_; intro v5 w5 own5 hg5 hb5; have bx5 : Boxed w5 K 26 _ := Boxed.grown (Boxed.up (Boxed.mk' Hbk.out) hb2 HKw.out) (by decide) (OwnRules.below Hok.out.drew hb2) hg5; obtain ⟨A5, c5, rfl, _⟩ := own_nil own5; have hcb5 := bx5.cell; have hfb5 := bx5.frozen)
              | (go_simp; go_at_call 61; refine (pairI64_any _ _ _).mono ?_; rintro e w4 ⟨rfl, hb2⟩; have bx2 := Boxed.up (Boxed.mk' Hbk.out) hb2 HKw.out; have hcb2 := bx2.cell; have hfb2 := bx2.frozen; have hlb2 := bx2.lt; have hs2 : w2.heap.size ≤ w4.heap.size := Nat.le_trans HW.out hb2.size))
            all_goals
              go_wp2_with fail
              go_meet
              have e9 : (L ++ [pairR b x]).length = L.length + 1 := by simp
              have own9 : OwnRules w5 w2.heap.size (.slice A5 (L.length + 1) c5) (L ++ [pairR b x]) := by rw [← e9]; exact own5
              exact ⟨_, Boxed.set _ bx5, ownsRow_setCell_other (a := ⟨K, 0, none⟩) own9 (bx5.not_row (by decide) own9).symm _, ((((Below.drew Hb4.out).trans (hb2.mono HW.out)).alloc hs2 _).trans hb5).setCell hK _⟩
          case rest =>
            revert hcut
            generalize wc = w5
            intro hcut
            obtain ⟨v5, bx5, own5, hb5⟩ := hcut
            have hM : (L ++ [pairR b x]).length = L.length + 1 := by simp
            obtain ⟨M, hMe⟩ : ∃ M, L ++ [pairR b x] = M := ⟨_, rfl⟩
            rw [hMe] at own5 hM
            obtain ⟨A5, c5, rfl, _⟩ := own_nil own5
            rw [hM] at own5 bx5
            have bxc5 := bx5.cell
            have Bx5 := Lib.hid bx5
            have Ow5 := Lib.hid own5
            have Hb5 := Lib.hid hb5
            have HM := Lib.hid hM
            have HMe := Lib.hid hMe
            have hLn := HLn.out
            clear bx5 own5 hb5 hM hMe
            go_wp2_with fail
            refine ⟨⟨k + 1, (L.length : Int), _, M, by omega, rfl, rfl, ?_, Bx5.out, Ow5.out, Hb5.out⟩, by simp [intOf]; omega⟩
            rw [List.take_add_one, List.getElem?_eq_getElem (show k < (d :: cs).length by simpa using hlt), List.foldl_append, HLb.out]
            have hxe : (d :: cs)[k]'(by simpa using hlt) = x := by rw [← Hx.out, List.getD_eq_getElem?_getD, List.getElem?_eq_getElem (show k < (d :: cs).length by simpa using hlt)]; rfl
            rw [hxe]
            show (L ++ [pairR b x], (L.length : Int)) = _
            rw [HMe.out]
        · have hkn : k = cs.length + 1 := by omega
          subst hkn
          have hki : ¬ ((cs.length : Int) + 1 < (cs.length : Int) + 1) := by omega
          have hL : L = cutG xs (c :: d :: cs) := by
            have := HLb.out
            rw [List.take_of_length_le (by simp)] at this
            rw [cutG, this]
          have HcG := cutG_ok (okAll_lens Hl.out) (c :: d :: cs) HPM.out
          rw [← hL] at HcG
          have hwr2 : w2.heap.size ≤ wr.heap.size := Nat.le_trans HB3.out.size Hb4.out.size
          have TR := Lib.hid (trimmed_any _ L wr (OwnRules.sl Hok.out) (by have := HcG.2; simp at this hpl; omega) HcG.1)
          have B0 : Below w.heap.size w wr := HB2.out.trans ((HB3.out.trans Hb4.out).mono (by omega))
          have hbR3 : Boxed wr (w.heap.size + 1) 26 (.slice none 0 0) := Boxed.up HBR.out (HB3.out.trans Hb4.out) (by omega)
          have HbR3 := Lib.hid hbR3
          have HB0' := Lib.hid B0
          have HL' := Lib.hid hL
          clear HcG hL B0 hbR3 cgk
          go_wp2_with fail
          (with_reducible refine TR.out.mono ?_)
          rintro e w4 ⟨hb4, v4, own4, rfl⟩
          obtain ⟨A4, c4, rfl, _⟩ := own_nil own4
          have hb9 : Boxed w4 (w.heap.size + 1) 26 (.slice none 0 0) := Boxed.up HbR3.out hb4 (by omega)
          have c9 := hb9.cell
          have f9 := hb9.frozen
          go_wp2_with fail
          refine bodyPost_ret (v := .agg #[.slice A4 (trimG L).length c4]) (by simp [results, Tryd.results31, go_sem, (Boxed.set (Value.slice A4 (trimG L).length c4) hb9).cell]) rfl ⟨(HB0'.out.trans (hb4.mono (by omega))).setCell (by show w.heap.size ≤ w.heap.size + 1; omega) _, _, ?_, rfl⟩
          rw [Hg.out, ← HL'.out]
          exact ownsRow_more (ownsRow_setCell_other (a := ⟨w.heap.size + 1, 0, none⟩) own4 (hb9.not_row (by decide) own4).symm _) (by omega)
end Go.Proofs.YtagpjommhoedlaaDoor

namespace Go.Proofs.YtagpjommhoedlaaDoor
open Go.RowKit

end Go.Proofs.YtagpjommhoedlaaDoor

namespace Go.Proofs.YtagpjommhoedlaaDoor
open Go.RowKit

end Go.Proofs.YtagpjommhoedlaaDoor

namespace Go.Proofs.YtagpjommhoedlaaDoor
open Go.RowKit

/-- What PartGrammar answers. -/
def partX (xs : List GRule) (i j : Int) : List GRule := match lens xs with
  | some ls => partG xs ls i j
  | none => []
def partIn (xs : List GRule) (i j : Int) : Bool := match lens xs with
  | some ls => decide (0 ≤ i) && decide (i ≤ j) && decide (j ≤ lastI ls)
  | none => false
def partOut (xs : List GRule) (i j : Int) : List GRule := if gramOk xs && partIn xs i j then limOut (partX xs i j) else []
def partCode (xs : List GRule) (i j : Int) : Int := if gramOk xs then if partIn xs i j then limCode (partX xs i j) else 2 else 1
theorem partOut_yes {xs : List GRule} {ls : List Int} {i j : Int} (h : gramOk xs = true) (hl : lens xs = some ls) (hi : 0 ≤ i ∧ i ≤ j ∧ j ≤ lastI ls) : partOut xs i j = limOut (partG xs ls i j) ∧ partCode xs i j = limCode (partG xs ls i j) := by
  have e1 : partIn xs i j = true := by simp [partIn, hl, hi]
  have e2 : partX xs i j = partG xs ls i j := by simp [partX, hl]
  simp [partOut, partCode, h, e1, e2]
theorem partOut_no {xs : List GRule} {ls : List Int} {i j : Int} (h : gramOk xs = true) (hl : lens xs = some ls) (hi : ¬ (0 ≤ i ∧ i ≤ j ∧ j ≤ lastI ls)) : partOut xs i j = [] ∧ partCode xs i j = 2 := by
  have e1 : partIn xs i j = false := by
    simp only [partIn, hl]
    rw [Bool.eq_false_iff]
    intro e; simp at e; exact hi ⟨e.1.1, e.1.2, e.2⟩
  simp [partOut, partCode, h, e1]
theorem partOut_bad {xs : List GRule} {i j : Int} (h : gramOk xs = false) : partOut xs i j = [] ∧ partCode xs i j = 1 := by simp [partOut, partCode, h]
theorem inR_iff (n a b : Int) : inR n a b = (decide (a ≤ n) && decide (n ≤ b)) := rfl

set_option maxRecDepth 100000 in
set_option maxHeartbeats 1000000 in
theorem implPart_any (v : Value) (xs : List GRule) (i j : Int) (w : World) (h : Sl RuleE w w.heap.size v xs) (hn : xs.length ≤ 1048576) :
    Calls Tryd.prog 12 #[.agg #[v], .int .i64 i, .int .i64 j] w (GRes (partOut xs i j) (partCode xs i j) w) := by
  have h1 := fun o o' => (h.below (((Below.refl w.heap.size w).alloc (Nat.le_refl _) o).alloc (by simp) o')).le (B' := ((w.alloc o).alloc o').heap.size) (by simp; omega)
  have H1 := Lib.hid h1
  clear h1
  obtain ⟨A, c, rfl, hc, hm, hrow⟩ := h
  clear hm hrow
  go_enter Tryd.func12, Tryd.ntmps12
  go_wp2_with fail
  refine (lengths_any _ xs _ (H1.out _ _) (by omega)).mono ?_
  rintro e w1 ⟨hb1, hpost⟩
  obtain ⟨hc1, hf1⟩ := bcell hb1
  have hz1 : w.heap.size + 1 < w1.heap.size := by have := hb1.size; simp at this; omega
  have a1 : w1.cell? ⟨w.heap.size, 0, none⟩ = some (.slice A xs.length c) := by rw [hc1 _ _ (by first | omega | (simp; done) | (simp; omega))]; simp [go_sem]
  have c1 : w1.cell? ⟨w.heap.size + 1, 0, none⟩ = some (.slice none 0 0) := by rw [hc1 _ _ (by first | omega | (simp; done) | (simp; omega))]; simp [go_sem]
  have f1 : w1.frozen? ⟨w.heap.size + 1, 0, none⟩ = false := by rw [hf1 _ _ (by first | omega | (simp; done) | (simp; omega))]; simp [go_sem]
  have S1 := Lib.hid ((H1.out (Obj.cells #[Value.slice A xs.length c] 26) (Obj.cells #[Value.slice none 0 0] 26)).up hb1)
  have B1 := Lib.hid (((Below.refl w.heap.size w).alloc (Nat.le_refl _) (Obj.cells #[Value.slice A xs.length c] 26)).alloc (by simp) (Obj.cells #[Value.slice none 0 0] 26) |>.trans (hb1.mono (by simp; omega)))
  clear hc1 hf1 hb1
  have hcase : (gramOk xs = false ∧ ∃ vv, e = .returned (.tuple #[vv, .bool false])) ∨ (gramOk xs = true ∧ ∃ ls vv, lens xs = some ls ∧ e = .returned (.tuple #[vv, .bool true]) ∧ Sl IntE w1 w1.heap.size vv ls) := by
    rcases hpost with ⟨ls, vv, hl, he, ho⟩ | ⟨hl, he⟩
    · by_cases h4 : xs.length ≤ 400
      · exact .inr ⟨by simp [gramOk, h4, hl], ls, vv, hl, by rw [he]; simp [h4], ho.sl⟩
      · exact .inl ⟨by simp [gramOk, h4], vv, by rw [he]; simp [h4]⟩
    · exact .inl ⟨by simp [gramOk, hl], _, he⟩
  clear hpost
  rcases hcase with ⟨hok, vv, rfl⟩ | ⟨hok, ls, vv, hl, rfl, hL⟩
  · obtain ⟨e1, e2⟩ := partOut_bad (i := i) (j := j) hok
    have E1 := Lib.hid e1
    have E2 := Lib.hid e2
    clear e1 e2 hok
    go_wp2
    refine bodyPost_ret (v := .tuple #[.agg #[.slice none 0 0], .int .i64 1]) (by simp [results, Tryd.results12, go_sem, c1]) rfl ⟨?_, _, ?_, by rw [E2.out]⟩
    · exact B1.out.setCell (by show w.heap.size ≤ w.heap.size + 1; omega) _
    · rw [E1.out]; exact World.ownsRow_nil _ _ _ _
  · have Hok := Lib.hid hok
    have Hl := Lib.hid hl
    have HL := Lib.hid hL
    obtain ⟨AL, cL, rfl, _⟩ := hL
    clear hok hl
    by_cases hin : 0 ≤ i ∧ i ≤ j ∧ j ≤ lastI ls
    · obtain ⟨E1, E2⟩ := partOut_yes Hok.out Hl.out hin
      obtain ⟨i1, i2, i3⟩ := hin
      have E1 := Lib.hid E1
      have E2 := Lib.hid E2
      have hw1 : inR i 0 j = true := by simp [inR_iff, i1, i2]
      have hgt : ¬ (j > lastI ls) := by omega
      clear i1 i2 i3
      go_wp2_with fail
      refine (within_yes _ _ _ _ hw1).mono ?_
      rintro e w' ⟨rfl, rfl⟩
      go_wp2_with fail
      refine (last_any _ ls _ HL.out).mono ?_
      rintro e w' ⟨rfl, rfl⟩
      go_wp2_with fail
      refine (part_any _ _ xs ls i j _ S1.out HL.out Hl.out hn).mono ?_
      rintro e w3 ⟨hb3, v3, own3, rfl⟩
      have z3 : w1.heap.size ≤ w3.heap.size := hb3.size
      have hz3 : w.heap.size + 1 < w3.heap.size := by omega
      have c3 := cell_up c1 hb3 (by omega)
      have f3 : w3.frozen? ⟨w.heap.size + 1, 0, none⟩ = false := by rw [hb3.frozen hz1, f1]
      have B3 := Lib.hid (B1.out.trans (hb3.mono (by omega)))
      have O3 := Lib.hid own3
      have hpl := partG_len Hl.out i j
      clear a1 c1 f1 hb3 own3
      go_wp2_with fail
      refine (orLimit_any _ _ _ _ O3.out (by omega)).mono ?_
      rintro e w4 ⟨hb4, v4, own4, rfl⟩
      obtain ⟨A4, k4, rfl, _⟩ := own_nil own4
      have c4 := cell_up c3 hb4 (by omega)
      have f4 : w4.frozen? ⟨w.heap.size + 1, 0, none⟩ = false := by rw [hb4.frozen hz3, f3]
      have B4 := Lib.hid (B3.out.trans (hb4.mono (by omega)))
      have O4 := Lib.hid own4
      clear c3 f3 hb4 own4
      go_wp2
      refine bodyPost_ret (v := .tuple #[.agg #[.slice A4 (limOut (partG xs ls i j)).length k4], .int .i64 (limCode (partG xs ls i j))]) (by simp [results, Tryd.results12, go_sem, c4]) rfl ⟨?_, _, ?_, by rw [E2.out]⟩
      · exact B4.out.setCell (by show w.heap.size ≤ w.heap.size + 1; omega) _
      · rw [E1.out]
        exact ownsRow_more (ownsRow_setCell_below O4.out (a := ⟨w.heap.size + 1, 0, none⟩) (by show w.heap.size + 1 < w1.heap.size; omega) _) (by omega)
    · obtain ⟨e1, e2⟩ := partOut_no Hok.out Hl.out hin
      have E1 := Lib.hid e1
      have E2 := Lib.hid e2
      have hcs : inR i 0 j = false ∨ (inR i 0 j = true ∧ j > lastI ls) := by
        by_cases h : 0 ≤ i ∧ i ≤ j
        · refine .inr ⟨by simp [inR_iff, h], ?_⟩
          omega
        · refine .inl ?_
          rw [Bool.eq_false_iff]
          intro e; simp [inR_iff] at e; exact h e
      clear e1 e2 hin
      rcases hcs with hw1 | ⟨hw1, hgt⟩
      · go_wp2_with fail
        refine (within_no _ _ _ _ hw1).mono ?_
        rintro e w' ⟨rfl, rfl⟩
        go_wp2_with fail
        refine bodyPost_ret (v := .tuple #[.agg #[.slice none 0 0], .int .i64 2]) (by simp [results, Tryd.results12, go_sem, c1]) rfl ⟨?_, _, ?_, by rw [E2.out]⟩
        · exact B1.out.setCell (by show w.heap.size ≤ w.heap.size + 1; omega) _
        · rw [E1.out]; exact World.ownsRow_nil _ _ _ _
      · go_wp2_with fail
        refine (within_yes _ _ _ _ hw1).mono ?_
        rintro e w' ⟨rfl, rfl⟩
        go_wp2_with fail
        refine (last_any _ ls _ HL.out).mono ?_
        rintro e w' ⟨rfl, rfl⟩
        go_wp2_with fail
        refine bodyPost_ret (v := .tuple #[.agg #[.slice none 0 0], .int .i64 2]) (by simp [results, Tryd.results12, go_sem, c1]) rfl ⟨?_, _, ?_, by rw [E2.out]⟩
        · exact B1.out.setCell (by show w.heap.size ≤ w.heap.size + 1; omega) _
        · rw [E1.out]; exact World.ownsRow_nil _ _ _ _

end Go.Proofs.YtagpjommhoedlaaDoor

namespace Go.Proofs.YtagpjommhoedlaaDoor
open Go.RowKit

end Go.Proofs.YtagpjommhoedlaaDoor

namespace Go.Proofs
open Go.Shelf Go.RowKit
end Go.Proofs

namespace Go.Proofs.YtagpjommhoedlaaDoor
open Go.RowKit

theorem Tryd.infoBy : (Tryd.prog.info? 5).map (fun i => (i.zero, i.size, i.bytes)) = some (some (.int .u8 0), 1, 1) := by kernel_rfl
/-- An own row of bytes. -/
def OwnB (w : World) (base : Nat) (v : Value) (l : List UInt8) : Prop := w.ownsRow base 5 1 v l.length (Lib.byteCells l)
theorem byteCells_snoc (l : List UInt8) (x : UInt8) : Lib.byteCells (l ++ [x]) = Lib.byteCells l ++ [.int .u8 (x.toNat : Int)] := by simp [Lib.byteCells]
theorem OwnB.alloc {w : World} {base : Nat} {v : Value} {l : List UInt8} (h : OwnB w base v l) (o : Obj) : OwnB (w.alloc o) base v l := World.ownsRow.alloc h o
theorem OwnB.drew {w : World} {base : Nat} {v : Value} {l : List UInt8} (h : OwnB w base v l) : OwnB w.drew base v l := h
theorem OwnB.below {w w' : World} {base : Nat} {v : Value} {l : List UInt8} (h : OwnB w base v l) (hb : Below w.heap.size w w') : OwnB w' base v l := ownsRow_below h hb
theorem OwnB.empty {w : World} {base N : Nat} (hN : N = w.heap.size) (hb : base ≤ w.heap.size) : OwnB (w.alloc (Obj.cells #[] 5)) base (Value.slice (some ⟨N, 0, none⟩) 0 0) [] := by
  subst hN
  exact World.ownsRow_lit w #[] 0 hb (Nat.zero_le _) rfl
/-- The cells of an own row of bytes. -/
theorem OwnB.at_ {w : World} {base : Nat} {v : Value} {l : List UInt8} (h : OwnB w base v l) (h0 : 0 < l.length) : ∃ g cap, v = .slice (some ⟨g, 0, none⟩) l.length cap ∧ l.length ≤ cap ∧ g < w.heap.size ∧ ∀ t (ht : t < l.length), w.cell? ⟨g, t, none⟩ = some (.int .u8 (l[t].toNat : Int)) := by
  obtain ⟨g, cap, hv, hb, hlt, hc, hcell⟩ := own_form h h0
  exact ⟨g, cap, hv, hc.1, hlt, fun t ht => hcell t _ (by simp [Lib.byteCells, List.getElem?_eq_getElem ht])⟩
/-- A string of bytes at an address. -/
theorem convB (L : List UInt8) (b p n c : Nat) (W : World) (hn : n = L.length) (h : ∀ t (ht : t < L.length), W.cell? ⟨b, p + t, none⟩ = some (.int .u8 (L[t].toNat : Int))) :
    (convert 22 9 (.slice (some ⟨b, p, none⟩) n c)).run Tryd.prog W = .ok (.string ⟨L.toArray⟩) W := by
  subst hn
  exact run_convert_bytes_back (P := Tryd.prog) W 22 9 5 ⟨b, p, none⟩ c L Tryd.underlying22 Tryd.underlying5 Tryd.underlying9 (fun j hj => by
    have e : (⟨b, p, none⟩ : Addr).add j = ⟨b, p + j, none⟩ := by unfold Addr.add; split <;> simp_all
    rw [e]; exact h j hj)
theorem OwnB.string {w : World} {base n : Nat} {g : Nat} {c : Nat} {l : List UInt8} (h : OwnB w base (.slice (some ⟨g, 0, none⟩) n c) l) :
    (convert 22 9 (.slice (some ⟨g, 0, none⟩) n c)).run Tryd.prog w = .ok (.string ⟨l.toArray⟩) w := by
  have hn : n = l.length := by
    obtain ⟨A', c', hv, _⟩ := own_nil h
    injection hv
  refine convB l g 0 n c w hn fun t ht => ?_
  obtain ⟨g', cap, hv, _, _, hc⟩ := h.at_ (by omega)
  injection hv with e1 e2 e3
  injection e1 with e1
  injection e1 with e1
  subst e1
  rw [Nat.zero_add]; exact hc t ht
theorem OwnB.some_ {w : World} {base : Nat} {v : Value} {l : List UInt8} (h : OwnB w base v l) (h0 : 0 < l.length) : ∃ g c, v = .slice (some ⟨g, 0, none⟩) l.length c := by
  obtain ⟨g, c, hv, _⟩ := h.at_ h0
  exact ⟨g, c, hv⟩
theorem push_byte {W : World} {ops : Array Oper} {rest : List Oper} {o : Oper} {a : Act} {Q : Exit → Act → World → Prop} (hgd : o.guard = none) (s x : Operand)
    (ho : o.op = .call { callee := .builtin .append, args := #[s, x], argTypes := #[22, 22] }) {y : UInt8} {base : Nat} {v : Value} {l : List UInt8}
    (hs : a.eval s = v) {N : Nat} (hx : a.eval x = .slice (some ⟨N, 0, none⟩) 1 1) (hN : N = W.heap.size) (hown : OwnB W base v l) (hlen : l.length ≤ 1099511627776) (hbase : base ≤ W.heap.size)
    (h : ∀ v' w', OwnB w' base v' (l ++ [y]) → (W.alloc (.cells #[.int .u8 (y.toNat : Int)] 5)).grownBy w' v.ownBlock → Below base W w' → wpList Tryd.prog ops Q rest (a.put o.dst v') w') :
    wpList Tryd.prog ops Q (o :: rest) a (W.alloc (.cells #[.int .u8 (y.toNat : Int)] 5)) := by
  subst hN
  obtain ⟨i0, hi0, hz0, hz1, hz2⟩ := info_parts Tryd.infoBy
  refine wpList_push hgd s x 22 ho i0 (.int .u8 0) 1 1 Tryd.underlying22 hi0 hz0 hz1 hz2 rfl (by decide) hs hx rfl (by simp [Value.oneCell']) hown (by omega) (by omega) hbase ?_
  intro v' w' h1 h2 h3
  refine h v' w' ?_ h2 h3
  unfold OwnB
  rw [byteCells_snoc]
  simpa using h1
end Go.Proofs.YtagpjommhoedlaaDoor

namespace Go.Proofs.YtagpjommhoedlaaDoor
open Go.RowKit

end Go.Proofs.YtagpjommhoedlaaDoor

namespace Go.Proofs.YtagpjommhoedlaaDoor
open Go.RowKit

end Go.Proofs.YtagpjommhoedlaaDoor

namespace Go.Proofs.YtagpjommhoedlaaDoor
open Go.RowKit

end Go.Proofs.YtagpjommhoedlaaDoor

namespace Go.Proofs.YtagpjommhoedlaaDoor
open Go.RowKit

end Go.Proofs.YtagpjommhoedlaaDoor

namespace Go.Proofs.YtagpjommhoedlaaDoor
open Go.RowKit

/-- An edit. -/
structure GEdit where
  kind : Int
  i : Int
  j : Int
  k : Int
  part : List GRule
  map : ByteArray
def EditV (w : World) (B : Nat) (v : Value) (e : GEdit) : Prop := ∃ vR, v = .agg #[.int .i64 e.kind, .int .i64 e.i, .int .i64 e.j, .int .i64 e.k, vR, .string e.map] ∧ Sl RuleE w B vR e.part
theorem EditV.below {w w' : World} {B : Nat} {v : Value} {e : GEdit} (h : EditV w B v e) (hb : Below B w w') : EditV w' B v e := by
  obtain ⟨vR, rfl, h1⟩ := h; exact ⟨vR, rfl, h1.below hb⟩
theorem EditV.le {w : World} {B B' : Nat} {v : Value} {e : GEdit} (h : EditV w B v e) (hb : B ≤ B') : EditV w B' v e := by
  obtain ⟨vR, rfl, h1⟩ := h; exact ⟨vR, rfl, h1.le hb⟩
theorem EditV.up {w0 w : World} {v : Value} {e : GEdit} (h : EditV w0 w0.heap.size v e) (hb : Below w0.heap.size w0 w) : EditV w w.heap.size v e := (h.below hb).le hb.size

/-- Six cells of a block. -/
def Box6 (w : World) (b : Nat) (c0 c1 c2 c3 c4 c5 : Value) : Prop := w.cell? ⟨b, 0, none⟩ = some c0 ∧ w.cell? ⟨b, 1, none⟩ = some c1 ∧ w.cell? ⟨b, 2, none⟩ = some c2 ∧ w.cell? ⟨b, 3, none⟩ = some c3 ∧ w.cell? ⟨b, 4, none⟩ = some c4 ∧ w.cell? ⟨b, 5, none⟩ = some c5
theorem Box6.up {w w' : World} {b N : Nat} {c0 c1 c2 c3 c4 c5 : Value} (h : Box6 w b c0 c1 c2 c3 c4 c5) (hb : Below N w w') (hlt : b < N) : Box6 w' b c0 c1 c2 c3 c4 c5 := by
  obtain ⟨h0, h1, h2, h3, h4, h5⟩ := h
  have k : ∀ {o : Nat} {v : Value}, w.cell? ⟨b, o, none⟩ = some v → w'.cell? ⟨b, o, none⟩ = some v := fun {o v} hc => (hb.cell (p := ⟨b, o, none⟩) hlt).trans hc
  exact ⟨k h0, k h1, k h2, k h3, k h4, k h5⟩
theorem Box6.new {w w' : World} {c0 c1 c2 c3 c4 c5 : Value} {t : TypeId} (hb : Below (w.alloc (.cells #[c0, c1, c2, c3, c4, c5] t)).heap.size (w.alloc (.cells #[c0, c1, c2, c3, c4, c5] t)) w') : Box6 w' w.heap.size c0 c1 c2 c3 c4 c5 :=
  Box6.up (w := w.alloc (.cells #[c0, c1, c2, c3, c4, c5] t)) ⟨by simp [go_sem], by simp [go_sem], by simp [go_sem], by simp [go_sem], by simp [go_sem], by simp [go_sem]⟩ hb (by simp)
end Go.Proofs.YtagpjommhoedlaaDoor

namespace Go.Proofs.YtagpjommhoedlaaDoor
open Go.RowKit

def inB (n a b : Int) : Bool := decide (a ≤ n) && decide (n ≤ b)
theorem withinY (n a b : Int) (r : Bool) (w : World) (h : inB n a b = r) : Calls Tryd.prog 26 #[.int .i64 n, .int .i64 a, .int .i64 b] w fun e w' => e = .returned (.bool r) ∧ w = w' :=
  (within_any n a b w).mono fun _ _ ⟨he, hw⟩ => ⟨by rw [he, ← h]; rfl, hw⟩
/-- What PowerGrammar answers. -/
def powOut (xs : List GRule) (t : Int) : List GRule := if gramOk xs && inB t 0 1000000000000000 then limOut (powG xs t.toNat) else []
def powCode (xs : List GRule) (t : Int) : Int := if gramOk xs then if inB t 0 1000000000000000 then limCode (powG xs t.toNat) else 2 else 1
theorem powG_len (xs : List GRule) (n : Nat) (h : n < 1152921504606846976) : (powG xs n).length ≤ xs.length + 120 := by
  unfold powG
  split
  · simp
  · have h1 := powFold_len ((xs.length : Int) - 1) (binL n).tail xs
    have h2 := binL_len n 60 h (by omega)
    have h3 : (binL n).tail.length ≤ 60 := by simp; omega
    omega

set_option maxRecDepth 100000 in
set_option maxHeartbeats 1000000 in
theorem implPower_any (v : Value) (xs : List GRule) (t : Int) (w : World) (h : Sl RuleE w w.heap.size v xs) (hn : xs.length ≤ 1048576) (htab : Lib.TabIs Tryd.prog w "math/bits.deBruijn64tab" .u8 deB64) :
    Calls Tryd.prog 10 #[.agg #[v], .int .i64 t] w (GRes (powOut xs t) (powCode xs t) w) := by
  have h1 := fun o o' => (h.below (((Below.refl w.heap.size w).alloc (Nat.le_refl _) o).alloc (by simp) o')).le (B' := ((w.alloc o).alloc o').heap.size) (by simp; omega)
  have H1 := Lib.hid h1
  have HT := Lib.hid htab
  clear h1 htab
  obtain ⟨A, c, rfl, hc, hm, hrow⟩ := h
  clear hm hrow
  go_enter Tryd.func10, Tryd.ntmps10
  go_wp2_with fail
  refine (ValidGrammar_any _ _ _ (H1.out _ _) (by omega)).mono ?_
  rintro e w1 ⟨rfl, hb1⟩
  obtain ⟨hc1, hf1⟩ := bcell hb1
  have hz1 : w.heap.size + 1 < w1.heap.size := by have := hb1.size; simp at this; omega
  have a1 : w1.cell? ⟨w.heap.size, 0, none⟩ = some (.slice A xs.length c) := by rw [hc1 _ _ (by first | omega | (simp; done) | (simp; omega))]; simp [go_sem]
  have c1 : w1.cell? ⟨w.heap.size + 1, 0, none⟩ = some (.slice none 0 0) := by rw [hc1 _ _ (by first | omega | (simp; done) | (simp; omega))]; simp [go_sem]
  have f1 : w1.frozen? ⟨w.heap.size + 1, 0, none⟩ = false := by rw [hf1 _ _ (by first | omega | (simp; done) | (simp; omega))]; simp [go_sem]
  have S1 := Lib.hid ((H1.out (Obj.cells #[Value.slice A xs.length c] 26) (Obj.cells #[Value.slice none 0 0] 26)).up hb1)
  have B1 := Lib.hid (((Below.refl w.heap.size w).alloc (Nat.le_refl _) (Obj.cells #[Value.slice A xs.length c] 26)).alloc (by simp) (Obj.cells #[Value.slice none 0 0] 26) |>.trans (hb1.mono (by simp; omega)))
  clear hc1 hf1 hb1
  by_cases hok : gramOk xs = true
  · have hok2 : (!gramOk xs) = false := by simp [hok]
    have Hok := Lib.hid hok
    clear hok
    go_wp2_with fail
    by_cases hin : inB t 0 1000000000000000 = true
    · have Hin := Lib.hid hin
      have ht : 0 ≤ t ∧ t ≤ 1000000000000000 := by simpa [inB] using hin
      obtain ⟨n, rfl⟩ := Int.eq_ofNat_of_zero_le ht.1
      have hn60 : n < 1152921504606846976 := by omega
      clear hin ht
      refine (withinY _ _ _ _ _ Hin.out).mono ?_
      rintro e w' ⟨rfl, rfl⟩
      go_wp2_with fail
      refine (power_any _ xs n _ S1.out hn hn60 (tab_below HT.out B1.out)).mono ?_
      rintro e w3 ⟨hb3, v3, own3, rfl⟩
      have z3 : w1.heap.size ≤ w3.heap.size := hb3.size
      have hz3 : w.heap.size + 1 < w3.heap.size := by omega
      have c3 := cell_up c1 hb3 (by omega)
      have f3 : w3.frozen? ⟨w.heap.size + 1, 0, none⟩ = false := by rw [hb3.frozen hz1, f1]
      have B3 := Lib.hid (B1.out.trans (hb3.mono (by omega)))
      have O3 := Lib.hid own3
      have hpl := powG_len xs n hn60
      clear a1 c1 f1 hb3 own3
      go_wp2_with fail
      refine (orLimit_any _ _ _ _ O3.out (by omega)).mono ?_
      rintro e w4 ⟨hb4, v4, own4, rfl⟩
      obtain ⟨A4, k4, rfl, _⟩ := own_nil own4
      have c4 := cell_up c3 hb4 (by omega)
      have f4 : w4.frozen? ⟨w.heap.size + 1, 0, none⟩ = false := by rw [hb4.frozen hz3, f3]
      have B4 := Lib.hid (B3.out.trans (hb4.mono (by omega)))
      have O4 := Lib.hid own4
      clear c3 f3 hb4 own4
      have e1 : powOut xs n = limOut (powG xs n) := by rw [powOut, Hok.out, Hin.out]; rfl
      have e2 : powCode xs n = limCode (powG xs n) := by rw [powCode, Hok.out, Hin.out]; rfl
      have E1 := Lib.hid e1
      have E2 := Lib.hid e2
      clear e1 e2
      go_wp2
      refine bodyPost_ret (v := .tuple #[.agg #[.slice A4 (limOut (powG xs n)).length k4], .int .i64 (limCode (powG xs n))]) (by simp [results, Tryd.results10, go_sem, c4]) rfl ⟨?_, _, ?_, by rw [E2.out]⟩
      · exact B4.out.setCell (by show w.heap.size ≤ w.heap.size + 1; omega) _
      · rw [E1.out]
        exact ownsRow_more (ownsRow_setCell_below O4.out (a := ⟨w.heap.size + 1, 0, none⟩) (by show w.heap.size + 1 < w1.heap.size; omega) _) (by omega)
    · have hin' : inB t 0 1000000000000000 = false := by simpa using hin
      have Hin := Lib.hid hin'
      clear hin hin'
      refine (withinY _ _ _ _ _ Hin.out).mono ?_
      rintro e w' ⟨rfl, rfl⟩
      go_wp2
      refine bodyPost_ret (v := .tuple #[.agg #[.slice none 0 0], .int .i64 2]) (by simp [results, Tryd.results10, go_sem, c1]) rfl ⟨?_, _, ?_, by rw [powCode, if_pos Hok.out, if_neg (by rw [Hin.out]; decide)]⟩
      · exact B1.out.setCell (by show w.heap.size ≤ w.heap.size + 1; omega) _
      · rw [powOut, if_neg (by simp [Hin.out])]; exact World.ownsRow_nil _ _ _ _
  · have hok2 : (!gramOk xs) = true := by simp [hok]
    have Hok := Lib.hid hok
    clear hok
    go_wp2
    refine bodyPost_ret (v := .tuple #[.agg #[.slice none 0 0], .int .i64 1]) (by simp [results, Tryd.results10, go_sem, c1]) rfl ⟨?_, _, ?_, by rw [powCode, if_neg (by simp [Hok.out])]⟩
    · exact B1.out.setCell (by show w.heap.size ≤ w.heap.size + 1; omega) _
    · rw [powOut, if_neg (by simp [Hok.out])]; exact World.ownsRow_nil _ _ _ _
end Go.Proofs.YtagpjommhoedlaaDoor

namespace Go.Proofs.YtagpjommhoedlaaDoor
open Go.RowKit

end Go.Proofs.YtagpjommhoedlaaDoor

namespace Go.Proofs.YtagpjommhoedlaaDoor
open Go.RowKit

theorem turnR_pair (r : GRule) : (turnR r).pair = r.pair := rfl
theorem okRule_turn (i : Nat) (r : GRule) : okRule i (turnR r) = okRule i r := by
  unfold okRule
  rw [turnR_pair]
  split
  · show (decide (0 ≤ r.right) && decide (r.right ≤ (i : Int) - 1) && decide (0 ≤ r.left) && decide (r.left ≤ (i : Int) - 1)) = _
    rw [Bool.and_comm, Bool.and_left_comm, ← Bool.and_assoc]
    cases decide (0 ≤ r.right) <;> cases decide (r.right ≤ (i : Int) - 1) <;> cases decide (0 ≤ r.left) <;> cases decide (r.left ≤ (i : Int) - 1) <;> rfl
  · show (isLet r.letter && r.right == 0 && r.left == 0) = _
    cases isLet r.letter <;> cases (r.right == 0) <;> cases (r.left == 0) <;> rfl
theorem ruleLen_turn (out : List Int) (r : GRule) : ruleLen out (turnR r) = ruleLen out r := by
  unfold ruleLen
  rw [turnR_pair]
  split
  · show out.getD r.right.toNat 0 + out.getD r.left.toNat 0 = _
    omega
  · rfl
theorem lens_turn (xs : List GRule) : lens (xs.map turnR) = lens xs := by
  unfold lens
  generalize some ([] : List Int) = o
  induction xs generalizing o with
  | nil => rfl
  | cons x xs ih =>
    simp only [List.map_cons, List.foldl_cons]
    have : lensStep o (turnR x) = lensStep o x := by
      unfold lensStep
      cases o with
      | none => rfl
      | some out => simp only [Option.bind_some, okRule_turn, ruleLen_turn]
    rw [this, ih]
theorem gramOk_turn {xs : List GRule} (h : gramOk xs = true) : gramOk (xs.map turnR) = true := by
  unfold gramOk at *
  rw [lens_turn, List.length_map]; exact h
end Go.Proofs.YtagpjommhoedlaaDoor

namespace Go.Proofs.YtagpjommhoedlaaDoor
open Go.RowKit

end Go.Proofs.YtagpjommhoedlaaDoor

namespace Go.Proofs.YtagpjommhoedlaaDoor
open Go.RowKit

end Go.Proofs.YtagpjommhoedlaaDoor

namespace Go.Proofs.YtagpjommhoedlaaDoor
open Go.RowKit

end Go.Proofs.YtagpjommhoedlaaDoor

namespace Go.Proofs.YtagpjommhoedlaaDoor
open Go.RowKit

end Go.Proofs.YtagpjommhoedlaaDoor

namespace Go.Proofs.YtagpjommhoedlaaDoor
open Go.RowKit

end Go.Proofs.YtagpjommhoedlaaDoor

namespace Go.Proofs.YtagpjommhoedlaaDoor
open Go.RowKit

/-- An edit in the cells of block E behind the place o. -/
structure EC (w : World) (E o : Nat) (e : GEdit) (vR : Value) : Prop where
  c0 : w.cell? ⟨E, o, none⟩ = some (.int .i64 e.kind)
  c1 : w.cell? ⟨E, o + 1, none⟩ = some (.int .i64 e.i)
  c2 : w.cell? ⟨E, o + 2, none⟩ = some (.int .i64 e.j)
  c3 : w.cell? ⟨E, o + 3, none⟩ = some (.int .i64 e.k)
  c4 : w.cell? ⟨E, o + 4, none⟩ = some vR
  c5 : w.cell? ⟨E, o + 5, none⟩ = some (.string e.map)
  lt : E < w.heap.size
section
variable {w w' : World} {E o b : Nat} {e : GEdit} {vR : Value}
theorem EC.same (h : EC w E o e vR) (hs : w'.heap[E]? = w.heap[E]?) : EC w' E o e vR := by
  have k : ∀ {j : Nat} {v : Value}, w.cell? ⟨E, j, none⟩ = some v → w'.cell? ⟨E, j, none⟩ = some v := fun {j v} hc => (World.cell?_of_block (a := ⟨E, j, none⟩) hs).trans hc
  refine ⟨k h.c0, k h.c1, k h.c2, k h.c3, k h.c4, k h.c5, ?_⟩
  have h1 : w.heap[E]? = some (w.heap[E]'h.lt) := Array.getElem?_eq_getElem h.lt
  exact (Array.getElem?_eq_some_iff.1 (hs.trans h1)).1
theorem EC.up (h : EC w E o e vR) (hb : Below w.heap.size w w') : EC w' E o e vR := h.same (hb.block E h.lt)
theorem EC.but (h : EC w E o e vR) (hb : But b w w') (hne : E ≠ b) : EC w' E o e vR := h.same (hb.block E h.lt hne)
end
/-- One cell, in a world that has it and in the later ones. -/
structure C1 (w : World) (p : Addr) (v : Value) : Prop where
  c : w.cell? p = some v
  lt : p.block < w.heap.size
theorem C1.same {w w' : World} {p : Addr} {v : Value} (h : C1 w p v) (hs : w'.heap[p.block]? = w.heap[p.block]?) : C1 w' p v := by
  refine ⟨(World.cell?_of_block hs).trans h.c, ?_⟩
  have h1 : w.heap[p.block]? = some (w.heap[p.block]'h.lt) := Array.getElem?_eq_getElem h.lt
  exact (Array.getElem?_eq_some_iff.1 (hs.trans h1)).1
theorem C1.up {w w' : World} {p : Addr} {v : Value} (h : C1 w p v) (hb : Below w.heap.size w w') : C1 w' p v := h.same (hb.block _ h.lt)
theorem C1.but {w w' : World} {b : Nat} {p : Addr} {v : Value} (h : C1 w p v) (hb : But b w w') (hne : p.block ≠ b) : C1 w' p v := h.same (hb.block _ h.lt hne)
end Go.Proofs.YtagpjommhoedlaaDoor

namespace Go.Proofs.YtagpjommhoedlaaDoor
open Go.RowKit

end Go.Proofs.YtagpjommhoedlaaDoor

namespace Go.Proofs.YtagpjommhoedlaaDoor
open Go.RowKit

end Go.Proofs.YtagpjommhoedlaaDoor

namespace Go.Proofs.YtagpjommhoedlaaDoor
open Go.RowKit

end Go.Proofs.YtagpjommhoedlaaDoor

namespace Go.Proofs.YtagpjommhoedlaaDoor
open Go.RowKit

/-- An edit at an address, below B. -/
structure EditAt (w : World) (B b : Nat) (e : GEdit) (vR : Value) : Prop where
  box : Box6 w b (.int .i64 e.kind) (.int .i64 e.i) (.int .i64 e.j) (.int .i64 e.k) vR (.string e.map)
  lt : b < B
  sl : Sl RuleE w B vR e.part
theorem EditAt.up {w w' : World} {b : Nat} {e : GEdit} {vR : Value} (h : EditAt w w.heap.size b e vR) (hb : Below w.heap.size w w') : EditAt w' w'.heap.size b e vR :=
  ⟨h.box.up hb h.lt, Nat.lt_of_lt_of_le h.lt hb.size, h.sl.up hb⟩

end Go.Proofs.YtagpjommhoedlaaDoor

namespace Go.Proofs.YtagpjommhoedlaaDoor
open Go.RowKit

end Go.Proofs.YtagpjommhoedlaaDoor

namespace Go.Proofs.YtagpjommhoedlaaDoor
open Go.RowKit

end Go.Proofs.YtagpjommhoedlaaDoor

namespace Go.Proofs.YtagpjommhoedlaaDoor
open Go.RowKit

end Go.Proofs.YtagpjommhoedlaaDoor

namespace Go.Proofs.YtagpjommhoedlaaDoor
open Go.RowKit

end Go.Proofs.YtagpjommhoedlaaDoor

namespace Go.Proofs.YtagpjommhoedlaaDoor
open Go.RowKit

end Go.Proofs.YtagpjommhoedlaaDoor

namespace Go.Proofs.YtagpjommhoedlaaDoor
open Go.RowKit

end Go.Proofs.YtagpjommhoedlaaDoor

namespace Go.Proofs.YtagpjommhoedlaaDoor
open Go.RowKit

end Go.Proofs.YtagpjommhoedlaaDoor

namespace Go.Proofs.YtagpjommhoedlaaDoor
open Go.RowKit

/-- A row of rules of one's own, between two block numbers. -/
def OwnR (w : World) (lo hi : Nat) (v : Value) (l : List GRule) : Prop := OwnRules w lo v l ∧ (∀ g, v.ownBlock = some g → g < hi) ∧ hi ≤ w.heap.size
section
variable {w w' : World} {lo hi : Nat} {v : Value} {l : List GRule} {row : Option Nat}
theorem OwnR.of (h : OwnRules w lo v l) : OwnR w lo w.heap.size v l := ⟨h, fun g hg => (World.ownsRow.lt h g hg).2, Nat.le_refl _⟩
theorem OwnR.up (h : OwnR w lo hi v l) (hb : Below w.heap.size w w') : OwnR w' lo hi v l := ⟨OwnRules.below h.1 hb, h.2.1, Nat.le_trans h.2.2 hb.size⟩
theorem OwnR.rng (h : OwnR w lo hi v l) : ∀ g, v.ownBlock = some g → lo ≤ g ∧ g < hi := fun g hg => ⟨(World.ownsRow.lt h.1 g hg).1, h.2.1 g hg⟩
theorem OwnR.grown (h : OwnR w lo hi v l) (hg : w.grownBy w' row) (hr : ∀ g, row = some g → g < lo ∨ hi ≤ g) : OwnR w' lo hi v l :=
  ⟨OwnRules.keep h.1 hg fun g hgg e => by have h1 := h.rng g hgg; have h2 := hr g e.symm; omega, h.2.1, Nat.le_trans h.2.2 hg.size⟩
theorem OwnR.alloc (h : OwnR w lo hi v l) (o : Obj) : OwnR (w.alloc o) lo hi v l := ⟨World.ownsRow.alloc h.1 o, h.2.1, Nat.le_trans h.2.2 (by simp)⟩
theorem OwnR.sl (h : OwnR w lo hi v l) : Sl RuleE w w.heap.size v l := OwnRules.sl h.1
end
/-- Only blocks between lo and hi have turned (and new ones have come). -/
structure Chg (lo hi : Nat) (w w' : World) : Prop where
  os : w'.os = w.os
  tape : w'.tape = w.tape
  output : w'.output = w.output
  size : w.heap.size ≤ w'.heap.size
  block : ∀ k, k < w.heap.size → k < lo ∨ hi ≤ k → w'.heap[k]? = w.heap[k]?
theorem Chg.refl (lo hi : Nat) (w : World) : Chg lo hi w w := ⟨rfl, rfl, rfl, Nat.le_refl _, fun _ _ _ => rfl⟩
theorem Chg.trans {lo hi : Nat} {x y z : World} (h : Chg lo hi x y) (k : Chg lo hi y z) : Chg lo hi x z :=
  ⟨k.os.trans h.os, k.tape.trans h.tape, k.output.trans h.output, Nat.le_trans h.size k.size, fun i hi1 hne => (k.block i (Nat.lt_of_lt_of_le hi1 h.size) hne).trans (h.block i hi1 hne)⟩
theorem Chg.of_below {lo hi : Nat} {x y : World} (h : Below x.heap.size x y) : Chg lo hi x y := ⟨h.os, h.tape, h.output, h.size, fun k hk _ => h.block k hk⟩
theorem Chg.mono {lo hi lo' hi' : Nat} {x y : World} (h : Chg lo hi x y) (h1 : lo' ≤ lo) (h2 : hi ≤ hi') : Chg lo' hi' x y := ⟨h.os, h.tape, h.output, h.size, fun k hk hne => h.block k hk (by omega)⟩
theorem Chg.below {lo hi N : Nat} {x y : World} (h : Chg lo hi x y) (h1 : N ≤ lo) (h2 : N ≤ x.heap.size) : Below N x y := ⟨h.os, h.tape, h.output, h.size, fun k hk => h.block k (Nat.lt_of_lt_of_le hk h2) (by omega)⟩
theorem Blk.grown {w w' : World} {b : Nat} {a : Array Value} {t : TypeId} {row : Option Nat} (h : Blk w b a t) (hg : w.grownBy w' row) (hne : ∀ g, row = some g → g ≠ b) : Blk w' b a t :=
  (hg.block b h.lt (fun e => hne b e.symm rfl)).trans h
theorem Below.grown {w0 w w' : World} {N : Nat} {row : Option Nat} (h : Below N w0 w) (hN : N ≤ w.heap.size) (hg : w.grownBy w' row) (hr : ∀ g, row = some g → N ≤ g) : Below N w0 w' := h.trans (below_of_grown hg hN hr)
end Go.Proofs.YtagpjommhoedlaaDoor

namespace Go.Proofs
end Go.Proofs
namespace Go.Proofs.YtagpjommhoedlaaDoor
open Go.RowKit

end Go.Proofs.YtagpjommhoedlaaDoor

namespace Go.Proofs.YtagpjommhoedlaaDoor
open Go.RowKit

/-- The rules of one edit of a row: nothing, or a row of its own between two numbers, apart from the row of edits v. -/
def PartAt (w : World) (v : Value) (a b : Nat) (p : GEdit × Value) : Prop :=
  ((p.1.part = [] ∧ ∃ A c, p.2 = .slice A 0 c ∧ c ≤ maxLen) ∨ OwnR w a b p.2 p.1.part) ∧ ∀ g, v.ownBlock = some g → g < a ∨ b ≤ g
theorem PartAt.keep {w w' : World} {v : Value} {a b : Nat} {p : GEdit × Value} (h : PartAt w v a b p) (hk : ∀ g, a ≤ g → g < b → w'.heap[g]? = w.heap[g]?) (hs : w.heap.size ≤ w'.heap.size) : PartAt w' v a b p := by
  refine ⟨?_, h.2⟩
  rcases h.1 with h | h1
  · exact .inl h
  · exact .inr ⟨own_keep h1.1 fun g hg => hk g (h1.rng g hg).1 (h1.rng g hg).2, h1.2.1, Nat.le_trans h1.2.2 hs⟩
theorem PartAt.row {w w' : World} {v : Value} {a b g : Nat} {p : GEdit × Value} (h : PartAt w v a b p) (hv : v.ownBlock = some g) (hb : b ≤ w.heap.size) (hg : w.grownBy w' (some g)) : PartAt w' v a b p :=
  h.keep (fun g' h1 h2 => hg.block g' (by omega) (fun e => by have := h.2 g hv; simp at e; omega)) hg.size
theorem PartAt.sl {w : World} {v : Value} {a b : Nat} {p : GEdit × Value} (h : PartAt w v a b p) : Sl RuleE w w.heap.size p.2 p.1.part := by
  rcases h.1 with ⟨h1, A, c, h2, h3⟩ | h1
  · rw [h1, h2]; exact ⟨A, c, rfl, Nat.zero_le _, h3, fun h => absurd h (by simp)⟩
  · exact h1.sl
structure PartsR (w : World) (v : Value) (lo hi : Nat) (r : Nat → Nat) (ps : List (GEdit × Value)) : Prop where
  low : lo ≤ r 0
  mono : ∀ i j, i ≤ j → r i ≤ r j
  high : ∀ i, r i ≤ hi
  at_ : ∀ i p, ps[i]? = some p → PartAt w v (r (2 * i)) (r (2 * i + 1)) p
theorem PartsR.keep {w w' : World} {v : Value} {lo hi : Nat} {r : Nat → Nat} {ps : List (GEdit × Value)} (h : PartsR w v lo hi r ps) (hk : ∀ g, lo ≤ g → g < hi → v.ownBlock ≠ some g → w'.heap[g]? = w.heap[g]?) (hs : w.heap.size ≤ w'.heap.size) : PartsR w' v lo hi r ps := by
  refine ⟨h.low, h.mono, h.high, fun i p hp => ?_⟩
  obtain ⟨h0, h2⟩ := h.at_ i p hp
  refine ⟨?_, h2⟩
  rcases h0 with h1 | h1
  · exact .inl h1
  · refine .inr ⟨own_keep h1.1 fun g hg => ?_, h1.2.1, Nat.le_trans h1.2.2 hs⟩
    have hr := h1.rng g hg
    have a1 := h.mono 0 (2 * i) (Nat.zero_le _)
    have a2 := h.high (2 * i + 1)
    have a3 := h.low
    refine hk g (by omega) (by omega) fun e => ?_
    have := h2 g e
    omega
theorem PartsR.snoc {w : World} {v : Value} {lo hi hi' : Nat} {r : Nat → Nat} {ps : List (GEdit × Value)} {q : GEdit × Value} (h : PartsR w v lo hi r ps) (hq : PartAt w v hi hi' q) (hh : hi ≤ hi') (hl : lo ≤ hi) : ∃ r', PartsR w v lo hi' r' (ps ++ [q]) := by
  refine ⟨fun j => if j < 2 * ps.length then r j else if j = 2 * ps.length then hi else hi', ?_, ?_, ?_, ?_⟩
  · have := h.low
    split
    · omega
    · split <;> omega
  · intro i j hij
    have h1 := h.mono i j hij
    have h2 := h.high i
    repeat' split
    all_goals omega
  · intro i
    have h2 := h.high i
    repeat' split
    all_goals omega
  · intro i p hp
    rcases Nat.lt_or_ge i ps.length with hlt | hge
    · rw [List.getElem?_append_left hlt] at hp
      have := h.at_ i p hp
      simp only [show 2 * i < 2 * ps.length by omega, show 2 * i + 1 < 2 * ps.length by omega, if_true]
      exact this
    · rw [List.getElem?_append_right hge] at hp
      have hi0 : i = ps.length := by
        have := (List.getElem?_eq_some_iff.1 hp).1
        simp at this; omega
      subst hi0
      simp at hp
      subst hp
      simp only [Nat.lt_irrefl, if_false, if_true, show ¬ (2 * ps.length + 1 < 2 * ps.length) by omega, show ¬ (2 * ps.length + 1 = 2 * ps.length) by omega]
      exact hq
theorem PartsR.nil {w : World} {v : Value} {lo hi : Nat} (h : lo ≤ hi) : PartsR w v lo hi (fun _ => hi) [] := ⟨h, fun _ _ _ => Nat.le_refl _, fun _ => Nat.le_refl _, fun i p hp => by simp at hp⟩
theorem PartsR.le {w : World} {v : Value} {lo lo' hi hi' : Nat} {r : Nat → Nat} {ps : List (GEdit × Value)} (h : PartsR w v lo hi r ps) (h1 : lo' ≤ lo) (h2 : hi ≤ hi') : PartsR w v lo' hi' r ps := ⟨Nat.le_trans h1 h.low, h.mono, fun i => Nat.le_trans (h.high i) h2, h.at_⟩
section
variable {w w' : World} {lo hi : Nat} {v : Value} {es : List GEdit}
end
end Go.Proofs.YtagpjommhoedlaaDoor

namespace Go.Proofs.YtagpjommhoedlaaDoor
open Go.RowKit

end Go.Proofs.YtagpjommhoedlaaDoor

namespace Go.Proofs.YtagpjommhoedlaaDoor
open Go.RowKit

end Go.Proofs.YtagpjommhoedlaaDoor

namespace Go.Proofs.YtagpjommhoedlaaDoor
open Go.RowKit

end Go.Proofs.YtagpjommhoedlaaDoor

namespace Go.Proofs.YtagpjommhoedlaaDoor
open Go.RowKit

end Go.Proofs.YtagpjommhoedlaaDoor

namespace Go.Proofs.YtagpjommhoedlaaDoor
open Go.RowKit

end Go.Proofs.YtagpjommhoedlaaDoor

namespace Go.Proofs.YtagpjommhoedlaaDoor
open Go.RowKit

end Go.Proofs.YtagpjommhoedlaaDoor

namespace Go.Proofs.YtagpjommhoedlaaDoor
open Go.RowKit

theorem idx_at (s : ByteArray) {k : Nat} (hk : k < 4) (h : hasC s (ltr k) = true) : idxG s (ltr k) = (letsG s k).length := by
  have : k = 0 ∨ k = 1 ∨ k = 2 ∨ k = 3 := by omega
  have e01 : letR (ltr 0) ≠ letR (ltr 1) := by decide
  unfold idxG letsG
  rcases this with rfl | rfl | rfl | rfl <;> simp only [List.range_succ, List.range_zero, List.nil_append, List.cons_append, List.filter_cons, h] <;> (repeat' split) <;> first | rfl | decide | (simp_all; done)
/-- The places of the letters. -/
def TabI (s : ByteArray) (T : List Int) (k : Nat) : Prop := T.length = 4 ∧ ∀ j, j < k → hasC s (ltr j) = true → T.getD j 0 = (idxG s (ltr j) : Nat)
theorem TabI.next {s : ByteArray} {T : List Int} {k : Nat} (h : TabI s T k) (hn : ¬ hasC s (ltr k) = true) : TabI s T (k + 1) :=
  ⟨h.1, fun j hj hc => by
    rcases Nat.lt_succ_iff_lt_or_eq.1 hj with h1 | rfl
    · exact h.2 j h1 hc
    · exact absurd hc hn⟩
theorem TabI.put {s : ByteArray} {T : List Int} {k : Nat} (h : TabI s T k) (hk : k < 4) (hc : hasC s (ltr k) = true) : TabI s (T.set k ((letsG s k).length : Nat)) (k + 1) :=
  ⟨by rw [List.length_set]; exact h.1, fun j hj hcj => by
    rw [getD_set (by rw [h.1]; exact hk)]
    split
    · rename_i e; subst e; rw [idx_at s hk hc]
    · exact h.2 j (by omega) hcj⟩
end Go.Proofs.YtagpjommhoedlaaDoor

namespace Go.Proofs.YtagpjommhoedlaaDoor
open Go.RowKit

end Go.Proofs.YtagpjommhoedlaaDoor

namespace Go.Proofs.YtagpjommhoedlaaDoor
open Go.RowKit

end Go.Proofs.YtagpjommhoedlaaDoor

namespace Go.Proofs.YtagpjommhoedlaaDoor
open Go.RowKit

end Go.Proofs.YtagpjommhoedlaaDoor

namespace Go.Proofs
end Go.Proofs
namespace Go.Proofs.YtagpjommhoedlaaDoor
open Go.RowKit

/-- The words of a row of the call's own. -/
def OwnW (w : World) (base : Nat) (v : Value) (l : List ByteArray) : Prop := w.ownsRow base 9 1 v l.length (l.map Value.string)
theorem OwnW.empty {w : World} {base N : Nat} (hN : N = w.heap.size) (hb : base ≤ w.heap.size) : OwnW (w.alloc (Obj.cells #[] 9)) base (Value.slice (some ⟨N, 0, none⟩) 0 0) [] := by
  subst hN
  exact World.ownsRow_lit w #[] 0 hb (Nat.zero_le _) rfl
theorem OwnW.sl {w : World} {base : Nat} {v : Value} {l : List ByteArray} (h : OwnW w base v l) : Sl StrE w w.heap.size v l := by
  have hh : w.ownsRow base 9 1 v l.length (l.map Value.string) := h
  obtain ⟨A, cap, rfl, h1, h2⟩ := own_nil hh
  refine ⟨A, cap, rfl, h1, h2, Row.of_own (E := StrE) hh rfl (fun g hg => (World.ownsRow.lt hh g hg).2) fun k x hx => ⟨[.string x], rfl, fun j u hu => ?_⟩⟩
  cases j with
  | zero => simp at hu; subst hu; simp [StrE, hx]
  | succ j => simp at hu
end Go.Proofs.YtagpjommhoedlaaDoor

namespace Go.Proofs.YtagpjommhoedlaaDoor
open Go.RowKit

end Go.Proofs.YtagpjommhoedlaaDoor

namespace Go.Proofs.YtagpjommhoedlaaDoor
open Go.RowKit

end Go.Proofs.YtagpjommhoedlaaDoor

namespace Go.Proofs.YtagpjommhoedlaaDoor
open Go.RowKit

end Go.Proofs.YtagpjommhoedlaaDoor

namespace Go.Proofs.YtagpjommhoedlaaDoor
open Go.RowKit

end Go.Proofs.YtagpjommhoedlaaDoor

namespace Go.Proofs.YtagpjommhoedlaaDoor

theorem raise_len {n : Nat} {lx a : List Int} {r : GRule} (hn : lx.length = n) (h : okRule a.length r = true) : ruleLen (lx ++ a) (raiseR n r) = ruleLen a r := by
  unfold raiseR
  cases hp : r.pair with
  | false => simp [ruleLen, hp]
  | true =>
    have h2 := okRule_at h hp
    have hp2 : ({ letter := r.letter, left := r.left + n, right := r.right + n } : GRule).pair = true := hp
    simp only [if_true]
    unfold ruleLen
    rw [if_pos hp2, if_pos hp]
    have e1 : (r.left + (n : Int)).toNat = n + r.left.toNat := by omega
    have e2 : (r.right + (n : Int)).toNat = n + r.right.toNat := by omega
    show (lx ++ a).getD (r.left + n).toNat 0 + (lx ++ a).getD (r.right + n).toNat 0 = _
    rw [e1, e2, List.getD_eq_getElem?_getD, List.getD_eq_getElem?_getD, List.getElem?_append_right (by omega), List.getElem?_append_right (by omega), hn, Nat.add_sub_cancel_left, Nat.add_sub_cancel_left]
    rw [← List.getD_eq_getElem?_getD, ← List.getD_eq_getElem?_getD]
theorem lens_raise {xs ys : List GRule} {lx ly : List Int} (hx : lens xs = some lx) (hy : lens ys = some ly) : lens (xs ++ ys.map (raiseR xs.length)) = some (lx ++ ly) := by
  rw [lens_app, hx]
  have hn : lx.length = xs.length := lens_length hx
  suffices H : ∀ (l : List GRule) (a o : List Int), l.foldl lensStep (some a) = some o → (l.map (raiseR xs.length)).foldl lensStep (some (lx ++ a)) = some (lx ++ o) by simpa using H ys [] ly hy
  intro l
  induction l with
  | nil => intro a o h; simp at h; simp [h]
  | cons y l ih =>
    intro a o h
    rw [List.map_cons, List.foldl_cons]
    rw [List.foldl_cons] at h
    cases hs : lensStep (some a) y with
    | none => rw [hs, lens_none] at h; cases h
    | some b =>
      rw [hs] at h
      simp only [lensStep, Option.bind_some] at hs
      split at hs
      · rename_i hok
        cases hs
        have e1 : okRule (lx ++ a).length (raiseR xs.length y) = true := by rw [List.length_append, hn]; exact raiseR_ok hok.1
        have e2 : ruleLen (lx ++ a) (raiseR xs.length y) = ruleLen a y := raise_len hn hok.1
        have e3 : lensStep (some (lx ++ a)) (raiseR xs.length y) = some (lx ++ (a ++ [ruleLen a y])) := by
          simp only [lensStep, Option.bind_some]
          rw [e2, if_pos ⟨e1, hok.2⟩, List.append_assoc]
        rw [e3]
        exact ih _ _ h
      · cases hs
end Go.Proofs.YtagpjommhoedlaaDoor

namespace Go.Proofs.YtagpjommhoedlaaDoor
open Go.RowKit

end Go.Proofs.YtagpjommhoedlaaDoor

namespace Go.Proofs.YtagpjommhoedlaaDoor
open Go.RowKit

end Go.Proofs.YtagpjommhoedlaaDoor

namespace Go.Proofs.YtagpjommhoedlaaDoor
open Go.RowKit

end Go.Proofs.YtagpjommhoedlaaDoor

namespace Go.Proofs.YtagpjommhoedlaaDoor

/-- Two right grammars, of any number of rules, joined. -/
theorem joinG_lens {xs ys : List GRule} {lx ly : List Int} (h1 : lens xs = some lx) (h2 : lens ys = some ly) (hm : lastI lx + lastI ly ≤ maxL) : ∃ l, lens (joinG xs ys) = some l ∧ lastI l = lastI lx + lastI ly := by
  have hxl := lens_length h1
  have hyl := lens_length h2
  unfold joinG
  by_cases c1 : xs.length = 0
  · rw [if_pos c1]
    have : lx = [] := List.eq_nil_of_length_eq_zero (by omega)
    exact ⟨ly, h2, by rw [this]; simp [lastI]⟩
  · rw [if_neg c1]
    by_cases c2 : ys.length = 0
    · rw [if_pos c2]
      have : ly = [] := List.eq_nil_of_length_eq_zero (by omega)
      exact ⟨lx, h1, by rw [this]; simp [lastI]⟩
    · rw [if_neg c2]
      have hr := lens_raise h1 h2
      have hlen : (xs ++ ys.map (raiseR xs.length)).length = xs.length + ys.length := by simp
      have e1 : ((xs.length : Int) - 1) = ((xs.length - 1 : Nat) : Int) := by omega
      have e2 : ((xs.length : Int) + ys.length - 1) = ((xs.length + ys.length - 1 : Nat) : Int) := by omega
      have g2 : (lx ++ ly).getD (xs.length - 1) 0 = lastI lx := by
        rw [lastI, List.getD_eq_getElem?_getD, List.getElem?_append_left (by omega), ← List.getD_eq_getElem?_getD, hxl]
      have g3 : (lx ++ ly).getD (xs.length + ys.length - 1) 0 = lastI ly := by
        rw [lastI, List.getD_eq_getElem?_getD, List.getElem?_append_right (by omega), ← List.getD_eq_getElem?_getD, hxl, hyl]
        congr 1; omega
      rw [e1, e2]
      have h3 := lens_snoc (a := xs.length - 1) (b := xs.length + ys.length - 1) hr (by omega) (by omega) (by rw [g2, g3]; exact hm)
      rw [g2, g3] at h3
      exact ⟨_, h3, by simp [lastI]⟩
end Go.Proofs.YtagpjommhoedlaaDoor

namespace Go.Proofs.YtagpjommhoedlaaDoor

theorem getR_right {xs ys : List GRule} {n r : Nat} (hr : r < ys.length) : getR (xs ++ ys.map (raiseR n)) (xs.length + r) = raiseR n (getR ys r) := by
  unfold getR
  rw [List.getD_eq_getElem?_getD, List.getElem?_append_right (by omega), List.getD_eq_getElem?_getD]
  rw [show xs.length + r - xs.length = r by omega, List.getElem?_map, List.getElem?_eq_getElem hr]
  rfl
theorem getR_turn {xs : List GRule} {r : Nat} (hr : r < xs.length) : getR (xs.map turnR) r = turnR (getR xs r) := by
  unfold getR
  rw [List.getD_eq_getElem?_getD, List.getD_eq_getElem?_getD, List.getElem?_map, List.getElem?_eq_getElem hr]
  rfl
theorem raise_pair (n : Nat) (r : GRule) : (raiseR n r).pair = r.pair := by
  unfold raiseR; split <;> rfl
theorem wordR_raise {xs ys : List GRule} {ly : List Int} (hy : lens ys = some ly) : ∀ (f r : Nat), r < ys.length → wordR (xs ++ ys.map (raiseR xs.length)) f (xs.length + r) = wordR ys f r := by
  intro f
  induction f with
  | zero => intro r _; rfl
  | succ f ih =>
    intro r hr
    rw [wordR, wordR, getR_right hr, raise_pair]
    cases hp : (getR ys r).pair with
    | false => simp [raiseR, hp]
    | true =>
      obtain ⟨q1, q2, q3, q4, q5⟩ := lens_pair hy hr hp
      rw [if_pos rfl, if_pos rfl, ← ih _ (show (getR ys r).left.toNat < ys.length by omega), ← ih _ (show (getR ys r).right.toNat < ys.length by omega)]
      have e1 : (raiseR xs.length (getR ys r)).left.toNat = xs.length + (getR ys r).left.toNat := by simp only [raiseR, hp, if_true]; omega
      have e2 : (raiseR xs.length (getR ys r)).right.toNat = xs.length + (getR ys r).right.toNat := by simp only [raiseR, hp, if_true]; omega
      rw [e1, e2]
theorem wordR_turn {xs : List GRule} {ls : List Int} (h : lens xs = some ls) : ∀ (f r : Nat), r < xs.length → wordR (xs.map turnR) f r = (wordR xs f r).reverse := by
  intro f
  induction f with
  | zero => intro r _; rfl
  | succ f ih =>
    intro r hr
    rw [wordR, wordR, getR_turn hr, show (turnR (getR xs r)).pair = (getR xs r).pair from rfl]
    cases hp : (getR xs r).pair with
    | false =>
      have h1 := isLet_size (lens_isLet h hr hp)
      have h2 : (getR xs r).letter.data.toList.length = 1 := by rw [Array.length_toList]; exact h1
      obtain ⟨x, hx⟩ := List.length_eq_one_iff.1 h2
      simp [turnR, hx]
    | true =>
      obtain ⟨q1, q2, q3, q4, q5⟩ := lens_pair h hr hp
      simp only [if_true]
      rw [List.reverse_append, ← ih _ (show (getR xs r).left.toNat < xs.length by omega), ← ih _ (show (getR xs r).right.toNat < xs.length by omega)]
      rfl
/-- The word that is turned. -/
theorem wordG_turn {xs : List GRule} {ls : List Int} (h : lens xs = some ls) : wordG (xs.map turnR) = (wordG xs).reverse := by
  by_cases h0 : xs.length = 0
  · have : xs = [] := List.eq_nil_of_length_eq_zero h0
    subst this; rfl
  · rw [wordG_pos (by simp; omega), wordG_pos (by omega), List.length_map]
    exact wordR_turn h _ _ (by omega)
/-- Two words, joined. -/
theorem joinG_word {xs ys : List GRule} {lx ly : List Int} (h1 : lens xs = some lx) (h2 : lens ys = some ly) (hm : lastI lx + lastI ly ≤ maxL) : wordG (joinG xs ys) = wordG xs ++ wordG ys := by
  obtain ⟨l, hl, _⟩ := joinG_lens h1 h2 hm
  unfold joinG at hl ⊢
  by_cases c1 : xs.length = 0
  · have : xs = [] := List.eq_nil_of_length_eq_zero c1
    subst this; simp [wordG]
  · rw [if_neg c1] at hl ⊢
    by_cases c2 : ys.length = 0
    · have : ys = [] := List.eq_nil_of_length_eq_zero c2
      subst this; simp [wordG]
    · rw [if_neg c2] at hl ⊢
      have hr := lens_raise h1 h2
      have hlen : (xs ++ ys.map (raiseR xs.length)).length = xs.length + ys.length := by simp
      have e1 : ((xs.length : Int) - 1) = ((xs.length - 1 : Nat) : Int) := by omega
      have e2 : ((xs.length : Int) + ys.length - 1) = ((xs.length + (ys.length - 1) : Nat) : Int) := by omega
      rw [e1, e2] at hl ⊢
      rw [wordG_snoc, W1_snoc hl (by omega) (by omega), W1_appL h1 (by omega), wordG_pos (by omega), wordG_pos (show 0 < ys.length by omega)]
      congr 1
      have hw := wordR_fuel hr (xs.length + (ys.length - 1) + 1) (xs.length + (ys.length - 1)) (by omega) (by omega)
      rw [← hw, wordR_raise h2 _ _ (by omega)]
      exact wordR_fuel h2 _ _ (by omega) (by omega)
theorem digV_ge (m : Nat) (d : UInt8) : 2 * m ≤ digV m d := by unfold digV; omega
theorem digF_ge : ∀ (ds : List UInt8) (m : Nat), m ≤ ds.foldl digV m := by
  intro ds
  induction ds with
  | nil => intro m; exact Nat.le_refl _
  | cons d ds ih => intro m; rw [List.foldl_cons]; have h1 := ih (digV m d); have h2 := digV_ge m d; omega
/-- A power has lengths. -/
theorem powFold_lens {root : Nat} {c : Int} (hc : 0 ≤ c) : ∀ (ds : List UInt8) (L : List GRule) (l : List Int) (m : Nat), lens L = some l → 0 < L.length → root < L.length → l.getD root 0 = c → lastI l = m * c →
    ((ds.foldl digV m : Nat) : Int) * c ≤ maxL → ∃ l', lens (ds.foldl (powStep (root : Int)) L) = some l' := by
  intro ds
  induction ds with
  | nil => intro L l m h _ _ _ _ _; exact ⟨l, h⟩
  | cons d ds ih =>
    intro L l m hl h0 hr hroot hlast hb
    rw [List.foldl_cons] at hb ⊢
    have hlen := lens_length hl
    have hla := lastI_at hl h0
    have hge := digF_ge ds (digV m d)
    have hb1 : ((digV m d : Nat) : Int) * c ≤ maxL := Int.le_trans (Int.mul_le_mul_of_nonneg_right (by omega) hc) hb
    have hb2 : ((2 * m : Nat) : Int) * c ≤ maxL := Int.le_trans (Int.mul_le_mul_of_nonneg_right (by have := digV_ge m d; omega) hc) hb1
    have e2 : ((2 * m : Nat) : Int) * c = m * c + m * c := by rw [show ((2 * m : Nat) : Int) = (m : Int) + m by omega, Int.add_mul]
    have e0 : ((L.length : Int) - 1) = ((L.length - 1 : Nat) : Int) := by omega
    have hS : powStep root L d = (L ++ [pairR ((L.length - 1 : Nat) : Int) ((L.length - 1 : Nat) : Int)]) ++ (if d = 49 then [pairR (L.length : Int) root] else []) := by
      unfold powStep; rw [e0]
    have h2 := lens_snoc (a := L.length - 1) (b := L.length - 1) hl (by omega) (by omega) (by rw [← hla, hlast, ← e2]; exact hb2)
    rw [← hla, hlast] at h2
    have gA : ∀ x : Int, (l ++ [x]).getD L.length 0 = x := fun x => by rw [← hlen, List.getD_eq_getElem?_getD, List.getElem?_append_right (Nat.le_refl _)]; simp
    have gB : ∀ x : Int, (l ++ [x]).getD root 0 = c := fun x => by rw [List.getD_eq_getElem?_getD, List.getElem?_append_left (by omega), ← List.getD_eq_getElem?_getD]; exact hroot
    have gC : ∀ (u : List Int) (x : Int), lastI (u ++ [x]) = x := fun u x => by simp [lastI]
    by_cases hd : d = 49
    · have e3 : ((digV m d : Nat) : Int) * c = (m * c + m * c) + c := by
        rw [show ((digV m d : Nat) : Int) = ((2 * m : Nat) : Int) + 1 by unfold digV; rw [if_pos hd]; omega, Int.add_mul, e2, Int.one_mul]
      have h3 := lens_snoc (a := L.length) (b := root) h2 (by simp) (by simp; omega) (by rw [gA, gB, ← e3]; exact hb1)
      rw [gA, gB, ← e3] at h3
      rw [hS, if_pos hd]
      refine ih _ _ (digV m d) h3 (by simp) (by simp; omega) ?_ (gC _ _) hb
      rw [List.getD_eq_getElem?_getD, List.getElem?_append_left (by simp; omega), ← List.getD_eq_getElem?_getD]
      exact gB _
    · have e3 : ((digV m d : Nat) : Int) * c = m * c + m * c := by
        rw [show digV m d = 2 * m by unfold digV; rw [if_neg hd]; omega, e2]
      rw [hS, if_neg hd, List.append_nil]
      exact ih _ _ (digV m d) h2 (by simp) (by simp; omega) (gB _) (by rw [gC, e3]) hb
theorem join_small {xs ys : List GRule} (hx : gramOk xs = true) (hy : gramOk ys = true) (lx : xs.length ≤ 14) (ly : ys.length ≤ 14) (gx : gramLen xs ≤ 40) (gy : gramLen ys ≤ 40) :
    joinCode xs ys = 0 ∧ joinOut xs ys = joinG xs ys ∧ gramOk (joinG xs ys) = true ∧ wordG (joinG xs ys) = wordG xs ++ wordG ys := by
  obtain ⟨_, a, ha⟩ := gram_lens hx
  obtain ⟨_, b, hb⟩ := gram_lens hy
  have ea := gramLen_of ha
  have eb := gramLen_of hb
  have hm : lastI a + lastI b ≤ maxL := by unfold maxL; omega
  obtain ⟨l, hl, _⟩ := joinG_lens ha hb hm
  have hlen : (joinG xs ys).length ≤ 400 := by
    unfold joinG; split
    · omega
    · split
      · omega
      · simp; omega
  have ok : gramOk (joinG xs ys) = true := by simp [gramOk, hl, hlen]
  exact ⟨by simp [joinCode, limCode, hx, hy, ok], by simp [joinOut, limOut, hx, hy, ok], ok, joinG_word ha hb hm⟩
theorem turn_small {xs : List GRule} (hx : gramOk xs = true) : turnCode xs = 0 ∧ turnOut xs = xs.map turnR ∧ gramOk (xs.map turnR) = true ∧ wordG (xs.map turnR) = (wordG xs).reverse := by
  obtain ⟨_, a, ha⟩ := gram_lens hx
  exact ⟨by simp [turnCode, hx], by simp [turnOut, hx], gramOk_turn hx, wordG_turn ha⟩
theorem pow_small {xs : List GRule} {n : Nat} (hx : gramOk xs = true) (h0 : 0 < xs.length) (lx : xs.length ≤ 14) (gx : gramLen xs ≤ 40) (hn : n ≤ 1000) :
    powCode xs n = 0 ∧ powOut xs n = powG xs n ∧ gramOk (powG xs n) = true ∧ wordG (powG xs n) = repW (wordG xs) n := by
  obtain ⟨_, a, ha⟩ := gram_lens hx
  have ea := gramLen_of ha
  have hb := gramLen_bounds xs
  have hla := lastI_at ha h0
  have hl : ∃ l, lens (powG xs n) = some l := by
    unfold powG
    by_cases c : n = 0 ∨ xs.length = 0
    · rw [if_pos c]; exact ⟨[], rfl⟩
    · rw [if_neg c]
      obtain ⟨t, ht⟩ := binL_head n (by omega)
      have hv := binL_val n
      rw [ht, List.foldl_cons] at hv
      have h1 : digV 0 49 = 1 := by decide
      rw [h1] at hv
      rw [ht]
      have e0 : ((xs.length : Int) - 1) = ((xs.length - 1 : Nat) : Int) := by omega
      rw [e0]
      refine powFold_lens (c := lastI a) (by omega) t xs a 1 ha h0 (by omega) hla.symm (by omega) ?_
      rw [hv]
      have h2 : (n : Int) * lastI a ≤ 1000 * 40 := Int.mul_le_mul (by omega) (by omega) (by omega) (by omega)
      unfold maxL; omega
  obtain ⟨l, hl⟩ := hl
  have hlen := powG_len xs n (by omega)
  have ok : gramOk (powG xs n) = true := by simp [gramOk, hl]; omega
  have hin : inB (n : Int) 0 1000000000000000 = true := by simp [inB]; omega
  exact ⟨by simp [powCode, limCode, hx, hin, ok], by simp [powOut, limOut, hx, hin, ok], ok, powG_word ha hl⟩
theorem part_small {xs : List GRule} {i j : Int} (hx : gramOk xs = true) (lx : xs.length ≤ 14) (hi : 0 ≤ i) (hij : i ≤ j) (hj : j ≤ gramLen xs) :
    ∃ g, partCode xs i j = 0 ∧ partOut xs i j = g ∧ gramOk g = true ∧ wordG g = cutL (wordG xs) i j := by
  obtain ⟨_, a, ha⟩ := gram_lens hx
  have ea := gramLen_of ha
  obtain ⟨p1, p2⟩ := partOut_yes hx ha ⟨hi, hij, by omega⟩
  obtain ⟨l1, h1, h2⟩ := partG_word ha hi hij (by omega)
  have hlen := partG_len ha i j
  have ok : gramOk (partG xs a i j) = true := by simp [gramOk, h1]; omega
  exact ⟨partG xs a i j, by rw [p2]; simp [limCode, ok], by rw [p1]; simp [limOut, ok], ok, h2⟩
end Go.Proofs.YtagpjommhoedlaaDoor

namespace Go.Proofs
open Go.Shelf
end Go.Proofs
namespace Go.Proofs.YtagpjommhoedlaaDoor
open Go.RowKit

end Go.Proofs.YtagpjommhoedlaaDoor

namespace Go.Proofs.YtagpjommhoedlaaDoor
open Go.RowKit

section
variable {xs : List GRule} {vR : Value} {bg bs b B : Nat}
end
end Go.Proofs.YtagpjommhoedlaaDoor

namespace Go.Proofs.YtagpjommhoedlaaDoor
open Go.RowKit

end Go.Proofs.YtagpjommhoedlaaDoor

namespace Go.Proofs.YtagpjommhoedlaaDoor
open Go.RowKit

/-- What UnpackWord answers. -/
def upV (xs : List GRule) : List UInt8 := if gramOk xs && decide ((wordG xs).length ≤ 2000) then wordG xs else []
def upC (xs : List GRule) : Int := if gramOk xs then (if (wordG xs).length ≤ 2000 then 0 else 3) else 1
end Go.Proofs.YtagpjommhoedlaaDoor

namespace Go.Proofs.YtagpjommhoedlaaDoor
open Go.RowKit

set_option maxRecDepth 100000 in
set_option maxHeartbeats 2000000 in
theorem l02Letter_any (b o : Nat) (vR vL : Value) (xs : List GRule) (ls : List Int) (i : Int) (c : UInt8) (w : World) (hp : w.cell? ⟨b, o, none⟩ = some vR) (hR : Sl RuleE w w.heap.size vR xs) (hL : Sl IntE w w.heap.size vL ls)
    (hl : lens xs = some ls) (hn : xs.length ≤ 1099511627776) (hi : 0 ≤ i) (hc : (wordG xs)[i.toNat]? = some c) :
    Calls Tryd.prog 77 #[.pointer (some ⟨b, o, none⟩), vL, .int .i64 i] w fun e w' => e = .returned (.int .u8 c.toNat) ∧ w = w' := by
  have h0 : 0 < xs.length := by
    refine Nat.pos_of_ne_zero fun e => ?_
    have hx : xs = [] := List.eq_nil_of_length_eq_zero e
    subst hx
    simp [wordG] at hc
  have hll := lens_length hl
  rw [wordG_pos h0] at hc
  have hlt := (List.getElem?_eq_some_iff.1 hc).1
  have hWl := W1_len hl (xs.length - 1) (by omega)
  obtain ⟨AR, cR, rfl, _, hmR, hrowR⟩ := hR
  obtain ⟨AL, cL, rfl, _, hmL, hrowL⟩ := hL
  unfold maxLen at hmR hmL
  obtain ⟨bR, oR, rfl, hbR, hcR⟩ := hrowR.rule h0
  obtain ⟨bL, oL, rfl, hbL, hcL⟩ := hrowL.int (k := 0) (by omega)
  have HcR := Lib.hid hcR
  have HcL := Lib.hid hcL
  have Hll := Lib.hid hll
  have Hl := Lib.hid hl
  have hm1 : (xs.length : Int) - 1 = ((xs.length - 1 : Nat) : Int) := by omega
  obtain ⟨m, hm⟩ : ∃ m, xs.length - 1 = m := ⟨_, rfl⟩
  rw [hm] at hm1 hc hlt hWl
  have hmx : m < xs.length := by omega
  have Hc := Lib.hid hc
  have hq0 : i < ls.getD m 0 := by omega
  have Hq0 := Lib.hid hq0
  have Hm1 := Lib.hid hm1
  clear hrowR hrowL hcR hcL hll hl hc hlt hWl hm hq0
  go_enter Tryd.func77, Tryd.ntmps77
  go_wp2_with fail
  go_loopw [2, 7] (fun q a wx => ∃ (r : Nat) (z : Int), r < xs.length ∧ a = .int .i64 (r : Int) ∧ q = .int .i64 z ∧ 0 ≤ z ∧ z < ls.getD r 0 ∧ (W1 xs r)[z.toNat]? = some c ∧ wx = w) (fun _ a _ => (intOf a).toNat)
  case atStart => exact ⟨m, i, hmx, rfl, rfl, hi, Hq0.out, Hc.out, rfl⟩
  case round =>
    obtain ⟨r, z, hr, rfl, rfl, hz, hzl, hw, rfl⟩ := hrel
    obtain ⟨k0, k1, k2⟩ := HcR.out r _ (getR_at hr)
    have hri : (r : Int) < (xs.length : Int) := by omega
    have Hw := Lib.hid hw
    have Hzl := Lib.hid hzl
    obtain ⟨R, hR⟩ : ∃ R, getR xs r = R := ⟨_, rfl⟩
    rw [hR] at k0 k1 k2
    have HR := Lib.hid hR
    clear hw hzl hR hm1
    by_cases hp2 : R.letter.toList.isEmpty = true
    · have hpr : (getR xs r).pair = true := by rw [HR.out]; rw [isEmpty_size] at hp2; exact hp2
      obtain ⟨q1, q2, q3, q4, q5⟩ := lens_pair Hl.out hr hpr
      have hW := W1_pair Hl.out hr hpr
      rw [HR.out] at q1 q2 q3 q4 q5 hW
      obtain ⟨la, hla⟩ := Int.eq_ofNat_of_zero_le q1
      obtain ⟨ra, hra⟩ := Int.eq_ofNat_of_zero_le q3
      rw [hla] at q2 k1
      rw [hra] at q4 k2
      rw [hla, hra] at hW q5
      simp only [Int.toNat_natCast] at q2 q4 q5 hW
      have hlw := W1_len Hl.out la (by omega)
      have cl := HcL.out la (by have := Hll.out; omega)
      have hli : (la : Int) < (ls.length : Int) := by have := Hll.out; omega
      have hpl := lens_pos' Hl.out (r := la) (by omega)
      have hpr2 := lens_pos' Hl.out (r := r) hr
      obtain ⟨LA, hLA⟩ : ∃ x, ls.getD la 0 = x := ⟨_, rfl⟩
      rw [hLA] at cl hlw hpl q5
      have HLA := Lib.hid hLA
      have Hq5 := Lib.hid q5
      have Hlw := Lib.hid hlw
      have HW := Lib.hid hW
      have hzb : z ≤ 1000000000000000 := by have := Hzl.out; omega
      clear hpr q1 q3 hla hra hLA q5 hlw hW hpr2
      by_cases hc1 : z < LA
      · go_wp2_with fail
        refine ⟨⟨la, z, by omega, rfl, rfl, hz, by rw [HLA.out]; exact hc1, ?_, trivial⟩, by simp [intOf]; omega⟩
        have := Hw.out
        rwa [HW.out, List.getElem?_append_left (by have := Hlw.out; omega)] at this
      · go_wp2_with fail
        refine ⟨⟨ra, z - LA, by omega, rfl, rfl, by omega, by have := Hq5.out; have := Hzl.out; omega, ?_, trivial⟩, by simp [intOf]; omega⟩
        have := Hw.out
        rw [HW.out, List.getElem?_append_right (by have := Hlw.out; omega)] at this
        rwa [show z.toNat - (W1 xs la).length = (z - LA).toNat by have := Hlw.out; omega] at this
    · have hp3 : R.letter.toList.isEmpty = false := by simpa using hp2
      have hpr : (getR xs r).pair = false := by rw [HR.out]; rw [isEmpty_size] at hp3; exact hp3
      have hsz := isLet_size (lens_isLet Hl.out hr hpr)
      have hone := lens_letter Hl.out hr hpr
      have hW := W1_let hpr
      rw [HR.out] at hsz hW
      have hz0 : z = 0 := by have := Hzl.out; omega
      have hcc : R.letter.data.toList[0]? = some c := by
        have := Hw.out
        rw [hW, hz0] at this; exact this
      have hs0 : 0 < R.letter.size := by omega
      have hget : R.letter[0]'hs0 = c := by
        rw [toList_getElem? _ _ hs0] at hcc
        exact Option.some.inj hcc
      have Hget := Lib.hid hget
      clear hp2 hpr hone hW hz0 hcc hget
      go_wp2_with fail
      go_ret
      exact ⟨by rw [← Hget.out]; rfl, rfl⟩
end Go.Proofs.YtagpjommhoedlaaDoor

