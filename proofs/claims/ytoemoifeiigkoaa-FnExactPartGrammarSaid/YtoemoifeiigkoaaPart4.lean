import Derived.Test.YtoemoifeiigkoaaPart3
import Derived.Test.YtoemoifeiigkoaaTrim2
import Derived.Test.YtoemoifeiigkoaaPieces2
namespace Go.Proofs.Ytoemoifeiigkoaa
open Go.RowKit

theorem Row.take {α : Type} {E : Enc α} {w : World} {S : Nat → Prop} {A : Option Addr} {xs : List α} (h : Row E w S A xs) (m : Nat) : Row E w S A (xs.take m) := fun hn => by
  obtain ⟨b, o, rfl, hlt, hc⟩ := h (by simp at hn; omega)
  refine ⟨b, o, rfl, hlt, fun k x hx => hc k x ?_⟩
  rw [List.getElem?_take] at hx
  split at hx
  · exact hx
  · cases hx
theorem sl_take {α : Type} {E : Enc α} {w : World} {S : Nat → Prop} {A : Option Addr} {n c : Nat} {xs : List α} (h : SlS E w S (.slice A n c) xs) {m : Nat} (hm : m ≤ xs.length) : SlS E w S (.slice A m c) (xs.take m) := by
  obtain ⟨A', c', e, h1, h2, h3⟩ := h
  injection e with e1 e2 e3
  subst e1; subst e3
  exact ⟨A, c, by rw [List.length_take, Nat.min_eq_left hm], by rw [List.length_take]; omega, h2, h3.take m⟩
theorem joinFold_len : ∀ (l : List Nat) (p : List GRule × Int), (l.foldl joinStep p).1.length = p.1.length + l.length
  | [], p => rfl
  | a :: l, p => by rw [List.foldl_cons, joinFold_len l]; simp [joinStep]; omega
theorem foldl_snoc (l s : List Nat) : l.foldl (fun s r => s ++ [r]) s = s ++ l := by
  induction l generalizing s with
  | nil => simp
  | cons a l ih => rw [List.foldl_cons, ih]; simp

set_option maxRecDepth 100000 in
set_option maxHeartbeats 4000000 in
theorem part_any (vR vL : Value) (xs : List GRule) (ls : List Int) (i j : Int) (w : World) (hR : Sl RuleE w w.heap.size vR xs) (hL : Sl IntE w w.heap.size vL ls) (hl : lens xs = some ls) (hn : xs.length ≤ 1048576) :
    Calls Try.prog 81 #[.agg #[vR], vL, .int .i64 i, .int .i64 j] w (GOwn (partG xs ls i j) w) := by
  have HL := Lib.hid hL
  have HR := Lib.hid hR
  obtain ⟨AR, cR, rfl, _, hmR, _⟩ := hR
  obtain ⟨AL, cL, rfl, _⟩ := hL
  unfold maxLen at hmR
  have Hl := Lib.hid hl
  clear hl
  go_enter Try.func81, Try.ntmps81
  go_wp2_with fail
  have hz0 : ((((w.alloc (Obj.cells #[Value.slice AR xs.length cR] 28)).alloc (Obj.cells #[Value.slice none 0 0] 28)).alloc (Obj.cells #[] 2)).alloc (Obj.cells #[Value.slice (some ⟨w.heap.size + 1 + 1, 0, none⟩) 0 0] 35)).heap.size = w.heap.size + 4 := by simp
  have hB0 : Below w.heap.size w ((((w.alloc (Obj.cells #[Value.slice AR xs.length cR] 28)).alloc (Obj.cells #[Value.slice none 0 0] 28)).alloc (Obj.cells #[] 2)).alloc (Obj.cells #[Value.slice (some ⟨w.heap.size + 1 + 1, 0, none⟩) 0 0] 35)) := (by repeat (first | exact Below.refl _ _ | (refine Below.alloc ?_ (by first | omega | (simp; done) | (simp; omega)) _) | refine below_drewN ?_ _ | refine Below.drew ?_))
  have hx0 : ((((w.alloc (Obj.cells #[Value.slice AR xs.length cR] 28)).alloc (Obj.cells #[Value.slice none 0 0] 28)).alloc (Obj.cells #[] 2)).alloc (Obj.cells #[Value.slice (some ⟨w.heap.size + 1 + 1, 0, none⟩) 0 0] 35)).cell? ⟨w.heap.size, 0, none⟩ = some (.slice AR xs.length cR) := by simp [go_sem]
  have hbx1 : Boxed ((((w.alloc (Obj.cells #[Value.slice AR xs.length cR] 28)).alloc (Obj.cells #[Value.slice none 0 0] 28)).alloc (Obj.cells #[] 2)).alloc (Obj.cells #[Value.slice (some ⟨w.heap.size + 1 + 1, 0, none⟩) 0 0] 35)) (w.heap.size + 1) 28 (.slice none 0 0) := by
    have := ((Boxed.new (w.alloc (Obj.cells #[Value.slice AR xs.length cR] 28)) 28 (.slice none 0 0)).alloc (Obj.cells #[] 2)).alloc (Obj.cells #[Value.slice (some ⟨w.heap.size + 1 + 1, 0, none⟩) 0 0] 35)
    rwa [show (w.alloc (Obj.cells #[Value.slice AR xs.length cR] 28)).heap.size = w.heap.size + 1 by simp] at this
  have hCJ : CJ (w.heap.size + 3) (w.heap.size + 2) (fun b => b < w.heap.size + 2) [] ((((w.alloc (Obj.cells #[Value.slice AR xs.length cR] 28)).alloc (Obj.cells #[Value.slice none 0 0] 28)).alloc (Obj.cells #[] 2)).alloc (Obj.cells #[Value.slice (some ⟨w.heap.size + 1 + 1, 0, none⟩) 0 0] 35)) := by
    refine ⟨.slice (some ⟨w.heap.size + 1 + 1, 0, none⟩) 0 0, ?_, ?_, by simp, by omega, fun g hg => ?_⟩
    · have := Boxed.new (((w.alloc (Obj.cells #[Value.slice AR xs.length cR] 28)).alloc (Obj.cells #[Value.slice none 0 0] 28)).alloc (Obj.cells #[] 2)) 35 (Value.slice (some ⟨w.heap.size + 1 + 1, 0, none⟩) 0 0)
      rwa [show (((w.alloc (Obj.cells #[Value.slice AR xs.length cR] 28)).alloc (Obj.cells #[Value.slice none 0 0] 28)).alloc (Obj.cells #[] 2)).heap.size = w.heap.size + 3 by simp] at this
    · exact (OwnInts.empty (w := (w.alloc (Obj.cells #[Value.slice AR xs.length cR] 28)).alloc (Obj.cells #[Value.slice none 0 0] 28)) (by simp) (by simp)).alloc _
    · have : w.heap.size + 1 + 1 = g := Option.some.inj hg
      omega
  generalize ((((w.alloc (Obj.cells #[Value.slice AR xs.length cR] 28)).alloc (Obj.cells #[Value.slice none 0 0] 28)).alloc (Obj.cells #[] 2)).alloc (Obj.cells #[Value.slice (some ⟨w.heap.size + 1 + 1, 0, none⟩) 0 0] 35)) = w0 at *
  have HB0 := Lib.hid hB0
  have HX0 := Lib.hid hx0
  have HBX1 := Lib.hid hbx1
  have HZ0 := Lib.hid hz0
  have HCJ := Lib.hid hCJ
  clear hB0 hx0 hbx1 hz0 hCJ
  have hpl := pieces_len Hl.out i j
  have hpm := pieces_mem Hl.out i j
  refine (pieces_any (CJ (w.heap.size + 3) (w.heap.size + 2)) (fun s r => s ++ [r]) (fun s _ => s.length ≤ 1099511627775) 177 #[.pointer (some ⟨w.heap.size + 3, 0, none⟩)] xs ls i j Hl.out (by omega) (enters_of Try.func177 (by kernel_rfl) rfl) CJ.ext
    (fun C s r w' hJ hok hr hC => coverCl_any _ _ C s r w' hJ hok hC) (.slice AL ls.length cL) (.slice AR xs.length cR) [] (fun b => b < w.heap.size + 2) w0 HCJ.out ?_ ?_ ?_ ?_).mono ?_
  · intro l1 r l2 e
    rw [foldl_snoc, List.nil_append]
    have := congrArg List.length e
    simp at this; omega
  · intro b hb
    have := HZ0.out
    omega
  · exact ((HL.out.below HB0.out).le (by omega))
  · exact ((HR.out.below HB0.out).le (by omega))
  rintro e w2 ⟨rfl, C2, g1, g2, g3, g4⟩
  rw [foldl_snoc, List.nil_append] at g3
  obtain ⟨P, hP⟩ : ∃ P, piecesL xs ls i j = P := ⟨_, rfl⟩
  rw [hP] at g3 hpl hpm
  obtain ⟨v, hbc, hoc, _, _, hvC⟩ := g3
  obtain ⟨Ac, cc, rfl, _⟩ := own_nil hoc
  have hb2 : Below (w.heap.size + 2) w0 w2 := g4.below fun k hk => hk
  have hg : partG xs ls i j = trimG (cutG xs P) := by rw [partG, hP]
  have hz2 : w.heap.size + 4 ≤ w2.heap.size := by have := hb2.size; have := HZ0.out; omega
  have hbR : Boxed w2 (w.heap.size + 1) 28 (.slice none 0 0) := Boxed.up HBX1.out hb2 (by omega)
  have c0 := (hb2.cell (p := ⟨w.heap.size, 0, none⟩) (by show w.heap.size < w.heap.size + 2; omega)).trans HX0.out
  have HB2 := Lib.hid (HB0.out.trans (hb2.mono (by omega)))
  have HBC := Lib.hid hbc
  have HOC := Lib.hid hoc
  have Hg := Lib.hid hg
  have HPM := Lib.hid hpm
  have HBR := Lib.hid hbR
  have bxc := hbc.cell
  have fR := hbR.frozen
  have cR1 := hbR.cell
  clear g1 g2 g4 hP hbc hoc hvC hb2 hg hbR hpm
  rcases P with _ | ⟨c, _ | ⟨d, cs⟩⟩
  · replace bxc : w2.cell? ⟨w.heap.size + 3, 0, none⟩ = some (.slice Ac 0 cc) := bxc
    go_wp2_with fail
    refine bodyPost_ret (v := .agg #[.slice none 0 0]) (by simp [results, Try.results81, go_sem, (Boxed.set (Value.slice none 0 0) HBR.out).cell]) rfl ⟨HB2.out.setCell (by show w.heap.size ≤ w.heap.size + 1; omega) _, _, ?_, rfl⟩
    rw [Hg.out]
    exact World.ownsRow_nil _ _ _ _
  · replace bxc : w2.cell? ⟨w.heap.size + 3, 0, none⟩ = some (.slice Ac 1 cc) := bxc
    obtain ⟨g, cap, e1, hg1, hg2, hg3, hgc⟩ := OwnInts.at_ HOC.out (j := 0) (by simp [nI])
    injection e1 with e11 e12 e13
    subst e11
    have cc0 : w2.cell? ⟨g, 0, none⟩ = some (.int .i64 (c : Int)) := hgc 0 (by simp [nI])
    have hcx : c < xs.length := HPM.out c (by simp)
    have hcR : (c : Int) + 1 ≤ (cR : Int) := by omega
    have hS2 : Sl RuleE w2 w2.heap.size (.slice AR xs.length cR) xs := (HR.out.below HB2.out).le (by omega)
    have hok := okAll_take (okAll_lens Hl.out) (c + 1)
    have TR := Lib.hid (trimmed_any (.slice AR (c + 1) cR) (xs.take (c + 1)) w2.drew (SlS.keep (sl_take hS2 (m := c + 1) (by omega)) fun _ _ => rfl) (by rw [List.length_take]; omega) hok)
    have htn : ((c : Int) + 1).toNat = c + 1 := by omega
    have hwc : IntKind.i64.wrap ((c : Int) + 1) = (c : Int) + 1 := IntWalk.i64_in _ (by omega)
    have hc0 : (0 : Int) ≤ (c : Int) + 1 := by omega
    clear hgc e12 hg3 hS2 hok
    go_wp2_with fail
    go_region_law (go_simp; go_at_call 178; (with_reducible refine TR.out.mono ?_); rintro e w3 ⟨hb3, v3, own3, rfl⟩; obtain ⟨A3, c3, rfl, _⟩ := own_nil own3; have hbR3 : Boxed w3 (w.heap.size + 1) 28 (.slice none 0 0) := Boxed.up (w := w2.drew) HBR.out hb3 (by show w.heap.size + 1 < w2.heap.size; omega); have fR3 := hbR3.frozen; have cR3 := hbR3.cell)
    all_goals
      go_wp2_with fail
      refine bodyPost_ret (v := .agg #[.slice A3 (trimG (xs.take (c + 1))).length c3]) (by simp [results, Try.results81, go_sem, (Boxed.set (Value.slice A3 (trimG (xs.take (c + 1))).length c3) hbR3).cell]) rfl ⟨((HB2.out.trans (Below.drew (Below.refl _ _))).trans (hb3.mono (by show w.heap.size ≤ w2.heap.size; omega))).setCell (by show w.heap.size ≤ w.heap.size + 1; omega) _, _, ?_, rfl⟩
      rw [Hg.out]
      exact ownsRow_more (ownsRow_setCell_other (a := ⟨w.heap.size + 1, 0, none⟩) own3 (hbR3.not_row (by decide) own3).symm _) (by show w.heap.size ≤ w2.heap.size; omega)
  · have hln : (nI (c :: d :: cs)).length = cs.length + 2 := by simp [nI]
    rw [hln] at bxc
    obtain ⟨g, cap, e1, hg1, hg2, hg3, hgc⟩ := OwnInts.at_ HOC.out (j := 0) (by simp [nI])
    injection e1 with e11 e12 e13
    subst e11; subst e13
    rw [hln] at hg3
    have cc0 : w2.cell? ⟨g, 0, none⟩ = some (.int .i64 (c : Int)) := hgc 0 (by simp [nI])
    have hS2 : Sl RuleE w2 w2.heap.size (.slice AR xs.length cR) xs := (HR.out.below HB2.out).le (by omega)
    have cA : ∀ o, Calls Try.prog 179 #[.agg #[.slice AR xs.length cR]] (w2.alloc o).drew fun e w' => (∃ A1 c1, e = .returned (.agg #[.slice A1 xs.length c1]) ∧ OwnRules w' w2.heap.size (.slice A1 xs.length c1) xs ∧ Below w2.heap.size w2 w') ∧ w'.heap[w2.heap.size]? = some o :=
      fun o => (copied_any _ xs (w2.alloc o).drew ((hS2.up ((Below.refl _ _).alloc (Nat.le_refl _) o)).keep fun _ _ => rfl) (by omega)).mono fun e w' ⟨v', h1, h2, h3⟩ => by
        obtain ⟨A1, c1, rfl, _⟩ := own_nil h2
        have hsz : w2.heap.size < (w2.alloc o).drew.heap.size := by show w2.heap.size < (w2.alloc o).heap.size; simp
        exact ⟨⟨A1, c1, h1, ownsRow_more h2 (Nat.le_of_lt hsz), (Below.drew ((Below.refl w2.heap.size w2).alloc (Nat.le_refl _) o)).trans (h3.mono (Nat.le_of_lt hsz))⟩, (h3.block w2.heap.size hsz).trans (alloc_heap_last _ _)⟩
    have cB : Calls Try.prog 179 #[.agg #[.slice AR xs.length cR]] w2.drew fun e w' => ∃ A1 c1, e = .returned (.agg #[.slice A1 xs.length c1]) ∧ OwnRules w' w2.heap.size (.slice A1 xs.length c1) xs ∧ Below w2.heap.size w2 w' :=
      (copied_any _ xs w2.drew (hS2.keep fun _ _ => rfl) (by omega)).mono fun e w' ⟨v', h1, h2, h3⟩ => by
        obtain ⟨A1, c1, rfl, _⟩ := own_nil h2
        exact ⟨A1, c1, h1, h2, (Below.drew (Below.refl w2.heap.size w2)).trans h3⟩
    have CA := Lib.hid cA
    have CB := Lib.hid cB
    have Hgc := Lib.hid hgc
    have l3 : w.heap.size + 3 < w2.heap.size := by omega
    have l0 : w.heap.size < w2.heap.size := by omega
    have BXC := Lib.hid bxc
    have h02 : (0 : Int) < (cs.length : Int) + 2 := by omega
    clear cA cB hgc hln hS2 e12
    go_upto_region 8 with fail
    go_cut [10, 11] from 24 to 41 (fun p q wx => ∃ (K : Nat) (vo : Value), p = .pointer (some ⟨K, 0, none⟩) ∧ q = .int .i64 (c : Int) ∧ w2.heap.size ≤ K ∧ Boxed wx K 28 vo ∧ OwnRules wx w2.heap.size vo xs ∧ Below w2.heap.size w2 wx)
    case first =>
      go_region_law (go_simp; go_at_call 179; first
        | ((with_reducible refine (CA.out _).mono ?_); rintro e w3 ⟨⟨A1, c1, rfl, own1, hb3⟩, bx3⟩; have bxB : Boxed w3 w2.heap.size 28 (.slice none 0 0) := bx3; have hcb := bxB.cell; have hfb := bxB.frozen; have xx3 := (hb3.cell (p := ⟨w.heap.size + 3, 0, none⟩) l3).trans BXC.out; have yy3 := (hb3.cell (p := ⟨g, 0, none⟩) hg2).trans cc0; have gg3 := Nat.lt_of_lt_of_le hg2 hb3.size; have ll3 := Nat.lt_of_lt_of_le l3 hb3.size; have kk3 := (hb3.cell (p := ⟨w.heap.size, 0, none⟩) l0).trans c0; have mm3 := Nat.lt_of_lt_of_le l0 hb3.size)
        | ((with_reducible refine CB.out.mono ?_); rintro e w3 ⟨A1, c1, rfl, own1, hb3⟩; have xx3 := (hb3.cell (p := ⟨w.heap.size + 3, 0, none⟩) l3).trans BXC.out; have yy3 := (hb3.cell (p := ⟨g, 0, none⟩) hg2).trans cc0; have gg3 := Nat.lt_of_lt_of_le hg2 hb3.size; have ll3 := Nat.lt_of_lt_of_le l3 hb3.size; have kk3 := (hb3.cell (p := ⟨w.heap.size, 0, none⟩) l0).trans c0; have mm3 := Nat.lt_of_lt_of_le l0 hb3.size))
      all_goals
        go_wp2_with fail
        go_meet
        first
          | exact ⟨_, _, rfl, rfl, hb3.size, Boxed.new _ _ _, own1.alloc _, hb3.alloc hb3.size _⟩
          | exact ⟨_, _, rfl, rfl, Nat.le_refl _, Boxed.set _ bxB, ownsRow_setCell_other (a := ⟨w2.heap.size, 0, none⟩) own1 (bxB.not_row (by decide) own1).symm _, hb3.setCell (Nat.le_refl _) _⟩
    case rest =>
      revert hcut
      generalize wc = w3
      intro hcut
      obtain ⟨K, vo, rfl, rfl, hK, bx3, own3, hb3⟩ := hcut
      have c3 := (hb3.cell (p := ⟨w.heap.size + 3, 0, none⟩) l3).trans BXC.out
      have HB3 := Lib.hid hb3
      have Bx3 := Lib.hid bx3
      have Ow3 := Lib.hid own3
      have Hcs : Hid (∀ k, k < cs.length + 1 → w3.cell? ⟨g, 1 + k, none⟩ = some (.int .i64 (((d :: cs).getD k 0 : Nat) : Int))) := fun k hk => by
        rw [hb3.cell (p := ⟨g, 1 + k, none⟩) hg2, Hgc.out (1 + k) (by simp [nI]; omega)]
        have e : (nI (c :: d :: cs)).getD (1 + k) 0 = (((d :: cs).getD k 0 : Nat) : Int) := by
          rw [Nat.add_comm, nI, List.getD_eq_getElem?_getD, List.map_cons, List.getElem?_cons_succ, List.getElem?_map, List.getD_eq_getElem?_getD, List.getElem?_eq_getElem (by simp; omega)]; rfl
        rw [e]
      have hne1 : ¬ cc = 1 := by omega
      clear hb3 bx3 own3
      go_wp2_with fail
      go_loopw [11, 45] (fun q i wx => ∃ (k : Nat) (b : Int) (vo : Value) (L : List GRule), k ≤ cs.length + 1 ∧ q = .int .i64 b ∧ i = .int .i64 k ∧ ((d :: cs).take k).foldl joinStep (xs, (c : Int)) = (L, b) ∧ Boxed wx K 28 vo ∧ OwnRules wx w2.heap.size vo L ∧ Below w2.heap.size w3 wx) (fun _ i _ => cs.length + 1 - (intOf i).toNat)
      case atStart => exact ⟨0, (c : Int), vo, xs, by omega, rfl, rfl, rfl, Bx3.out, Ow3.out, Below.refl _ _⟩
      case round =>
        obtain ⟨k, b, vk, L, hk, rfl, rfl, hLb, hbk, hok, hb4⟩ := hrel
        obtain ⟨Ak, ck, rfl, _⟩ := own_nil hok
        have hLn : L.length ≤ 1099511627774 := by
          have := joinFold_len ((d :: cs).take k) (xs, (c : Int))
          rw [hLb] at this
          simp at this hpl; omega
        have Hb4 := Lib.hid hb4
        have Hbk := Lib.hid hbk
        have Hok := Lib.hid hok
        have HLb := Lib.hid hLb
        have HLn := Lib.hid hLn
        have bxk := hbk.cell
        have cgk := fun k hk => (hb4.cell (p := ⟨g, 1 + k, none⟩) hg2).trans (Hcs.out k hk)
        clear hb4 hbk hok hLb hLn
        by_cases hlt : k < cs.length + 1
        · have cg := cgk k hlt
          clear cgk
          have hki : (k : Int) < (cs.length : Int) + 1 := by omega
          obtain ⟨x, hx⟩ : ∃ x, (d :: cs).getD k 0 = x := ⟨_, rfl⟩
          rw [hx] at cg
          have Hx := Lib.hid hx
          have hcl : cs.length ≤ 2097152 := by simp at hpl; omega
          have HKw := Lib.hid (show K < wr.heap.size from Hbk.out.lt)
          have HW := Lib.hid (show w2.heap.size ≤ wr.heap.size from Nat.le_trans HB3.out.size Hb4.out.size)
          clear hx
          go_upto_region 12 with fail
          go_cut [] from 46 to 56 (fun wx => ∃ vo : Value, Boxed wx K 28 vo ∧ OwnRules wx w2.heap.size vo (L ++ [pairR b x]) ∧ Below w2.heap.size w3 wx)
          case first =>
            go_region_law (first
              | (refine step_push_rule (base := w2.heap.size) (by rfl) _ _ (by rfl) (by rfl) (by first | rfl | simp) rfl (OwnRules.below Hok.out.drew hb2) (Nat.le_trans HLn.out (by omega)) hs2 ?_; intro v5 w5 own5 hg5 hb5; have bx5 : Boxed w5 K 28 _ := Boxed.grown (Boxed.up (Boxed.mk' Hbk.out) hb2 HKw.out) (by decide) (OwnRules.below Hok.out.drew hb2) hg5; obtain ⟨A5, c5, rfl, _⟩ := own_nil own5; have hcb5 := bx5.cell; have hfb5 := bx5.frozen)
              | (go_simp; go_at_call 180; refine (pairI64_any _ _ _).mono ?_; rintro e w4 ⟨rfl, hb2⟩; have bx2 := Boxed.up (Boxed.mk' Hbk.out) hb2 HKw.out; have hcb2 := bx2.cell; have hfb2 := bx2.frozen; have hlb2 := bx2.lt; have hs2 : w2.heap.size ≤ w4.heap.size := Nat.le_trans HW.out hb2.size))
            all_goals
              go_wp2_with fail
              go_meet
              have e9 : (L ++ [pairR b x]).length = L.length + 1 := by simp
              have own9 : OwnRules w5 w2.heap.size (.slice A5 (L.length + 1) c5) (L ++ [pairR b x]) := by rw [← e9]; exact own5
              exact ⟨_, Boxed.set _ bx5, ownsRow_setCell_other (a := ⟨K, 0, none⟩) own9 (bx5.not_row (by decide) own9).symm _, ((((Below.drew Hb4.out).trans (hb2.mono HW.out)).alloc hs2 _).trans hb5).setCell hK _⟩
          case rest =>
            revert hcut
            generalize wc = w5
            intro hcut
            obtain ⟨v5, bx5, own5, hb5⟩ := hcut
            have hM : (L ++ [pairR b x]).length = L.length + 1 := by simp
            obtain ⟨M, hMe⟩ : ∃ M, L ++ [pairR b x] = M := ⟨_, rfl⟩
            rw [hMe] at own5 hM
            obtain ⟨A5, c5, rfl, _⟩ := own_nil own5
            rw [hM] at own5 bx5
            have bxc5 := bx5.cell
            have Bx5 := Lib.hid bx5
            have Ow5 := Lib.hid own5
            have Hb5 := Lib.hid hb5
            have HM := Lib.hid hM
            have HMe := Lib.hid hMe
            have hLn := HLn.out
            clear bx5 own5 hb5 hM hMe
            go_wp2_with fail
            refine ⟨⟨k + 1, (L.length : Int), _, M, by omega, rfl, rfl, ?_, Bx5.out, Ow5.out, Hb5.out⟩, by simp [intOf]; omega⟩
            rw [List.take_add_one, List.getElem?_eq_getElem (show k < (d :: cs).length by simpa using hlt), List.foldl_append, HLb.out]
            have hxe : (d :: cs)[k]'(by simpa using hlt) = x := by rw [← Hx.out, List.getD_eq_getElem?_getD, List.getElem?_eq_getElem (show k < (d :: cs).length by simpa using hlt)]; rfl
            rw [hxe]
            show (L ++ [pairR b x], (L.length : Int)) = _
            rw [HMe.out]
        · have hkn : k = cs.length + 1 := by omega
          subst hkn
          have hki : ¬ ((cs.length : Int) + 1 < (cs.length : Int) + 1) := by omega
          have hL : L = cutG xs (c :: d :: cs) := by
            have := HLb.out
            rw [List.take_of_length_le (by simp)] at this
            rw [cutG, this]
          have HcG := cutG_ok (okAll_lens Hl.out) (c :: d :: cs) HPM.out
          rw [← hL] at HcG
          have hwr2 : w2.heap.size ≤ wr.heap.size := Nat.le_trans HB3.out.size Hb4.out.size
          have TR := Lib.hid (trimmed_any _ L wr (OwnRules.sl Hok.out) (by have := HcG.2; simp at this hpl; omega) HcG.1)
          have B0 : Below w.heap.size w wr := HB2.out.trans ((HB3.out.trans Hb4.out).mono (by omega))
          have hbR3 : Boxed wr (w.heap.size + 1) 28 (.slice none 0 0) := Boxed.up HBR.out (HB3.out.trans Hb4.out) (by omega)
          have HbR3 := Lib.hid hbR3
          have HB0' := Lib.hid B0
          have HL' := Lib.hid hL
          clear HcG hL B0 hbR3 cgk
          go_wp2_with fail
          (with_reducible refine TR.out.mono ?_)
          rintro e w4 ⟨hb4, v4, own4, rfl⟩
          obtain ⟨A4, c4, rfl, _⟩ := own_nil own4
          have hb9 : Boxed w4 (w.heap.size + 1) 28 (.slice none 0 0) := Boxed.up HbR3.out hb4 (by omega)
          have c9 := hb9.cell
          have f9 := hb9.frozen
          go_wp2_with fail
          refine bodyPost_ret (v := .agg #[.slice A4 (trimG L).length c4]) (by simp [results, Try.results81, go_sem, (Boxed.set (Value.slice A4 (trimG L).length c4) hb9).cell]) rfl ⟨(HB0'.out.trans (hb4.mono (by omega))).setCell (by show w.heap.size ≤ w.heap.size + 1; omega) _, _, ?_, rfl⟩
          rw [Hg.out, ← HL'.out]
          exact ownsRow_more (ownsRow_setCell_other (a := ⟨w.heap.size + 1, 0, none⟩) own4 (hb9.not_row (by decide) own4).symm _) (by omega)
end Go.Proofs.Ytoemoifeiigkoaa
