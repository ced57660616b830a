import Derived.Test.YtdacndamehiglaaGreatDoorM4
import Derived.Test.YtdacndamehiglaaGreatDoorM5
import Derived.Test.YtdacndamehiglaaGreatDoorM3
import Derived.Test.YtdacndamehiglaaGreatDoorM1
import Derived.BigQuiet
namespace Go.Proofs.YtdacndamehiglaaGreatDoor
open Go.RowKit
theorem Row.take {α : Type} {E : Enc α} {w : World} {S : Nat → Prop} {A : Option Addr} {xs : List α} (h : Row E w S A xs) (m : Nat) : Row E w S A (xs.take m) := fun hn => by
  obtain ⟨b, o, rfl, hlt, hc⟩ := h (by simp at hn; omega)
  refine ⟨b, o, rfl, hlt, fun k x hx => hc k x ?_⟩
  rw [List.getElem?_take] at hx
  split at hx
  · exact hx
  · cases hx
theorem sl_take {α : Type} {E : Enc α} {w : World} {S : Nat → Prop} {A : Option Addr} {n c : Nat} {xs : List α} (h : SlS E w S (.slice A n c) xs) {m : Nat} (hm : m ≤ xs.length) : SlS E w S (.slice A m c) (xs.take m) := by
  obtain ⟨A', c', e, h1, h2, h3⟩ := h
  injection e with e1 e2 e3
  subst e1; subst e3
  exact ⟨A, c, by rw [List.length_take, Nat.min_eq_left hm], by rw [List.length_take]; omega, h2, h3.take m⟩
theorem joinFold_len : ∀ (l : List Nat) (p : List GRule × Int), (l.foldl joinStep p).1.length = p.1.length + l.length
  | [], p => rfl
  | a :: l, p => by rw [List.foldl_cons, joinFold_len l]; simp [joinStep]; omega
theorem foldl_snoc (l s : List Nat) : l.foldl (fun s r => s ++ [r]) s = s ++ l := by
  induction l generalizing s with
  | nil => simp
  | cons a l ih => rw [List.foldl_cons, ih]; simp
set_option maxRecDepth 100000 in
set_option maxHeartbeats 4000000 in
theorem part_any (vR vL : Value) (xs : List GRule) (ls : List Int) (i j : Int) (w : World) (hR : Sl RuleE w w.heap.size vR xs) (hL : Sl IntE w w.heap.size vL ls) (hl : lens xs = some ls) (hn : xs.length ≤ 1048576) :
    Calls Tryz.prog 116 #[.agg #[vR], vL, .int .i64 i, .int .i64 j] w (GOwn (partG xs ls i j) w) := by
  have HL := Lib.hid hL
  have HR := Lib.hid hR
  obtain ⟨AR, cR, rfl, _, hmR, _⟩ := hR
  obtain ⟨AL, cL, rfl, _⟩ := hL
  unfold maxLen at hmR
  have Hl := Lib.hid hl
  clear hl
  go_enter Tryz.func116, Tryz.ntmps116
  go_wp2_with fail
  have hz0 : ((((w.alloc (Obj.cells #[Value.slice AR xs.length cR] 26)).alloc (Obj.cells #[Value.slice none 0 0] 26)).alloc (Obj.cells #[] 2)).alloc (Obj.cells #[Value.slice (some ⟨w.heap.size + 1 + 1, 0, none⟩) 0 0] 117)).heap.size = w.heap.size + 4 := by simp
  have hB0 : Below w.heap.size w ((((w.alloc (Obj.cells #[Value.slice AR xs.length cR] 26)).alloc (Obj.cells #[Value.slice none 0 0] 26)).alloc (Obj.cells #[] 2)).alloc (Obj.cells #[Value.slice (some ⟨w.heap.size + 1 + 1, 0, none⟩) 0 0] 117)) := (by repeat (first | exact Below.refl _ _ | (refine Below.alloc ?_ (by first | omega | (simp; done) | (simp; omega)) _) | refine below_drewN ?_ _ | refine Below.drew ?_))
  have hx0 : ((((w.alloc (Obj.cells #[Value.slice AR xs.length cR] 26)).alloc (Obj.cells #[Value.slice none 0 0] 26)).alloc (Obj.cells #[] 2)).alloc (Obj.cells #[Value.slice (some ⟨w.heap.size + 1 + 1, 0, none⟩) 0 0] 117)).cell? ⟨w.heap.size, 0, none⟩ = some (.slice AR xs.length cR) := by simp [go_sem]
  have hbx1 : Boxed ((((w.alloc (Obj.cells #[Value.slice AR xs.length cR] 26)).alloc (Obj.cells #[Value.slice none 0 0] 26)).alloc (Obj.cells #[] 2)).alloc (Obj.cells #[Value.slice (some ⟨w.heap.size + 1 + 1, 0, none⟩) 0 0] 117)) (w.heap.size + 1) 26 (.slice none 0 0) := by
    have := ((Boxed.new (w.alloc (Obj.cells #[Value.slice AR xs.length cR] 26)) 26 (.slice none 0 0)).alloc (Obj.cells #[] 2)).alloc (Obj.cells #[Value.slice (some ⟨w.heap.size + 1 + 1, 0, none⟩) 0 0] 117)
    rwa [show (w.alloc (Obj.cells #[Value.slice AR xs.length cR] 26)).heap.size = w.heap.size + 1 by simp] at this
  have hCJ : CJ (w.heap.size + 3) (w.heap.size + 2) (fun b => b < w.heap.size + 2) [] ((((w.alloc (Obj.cells #[Value.slice AR xs.length cR] 26)).alloc (Obj.cells #[Value.slice none 0 0] 26)).alloc (Obj.cells #[] 2)).alloc (Obj.cells #[Value.slice (some ⟨w.heap.size + 1 + 1, 0, none⟩) 0 0] 117)) := by
    refine ⟨.slice (some ⟨w.heap.size + 1 + 1, 0, none⟩) 0 0, ?_, ?_, by simp, by omega, fun g hg => ?_⟩
    · have := Boxed.new (((w.alloc (Obj.cells #[Value.slice AR xs.length cR] 26)).alloc (Obj.cells #[Value.slice none 0 0] 26)).alloc (Obj.cells #[] 2)) 117 (Value.slice (some ⟨w.heap.size + 1 + 1, 0, none⟩) 0 0)
      rwa [show (((w.alloc (Obj.cells #[Value.slice AR xs.length cR] 26)).alloc (Obj.cells #[Value.slice none 0 0] 26)).alloc (Obj.cells #[] 2)).heap.size = w.heap.size + 3 by simp] at this
    · exact (OwnInts.empty (w := (w.alloc (Obj.cells #[Value.slice AR xs.length cR] 26)).alloc (Obj.cells #[Value.slice none 0 0] 26)) (by simp) (by simp)).alloc _
    · have : w.heap.size + 1 + 1 = g := Option.some.inj hg
      omega
  generalize ((((w.alloc (Obj.cells #[Value.slice AR xs.length cR] 26)).alloc (Obj.cells #[Value.slice none 0 0] 26)).alloc (Obj.cells #[] 2)).alloc (Obj.cells #[Value.slice (some ⟨w.heap.size + 1 + 1, 0, none⟩) 0 0] 117)) = w0 at *
  have HB0 := Lib.hid hB0
  have HX0 := Lib.hid hx0
  have HBX1 := Lib.hid hbx1
  have HZ0 := Lib.hid hz0
  have HCJ := Lib.hid hCJ
  clear hB0 hx0 hbx1 hz0 hCJ
  have hpl := pieces_len Hl.out i j
  have hpm := pieces_mem Hl.out i j
  refine (pieces_any (CJ (w.heap.size + 3) (w.heap.size + 2)) (fun s r => s ++ [r]) (fun s _ => s.length ≤ 1099511627775) 152 #[.pointer (some ⟨w.heap.size + 3, 0, none⟩)] xs ls i j Hl.out (by omega) (enters_of Tryz.func152 (by kernel_rfl) rfl) (fun C s w w' hJ hb _ hC => CJ.ext C s w w' hJ hb hC)
    (fun C s r w' hJ hok hr hC => coverCl_any _ _ C s r w' hJ hok hC) (.slice AL ls.length cL) (.slice AR xs.length cR) [] (fun b => b < w.heap.size + 2) w0 HCJ.out ?_ ?_ ?_ ?_).mono ?_
  · intro l1 r l2 e
    rw [foldl_snoc, List.nil_append]
    have := congrArg List.length e
    simp at this; omega
  · intro b hb
    have := HZ0.out
    omega
  · exact ((HL.out.below HB0.out).le (by omega))
  · exact ((HR.out.below HB0.out).le (by omega))
  rintro e w2 ⟨rfl, C2, g1, g2, g3, g4⟩
  rw [foldl_snoc, List.nil_append] at g3
  obtain ⟨P, hP⟩ : ∃ P, piecesL xs ls i j = P := ⟨_, rfl⟩
  rw [hP] at g3 hpl hpm
  obtain ⟨v, hbc, hoc, _, _, hvC⟩ := g3
  obtain ⟨Ac, cc, rfl, _⟩ := own_nil hoc
  have hb2 : Below (w.heap.size + 2) w0 w2 := g4.below fun k hk => hk
  have hg : partG xs ls i j = trimG (cutG xs P) := by rw [partG, hP]
  have hz2 : w.heap.size + 4 ≤ w2.heap.size := by have := hb2.size; have := HZ0.out; omega
  have hbR : Boxed w2 (w.heap.size + 1) 26 (.slice none 0 0) := Boxed.up HBX1.out hb2 (by omega)
  have c0 := (hb2.cell (p := ⟨w.heap.size, 0, none⟩) (by show w.heap.size < w.heap.size + 2; omega)).trans HX0.out
  have HB2 := Lib.hid (HB0.out.trans (hb2.mono (by omega)))
  have HBC := Lib.hid hbc
  have HOC := Lib.hid hoc
  have Hg := Lib.hid hg
  have HPM := Lib.hid hpm
  have HBR := Lib.hid hbR
  have bxc := hbc.cell
  have fR := hbR.frozen
  have cR1 := hbR.cell
  clear g1 g2 g4 hP hbc hoc hvC hb2 hg hbR hpm
  rcases P with _ | ⟨c, _ | ⟨d, cs⟩⟩
  · replace bxc : w2.cell? ⟨w.heap.size + 3, 0, none⟩ = some (.slice Ac 0 cc) := bxc
    go_wp2_with fail
    refine bodyPost_ret (v := .agg #[.slice none 0 0]) (by simp [results, Tryz.results116, go_sem, (Boxed.set (Value.slice none 0 0) HBR.out).cell]) rfl ⟨HB2.out.setCell (by show w.heap.size ≤ w.heap.size + 1; omega) _, _, ?_, rfl⟩
    rw [Hg.out]
    exact World.ownsRow_nil _ _ _ _
  · replace bxc : w2.cell? ⟨w.heap.size + 3, 0, none⟩ = some (.slice Ac 1 cc) := bxc
    obtain ⟨g, cap, e1, hg1, hg2, hg3, hgc⟩ := OwnInts.at_ HOC.out (j := 0) (by simp [nI])
    injection e1 with e11 e12 e13
    subst e11
    have cc0 : w2.cell? ⟨g, 0, none⟩ = some (.int .i64 (c : Int)) := hgc 0 (by simp [nI])
    have hcx : c < xs.length := HPM.out c (by simp)
    have hcR : (c : Int) + 1 ≤ (cR : Int) := by omega
    have hS2 : Sl RuleE w2 w2.heap.size (.slice AR xs.length cR) xs := (HR.out.below HB2.out).le (by omega)
    have hok := okAll_take (okAll_lens Hl.out) (c + 1)
    have TR := Lib.hid (trimmed_any (.slice AR (c + 1) cR) (xs.take (c + 1)) w2.drew (SlS.keep (sl_take hS2 (m := c + 1) (by omega)) fun _ _ => rfl) (by rw [List.length_take]; omega) hok)
    have htn : ((c : Int) + 1).toNat = c + 1 := by omega
    have hwc : IntKind.i64.wrap ((c : Int) + 1) = (c : Int) + 1 := IntWalk.i64_in _ (by omega)
    have hc0 : (0 : Int) ≤ (c : Int) + 1 := by omega
    clear hgc e12 hg3 hS2 hok
    go_wp2_with fail
    go_region_law (go_simp; go_at_call 103; (with_reducible refine TR.out.mono ?_); rintro e w3 ⟨hb3, v3, own3, rfl⟩; obtain ⟨A3, c3, rfl, _⟩ := own_nil own3; have hbR3 : Boxed w3 (w.heap.size + 1) 26 (.slice none 0 0) := Boxed.up (w := w2.drew) HBR.out hb3 (by show w.heap.size + 1 < w2.heap.size; omega); have fR3 := hbR3.frozen; have cR3 := hbR3.cell)
    all_goals
      go_wp2_with fail
      refine bodyPost_ret (v := .agg #[.slice A3 (trimG (xs.take (c + 1))).length c3]) (by simp [results, Tryz.results116, go_sem, (Boxed.set (Value.slice A3 (trimG (xs.take (c + 1))).length c3) hbR3).cell]) rfl ⟨((HB2.out.trans (Below.drew (Below.refl _ _))).trans (hb3.mono (by show w.heap.size ≤ w2.heap.size; omega))).setCell (by show w.heap.size ≤ w.heap.size + 1; omega) _, _, ?_, rfl⟩
      rw [Hg.out]
      exact ownsRow_more (ownsRow_setCell_other (a := ⟨w.heap.size + 1, 0, none⟩) own3 (hbR3.not_row (by decide) own3).symm _) (by show w.heap.size ≤ w2.heap.size; omega)
  · have hln : (nI (c :: d :: cs)).length = cs.length + 2 := by simp [nI]
    rw [hln] at bxc
    obtain ⟨g, cap, e1, hg1, hg2, hg3, hgc⟩ := OwnInts.at_ HOC.out (j := 0) (by simp [nI])
    injection e1 with e11 e12 e13
    subst e11; subst e13
    rw [hln] at hg3
    have cc0 : w2.cell? ⟨g, 0, none⟩ = some (.int .i64 (c : Int)) := hgc 0 (by simp [nI])
    have hS2 : Sl RuleE w2 w2.heap.size (.slice AR xs.length cR) xs := (HR.out.below HB2.out).le (by omega)
    have cA : ∀ o, Calls Tryz.prog 61 #[.agg #[.slice AR xs.length cR]] (w2.alloc o).drew fun e w' => (∃ A1 c1, e = .returned (.agg #[.slice A1 xs.length c1]) ∧ OwnRules w' w2.heap.size (.slice A1 xs.length c1) xs ∧ Below w2.heap.size w2 w') ∧ w'.heap[w2.heap.size]? = some o :=
      fun o => (copied_any _ xs (w2.alloc o).drew ((hS2.up ((Below.refl _ _).alloc (Nat.le_refl _) o)).keep fun _ _ => rfl) (by omega)).mono fun e w' ⟨v', h1, h2, h3⟩ => by
        obtain ⟨A1, c1, rfl, _⟩ := own_nil h2
        have hsz : w2.heap.size < (w2.alloc o).drew.heap.size := by show w2.heap.size < (w2.alloc o).heap.size; simp
        exact ⟨⟨A1, c1, h1, ownsRow_more h2 (Nat.le_of_lt hsz), (Below.drew ((Below.refl w2.heap.size w2).alloc (Nat.le_refl _) o)).trans (h3.mono (Nat.le_of_lt hsz))⟩, (h3.block w2.heap.size hsz).trans (alloc_heap_last _ _)⟩
    have cB : Calls Tryz.prog 61 #[.agg #[.slice AR xs.length cR]] w2.drew fun e w' => ∃ A1 c1, e = .returned (.agg #[.slice A1 xs.length c1]) ∧ OwnRules w' w2.heap.size (.slice A1 xs.length c1) xs ∧ Below w2.heap.size w2 w' :=
      (copied_any _ xs w2.drew (hS2.keep fun _ _ => rfl) (by omega)).mono fun e w' ⟨v', h1, h2, h3⟩ => by
        obtain ⟨A1, c1, rfl, _⟩ := own_nil h2
        exact ⟨A1, c1, h1, h2, (Below.drew (Below.refl w2.heap.size w2)).trans h3⟩
    have CA := Lib.hid cA
    have CB := Lib.hid cB
    have Hgc := Lib.hid hgc
    have l3 : w.heap.size + 3 < w2.heap.size := by omega
    have l0 : w.heap.size < w2.heap.size := by omega
    have BXC := Lib.hid bxc
    have h02 : (0 : Int) < (cs.length : Int) + 2 := by omega
    clear cA cB hgc hln hS2 e12
    go_upto_region 8 with fail
    go_cut [10, 11] from 24 to 41 (fun p q wx => ∃ (K : Nat) (vo : Value), p = .pointer (some ⟨K, 0, none⟩) ∧ q = .int .i64 (c : Int) ∧ w2.heap.size ≤ K ∧ Boxed wx K 26 vo ∧ OwnRules wx w2.heap.size vo xs ∧ Below w2.heap.size w2 wx)
    case first =>
      go_region_law (go_simp; go_at_call 61; first
        | ((with_reducible refine (CA.out _).mono ?_); rintro e w3 ⟨⟨A1, c1, rfl, own1, hb3⟩, bx3⟩; have bxB : Boxed w3 w2.heap.size 26 (.slice none 0 0) := bx3; have hcb := bxB.cell; have hfb := bxB.frozen; have xx3 := (hb3.cell (p := ⟨w.heap.size + 3, 0, none⟩) l3).trans BXC.out; have yy3 := (hb3.cell (p := ⟨g, 0, none⟩) hg2).trans cc0; have gg3 := Nat.lt_of_lt_of_le hg2 hb3.size; have ll3 := Nat.lt_of_lt_of_le l3 hb3.size; have kk3 := (hb3.cell (p := ⟨w.heap.size, 0, none⟩) l0).trans c0; have mm3 := Nat.lt_of_lt_of_le l0 hb3.size)
        | ((with_reducible refine CB.out.mono ?_); rintro e w3 ⟨A1, c1, rfl, own1, hb3⟩; have xx3 := (hb3.cell (p := ⟨w.heap.size + 3, 0, none⟩) l3).trans BXC.out; have yy3 := (hb3.cell (p := ⟨g, 0, none⟩) hg2).trans cc0; have gg3 := Nat.lt_of_lt_of_le hg2 hb3.size; have ll3 := Nat.lt_of_lt_of_le l3 hb3.size; have kk3 := (hb3.cell (p := ⟨w.heap.size, 0, none⟩) l0).trans c0; have mm3 := Nat.lt_of_lt_of_le l0 hb3.size))
      all_goals
        go_wp2_with fail
        go_meet
        first
          | exact ⟨_, _, rfl, rfl, hb3.size, Boxed.new _ _ _, own1.alloc _, hb3.alloc hb3.size _⟩
          | exact ⟨_, _, rfl, rfl, Nat.le_refl _, Boxed.set _ bxB, ownsRow_setCell_other (a := ⟨w2.heap.size, 0, none⟩) own1 (bxB.not_row (by decide) own1).symm _, hb3.setCell (Nat.le_refl _) _⟩
    case rest =>
      revert hcut
      generalize wc = w3
      intro hcut
      obtain ⟨K, vo, rfl, rfl, hK, bx3, own3, hb3⟩ := hcut
      have c3 := (hb3.cell (p := ⟨w.heap.size + 3, 0, none⟩) l3).trans BXC.out
      have HB3 := Lib.hid hb3
      have Bx3 := Lib.hid bx3
      have Ow3 := Lib.hid own3
      have Hcs : Hid (∀ k, k < cs.length + 1 → w3.cell? ⟨g, 1 + k, none⟩ = some (.int .i64 (((d :: cs).getD k 0 : Nat) : Int))) := fun k hk => by
        rw [hb3.cell (p := ⟨g, 1 + k, none⟩) hg2, Hgc.out (1 + k) (by simp [nI]; omega)]
        have e : (nI (c :: d :: cs)).getD (1 + k) 0 = (((d :: cs).getD k 0 : Nat) : Int) := by
          rw [Nat.add_comm, nI, List.getD_eq_getElem?_getD, List.map_cons, List.getElem?_cons_succ, List.getElem?_map, List.getD_eq_getElem?_getD, List.getElem?_eq_getElem (by simp; omega)]; rfl
        rw [e]
      have hne1 : ¬ cc = 1 := by omega
      clear hb3 bx3 own3
      go_wp2_with fail
      go_loopw [11, 45] (fun q i wx => ∃ (k : Nat) (b : Int) (vo : Value) (L : List GRule), k ≤ cs.length + 1 ∧ q = .int .i64 b ∧ i = .int .i64 k ∧ ((d :: cs).take k).foldl joinStep (xs, (c : Int)) = (L, b) ∧ Boxed wx K 26 vo ∧ OwnRules wx w2.heap.size vo L ∧ Below w2.heap.size w3 wx) (fun _ i _ => cs.length + 1 - (intOf i).toNat)
      case atStart => exact ⟨0, (c : Int), vo, xs, by omega, rfl, rfl, rfl, Bx3.out, Ow3.out, Below.refl _ _⟩
      case round =>
        obtain ⟨k, b, vk, L, hk, rfl, rfl, hLb, hbk, hok, hb4⟩ := hrel
        obtain ⟨Ak, ck, rfl, _⟩ := own_nil hok
        have hLn : L.length ≤ 1099511627774 := by
          have := joinFold_len ((d :: cs).take k) (xs, (c : Int))
          rw [hLb] at this
          simp at this hpl; omega
        have Hb4 := Lib.hid hb4
        have Hbk := Lib.hid hbk
        have Hok := Lib.hid hok
        have HLb := Lib.hid hLb
        have HLn := Lib.hid hLn
        have bxk := hbk.cell
        have cgk := fun k hk => (hb4.cell (p := ⟨g, 1 + k, none⟩) hg2).trans (Hcs.out k hk)
        clear hb4 hbk hok hLb hLn
        by_cases hlt : k < cs.length + 1
        · have cg := cgk k hlt
          clear cgk
          have hki : (k : Int) < (cs.length : Int) + 1 := by omega
          obtain ⟨x, hx⟩ : ∃ x, (d :: cs).getD k 0 = x := ⟨_, rfl⟩
          rw [hx] at cg
          have Hx := Lib.hid hx
          have hcl : cs.length ≤ 2097152 := by simp at hpl; omega
          have HKw := Lib.hid (show K < wr.heap.size from Hbk.out.lt)
          have HW := Lib.hid (show w2.heap.size ≤ wr.heap.size from Nat.le_trans HB3.out.size Hb4.out.size)
          clear hx
          go_upto_region 12 with fail
          go_cut [] from 46 to 56 (fun wx => ∃ vo : Value, Boxed wx K 26 vo ∧ OwnRules wx w2.heap.size vo (L ++ [pairR b x]) ∧ Below w2.heap.size w3 wx)
          case first =>
            go_region_law (first
              | (refine step_push_rule (base := w2.heap.size) (by rfl) _ _ (by rfl) (by rfl) (by first | rfl | simp) rfl (OwnRules.below Hok.out.drew hb2) (Nat.le_trans HLn.out (by omega)) hs2 ?_; intro v5 w5 own5 hg5 hb5; have bx5 : Boxed w5 K 26 _ := Boxed.grown (Boxed.up (Boxed.mk' Hbk.out) hb2 HKw.out) (by decide) (OwnRules.below Hok.out.drew hb2) hg5; obtain ⟨A5, c5, rfl, _⟩ := own_nil own5; have hcb5 := bx5.cell; have hfb5 := bx5.frozen)
              | (go_simp; go_at_call 143; refine (pairI64_any _ _ _).mono ?_; rintro e w4 ⟨rfl, hb2⟩; have bx2 := Boxed.up (Boxed.mk' Hbk.out) hb2 HKw.out; have hcb2 := bx2.cell; have hfb2 := bx2.frozen; have hlb2 := bx2.lt; have hs2 : w2.heap.size ≤ w4.heap.size := Nat.le_trans HW.out hb2.size))
            all_goals
              go_wp2_with fail
              go_meet
              have e9 : (L ++ [pairR b x]).length = L.length + 1 := by simp
              have own9 : OwnRules w5 w2.heap.size (.slice A5 (L.length + 1) c5) (L ++ [pairR b x]) := by rw [← e9]; exact own5
              exact ⟨_, Boxed.set _ bx5, ownsRow_setCell_other (a := ⟨K, 0, none⟩) own9 (bx5.not_row (by decide) own9).symm _, ((((Below.drew Hb4.out).trans (hb2.mono HW.out)).alloc hs2 _).trans hb5).setCell hK _⟩
          case rest =>
            revert hcut
            generalize wc = w5
            intro hcut
            obtain ⟨v5, bx5, own5, hb5⟩ := hcut
            have hM : (L ++ [pairR b x]).length = L.length + 1 := by simp
            obtain ⟨M, hMe⟩ : ∃ M, L ++ [pairR b x] = M := ⟨_, rfl⟩
            rw [hMe] at own5 hM
            obtain ⟨A5, c5, rfl, _⟩ := own_nil own5
            rw [hM] at own5 bx5
            have bxc5 := bx5.cell
            have Bx5 := Lib.hid bx5
            have Ow5 := Lib.hid own5
            have Hb5 := Lib.hid hb5
            have HM := Lib.hid hM
            have HMe := Lib.hid hMe
            have hLn := HLn.out
            clear bx5 own5 hb5 hM hMe
            go_wp2_with fail
            refine ⟨⟨k + 1, (L.length : Int), _, M, by omega, rfl, rfl, ?_, Bx5.out, Ow5.out, Hb5.out⟩, by simp [intOf]; omega⟩
            rw [List.take_add_one, List.getElem?_eq_getElem (show k < (d :: cs).length by simpa using hlt), List.foldl_append, HLb.out]
            have hxe : (d :: cs)[k]'(by simpa using hlt) = x := by rw [← Hx.out, List.getD_eq_getElem?_getD, List.getElem?_eq_getElem (show k < (d :: cs).length by simpa using hlt)]; rfl
            rw [hxe]
            show (L ++ [pairR b x], (L.length : Int)) = _
            rw [HMe.out]
        · have hkn : k = cs.length + 1 := by omega
          subst hkn
          have hki : ¬ ((cs.length : Int) + 1 < (cs.length : Int) + 1) := by omega
          have hL : L = cutG xs (c :: d :: cs) := by
            have := HLb.out
            rw [List.take_of_length_le (by simp)] at this
            rw [cutG, this]
          have HcG := cutG_ok (okAll_lens Hl.out) (c :: d :: cs) HPM.out
          rw [← hL] at HcG
          have hwr2 : w2.heap.size ≤ wr.heap.size := Nat.le_trans HB3.out.size Hb4.out.size
          have TR := Lib.hid (trimmed_any _ L wr (OwnRules.sl Hok.out) (by have := HcG.2; simp at this hpl; omega) HcG.1)
          have B0 : Below w.heap.size w wr := HB2.out.trans ((HB3.out.trans Hb4.out).mono (by omega))
          have hbR3 : Boxed wr (w.heap.size + 1) 26 (.slice none 0 0) := Boxed.up HBR.out (HB3.out.trans Hb4.out) (by omega)
          have HbR3 := Lib.hid hbR3
          have HB0' := Lib.hid B0
          have HL' := Lib.hid hL
          clear HcG hL B0 hbR3 cgk
          go_wp2_with fail
          (with_reducible refine TR.out.mono ?_)
          rintro e w4 ⟨hb4, v4, own4, rfl⟩
          obtain ⟨A4, c4, rfl, _⟩ := own_nil own4
          have hb9 : Boxed w4 (w.heap.size + 1) 26 (.slice none 0 0) := Boxed.up HbR3.out hb4 (by omega)
          have c9 := hb9.cell
          have f9 := hb9.frozen
          go_wp2_with fail
          refine bodyPost_ret (v := .agg #[.slice A4 (trimG L).length c4]) (by simp [results, Tryz.results116, go_sem, (Boxed.set (Value.slice A4 (trimG L).length c4) hb9).cell]) rfl ⟨(HB0'.out.trans (hb4.mono (by omega))).setCell (by show w.heap.size ≤ w.heap.size + 1; omega) _, _, ?_, rfl⟩
          rw [Hg.out, ← HL'.out]
          exact ownsRow_more (ownsRow_setCell_other (a := ⟨w.heap.size + 1, 0, none⟩) own4 (hb9.not_row (by decide) own4).symm _) (by omega)
theorem idxOf_le_of {K : List GRule} {j : Nat} {y : GRule} (h : K[j]? = some y) : K.idxOf y ≤ j := by
  induction K generalizing j with
  | nil => simp at h
  | cons a K ih =>
    rw [List.idxOf_cons]
    by_cases he : a = y
    · simp [he]
    · cases j with
      | zero => simp at h; exact absurd h he
      | succ j =>
        have := ih (j := j) (by simpa using h)
        have e : (a == y) = false := by simpa using he
        rw [e]
        simp; omega
theorem idxOf_at {K : List GRule} {y : GRule} (h : y ∈ K) : K[K.idxOf y]? = some y := by
  induction K with
  | nil => simp at h
  | cons a K ih =>
    rw [List.idxOf_cons]
    by_cases he : a = y
    · simp [he]
    · have e : (a == y) = false := by simpa using he
      rw [e]
      simp only [cond_false, List.getElem?_cons_succ]
      exact ih (by simpa [Ne.symm he] using h)
theorem rule_ne {y X : GRule} (h : ¬ y = X) : (y.letter.toList == X.letter.toList) = false ∨ (y.letter = X.letter ∧ (y.left == X.left) = false) ∨ (y.letter = X.letter ∧ y.left = X.left ∧ (y.right == X.right) = false) := by
  by_cases h1 : y.letter = X.letter
  · by_cases h2 : y.left = X.left
    · refine .inr (.inr ⟨h1, h2, ?_⟩)
      rw [beq_eq_false_iff_ne]
      intro h3
      cases y; cases X; simp at h1 h2 h3; subst h1 h2 h3; exact h rfl
    · exact .inr (.inl ⟨h1, by rw [beq_eq_false_iff_ne]; exact h2⟩)
  · refine .inl ?_
    rw [beq_eq_false_iff_ne]
    intro e
    have := beq_toListBytes y.letter X.letter
    rw [e] at this
    simp at this
    exact h1 (ByteArray.ext (eq_of_beq this))
theorem keep_rules {W w' : World} {base : Nat} {v vs : Value} {L : List GRule} {S : List Int} {o : Obj} (ho : OwnRules W base v L) (hi : OwnInts W base vs S) (hg : (W.alloc o).grownBy w' vs.ownBlock) : OwnRules w' base v L :=
  own_keep (ho.alloc o) fun g hgg => hg.block g (World.ownsRow.lt (ho.alloc o) g hgg).2 (own_apart (ho.alloc o) (hi.alloc o) (by decide) g hgg)
theorem keep_ints {W w' : World} {base : Nat} {v vs : Value} {L : List GRule} {S : List Int} {o : Obj} (hi : OwnInts W base vs S) (ho : OwnRules W base v L) (hg : (W.alloc o).grownBy w' v.ownBlock) : OwnInts w' base vs S :=
  own_keep (hi.alloc o) fun g hgg => hg.block g (World.ownsRow.lt (hi.alloc o) g hgg).2 (own_apart (hi.alloc o) (ho.alloc o) (by decide) g hgg)
def wordR (xs : List GRule) : Nat → Nat → List UInt8
  | 0, _ => []
  | f + 1, r => if (getR xs r).pair then wordR xs f (getR xs r).left.toNat ++ wordR xs f (getR xs r).right.toNat else (getR xs r).letter.data.toList
def W1 (xs : List GRule) (r : Nat) : List UInt8 := wordR xs (r + 1) r
def wordG (xs : List GRule) : List UInt8 := if xs = [] then [] else W1 xs (xs.length - 1)
def cutL {α : Type} (l : List α) (i j : Int) : List α := (l.take j.toNat).drop i.toNat
theorem wordR_fuel {xs : List GRule} {ls : List Int} (h : lens xs = some ls) : ∀ (f r : Nat), r < f → r < xs.length → wordR xs f r = W1 xs r := by
  intro f
  induction f using Nat.strongRecOn with
  | _ f ih =>
    intro r hr hx
    obtain ⟨g, rfl⟩ : ∃ g, f = g + 1 := ⟨f - 1, by omega⟩
    unfold W1
    rw [wordR, wordR]
    cases hp : (getR xs r).pair with
    | false => rfl
    | true =>
      obtain ⟨q1, q2, q3, q4, q5⟩ := lens_pair h hx hp
      rw [if_pos rfl, if_pos rfl, ih g (by omega) _ (by omega) (by omega), ih g (by omega) _ (by omega) (by omega)]
      by_cases e : r = g
      · subst e
        rw [ih r (by omega) _ (by omega) (by omega), ih r (by omega) _ (by omega) (by omega)]
      · rw [ih r (by omega) _ q2 (by omega), ih r (by omega) _ q4 (by omega)]
theorem W1_pair {xs : List GRule} {ls : List Int} (h : lens xs = some ls) {r : Nat} (hx : r < xs.length) (hp : (getR xs r).pair = true) : W1 xs r = W1 xs (getR xs r).left.toNat ++ W1 xs (getR xs r).right.toNat := by
  obtain ⟨q1, q2, q3, q4, q5⟩ := lens_pair h hx hp
  rw [W1, wordR, if_pos hp, wordR_fuel h r _ q2 (by omega), wordR_fuel h r _ q4 (by omega)]
theorem W1_let {xs : List GRule} {r : Nat} (hp : (getR xs r).pair = false) : W1 xs r = (getR xs r).letter.data.toList := by
  rw [W1, wordR, if_neg (by simp [hp])]
theorem lens_isLet {xs : List GRule} {ls : List Int} (h : lens xs = some ls) {r : Nat} (hx : r < xs.length) (hp : (getR xs r).pair = false) : isLet (getR xs r).letter = true := by
  have h1 := (lens_steps h r _ (getR_at hx)).1
  unfold okRule at h1
  rw [if_neg (by simp [hp])] at h1
  simp at h1; exact h1.1.1
theorem isLet_size {s : ByteArray} (h : isLet s = true) : s.size = 1 := by unfold isLet at h; simp at h; exact h.1.1
theorem W1_len {xs : List GRule} {ls : List Int} (h : lens xs = some ls) : ∀ (r : Nat), r < xs.length → ((W1 xs r).length : Int) = ls.getD r 0 := by
  intro r
  induction r using Nat.strongRecOn with
  | _ r ih =>
    intro hx
    cases hp : (getR xs r).pair with
    | false =>
      rw [W1_let hp, lens_letter h hx hp]
      have := isLet_size (lens_isLet h hx hp)
      show (((getR xs r).letter.data.toList.length : Nat) : Int) = 1
      rw [Array.length_toList]
      exact congrArg _ this
    | true =>
      obtain ⟨q1, q2, q3, q4, q5⟩ := lens_pair h hx hp
      rw [W1_pair h hx hp, List.length_append, q5, ← ih _ q2 (by omega), ← ih _ q4 (by omega)]
      omega
theorem cutL_append {α : Type} (a b : List α) (i j : Int) : cutL (a ++ b) i j = cutL a i j ++ cutL b (i - a.length) (j - a.length) := by
  unfold cutL
  rw [List.take_append, List.drop_append]
  have e1 : (j - (a.length : Int)).toNat = j.toNat - a.length := by omega
  have e2 : (i - (a.length : Int)).toNat = i.toNat - a.length := by omega
  rw [e1, e2, List.length_take]
  congr 1
  by_cases hj : j.toNat ≤ a.length
  · have : List.take (j.toNat - a.length) b = [] := by rw [show j.toNat - a.length = 0 by omega]; rfl
    rw [this]; simp
  · rw [show min j.toNat a.length = a.length by omega]
theorem cutL_nil {α : Type} {l : List α} {i j : Int} (h : (l.length : Int) ≤ i ∨ j ≤ 0 ∨ j ≤ i) : cutL l i j = [] := by
  unfold cutL
  apply List.drop_eq_nil_of_le
  rw [List.length_take]; omega
theorem cutL_all {α : Type} {l : List α} {i j : Int} (hi : i ≤ 0) (hj : (l.length : Int) ≤ j) : cutL l i j = l := by
  unfold cutL
  rw [show i.toNat = 0 by omega, List.drop_zero, List.take_of_length_le (by omega)]
theorem cutL_len {α : Type} {l : List α} {i j : Int} (hi : 0 ≤ i) (hij : i ≤ j) (hj : j ≤ l.length) : ((cutL l i j).length : Int) = j - i := by
  unfold cutL
  rw [List.length_drop, List.length_take]; omega
theorem cover_word {xs : List GRule} {ls : List Int} (h : lens xs = some ls) {i j : Int} : ∀ (f r : Nat) (p : Int), r < f → r < xs.length →
    (coverR xs ls i j f r p).flatMap (W1 xs) = cutL (W1 xs r) (i - p) (j - p) := by
  intro f
  induction f with
  | zero => intro r p hr; omega
  | succ f ih =>
    intro r p hr hx
    have hw := W1_len h r hx
    have h1 := lens_pos' h hx
    rw [coverR]
    split
    · rename_i c; rw [cutL_nil (by omega)]; rfl
    split
    · rename_i c; rw [cutL_all (by omega) (by omega)]; simp
    rename_i c1 c2
    cases hp : (getR xs r).pair with
    | false => have := lens_letter h hx hp; omega
    | true =>
      obtain ⟨q1, q2, q3, q4, q5⟩ := lens_pair h hx hp
      rw [List.flatMap_append, ih _ _ (by omega) (by omega), ih _ _ (by omega) (by omega), W1_pair h hx hp, cutL_append, W1_len h _ (by omega)]
      congr 2 <;> omega
theorem wordG_pos {xs : List GRule} (h : 0 < xs.length) : wordG xs = W1 xs (xs.length - 1) := by
  rw [wordG, if_neg (by intro e; subst e; simp at h)]
theorem lastI_at {xs : List GRule} {ls : List Int} (h : lens xs = some ls) (_h0 : 0 < xs.length) : lastI ls = ls.getD (xs.length - 1) 0 := by
  rw [lastI, lens_length h]
theorem wordG_len {xs : List GRule} {ls : List Int} (h : lens xs = some ls) : ((wordG xs).length : Int) = lastI ls := by
  by_cases h0 : 0 < xs.length
  · rw [wordG_pos h0, W1_len h _ (by omega), lastI_at h h0]
  · have hx : xs = [] := List.eq_nil_of_length_eq_zero (by omega)
    subst hx
    have : ls = [] := List.eq_nil_of_length_eq_zero (by rw [lens_length h]; rfl)
    subst this; rfl
theorem pieces_word {xs : List GRule} {ls : List Int} (h : lens xs = some ls) {i j : Int} : (piecesL xs ls i j).flatMap (W1 xs) = cutL (wordG xs) i j := by
  unfold piecesL
  split
  · rename_i c
    rw [cover_word h _ _ _ (by omega) (by omega), wordG_pos c.1, Int.sub_zero, Int.sub_zero]
  · rename_i c
    by_cases h0 : 0 < xs.length
    · rw [cutL_nil (by omega)]; rfl
    · have hx : xs = [] := List.eq_nil_of_length_eq_zero (by omega)
      subst hx
      simp [wordG, cutL]
theorem okA_at {xs : List GRule} (h : OkAll xs) {r : Nat} (hx : r < xs.length) (hp : (getR xs r).pair = true) :
    0 ≤ (getR xs r).left ∧ (getR xs r).left.toNat < r ∧ 0 ≤ (getR xs r).right ∧ (getR xs r).right.toNat < r := okRule_at (h r _ (getR_at hx)) hp
theorem wordR_fuelA {xs : List GRule} (h : OkAll xs) : ∀ (f r : Nat), r < f → r < xs.length → wordR xs f r = W1 xs r := by
  intro f
  induction f using Nat.strongRecOn with
  | _ f ih =>
    intro r hr hx
    obtain ⟨g, rfl⟩ : ∃ g, f = g + 1 := ⟨f - 1, by omega⟩
    unfold W1
    rw [wordR, wordR]
    cases hp : (getR xs r).pair with
    | false => rfl
    | true =>
      obtain ⟨q1, q2, q3, q4⟩ := okA_at h hx hp
      rw [if_pos rfl, if_pos rfl, ih g (by omega) _ (by omega) (by omega), ih g (by omega) _ (by omega) (by omega)]
      by_cases e : r = g
      · subst e
        rw [ih r (by omega) _ (by omega) (by omega), ih r (by omega) _ (by omega) (by omega)]
      · rw [ih r (by omega) _ q2 (by omega), ih r (by omega) _ q4 (by omega)]
theorem W1_pairA {xs : List GRule} (h : OkAll xs) {r : Nat} (hx : r < xs.length) (hp : (getR xs r).pair = true) : W1 xs r = W1 xs (getR xs r).left.toNat ++ W1 xs (getR xs r).right.toNat := by
  obtain ⟨q1, q2, q3, q4⟩ := okA_at h hx hp
  rw [W1, wordR, if_pos hp, wordR_fuelA h r _ q2 (by omega), wordR_fuelA h r _ q4 (by omega)]
theorem W1_same {xs : List GRule} (h : OkAll xs) {i j : Nat} (hi : i < xs.length) (hj : j < xs.length) (e : getR xs i = getR xs j) : W1 xs i = W1 xs j := by
  cases hp : (getR xs i).pair with
  | true => rw [W1_pairA h hi hp, W1_pairA h hj (by rw [← e]; exact hp), e]
  | false => rw [W1_let hp, W1_let (by rw [← e]; exact hp), e]
theorem W1_app {xs ys : List GRule} (h : OkAll xs) (h' : OkAll (xs ++ ys)) : ∀ (r : Nat), r < xs.length → W1 (xs ++ ys) r = W1 xs r := by
  intro r
  induction r using Nat.strongRecOn with
  | _ r ih =>
    intro hx
    have e : getR (xs ++ ys) r = getR xs r := getR_append hx
    cases hp : (getR xs r).pair with
    | true =>
      obtain ⟨q1, q2, q3, q4⟩ := okA_at h hx hp
      rw [W1_pairA h hx hp, W1_pairA h' (by simp; omega) (by rw [e]; exact hp), e, ih _ q2 (by omega), ih _ q4 (by omega)]
    | false => rw [W1_let hp, W1_let (by rw [e]; exact hp), e]
theorem W1_let1 {xs : List GRule} (h : OkAll xs) {r : Nat} (hx : r < xs.length) (hp : (getR xs r).pair = false) : (W1 xs r).length = 1 := by
  rw [W1_let hp]
  have := (okRule_let (h r _ (getR_at hx)) hp).1
  rw [Array.length_toList]; exact this
theorem lens_ofA {xs : List GRule} (h : OkAll xs) (hm : ∀ r, r < xs.length → ((W1 xs r).length : Int) ≤ maxL) : ∃ ls, lens xs = some ls := by
  suffices H : ∀ k, k ≤ xs.length → ∃ out, lens (xs.take k) = some out ∧ out.length = k ∧ ∀ r, r < k → out.getD r 0 = ((W1 xs r).length : Int) by
    obtain ⟨out, h1, _⟩ := H xs.length (Nat.le_refl _)
    rw [List.take_length] at h1
    exact ⟨out, h1⟩
  intro k
  induction k with
  | zero => intro _; exact ⟨[], rfl, rfl, fun r hr => absurd hr (by omega)⟩
  | succ k ih =>
    intro hk
    obtain ⟨out, h1, h2, h3⟩ := ih (by omega)
    have hr := getR_at (xs := xs) (r := k) (by omega)
    have hok := h k _ hr
    have hlen : ruleLen out (getR xs k) = ((W1 xs k).length : Int) := by
      unfold ruleLen
      cases hp : (getR xs k).pair with
      | true =>
        obtain ⟨q1, q2, q3, q4⟩ := okA_at h (by omega) hp
        rw [if_pos rfl, h3 _ q2, h3 _ q4, W1_pairA h (by omega) hp, List.length_append]; omega
      | false => rw [if_neg (by simp), W1_let1 h (by omega) hp]; rfl
    have := hm k (by omega)
    refine ⟨_, lens_next h1 hr (by rw [h2]; exact hok) (by rw [hlen]; exact this), by simp [h2], fun r hr => ?_⟩
    rcases Nat.lt_or_ge r k with hlt | hge
    · rw [getI_append (by omega)]; exact h3 r hlt
    · have : r = out.length := by omega
      subst this
      rw [getI_last, hlen, h2]
theorem lens_W1 {xs : List GRule} {ls : List Int} (h : lens xs = some ls) {r : Nat} (hx : r < xs.length) : ((W1 xs r).length : Int) ≤ maxL := by
  rw [W1_len h r hx, List.getD_eq_getElem?_getD, List.getElem?_eq_getElem (by rw [lens_length h]; exact hx)]
  exact (lens_pos h _ (List.getElem_mem _)).2
theorem trimR_more {S : List Int} {x : Int} {r : GRule} (h : r.pair = true → r.left.toNat < S.length ∧ r.right.toNat < S.length) : trimR (S ++ [x]) r = trimR S r := by
  cases hp : r.pair with
  | true => rw [trimR_pair hp, trimR_pair hp, getI_append (h hp).1, getI_append (h hp).2]
  | false => rw [trimR_let hp, trimR_let hp]
theorem canon_get {xs : List GRule} (h : OkAll xs) : ∀ k, k ≤ xs.length → ∀ i, i < k → getR (canon (xs.take k)).1 i = trimR (canon (xs.take k)).2 (getR xs i) := by
  intro k
  induction k with
  | zero => intro _ i hi; omega
  | succ k ih =>
    intro hk i hi
    have H := ih (by omega)
    have C := canon_ok h k (by omega)
    have hr := getR_at (xs := xs) (r := k) (by omega)
    rw [canon_snoc hr]
    obtain ⟨K, S, hp⟩ : ∃ K S, canon (xs.take k) = (K, S) := ⟨_, _, rfl⟩
    rw [hp] at H C ⊢
    have l1 : K.length = k := C.l1
    have l2 : S.length = k := C.l2
    show getR (K ++ [trimR S (getR xs k)]) i = trimR (S ++ [((K.idxOf (trimR S (getR xs k)) : Nat) : Int)]) (getR xs i)
    rw [trimR_more (fun hpr => by
      obtain ⟨q1, q2, q3, q4⟩ := okA_at h (show i < xs.length by omega) hpr
      omega)]
    rcases Nat.lt_or_ge i k with hlt | hge
    · rw [getR_append (by omega)]; exact H i hlt
    · have : i = K.length := by omega
      subst this
      rw [getR_last, l1]
theorem canon_word {xs : List GRule} (h : OkAll xs) : ∀ i, i < xs.length → W1 (canon xs).1 i = W1 xs i := by
  have C := canon_all h
  have G := canon_get h xs.length (Nat.le_refl _)
  rw [List.take_length] at G
  obtain ⟨K, S, hp⟩ : ∃ K S, canon xs = (K, S) := ⟨_, _, rfl⟩
  rw [hp] at C G ⊢
  have l1 : K.length = xs.length := C.l1
  have cok : OkAll K := C.ok
  intro i
  induction i using Nat.strongRecOn with
  | _ i ih =>
    intro hi
    show W1 K i = W1 xs i
    have e : getR K i = trimR S (getR xs i) := G i hi
    cases hpr : (getR xs i).pair with
    | true =>
      obtain ⟨q1, q2, q3, q4⟩ := okA_at h hi hpr
      rw [trimR_pair hpr] at e
      have key : ∀ j, j < i → (S.getD j 0).toNat < K.length ∧ W1 K (S.getD j 0).toNat = W1 xs j := by
        intro j hj
        have h1 : S.getD j 0 = ((K.idxOf (getR K j) : Nat) : Int) := C.idx j (by omega)
        have hm : getR K j ∈ K := getR_mem (by omega)
        have hlt : K.idxOf (getR K j) < K.length := List.idxOf_lt_length_iff.2 hm
        rw [h1, Int.toNat_natCast]
        refine ⟨hlt, ?_⟩
        rw [← ih j hj (by omega)]
        refine W1_same cok hlt (by omega) ?_
        exact (getR_some (List.getElem?_eq_getElem hlt)).trans (List.getElem_idxOf hlt)
      have hpk : (getR K i).pair = true := by rw [e]; rfl
      rw [W1_pairA cok (by omega) hpk, W1_pairA h hi hpr, e]
      show W1 K (S.getD (getR xs i).left.toNat 0).toNat ++ W1 K (S.getD (getR xs i).right.toNat 0).toNat = _
      rw [(key _ q2).2, (key _ q4).2]
    | false =>
      rw [trimR_let hpr] at e
      rw [W1_let (by rw [e]; exact hpr), W1_let hpr, e]
theorem set_true {l : List Bool} {i x : Nat} (h : l.getD x false = true) : (l.set i true).getD x false = true := by
  rw [List.getD_eq_getElem?_getD, List.getElem?_set]
  split
  · split
    · rfl
    · rename_i h1 h2; subst h1
      rw [List.getD_eq_getElem?_getD, List.getElem?_eq_none (by omega)] at h; simp at h
  · rw [← List.getD_eq_getElem?_getD]; exact h
theorem set_at {l : List Bool} {i : Nat} (h : i < l.length) : (l.set i true).getD i false = true := by
  rw [List.getD_eq_getElem?_getD, List.getElem?_set, if_pos rfl, if_pos h]; rfl
theorem set_ne {α : Type} {l : List α} {i x : Nat} {v d : α} (h : i ≠ x) : (l.set i v).getD x d = l.getD x d := by
  rw [List.getD_eq_getElem?_getD, List.getElem?_set, if_neg h, ← List.getD_eq_getElem?_getD]
theorem needStep_true {ks : List GRule} {l : List Bool} {i x : Nat} (h : l.getD x false = true) : (needStep ks l i).getD x false = true := by
  unfold needStep; split
  · exact set_true (set_true h)
  · exact h
theorem needDown_true {ks : List GRule} : ∀ (i : Nat) {l : List Bool} {x : Nat}, l.getD x false = true → (needDown ks i l).getD x false = true
  | 0, _, _, h => h
  | i + 1, _, _, h => needDown_true i (needStep_true h)
theorem needStep_above {ks : List GRule} (hk : OkAll ks) {l : List Bool} {i x : Nat} (hi : i < ks.length) (h : i ≤ x) : (needStep ks l i).getD x false = l.getD x false := by
  unfold needStep; split
  · rename_i c
    simp only [Bool.and_eq_true] at c
    obtain ⟨q1, q2, q3, q4⟩ := okA_at hk hi c.2
    rw [set_ne (by omega), set_ne (by omega)]
  · rfl
theorem needDown_above {ks : List GRule} (hk : OkAll ks) : ∀ (i : Nat) {l : List Bool} {x : Nat}, i ≤ ks.length → i ≤ x → (needDown ks i l).getD x false = l.getD x false
  | 0, _, _, _, _ => rfl
  | i + 1, l, x, hi, h => by rw [needDown, needDown_above hk i (by omega) (by omega), needStep_above hk (by omega) (by omega)]
theorem needDown_closed {ks : List GRule} (hk : OkAll ks) : ∀ (i : Nat) {l : List Bool} {x : Nat}, i ≤ ks.length → l.length = ks.length → x < i → (needDown ks i l).getD x false = true → (getR ks x).pair = true →
    (needDown ks i l).getD (getR ks x).left.toNat false = true ∧ (needDown ks i l).getD (getR ks x).right.toNat false = true
  | 0, _, _, _, _, hx, _, _ => by omega
  | i + 1, l, x, hi, hl, hx, h, hp => by
    rw [needDown] at h ⊢
    rcases Nat.lt_or_ge x i with hlt | hge
    · exact needDown_closed hk i (by omega) (by rw [needStep_len]; exact hl) hlt h hp
    · have : x = i := by omega
      subst this
      rw [needDown_above hk x (by omega) (Nat.le_refl _), needStep_above hk (by omega) (Nat.le_refl _)] at h
      obtain ⟨q1, q2, q3, q4⟩ := okA_at hk (by omega) hp
      have e : needStep ks l x = (l.set (getR ks x).left.toNat true).set (getR ks x).right.toNat true := by
        unfold needStep; rw [if_pos (by rw [h, hp]; rfl)]
      rw [e]
      exact ⟨needDown_true _ (set_true (set_at (by omega))), needDown_true _ (set_at (by simp; omega))⟩
theorem needDown_most {ks : List GRule} (hk : OkAll ks) {m : Nat} : ∀ (i : Nat) {l : List Bool}, i ≤ ks.length → (∀ x, l.getD x false = true → x ≤ m) → ∀ x, (needDown ks i l).getD x false = true → x ≤ m
  | 0, _, _, h, x, hx => h x hx
  | i + 1, l, hi, h, x, hx => by
    rw [needDown] at hx
    refine needDown_most hk i (by omega) (fun y hy => ?_) x hx
    unfold needStep at hy
    split at hy
    · rename_i c
      simp only [Bool.and_eq_true] at c
      obtain ⟨q1, q2, q3, q4⟩ := okA_at hk (show i < ks.length by omega) c.2
      have hm := h i c.1
      by_cases e1 : (getR ks i).right.toNat = y
      · omega
      · rw [set_ne e1] at hy
        by_cases e2 : (getR ks i).left.toNat = y
        · omega
        · rw [set_ne e2] at hy; exact h y hy
    · exact h y hy
structure OutOk (xs ks : List GRule) (need : List Bool) (k : Nat) (p : List GRule × List Int) : Prop where
  l2 : p.2.length = xs.length
  pos : ∀ i, i < k → need.getD i false = true → 0 ≤ p.2.getD i 0 ∧ (p.2.getD i 0).toNat < p.1.length
  ok : OkAll p.1
  word : ∀ i, i < k → need.getD i false = true → W1 p.1 (p.2.getD i 0).toNat = W1 ks i
  from_ : ∀ a, a < p.1.length → ∃ i, i < k ∧ need.getD i false = true ∧ (p.2.getD i 0).toNat = a
theorem out_ok {xs : List GRule} (h : OkAll xs) (hcl : ∀ x, x < xs.length → (needL xs).getD x false = true → (getR (canon xs).1 x).pair = true → (needL xs).getD (getR (canon xs).1 x).left.toNat false = true ∧ (needL xs).getD (getR (canon xs).1 x).right.toNat false = true) :
    ∀ k, k ≤ xs.length → OutOk xs (canon xs).1 (needL xs) k (trimO xs k) := by
  have C := canon_all h
  obtain ⟨K, hK⟩ : ∃ K, (canon xs).1 = K := ⟨_, rfl⟩
  have cok : OkAll K := hK ▸ C.ok
  have cl1 : K.length = xs.length := hK ▸ C.l1
  rw [hK] at hcl ⊢
  intro k
  induction k with
  | zero => intro _; exact ⟨by simp [trimO], fun i hi => absurd hi (by omega), fun k r hk => by simp [trimO] at hk, fun i hi => absurd hi (by omega), fun a ha => by simp [trimO] at ha⟩
  | succ k ih =>
    intro hk
    have H := ih (by omega)
    rw [trimO_succ, hK]
    obtain ⟨O, M, hp⟩ : ∃ O M, trimO xs k = (O, M) := ⟨_, _, rfl⟩
    rw [hp] at H ⊢
    have l2 : M.length = xs.length := H.l2
    unfold outStep
    by_cases hn : (needL xs).getD k false = true
    · rw [if_pos hn]
      obtain ⟨X, hX⟩ : ∃ X, trimR M (getR K k) = X := ⟨_, rfl⟩
      show OutOk xs K (needL xs) (k + 1) (O ++ [trimR M (getR K k)], M.set k (O.length : Int))
      have hkk : k < K.length := by omega
      have hXok : okRule O.length X = true := by
        rw [← hX]
        cases hpr : (getR K k).pair with
        | true =>
          obtain ⟨q1, q2, q3, q4⟩ := okA_at cok hkk hpr
          obtain ⟨c1, c2⟩ := hcl k (by omega) hn hpr
          obtain ⟨a1, a2⟩ := H.pos _ q2 c1
          obtain ⟨a3, a4⟩ := H.pos _ q4 c2
          rw [trimR_pair hpr]
          have a1' : 0 ≤ M.getD (getR K k).left.toNat 0 := a1
          have a2' : (M.getD (getR K k).left.toNat 0).toNat < O.length := a2
          have a3' : 0 ≤ M.getD (getR K k).right.toNat 0 := a3
          have a4' : (M.getD (getR K k).right.toNat 0).toNat < O.length := a4
          exact okRule_pair ⟨a1', by omega⟩ ⟨a3', by omega⟩
        | false =>
          rw [trimR_let hpr]
          have h1 := cok k _ (getR_at hkk)
          unfold okRule at h1 ⊢
          rw [if_neg (by simp [hpr])] at h1 ⊢
          exact h1
      rw [hX]
      have hO : OkAll O := H.ok
      have hO2 : OkAll (O ++ [X]) := hO.snoc hXok
      have hold : ∀ i, i < k → (M.set k (O.length : Int)).getD i 0 = M.getD i 0 := fun i hi => set_ne (by omega)
      have hnew : (M.set k (O.length : Int)).getD k 0 = (O.length : Int) := by
        rw [List.getD_eq_getElem?_getD, List.getElem?_set, if_pos rfl, if_pos (by omega)]; rfl
      refine ⟨by simp [l2], ?_, hO2, ?_, ?_⟩
      · intro i hi hni
        show 0 ≤ (M.set k (O.length : Int)).getD i 0 ∧ ((M.set k (O.length : Int)).getD i 0).toNat < (O ++ [X]).length
        rcases Nat.lt_or_ge i k with hlt | hge
        · rw [hold i hlt, List.length_append]
          have := H.pos i hlt hni
          exact ⟨this.1, Nat.lt_of_lt_of_le this.2 (Nat.le_add_right _ _)⟩
        · have : i = k := by omega
          subst this
          rw [hnew]; simp
      · intro i hi hni
        show W1 (O ++ [X]) ((M.set k (O.length : Int)).getD i 0).toNat = W1 K i
        rcases Nat.lt_or_ge i k with hlt | hge
        · rw [hold i hlt, W1_app hO hO2 _ (H.pos i hlt hni).2]
          exact H.word i hlt hni
        · have : i = k := by omega
          subst this
          rw [hnew, Int.toNat_natCast]
          have eX : getR (O ++ [X]) O.length = X := getR_last _ _
          cases hpr : (getR K i).pair with
          | true =>
            obtain ⟨q1, q2, q3, q4⟩ := okA_at cok hkk hpr
            obtain ⟨c1, c2⟩ := hcl i (by omega) hn hpr
            have hXp : X = pairR (M.getD (getR K i).left.toNat 0) (M.getD (getR K i).right.toNat 0) := by rw [← hX, trimR_pair hpr]
            rw [W1_pairA hO2 (by simp) (by rw [eX, hXp]; rfl), eX, hXp]
            show W1 _ (M.getD (getR K i).left.toNat 0).toNat ++ W1 _ (M.getD (getR K i).right.toNat 0).toNat = _
            rw [← hXp, W1_app hO hO2 _ (H.pos _ q2 c1).2, W1_app hO hO2 _ (H.pos _ q4 c2).2, W1_pairA cok hkk hpr]
            have w1 := H.word _ q2 c1
            have w2 := H.word _ q4 c2
            show W1 O _ ++ W1 O _ = _
            rw [← w1, ← w2]
          | false =>
            have hXl : X = getR K i := by rw [← hX, trimR_let hpr]
            rw [W1_let (by rw [eX, hXl]; exact hpr), eX, hXl, W1_let hpr]
      · intro a ha
        rcases Nat.lt_or_ge a O.length with hlt | hge
        · obtain ⟨i, h1, h2, h3⟩ := H.from_ a hlt
          exact ⟨i, by omega, h2, by show ((M.set k (O.length : Int)).getD i 0).toNat = a; rw [hold i h1]; exact h3⟩
        · have ha' : a < (O ++ [X]).length := ha
          rw [List.length_append] at ha'
          have : a = O.length := by simp at ha'; omega
          subst this
          exact ⟨k, by omega, hn, by show ((M.set k (O.length : Int)).getD k 0).toNat = O.length; rw [hnew]; simp⟩
    · rw [if_neg hn]
      refine ⟨l2, ?_, H.ok, ?_, ?_⟩
      · intro i hi hni
        rcases Nat.lt_or_ge i k with hlt | hge
        · exact H.pos i hlt hni
        · have : i = k := by omega
          subst this; exact absurd hni hn
      · intro i hi hni
        rcases Nat.lt_or_ge i k with hlt | hge
        · exact H.word i hlt hni
        · have : i = k := by omega
          subst this; exact absurd hni hn
      · intro a ha
        obtain ⟨i, h1, h2, h3⟩ := H.from_ a ha
        exact ⟨i, by omega, h2, h3⟩
theorem trimG_sem {xs : List GRule} {ls : List Int} (hl : lens xs = some ls) : ∃ ls', lens (trimG xs) = some ls' ∧ wordG (trimG xs) = wordG xs ∧ (0 < xs.length → 0 < (trimG xs).length) := by
  by_cases h0 : 0 < xs.length
  · have h := okAll_lens hl
    have C := canon_all h
    obtain ⟨K, S, hp⟩ : ∃ K S, canon xs = (K, S) := ⟨_, _, rfl⟩
    rw [hp] at C
    have l1 : K.length = xs.length := C.l1
    have cok : OkAll K := C.ok
    have hroot : 0 ≤ S.getD (xs.length - 1) 0 ∧ S.getD (xs.length - 1) 0 ≤ ((xs.length - 1 : Nat) : Int) := C.low (xs.length - 1) (by omega)
    obtain ⟨R, hR⟩ : ∃ R, (S.getD (xs.length - 1) 0).toNat = R := ⟨_, rfl⟩
    have hRl : R < xs.length := by omega
    have eN : needL xs = needDown K xs.length ((List.replicate xs.length false).set R true) := by
      unfold needL rootB; rw [hp]; show needDown K _ ((List.replicate xs.length false).set (S.getD (xs.length - 1) 0).toNat true) = _; rw [hR]
    have hbl : ((List.replicate xs.length false).set R true).length = K.length := by simp [l1]
    have hNR : (needL xs).getD R false = true := by rw [eN]; exact needDown_true _ (set_at (by simp; omega))
    have hmost : ∀ x, (needL xs).getD x false = true → x ≤ R := by
      rw [eN]
      refine needDown_most cok _ (by omega) (fun x hx => ?_)
      by_cases e : R = x
      · omega
      · rw [set_ne e] at hx
        rw [List.getD_eq_getElem?_getD, List.getElem?_replicate] at hx
        split at hx <;> simp at hx
    have hcl : ∀ x, x < xs.length → (needL xs).getD x false = true → (getR (canon xs).1 x).pair = true → (needL xs).getD (getR (canon xs).1 x).left.toNat false = true ∧ (needL xs).getD (getR (canon xs).1 x).right.toNat false = true := by
      rw [hp, eN]
      intro x hx h1 h2
      exact needDown_closed cok _ (by omega) hbl hx h1 h2
    have H := out_ok h hcl xs.length (Nat.le_refl _)
    rw [hp] at H
    have hw := canon_word h
    rw [hp] at hw
    -- the last rule is that of the root
    have hlast : ∀ k, R < k → k ≤ xs.length → (trimO xs k).1.length = (trimO xs (R + 1)).1.length ∧ (trimO xs k).2.getD R 0 = (trimO xs (R + 1)).2.getD R 0 := by
      intro k
      induction k with
      | zero => intro h; omega
      | succ k ih =>
        intro h1 h2
        rcases Nat.lt_or_ge R k with hlt | hge
        · have hnk : ¬ (needL xs).getD k false = true := fun e => by have := hmost k e; omega
          rw [trimO_succ]
          unfold outStep
          rw [if_neg hnk]
          exact ih hlt (by omega)
        · have : k = R := by omega
          subst this; exact ⟨rfl, rfl⟩
    obtain ⟨e1, e2⟩ := hlast xs.length hRl (Nat.le_refl _)
    have e3 : (trimO xs (R + 1)).1.length = (trimO xs R).1.length + 1 ∧ (trimO xs (R + 1)).2.getD R 0 = ((trimO xs R).1.length : Int) := by
      rw [trimO_succ]; unfold outStep; rw [if_pos hNR]
      refine ⟨by simp, ?_⟩
      show ((trimO xs R).2.set R _).getD R 0 = _
      rw [List.getD_eq_getElem?_getD, List.getElem?_set, if_pos rfl, if_pos (by rw [(trimO_len xs R).1]; exact hRl)]; rfl
    have hlen : (trimG xs).length = (trimO xs R).1.length + 1 := by rw [trimG, e1, e3.1]
    have hnum : ((trimO xs xs.length).2.getD R 0).toNat = (trimG xs).length - 1 := by rw [e2, e3.2, hlen]; simp
    have hword : W1 (trimG xs) ((trimG xs).length - 1) = W1 xs (xs.length - 1) := by
      rw [← hnum]
      have h1 : W1 (trimG xs) ((trimO xs xs.length).2.getD R 0).toNat = W1 K R := H.word R hRl hNR
      rw [h1]
      have h2 : W1 K R = W1 K (xs.length - 1) := by
        have hi : S.getD (xs.length - 1) 0 = ((K.idxOf (getR K (xs.length - 1)) : Nat) : Int) := C.idx _ (by omega)
        have hm : getR K (xs.length - 1) ∈ K := getR_mem (by omega)
        have hlt : K.idxOf (getR K (xs.length - 1)) < K.length := List.idxOf_lt_length_iff.2 hm
        have hRe : R = K.idxOf (getR K (xs.length - 1)) := by rw [← hR, hi]; simp
        refine W1_same cok (by omega) (by omega) ?_
        rw [hRe]
        exact (getR_some (List.getElem?_eq_getElem hlt)).trans (List.getElem_idxOf hlt)
      rw [h2]
      exact hw _ (by omega)
    have hmax : ∀ r, r < (trimG xs).length → ((W1 (trimG xs) r).length : Int) ≤ maxL := by
      intro r hr
      obtain ⟨i, h1, h2, h3⟩ := H.from_ r hr
      have h4 : W1 (trimG xs) ((trimO xs xs.length).2.getD i 0).toNat = W1 K i := H.word i h1 h2
      have h5 : W1 K i = W1 xs i := hw i h1
      rw [show r = ((trimO xs xs.length).2.getD i 0).toNat from h3.symm, h4, h5]
      exact lens_W1 hl h1
    obtain ⟨ls', hl'⟩ := lens_ofA H.ok hmax
    refine ⟨ls', hl', ?_, fun _ => by omega⟩
    rw [wordG_pos (by omega), wordG_pos h0]
    exact hword
  · have hx : xs = [] := List.eq_nil_of_length_eq_zero (by omega)
    subst hx
    exact ⟨[], rfl, rfl, fun h => absurd h (by simp)⟩
theorem gramOk_trim {xs : List GRule} (h : gramOk xs = true) : gramOk (trimG xs) = true := by
  obtain ⟨h4, ls, hl⟩ := gram_lens h
  obtain ⟨ls', hl', _⟩ := trimG_sem hl
  have := trimG_len xs
  simp only [gramOk, Bool.and_eq_true, decide_eq_true_eq]
  exact ⟨by omega, by rw [hl']; rfl⟩
end Go.Proofs.YtdacndamehiglaaGreatDoor
