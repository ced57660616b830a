import Derived.Test.YtfkijaamfmpboaaM4
import Derived.Test.YtfkijaamfmpboaaM2
import Derived.Test.YtfkijaamfmpboaaM1
import Derived.Test.YtfkijaamfmpboaaRows
import Derived.WalkKit
import Derived.ProofKit
import Derived.Below
import Derived.ChangeSame
import Derived.Lib.SmallJoins
import Derived.Carry
import Derived.WideKeyArgs
import Derived.OpenShut
import Derived.Deep.Slices
import Derived.Deep.Fields
namespace Go.Proofs.Ytfkijaamfmpboaa
open Go.RowKit
theorem embF_lt (W : List UInt8) : ∀ (p : List UInt8) (i : Nat), ∀ a ∈ embF W p i, a < W.length := by
  intro p
  induction p with
  | nil => intro i a h; simp [embF] at h
  | cons c p ih =>
    intro i a h
    rw [embF] at h
    split at h
    · rename_i hc
      rcases List.mem_cons.1 h with h | h
      · subst h; exact selW_lt hc
      · exact ih _ a h
    · simp at h
def revB (p : ByteArray) : ByteArray := ⟨p.data.toList.reverse.toArray⟩
theorem revB_size (p : ByteArray) : (revB p).size = p.size := by
  show (p.data.toList.reverse.toArray).size = p.data.size
  simp
theorem revB_ok {p : ByteArray} (h : wordOk p = true) : wordOk (revB p) = true := by
  unfold wordOk at h ⊢
  rw [revB_size]
  rw [Bool.and_eq_true] at h ⊢
  refine ⟨h.1, ?_⟩
  show (p.data.toList.reverse.toArray.toList).all letOk = true
  rw [List.toList_toArray, List.all_reverse]
  exact h.2
def backI (N : Nat) (a : Nat) : Int := (N : Int) - 1 - a
def mixE (N : Nat) (F : List Nat) (i : Nat) : List Int := (F.take i).map (backI N) ++ (F.drop i).map Int.ofNat
theorem mixE_len (N : Nat) (F : List Nat) (i : Nat) : (mixE N F i).length = F.length := by unfold mixE; simp; omega
theorem mixE_get (N : Nat) (F : List Nat) {i : Nat} (h : i < F.length) : (mixE N F i).getD i 0 = (F.getD i 0 : Nat) := by
  unfold mixE
  rw [List.getD_eq_getElem?_getD, List.getElem?_append_right (by simp; omega), List.getD_eq_getElem?_getD]
  have e : i - ((F.take i).map (backI N)).length = 0 := by simp; omega
  rw [e, List.getElem?_map, List.getElem?_drop, Nat.add_zero, List.getElem?_eq_getElem h]; rfl
theorem mixE_set (N : Nat) (F : List Nat) {i : Nat} (h : i < F.length) : (mixE N F i).set i (backI N (F.getD i 0)) = mixE N F (i + 1) := by
  unfold mixE
  rw [List.set_append_right _ _ (by simp; omega)]
  have e : i - ((F.take i).map (backI N)).length = 0 := by simp; omega
  rw [e, List.drop_eq_getElem_cons h, List.map_cons, List.set_cons_zero, List.take_add_one, List.getElem?_eq_getElem h, Option.toList_some, List.map_append, List.append_assoc, List.getD_eq_getElem?_getD, List.getElem?_eq_getElem h]
  rfl
set_option maxRecDepth 100000 in
set_option maxHeartbeats 8000000 in
theorem implEmbedLast_any (vR : Value) (xs : List GRule) (p : ByteArray) (w : World) (hR : Sl RuleE w w.heap.size vR xs) (hn : xs.length ≤ 1048576) (hps : p.size ≤ maxLen) :
    Calls Try.prog 12 #[.agg #[vR], .string p] w (EmbPost xs p w) := by
  have HR := Lib.hid hR
  obtain ⟨AR, cR, rfl, _⟩ := hR
  have hbad : elC xs p = 1 → elV xs p = [] → ∀ wx : World, Below w.heap.size w wx → EmbPost xs p w (.returned (.tuple #[.slice none 0 0, .int .i64 1])) wx := fun h1 h2 wx hb => by
    refine ⟨_, by rw [h1], ?_, hb⟩
    rw [h2]; exact OwnInts.nil _ _
  have Hbad := Lib.hid hbad
  clear hbad
  go_enter Try.func12, Try.ntmps12
  go_upto_region 1 with fail
  have ka := (Below.refl w.heap.size w).alloc (Nat.le_refl _) (Obj.cells #[.slice AR xs.length cR] 30)
  have kg := Blk.new w #[.slice AR xs.length cR] 30
  generalize w.alloc (Obj.cells #[.slice AR xs.length cR] 30) = w1 at *
  have B1 := Lib.hid ka
  have HR1 := Lib.hid (HR.out.up ka)
  have G1 := Lib.hid kg
  have g0 := Blk.cell (i := 0) (v := .slice AR xs.length cR) kg rfl
  have gl := Blk.lt kg
  clear ka kg
  go_wp2_with fail
  refine (ValidGrammar_any _ xs _ HR1.out (by omega)).mono ?_
  rintro r w2 ⟨rfl, hb2⟩
  have B2 := Lib.hid (Below.tr B1.out hb2)
  have HR2 := Lib.hid (HR1.out.up hb2)
  have G2 := Lib.hid (G1.out.up hb2)
  clear hb2 g0 gl
  cases hg : gramOk xs with
  | false =>
    have Hc := Lib.hid (show elC xs p = 1 ∧ elV xs p = [] by unfold elC elV; rw [hg]; exact ⟨rfl, rfl⟩)
    clear hg
    go_wp2_with fail
    go_ret2
    exact Hbad.out Hc.out.1 Hc.out.2 _ B2.out
  | true =>
    have Hg := Lib.hid hg
    clear hg
    go_wp2_with fail
    refine (ValidWord_any p _ hps).mono ?_
    rintro r w3 ⟨rfl, rfl⟩
    cases hw : wordOk p with
    | false =>
      have Hc := Lib.hid (show elC xs p = 1 ∧ elV xs p = [] by unfold elC elV; rw [Hg.out, hw]; exact ⟨rfl, rfl⟩)
      clear hw
      go_wp2_with fail
      go_ret2
      exact Hbad.out Hc.out.1 Hc.out.2 _ B2.out
    | true =>
      obtain ⟨h4, ls, hl⟩ := gram_lens Hg.out
      have Hl := Lib.hid hl
      have h2000 := word_2000 hw
      have hwt := wordG_turnE hl
      have hgt := gramOk_turnE Hg.out
      have hwr := revB_ok hw
      obtain ⟨N, hN⟩ : ∃ N, (wordG xs).length = N := ⟨_, rfl⟩
      have hwl := wordG_len hl
      have hbl := lastI_bounds hl
      have hN9 : N ≤ 1000000000000000 := by omega
      obtain ⟨F, hF⟩ : ∃ F, embF (wordG xs).reverse p.data.toList.reverse 0 = F := ⟨_, rfl⟩
      have hef : efL (xs.map turnR) (revB p) = F.map Int.ofNat := by
        unfold efL revB
        rw [hwt, List.toList_toArray, hF]
      have hFl : ∀ a ∈ F, a < N := fun a ha => by
        rw [← hF] at ha
        have := embF_lt _ _ _ a ha
        rw [List.length_reverse] at this
        omega
      have hefc : efC (xs.map turnR) (revB p) = if F.length < p.size then 6 else 0 := by
        unfold efC
        rw [hgt, hwr, hef, List.length_map, revB_size]; rfl
      have hel : elO xs p = if F.length < p.size then none else some (F.map fun a => N - 1 - a) := by
        unfold elO
        rw [emb_last0, hF, List.length_reverse, Array.length_toList, hN]; rfl
      have Hc := Lib.hid (show elC xs p = (if (elO xs p).isNone then 6 else 0) ∧ elV xs p = ((elO xs p).getD []).reverse.map Int.ofNat by unfold elC elV; rw [Hg.out, hw]; exact ⟨rfl, rfl⟩)
      have Hel := Lib.hid hel
      have Hefc := Lib.hid hefc
      have Hef := Lib.hid hef
      have HFl := Lib.hid hFl
      have hFp : F.length ≤ p.size := by rw [← hF]; have := embF_le (wordG xs).reverse p.data.toList.reverse 0; rw [List.length_reverse, Array.length_toList] at this; exact this
      have Hlen := Lib.hid (show lenV xs = (N : Int) ∧ lenC xs = 0 by unfold lenV lenC; rw [Hg.out, if_pos rfl, if_pos rfl, gramLen_of hl, ← hwl, hN]; exact ⟨rfl, rfl⟩)
      have g0 := Blk.cell (i := 0) (v := .slice AR xs.length cR) G2.out rfl
      have gl := Blk.lt G2.out
      clear hl hw hwt hgt hwr hN hwl hbl hF hef hefc hel hFl
      go_wp2_with fail
      -- @V s
      refine (turnedOver_any _ xs _ HR2.out (by omega)).mono ?_
      rintro e w4 ⟨v4, rfl, own4, hb4⟩
      have HT4 := Lib.hid own4.sl
      have B4 := Lib.hid (Below.tr B2.out hb4)
      have HR4 := Lib.hid (HR2.out.up hb4)
      have G4 := Lib.hid (G2.out.up hb4)
      obtain ⟨A4, c4, rfl, _⟩ := own_nil own4
      clear hb4 own4 g0 gl
      go_wp2_with fail
      -- @V s.s
      refine (turned_any p _ (by omega)).mono ?_
      rintro e w5 ⟨rfl, hb5⟩
      have B5 := Lib.hid (Below.tr B4.out hb5)
      have HR5 := Lib.hid (HR4.out.up hb5)
      have HT5 := Lib.hid (HT4.out.up hb5)
      have G5 := Lib.hid (G4.out.up hb5)
      clear hb5
      go_wp2_with fail
      -- @V s.s.s
      have hfirst : Calls Try.prog 20 #[.agg #[.slice A4 xs.length c4], .string ⟨p.data.toList.reverse.toArray⟩] w5 (EfPost (xs.map turnR) (revB p) w5) := by
        have h := embedFirst_any (.slice A4 (xs.map turnR).length c4) (xs.map turnR) (revB p) w5 HT5.out (by rw [List.length_map]; exact hn) (by rw [revB_size]; exact hps)
        rw [List.length_map] at h
        exact h
      -- @V s.s.s.s
      refine hfirst.mono ?_
      rintro e w6 ⟨v6, rfl, own6, hb6⟩
      have B6 := Lib.hid (Below.tr B5.out hb6)
      have HR6 := Lib.hid (HR5.out.up hb6)
      have G6 := Lib.hid (G5.out.up hb6)
      have hz6 := B5.out.size
      rw [Hefc.out]
      clear hb6 hfirst
      -- @V s.s.s.s.s
      by_cases hlt : F.length < p.size
      · rw [if_pos hlt]
        have hel2 : elO xs p = none := by rw [Hel.out, if_pos hlt]
        have Hv := Lib.hid (show elC xs p = 6 ∧ elV xs p = [] by rw [Hc.out.1, Hc.out.2, hel2]; exact ⟨rfl, rfl⟩)
        clear hlt own6 hel2
        go_wp2_with fail
        go_ret2
        refine ⟨.slice none 0 0, by rw [Hv.out.1]; rfl, ?_, B6.out⟩
        rw [Hv.out.2]; exact OwnInts.nil _ _
      · rw [if_neg hlt]
        have hel2 : elO xs p = some (F.map fun a => N - 1 - a) := by rw [Hel.out, if_neg hlt]
        have hev : efV (xs.map turnR) (revB p) = F.map Int.ofNat := by rw [efV, Hefc.out, if_neg hlt, if_pos rfl, Hef.out]
        rw [hev] at own6
        have Hv := Lib.hid (show elC xs p = 0 ∧ elV xs p = (F.map (backI N)).reverse by
          rw [Hc.out.1, Hc.out.2, hel2]
          refine ⟨rfl, ?_⟩
          show ((F.map fun a => N - 1 - a).reverse).map Int.ofNat = _
          rw [List.map_reverse, List.map_map]
          congr 1
          refine List.map_congr_left fun a ha => ?_
          have := HFl.out a ha
          show ((N - 1 - a : Nat) : Int) = (N : Int) - 1 - a
          omega)
        obtain ⟨A6, c6, rfl, _⟩ := own_nil own6
        rw [List.length_map]
        have Own6 := Lib.hid (show OwnInts w6 w5.heap.size (.slice A6 F.length c6) (mixE N F 0) by
          rw [List.length_map] at own6
          unfold mixE; simpa using own6)
        have g0 := Blk.cell (i := 0) (v := .slice AR xs.length cR) G6.out rfl
        have gl := Blk.lt G6.out
        clear hlt own6 hel2 hev
        go_wp2_with fail
        refine (LengthOf_any _ xs _ HR6.out (by omega)).mono ?_
        rintro e w7 ⟨rfl, hb7⟩
        have B7 := Lib.hid (Below.tr B6.out hb7)
        have Own7 := Lib.hid (ownsRow_below Own6.out hb7)
        have hz7 := hb7.size
        rw [Hlen.out.1, Hlen.out.2]
        clear hb7 g0 gl
        go_wp2_with fail
        go_loopw [38] (fun vi wx => ∃ i : Nat, i ≤ F.length ∧ vi = .int .i64 (i : Int) ∧ Below w5.heap.size w7 wx ∧ OwnInts wx w5.heap.size (.slice A6 F.length c6) (mixE N F i)) (fun vi _ => F.length - (intOf vi).toNat)
        case atStart => exact ⟨0, Nat.zero_le _, rfl, Below.refl _ _, by have := Own7.out; unfold OwnInts at this ⊢; exact this⟩
        case round =>
          obtain ⟨i, hi, rfl, hb, hown⟩ := hrel
          have HB := Lib.hid hb
          have Hown := Lib.hid hown
          have hml := mixE_len N F i
          clear hb hown
          by_cases hil : i < F.length
          · have hiI : (i : Int) < (F.length : Int) := by omega
            obtain ⟨g, c, hv, hgb, hgl, _, hc⟩ := OwnInts.at_ Hown.out (j := i) (by omega)
            injection hv with hv1 _ hv3
            subst hv1
            have hci := hc i (by omega)
            rw [mixE_get N F hil] at hci
            have ha := HFl.out (F.getD i 0) (by rw [List.getD_eq_getElem?_getD, List.getElem?_eq_getElem hil]; exact List.getElem_mem hil)
            have hset := mixE_set N F hil
            obtain ⟨a, hae⟩ : ∃ a, F.getD i 0 = a := ⟨_, rfl⟩
            rw [hae] at hci ha hset
            have Hset := Lib.hid hset
            have Hml := Lib.hid hml
            have hfz : wr.frozen? ⟨g, i, none⟩ = false := by
              have h := Hown.out
              unfold OwnInts at h
              rw [hml] at h
              exact World.ownsRow.frozenAt h i
            have hw1 : IntKind.i64.wrap ((N : Int) - 1) = (N : Int) - 1 := IntWalk.i64_in _ (by omega)
            have hw2 : IntKind.i64.wrap ((N : Int) - 1 - (a : Int)) = (N : Int) - 1 - (a : Int) := IntWalk.i64_in _ (by omega)
            clear hc hae hset hml hv3
            go_wp2_with fail
            go_roundw
            case rel =>
              refine ⟨i + 1, by omega, by go_num, (by repeat (first | exact HB.out | (refine Below.alloc ?_ (by first | omega | (simp; done) | (simp; omega)) _) | (refine Below.setCell ?_ (by first | exact Nat.le_refl _ | (show _ ≤ _; omega) | (simp; done) | (simp; omega)) _) | refine below_drewN ?_ _ | refine Below.drew ?_)), ?_⟩
              rw [← Hset.out]
              exact OwnInts.stored Hown.out Hml.out i _
            case measure => simp [intOf]; omega
          · have hin : i = F.length := by omega
            subst hin
            have hown2 : OwnInts wr w5.heap.size (.slice A6 F.length c6) (F.map (backI N)) := by
              have h := Hown.out
              unfold mixE at h
              rw [List.take_length, List.drop_length, List.map_nil, List.append_nil] at h
              exact h
            have Hown2 := Lib.hid hown2
            clear hown2 hml
            go_wp2_with fail
            refine (reverse_ints _ _ _ Hown2.out (by rw [List.length_map]; omega)).mono ?_
            rintro e w8 ⟨rfl, own8, hb8⟩
            have Own8 := Lib.hid own8
            have HB8 := Lib.hid hb8
            clear own8 hb8
            go_wp2_with fail
            go_ret2
            refine ⟨.slice A6 F.length c6, by rw [Hv.out.1]; rfl, ?_, (B7.out.trans (HB.out.mono hz6)).trans (HB8.out.mono hz6)⟩
            rw [Hv.out.2]
            exact ownsRow_more Own8.out hz6
def marksI (k n : Nat) : List Int := (List.range n).map fun i => ((k + i : Nat) : Int)
theorem marksI_len (k n : Nat) : (marksI k n).length = n := by simp [marksI]
theorem marksI_get (k : Nat) {n i : Nat} (h : i < n) : (marksI k n).getD i 0 = ((k + i : Nat) : Int) := by
  unfold marksI; rw [List.getD_eq_getElem?_getD, List.getElem?_map, List.getElem?_range h]; rfl
theorem marksI_set (k : Nat) (L : List Int) {i : Nat} (h : i < L.length) : (marksI k i ++ L.drop i).set i ((k + i : Nat) : Int) = marksI k (i + 1) ++ L.drop (i + 1) := by
  rw [List.set_append_right _ _ (by rw [marksI_len]; omega), marksI_len, Nat.sub_self, List.drop_eq_getElem_cons h, List.set_cons_zero]
  unfold marksI
  rw [List.range_succ, List.map_append, List.append_assoc]; rfl
theorem grown_set {w wx : World} {g i : Nat} {u : Value} (h : w.grownBy wx (some g)) : w.grownBy (wx.setCell ⟨g, i, none⟩ u) (some g) :=
  ⟨h.os, h.tape, h.output, by simpa [World.setCell] using h.size, fun k hk hne => by
    rw [← h.block k hk hne]
    simp only [World.setCell, Array.getElem?_modify]
    rw [if_neg (fun e => hne (by rw [e]))]⟩
set_option maxRecDepth 100000 in
set_option maxHeartbeats 2000000 in
theorem markInts_any (base : Nat) (v : Value) (L : List Int) (k : Nat) (w : World) (h : OwnInts w base v L) (hn : L.length ≤ 1048576) (hk : k ≤ 1048576) :
    Calls Try.prog 15 #[v, .int .i64 (k : Int)] w fun e w' => e = .returned (.int .i64 ((k + L.length : Nat) : Int)) ∧ OwnInts w' base v (marksI k L.length) ∧ w.grownBy w' v.ownBlock := by
  have H := Lib.hid h
  obtain ⟨A, c, rfl, _⟩ := own_nil h
  clear h
  go_enter Try.func15, Try.ntmps15
  go_wp2_with fail
  go_loopw [1, 5] (fun vk vi wx => ∃ i : Nat, i ≤ L.length ∧ vk = .int .i64 ((k : Int) + (i : Int)) ∧ vi = .int .i64 (i : Int) ∧ OwnInts wx base (.slice A L.length c) (marksI k i ++ L.drop i) ∧ w.grownBy wx (Value.slice A L.length c).ownBlock) (fun _ vi _ => L.length - (intOf vi).toNat)
  case atStart => exact ⟨0, Nat.zero_le _, by simp, rfl, by simpa [marksI] using H.out, ⟨rfl, rfl, rfl, Nat.le_refl _, fun _ _ _ => rfl⟩⟩
  case round =>
    obtain ⟨i, hi, rfl, rfl, hown, hgr⟩ := hrel
    have Hown := Lib.hid hown
    have Hgr := Lib.hid hgr
    have hml : (marksI k i ++ L.drop i).length = L.length := by rw [List.length_append, marksI_len, List.length_drop]; omega
    have Hml := Lib.hid hml
    clear hown hgr
    by_cases hil : i < L.length
    · have hiI : (i : Int) < (L.length : Int) := by omega
      obtain ⟨g, c2, hv, hgb, hgl, _, hc⟩ := OwnInts.at_ Hown.out (j := i) (by omega)
      injection hv with hv1 hv2 hv3
      subst hv1
      have hci := hc i (by omega)
      have fz : wr.frozen? ⟨g, i, none⟩ = false := by
        have h := Hown.out
        unfold OwnInts at h
        rw [hml] at h
        exact World.ownsRow.frozenAt h i
      have Hset := Lib.hid (marksI_set k L hil)
      obtain ⟨u, hu⟩ : ∃ u, (marksI k i ++ L.drop i).getD i 0 = u := ⟨_, rfl⟩
      rw [hu] at hci
      have hw1 : IntKind.i64.wrap ((k : Int) + (i : Int) + 1) = (k : Int) + (i : Int) + 1 := IntWalk.i64_in _ (by omega)
      clear hc hu hv2 hv3 hml
      go_wp2_with fail
      go_roundw
      case rel =>
        refine ⟨i + 1, by omega, by go_num, by go_num, ?_, grown_set (by simpa [Value.ownBlock] using Hgr.out)⟩
        rw [← Hset.out]
        have := OwnInts.stored Hown.out Hml.out i ((k + i : Nat) : Int)
        simpa using this
      case measure => simp [intOf]; omega
    · have hin : i = L.length := by omega
      subst hin
      have h9 : OwnInts wr base (.slice A L.length c) (marksI k L.length) := by
        have h := Hown.out
        rw [List.drop_length, List.append_nil] at h
        exact h
      have H9 := Lib.hid h9
      clear h9 hml
      go_wp2_with fail
      go_ret
      exact ⟨rfl, H9.out, Hgr.out⟩
set_option maxRecDepth 100000 in
set_option maxHeartbeats 2000000 in
theorem heldInts_any (v : Value) (k m : Nat) (w : World) (h : Sl IntE w w.heap.size v (marksI k m)) (hn : m ≤ 1048576) (hk : k ≤ 1048576) :
    Calls Try.prog 16 #[v, .int .i64 (k : Int)] w fun e w' => e = .returned (.int .i64 ((k + m : Nat) : Int)) ∧ w = w' := by
  have H := Lib.hid h
  obtain ⟨A, c, rfl, _⟩ := h
  rw [marksI_len]
  go_enter Try.func16, Try.ntmps16
  go_wp2_with fail
  go_loopw [1, 5] (fun vk vi wx => ∃ i : Nat, i ≤ m ∧ vk = .int .i64 ((k : Int) + (i : Int)) ∧ vi = .int .i64 (i : Int) ∧ wx = w) (fun _ vi _ => m - (intOf vi).toNat)
  case atStart => exact ⟨0, Nat.zero_le _, by simp, rfl, rfl⟩
  case round =>
    obtain ⟨i, hi, rfl, rfl, rfl⟩ := hrel
    by_cases him : i < m
    · have hiI : (i : Int) < (m : Int) := by omega
      obtain ⟨b, o, rfl, hb, hc⟩ := row_cell H.out (by rw [marksI_len]; omega)
      have hci := hc i _ (by rw [marksI_len]; exact him) (marksI_get k him)
      rw [show ((k + i : Nat) : Int) = (k : Int) + (i : Int) by omega] at hci
      have hw1 : IntKind.i64.wrap ((k : Int) + (i : Int) + 1) = (k : Int) + (i : Int) + 1 := IntWalk.i64_in _ (by omega)
      clear hc
      go_wp2_with fail
      go_roundw
      case rel => exact ⟨i + 1, by omega, by go_num, by go_num, trivial⟩
      case measure => simp [intOf]; omega
    · have him : i = m := by omega
      subst him
      go_wp2_with fail
      go_ret
      exact ⟨rfl, rfl⟩
theorem keepB2e {wr W : World} {x g : Nat} {t t' : TypeId} {c d : Value} (hx : Blk wr x #[c] t) (hg : Blk wr g #[d] t') (h : Below wr.heap.size wr W) :
    Below wr.heap.size wr W ∧ W.cell? ⟨x, 0, none⟩ = some c ∧ W.cell? ⟨g, 0, none⟩ = some d := ⟨h, (hx.up h).cell rfl, (hg.up h).cell rfl⟩
theorem drewN_b {w w' : World} (h : ∃ n, w' = w.drewN n) : Below w.heap.size w w' := by
  obtain ⟨n, rfl⟩ := h
  exact below_drewN (Below.refl _ _) n
theorem elV_len {xs : List GRule} {p : ByteArray} (hp : wordOk p = true ∨ elV xs p = []) : (elV xs p).length ≤ 1048576 := by
  rcases hp with hp | hp
  · have h2 := word_2000 hp
    unfold elV
    split
    · rw [List.length_map, List.length_reverse]
      unfold elO
      rw [emb_last0]
      split
      · simp
      · have := embF_le (wordG xs).reverse p.data.toList.reverse 0
        have h5 : p.data.toList.length = p.size := by rw [Array.length_toList]; rfl
        have h6 : p.data.toList.reverse.length = p.data.toList.length := List.length_reverse
        simp only [Option.getD_some, List.length_map]
        omega
    · simp
  · rw [hp]; simp
theorem elV_len2 (xs : List GRule) (p : ByteArray) : (elV xs p).length ≤ 1048576 := by
  cases h : wordOk p with
  | true => exact elV_len (.inl h)
  | false => exact elV_len (.inr (by unfold elV; rw [h, Bool.and_false]; rfl))
set_option maxRecDepth 100000 in
set_option maxHeartbeats 8000000 in
theorem lawEmb_any (v : Value) (xs : List GRule) (p : ByteArray) (w : World) (h : Sl RuleE w w.heap.size v xs) (hsm : SmallL xs) (hps : p.size ≤ maxLen) :
    Calls Try.prog 4 #[.agg #[v], .string p] w fun e w' => e = .returned (.bool true) ∧ Below w.heap.size w w' := by
  have H0 := Lib.hid h
  have HSm := Lib.hid hsm
  obtain ⟨A, c, rfl, _⟩ := h
  have HPs := Lib.hid hps
  obtain ⟨LV, hLV⟩ : ∃ LV, elV xs p = LV := ⟨_, rfl⟩
  obtain ⟨LC, hLC⟩ : ∃ LC, elC xs p = LC := ⟨_, rfl⟩
  have hLl := elV_len2 xs p
  rw [hLV] at hLl
  have HLV := Lib.hid (And.intro hLV hLC)
  obtain ⟨nl, hnl⟩ : ∃ nl, LV.length = nl := ⟨_, rfl⟩
  have Hnl := Lib.hid hnl
  rw [hnl] at hLl
  go_enter Try.func4, Try.ntmps4
  go_upto_region 1 with fail
  have ka := (Below.refl w.heap.size w).alloc (Nat.le_refl _) (Obj.cells #[.slice A xs.length c] 24)
  have kg := Blk.new w #[.slice A xs.length c] 24
  generalize w.alloc (Obj.cells #[.slice A xs.length c] 24) = w1 at *
  have B1 := Lib.hid ka
  have S1 := Lib.hid (H0.out.up ka)
  have G1 := Lib.hid kg
  have g0 := Blk.cell (i := 0) (v := .slice A xs.length c) kg rfl
  have gl := Blk.lt kg
  clear ka kg hsm hps hLV hLC hnl
  by_cases hbig : 1048576 < p.size
  · have hbI : (1048576 : Int) < (p.size : Int) := by omega
    go_wp2_with fail
    go_ret
    exact ⟨rfl, B1.out⟩
  have hbI : ¬ (1048576 : Int) < (p.size : Int) := by omega
  go_wp2_with fail
  refine (szGrammar_any _ xs _ _ S1.out HSm.out (by omega)).mono ?_
  rintro e w2 ⟨rfl, hb2⟩
  have B2 := Lib.hid (Below.tr B1.out hb2)
  have S2 := Lib.hid (S1.out.up hb2)
  have G2 := Lib.hid (G1.out.up hb2)
  clear hb2 g0 gl
  by_cases hneg : szRs xs 1048576 < 0
  · have H := Lib.hid hneg
    rw [if_pos hneg]
    clear hneg
    go_wp2_with fail
    go_ret
    exact ⟨rfl, B2.out⟩
  rw [if_neg hneg]
  obtain ⟨_, hlen⟩ := szRs_le xs 1048576 (by omega)
  have hn : xs.length ≤ 1048576 := by omega
  have hpos : ¬ szRs xs 1048576 < 0 := hneg
  have g0 := Blk.cell (i := 0) (v := .slice A xs.length c) G2.out rfl
  have gl := Blk.lt G2.out
  clear hneg hlen
  go_wp2_with fail
  refine (toGrammar_any _ xs _ S2.out hn).mono ?_
  rintro e w3 ⟨v3, rfl, own3, hb3⟩
  have B3 := Lib.hid (Below.tr B2.out hb3)
  have S3 := Lib.hid (S2.out.up hb3)
  have G3 := Lib.hid (G2.out.up hb3)
  have U3 := Lib.hid own3.sl
  obtain ⟨A3, c3, rfl, _⟩ := own_nil own3
  clear hb3 own3 g0 gl hpos
  go_wp2_with fail
  refine (specEmbedLast_any _ xs p _ U3.out HSm.out hn HPs.out).mono ?_
  rintro e w4 ⟨vW, rfl, ownW, hb4⟩
  rw [HLV.out.1] at ownW
  rw [HLV.out.2]
  have z34 := hb4.size
  have B4 := Lib.hid (Below.tr B3.out hb4)
  have S4 := Lib.hid (S3.out.up hb4)
  have G4 := Lib.hid (G3.out.up hb4)
  have W4 := Lib.hid ownW
  obtain ⟨AW, cW, rfl, _⟩ := own_nil ownW
  rw [Hnl.out] at W4 ⊢
  have g0 := Blk.cell (i := 0) (v := .slice A xs.length c) G4.out rfl
  have gl := Blk.lt G4.out
  clear hb4 ownW
  go_wp2_with fail
  refine (toGrammar_any _ xs _ S4.out hn).mono ?_
  rintro e w5 ⟨v5, rfl, own5, hb5⟩
  have z45 := hb5.size
  have B5 := Lib.hid (Below.tr B4.out hb5)
  have S5 := Lib.hid (S4.out.up hb5)
  have G5 := Lib.hid (G4.out.up hb5)
  have W5 := Lib.hid (ownsRow_below W4.out hb5)
  have X5 := Lib.hid own5
  obtain ⟨A5, c5, rfl, _⟩ := own_nil own5
  clear hb5 own5 g0 gl
  have ka := (Below.refl w5.heap.size w5).alloc (Nat.le_refl _) (Obj.cells #[.slice A5 xs.length c5] 30)
  have kx := Blk.new w5 #[.slice A5 xs.length c5] 30
  go_upto_region 9 with fail
  generalize w5.alloc (Obj.cells #[.slice A5 xs.length c5] 30) = w6 at *
  have z56 := ka.size
  have B6 := Lib.hid (Below.tr B5.out ka)
  have S6 := Lib.hid (S5.out.up ka)
  have G6 := Lib.hid (G5.out.up ka)
  have W6 := Lib.hid (ownsRow_below W5.out ka)
  have X6 := Lib.hid (OwnRules.below X5.out ka)
  have K6 := Lib.hid kx
  have x0 := Blk.cell (i := 0) (v := .slice A5 xs.length c5) kx rfl
  have xl := Blk.lt kx
  clear ka kx
  go_wp2_with fail
  refine (implEmbedLast_any _ xs p _ X6.out.sl hn HPs.out).mono ?_
  rintro e w7 ⟨vG, rfl, ownG, hb7⟩
  rw [HLV.out.1] at ownG
  rw [HLV.out.2]
  have z67 := hb7.size
  have B7 := Lib.hid (Below.tr B6.out hb7)
  have S7 := Lib.hid (S6.out.up hb7)
  have G7 := Lib.hid (G6.out.up hb7)
  have W7 := Lib.hid (ownsRow_below W6.out hb7)
  have X7 := Lib.hid (OwnRules.below X6.out hb7)
  have K7 := Lib.hid (K6.out.up hb7)
  have I7 := Lib.hid ownG
  obtain ⟨AG, cG, rfl, _⟩ := own_nil ownG
  rw [Hnl.out] at I7 ⊢
  have q2 : (LC != LC) = false := by simp
  clear hb7 ownG x0 xl
  go_wp2_with fail
  refine (eqInt64S_any _ _ LV _ (OwnInts.sl I7.out) (OwnInts.sl W7.out)).mono ?_
  rintro e w8 ⟨rfl, hw8⟩
  have hb8 := drewN_b hw8
  have z78 := hb8.size
  have B8 := Lib.hid (Below.tr B7.out hb8)
  have S8 := Lib.hid (S7.out.up hb8)
  have G8 := Lib.hid (G7.out.up hb8)
  have W8 := Lib.hid (ownsRow_below W7.out hb8)
  have X8 := Lib.hid (OwnRules.below X7.out hb8)
  have K8 := Lib.hid (K7.out.up hb8)
  have I8 := Lib.hid (ownsRow_below I7.out hb8)
  have x0 := Blk.cell (i := 0) (v := .slice A5 xs.length c5) K8.out rfl
  have xl := Blk.lt K8.out
  have g0 := Blk.cell (i := 0) (v := .slice A xs.length c) G8.out rfl
  have gl := Blk.lt G8.out
  have z9 : Below w8.heap.size w8 w8.drew := Below.drew (Below.refl _ _)
  clear hb8 hw8
  go_wp2_with fail
  go_region_held3 (fun w' => Below w8.heap.size w8 w' ∧ w'.cell? ⟨w5.heap.size, 0, none⟩ = some (.slice A5 xs.length c5) ∧ w'.cell? ⟨w.heap.size, 0, none⟩ = some (.slice A xs.length c))
    (first | (with_reducible exact keepB2e K8.out G8.out z9) | (with_reducible exact keepB2e K8.out G8.out (Below.tr z9 hb9)) | (with_reducible exact keepB2e K8.out G8.out (Below.tr (Below.tr z9 hb9) hbA)))
    (first
      | (go_at_call 8; refine (toGrammar_any _ xs _ (S8.out.up z9) hn).mono ?_; rintro e w9 ⟨v9, rfl, own9, hb9⟩)
      | (go_at_call 10; refine (eqGrammar_any _ _ xs _ ((OwnRules.sl X8.out).up (Below.tr z9 hb9)) own9.sl).mono ?_; rintro e wA ⟨rfl, hbA⟩))
  have bA := Below.tr (Below.tr z9 hb9) hbA
  have z8A := bA.size
  have BA := Lib.hid (Below.tr B8.out bA)
  have SA := Lib.hid (S8.out.up bA)
  have GA := Lib.hid (G8.out.up bA)
  have WA := Lib.hid (ownsRow_below W8.out bA)
  have XA := Lib.hid (OwnRules.below X8.out bA)
  have KA := Lib.hid (K8.out.up bA)
  have IA := Lib.hid (ownsRow_below I8.out bA)
  clear bA hb9 hbA own9 z9 x0 xl g0 gl
  have x0 := Blk.cell (i := 0) (v := .slice A5 xs.length c5) KA.out rfl
  have xl := Blk.lt KA.out
  go_wp2_with fail
  -- mark x0
  refine (markGrammar1 _ _ _ _ XA.out (by omega)).mono ?_
  rintro e wB ⟨rfl, -, hgB⟩
  have zAB := hgB.size
  have hxr : ∀ g, (Value.slice A5 xs.length c5).ownBlock = some g → w4.heap.size ≤ g ∧ g < w5.heap.size := fun g hg => World.ownsRow.lt X5.out g hg
  have bB : Below w4.heap.size wA wB := below_of_grown hgB (by omega) (fun g hg => (hxr g hg).1)
  have zw3 := B3.out.size
  have BB := Lib.hid (BA.out.trans (bB.mono (by omega)))
  have WB : Hid (OwnInts wB w3.heap.size (.slice AW nl cW) LV) := own_keep WA.out fun g hg => hgB.block g (World.ownsRow.lt WA.out g hg).2 (fun e => by have h1 := hxr g e.symm; have h2 := (World.ownsRow.lt W4.out g hg).2; omega)
  have IB : Hid (OwnInts wB w6.heap.size (.slice AG nl cG) LV) := own_keep IA.out fun g hg => hgB.block g (World.ownsRow.lt IA.out g hg).2 (fun e => by have h1 := hxr g e.symm; have h2 := (World.ownsRow.lt I7.out g hg).1; omega)
  have GB := Lib.hid (GA.out.upB bB (Nat.lt_of_lt_of_le (Blk.lt G4.out) (Nat.le_refl _)))
  have e0 : (decide (((1 + 3 * xs.length : Nat) : Int) < 0)) = false := by simp; omega
  clear hgB hxr x0 xl bB
  go_wp2_with fail
  refine (eqInt64S_any _ _ LV _ (OwnInts.sl IB.out) (OwnInts.sl WB.out)).mono ?_
  rintro e wC ⟨rfl, hwC⟩
  have hbC := drewN_b hwC
  have zBC := hbC.size
  have BC := Lib.hid (BB.out.trans (hbC.mono (by omega)))
  have WC := Lib.hid (ownsRow_below WB.out hbC)
  have IC := Lib.hid (ownsRow_below IB.out hbC)
  have GC := Lib.hid (GB.out.up hbC)
  clear hbC hwC e0
  go_wp2_with fail
  -- mark g0
  have hmk := markInts_any w6.heap.size _ LV 1 wC IC.out (by rw [Hnl.out]; exact hLl) (by omega)
  rw [Hnl.out] at hmk
  refine hmk.mono ?_
  rintro e wD ⟨rfl, ownD, hgD⟩
  have zCD := hgD.size
  have hir : ∀ g, (Value.slice AG nl cG).ownBlock = some g → w6.heap.size ≤ g := fun g hg => (World.ownsRow.lt I7.out g hg).1
  have bD : Below w6.heap.size wC wD := below_of_grown hgD (by omega) (fun g hg => hir g hg)
  have ID := Lib.hid ownD
  have WD : Hid (OwnInts wD w3.heap.size (.slice AW nl cW) LV) := own_keep WC.out fun g hg => hgD.block g (World.ownsRow.lt WC.out g hg).2 (fun e => by have h1 := hir g e.symm; have h2 := (World.ownsRow.lt W4.out g hg).2; omega)
  have BD := Lib.hid (BC.out.trans (bD.mono (by omega)))
  have GD := Lib.hid (GC.out.upB bD (by have := Blk.lt G4.out; omega))
  have HSD := Lib.hid (OwnInts.sl ID.out)
  clear hgD hir bD ownD hmk
  go_wp2_with fail
  -- held g0
  have hhd := heldInts_any _ 1 nl wD HSD.out hLl (by omega)
  refine hhd.mono ?_
  rintro e wE ⟨rfl, rfl⟩
  have e1 : (decide (((1 + nl : Nat) : Int) < 0)) = false := by simp; omega
  have g0 := Blk.cell (i := 0) (v := .slice A xs.length c) GD.out rfl
  have gl := Blk.lt GD.out
  clear hhd
  go_wp2_with fail
  -- once more
  refine (toGrammar_any _ xs _ ((H0.out.below BD.out).le BD.out.size) hn).mono ?_
  rintro e wF ⟨vF, rfl, ownF, hbF⟩
  have zDF := hbF.size
  have BF := Lib.hid (Below.tr BD.out hbF)
  have WF := Lib.hid (ownsRow_below WD.out hbF)
  have IF := Lib.hid (ownsRow_below ID.out hbF)
  have UF := Lib.hid ownF.sl
  obtain ⟨AF, cF, rfl, _⟩ := own_nil ownF
  clear hbF ownF g0 gl
  go_wp2_with fail
  refine (implEmbedLast_any _ xs p _ UF.out hn HPs.out).mono ?_
  rintro e wH ⟨vH, rfl, ownH, hbH⟩
  rw [HLV.out.1] at ownH
  rw [HLV.out.2]
  have zFH := hbH.size
  have BH := Lib.hid (Below.tr BF.out hbH)
  have WH := Lib.hid (ownsRow_below WF.out hbH)
  have IH := Lib.hid (ownsRow_below IF.out hbH)
  have HH := Lib.hid ownH
  obtain ⟨AH, cH, rfl, _⟩ := own_nil ownH
  rw [Hnl.out] at HH ⊢
  clear hbH ownH
  go_wp2_with fail
  refine (eqInt64S_any _ _ LV _ (OwnInts.sl HH.out) (OwnInts.sl WH.out)).mono ?_
  rintro e wJ ⟨rfl, hwJ⟩
  have hbJ := drewN_b hwJ
  have BJ := Lib.hid (Below.tr BH.out hbJ)
  have IJ := Lib.hid (ownsRow_below IH.out hbJ)
  have HSJ := Lib.hid (OwnInts.sl IJ.out)
  clear hbJ hwJ
  go_wp2_with fail
  have hhd := heldInts_any _ 1 nl wJ HSJ.out hLl (by omega)
  refine hhd.mono ?_
  rintro e wK ⟨rfl, rfl⟩
  clear hhd
  go_wp2_with fail
  go_ret
  exact ⟨rfl, BJ.out⟩
open Go.RowKit Go.WideShapes Go.ChangeShapes
section
variable {H : Type} {enc : TypeId × Value → H} {P : Program}
theorem post_of_below {f : Func} {s : ChangeSpec} {apart fresh handsOn again : Bool} {W W' : World} {args : Array Value} {v : Value} {ds gs : List (DataW H)} {before pa pv : List MemPlace}
    (hW : DataW.Whole enc P f.params.toList s.vars apart W args.toList ds gs before)
    (hres : ∀ (b : Nat) (sp : Nat → Bool) (hd : Bool), DataW.TrodAll enc P W' b sp hd f.resultTypes.toList (v.resultList f.resultTypes.size) (s.fn H (ds ++ gs)).results [])
    (hargs : ∀ sp : Nat → Bool, (∀ p ∈ before, sp p.block = true) → DataW.TrodAll enc P W' 0 sp true f.params.toList args.toList (s.fn H (ds ++ gs)).args pa)
    (hvars : ∀ sp : Nat → Bool, (∀ p ∈ before, sp p.block = true) → DataW.TrodVars enc P W' sp s.vars (s.fn H (ds ++ gs)).vars pv)
    (hps : before = pa ++ pv) (hb : Below W.heap.size W W')
    (hok : ∀ (j : Nat) (t : TypeId) (r : Value), f.resultTypes[j]? = some t → (v.resultList f.resultTypes.size)[j]? = some r → Value.okWide P W' .any 0 t r) :
    s.post enc P f apart fresh handsOn again W args v W' := by
  have hlt : ∀ p ∈ before, p.block < W.heap.size := fun p hp => hW.lt p hp
  have hold : ∀ p ∈ before, (fun b => decide (b < W.heap.size)) p.block = true := fun p hp => by simpa using hlt p hp
  refine ⟨ds, gs, before, [], pa, pv, hW, hres _ _ _, hargs _ hold, hvars _ hold, World.keptBut_mono (fun p hp => ⟨hp, ?_⟩) (hb.frame (· ∈ before)), fun _ => ?_⟩
  · rw [hps, List.mem_append] at hp
    exact Or.inr hp
  · obtain ⟨_, _, _, _, _, hz, hn⟩ := hW
    refine ⟨hok, _, _, ([] ++ pa) ++ pv, ⟨[] ++ pa, pv, trodAll_append (hargs _ (fun _ _ => rfl)) (hres _ _ _), hvars _ (fun _ _ => rfl), rfl, ?_, ?_⟩, ?_⟩
    · intro b off hp
      have hin : MemPlace.cell b off ∈ before := by rw [hps]; simpa using hp
      rw [hb.frozen (hlt _ hin)]
      exact hz b off hin
    · intro ha
      have := hn ha
      rw [hps] at this
      simpa using this
    · intro p hp _
      rw [hps]
      simpa using hp
theorem trodAll_below (hl : laidOutB P = true) {W W' : World} (hb : Below W.heap.size W W') : ∀ {ts : List TypeId} {vs : List Value} {ds : List (DataW H)} {ps : List MemPlace},
    (∀ t ∈ ts, P.readableRec t = true ∧ t < P.types.size) → DataW.TrodAll enc P W 0 (fun _ => true) true ts vs ds ps → (∀ x ∈ ps, x.block < W.heap.size) → ∀ sp : Nat → Bool, (∀ p ∈ ps, sp p.block = true) →
    DataW.TrodAll enc P W' 0 sp true ts vs ds ps
  | [], _, _, _, _, h, _, _, _ => by
    obtain ⟨rfl, rfl, rfl⟩ := trodAll_nil h
    exact trodAll_mk0
  | t :: ts, vs, ds, ps, hts, h, hlt, sp, hsp => by
    obtain ⟨v, vs', d, ds', p, q, rfl, rfl, rfl, h0, r0⟩ := trodAll_cons h
    refine trodAll_cons_mk (WideElems.Trod_stays hl (hts t (by simp)).1 (hts t (by simp)).2 h0 (fun x hx => hb.same (hlt x (by simp [hx]))) (fun x hx => hsp x (by simp [hx]))) ?_
    exact trodAll_below hl hb (fun t ht => hts t (by simp [ht])) r0 (fun x hx => hlt x (by simp [hx])) sp (fun x hx => hsp x (by simp [hx]))
end
theorem laidOut : laidOutB Try.prog = true := by kernel_rfl
theorem own : ownKnob Try.prog.godebug = none := by kernel_rfl
open Go.RowKit Go.ChangeShapes Go.WideShapes Go.Deep
section
variable {H : Type} {enc : TypeId × Value → H} {P : Program} {w : World} {base : Nat} {spare : Nat → Bool} {held : Bool}
theorem open_slice_fields {t e : TypeId} {fs : Array Field} {fuel : Nat} {cs : List Value} {x : DataW H × List MemPlace} (ht : P.underlying t = some (.slice e)) (he : P.underlying e = some (.struct fs))
    (hone : oneCellFields P fs = true) (hC : P.cellsOf e = fs.size) (h : DataW.trod enc P w base spare held fuel t cs = some x) :
    (cs = [.slice none 0 0] ∧ x = (.nil, [])) ∨
    ∃ (a : Addr) (len cap m : Nat) (D : Nat → DataW H) (Pl : Nat → List MemPlace), cs = [.slice (some a) len cap] ∧ base ≤ a.block ∧ len ≤ cap ∧ cap ≤ maxLen ∧ m = (if spare a.block then cap else len) ∧
      x = (.slice ((List.range len).map D) ((List.range (m - len)).map fun j => D (len + j)), MemPlace.row a (m * fs.size) ++ (List.range m).flatMap Pl) ∧
      ∀ i, i < m → ∃ (ys : List (DataW H × List MemPlace)) (n : Nat), D i = .agg (ys.map (·.1)) ∧ Pl i = ys.flatMap (·.2) ∧ ys.length = fs.size ∧
        ∀ (j : Nat) (f : Field), fs[j]? = some f → ∃ (v : Value) (y : DataW H × List MemPlace), w.cell? (a.add (i * fs.size + j)) = some v ∧ ys[j]? = some y ∧ DataW.trod enc P w base spare held n f.type [v] = some y := by
  rcases open_slice ht h with h0 | ⟨a, len, cap, m, n, D, Pl, hcs, hb, hl, hm, hmm, hx, hi⟩
  · exact .inl h0
  · refine .inr ⟨a, len, cap, m, D, Pl, hcs, hb, hl, hm, hmm, by rw [hC] at hx; exact hx, fun i him => ?_⟩
    obtain ⟨cs', hc, ht'⟩ := hi i him
    rw [hC] at hc
    obtain ⟨ys, n', hn', hy, hlen, hyl, hf⟩ := DataW.trod_struct he ht'
    obtain ⟨_, hcl, hat⟩ := World.cells?_some hc
    simp only [Prod.mk.injEq] at hy
    refine ⟨ys, n', hy.1, hy.2, hyl, fun j f hj => ?_⟩
    obtain ⟨ho, hk⟩ := hone_of hone j f hj
    have hjl : j < fs.size := (Array.getElem?_eq_some_iff.1 hj).1
    have hcell := hat j hjl
    have hv : cs'[j]? = some (cs'[j]'(by omega)) := List.getElem?_eq_getElem (by omega)
    have h1 := hf j f hj
    rw [ho, hk] at h1
    have hone' : (cs'.drop j).take 1 = [cs'[j]'(by omega)] := by
      rw [List.drop_eq_getElem_cons (by omega)]
      rfl
    rw [hone'] at h1
    have hys : ys[j]? = some (ys[j]'(by omega)) := List.getElem?_eq_getElem (by omega)
    refine ⟨_, _, ?_, hys, h1.trans hys⟩
    rw [← Go.Deep.add_add, hcell, hv]
theorem add_plain (b o n : Nat) : (⟨b, o, none⟩ : Addr).add n = ⟨b, o + n, none⟩ := by unfold Addr.add; split <;> simp_all
theorem spot_none {a : Addr} {v : Value} (h : w.cell? a = some v) : a = ⟨a.block, a.off, none⟩ ∧ a.block < w.heap.size := by
  have hl := World.block_lt_of_cell? w a h
  refine ⟨?_, hl⟩
  obtain ⟨b, o, s⟩ := a
  unfold World.cell? at h
  cases s with
  | none => rfl
  | some s => split at h <;> simp at h
theorem len_map_range {α : Type} (f : Nat → α) (n : Nat) : ((List.range n).map f).length = n := by simp
theorem open_rules {t e : TypeId} {f0 f1 f2 : Field} {fuel : Nat} {v : Value} {x : DataW H × List MemPlace} (ht : P.underlying t = some (.slice e)) (he : P.underlying e = some (.struct #[f0, f1, f2]))
    (hone : oneCellFields P #[f0, f1, f2] = true) (hC : P.cellsOf e = 3) (h0 : P.underlying f0.type = some .string) (h1 : P.underlying f1.type = some (.int .i64)) (h2 : P.underlying f2.type = some (.int .i64))
    (h : DataW.trod enc P w base spare held fuel t [v] = some x) : ∃ xs : List GRule, Sl RuleE w w.heap.size v xs ∧ SmallL xs := by
  rcases open_slice_fields ht he hone hC h with ⟨hcs, _⟩ | ⟨a, len, cap, m, D, Pl, hcs, _, hl, hm, hmm, _, hf⟩
  · simp at hcs
    subst hcs
    exact ⟨[], SlS.nil _ _, fun r hr => by simp at hr⟩
  · simp at hcs
    subst hcs
    have hmle : len ≤ m := by rw [hmm]; split <;> omega
    have H : ∀ i, ∃ r : GRule, i < len → (w.cell? (a.add (i * 3)) = some (.string r.letter) ∧ w.cell? (a.add (i * 3 + 1)) = some (.int .i64 r.left) ∧ w.cell? (a.add (i * 3 + 2)) = some (.int .i64 r.right) ∧ r.letter.size ≤ maxLen) := by
      intro i
      by_cases hi : i < len
      · obtain ⟨ys, n, _, _, _, hx⟩ := hf i (by omega)
        obtain ⟨v0, y0, g0, _, t0⟩ := hx 0 f0 rfl
        obtain ⟨v1, y1, g1, _, t1⟩ := hx 1 f1 rfl
        obtain ⟨v2, y2, g2, _, t2⟩ := hx 2 f2 rfl
        obtain ⟨s, e0, _, hs⟩ := DataW.trod_string h0 t0
        obtain ⟨p, e1, _, _⟩ := DataW.trod_int h1 t1
        obtain ⟨q, e2, _, _⟩ := DataW.trod_int h2 t2
        simp at e0 e1 e2
        subst e0 e1 e2
        exact ⟨⟨s, p, q⟩, fun _ => ⟨by simpa using g0, g1, g2, hs⟩⟩
      · exact ⟨⟨⟨#[]⟩, 0, 0⟩, fun h => absurd h hi⟩
    obtain ⟨F, hF⟩ : ∃ F : Nat → GRule, ∀ i, i < len → (w.cell? (a.add (i * 3)) = some (.string (F i).letter) ∧ w.cell? (a.add (i * 3 + 1)) = some (.int .i64 (F i).left) ∧ w.cell? (a.add (i * 3 + 2)) = some (.int .i64 (F i).right) ∧ (F i).letter.size ≤ maxLen) :=
      ⟨fun i => Classical.choose (H i), fun i hi => Classical.choose_spec (H i) hi⟩
    clear H
    refine ⟨(List.range len).map F, ⟨some a, cap, by rw [len_map_range], by rw [len_map_range]; exact hl, hm, fun hn => ?_⟩, ?_⟩
    · rw [len_map_range] at hn
      obtain ⟨g0, _⟩ := hF 0 hn
      have ha : a.add (0 * 3) = a := by simp [Addr.add]
      rw [ha] at g0
      obtain ⟨hsp, hlt⟩ := spot_none g0
      refine ⟨a.block, a.off, by rw [← hsp], hlt, fun k r hr => ⟨r.cells, rfl, fun j u hu => ?_⟩⟩
      have hk : k < len := by
        have := (List.getElem?_eq_some_iff.1 hr).1
        rw [len_map_range] at this; exact this
      have er : F k = r := by
        rw [List.getElem?_map, List.getElem?_range hk] at hr; simpa using hr
      obtain ⟨g0, g1, g2, _⟩ := hF k hk
      rw [er, hsp, add_plain] at g0 g1 g2
      match j, hu with
      | 0, hu => simp [GRule.cells] at hu; subst hu; exact g0
      | 1, hu => simp [GRule.cells] at hu; subst hu; exact g1
      | 2, hu => simp [GRule.cells] at hu; subst hu; exact g2
      | j + 3, hu => simp [GRule.cells] at hu
    · intro r hr
      rw [List.mem_map] at hr
      obtain ⟨k, hk, rfl⟩ := hr
      have := (hF k (by simpa using hk)).2.2.2
      unfold maxLen at this
      exact this
theorem open_struct1 {t : TypeId} {f : Field} {v : Value} {d : DataW H} {p : List MemPlace} {r : Reach} {b0 : Nat} (hs : P.underlying t = some (.struct #[f])) (hone : oneCellFields P #[f] = true) (hC : P.cellsOf t = 1)
    (hv : Value.okWide P w r b0 t v) (h : DataW.Trod enc P w base spare held t v d p) : ∃ v0 n x, v = .agg #[v0] ∧ DataW.trod enc P w base spare held n f.type [v0] = some x := by
  obtain ⟨cs, rfl, hsz⟩ := okWide_struct hs hv
  obtain ⟨l⟩ := cs
  match l, hsz.trans hC with
  | [c0], _ =>
    obtain ⟨fuel, hf⟩ := h
    obtain ⟨xs, n, _, _, _, hlen, hg⟩ := DataW.trod_struct hs hf
    obtain ⟨o0, k0⟩ := hone_of hone 0 f rfl
    match xs, hlen with
    | [y0], _ => exact ⟨c0, n, y0, rfl, by simpa [Value.cells, o0, k0] using hg 0 f rfl⟩
end
set_option maxRecDepth 100000 in
theorem open_gram {H : Type} {enc : TypeId × Value → H} {w : World} {base : Nat} {spare : Nat → Bool} {held : Bool} {r : Reach} {b0 : Nat} {v : Value} {d : DataW H} {p : List MemPlace}
    (hv : Value.okWide Try.prog w r b0 24 v) (h : DataW.Trod enc Try.prog w base spare held 24 v d p) : ∃ v0 xs, v = .agg #[v0] ∧ Sl RuleE w w.heap.size v0 xs ∧ SmallL xs := by
  obtain ⟨v0, n, x, rfl, hx⟩ := open_struct1 Try.underlying24 (by kernel_rfl) (by kernel_rfl) hv h
  obtain ⟨xs, h1, h2⟩ := open_rules Try.underlying22 Try.underlying109 (by kernel_rfl) (by kernel_rfl) Try.underlying9 Try.underlying2 Try.underlying2 hx
  exact ⟨v0, xs, rfl, h1, h2⟩
open Go.RowKit Go.ChangeShapes Go.WideShapes Go.Deep
instance : Inhabited GRule := ⟨⟨⟨#[]⟩, 0, 0⟩⟩
end Go.Proofs.Ytfkijaamfmpboaa
