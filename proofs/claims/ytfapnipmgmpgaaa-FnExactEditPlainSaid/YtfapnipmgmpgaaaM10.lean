import Derived.Test.YtfapnipmgmpgaaaM8
import Derived.Test.YtfapnipmgmpgaaaM9
import Derived.Test.YtfapnipmgmpgaaaM6
namespace Go.Proofs.Ytfapnipmgmpgaaa
open Go.RowKit

/-- The letter of a word whose letters from i to m are mapped. -/
def mixB (s mp : ByteArray) (i m t : Nat) : UInt8 := if i ≤ t ∧ t < m then mapB mp (s.data.toList.getD t 0) else s.data.toList.getD t 0
def mixL (s mp : ByteArray) (i m : Nat) : List UInt8 := (List.range s.size).map (mixB s mp i m)
theorem mixL_len (s mp : ByteArray) (i m : Nat) : (mixL s mp i m).length = s.size := by simp [mixL]
theorem mix_list (f : UInt8 → UInt8) (l : List UInt8) (i m : Nat) (h1 : i ≤ m) (h2 : m ≤ l.length) :
    (List.range l.length).map (fun t => if i ≤ t ∧ t < m then f (l.getD t 0) else l.getD t 0) = l.take i ++ ((l.drop i).take (m - i)).map f ++ l.drop m := by
  apply List.ext_getElem
  · simp; omega
  · intro k hk1 hk2
    have hk : k < l.length := by simpa using hk1
    have hg : l.getD k 0 = l[k] := by simp [List.getD_eq_getElem?_getD, List.getElem?_eq_getElem hk]
    simp only [List.getElem_map, List.getElem_range, hg]
    by_cases c1 : k < i
    · rw [if_neg (by omega), List.getElem_append_left (by simp; omega), List.getElem_append_left (by simp; omega)]
      simp
    · by_cases c2 : k < m
      · rw [if_pos (by omega), List.getElem_append_left (by simp; omega), List.getElem_append_right (by simp; omega)]
        simp only [List.getElem_map, List.getElem_take, List.getElem_drop, List.length_take]
        congr 2
        omega
      · rw [if_neg (by omega), List.getElem_append_right (by simp; omega)]
        simp only [List.getElem_drop, List.length_append, List.length_take, List.length_map, List.length_drop]
        congr 1
        omega
theorem mixL_all (s mp : ByteArray) (i m : Nat) (h1 : i ≤ m) (h2 : m ≤ s.size) : (⟨(mixL s mp i m).toArray⟩ : ByteArray) = s.extract 0 i ++ ⟨((s.extract i m).data.toList.map (mapB mp)).toArray⟩ ++ s.extract m s.size := by
  have hl : s.size = s.data.toList.length := Lib.size_eq s
  apply ByteArray.ext
  apply Array.toList_inj.1
  simp only [ByteArray.data_append, Array.toList_append, Lib.extract_data]
  have := mix_list (mapB mp) s.data.toList i m h1 (by omega)
  rw [← hl] at this
  show mixL s mp i m = _
  rw [show mixL s mp i m = _ from this, List.drop_zero, Nat.sub_zero, List.take_of_length_le (l := s.data.toList.drop m) (by rw [List.length_drop]; omega)]
theorem keepO {wr W W2 : World} (h : Below wr.heap.size wr W) (h2 : Below W.heap.size W W2) : Below wr.heap.size wr W2 := h.trans (h2.mono h.size)
/-- A row of bytes whose letters from i to m are mapped. -/
def RowM (w : World) (b : Nat) (s mp : ByteArray) (i m : Nat) : Prop := ∀ t, t < s.size → w.cell? ⟨b, t, none⟩ = some (.int .u8 ((mixB s mp i m t).toNat : Int)) ∧ w.frozen? ⟨b, t, none⟩ = false
theorem RowM.drew {w : World} {b : Nat} {s mp : ByteArray} {i m : Nat} (h : RowM w b s mp i m) : RowM w.drew b s mp i m := h
theorem RowM.start {w : World} {b : Nat} {s mp : ByteArray} {i : Nat} (h : ∀ t (ht : t < s.data.toList.length), w.cell? ⟨b, t, none⟩ = some (.int .u8 (s.data.toList[t].toNat : Int)) ∧ w.frozen? ⟨b, t, none⟩ = false) : RowM w b s mp i i := by
  intro t ht
  have ht' : t < s.data.toList.length := by simpa using ht
  have := h t ht'
  rw [mixB, if_neg (by omega), List.getD_eq_getElem?_getD, List.getElem?_eq_getElem ht']
  exact this
theorem mixB_at {s mp : ByteArray} {i m : Nat} (hm : m < s.size) : (mixB s mp i m m) = s[m] := by
  rw [mixB, if_neg (by omega), List.getD_eq_getElem?_getD, List.getElem?_eq_getElem (by simpa using hm)]
  rfl
theorem RowM.step {w : World} {b : Nat} {s mp : ByteArray} {i m d : Nat} (h : RowM w b s mp i m) (hi : i ≤ m) (hm : m < s.size) (hd : s[m].toNat = 97 + d) (hd4 : d < mp.size) : RowM (w.setCell ⟨b, m, none⟩ (.int .u8 (mp[d].toNat : Int))) b s mp i (m + 1) := by
  have hv : mapB mp s[m] = mp[d] := by
    unfold mapB
    rw [hd, show 97 + d - 97 = d by omega]
    simp [Array.getD, hd4]
    rfl
  intro t ht
  obtain ⟨h1, h2⟩ := h t ht
  refine ⟨?_, by simpa using h2⟩
  by_cases e : t = m
  · subst e
    rw [mixB, if_pos (by omega), List.getD_eq_getElem?_getD, List.getElem?_eq_getElem (by simpa using hm)]
    rw [World.cell?_setCell_same' w ⟨b, t, none⟩ _ (by rw [h1]; rfl)]
    show _ = some (Value.int .u8 ((mapB mp s[t]).toNat : Int))
    rw [hv]
  · rw [World.cell?_setCell_other w _ _ _ (by intro h; injection h with _ h; omega), h1]
    have e2 : mixB s mp i (m + 1) t = mixB s mp i m t := by
      simp only [mixB]
      by_cases c : i ≤ t ∧ t < m
      · rw [if_pos c, if_pos ⟨c.1, by omega⟩]
      · rw [if_neg c, if_neg (by omega)]
    rw [e2]
theorem repeat_zero (s : ByteArray) (w : World) : Calls Try.prog 58 #[.string s, .int .i64 0] w fun e w' => e = .returned (.string ⟨([] : List UInt8).toArray⟩) ∧ Below w.heap.size w w' :=
  repeat_any s 0 w (by omega) (by omega) (.inl rfl)
theorem size_any (s : ByteArray) (w : World) : Calls Try.prog 51 #[.string s] w fun r w' => r = .returned (.int .i64 s.size) ∧ w' = w := by
  go_enter Try.func51, Try.ntmps51
  go_wp2
  go_ret
  exact ⟨rfl, rfl⟩
set_option maxRecDepth 100000 in
set_option maxHeartbeats 4000000 in
theorem implEditPlain_any (s : ByteArray) (v : Value) (e : GEdit) (w : World) (h : EditV w w.heap.size v e) (hn : e.part.length ≤ 1048576) (hm : e.map.size ≤ maxLen) (hs : s.size ≤ maxLen) :
    Calls Try.prog 11 #[.string s, v] w fun r w' => r = .returned (.tuple #[.string (epV s e), .int .i64 (epC s e)]) ∧ Below w.heap.size w w' := by
  have hV := fun o => (h.below ((Below.refl w.heap.size w).alloc (Nat.le_refl _) o)).le (B' := (w.alloc o).heap.size) (by simp)
  have HV := Lib.hid hV
  clear hV
  obtain ⟨vR, rfl, hR⟩ := h
  obtain ⟨AR, cR, rfl, _⟩ := hR
  go_enter Try.func11, Try.ntmps11
  go_wp2_with fail
  refine (size_any s _).mono ?_
  rintro r w' ⟨rfl, rfl⟩
  go_wp2_with fail
  refine (ValidWord_any s _ hs).mono ?_
  rintro r w' ⟨rfl, rfl⟩
  by_cases hw : wordOk s = true
  · have HW := Lib.hid hw
    have g0 : (!wordOk s) = false := by simp [hw]
    obtain ⟨hs2, hlet⟩ := wordOk_let hw
    have HLet := Lib.hid hlet
    clear hw hlet hs
    go_wp2_with fail
    refine (implValidEdit_any _ e _ (HV.out _) (by omega) hm).mono ?_
    rintro r w1 ⟨rfl, hb1⟩
    have z1 : w.heap.size < w1.heap.size := Nat.lt_of_lt_of_le (by simp) hb1.size
    have X1 := Lib.hid (Box6.new hb1)
    have V1 := Lib.hid ((HV.out _).up hb1)
    have B1 := Lib.hid (((Below.refl w.heap.size w).alloc (Nat.le_refl _) _).trans (hb1.mono (by simp)))
    clear hb1 HV g0
    obtain ⟨x0, x1, x2, x3, x4, x5⟩ := X1.out
    by_cases he : editOk e = true
    · have HE := Lib.hid he
      have g0 : (!editOk e) = false := by simp [he]
      have hG := editOk_get he
      have HG := Lib.hid hG.1
      clear he
      go_wp2_with fail
      refine (fits_any _ e s.size _ V1.out hG.1 hG.2.2.2.2.1).mono ?_
      rintro r w2 ⟨rfl, hb2⟩
      have z2 : w.heap.size < w2.heap.size := Nat.lt_of_lt_of_le z1 hb2.size
      have X2 := Lib.hid (X1.out.up hb2 z1)
      have V2 := Lib.hid (V1.out.up hb2)
      have B2 := Lib.hid (B1.out.trans (hb2.mono B1.out.size))
      clear hb2 x0 x1 x2 x3 x4 x5 X1 V1 g0
      obtain ⟨x0, x1, x2, x3, x4, x5⟩ := X2.out
      by_cases c3 : editFits e s.size = true
      · have C3 := Lib.hid c3
        have g3 : (!editFits e s.size) = false := by simp [c3]
        have hF := editFits_get hG.1 c3
        clear c3
        have hnn := editLen_nonneg HE.out C3.out (Int.natCast_nonneg s.size)
        go_wp2_with fail
        refine (grows_any _ e s.size _ V2.out HE.out (by omega) (Int.natCast_nonneg _) (by omega) C3.out).mono ?_
        rintro r w3 ⟨out, rfl, hout, hb3⟩
        have z3 : w.heap.size < w3.heap.size := Nat.lt_of_lt_of_le z2 hb3.size
        have X3 := Lib.hid (X2.out.up hb3 z2)
        have V3 := Lib.hid (V2.out.up hb3)
        have B3 := Lib.hid (B2.out.trans (hb3.mono B2.out.size))
        clear hb3 x0 x1 x2 x3 x4 x5 X2 V2 g3
        obtain ⟨x0, x1, x2, x3, x4, x5⟩ := X3.out
        by_cases c4 : editLen e s.size ≤ 2000
        · have C4 := Lib.hid c4
          have g4 : decide (editLen e s.size ≤ 1000000000000000) = true := by simp; omega
          have ho := hout (by omega)
          have g5 : (s.size : Int) + out = editLen e s.size := by omega
          have g6 : decide (2000 < editLen e s.size) = false := by simp; omega
          have wn : IntKind.i64.wrap ((s.size : Int) + out) = editLen e s.size := by rw [g5]; exact IntWalk.i64_in _ (by omega)
          rw [g4]
          clear hout ho g4 g5
          obtain ⟨pc, pv⟩ := epC_0 HW.out HE.out C3.out c4
          have PC := Lib.hid pc
          have PV := Lib.hid pv
          have HE7 := Lib.hid (fun hk => editOk_map HE.out hk)
          clear pc pv c4
          obtain ⟨ι, hι⟩ := Int.eq_ofNat_of_zero_le hG.2.1.1
          obtain ⟨φ, hφ⟩ := Int.eq_ofNat_of_zero_le hG.2.2.1.1
          obtain ⟨κ, hκ⟩ := Int.eq_ofNat_of_zero_le hG.2.2.2.1.1
          have hij := hG.2.2.2.2.1
          have hκ15 := hG.2.2.2.1.2
          rw [hκ] at hκ15
          have Hκ15 := Lib.hid hκ15
          obtain ⟨hF1, hF2, hF3, hF4, C3k⟩ := hF
          rw [hκ] at C3k
          rw [hι] at x1 hij hF1 hF3 hF4
          rw [hφ] at x2 hij hF2 hF4
          rw [hκ] at x3 hF3 hF4
          have Hι := Lib.hid hι
          have Hφ := Lib.hid hφ
          have Hκ := Lib.hid hκ
          clear hG hι hφ hκ hκ15 hnn
          go_wp2_with fail
          go_quiet (fail)
          have b4 : Below w.heap.size w (w3.drewN nq) := B3.out.trans ((below_drewN (Below.refl _ _) _).mono B3.out.size)
          have y0 : (w3.drewN nq).cell? ⟨w.heap.size, 0, none⟩ = some (.int .i64 e.kind) := by simpa using x0
          have y4 : (w3.drewN nq).cell? ⟨w.heap.size, 4, none⟩ = some (.slice AR e.part.length cR) := by simpa using x4
          have y5 : (w3.drewN nq).cell? ⟨w.heap.size, 5, none⟩ = some (.string e.map) := by simpa using x5
          have z4 : w.heap.size < (w3.drewN nq).heap.size := by simpa using z3
          have V4 := Lib.hid (V3.out.up (below_drewN (Below.refl _ _) nq))
          have B4 := Lib.hid b4
          clear b4 x0 x1 x2 x3 x4 x5 X3 V3 wn g6
          revert y0 y4 y5 z4 V4 B4
          generalize w3.drewN nq = w4
          intro y0 y4 y5 z4 V4 B4
          rcases kind7 HG.out with hk | hk | hk | hk | hk | hk | hk
          · have hf := hF1 hk
            have hP := plainB_1 hk Hι.out (s := s)
            have HP := Lib.hid hP
            obtain ⟨ls, hls⟩ := (gram_lens (editOk_get HE.out).2.2.2.2.2.2).2
            have hwl := wordG_len hls
            have hgl : gramLen e.part = lastI ls := gramLen_of hls
            have hlen1 : lastI ls ≤ 2000 := by
              have h := C4.out
              rw [editLen, if_pos hk, hgl] at h
              omega
            have hTl : (wordG e.part).length ≤ 2000 := by omega
            have hg := (editOk_get HE.out).2.2.2.2.2.2
            have hU : upV e.part = wordG e.part ∧ upC e.part = 0 := by simp [upV, upC, hg, hTl]
            rw [hk] at y0
            obtain ⟨vR', ev, hsl⟩ := V4.out
            have ev2 : vR' = .slice AR e.part.length cR := by simp at ev; first | exact ev.symm | exact ev
            subst ev2
            clear hF1 hF2 hF3 hF4 C3k hij hk hP
            have l1 : ι ≤ s.size := by omega
            have HT := Lib.hid (fun W hs => unpackWord_any (.slice AR e.part.length cR) e.part W hs hn)
            have HSl := Lib.hid hsl
            rw [hU.1, hU.2] at HT
            obtain ⟨T, hT⟩ : ∃ T, wordG e.part = T := ⟨_, rfl⟩
            rw [hT] at HT HP hTl
            have n1 : ¬ 9223372036854775807 < ι + T.length := by omega
            have n2 : ¬ 9223372036854775807 < ι + T.length + (s.size - ι) := by omega
            clear hT hwl hlen1 hls hgl hg hU hsl ev
            go_wp2_with fail
            refine (HT.out _ HSl.out).mono ?_
            rintro r w5 ⟨rfl, hb5⟩
            go_wp2_with fail
            go_quiet (fail)
            go_wp2_with fail
            go_ret2
            exact ⟨by rw [PC.out, PV.out, HP.out]; rfl, B4.out.trans ((hb5.trans ((below_drewN (Below.refl _ _) _).mono hb5.size)).mono B4.out.size)⟩
          · have hf := hF2 (by omega)
            have hi := hij (by omega)
            have hP := plainB_2 hk Hι.out Hφ.out (s := s)
            have HP := Lib.hid hP
            rw [hk] at y0
            clear hF1 hF2 hF3 hF4 C3k hij hk hP
            have l1 : ι ≤ s.size := by omega
            have l2 : φ ≤ s.size := by omega
            go_wp2_with fail
            go_quiet (fail)
            go_wp2_with fail
            go_ret2
            exact ⟨by rw [PC.out, PV.out, HP.out]; rfl, B4.out.trans ((below_drewN (Below.refl _ _) _).mono B4.out.size)⟩
          · have hf := hF2 (by omega)
            have hi := hij (by omega)
            have hc := hF3 (by omega)
            have hP := plainB_3 hk Hι.out Hφ.out Hκ.out (s := s)
            have HP := Lib.hid hP
            rw [hk] at y0
            have l0 : κ ≤ s.size := by
              have := C3k hk
              omega
            clear hF1 hF2 hF3 hF4 hij hk hP
            have l1 : ι ≤ s.size := by omega
            have l2 : φ ≤ s.size := by omega
            have l3 : ι ≤ φ := by omega
            go_wp2_with fail
            go_quiet (fail)
            go_wp2_with fail
            go_ret2
            exact ⟨by rw [PC.out, PV.out, HP.out]; rfl, B4.out.trans ((below_drewN (Below.refl _ _) _).mono B4.out.size)⟩
          · have hf := hF2 (by omega)
            have hi := hij (by omega)
            have hc := hF3 (by omega)
            have hd := hF4 (by omega)
            rw [hk] at y0
            have l1 : ι ≤ s.size := by omega
            have l2 : φ ≤ s.size := by omega
            have l3 : ι ≤ φ := by omega
            by_cases hki : κ ≤ ι
            · have hP := plainB_4a hk Hι.out Hφ.out Hκ.out hki (s := s)
              have HP := Lib.hid hP
              have l0 : κ ≤ s.size := by omega
              clear hF1 hF2 hF3 hF4 hij hk hP hc hd
              go_wp2_with fail
              go_quiet (fail)
              go_wp2_with fail
              go_ret2
              exact ⟨by rw [PC.out, PV.out, HP.out]; rfl, B4.out.trans ((below_drewN (Below.refl _ _) _).mono B4.out.size)⟩
            · have hP := plainB_4b hk Hι.out Hφ.out Hκ.out hki (s := s)
              have HP := Lib.hid hP
              have l0 : κ ≤ s.size := by omega
              have l4 : φ ≤ κ := by omega
              clear hF1 hF2 hF3 hF4 hij hk hP hc hd
              go_wp2_with fail
              go_quiet (fail)
              go_wp2_with fail
              go_ret2
              exact ⟨by rw [PC.out, PV.out, HP.out]; rfl, B4.out.trans ((below_drewN (Below.refl _ _) _).mono B4.out.size)⟩
          · have hf := hF2 (by omega)
            have hi := hij (by omega)
            have hP := plainB_5 hk Hι.out Hφ.out (s := s)
            have HP := Lib.hid hP
            rw [hk] at y0
            clear hF1 hF2 hF3 hF4 C3k hij hk hP
            have l1 : ι ≤ s.size := by omega
            have l2 : φ ≤ s.size := by omega
            have l3 : ι ≤ φ := by omega
            obtain ⟨T, hT⟩ : ∃ T, (s.extract ι φ).data.toList.reverse = T := ⟨_, rfl⟩
            have hTl : T.length ≤ 2000 := by rw [← hT]; simp; omega
            have HT := Lib.hid (fun W => turned_any (s.extract ι φ) W (by simp; omega))
            rw [hT] at HT HP
            have n1 : ¬ 9223372036854775807 < ι + T.length := by omega
            have n2 : ¬ 9223372036854775807 < ι + T.length + (s.size - φ) := by omega
            clear hT
            go_wp2_with fail
            have KB := drewB (w := w4)
            go_region_held3 (fun w' => Below w4.heap.size w4 w')
              (first | (with_reducible exact KB) | (with_reducible exact keepO KB hb5))
              (first
                | (go_at_call 57; (with_reducible refine (HT.out _).mono ?_); rintro r w5 ⟨rfl, hb5⟩))
            go_wp2_with fail
            go_ret2
            exact ⟨by rw [PC.out, PV.out, HP.out]; rfl, B4.out.trans ((keepO KB hb5).mono B4.out.size)⟩
          · have hf := hF2 (by omega)
            have hi := hij (by omega)
            have hlen6 : (φ - ι) * κ ≤ 2000 := by
              have h := C4.out
              rw [editLen, if_neg (by omega), if_neg (by omega), if_neg (by omega), if_pos hk, Hι.out, Hφ.out, Hκ.out] at h
              have e1 : ((φ : Int) - ι) * κ = (((φ - ι) * κ : Nat) : Int) := by rw [Int.natCast_mul, Int.natCast_sub (by omega)]
              rw [e1] at h
              omega
            rw [hk] at y0
            have l1 : ι ≤ s.size := by omega
            have l2 : φ ≤ s.size := by omega
            have l3 : ι ≤ φ := by omega
            have lκ : κ ≤ 1000000000000000 := by have := Hκ15.out; omega
            by_cases heq : ι = φ
            · have hP := plainB_6a hk Hι.out Hφ.out heq (s := s)
              have HP := Lib.hid hP
              have g6 : ((ι : Int) == (φ : Int)) = true := by simp [heq]
              have HT := Lib.hid (fun W => repeat_zero (s.extract ι φ) W)
              have hfin : s.extract 0 ι ++ (⟨([] : List UInt8).toArray⟩ : ByteArray) ++ s.extract φ s.size = s := by
                rw [heq]
                apply ByteArray.ext
                apply Array.toList_inj.1
                simp only [ByteArray.data_append, Array.toList_append, Lib.extract_data]
                rw [List.drop_zero, Nat.sub_zero, List.take_of_length_le (l := s.data.toList.drop φ) (by rw [List.length_drop, ← Lib.size_eq]; omega)]
                simp
              obtain ⟨T, hT⟩ : ∃ T, ([] : List UInt8) = T := ⟨_, rfl⟩
              have hTl : T.length = 0 := by rw [← hT]; rfl
              rw [hT] at HT hfin
              have n1 : ¬ 9223372036854775807 < ι + T.length := by omega
              have n2 : ¬ 9223372036854775807 < ι + T.length + (s.size - φ) := by omega
              have HF := Lib.hid hfin
              clear hT hTl
              clear hF1 hF2 hF3 hF4 C3k hij hk hP heq hlen6 hfin
              go_wp2_with fail
              have KB := drewB (w := w4)
              go_region_held3 (fun w' => Below w4.heap.size w4 w')
                (first | (with_reducible exact KB) | (with_reducible exact keepO KB hb5))
                (first
                  | (go_at_call 58; (with_reducible refine (HT.out _).mono ?_); rintro r w5 ⟨rfl, hb5⟩))
              go_wp2_with fail
              go_ret2
              exact ⟨by rw [PC.out, PV.out, HP.out, HF.out]; rfl, B4.out.trans ((keepO KB hb5).mono B4.out.size)⟩
            · have hP := plainB_6b hk Hι.out Hφ.out Hκ.out heq (s := s)
              have HP := Lib.hid hP
              have g6 : ((ι : Int) == (φ : Int)) = false := by rw [beq_eq_false_iff_ne]; omega
              obtain ⟨T, hT⟩ : ∃ T, repL (s.extract ι φ).data.toList κ = T := ⟨_, rfl⟩
              have hsz : (s.extract ι φ).size = φ - ι := by simp; omega
              have hTl : T.length ≤ 2000 := by
                rw [← hT, repL_len, ← Lib.size_eq, hsz, Nat.mul_comm]; exact hlen6
              have HT := Lib.hid (fun W => repeat_any (s.extract ι φ) κ W lκ (by rw [hsz]; exact Nat.le_trans hlen6 (by decide)) (.inr ⟨by omega, fun h => (extract_let HLet.out 0 h).1⟩))
              rw [hT] at HT HP
              have n1 : ¬ 9223372036854775807 < ι + T.length := by omega
              have n2 : ¬ 9223372036854775807 < ι + T.length + (s.size - φ) := by omega
              clear hF1 hF2 hF3 hF4 C3k hij hk hP heq hlen6 hT hsz
              go_wp2_with fail
              have KB := drewB (w := w4)
              go_region_held3 (fun w' => Below w4.heap.size w4 w')
                (first | (with_reducible exact KB) | (with_reducible exact keepO KB hb5))
                (first
                  | (go_at_call 58; (with_reducible refine (HT.out _).mono ?_); rintro r w5 ⟨rfl, hb5⟩))
              go_wp2_with fail
              go_ret2
              exact ⟨by rw [PC.out, PV.out, HP.out]; rfl, B4.out.trans ((keepO KB hb5).mono B4.out.size)⟩
          · have hf := hF2 (by omega)
            have hi := hij (by omega)
            have hP := plainB_7 hk Hι.out Hφ.out (s := s)
            have hm4 := HE7.out hk
            rw [hk] at y0
            clear hF1 hF2 hF3 hF4 C3k hij hk
            have l1 : ι ≤ s.size := by omega
            have l2 : φ ≤ s.size := by omega
            have l3 : ι ≤ φ := by omega
            rw [← mixL_all s e.map ι φ l3 l2] at hP
            have HP := Lib.hid hP
            clear hP
            go_wp2_with fail
            rw [Lib.run_convert_string_bytes w4 _ _ 5 s Try.underlying9 Try.underlying56 Try.underlying5]
            simp only [Result.andThen]
            rw [Oper.upon_value]
            have hb5 : Below w4.heap.size w4 (Lib.bytesWorld w4 5 s) := ⟨rfl, rfl, rfl, by rw [Lib.bytesWorld_size]; omega, fun j hj => Lib.bytesWorld_at_old w4 5 s j hj⟩
            have hc5 : ∀ t (ht : t < s.data.toList.length), (Lib.bytesWorld w4 5 s).cell? ⟨w4.heap.size, t, none⟩ = some (.int .u8 (s.data.toList[t].toNat : Int)) ∧ (Lib.bytesWorld w4 5 s).frozen? ⟨w4.heap.size, t, none⟩ = false := by
              intro t ht
              have ht' : t < s.size := by simpa using ht
              refine ⟨?_, ?_⟩
              · rw [Lib.bytesWorld_cell w4 _ s t ht', List.getD_eq_getElem?_getD, List.getElem?_eq_getElem ht]; rfl
              · have hz : t < (Lib.bytesCells w4 5 s).size := by simp [Lib.bytesCells]; omega
                simp [World.frozen?, Lib.bytesWorld_at_new]
                omega
            have HR5 := Lib.hid (RowM.start (mp := e.map) (i := ι) hc5)
            have hz5 : w4.heap.size < (Lib.bytesWorld w4 5 s).heap.size := by rw [Lib.bytesWorld_size]; omega
            have u5 := (hb5.cell (p := ⟨w.heap.size, 5, none⟩) z4).trans y5
            have B5 := Lib.hid (B4.out.trans (hb5.mono B4.out.size))
            clear hb5 hc5 y0 y4 y5
            revert HR5 hz5 u5 B5
            generalize Lib.bytesWorld w4 5 s = w5
            generalize grownCap w4 s.size 0 5 = cp
            intro HR5 hz5 u5 B5
            go_wp2_with fail
            go_loopw [15] (fun a wx => ∃ m : Nat, ι ≤ m ∧ m ≤ φ ∧ a = .int .i64 (m : Int) ∧ RowM wx w4.heap.size s e.map ι m ∧ wx.cell? ⟨w.heap.size, 5, none⟩ = some (.string e.map) ∧ Below w.heap.size w wx) (fun a _ => (φ - intOf a).toNat)
            case atStart => exact ⟨ι, Nat.le_refl _, l3, rfl, HR5.out, u5, B5.out⟩
            case round =>
              obtain ⟨m, hm1, hm2, rfl, hrow, v5, hbw⟩ := hrel
              have Hrow := Lib.hid hrow
              have Hbw := Lib.hid hbw
              by_cases hlt : m < φ
              · have hlt2 : m < s.size := by omega
                obtain ⟨h97, h100⟩ := HLet.out m hlt2
                obtain ⟨d, hd⟩ : ∃ d, s[m].toNat = 97 + d := ⟨s[m].toNat - 97, by omega⟩
                have hd4 : d < e.map.size := by omega
                have hd5 : (d : Int) < 4 := by omega
                have hw8 : IntKind.u8.wrap (d : Int) = (d : Int) := IntWalk.u8_in _ (by omega)
                have e1 : ((s[m].toNat : Nat) : Int) - 97 = (d : Int) := by omega
                have e2 : (d : Int) < 256 := by omega
                obtain ⟨hcm, hfm⟩ := hrow m hlt2
                have Hd := Lib.hid hd
                clear hd h97 h100 hrow hbw
                go_wp2_with fail
                go_region
                go_wp2_with fail
                refine ⟨⟨m + 1, by omega, by omega, rfl, (Hrow.out.drew).step hm1 hlt2 Hd.out hd4, ?_, ?_⟩, by simp [intOf]; omega⟩
                · exact (World.cell?_setCell_far _ ⟨w4.heap.size, m, none⟩ ⟨w.heap.size, 5, none⟩ _ (by show w4.heap.size ≠ w.heap.size; omega)).trans v5
                · exact Hbw.out.drew.setCell (p := ⟨w4.heap.size, m, none⟩) (Nat.le_of_lt z4) _
              · have hmn : m = φ := by omega
                subst hmn
                have hcv := convB (mixL s e.map ι m) w4.heap.size 0 s.size cp wr (by rw [mixL_len]) (fun t ht => by
                  have ht' : t < s.size := by rw [mixL_len] at ht; exact ht
                  rw [Nat.zero_add, (hrow t ht').1]
                  simp [mixL])
                clear hrow hbw
                go_wp2_with fail
                go_ret2
                exact ⟨by rw [PC.out, PV.out, HP.out]; rfl, Hbw.out⟩
        · have g0 : editLen e s.size < 0 ∨ 0 ≤ editLen e s.size := by omega
          obtain ⟨pc, pv⟩ := epC_3 HW.out HE.out C3.out c4
          have PC := Lib.hid pc
          have PV := Lib.hid pv
          clear pc pv
          by_cases c5 : editLen e s.size ≤ 1000000000000000
          · have g4 : decide (editLen e s.size ≤ 1000000000000000) = true := by simp; omega
            have ho := hout (by omega)
            have g5 : (s.size : Int) + out = editLen e s.size := by omega
            have g6 : decide (2000 < editLen e s.size) = true := by simp; omega
            have wn : IntKind.i64.wrap ((s.size : Int) + out) = editLen e s.size := by rw [g5]; exact IntWalk.i64_in _ (by omega)
            rw [g4]
            clear hout ho g4 g5 g0 hF hG hnn c4 c5
            go_wp2_with fail
            go_ret2
            exact ⟨by rw [PC.out, PV.out]; rfl, B3.out⟩
          · have g4 : decide (editLen e s.size ≤ 1000000000000000) = false := by simp; omega
            rw [g4]
            clear hout g4 g0 hF hG hnn c4 c5
            go_wp2_with fail
            go_ret2
            exact ⟨by rw [PC.out, PV.out]; rfl, B3.out⟩
      · have c3' : editFits e s.size = false := by simpa using c3
        have g3 : (!editFits e s.size) = true := by simp [c3']
        obtain ⟨pc, pv⟩ := epC_2 HW.out HE.out c3'
        have PC := Lib.hid pc
        have PV := Lib.hid pv
        clear pc pv c3 c3'
        go_wp2_with fail
        go_ret2
        exact ⟨by rw [PC.out, PV.out]; rfl, B2.out⟩
    · have he' : editOk e = false := by simpa using he
      have g0 : (!editOk e) = true := by simp [he']
      obtain ⟨pc, pv⟩ := epC_1 (s := s) (e := e) (.inr he')
      have PC := Lib.hid pc
      have PV := Lib.hid pv
      clear pc pv he he'
      go_wp2_with fail
      go_ret2
      exact ⟨by rw [PC.out, PV.out]; rfl, B1.out⟩
  · have hw' : wordOk s = false := by simpa using hw
    have g0 : (!wordOk s) = true := by simp [hw']
    obtain ⟨pc, pv⟩ := epC_1 (s := s) (e := e) (.inl hw')
    have PC := Lib.hid pc
    have PV := Lib.hid pv
    clear pc pv hw hw' hs
    go_wp2_with fail
    go_ret2
    exact ⟨by rw [PC.out, PV.out]; rfl, (by repeat (first | exact Below.refl _ _ | (refine Below.alloc ?_ (by first | omega | (simp; done) | (simp; omega)) _) | refine below_drewN ?_ _ | refine Below.drew ?_))⟩
end Go.Proofs.Ytfapnipmgmpgaaa

namespace Go.Proofs.Ytfapnipmgmpgaaa
open Go.RowKit

set_option maxRecDepth 100000 in
set_option maxHeartbeats 4000000 in
theorem l07Place_any (b : Nat) (vR : Value) (e : GEdit) (n p : Int) (w : World) (h : EditAt w w.heap.size b e vR) (he : editOk e = true) (hsm : SmallL e.part) (hn : e.part.length ≤ 1099511627776) (hp : 0 ≤ p ∧ p ≤ n) (hn1 : n ≤ 1000000000000000) (hf : editFits e n = true) (hl : editLen e n ≤ 1000000000000000) :
    Calls Try.prog 89 #[.pointer (some ⟨b, 0, none⟩), .int .i64 p] w fun r w' => r = .returned (.int .i64 (placeP e p)) ∧ Below w.heap.size w w' := by
  obtain ⟨g1, g2, g3, g4, g5, g6, g7⟩ := editOk_get he
  clear he
  have HH := Lib.hid h
  have hless : ∀ q, 0 ≤ q ∧ q ≤ 1000000000000000 → ∀ W, EditAt W W.heap.size b e vR → Calls Try.prog 120 #[.pointer (some ⟨b, 0, none⟩), .int .i64 q] W fun r w' => r = .returned (.int .i64 (lessP e q)) ∧ Below W.heap.size W w' :=
    fun q hq W hW => l07Less_any b vR e q W hW hq g2 g3
  have HLs := Lib.hid hless
  clear hless
  have hbd : ∀ q, 0 ≤ q ∧ q ≤ 1000000000000000 → -1000000000000000 ≤ lessP e q ∧ lessP e q ≤ 2000000000000000 := by
    intro q hq; unfold lessP; split
    · omega
    · split <;> omega
  obtain ⟨k, i, j, kk, part, map⟩ := e
  obtain ⟨⟨x0, x1, x2, x3, x4, x5⟩, hlt, hR⟩ := h
  have HR := Lib.hid hR
  simp only at g1 g2 g3 g4 g5 g6 g7 hn hsm x0 x1 x2 x3 x4 x5
  have hlb := gramLen_bounds part
  obtain ⟨_, ls, hll⟩ := gram_lens g7
  have Hl := Lib.hid hll
  have hgl := gramLen_of hll
  have wji : IntKind.i64.wrap (j - i) = j - i := IntWalk.i64_in _ (by omega)
  have Hbd := Lib.hid hbd
  have HF := Lib.hid hf
  have HL := Lib.hid hl
  clear hll g7 hf hR hl hbd
  have go1 : ∀ (ins : Bool), (decide (i < p) && decide (p < j)) = ins → True := fun _ _ => trivial
  clear go1
  rcases kind7 g1 with rfl | rfl | rfl | rfl | rfl | rfl | rfl
  · -- insert
    have hj0 : j = 0 := g6 rfl
    subst hj0
    have wng : IntKind.i64.wrap (-i) = -i := IntWalk.i64_in _ (by omega)
    have wn : IntKind.i64.wrap (p + lastI ls) = p + lastI ls := IntWalk.i64_in _ (by omega)
    have HG := Lib.hid hgl
    clear hgl
    by_cases c : i < p
    · have c1 : decide (i < p) = true := by simp [c]
      have c2 : decide (p < 0) = false := by simp; omega
      go_enter Try.func89, Try.ntmps89
      go_wp2_with fail
      go_quiet (fail)
      go_wp2_with fail
      refine (l02Length_any b 4 _ part ls _ Hl.out (by simpa using x4) (by simpa using hlt) (HR.out.up (below_drewN (Below.refl _ _) _)) hsm hn).mono ?_
      rintro r w1 ⟨rfl, hb1⟩
      go_wp2_with fail
      go_ret
      exact ⟨ret_int (by simp [placeP, HG.out, c]), (below_drewN (Below.refl _ _) _).trans hb1⟩
    · have c1 : decide (i < p) = false := by simp; omega
      go_enter Try.func89, Try.ntmps89
      go_wp2_with fail
      go_quiet (fail)
      go_wp2_with fail
      go_ret
      exact ⟨ret_int (by simp [placeP, of_decide_eq_false c1]), (by repeat (first | exact Below.refl _ _ | (refine Below.alloc ?_ (by first | omega | (simp; done) | (simp; omega)) _) | refine below_drewN ?_ _ | refine Below.drew ?_))⟩
  · -- kind 2
    by_cases cA : i < p
    · have a1 : decide (i < p) = true := by simp [cA]
      have HA := Lib.hid cA
      by_cases cB : p < j
      · have b1 : decide (p < j) = true := by simp [cB]
        have HB := Lib.hid cB
        clear cA cB
        go_enter Try.func89, Try.ntmps89
        go_wp2_with fail
        go_quiet (fail)
        go_wp2_with fail
        refine (HLs.out p (by omega) _ (HH.out.up (below_drewN (Below.refl _ _) _))).mono ?_
        rintro r w1 ⟨rfl, hb1⟩
        go_wp2_with fail
        go_ret
        exact ⟨ret_int (by simp [placeP]), (below_drewN (Below.refl _ _) _).trans hb1⟩
      · have b1 : decide (p < j) = false := by simp; omega
        have HB := Lib.hid cB
        clear cA cB
        go_enter Try.func89, Try.ntmps89
        go_wp2_with fail
        go_quiet (fail)
        go_wp2_with fail
        refine (HLs.out p (by omega) _ (HH.out.up (below_drewN (Below.refl _ _) _))).mono ?_
        rintro r w1 ⟨rfl, hb1⟩
        go_wp2_with fail
        go_ret
        exact ⟨ret_int (by simp [placeP]), (below_drewN (Below.refl _ _) _).trans hb1⟩
    · have a1 : decide (i < p) = false := by simp; omega
      have HA := Lib.hid cA
      clear cA
      go_enter Try.func89, Try.ntmps89
      go_wp2_with fail
      go_quiet (fail)
      go_wp2_with fail
      refine (HLs.out p (by omega) _ (HH.out.up (below_drewN (Below.refl _ _) _))).mono ?_
      rintro r w1 ⟨rfl, hb1⟩
      go_wp2_with fail
      go_ret
      exact ⟨ret_int (by simp [placeP]), (below_drewN (Below.refl _ _) _).trans hb1⟩
  · -- kind 3
    have wc3 : IntKind.i64.wrap (p + (j - i)) = p + (j - i) := IntWalk.i64_in _ (by omega)
    by_cases cA : i < p
    · have a1 : decide (i < p) = true := by simp [cA]
      have HA := Lib.hid cA
      by_cases cB : p < j
      · have b1 : decide (p < j) = true := by simp [cB]
        have HB := Lib.hid cB
        clear cA cB
        by_cases cC : kk < p
        · have HC := Lib.hid cC
          go_enter Try.func89, Try.ntmps89
          go_wp2_with fail
          go_quiet (fail)
          go_wp2_with fail
          go_ret
          exact ⟨ret_int (by simp [placeP, HC.out]), (by repeat (first | exact Below.refl _ _ | (refine Below.alloc ?_ (by first | omega | (simp; done) | (simp; omega)) _) | refine below_drewN ?_ _ | refine Below.drew ?_))⟩
        · have HC := Lib.hid cC
          have d1 : decide (kk < p) = false := by simp; omega
          go_enter Try.func89, Try.ntmps89
          go_wp2_with fail
          go_quiet (fail)
          go_wp2_with fail
          go_ret
          exact ⟨ret_int (by simp [placeP, of_decide_eq_false d1]), (by repeat (first | exact Below.refl _ _ | (refine Below.alloc ?_ (by first | omega | (simp; done) | (simp; omega)) _) | refine below_drewN ?_ _ | refine Below.drew ?_))⟩
      · have b1 : decide (p < j) = false := by simp; omega
        have HB := Lib.hid cB
        clear cA cB
        by_cases cC : kk < p
        · have HC := Lib.hid cC
          go_enter Try.func89, Try.ntmps89
          go_wp2_with fail
          go_quiet (fail)
          go_wp2_with fail
          go_ret
          exact ⟨ret_int (by simp [placeP, HC.out]), (by repeat (first | exact Below.refl _ _ | (refine Below.alloc ?_ (by first | omega | (simp; done) | (simp; omega)) _) | refine below_drewN ?_ _ | refine Below.drew ?_))⟩
        · have HC := Lib.hid cC
          have d1 : decide (kk < p) = false := by simp; omega
          go_enter Try.func89, Try.ntmps89
          go_wp2_with fail
          go_quiet (fail)
          go_wp2_with fail
          go_ret
          exact ⟨ret_int (by simp [placeP, of_decide_eq_false d1]), (by repeat (first | exact Below.refl _ _ | (refine Below.alloc ?_ (by first | omega | (simp; done) | (simp; omega)) _) | refine below_drewN ?_ _ | refine Below.drew ?_))⟩
    · have a1 : decide (i < p) = false := by simp; omega
      have HA := Lib.hid cA
      clear cA
      by_cases cC : kk < p
      · have HC := Lib.hid cC
        go_enter Try.func89, Try.ntmps89
        go_wp2_with fail
        go_quiet (fail)
        go_wp2_with fail
        go_ret
        exact ⟨ret_int (by simp [placeP, HC.out]), (by repeat (first | exact Below.refl _ _ | (refine Below.alloc ?_ (by first | omega | (simp; done) | (simp; omega)) _) | refine below_drewN ?_ _ | refine Below.drew ?_))⟩
      · have HC := Lib.hid cC
        have d1 : decide (kk < p) = false := by simp; omega
        go_enter Try.func89, Try.ntmps89
        go_wp2_with fail
        go_quiet (fail)
        go_wp2_with fail
        go_ret
        exact ⟨ret_int (by simp [placeP, of_decide_eq_false d1]), (by repeat (first | exact Below.refl _ _ | (refine Below.alloc ?_ (by first | omega | (simp; done) | (simp; omega)) _) | refine below_drewN ?_ _ | refine Below.drew ?_))⟩
  · -- kind 4
    by_cases cA : i < p
    · have a1 : decide (i < p) = true := by simp [cA]
      have HA := Lib.hid cA
      by_cases cB : p < j
      · have b1 : decide (p < j) = true := by simp [cB]
        have HB := Lib.hid cB
        clear cA cB
        have b0 := Hbd.out kk (by omega)
        go_enter Try.func89, Try.ntmps89
        go_wp2_with fail
        go_quiet (fail)
        go_wp2_with fail
        refine (HLs.out kk (by omega) _ (HH.out.up (below_drewN (Below.refl _ _) _))).mono ?_
        rintro r w1 ⟨rfl, hb1⟩
        have x1' := (hb1.cell (p := ⟨b, 1, none⟩) hlt).trans (show (w.drewN _).cell? ⟨b, 1, none⟩ = _ from x1)
        have HB1 := Lib.hid ((below_drewN (Below.refl _ _) _).trans hb1)
        have HH1 := Lib.hid ((HH.out.up (below_drewN (Below.refl _ _) _)).up hb1)
        clear hb1 x0 x1 x2 x3 x4 x5
        obtain ⟨T, hT⟩ : ∃ T, lessP ⟨4, i, j, kk, part, map⟩ kk = T := ⟨_, rfl⟩
        rw [hT] at b0
        rw [hT]
        have wa : IntKind.i64.wrap (T + p) = T + p := IntWalk.i64_in _ (by omega)
        have wb : IntKind.i64.wrap (T + p - i) = T + p - i := IntWalk.i64_in _ (by omega)
        have HT := Lib.hid hT
        clear hT
        go_wp2_with fail
        go_ret
        exact ⟨ret_int (by simp [placeP, HA.out, HB.out, HT.out]), HB1.out⟩
      · have b1 : decide (p < j) = false := by simp; omega
        have HB := Lib.hid cB
        clear cA cB
        have b0 := Hbd.out kk (by omega)
        go_enter Try.func89, Try.ntmps89
        go_wp2_with fail
        go_quiet (fail)
        go_wp2_with fail
        refine (HLs.out kk (by omega) _ (HH.out.up (below_drewN (Below.refl _ _) _))).mono ?_
        rintro r w1 ⟨rfl, hb1⟩
        have x1' := (hb1.cell (p := ⟨b, 1, none⟩) hlt).trans (show (w.drewN _).cell? ⟨b, 1, none⟩ = _ from x1)
        have HB1 := Lib.hid ((below_drewN (Below.refl _ _) _).trans hb1)
        have HH1 := Lib.hid ((HH.out.up (below_drewN (Below.refl _ _) _)).up hb1)
        clear hb1 x0 x1 x2 x3 x4 x5
        obtain ⟨T, hT⟩ : ∃ T, lessP ⟨4, i, j, kk, part, map⟩ kk = T := ⟨_, rfl⟩
        rw [hT] at b0
        rw [hT]
        have HT := Lib.hid hT
        clear hT
        have c0 := Hbd.out p (by omega)
        go_wp2_with fail
        refine (HLs.out p (by omega) _ HH1.out).mono ?_
        rintro r w2 ⟨rfl, hb2⟩
        have HB2 := Lib.hid (HB1.out.trans (hb2.mono HB1.out.size))
        clear hb2
        obtain ⟨Q, hQ⟩ : ∃ Q, lessP ⟨4, i, j, kk, part, map⟩ p = Q := ⟨_, rfl⟩
        rw [hQ] at c0
        rw [hQ]
        have HQ := Lib.hid hQ
        clear hQ
        have wa : IntKind.i64.wrap (Q + (j - i)) = Q + (j - i) := IntWalk.i64_in _ (by omega)
        by_cases cD : T < Q
        · have HD := Lib.hid cD
          go_wp2_with fail
          go_ret
          exact ⟨ret_int (by simp only [placeP]; rw [if_neg (by decide), if_neg (by decide), if_neg (by decide), if_pos trivial, if_neg (fun h => of_decide_eq_false b1 h.2), HT.out, HQ.out, if_pos HD.out]), HB2.out⟩
        · have HD := Lib.hid cD
          have d1 : decide (T < Q) = false := by simp; omega
          go_wp2_with fail
          go_ret
          exact ⟨ret_int (by simp only [placeP]; rw [if_neg (by decide), if_neg (by decide), if_neg (by decide), if_pos trivial, if_neg (fun h => of_decide_eq_false b1 h.2), HT.out, HQ.out, if_neg (of_decide_eq_false d1)]), HB2.out⟩
    · have a1 : decide (i < p) = false := by simp; omega
      have HA := Lib.hid cA
      clear cA
      have b0 := Hbd.out kk (by omega)
      go_enter Try.func89, Try.ntmps89
      go_wp2_with fail
      go_quiet (fail)
      go_wp2_with fail
      refine (HLs.out kk (by omega) _ (HH.out.up (below_drewN (Below.refl _ _) _))).mono ?_
      rintro r w1 ⟨rfl, hb1⟩
      have x1' := (hb1.cell (p := ⟨b, 1, none⟩) hlt).trans (show (w.drewN _).cell? ⟨b, 1, none⟩ = _ from x1)
      have HB1 := Lib.hid ((below_drewN (Below.refl _ _) _).trans hb1)
      have HH1 := Lib.hid ((HH.out.up (below_drewN (Below.refl _ _) _)).up hb1)
      clear hb1 x0 x1 x2 x3 x4 x5
      obtain ⟨T, hT⟩ : ∃ T, lessP ⟨4, i, j, kk, part, map⟩ kk = T := ⟨_, rfl⟩
      rw [hT] at b0
      rw [hT]
      have HT := Lib.hid hT
      clear hT
      have c0 := Hbd.out p (by omega)
      go_wp2_with fail
      refine (HLs.out p (by omega) _ HH1.out).mono ?_
      rintro r w2 ⟨rfl, hb2⟩
      have HB2 := Lib.hid (HB1.out.trans (hb2.mono HB1.out.size))
      clear hb2
      obtain ⟨Q, hQ⟩ : ∃ Q, lessP ⟨4, i, j, kk, part, map⟩ p = Q := ⟨_, rfl⟩
      rw [hQ] at c0
      rw [hQ]
      have HQ := Lib.hid hQ
      clear hQ
      have wa : IntKind.i64.wrap (Q + (j - i)) = Q + (j - i) := IntWalk.i64_in _ (by omega)
      by_cases cD : T < Q
      · have HD := Lib.hid cD
        go_wp2_with fail
        go_ret
        exact ⟨ret_int (by simp only [placeP]; rw [if_neg (by decide), if_neg (by decide), if_neg (by decide), if_pos trivial, if_neg (fun h => of_decide_eq_false a1 h.1), HT.out, HQ.out, if_pos HD.out]), HB2.out⟩
      · have HD := Lib.hid cD
        have d1 : decide (T < Q) = false := by simp; omega
        go_wp2_with fail
        go_ret
        exact ⟨ret_int (by simp only [placeP]; rw [if_neg (by decide), if_neg (by decide), if_neg (by decide), if_pos trivial, if_neg (fun h => of_decide_eq_false a1 h.1), HT.out, HQ.out, if_neg (of_decide_eq_false d1)]), HB2.out⟩
  · -- kind 5
    by_cases cA : i < p
    · have a1 : decide (i < p) = true := by simp [cA]
      have HA := Lib.hid cA
      by_cases cB : p < j
      · have b1 : decide (p < j) = true := by simp [cB]
        have HB := Lib.hid cB
        clear cA cB
        have wa : IntKind.i64.wrap (i + j) = i + j := IntWalk.i64_in _ (by omega)
        have wb : IntKind.i64.wrap (i + j - p) = i + j - p := IntWalk.i64_in _ (by omega)
        go_enter Try.func89, Try.ntmps89
        go_wp2_with fail
        go_quiet (fail)
        go_wp2_with fail
        go_quiet (fail)
        go_wp2_with fail
        go_ret
        exact ⟨ret_int (by simp [placeP, HA.out, HB.out]), (by repeat (first | exact Below.refl _ _ | (refine Below.alloc ?_ (by first | omega | (simp; done) | (simp; omega)) _) | refine below_drewN ?_ _ | refine Below.drew ?_))⟩
      · have b1 : decide (p < j) = false := by simp; omega
        have HB := Lib.hid cB
        clear cA cB
        go_enter Try.func89, Try.ntmps89
        go_wp2_with fail
        go_quiet (fail)
        go_wp2_with fail
        go_ret
        exact ⟨ret_int (by rw [placeP]; simp; intro h1 h2; exact absurd h2 (of_decide_eq_false b1)), (by repeat (first | exact Below.refl _ _ | (refine Below.alloc ?_ (by first | omega | (simp; done) | (simp; omega)) _) | refine below_drewN ?_ _ | refine Below.drew ?_))⟩
    · have a1 : decide (i < p) = false := by simp; omega
      have HA := Lib.hid cA
      clear cA
      go_enter Try.func89, Try.ntmps89
      go_wp2_with fail
      go_quiet (fail)
      go_wp2_with fail
      go_ret
      exact ⟨ret_int (by rw [placeP]; simp; intro h1 h2; exact absurd h1 (of_decide_eq_false a1)), (by repeat (first | exact Below.refl _ _ | (refine Below.alloc ?_ (by first | omega | (simp; done) | (simp; omega)) _) | refine below_drewN ?_ _ | refine Below.drew ?_))⟩
  · -- kind 6
    by_cases cA : i < p
    · have a1 : decide (i < p) = true := by simp [cA]
      have HA := Lib.hid cA
      by_cases cB : p < j
      · have b1 : decide (p < j) = true := by simp [cB]
        have HB := Lib.hid cB
        clear cA cB
        have e1 : decide (j ≤ p) = false := by have := HB.out; simp; omega
        by_cases cE : kk = 0
        · have e2 : (kk == 0) = true := by simp [cE]
          have HE := Lib.hid cE
          clear cE
          go_enter Try.func89, Try.ntmps89
          go_wp2_with fail
          go_quiet (fail)
          go_wp2_with fail
          go_ret
          exact ⟨ret_int (by simp only [placeP]; rw [if_neg (by decide), if_neg (by decide), if_neg (by decide), if_neg (by decide), if_neg (by decide), if_pos trivial, if_neg (of_decide_eq_false e1), if_pos ⟨⟨HA.out, HB.out⟩, HE.out⟩]), (by repeat (first | exact Below.refl _ _ | (refine Below.alloc ?_ (by first | omega | (simp; done) | (simp; omega)) _) | refine below_drewN ?_ _ | refine Below.drew ?_))⟩
        · have e2 : (kk == 0) = false := by simp [cE]
          have HE := Lib.hid cE
          clear cE
          go_enter Try.func89, Try.ntmps89
          go_wp2_with fail
          go_quiet (fail)
          go_wp2_with fail
          go_ret
          exact ⟨ret_int (by simp only [placeP]; rw [if_neg (by decide), if_neg (by decide), if_neg (by decide), if_neg (by decide), if_neg (by decide), if_pos trivial, if_neg (of_decide_eq_false e1), if_neg (fun h => HE.out h.2)]), (by repeat (first | exact Below.refl _ _ | (refine Below.alloc ?_ (by first | omega | (simp; done) | (simp; omega)) _) | refine below_drewN ?_ _ | refine Below.drew ?_))⟩
      · have b1 : decide (p < j) = false := by simp; omega
        have HB := Lib.hid cB
        clear cA cB
        have hL6 : n - (j - i) + (j - i) * kk ≤ 1000000000000000 := by simpa [editLen] using HL.out
        have hF6 : j ≤ n := by simpa [editFits] using HF.out
        have hm0 : 0 ≤ (j - i) * kk := Int.mul_nonneg (by have := g5 (by omega); omega) g4.1
        have wa : IntKind.i64.wrap (p - (j - i)) = p - (j - i) := IntWalk.i64_in _ (by omega)
        have wb : IntKind.i64.wrap ((j - i) * kk) = (j - i) * kk := IntWalk.i64_in _ (by omega)
        have wc : IntKind.i64.wrap (p - (j - i) + (j - i) * kk) = p - (j - i) + (j - i) * kk := IntWalk.i64_in _ (by omega)
        have e1 : decide (j ≤ p) = true := by have := HB.out; simp; omega
        have e1' : j ≤ p := by have := HB.out; omega
        have HE := Lib.hid e1'
        clear hL6
        go_enter Try.func89, Try.ntmps89
        go_wp2_with fail
        go_quiet (fail)
        go_wp2_with fail
        go_ret
        exact ⟨ret_int (by simp [placeP, HE.out]), (by repeat (first | exact Below.refl _ _ | (refine Below.alloc ?_ (by first | omega | (simp; done) | (simp; omega)) _) | refine below_drewN ?_ _ | refine Below.drew ?_))⟩
    · have a1 : decide (i < p) = false := by simp; omega
      have HA := Lib.hid cA
      clear cA
      have hij := g5 (by omega)
      by_cases cE : j ≤ p
      · have hL6 : n - (j - i) + (j - i) * kk ≤ 1000000000000000 := by simpa [editLen] using HL.out
        have hF6 : j ≤ n := by simpa [editFits] using HF.out
        have hm0 : 0 ≤ (j - i) * kk := Int.mul_nonneg (by omega) g4.1
        have wa : IntKind.i64.wrap (p - (j - i)) = p - (j - i) := IntWalk.i64_in _ (by omega)
        have wb : IntKind.i64.wrap ((j - i) * kk) = (j - i) * kk := IntWalk.i64_in _ (by omega)
        have wc : IntKind.i64.wrap (p - (j - i) + (j - i) * kk) = p - (j - i) + (j - i) * kk := IntWalk.i64_in _ (by omega)
        have HE := Lib.hid cE
        clear hL6
        go_enter Try.func89, Try.ntmps89
        go_wp2_with fail
        go_quiet (fail)
        go_wp2_with fail
        go_ret
        exact ⟨ret_int (by simp [placeP, HE.out]), (by repeat (first | exact Below.refl _ _ | (refine Below.alloc ?_ (by first | omega | (simp; done) | (simp; omega)) _) | refine below_drewN ?_ _ | refine Below.drew ?_))⟩
      · have e1 : decide (j ≤ p) = false := by simp; omega
        go_enter Try.func89, Try.ntmps89
        go_wp2_with fail
        go_quiet (fail)
        go_wp2_with fail
        go_ret
        exact ⟨ret_int (by simp only [placeP]; rw [if_neg (by decide), if_neg (by decide), if_neg (by decide), if_neg (by decide), if_neg (by decide), if_pos trivial, if_neg (of_decide_eq_false e1), if_neg (fun h => of_decide_eq_false a1 h.1.1)]), (by repeat (first | exact Below.refl _ _ | (refine Below.alloc ?_ (by first | omega | (simp; done) | (simp; omega)) _) | refine below_drewN ?_ _ | refine Below.drew ?_))⟩
  · -- kind 7
    by_cases cA : i < p
    · have a1 : decide (i < p) = true := by simp [cA]
      have HA := Lib.hid cA
      by_cases cB : p < j
      · have b1 : decide (p < j) = true := by simp [cB]
        have HB := Lib.hid cB
        clear cA cB
        go_enter Try.func89, Try.ntmps89
        go_wp2_with fail
        go_quiet (fail)
        go_wp2_with fail
        go_ret
        exact ⟨ret_int (by simp [placeP]), (by repeat (first | exact Below.refl _ _ | (refine Below.alloc ?_ (by first | omega | (simp; done) | (simp; omega)) _) | refine below_drewN ?_ _ | refine Below.drew ?_))⟩
      · have b1 : decide (p < j) = false := by simp; omega
        have HB := Lib.hid cB
        clear cA cB
        go_enter Try.func89, Try.ntmps89
        go_wp2_with fail
        go_quiet (fail)
        go_wp2_with fail
        go_ret
        exact ⟨ret_int (by simp [placeP]), (by repeat (first | exact Below.refl _ _ | (refine Below.alloc ?_ (by first | omega | (simp; done) | (simp; omega)) _) | refine below_drewN ?_ _ | refine Below.drew ?_))⟩
    · have a1 : decide (i < p) = false := by simp; omega
      have HA := Lib.hid cA
      clear cA
      go_enter Try.func89, Try.ntmps89
      go_wp2_with fail
      go_quiet (fail)
      go_wp2_with fail
      go_ret
      exact ⟨ret_int (by simp [placeP]), (by repeat (first | exact Below.refl _ _ | (refine Below.alloc ?_ (by first | omega | (simp; done) | (simp; omega)) _) | refine below_drewN ?_ _ | refine Below.drew ?_))⟩
end Go.Proofs.Ytfapnipmgmpgaaa

namespace Go.Proofs.Ytfapnipmgmpgaaa
open Go.RowKit

set_option maxRecDepth 100000 in
set_option maxHeartbeats 4000000 in
theorem specPlaceAfter_any (n : Int) (v : Value) (e : GEdit) (p : Int) (w : World) (h : EditV w w.heap.size v e) (hsm : SmallL e.part) (hn : e.part.length ≤ 1099511627776) (hm : e.map.size ≤ maxLen) :
    Calls Try.prog 34 #[.int .i64 n, v, .int .i64 p] w fun r w' => r = .returned (.tuple #[.int .i64 (paV n e p), .int .i64 (paC n e p)]) ∧ Below w.heap.size w w' := by
  obtain ⟨vR, rfl, hR⟩ := h
  have hA : ∀ c : Obj, c = Obj.cells #[.int .i64 e.kind, .int .i64 e.i, .int .i64 e.j, .int .i64 e.k, vR, .string e.map] 34 → EditAt (w.alloc c) (w.alloc c).heap.size w.heap.size e vR := by
    rintro c rfl
    exact ⟨Box6.new (Below.refl _ _), by simp, (hR.below ((Below.refl _ _).alloc (Nat.le_refl _) _)).le (by simp)⟩
  have HA := Lib.hid hA
  clear hA hR
  go_enter Try.func34, Try.ntmps34
  go_wp2_with fail
  refine (l07Ok_any _ vR e _ (HA.out _ rfl) hsm hn hm).mono ?_
  rintro r w1 ⟨rfl, hb1⟩
  have E1 := Lib.hid ((HA.out _ rfl).up hb1)
  have B1 := Lib.hid (((Below.refl w.heap.size w).alloc (Nat.le_refl _) _).trans (hb1.mono (by simp)))
  clear hb1
  by_cases he : editOk e = true
  · have HE := Lib.hid he
    have g0 : (!editOk e) = false := by simp [he]
    have hG := (editOk_get he).1
    have HG := Lib.hid hG
    clear he hG
    by_cases c1 : inR n 0 1000000000000000 = true
    · have C1 := Lib.hid c1
      have hn0 : 0 ≤ n ∧ n ≤ 1000000000000000 := by simpa [inR] using c1
      have Hn := Lib.hid hn0
      clear c1 hn0
      go_wp2_with fail
      refine (l00In_yes _ _ _ _ C1.out).mono ?_
      rintro r w' ⟨rfl, rfl⟩
      by_cases c2 : inR p 0 n = true
      · have C2 := Lib.hid c2
        have hp0 : 0 ≤ p ∧ p ≤ n := by simpa [inR] using c2
        have Hp := Lib.hid hp0
        clear c2 hp0
        go_wp2_with fail
        refine (l00In_yes _ _ _ _ C2.out).mono ?_
        rintro r w' ⟨rfl, rfl⟩
        go_wp2_with fail
        refine (l07Range_any _ vR e n _ E1.out HG.out).mono ?_
        rintro r w2 ⟨rfl, hb2⟩
        have E2 := Lib.hid (E1.out.up hb2)
        have B2 := Lib.hid (B1.out.trans (hb2.mono B1.out.size))
        clear hb2
        by_cases c3 : editFits e n = true
        · have C3 := Lib.hid c3
          have g3 : (!editFits e n) = false := by simp [c3]
          clear c3
          have hall : (inR n 0 1000000000000000 && inR p 0 n && editFits e n) = true := by rw [C1.out, C2.out, C3.out]; rfl
          have Hall := Lib.hid hall
          clear hall
          go_wp2_with fail
          refine (l07Grows_any _ vR e n 1000000000000000 _ E2.out HE.out hsm hn Hn.out.1 Hn.out.2 (by omega) C3.out).mono ?_
          rintro r w3 ⟨rfl, hb3⟩
          have E3 := Lib.hid (E2.out.up hb3)
          have B3 := Lib.hid (B2.out.trans (hb3.mono B2.out.size))
          clear hb3
          have hlow : 0 ≤ editLen e n ∨ ¬ editLen e n ≤ 1000000000000000 := by
            by_cases c : editLen e n ≤ 1000000000000000
            · left; exact editLen_nonneg HE.out C3.out Hn.out.1
            · right; exact c
          by_cases c4 : editLen e n ≤ 1000000000000000
          · have C4 := Lib.hid c4
            have g4 : decide (growV e n 1000000000000000 < 0) = false := by
              have : growV e n 1000000000000000 = editLen e n := by rw [growV, if_pos c4]
              rw [this]; simp; omega
            obtain ⟨G, hGv⟩ : ∃ G, growV e n 1000000000000000 = G := ⟨_, rfl⟩
            rw [hGv] at g4
            rw [hGv]
            obtain ⟨pc, pv⟩ := paC_0 (p := p) HE.out Hall.out C4.out
            have PC := Lib.hid pc
            have PV := Lib.hid pv
            clear pc pv c4 hlow hGv g0 g3
            go_wp2_with fail
            refine (l07Place_any _ vR e n p _ E3.out HE.out hsm hn Hp.out Hn.out.2 C3.out C4.out).mono ?_
            rintro r w4 ⟨rfl, hb4⟩
            have B4 := Lib.hid (B3.out.trans (hb4.mono B3.out.size))
            clear hb4
            go_wp2_with fail
            go_ret2
            exact ⟨by rw [PC.out, PV.out]; rfl, B4.out⟩
          · have g4 : decide (growV e n 1000000000000000 < 0) = true := by
              have : growV e n 1000000000000000 = -1 := by rw [growV, if_neg c4]
              rw [this]; simp
            obtain ⟨G, hGv⟩ : ∃ G, growV e n 1000000000000000 = G := ⟨_, rfl⟩
            rw [hGv] at g4
            rw [hGv]
            obtain ⟨pc, pv⟩ := paC_3 (p := p) HE.out Hall.out c4
            have PC := Lib.hid pc
            have PV := Lib.hid pv
            clear pc pv c4 hlow hGv g0 g3
            go_wp2_with fail
            go_ret2
            exact ⟨by rw [PC.out, PV.out]; rfl, B3.out⟩
        · have c3' : editFits e n = false := by simpa using c3
          have g3 : (!editFits e n) = true := by simp [c3']
          obtain ⟨pc, pv⟩ := paC_2 (n := n) (p := p) HE.out (by rw [C1.out, C2.out, c3']; rfl)
          have PC := Lib.hid pc
          have PV := Lib.hid pv
          clear pc pv c3 c3'
          go_wp2_with fail
          go_ret2
          exact ⟨by rw [PC.out, PV.out]; rfl, B2.out⟩
      · have c2' : inR p 0 n = false := by simpa using c2
        obtain ⟨pc, pv⟩ := paC_2 (n := n) (p := p) HE.out (by rw [C1.out, c2']; rfl)
        have PC := Lib.hid pc
        have PV := Lib.hid pv
        have C2 := Lib.hid c2'
        clear pc pv c2 c2'
        go_wp2_with fail
        refine (l00In_no _ _ _ _ C2.out).mono ?_
        rintro r w' ⟨rfl, rfl⟩
        go_wp2_with fail
        go_ret2
        exact ⟨by rw [PC.out, PV.out]; rfl, B1.out⟩
    · have c1' : inR n 0 1000000000000000 = false := by simpa using c1
      obtain ⟨pc, pv⟩ := paC_2 (n := n) (p := p) HE.out (by rw [c1']; rfl)
      have PC := Lib.hid pc
      have PV := Lib.hid pv
      have C1 := Lib.hid c1'
      clear pc pv c1 c1'
      go_wp2_with fail
      refine (l00In_no _ _ _ _ C1.out).mono ?_
      rintro r w' ⟨rfl, rfl⟩
      go_wp2_with fail
      go_ret2
      exact ⟨by rw [PC.out, PV.out]; rfl, B1.out⟩
  · have he' : editOk e = false := by simpa using he
    have g0 : (!editOk e) = true := by simp [he']
    obtain ⟨pc, pv⟩ := paC_1 (n := n) (p := p) he'
    have PC := Lib.hid pc
    have PV := Lib.hid pv
    clear pc pv he he'
    go_wp2_with fail
    go_ret2
    exact ⟨by rw [PC.out, PV.out]; rfl, B1.out⟩
end Go.Proofs.Ytfapnipmgmpgaaa

