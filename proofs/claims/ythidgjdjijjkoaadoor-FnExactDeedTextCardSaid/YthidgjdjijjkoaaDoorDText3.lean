import Derived.Test.YthidgjdjijjkoaaDoorDText2
namespace Go.Proofs.YthidgjdjijjkoaaDoor
open Go.RowKit

def prL (WL : List UInt8) (a b c : Int) (i : Nat) : List UInt8 := WL ++ (if 0 < i then 32 :: dec a else []) ++ (if 1 < i then 32 :: dec b else []) ++ (if 2 < i then 32 :: dec c else [])
def valAt (a b c : Int) (i : Nat) : Int := if i = 0 then a else if i = 1 then b else c
theorem prL_step {WL : List UInt8} {a b c : Int} {i : Nat} (h : i < 3) : prL WL a b c (i + 1) = prL WL a b c i ++ (32 :: dec (valAt a b c i)) := by
  have : i = 0 ∨ i = 1 ∨ i = 2 := by omega
  rcases this with rfl | rfl | rfl <;> simp [prL, valAt]
theorem prL_len {WL : List UInt8} {a b c : Int} (hW : WL.length ≤ 7) (ha : (dec a).length ≤ 3) (hb : (dec b).length ≤ 3) (hc : (dec c).length ≤ 3) (i : Nat) : (prL WL a b c i).length ≤ 19 := by
  unfold prL
  simp only [List.length_append]
  have h1 : (if 0 < i then 32 :: dec a else []).length ≤ 4 := by split <;> simp; omega
  have h2 : (if 1 < i then 32 :: dec b else []).length ≤ 4 := by split <;> simp; omega
  have h3 : (if 2 < i then 32 :: dec c else []).length ≤ 4 := by split <;> simp; omega
  omega
theorem prL_text {k a b c : Int} (h : deedN k = 1 ∨ deedN k = 2 ∨ deedN k = 3) : prL (wordL k) a b c (deedN k).toNat = textL k a b c := by
  unfold prL textL
  rcases h with h | h | h <;> rw [h] <;> simp

set_option maxRecDepth 100000 in
set_option maxHeartbeats 2000000 in
theorem implDeedText_any (k a b c : Int) (w : World) (htab : Lib.TabIs Tryd.prog w "internal/strconv.uint64pow10" .u64 Lib.pow10Tab) :
    Calls Tryd.prog 7 #[.agg #[.int .i64 k, .int .i64 a, .int .i64 b, .int .i64 c]] w fun e w' => e = .returned (.string (textS k a b c)) ∧ Below w.heap.size w w' := by
  have HT := Lib.hid htab
  clear htab
  go_enter Tryd.func7, Tryd.ntmps7
  go_wp2_with fail
  refine (implValidDeed_any k a b c _).mono ?_
  rintro e w1 ⟨rfl, hb1⟩
  have z1 : w.heap.size < w1.heap.size := Nat.lt_of_lt_of_le (by simp) hb1.size
  have X1 := Lib.hid (Box4.upD (b := w.heap.size) (c0 := .int .i64 k) (c1 := .int .i64 a) (c2 := .int .i64 b) (c3 := .int .i64 c) ⟨by simp [go_sem], by simp [go_sem], by simp [go_sem], by simp [go_sem]⟩ hb1 (by simp))
  have B1 := Lib.hid (((Below.refl w.heap.size w).alloc (Nat.le_refl _) _).trans (hb1.mono (by simp)))
  clear hb1
  by_cases hok : deedOk k a b c = true
  · have g0 : (!deedOk k a b c) = false := by simp [hok]
    have HO := Lib.hid hok
    obtain ⟨hk, ha, hb, hc⟩ := deedOk_get hok
    have hW := wordL_len hk
    have hlen := fun i => prL_len hW (dec_len ha) (dec_len hb) (dec_len hc) i
    have hD := deedN_in hk
    have Hk := Lib.hid hk
    have hval : ∀ i, 0 ≤ valAt a b c i ∧ valAt a b c i ≤ 999 := by
      intro i; unfold valAt; split
      · exact ha
      · split
        · exact hb
        · exact hc
    have Hval := Lib.hid hval
    have Hlen := Lib.hid hlen
    have htxt := prL_text (a := a) (b := b) (c := c) hD
    have Htxt := Lib.hid htxt
    obtain ⟨WL, hWL⟩ : ∃ WL, wordL k = WL := ⟨_, rfl⟩
    rw [hWL] at Hlen Htxt
    have HWL := Lib.hid hWL
    obtain ⟨M, hM⟩ : ∃ M : Nat, deedN k = M := ⟨(deedN k).toNat, by omega⟩
    rw [hM] at Htxt hD
    have HM := Lib.hid hM
    have hM3 : M ≤ 3 := by omega
    have hM3' : (M : Int) ≤ 3 := by omega
    obtain ⟨x0, x1, x2, x3⟩ := And.intro X1.out.1 X1.out.2
    clear hok hk ha hb hc hWL hlen hval htxt hM
    go_wp2_with fail
    refine (deedWordS_any k _ Hk.out).mono ?_
    rintro e w2 ⟨rfl, rfl⟩
    rw [HM.out, HWL.out]
    go_wp2_with fail
    have HA : ∀ i : Nat, i < 3 → (w1.alloc (Obj.cells #[.int .i64 a, .int .i64 b, .int .i64 c] 2)).cell? ⟨w1.heap.size, i, none⟩ = some (.int .i64 (valAt a b c i)) := by
      intro i hi
      have : i = 0 ∨ i = 1 ∨ i = 2 := by omega
      rcases this with rfl | rfl | rfl <;> simp [go_sem, valAt]
    have hBA := (Below.refl w1.heap.size w1).alloc (Nat.le_refl _) (Obj.cells #[.int .i64 a, .int .i64 b, .int .i64 c] 2)
    have hzA : w1.heap.size < (w1.alloc (Obj.cells #[.int .i64 a, .int .i64 b, .int .i64 c] 2)).heap.size := by simp
    revert HA hBA hzA
    generalize w1.alloc (Obj.cells #[.int .i64 a, .int .i64 b, .int .i64 c] 2) = w2
    intro HA hBA hzA
    have B2 := Lib.hid (B1.out.trans (hBA.mono B1.out.size))
    clear hBA x0 x1 x2 x3
    go_loopw [3, 26] (fun out i wr => ∃ κ : Nat, i = .int .i64 κ ∧ κ ≤ M ∧ out = .string ⟨(prL WL a b c κ).toArray⟩ ∧ Below w2.heap.size w2 wr) (fun _ i _ => M - (intOf i).toNat)
    case atStart => exact ⟨0, rfl, Nat.zero_le _, by simp [prL], Below.refl _ _⟩
    case round =>
      obtain ⟨κ, rfl, hκ, rfl, hb⟩ := hrel
      have HBr := Lib.hid (B2.out.trans (hb.mono B2.out.size))
      by_cases hlt : κ < M
      · have hc0 := (hb.cell (p := ⟨w1.heap.size, κ, none⟩) hzA).trans (HA κ (by omega))
        have hv := Hval.out κ
        have hl := Hlen.out κ
        have hst := prL_step (WL := WL) (a := a) (b := b) (c := c) (i := κ) (by omega)
        have Hst := Lib.hid hst
        obtain ⟨L, hL⟩ : ∃ L, prL WL a b c κ = L := ⟨_, rfl⟩
        rw [hL] at hl Hst
        rw [hL]
        obtain ⟨V, hV⟩ : ∃ V, valAt a b c κ = V := ⟨_, rfl⟩
        rw [hV] at hv hc0 Hst
        have hdl := dec_len hv
        have n1 : ¬ (9223372036854775807 < 1 + (dec V).length) := by omega
        have n2 : ¬ (9223372036854775807 < L.length + (1 + (dec V).length)) := by omega
        have Hv := Lib.hid hv
        have hki : (κ : Int) < (M : Int) := by omega
        clear hL hV hst hv hl hdl
        go_wp2_with fail
        refine (decimal_any V _ Hv.out (tab_below HT.out HBr.out)).mono ?_
        rintro e w4 ⟨rfl, hb4⟩
        go_wp2_with fail
        go_roundw
        case rel => exact ⟨κ + 1, by go_num, by omega, by rw [Hst.out]; simp [str_app, str32], hb.trans (hb4.mono hb.size)⟩
        case measure => simp [intOf]; omega
      · have e1 : κ = M := by omega
        subst e1
        go_wp2_with fail
        go_ret
        refine ⟨?_, HBr.out⟩
        show Ending.returned (Value.string ⟨(prL WL a b c κ).toArray⟩) = _
        rw [textS, if_pos HO.out, ← Htxt.out]
        rfl
  · have hok' : deedOk k a b c = false := by simpa using hok
    have g0 : (!deedOk k a b c) = true := by simp [hok']
    have HO := Lib.hid hok'
    clear hok hok'
    go_wp2_with fail
    go_ret
    exact ⟨by simp [textS, HO.out], B1.out⟩
end Go.Proofs.YthidgjdjijjkoaaDoor
