import Derived.Test.YtfapnipmgmpgaaaM7
import Derived.Test.YtfapnipmgmpgaaaM2
import Derived.Test.YtfapnipmgmpgaaaM6
import Derived.Test.YtfapnipmgmpgaaaRows
import Derived.WalkKit
import Derived.ProofKit
import Derived.Below
import Derived.ChangeSame
import Derived.Lib.SmallJoins
import Derived.Carry
import Derived.WideKeyArgs
import Derived.OpenShut
import Derived.Test.YtfapnipmgmpgaaaM1
import Derived.Deep.Slices
import Derived.Deep.Fields
namespace Go.Proofs.Ytfapnipmgmpgaaa
open Go.RowKit

set_option maxRecDepth 100000 in
set_option maxHeartbeats 4000000 in
theorem implFLen_any (v : Value) (fs : List GRule) (w : World) (h : Sl RuleE w w.heap.size v fs) (hsm : SmallL fs) :
    Calls Try.prog 131 #[v] w (FLen fs w) := by
  obtain ⟨A, c, rfl, hc, hm, hrow⟩ := h
  unfold maxLen at hm
  have HROW := Lib.hid hrow
  by_cases hl : 120 < fs.length
  · have hi : (120 : Int) < (fs.length : Int) := by omega
    go_enter Try.func131, Try.ntmps131
    go_wp2_with fail
    go_ret2
    exact ⟨Below.refl _ _, 0, by have : facOk fs = false := by { simp [facOk]; omega }; rw [this]; rfl⟩
  · have hi : ¬ (120 : Int) < (fs.length : Int) := by omega
    go_enter Try.func131, Try.ntmps131
    go_wp2_with fail
    go_loopw [4, 13] (fun q i wr => ∃ (k : Nat) (n : Int), k ≤ fs.length ∧ 0 ≤ n ∧ n ≤ 1000000000000000 ∧ q = .int .i64 n ∧ i = .int .i64 k ∧ Below w.heap.size w wr ∧ Hid (facLen n (fs.drop k) = facLen 0 fs)) (fun _ i _ => fs.length - (intOf i).toNat)
    case atStart => exact ⟨0, 0, Nat.zero_le _, by omega, by omega, rfl, rfl, Below.refl _ _, by rw [List.drop_zero]; exact Lib.hid rfl⟩
    case round =>
      obtain ⟨k, n, hk, hn0, hn1, rfl, rfl, hB, HF⟩ := hrel
      by_cases hlt : k < fs.length
      · obtain ⟨b, o, rfl, hbl, hcell⟩ := HROW.out.rule hlt
        obtain ⟨f, hf⟩ : ∃ x, fs[k]? = some x := ⟨_, List.getElem?_eq_getElem hlt⟩
        obtain ⟨g0, g1, g2⟩ := hcell k f hf
        have hc0 := (hB.cell (p := ⟨b, o + k * 3, none⟩) hbl).trans g0
        have hc1 := (hB.cell (p := ⟨b, o + k * 3 + 1, none⟩) hbl).trans g1
        have hc2 := (hB.cell (p := ⟨b, o + k * 3 + 2, none⟩) hbl).trans g2
        have hsx := hsm f (List.mem_of_getElem? hf)
        have hsz : w.heap.size ≤ wr.heap.size := hB.size
        have hbw : b < wr.heap.size := by omega
        have hik : (k : Int) < (fs.length : Int) := by omega
        have hbad : facNext n f = none → facOk fs = false := fun h => facOk_bad (facLen_bad hf HF.out h)
        have HBAD := Lib.hid hbad
        have hgood : ∀ m, facNext n f = some m → facLen m (fs.drop (k + 1)) = facLen 0 fs := fun m h => facLen_good hf HF.out h
        have HGOOD := Lib.hid hgood
        have HB := Lib.hid hB
        have HWI := Lib.hid (fun (x a b : Int) (W : World) => within_any x a b W)
        clear hcell hf g0 g1 g2 hbad hgood HF hB
        by_cases hz : f.letter.size = 0
        · rw [bytes_empty hz] at hc0
          by_cases c1 : 0 ≤ f.left ∧ f.left ≤ n
          · have d1 : (decide (0 ≤ f.left) && decide (f.left ≤ n)) = true := by simp [c1]
            have ws2 : IntKind.i64.wrap (n - f.left) = n - f.left := IntWalk.i64_in _ (by omega)
            by_cases c2 : 1 ≤ f.right ∧ f.right ≤ n - f.left
            · have d2 : (decide (1 ≤ f.right) && decide (f.right ≤ n - f.left)) = true := by simp [c2]
              have wa2 : IntKind.i64.wrap (n + f.right) = n + f.right := IntWalk.i64_in _ (by omega)
              by_cases c5 : 1000000000000000 < n + f.right
              · go_wp2_with fail
                refine (HWI.out _ _ _ _).mono ?_
                rintro e w' ⟨rfl, rfl⟩
                rw [d1]
                go_wp2_with fail
                refine (HWI.out _ _ _ _).mono ?_
                rintro e w' ⟨rfl, rfl⟩
                rw [d2]
                go_wp2_with fail
                go_ret2
                exact ⟨(by repeat (first | exact HB.out | (refine Below.alloc ?_ (by first | omega | (simp; done) | (simp; omega)) _) | refine below_drewN ?_ _ | refine Below.drew ?_)), 0, by rw [HBAD.out (nextR_big hz (by unfold maxL; omega))]; rfl⟩
              · go_wp2_with fail
                refine (HWI.out _ _ _ _).mono ?_
                rintro e w' ⟨rfl, rfl⟩
                rw [d1]
                go_wp2_with fail
                refine (HWI.out _ _ _ _).mono ?_
                rintro e w' ⟨rfl, rfl⟩
                rw [d2]
                go_wp2_with fail
                go_roundw
                case rel => exact ⟨k + 1, n + f.right, by omega, by omega, by omega, rfl, by go_num, (by repeat (first | exact HB.out | (refine Below.alloc ?_ (by first | omega | (simp; done) | (simp; omega)) _) | refine below_drewN ?_ _ | refine Below.drew ?_)), Lib.hid (HGOOD.out _ (nextR_ok hz (by omega) (by unfold maxL; omega)))⟩
                case measure => simp [intOf]; omega
            · have d2 : (decide (1 ≤ f.right) && decide (f.right ≤ n - f.left)) = false := by rw [← Bool.not_eq_true]; simp; omega
              go_wp2_with fail
              refine (HWI.out _ _ _ _).mono ?_
              rintro e w' ⟨rfl, rfl⟩
              rw [d1]
              go_wp2_with fail
              refine (HWI.out _ _ _ _).mono ?_
              rintro e w' ⟨rfl, rfl⟩
              rw [d2]
              go_wp2_with fail
              go_ret2
              exact ⟨(by repeat (first | exact HB.out | (refine Below.alloc ?_ (by first | omega | (simp; done) | (simp; omega)) _) | refine below_drewN ?_ _ | refine Below.drew ?_)), 0, by rw [HBAD.out (nextR_no hz (by omega))]; rfl⟩
          · have d1 : (decide (0 ≤ f.left) && decide (f.left ≤ n)) = false := by rw [← Bool.not_eq_true]; simp; omega
            go_wp2_with fail
            refine (HWI.out _ _ _ _).mono ?_
            rintro e w' ⟨rfl, rfl⟩
            rw [d1]
            go_wp2_with fail
            go_ret2
            exact ⟨(by repeat (first | exact HB.out | (refine Below.alloc ?_ (by first | omega | (simp; done) | (simp; omega)) _) | refine below_drewN ?_ _ | refine Below.drew ?_)), 0, by rw [HBAD.out (nextR_no hz (by omega))]; rfl⟩
        · have hie : f.letter.toList.isEmpty = false := by rw [isEmpty_size]; simpa using hz
          have wa2 : IntKind.i64.wrap (n + 1) = n + 1 := IntWalk.i64_in _ (by omega)
          cases c1 : isLet f.letter with
          | false =>
            have HC1 := Lib.hid c1
            clear c1
            go_wp2_with fail
            refine (isLetterText_any f.letter _ (by unfold maxLen; omega)).mono ?_
            rintro e w' ⟨rfl, rfl⟩
            rw [HC1.out]
            go_wp2_with fail
            go_ret2
            exact ⟨(by repeat (first | exact HB.out | (refine Below.alloc ?_ (by first | omega | (simp; done) | (simp; omega)) _) | refine below_drewN ?_ _ | refine Below.drew ?_)), 0, by rw [HBAD.out (nextL_no hz (by rw [okR0 hz, HC1.out]; rfl))]; rfl⟩
          | true =>
            have HC1 := Lib.hid c1
            clear c1
            by_cases c2 : f.left = 0
            · have b2 : (f.left != 0) = false := by simp [c2]
              have HC2 := Lib.hid c2
              clear c2
              by_cases c3 : f.right = 0
              · have b3 : (f.right != 0) = false := by simp [c3]
                have HOK := Lib.hid (show okRule 0 f = true by rw [okR0 hz, HC1.out, HC2.out, c3]; rfl)
                clear c3
                by_cases c5 : 1000000000000000 < n + 1
                · go_wp2_with fail
                  refine (isLetterText_any f.letter _ (by unfold maxLen; omega)).mono ?_
                  rintro e w' ⟨rfl, rfl⟩
                  rw [HC1.out]
                  go_wp2_with fail
                  go_ret2
                  exact ⟨(by repeat (first | exact HB.out | (refine Below.alloc ?_ (by first | omega | (simp; done) | (simp; omega)) _) | refine below_drewN ?_ _ | refine Below.drew ?_)), 0, by rw [HBAD.out (nextL_big hz (by unfold maxL; omega))]; rfl⟩
                · go_wp2_with fail
                  refine (isLetterText_any f.letter _ (by unfold maxLen; omega)).mono ?_
                  rintro e w' ⟨rfl, rfl⟩
                  rw [HC1.out]
                  go_wp2_with fail
                  go_roundw
                  case rel => exact ⟨k + 1, n + 1, by omega, by omega, by omega, rfl, by go_num, (by repeat (first | exact HB.out | (refine Below.alloc ?_ (by first | omega | (simp; done) | (simp; omega)) _) | refine below_drewN ?_ _ | refine Below.drew ?_)), Lib.hid (HGOOD.out _ (nextL_ok hz HOK.out (by unfold maxL; omega)))⟩
                  case measure => simp [intOf]; omega
              · have b3 : (f.right != 0) = true := by simp [c3]
                have HOK := Lib.hid (show okRule 0 f = false by rw [okR0 hz]; simp [c3])
                clear c3
                go_wp2_with fail
                refine (isLetterText_any f.letter _ (by unfold maxLen; omega)).mono ?_
                rintro e w' ⟨rfl, rfl⟩
                rw [HC1.out]
                go_wp2_with fail
                go_ret2
                exact ⟨(by repeat (first | exact HB.out | (refine Below.alloc ?_ (by first | omega | (simp; done) | (simp; omega)) _) | refine below_drewN ?_ _ | refine Below.drew ?_)), 0, by rw [HBAD.out (nextL_no hz HOK.out)]; rfl⟩
            · have b2 : (f.left != 0) = true := by simp [c2]
              have HOK := Lib.hid (show okRule 0 f = false by rw [okR0 hz]; simp [c2])
              clear c2
              go_wp2_with fail
              refine (isLetterText_any f.letter _ (by unfold maxLen; omega)).mono ?_
              rintro e w' ⟨rfl, rfl⟩
              rw [HC1.out]
              go_wp2_with fail
              go_ret2
              exact ⟨(by repeat (first | exact HB.out | (refine Below.alloc ?_ (by first | omega | (simp; done) | (simp; omega)) _) | refine below_drewN ?_ _ | refine Below.drew ?_)), 0, by rw [HBAD.out (nextL_no hz HOK.out)]; rfl⟩
      · have hkn : k = fs.length := by omega
        subst hkn
        have hok : facOk fs = true := by have := HF.out; rw [List.drop_length] at this; simp [facOk, ← this, facLen]; omega
        have HOK := Lib.hid hok
        clear hok
        go_wp2_with fail
        go_ret2
        exact ⟨hB, n, by rw [HOK.out]; rfl⟩
theorem implValidFac_any (v : Value) (fs : List GRule) (w : World) (h : Sl RuleE w w.heap.size v fs) (hsm : SmallL fs) :
    Calls Try.prog 74 #[v] w fun e w' => e = .returned (.bool (facOk fs)) ∧ Below w.heap.size w w' := by
  have H := Lib.hid (implFLen_any v fs w h hsm)
  obtain ⟨A, c, rfl, _⟩ := h
  go_enter Try.func74, Try.ntmps74
  go_wp2_with fail
  refine H.out.mono ?_
  rintro e w1 ⟨hb, n, rfl⟩
  go_wp2_with fail
  go_ret
  exact ⟨rfl, hb⟩
/-- The lengths of a right grammar. -/
theorem lensOk_any (v : Value) (xs : List GRule) (w : World) (h : Sl RuleE w w.heap.size v xs) (hg : gramOk xs = true) :
    Calls Try.prog 76 #[.agg #[v]] w fun e w' => Below w.heap.size w w' ∧ ∃ ls vv, lens xs = some ls ∧ e = .returned (.tuple #[vv, .bool true]) ∧ Sl IntE w' w'.heap.size vv ls := by
  obtain ⟨h4, l0, hl0⟩ := gram_lens hg
  refine (lengths_any v xs w h (by omega)).mono ?_
  rintro e w1 ⟨hb1, hpost⟩
  refine ⟨hb1, ?_⟩
  rcases hpost with ⟨ls, vv, hl, he, ho⟩ | ⟨hl, he⟩
  · exact ⟨ls, vv, hl, by rw [he]; simp [h4], ho.sl⟩
  · rw [hl0] at hl; cases hl
set_option maxRecDepth 100000 in
set_option maxHeartbeats 1000000 in
theorem trimOrLimit_any (v : Value) (xs : List GRule) (w : World) (h : Sl RuleE w w.heap.size v xs) (hn : xs.length ≤ 1048576) (hok : OkAll xs) :
    Calls Try.prog 78 #[.agg #[v]] w (GRes (tolOut xs) (tolCode xs) w) := by
  have HG := Lib.hid h
  have HOK := Lib.hid hok
  obtain ⟨A, c, rfl, _⟩ := h
  clear hok
  by_cases hl : 400 < xs.length
  · have hi : (400 : Int) < (xs.length : Int) := by omega
    have HQ := Lib.hid (show tolOut xs = [] ∧ tolCode xs = 3 by unfold tolOut tolCode; rw [if_pos hl, if_pos hl]; exact ⟨rfl, rfl⟩)
    go_enter Try.func78, Try.ntmps78
    go_wp2_with fail
    refine bodyPost_ret (v := .tuple #[.agg #[.slice none 0 0], .int .i64 3]) (by simp [results, Try.results78, go_sem]) rfl ⟨(by repeat (first | exact Below.refl _ _ | (refine Below.alloc ?_ (by first | omega | (simp; done) | (simp; omega)) _) | (refine Below.setCell ?_ (by first | exact Nat.le_refl _ | (show _ ≤ _; omega) | (simp; done) | (simp; omega)) _) | refine below_drewN ?_ _ | refine Below.drew ?_)), .slice none 0 0, by rw [HQ.out.1]; exact World.ownsRow_nil _ _ _ _, by rw [HQ.out.2]⟩
  · have hi : ¬ (400 : Int) < (xs.length : Int) := by omega
    have HQ := Lib.hid (show tolOut xs = limOut (trimG xs) ∧ tolCode xs = limCode (trimG xs) by unfold tolOut tolCode; rw [if_neg hl, if_neg hl]; exact ⟨rfl, rfl⟩)
    have hb0 := fun o o' => (((Below.refl w.heap.size w).alloc (Nat.le_refl _) o).alloc (by simp) o')
    go_enter Try.func78, Try.ntmps78
    go_wp2_with fail
    refine (trimmed_any _ xs _ (HG.out.up (by repeat (first | exact Below.refl _ _ | (refine Below.alloc ?_ (by first | omega | (simp; done) | (simp; omega)) _) | (refine Below.setCell ?_ (by first | exact Nat.le_refl _ | (show _ ≤ _; omega) | (simp; done) | (simp; omega)) _) | refine below_drewN ?_ _ | refine Below.drew ?_))) (by omega) HOK.out).mono ?_
    rintro e w1 ⟨hb_1, v1, own1, rfl⟩
    have Kr_2 : Blk w1 (w.heap.size + 1) #[.slice none 0 0] 32 := by have := (Below.unalloc hb_1).2; simpa [Blk] using this
    replace hb_1 := (Below.unalloc hb_1).1
    have Ka_3 : Blk w1 (w.heap.size) #[.slice A xs.length c] 32 := by have := (Below.unalloc hb_1).2; simpa [Blk] using this
    replace hb_1 := (Below.unalloc hb_1).1
    have z_w1 : w.heap.size ≤ w1.heap.size := hb_1.size
    have KB_4 := Lib.hid hb_1
    have O1 := Lib.hid (show OwnRules w1 (w.heap.size + 2) v1 (trimG xs) from ownsRow_more own1 (base' := w.heap.size + 2) (by simp))
    have htl := trimG_len xs
    clear own1
    go_wp2_with fail
    refine (orLimit_any _ _ (trimG xs) _ O1.out (by omega)).mono ?_
    rintro e w2 ⟨hb_5, v2, own2, rfl⟩
    have z_w2 : w1.heap.size ≤ w2.heap.size := hb_5.size
    have Kr_6 := Blk.up Kr_2 hb_5
    have Ka_7 := Blk.up Ka_3 hb_5
    have KB_8 := Lib.hid (Below.tr KB_4.out hb_5)
    clear hb_1 Kr_2 Ka_3 KB_4
    obtain ⟨A2, c2, rfl, _⟩ := own_nil own2
    have O2 := Lib.hid own2
    have hsz := Below.size KB_8.out
    have lr2 := Blk.lt Kr_6
    clear own2
    have cr0_9 := Blk.cell (i := 0) (v := .slice none 0 0) Kr_6 rfl
    have zr0_10 := Blk.frozen Kr_6 0
    have lr_11 := Blk.lt Kr_6
    go_wp2_with fail
    refine bodyPost_ret (v := .tuple #[.agg #[.slice A2 (limOut (trimG xs)).length c2], .int .i64 (limCode (trimG xs))]) (by simp [results, Try.results78, go_sem, cr0_9]) rfl ⟨Below.setCell KB_8.out (show w.heap.size ≤ w.heap.size + 1 by omega) _, _, ?_, by rw [HQ.out.2]⟩
    rw [HQ.out.1]
    exact ownsRow_more (ownsRow_setCell_below O2.out (a := ⟨w.heap.size + 1, 0, none⟩) (by show w.heap.size + 1 < _; omega) _) (by omega)
set_option maxRecDepth 100000 in
set_option maxHeartbeats 4000000 in
theorem implFac_any (v : Value) (fs : List GRule) (w : World) (h : Sl RuleE w w.heap.size v fs) (hsm : SmallL fs) :
    Calls Try.prog 22 #[v] w (GRes (facOut fs) (facCode fs) w) := by
  have HF := Lib.hid h
  have hfs := h
  obtain ⟨A, c, rfl, hc, hm, _⟩ := h
  unfold maxLen at hm
  go_enter Try.func22, Try.ntmps22
  go_wp2_with fail
  refine (implValidFac_any _ fs _ (HF.out.up (by repeat (first | exact Below.refl _ _ | (refine Below.alloc ?_ (by first | omega | (simp; done) | (simp; omega)) _) | (refine Below.setCell ?_ (by first | exact Nat.le_refl _ | (show _ ≤ _; omega) | (simp; done) | (simp; omega)) _) | refine below_drewN ?_ _ | refine Below.drew ?_))) hsm).mono ?_
  rintro e w1 ⟨rfl, hb_12⟩
  have Kr_13 : Blk w1 (w.heap.size) #[.slice none 0 0] 32 := by have := (Below.unalloc hb_12).2; simpa [Blk] using this
  replace hb_12 := (Below.unalloc hb_12).1
  have z_w1 : w.heap.size ≤ w1.heap.size := hb_12.size
  have KB_14 := Lib.hid hb_12
  clear hfs
  have lr1 := Blk.lt Kr_13
  cases hok : facOk fs with
  | false =>
    have HQ := Lib.hid (facOut_bad hok)
    clear hok
    have cr0_15 := Blk.cell (i := 0) (v := .slice none 0 0) Kr_13 rfl
    have zr0_16 := Blk.frozen Kr_13 0
    have lr_17 := Blk.lt Kr_13
    go_wp2_with fail
    refine bodyPost_ret (v := .tuple #[.agg #[.slice none 0 0], .int .i64 1]) (by simp [results, Try.results22, go_sem, cr0_15]) rfl ⟨Below.setCell KB_14.out (Nat.le_refl _) _, .slice none 0 0, by rw [HQ.out.1]; exact World.ownsRow_nil _ _ _ _, by rw [HQ.out.2]⟩
  | true =>
    obtain ⟨h120, N, hN⟩ := facOk_at hok
    have HOK := Lib.hid hok
    have HN := Lib.hid hN
    clear hok hN
    have hz1 : w.heap.size < w1.heap.size := lr1
    have KB1 := Lib.hid (Below.alloc KB_14.out (Below.size KB_14.out) (Obj.cells #[.slice none 0 0] 32))
    have KR1 := Lib.hid (Blk.alloc Kr_13 (Obj.cells #[.slice none 0 0] 32))
    have KG1 := Lib.hid (Blk.new w1 #[.slice none 0 0] 32)
    go_wp2_with fail
    go_loopw [18] (fun i wx => ∃ (k : Nat) (G : List GRule) (AG : Option Addr) (cG : Nat), k ≤ fs.length ∧ i = .int .i64 k ∧ Hid (facRun G (fs.drop k) = facRun [] fs) ∧ Hid (gramOk G = true ∧ facLen (gramLen G) (fs.drop k) = some N) ∧ Hid (Blk wx w1.heap.size #[.slice AG G.length cG] 32) ∧ Hid (OwnRules wx (w1.heap.size + 1) (.slice AG G.length cG) G) ∧ Hid (Below w.heap.size w wx) ∧ Hid (Blk wx w.heap.size #[.slice none 0 0] 32)) (fun i _ => fs.length - (intOf i).toNat)
    case atStart => exact ⟨0, [], none, 0, Nat.zero_le _, rfl, Lib.hid rfl, Lib.hid ⟨rfl, HN.out⟩, KG1, Lib.hid (World.ownsRow_nil _ _ _ _), KB1, KR1⟩
    case round =>
      obtain ⟨k, G, AG, cG, hk, rfl, HFR, HGO, HG, HO, HB, HR⟩ := hrel
      by_cases hlt : k < fs.length
      · obtain ⟨_, _, ev, _, _, hrow⟩ := HF.out.up HB.out
        injection ev with ev1 ev2 ev3
        subst ev1 ev3
        obtain ⟨b, o, rfl, hbl, hcell⟩ := hrow.rule hlt
        obtain ⟨f, hf⟩ : ∃ x, fs[k]? = some x := ⟨_, List.getElem?_eq_getElem hlt⟩
        obtain ⟨hc0, hc1, hc2⟩ := hcell k f hf
        obtain ⟨m, hm1, hm2⟩ := facLen_at hf HGO.out.2
        have HST := Lib.hid (facRun_step (g := G) hf)
        rw [HFR.out] at HST
        have HTOL := Lib.hid (fac_tol HGO.out.1 rfl hm1)
        have HPL := Lib.hid (facPart_len HGO.out.1 hm1)
        have HOKN := Lib.hid (fun h (hs : facStep G f = some h) => facStep_ok HGO.out.1 rfl hm1 hs)
        have HM1 := Lib.hid hm1
        have HM2 := Lib.hid hm2
        have hG4 := gram_len400 HGO.out.1
        have hsx := hsm f (List.mem_of_getElem? hf)
        have hik : (k : Int) < (fs.length : Int) := by omega
        have hbz := HB.out.size
        have hwl : wordOk f.letter = true := by
          by_cases hz : f.letter.size = 0
          · rw [bytes_empty hz]; rfl
          · have h1 := (facNext_let hz hm1).1
            rw [wordOk_one (isLet_size h1)]; exact h1
        have HWL := Lib.hid hwl
        obtain ⟨P, hP⟩ : ∃ P, plainG f.letter = P := ⟨_, rfl⟩
        have HP := Lib.hid hP
        have KB := HB
        have KG := HG.out
        have KR := HR.out
        have hlw1 : w1.heap.size < wr.heap.size := Blk.lt KG
        have KO := HO
        have HO0 := HO
        clear hcell hf hm1 hm2 hwl hP HB HG HR HO hrow
        go_wp2_with fail
        refine (plain_any _ _ HWL.out).mono ?_
        rintro e w2 ⟨hb_18, v2, own2, rfl⟩
        have Kf_19 : Blk w2 (wr.heap.size) #[.string f.letter, .int .i64 f.left, .int .i64 f.right] 101 := by have := (Below.unalloc hb_18).2; simpa [Blk] using this
        replace hb_18 := (Below.unalloc hb_18).1
        have z_w2 : wr.heap.size ≤ w2.heap.size := hb_18.size
        have KB_20 := Lib.hid (Below.tr KB.out hb_18)
        have KG_21 := Blk.up KG hb_18
        have KR_22 := Blk.up KR hb_18
        have KO_23 := Lib.hid (OwnRules.below KO.out hb_18)
        clear KB KG KR KO
        rw [HP.out] at own2
        obtain ⟨A2, c2, rfl, _⟩ := own_nil own2
        have KP := Lib.hid own2
        clear own2 hc0 hc1 hc2
        obtain ⟨Q, hQ⟩ : ∃ Q, facPart G f = Q := ⟨_, rfl⟩
        have hAGb : ∀ g, (Value.slice AG G.length cG).ownBlock = some g → g < wr.heap.size := fun g hg => (World.ownsRow.lt HO0.out g hg).2
        have HQ := Lib.hid hQ
        rw [hQ] at HTOL HPL
        have hQ12 := HPL.out
        clear hQ
        have cf0_24 := Blk.cell (i := 0) (v := .string f.letter) Kf_19 rfl
        have cf1_25 := Blk.cell (i := 1) (v := .int .i64 f.left) Kf_19 rfl
        have cf2_26 := Blk.cell (i := 2) (v := .int .i64 f.right) Kf_19 rfl
        have lf_27 := Blk.lt Kf_19
        go_upto_region 8 with fail
        clear hb_18 cf0_24 cf1_25 cf2_26 lf_27
        have hbn := (Below.refl w2.heap.size w2).alloc (Nat.le_refl _) (Obj.cells #[.slice A2 P.length c2] 32)
        have Kn := Blk.new w2 #[.slice A2 P.length c2] 32
        revert hbn Kn
        generalize (w2.alloc (Obj.cells #[.slice A2 P.length c2] 32)) = w3
        intro hbn Kn
        have hb_28 := hbn
        have z_w3 : w2.heap.size ≤ w3.heap.size := hb_28.size
        have KB_29 := Lib.hid (Below.tr KB_20.out hb_28)
        have KG_30 := Blk.up KG_21 hb_28
        have KR_31 := Blk.up KR_22 hb_28
        have KO_32 := Lib.hid (OwnRules.below KO_23.out hb_28)
        have Kf_33 := Blk.up Kf_19 hb_28
        have KP_34 := Lib.hid (OwnRules.below KP.out hb_28)
        clear KB_20 KG_21 KR_22 KO_23 Kf_19 KP
        have ln := Blk.lt Kn
        have cf0_35 := Blk.cell (i := 0) (v := .string f.letter) Kf_33 rfl
        have cf1_36 := Blk.cell (i := 1) (v := .int .i64 f.left) Kf_33 rfl
        have cf2_37 := Blk.cell (i := 2) (v := .int .i64 f.right) Kf_33 rfl
        have lf_38 := Blk.lt Kf_33
        go_upto_if 27 with fail
        clear hb_28 cf0_35 cf1_36 cf2_37 lf_38
        go_cut [] (fun wx => ∃ (A9 : Option Addr) (c9 : Nat), Blk wx w2.heap.size #[.slice A9 Q.length c9] 32 ∧ OwnRules wx wr.heap.size (.slice A9 Q.length c9) Q ∧ Blk wx w1.heap.size #[.slice AG G.length cG] 32 ∧ Blk wx w.heap.size #[.slice none 0 0] 32 ∧ OwnRules wx (w1.heap.size + 1) (.slice AG G.length cG) G ∧ Below w.heap.size w wx ∧ w3.heap.size ≤ wx.heap.size)
        case first =>
          by_cases hz : f.letter.size = 0
          · have hpart : Q = partX G f.left (f.left + f.right) := by rw [← HQ.out]; unfold facPart; rw [if_pos hz]
            have hemp : f.letter = ⟨#[]⟩ := bytes_empty hz
            have hfr := facNext_part hz HM1.out
            have wfl : IntKind.i64.wrap (f.left + f.right) = f.left + f.right := IntWalk.i64_in _ (by have := hfr.2.2; unfold maxL at this; omega)
            have HPA := Lib.hid hpart
            have HEM := Lib.hid hemp
            clear hpart hemp hfr
            have hie : f.letter.toList.isEmpty = true := by rw [isEmpty_size]; simpa using hz
            rw [hie]
            clear hie hz
            have cG0_39 := Blk.cell (i := 0) (v := .slice AG G.length cG) KG_30 rfl
            have lG_40 := Blk.lt KG_30
            go_wp2_with fail
            refine (lensOk_any _ G _ (SlS.up (OwnRules.sl KO_32.out) (by repeat (first | exact Below.refl _ _ | (refine Below.alloc ?_ (by first | omega | (simp; done) | (simp; omega)) _) | (refine Below.setCell ?_ (by first | exact Nat.le_refl _ | (show _ ≤ _; omega) | (simp; done) | (simp; omega)) _) | refine below_drewN ?_ _ | refine Below.drew ?_))) HGO.out.1).mono ?_
            rintro e w4 ⟨hb_41, ls, vL, hls, rfl, hL⟩
            have z_w4 : w3.heap.size ≤ w4.heap.size := hb_41.size
            have KB_42 := Lib.hid (Below.tr KB_29.out hb_41)
            have KG_43 := Blk.up KG_30 hb_41
            have KR_44 := Blk.up KR_31 hb_41
            have KO_45 := Lib.hid (OwnRules.below KO_32.out hb_41)
            have Kf_46 := Blk.up Kf_33 hb_41
            have KP_47 := Lib.hid (OwnRules.below KP_34.out hb_41)
            have Kn_48 := Blk.up Kn hb_41
            clear cG0_39 lG_40 KB_29 KG_30 KR_31 KO_32 Kf_33 KP_34 Kn
            have HLS := Lib.hid hls
            have KL := Lib.hid hL
            obtain ⟨AL, cL, rfl, _⟩ := hL
            clear hls
            have cf0_49 := Blk.cell (i := 0) (v := .string f.letter) Kf_46 rfl
            have cf1_50 := Blk.cell (i := 1) (v := .int .i64 f.left) Kf_46 rfl
            have cf2_51 := Blk.cell (i := 2) (v := .int .i64 f.right) Kf_46 rfl
            have lf_52 := Blk.lt Kf_46
            have cG0_53 := Blk.cell (i := 0) (v := .slice AG G.length cG) KG_43 rfl
            have lG_54 := Blk.lt KG_43
            go_wp2_with fail
            refine (part_any _ _ G ls f.left (f.left + f.right) _ (OwnRules.sl KO_45.out) KL.out HLS.out (by omega)).mono ?_
            rintro e w5 ⟨hb_55, v5, own5, rfl⟩
            have z_w5 : w4.heap.size ≤ w5.heap.size := hb_55.size
            have KB_56 := Lib.hid (Below.tr KB_42.out hb_55)
            have KG_57 := Blk.up KG_43 hb_55
            have KR_58 := Blk.up KR_44 hb_55
            have KO_59 := Lib.hid (OwnRules.below KO_45.out hb_55)
            have Kf_60 := Blk.up Kf_46 hb_55
            have KP_61 := Lib.hid (OwnRules.below KP_47.out hb_55)
            have Kn_62 := Blk.up Kn_48 hb_55
            have KL_63 := Lib.hid (KL.out.up hb_55)
            clear hb_41 cf0_49 cf1_50 cf2_51 lf_52 cG0_53 lG_54 KB_42 KG_43 KR_44 KO_45 Kf_46 KP_47 Kn_48 KL
            rw [← partX_of HLS.out, ← HPA.out] at own5
            obtain ⟨A5, c5, rfl, _⟩ := own_nil own5
            have HO5 := Lib.hid own5
            clear own5
            have hb45 := Below.size KB_56.out
            have cn0_64 := Blk.cell (i := 0) (v := .slice A2 P.length c2) Kn_62 rfl
            have zn0_65 := Blk.frozen Kn_62 0
            have ln_66 := Blk.lt Kn_62
            go_wp2_with fail
            go_meet
            exact ⟨A5, c5, Blk.set Kn_62 0 _, ownsRow_more (ownsRow_setCell_below HO5.out (a := ⟨w2.heap.size, 0, none⟩) (by show w2.heap.size < w4.heap.size; omega) _) (by omega), Blk.other KG_57 (p := ⟨w2.heap.size, 0, none⟩) (by show w1.heap.size ≠ w2.heap.size; omega) _, Blk.other KR_58 (p := ⟨w2.heap.size, 0, none⟩) (by show w.heap.size ≠ w2.heap.size; omega) _, ownsRow_setCell_other (a := ⟨w2.heap.size, 0, none⟩) KO_59.out (fun e => by have := hAGb _ e; simp at this; omega) _, Below.setCell KB_56.out (by show w.heap.size ≤ w2.heap.size; omega) _, by simp [World.setCell]; omega⟩
          · have hpq : Q = P := by rw [← HQ.out]; unfold facPart; rw [if_neg hz, HP.out]
            have hie : f.letter.toList.isEmpty = false := by rw [isEmpty_size]; simpa using hz
            rw [hie]
            clear hie
            have cf0_67 := Blk.cell (i := 0) (v := .string f.letter) Kf_33 rfl
            have cf1_68 := Blk.cell (i := 1) (v := .int .i64 f.left) Kf_33 rfl
            have cf2_69 := Blk.cell (i := 2) (v := .int .i64 f.right) Kf_33 rfl
            have lf_70 := Blk.lt Kf_33
            go_wp2_with fail
            go_meet
            rw [hpq]
            exact ⟨A2, c2, Kn, ownsRow_more KP_34.out (by simp), KG_30, KR_31, KO_32.out, KB_29.out, Nat.le_refl _⟩
        case rest =>
          obtain ⟨A9, c9, Kn, own9, KG, KR, own0, hbW, hzW⟩ := hcut
          have HO9 := Lib.hid own9
          have HO8 := Lib.hid own0
          have HBW := Lib.hid hbW
          clear own9 own0 hbW
          obtain ⟨t1, t2, t3, t4⟩ := HTOL.out
          have HT2 := Lib.hid t2
          have HT4 := Lib.hid t4
          have hsp := Lib.hid t1
          clear t1 t2 t4
          have cG0_71 := Blk.cell (i := 0) (v := .slice AG G.length cG) KG rfl
          have lG_72 := Blk.lt KG
          have cn0_73 := Blk.cell (i := 0) (v := .slice A9 Q.length c9) Kn rfl
          have ln_74 := Blk.lt Kn
          go_wp2_with fail
          refine (join_any _ _ G Q _ (OwnRules.sl HO8.out) (OwnRules.sl HO9.out) (by omega) (by omega) hsp.out).mono ?_
          rintro e w7 ⟨hb_75, v7, own7, rfl⟩
          have z_w7 : wc.heap.size ≤ w7.heap.size := hb_75.size
          have KB_76 := Lib.hid (Below.tr HBW.out hb_75)
          have KG_77 := Blk.up KG hb_75
          have KR_78 := Blk.up KR hb_75
          have Kn_79 := Blk.up Kn hb_75
          clear cG0_71 lG_72 cn0_73 ln_74 HBW KG KR Kn
          obtain ⟨J, hJ⟩ : ∃ J, joinG G Q = J := ⟨_, rfl⟩
          rw [hJ] at own7 t3 HT2 HT4
          obtain ⟨A7, c7, rfl, _⟩ := own_nil own7
          have HO7 := Lib.hid own7
          clear own7
          go_wp2_with fail
          refine (trimOrLimit_any _ J _ (OwnRules.sl HO7.out) (by omega) HT2.out).mono ?_
          rintro e w8 ⟨hb_80, v8, own8, rfl⟩
          have z_w8 : w7.heap.size ≤ w8.heap.size := hb_80.size
          have KB_81 := Lib.hid (Below.tr KB_76.out hb_80)
          have KG_82 := Blk.up KG_77 hb_80
          have KR_83 := Blk.up KR_78 hb_80
          have Kn_84 := Blk.up Kn_79 hb_80
          clear hb_75 KB_76 KG_77 KR_78 Kn_79
          obtain ⟨X, hX⟩ : ∃ X, tolOut J = X := ⟨_, rfl⟩
          obtain ⟨cd, hcd⟩ : ∃ cd, tolCode J = cd := ⟨_, rfl⟩
          rw [hX, hcd] at HT4
          rw [hX] at own8
          rw [hcd]
          obtain ⟨A8, c8, rfl, _⟩ := own_nil own8
          have HOX := Lib.hid own8
          have HJ := Lib.hid hJ
          have hbz8 := Below.size KB_81.out
          have hw7 := z_w7
          clear own8 hX hcd hJ
          have hl17 : w1.heap.size < w7.heap.size := by omega
          rcases HT4.out with ⟨s1, s2, s3⟩ | ⟨s1, s2, s3⟩
          · rw [s3]
            have HQQ := Lib.hid (facOut_none HOK.out (by rw [HST.out, s1]))
            clear s1 s2 s3
            have cG0_85 := Blk.cell (i := 0) (v := .slice AG G.length cG) KG_82 rfl
            have zG0_86 := Blk.frozen KG_82 0
            have lG_87 := Blk.lt KG_82
            have cR0_88 := Blk.cell (i := 0) (v := .slice none 0 0) KR_83 rfl
            have zR0_89 := Blk.frozen KR_83 0
            have lR_90 := Blk.lt KR_83
            go_wp2_with fail
            refine bodyPost_ret (v := .tuple #[.agg #[.slice none 0 0], .int .i64 3]) (by simp [results, Try.results22, go_sem, cR0_88]) rfl ⟨Below.setCell (Below.setCell KB_81.out (show w.heap.size ≤ w1.heap.size by omega) _) (Nat.le_refl _) _, .slice none 0 0, by rw [HQQ.out.1]; exact World.ownsRow_nil _ _ _ _, by rw [HQQ.out.2]⟩
          · have HS1 := Lib.hid s1
            have HS2 := Lib.hid s2
            rw [s3]
            clear s1 s2 s3
            have hrun : facRun X (fs.drop (k + 1)) = facRun [] fs := by rw [HST.out, HS1.out, HS2.out]
            have hgg := HOKN.out _ HS1.out
            rw [← HS2.out] at hgg
            have HRUN := Lib.hid hrun
            have HGG := Lib.hid hgg
            clear hrun hgg
            have cG0_91 := Blk.cell (i := 0) (v := .slice AG G.length cG) KG_82 rfl
            have zG0_92 := Blk.frozen KG_82 0
            have lG_93 := Blk.lt KG_82
            go_wp2_with fail
            go_roundw
            case rel =>
              exact ⟨k + 1, X, A8, c8, by omega, by go_num, HRUN, Lib.hid ⟨HGG.out.1, by rw [HGG.out.2]; exact HM2.out⟩, Lib.hid (Blk.set KG_82 0 _), Lib.hid (ownsRow_more (ownsRow_setCell_below HOX.out (a := ⟨w1.heap.size, 0, none⟩) hl17 _) (by omega)), Lib.hid (Below.setCell KB_81.out (show w.heap.size ≤ w1.heap.size by omega) _), Lib.hid (Blk.other KR_83 (p := ⟨w1.heap.size, 0, none⟩) (by show w.heap.size ≠ w1.heap.size; omega) _)⟩
            case measure => simp [intOf]; omega
      · have hkn : k = fs.length := by omega
        subst hkn
        have hrn := HFR.out
        rw [List.drop_length] at hrn
        have HQQ := Lib.hid (facOut_some HOK.out hrn.symm)
        have KG := HG.out
        have KR := HR.out
        clear hrn
        have cG0_94 := Blk.cell (i := 0) (v := .slice AG G.length cG) KG rfl
        have lG_95 := Blk.lt KG
        have cR0_96 := Blk.cell (i := 0) (v := .slice none 0 0) KR rfl
        have zR0_97 := Blk.frozen KR 0
        have lR_98 := Blk.lt KR
        go_wp2_with fail
        refine bodyPost_ret (v := .tuple #[.agg #[.slice AG G.length cG], .int .i64 0]) (by simp [results, Try.results22, go_sem, cR0_96]) rfl ⟨Below.setCell HB.out (Nat.le_refl _) _, _, ?_, by rw [HQQ.out.2]⟩
        rw [HQQ.out.1]
        exact ownsRow_more (ownsRow_setCell_below HO.out (a := ⟨w.heap.size, 0, none⟩) (by show w.heap.size < w1.heap.size + 1; omega) _) (by omega)
end Go.Proofs.Ytfapnipmgmpgaaa

namespace Go.Proofs.Ytfapnipmgmpgaaa
open Go.RowKit

theorem joinG_ge (xs ys : List GRule) : ys.length ≤ (joinG xs ys).length := by
  unfold joinG
  split
  · exact Nat.le_refl _
  · split
    · omega
    · simp; omega
/-- PartGrammar's answer at a factor that fits. -/
theorem fac_part {g : List GRule} {m : Int} {f : GRule} (hg : gramOk g = true) (hz : f.letter.size = 0) (hf : facNext (gramLen g) f = some m) :
    (partCode g f.left (f.left + f.right) = 0 ∧ partOut g f.left (f.left + f.right) = facPart g f) ∨ (partCode g f.left (f.left + f.right) = 3 ∧ partOut g f.left (f.left + f.right) = [] ∧ facStep g f = none) := by
  obtain ⟨_, ls, hl⟩ := gram_lens hg
  have hgl := gramLen_of hl
  obtain ⟨h1, _, h3⟩ := facNext_part hz hf
  obtain ⟨e1, e2⟩ := partOut_yes (i := f.left) (j := f.left + f.right) hg hl ⟨by omega, by omega, by omega⟩
  have hp : facPart g f = partG g ls f.left (f.left + f.right) := by unfold facPart; rw [if_pos hz, partX_of hl]
  rw [e1, e2, hp]
  obtain ⟨l1, k1, _⟩ := partG_word hl (i := f.left) (j := f.left + f.right) (by omega) (by omega) (by omega)
  cases hok : gramOk (partG g ls f.left (f.left + f.right)) with
  | true => exact .inl ⟨by unfold limCode; rw [if_pos hok], by unfold limOut; rw [if_pos hok]⟩
  | false =>
    refine .inr ⟨by unfold limCode; rw [if_neg (by simp [hok])], by unfold limOut; rw [if_neg (by simp [hok])], ?_⟩
    have h4 : 400 < (partG g ls f.left (f.left + f.right)).length := by
      rcases Nat.lt_or_ge 400 (partG g ls f.left (f.left + f.right)).length with h | h
      · exact h
      · simp [gramOk, h, k1] at hok
    have := joinG_ge g (partG g ls f.left (f.left + f.right))
    unfold facStep
    rw [hp, if_pos (by omega)]
theorem specValidFac_any (v : Value) (fs : List GRule) (w : World) (h : Sl RuleE w w.heap.size v fs) (hsm : SmallL fs) :
    Calls Try.prog 68 #[v] w fun e w' => e = .returned (.bool (facOk fs)) ∧ Below w.heap.size w w' := by
  have H := Lib.hid (l06Length_any v fs w h hsm)
  obtain ⟨A, c, rfl, _⟩ := h
  go_enter Try.func68, Try.ntmps68
  go_wp2_with fail
  refine H.out.mono ?_
  rintro e w1 ⟨hb, n, rfl⟩
  go_wp2_with fail
  go_ret
  exact ⟨rfl, hb⟩
theorem keepF3 {wr W : World} {p q r : Addr} {v1 v2 v3 : Value} (k1 : C1 wr p v1) (k2 : C1 wr q v2) (k3 : C1 wr r v3) (h : Below wr.heap.size wr W) :
    Below wr.heap.size wr W ∧ W.cell? p = some v1 ∧ W.cell? q = some v2 ∧ W.cell? r = some v3 := ⟨h, (k1.up h).c, (k2.up h).c, (k3.up h).c⟩
set_option maxRecDepth 100000 in
set_option maxHeartbeats 4000000 in
theorem specFac_any (v : Value) (fs : List GRule) (w : World) (h : Sl RuleE w w.heap.size v fs) (hsm : SmallL fs) :
    Calls Try.prog 20 #[v] w (GRes (facOut fs) (facCode fs) w) := by
  have HF := Lib.hid h
  obtain ⟨A, c, rfl, hc, hm, _⟩ := h
  unfold maxLen at hm
  go_enter Try.func20, Try.ntmps20
  go_wp2_with fail
  refine (specValidFac_any _ fs _ (HF.out.up (by repeat (first | exact Below.refl _ _ | (refine Below.alloc ?_ (by first | omega | (simp; done) | (simp; omega)) _) | (refine Below.setCell ?_ (by first | exact Nat.le_refl _ | (show _ ≤ _; omega) | (simp; done) | (simp; omega)) _) | refine below_drewN ?_ _ | refine Below.drew ?_))) hsm).mono ?_
  rintro e w1 ⟨rfl, hb_1⟩
  have Kr_2 : Blk w1 (w.heap.size) #[.slice none 0 0] 32 := by have := (Below.unalloc hb_1).2; simpa [Blk] using this
  replace hb_1 := (Below.unalloc hb_1).1
  have z_w1 : w.heap.size ≤ w1.heap.size := hb_1.size
  have KB_3 := Lib.hid hb_1
  have lr1 := Blk.lt Kr_2
  cases hok : facOk fs with
  | false =>
    have HQ := Lib.hid (facOut_bad hok)
    clear hok
    have cr0_4 := Blk.cell (i := 0) (v := .slice none 0 0) Kr_2 rfl
    have zr0_5 := Blk.frozen Kr_2 0
    have lr_6 := Blk.lt Kr_2
    go_wp2_with fail
    refine bodyPost_ret (v := .tuple #[.agg #[.slice none 0 0], .int .i64 1]) (by simp [results, Try.results20, go_sem, cr0_4]) rfl ⟨Below.setCell KB_3.out (Nat.le_refl _) _, .slice none 0 0, by rw [HQ.out.1]; exact World.ownsRow_nil _ _ _ _, by rw [HQ.out.2]⟩
  | true =>
    obtain ⟨h120, N, hN⟩ := facOk_at hok
    have HOK := Lib.hid hok
    have HN := Lib.hid hN
    clear hok hN
    have hz1 : w.heap.size < w1.heap.size := lr1
    have KB1 := Lib.hid (Below.alloc KB_3.out (Below.size KB_3.out) (Obj.cells #[.slice none 0 0] 32))
    have KR1 := Lib.hid (Blk.alloc Kr_2 (Obj.cells #[.slice none 0 0] 32))
    have KG1 := Lib.hid (Blk.new w1 #[.slice none 0 0] 32)
    go_wp2_with fail
    go_loopw [5] (fun i wx => ∃ (k : Nat) (G : List GRule) (AG : Option Addr) (cG : Nat), k ≤ fs.length ∧ i = .int .i64 k ∧ Hid (facRun G (fs.drop k) = facRun [] fs) ∧ Hid (gramOk G = true ∧ facLen (gramLen G) (fs.drop k) = some N) ∧ Hid (Blk wx w1.heap.size #[.slice AG G.length cG] 32) ∧ Hid (OwnRules wx (w1.heap.size + 1) (.slice AG G.length cG) G) ∧ Hid (Below w.heap.size w wx) ∧ Hid (Blk wx w.heap.size #[.slice none 0 0] 32)) (fun i _ => fs.length - (intOf i).toNat)
    case atStart => exact ⟨0, [], none, 0, Nat.zero_le _, rfl, Lib.hid rfl, Lib.hid ⟨rfl, HN.out⟩, KG1, Lib.hid (World.ownsRow_nil _ _ _ _), KB1, KR1⟩
    case round =>
      obtain ⟨k, G, AG, cG, hk, rfl, HFR, HGO, HG, HO, HB, HR⟩ := hrel
      by_cases hlt : k < fs.length
      · obtain ⟨_, _, ev, _, _, hrow⟩ := HF.out.up HB.out
        injection ev with ev1 ev2 ev3
        subst ev1 ev3
        obtain ⟨b, o, rfl, hbl, hcell⟩ := hrow.rule hlt
        obtain ⟨f, hf⟩ : ∃ x, fs[k]? = some x := ⟨_, List.getElem?_eq_getElem hlt⟩
        obtain ⟨hc0, hc1, hc2⟩ := hcell k f hf
        have HC0 := Lib.hid (show C1 wr ⟨b, o + k * 3, none⟩ (.string f.letter) from ⟨hc0, hbl⟩)
        have HC1 := Lib.hid (show C1 wr ⟨b, o + k * 3 + 1, none⟩ (.int .i64 f.left) from ⟨hc1, hbl⟩)
        have HC2 := Lib.hid (show C1 wr ⟨b, o + k * 3 + 2, none⟩ (.int .i64 f.right) from ⟨hc2, hbl⟩)
        obtain ⟨m, hm1, hm2⟩ := facLen_at hf HGO.out.2
        have HST := Lib.hid (facRun_step (g := G) hf)
        rw [HFR.out] at HST
        have HTOL := Lib.hid (fac_tol HGO.out.1 rfl hm1)
        have HPL := Lib.hid (facPart_len HGO.out.1 hm1)
        have HOKN := Lib.hid (fun h (hs : facStep G f = some h) => facStep_ok HGO.out.1 rfl hm1 hs)
        have HM1 := Lib.hid hm1
        have HM2 := Lib.hid hm2
        have hG4 := gram_len400 HGO.out.1
        have hik : (k : Int) < (fs.length : Int) := by omega
        have hbz := HB.out.size
        have hwl : wordOk f.letter = true := by
          by_cases hz : f.letter.size = 0
          · rw [bytes_empty hz]; rfl
          · have h1 := (facNext_let hz hm1).1
            rw [wordOk_one (isLet_size h1)]; exact h1
        have HWL := Lib.hid hwl
        obtain ⟨P, hP⟩ : ∃ P, plainG f.letter = P := ⟨_, rfl⟩
        have HP := Lib.hid hP
        have KB := HB
        have KG := HG.out
        have KR := HR.out
        have hlw1 : w1.heap.size < wr.heap.size := Blk.lt KG
        have KO := HO
        have HO0 := HO
        clear hcell hf hm1 hm2 hwl hP HB HG HR HO hrow
        go_wp2_with fail
        refine (l02Plain_any _ _ HWL.out).mono ?_
        rintro e w2 ⟨hb_7, v2, own2, rfl⟩
        have z_w2 : wr.heap.size ≤ w2.heap.size := hb_7.size
        have KB_8 := Lib.hid (Below.tr KB.out hb_7)
        have KG_9 := Blk.up KG hb_7
        have KR_10 := Blk.up KR hb_7
        have KO_11 := Lib.hid (OwnRules.below KO.out hb_7)
        clear KB KG KR KO
        rw [HP.out] at own2
        obtain ⟨A2, c2, rfl, _⟩ := own_nil own2
        have KP := Lib.hid own2
        replace HC0 := Lib.hid (HC0.out.up hb_7)
        replace HC1 := Lib.hid (HC1.out.up hb_7)
        replace HC2 := Lib.hid (HC2.out.up hb_7)
        clear own2 hc0 hc1 hc2
        obtain ⟨Q, hQ⟩ : ∃ Q, facPart G f = Q := ⟨_, rfl⟩
        have hAGb : ∀ g, (Value.slice AG G.length cG).ownBlock = some g → g < wr.heap.size := fun g hg => (World.ownsRow.lt HO0.out g hg).2
        have HQ := Lib.hid hQ
        rw [hQ] at HTOL HPL
        have hQ12 := HPL.out
        clear hQ
        go_upto_region 8 with fail
        have hbn := (Below.refl w2.heap.size w2).alloc (Nat.le_refl _) (Obj.cells #[.slice A2 P.length c2] 32)
        have Kn := Blk.new w2 #[.slice A2 P.length c2] 32
        revert hbn Kn
        generalize (w2.alloc (Obj.cells #[.slice A2 P.length c2] 32)) = w3
        intro hbn Kn
        have hb_12 := hbn
        have z_w3 : w2.heap.size ≤ w3.heap.size := hb_12.size
        have KB_13 := Lib.hid (Below.tr KB_8.out hb_12)
        have KG_14 := Blk.up KG_9 hb_12
        have KR_15 := Blk.up KR_10 hb_12
        have KO_16 := Lib.hid (OwnRules.below KO_11.out hb_12)
        have KP_17 := Lib.hid (OwnRules.below KP.out hb_12)
        clear hb_7 KB_8 KG_9 KR_10 KO_11 KP
        replace HC0 := Lib.hid (HC0.out.up hb_12)
        replace HC1 := Lib.hid (HC1.out.up hb_12)
        replace HC2 := Lib.hid (HC2.out.up hb_12)
        have ln := Blk.lt Kn
        have hc0 := HC0.out.c
        have lc0 := HC0.out.lt
        go_upto_if 31 with fail
        clear hc0
        go_cut [] (fun wx => ∃ (A9 : Option Addr) (c9 : Nat), Blk wx w2.heap.size #[.slice A9 Q.length c9] 32 ∧ OwnRules wx wr.heap.size (.slice A9 Q.length c9) Q ∧ Blk wx w1.heap.size #[.slice AG G.length cG] 32 ∧ Blk wx w.heap.size #[.slice none 0 0] 32 ∧ OwnRules wx (w1.heap.size + 1) (.slice AG G.length cG) G ∧ Below w.heap.size w wx ∧ w3.heap.size ≤ wx.heap.size)
        case first =>
          by_cases hz : f.letter.size = 0
          · have hfr := facNext_part hz HM1.out
            have wfl : IntKind.i64.wrap (f.left + f.right) = f.left + f.right := IntWalk.i64_in _ (by have := hfr.2.2; unfold maxL at this; omega)
            have HPC := Lib.hid (fac_part HGO.out.1 hz HM1.out)
            rw [HQ.out] at HPC
            have hie : f.letter.toList.isEmpty = true := by rw [isEmpty_size]; simpa using hz
            rw [hie]
            clear hie hz hfr
            obtain ⟨PO, hPO⟩ : ∃ PO, partOut G f.left (f.left + f.right) = PO := ⟨_, rfl⟩
            obtain ⟨PC, hPC⟩ : ∃ PC, partCode G f.left (f.left + f.right) = PC := ⟨_, rfl⟩
            rw [hPO, hPC] at HPC
            have HPO := Lib.hid hPO
            have HPC1 := Lib.hid hPC
            clear hPO hPC
            have hsG : SmallL G := okAll_smallL (okAll_lens (gram_lens HGO.out.1).2.choose_spec)
            have HSG := Lib.hid hsG
            have HOS := Lib.hid (OwnRules.sl KO_16.out)
            have HKG := Lib.hid (show C1 w3 ⟨w1.heap.size, 0, none⟩ (.slice AG G.length cG) from ⟨Blk.cell KG_14 rfl, Blk.lt KG_14⟩)
            clear hsG
            go_upto_region 9 with fail
            go_cut [7, 8] (fun p q wx => ∃ (Z : Nat) (A9 : Option Addr) (c9 : Nat), p = .pointer (some ⟨Z, 0, none⟩) ∧ q = .int .i64 PC ∧ w3.heap.size ≤ Z ∧ Below w3.heap.size w3 wx ∧ Blk wx Z #[.slice A9 PO.length c9] 32 ∧ OwnRules wx w3.heap.size (.slice A9 PO.length c9) PO)
            case first =>
              have B0 := Below.drew (Below.refl w3.heap.size w3)
              have BA := Lib.hid (fun (o : Obj) => Below.drew (Below.alloc (Below.refl w3.heap.size w3) (Nat.le_refl _) o))
              have lKG := HKG.out.lt
              go_region_held3 (fun w' => Below w3.heap.size w3 w' ∧ w'.cell? ⟨w1.heap.size, 0, none⟩ = some (.slice AG G.length cG) ∧ w'.cell? ⟨b, o + k * 3 + 1, none⟩ = some (.int .i64 f.left) ∧ w'.cell? ⟨b, o + k * 3 + 2, none⟩ = some (.int .i64 f.right))
                (first | (with_reducible exact keepF3 HKG.out HC1.out HC2.out B0) | (with_reducible exact keepF3 HKG.out HC1.out HC2.out (BA.out _)) | (with_reducible exact keepF3 HKG.out HC1.out HC2.out b1) | (with_reducible exact keepF3 HKG.out HC1.out HC2.out (b1.alloc z1 _)) | (with_reducible exact keepF3 HKG.out HC1.out HC2.out ((b1.alloc z1 _).setCell z1 _)) | (with_reducible exact keepF3 HKG.out HC1.out HC2.out (b1.setCell (Nat.le_refl _) _)) | (with_reducible exact keepF3 HKG.out HC1.out HC2.out ((BA.out _).setCell (Nat.le_refl _) _)))
                (first
                  | (go_at_call 70; (refine (specPart_any _ G _ _ _ (HOS.out.up (by repeat (first | exact Below.refl _ _ | (refine Below.alloc ?_ (by first | omega | (simp; done) | (simp; omega)) _) | (refine Below.setCell ?_ (by first | exact Nat.le_refl _ | (show _ ≤ _; omega) | (simp; done) | (simp; omega)) _) | refine below_drewN ?_ _ | refine Below.drew ?_))) (by omega) HSG.out).mono ?_); rintro r u1 ⟨hb1, v1, own1, rfl⟩; rw [HPO.out] at own1; rw [HPC1.out]; obtain ⟨A9, c9, rfl, _⟩ := own_nil own1; have b1 : Below w3.heap.size w3 u1 := (by first | exact Below.undrew hb1 | exact (Below.unalloc (Below.undrew hb1)).1); have z1 := b1.size; (try (have KZ : Blk u1 w3.heap.size #[.slice none 0 0] 32 := (Below.unalloc (Below.undrew hb1)).2; have l1 := Blk.lt KZ; have kz := Blk.cell (i := 0) (v := .slice none 0 0) KZ rfl; have fz := Blk.frozen KZ 0))))
              all_goals
                go_wp2_with fail
                go_meet
                have own5 : OwnRules u1 w3.heap.size _ _ := ownsRow_more own1 (base' := w3.heap.size) (by first | omega | (simp; omega) | simp)
                first
                  | exact ⟨u1.heap.size, A9, c9, rfl, rfl, z1, b1.alloc z1 _, Blk.new _ _ _, World.ownsRow.alloc own5 _⟩
                  | exact ⟨w3.heap.size, A9, c9, rfl, rfl, Nat.le_refl _, b1.setCell (show w3.heap.size ≤ (⟨w3.heap.size, 0, none⟩ : Addr).block from Nat.le_refl _) _, KZ.set 0 _, ownsRow_more (ownsRow_setCell_below own1 (a := ⟨w3.heap.size, 0, none⟩) (by first | (show _ < _; omega) | (simp; done) | (simp; omega)) _) (by first | omega | (simp; omega) | simp)⟩
            case rest =>
              obtain ⟨Z, A9, c9, rfl, rfl, hZl, hbR, KZ, own9⟩ := hcut
              have HO9 := Lib.hid own9
              clear own9
              have hb_18 := hbR
              have z_wc : w3.heap.size ≤ wc.heap.size := hb_18.size
              have KB_19 := Lib.hid (Below.tr KB_13.out hb_18)
              have KG_20 := Blk.up KG_14 hb_18
              have KR_21 := Blk.up KR_15 hb_18
              have KO_22 := Lib.hid (OwnRules.below KO_16.out hb_18)
              have KP_23 := Lib.hid (OwnRules.below KP_17.out hb_18)
              have Kn_24 := Blk.up Kn hb_18
              clear hb_12 KB_13 KG_14 KR_15 KO_16 KP_17 Kn
              have lZ := Blk.lt KZ
              rcases HPC.out with ⟨s1, s2⟩ | ⟨s1, s2, s3⟩
              · rw [s1]
                have HS2 := Lib.hid s2
                clear s1 s2
                have cz0_25 := Blk.cell (i := 0) (v := .slice A9 PO.length c9) KZ rfl
                have lz_26 := Blk.lt KZ
                have cn0_27 := Blk.cell (i := 0) (v := .slice A2 P.length c2) Kn_24 rfl
                have zn0_28 := Blk.frozen Kn_24 0
                have ln_29 := Blk.lt Kn_24
                go_wp2_with fail
                go_meet
                have hZne : ∀ g, (Value.slice A9 PO.length c9).ownBlock = some g → w2.heap.size < g := fun g hg => by have := (World.ownsRow.lt HO9.out g hg).1; omega
                rw [← HS2.out]
                exact ⟨A9, c9, Blk.set Kn_24 0 _, ownsRow_more (ownsRow_setCell_below HO9.out (a := ⟨w2.heap.size, 0, none⟩) (by show w2.heap.size < w3.heap.size; omega) _) (by omega), Blk.other KG_20 (p := ⟨w2.heap.size, 0, none⟩) (by show w1.heap.size ≠ w2.heap.size; omega) _, Blk.other KR_21 (p := ⟨w2.heap.size, 0, none⟩) (by show w.heap.size ≠ w2.heap.size; omega) _, ownsRow_setCell_other (a := ⟨w2.heap.size, 0, none⟩) KO_22.out (fun e => by have := hAGb _ e; simp at this; omega) _, Below.setCell KB_19.out (by show w.heap.size ≤ w2.heap.size; omega) _, by simp [World.setCell]; omega⟩
              · rw [s1]
                have HQQ := Lib.hid (facOut_none HOK.out (by rw [HST.out, s3]))
                clear s1 s2 s3
                have cR0_30 := Blk.cell (i := 0) (v := .slice none 0 0) KR_21 rfl
                have zR0_31 := Blk.frozen KR_21 0
                have lR_32 := Blk.lt KR_21
                go_wp2_with fail
                refine bodyPost_ret (v := .tuple #[.agg #[.slice none 0 0], .int .i64 3]) (by simp [results, Try.results20, go_sem, cR0_30]) rfl ⟨Below.setCell KB_19.out (Nat.le_refl _) _, .slice none 0 0, by rw [HQQ.out.1]; exact World.ownsRow_nil _ _ _ _, by rw [HQQ.out.2]⟩
          · have hpq : Q = P := by rw [← HQ.out]; unfold facPart; rw [if_neg hz, HP.out]
            have hie : f.letter.toList.isEmpty = false := by rw [isEmpty_size]; simpa using hz
            rw [hie]
            clear hie
            go_wp2_with fail
            go_meet
            rw [hpq]
            exact ⟨A2, c2, Kn, ownsRow_more KP_17.out (by simp), KG_14, KR_15, KO_16.out, KB_13.out, Nat.le_refl _⟩
        case rest =>
          obtain ⟨A9, c9, Kn, own9, KG, KR, own0, hbW, hzW⟩ := hcut
          have HO9 := Lib.hid own9
          have HO8 := Lib.hid own0
          have HBW := Lib.hid hbW
          clear own9 own0 hbW
          obtain ⟨t1, t2, t3, t4⟩ := HTOL.out
          have HT2 := Lib.hid t2
          have hsp := Lib.hid t1
          clear t1 t2 t4
          have lG := Blk.lt KG
          have ln9 := Blk.lt Kn
          go_wp2_with fail
          refine (l02Join_any w1.heap.size 0 w2.heap.size 0 _ _ G Q _ (Blk.cell KG rfl) (Blk.cell Kn rfl) lG ln9 (OwnRules.sl HO8.out) (OwnRules.sl HO9.out) (by omega) (by omega) hsp.out).mono ?_
          rintro e w7 ⟨hb_33, v7, own7, rfl⟩
          have z_w7 : wc.heap.size ≤ w7.heap.size := hb_33.size
          have KB_34 := Lib.hid (Below.tr HBW.out hb_33)
          have KG_35 := Blk.up KG hb_33
          have KR_36 := Blk.up KR hb_33
          have Kn_37 := Blk.up Kn hb_33
          clear HBW KG KR Kn
          obtain ⟨J, hJ⟩ : ∃ J, joinG G Q = J := ⟨_, rfl⟩
          rw [hJ] at own7 t3 HT2
          have hQ2 : facStep G f = if 400 < J.length then none else some (trimG J) := by unfold facStep; rw [HQ.out, hJ]
          have HFS := Lib.hid hQ2
          obtain ⟨A7, c7, rfl, _⟩ := own_nil own7
          have hl17 : w1.heap.size < wc.heap.size := lG
          have HO7 := Lib.hid (show OwnRules (w7.setCell ⟨w1.heap.size, 0, none⟩ (.slice A7 J.length c7)) wc.heap.size (.slice A7 J.length c7) J from ownsRow_setCell_below own7 hl17 _)
          have KG7 := Blk.set KG_35 0 (.slice A7 J.length c7)
          have KR7 := Blk.other KR_36 (p := ⟨w1.heap.size, 0, none⟩) (by show w.heap.size ≠ w1.heap.size; omega) (.slice A7 J.length c7)
          have KB7 := Lib.hid (Below.setCell KB_34.out (show w.heap.size ≤ (⟨w1.heap.size, 0, none⟩ : Addr).block from Nat.le_of_lt hz1) (.slice A7 J.length c7))
          have hzz : (w7.setCell ⟨w1.heap.size, 0, none⟩ (.slice A7 J.length c7)).heap.size = w7.heap.size := by simp [World.setCell]
          have z7 : wc.heap.size ≤ (w7.setCell ⟨w1.heap.size, 0, none⟩ (.slice A7 J.length c7)).heap.size := by omega
          clear own7 hJ hQ2 hzz
          have cG0_38 := Blk.cell (i := 0) (v := .slice AG G.length cG) KG_35 rfl
          have zG0_39 := Blk.frozen KG_35 0
          have lG_40 := Blk.lt KG_35
          go_upto_region 14 with fail
          clear hb_33 cG0_38 zG0_39 lG_40
          revert HO7 KG7 KR7 KB7 z7
          generalize (w7.setCell ⟨w1.heap.size, 0, none⟩ (.slice A7 J.length c7)) = w8
          intro HO7 KG7 KR7 KB7 z7
          by_cases h4 : 400 < J.length
          · have hi4 : (400 : Int) < (J.length : Int) := by omega
            have HQQ := Lib.hid (facOut_none HOK.out (by rw [HST.out, HFS.out, if_pos h4]))
            have cG0_41 := Blk.cell (i := 0) (v := .slice A7 J.length c7) KG7 rfl
            have lG_42 := Blk.lt KG7
            have cR0_43 := Blk.cell (i := 0) (v := .slice none 0 0) KR7 rfl
            have zR0_44 := Blk.frozen KR7 0
            have lR_45 := Blk.lt KR7
            go_wp2_with fail
            refine bodyPost_ret (v := .tuple #[.agg #[.slice none 0 0], .int .i64 3]) (by simp [results, Try.results20, go_sem, cR0_43]) rfl ⟨Below.setCell KB7.out (Nat.le_refl _) _, .slice none 0 0, by rw [HQQ.out.1]; exact World.ownsRow_nil _ _ _ _, by rw [HQQ.out.2]⟩
          · have hi4 : ¬ (400 : Int) < (J.length : Int) := by omega
            have hs1 : facStep G f = some (trimG J) := by rw [HFS.out, if_neg h4]
            have hrun : facRun (trimG J) (fs.drop (k + 1)) = facRun [] fs := by rw [HST.out, hs1]
            have hgg := HOKN.out _ hs1
            have HRUN := Lib.hid hrun
            have HGG := Lib.hid hgg
            clear hs1 hrun hgg
            obtain ⟨X, hX⟩ : ∃ X, trimG J = X := ⟨_, rfl⟩
            have HX := Lib.hid hX
            rw [hX] at HRUN HGG
            clear hX
            have cG0_46 := Blk.cell (i := 0) (v := .slice A7 J.length c7) KG7 rfl
            have lG_47 := Blk.lt KG7
            go_wp2_with fail
            refine (l02Trim_any w1.heap.size 0 _ J _ (Blk.cell KG7 rfl) (Blk.lt KG7) (OwnRules.sl HO7.out) (by omega) HT2.out).mono ?_
            rintro e w9 ⟨hb_48, v9, own9, rfl⟩
            have z_w9 : w8.heap.size ≤ w9.heap.size := hb_48.size
            have KB_49 := Lib.hid (Below.tr KB7.out hb_48)
            have KG_50 := Blk.up KG7 hb_48
            have KR_51 := Blk.up KR7 hb_48
            clear cG0_46 lG_47 KB7 KG7 KR7
            rw [HX.out] at own9
            obtain ⟨A8, c8, rfl, _⟩ := own_nil own9
            have HOX := Lib.hid own9
            have hl19 : w1.heap.size < w8.heap.size := by omega
            clear own9
            have cG0_52 := Blk.cell (i := 0) (v := .slice A7 J.length c7) KG_50 rfl
            have zG0_53 := Blk.frozen KG_50 0
            have lG_54 := Blk.lt KG_50
            go_wp2_with fail
            go_roundw
            case rel => exact ⟨k + 1, X, A8, c8, by omega, by go_num, HRUN, Lib.hid ⟨HGG.out.1, by rw [HGG.out.2]; exact HM2.out⟩, Lib.hid (Blk.set KG_50 0 _), Lib.hid (ownsRow_more (ownsRow_setCell_below HOX.out (a := ⟨w1.heap.size, 0, none⟩) hl19 _) (by omega)), Lib.hid (Below.setCell KB_49.out (show w.heap.size ≤ w1.heap.size by omega) _), Lib.hid (Blk.other KR_51 (p := ⟨w1.heap.size, 0, none⟩) (by show w.heap.size ≠ w1.heap.size; omega) _)⟩
            case measure => simp [intOf]; omega
      · have hkn : k = fs.length := by omega
        subst hkn
        have hrn := HFR.out
        rw [List.drop_length] at hrn
        have HQQ := Lib.hid (facOut_some HOK.out hrn.symm)
        have KG := HG.out
        have KR := HR.out
        clear hrn
        have cG0_55 := Blk.cell (i := 0) (v := .slice AG G.length cG) KG rfl
        have lG_56 := Blk.lt KG
        have cR0_57 := Blk.cell (i := 0) (v := .slice none 0 0) KR rfl
        have zR0_58 := Blk.frozen KR 0
        have lR_59 := Blk.lt KR
        go_wp2_with fail
        refine bodyPost_ret (v := .tuple #[.agg #[.slice AG G.length cG], .int .i64 0]) (by simp [results, Try.results20, go_sem, cR0_57]) rfl ⟨Below.setCell HB.out (Nat.le_refl _) _, _, ?_, by rw [HQQ.out.2]⟩
        rw [HQQ.out.1]
        exact ownsRow_more (ownsRow_setCell_below HO.out (a := ⟨w.heap.size, 0, none⟩) (by show w.heap.size < w1.heap.size + 1; omega) _) (by omega)
end Go.Proofs.Ytfapnipmgmpgaaa

namespace Go.Proofs.Ytfapnipmgmpgaaa
open Go.RowKit

theorem facs_sl {w : World} {base : Nat} {v : Value} {l : List GRule} (h : OwnFacs w base v l) : Sl RuleE w w.heap.size v l := by
  obtain ⟨A, cap, rfl, h1, h2⟩ := own_nil h
  refine ⟨A, cap, rfl, h1, h2, Row.of_own (E := RuleE) h rfl (fun g hg => (World.ownsRow.lt h g hg).2) fun k x hx => ⟨x.cells, rfl, fun j u hj => ?_⟩⟩
  have h3 := cells3 l k x hx
  match j, hj with
  | 0, hj => simp [GRule.cells] at hj; subst hj; simpa [RuleE] using h3.1
  | 1, hj => simp [GRule.cells] at hj; subst hj; simpa [RuleE] using h3.2.1
  | 2, hj => simp [GRule.cells] at hj; subst hj; simpa [RuleE] using h3.2.2
  | j + 3, hj => simp [GRule.cells] at hj
/-- A row of factors of one's own, between two block numbers. -/
def OwnF (w : World) (lo hi : Nat) (v : Value) (l : List GRule) : Prop := OwnFacs w lo v l ∧ (∀ g, v.ownBlock = some g → g < hi) ∧ hi ≤ w.heap.size
section
variable {w w' : World} {lo hi lo' hi' : Nat} {v : Value} {l l' : List GRule}
theorem OwnF.of (h : OwnFacs w lo v l) : OwnF w lo w.heap.size v l := ⟨h, fun g hg => (World.ownsRow.lt h g hg).2, Nat.le_refl _⟩
theorem OwnF.up (h : OwnF w lo hi v l) (hb : Below w.heap.size w w') : OwnF w' lo hi v l := ⟨ownsRow_below h.1 hb, h.2.1, Nat.le_trans h.2.2 hb.size⟩
theorem OwnF.rng (h : OwnF w lo hi v l) : ∀ g, v.ownBlock = some g → lo ≤ g ∧ g < hi := fun g hg => ⟨(World.ownsRow.lt h.1 g hg).1, h.2.1 g hg⟩
theorem OwnF.chg (h : OwnF w lo hi v l) (hc : Chg lo' hi' w w') (hne : hi ≤ lo' ∨ hi' ≤ lo) : OwnF w' lo hi v l :=
  ⟨own_keep h.1 fun g hg => hc.block g (by have := h.rng g hg; have := h.2.2; omega) (by have := h.rng g hg; omega), h.2.1, Nat.le_trans h.2.2 hc.size⟩
theorem OwnF.markedC (h : OwnF w lo hi v l) (h' : OwnFacs w' lo v l') (hc : Chg lo' hi' w w') : OwnF w' lo hi v l' := ⟨h', h.2.1, Nat.le_trans h.2.2 hc.size⟩
theorem OwnF.chgOf (h : OwnF w lo hi v l) (hg : w.grownBy w' v.ownBlock) : Chg lo hi w w' :=
  ⟨hg.os, hg.tape, hg.output, hg.size, fun k hk hne => hg.block k hk fun e => by have := h.rng k e.symm; omega⟩
theorem OwnF.sl (h : OwnF w lo hi v l) : Sl RuleE w w.heap.size v l := facs_sl h.1
end
set_option maxRecDepth 100000 in
set_option maxHeartbeats 4000000 in
theorem lawFactors_any (v : Value) (fs : List GRule) (w : World) (h : Sl RuleE w w.heap.size v fs) (hsm : SmallL fs) :
    Calls Try.prog 5 #[v] w fun r w' => r = .returned (.bool true) ∧ Below w.heap.size w w' := by
  have HF := Lib.hid h
  obtain ⟨A, c, rfl, _⟩ := h
  go_enter Try.func5, Try.ntmps5
  go_wp2_with fail
  refine (szFactorS_any _ fs _ _ (HF.out.up (by repeat (first | exact Below.refl _ _ | (refine Below.alloc ?_ (by first | omega | (simp; done) | (simp; omega)) _) | (refine Below.setCell ?_ (by first | exact Nat.le_refl _ | (show _ ≤ _; omega) | (simp; done) | (simp; omega)) _) | refine below_drewN ?_ _ | refine Below.drew ?_))) hsm (by omega)).mono ?_
  rintro e w1 ⟨rfl, hb_1⟩
  have z_w1 : w.heap.size ≤ w1.heap.size := hb_1.size
  have KB_2 := Lib.hid hb_1
  by_cases hneg : szRs fs 1048576 < 0
  · skip
    go_wp2_with fail
    go_ret
    exact ⟨rfl, KB_2.out⟩
  obtain ⟨hle, hlen⟩ := szRs_le fs 1048576 (by omega)
  have hn : fs.length ≤ 1048576 := by omega
  have hgo := facOut_ok fs
  have hlo := gram_len400 hgo
  obtain ⟨out, hout⟩ : ∃ out, facOut fs = out := ⟨_, rfl⟩
  rw [hout] at hlo
  have HOUT := Lib.hid hout
  clear hle hlen hgo hout
  go_wp2_with fail
  refine (toFactorS_any _ fs _ (HF.out.up KB_2.out) hn).mono ?_
  rintro e w2 ⟨v2, rfl, own2, hb_3⟩
  have z_w2 : w1.heap.size ≤ w2.heap.size := hb_3.size
  have KB_4 := Lib.hid (Below.tr KB_2.out hb_3)
  clear hb_1 KB_2
  have KS := Lib.hid (OwnF.of own2)
  clear own2
  go_wp2_with fail
  refine (specFac_any _ fs _ (OwnF.sl KS.out) hsm).mono ?_
  rintro e w3 ⟨hb_5, v3, own3, rfl⟩
  have z_w3 : w2.heap.size ≤ w3.heap.size := hb_5.size
  have KB_6 := Lib.hid (Below.tr KB_4.out hb_5)
  have KS_7 := Lib.hid (OwnF.up KS.out hb_5)
  clear hb_3 KB_4 KS
  clear KS_7
  rw [HOUT.out] at own3
  obtain ⟨A3, c3, rfl, _⟩ := own_nil own3
  have KW := Lib.hid (OwnRules.sl own3)
  clear own3
  go_wp2_with fail
  refine (toFactorS_any _ fs _ (HF.out.up (by repeat (first | exact KB_6.out | (refine Below.alloc ?_ (by first | omega | (simp; done) | (simp; omega)) _) | (refine Below.setCell ?_ (by first | exact Nat.le_refl _ | (show _ ≤ _; omega) | (simp; done) | (simp; omega)) _) | refine below_drewN ?_ _ | refine Below.drew ?_))) hn).mono ?_
  rintro e w4 ⟨v4, rfl, own4, hb_8⟩
  have Kz_9 : Blk w4 (w3.heap.size) #[.slice A3 out.length c3] 32 := by have := (Below.unalloc hb_8).2; simpa [Blk] using this
  replace hb_8 := (Below.unalloc hb_8).1
  have z_w4 : w3.heap.size ≤ w4.heap.size := hb_8.size
  have KB_10 := Lib.hid (Below.tr KB_6.out hb_8)
  have KW_11 := Lib.hid (SlS.upN KW.out (by omega) hb_8)
  clear hb_5 KB_6 KW
  have lz4 := Blk.lt Kz_9
  have KX := Lib.hid (OwnF.of (ownsRow_more own4 (base' := w3.heap.size + 1) (by simp)))
  clear own4
  go_wp2_with fail
  refine (implFac_any _ fs _ (OwnF.sl KX.out) hsm).mono ?_
  rintro e w5 ⟨hb_12, v5, own5, rfl⟩
  have z_w5 : w4.heap.size ≤ w5.heap.size := hb_12.size
  have KB_13 := Lib.hid (Below.tr KB_10.out hb_12)
  have KW_14 := Lib.hid (SlS.upN KW_11.out (by omega) hb_12)
  have Kz_15 := Blk.up Kz_9 hb_12
  have KX_16 := Lib.hid (OwnF.up KX.out hb_12)
  clear hb_8 KB_10 KW_11 Kz_9 KX
  rw [HOUT.out] at own5
  obtain ⟨A5, c5, rfl, _⟩ := own_nil own5
  have KQ := Lib.hid (OwnR.of own5)
  clear own5
  have qc : (facCode fs != facCode fs) = false := by simp
  have cz0_17 := Blk.cell (i := 0) (v := .slice A3 out.length c3) Kz_15 rfl
  have lz_18 := Blk.lt Kz_15
  go_wp2_with fail
  refine (eqGrammar_any _ _ out _ (SlS.up (OwnR.sl KQ.out) (by repeat (first | exact Below.refl _ _ | (refine Below.alloc ?_ (by first | omega | (simp; done) | (simp; omega)) _) | (refine Below.setCell ?_ (by first | exact Nat.le_refl _ | (show _ ≤ _; omega) | (simp; done) | (simp; omega)) _) | refine below_drewN ?_ _ | refine Below.drew ?_))) (SlS.le (SlS.below KW_14.out (by repeat (first | exact Below.refl _ _ | (refine Below.alloc ?_ (by first | omega | (simp; done) | (simp; omega)) _) | (refine Below.setCell ?_ (by first | exact Nat.le_refl _ | (show _ ≤ _; omega) | (simp; done) | (simp; omega)) _) | refine below_drewN ?_ _ | refine Below.drew ?_))) (by simp; omega))).mono ?_
  rintro e w6 ⟨rfl, hb_19⟩
  have Kg_20 : Blk w6 (w5.heap.size) #[.slice A5 out.length c5] 32 := by have := (Below.unalloc hb_19).2; simpa [Blk] using this
  replace hb_19 := (Below.unalloc hb_19).1
  have z_w6 : w5.heap.size ≤ w6.heap.size := hb_19.size
  have KB_21 := Lib.hid (Below.tr KB_13.out hb_19)
  have KW_22 := Lib.hid (SlS.upN KW_14.out (by omega) hb_19)
  have Kz_23 := Blk.up Kz_15 hb_19
  have KX_24 := Lib.hid (OwnF.up KX_16.out hb_19)
  have KQ_25 := Lib.hid (OwnR.up KQ.out hb_19)
  clear hb_12 cz0_17 lz_18 KB_13 KW_14 Kz_15 KX_16 KQ
  go_wp2_with fail
  refine (toFactorS_any _ fs _ (HF.out.up KB_21.out) hn).mono ?_
  rintro e w7 ⟨v7, rfl, own7, hb_26⟩
  have z_w7 : w6.heap.size ≤ w7.heap.size := hb_26.size
  have KB_27 := Lib.hid (Below.tr KB_21.out hb_26)
  have KW_28 := Lib.hid (SlS.upN KW_22.out (by omega) hb_26)
  have Kz_29 := Blk.up Kz_23 hb_26
  have KX_30 := Lib.hid (OwnF.up KX_24.out hb_26)
  have KQ_31 := Lib.hid (OwnR.up KQ_25.out hb_26)
  have Kg_32 := Blk.up Kg_20 hb_26
  clear hb_19 KB_21 KW_22 Kz_23 KX_24 KQ_25 Kg_20
  have KS := Lib.hid (OwnF.of own7)
  clear own7
  go_wp2_with fail
  refine (eqFactorS_any _ _ fs _ (OwnF.sl KX_30.out) (OwnF.sl KS.out)).mono ?_
  rintro e w8 ⟨rfl, hb_33⟩
  have z_w8 : w7.heap.size ≤ w8.heap.size := hb_33.size
  have KB_34 := Lib.hid (Below.tr KB_27.out hb_33)
  have KW_35 := Lib.hid (SlS.upN KW_28.out (by omega) hb_33)
  have Kz_36 := Blk.up Kz_29 hb_33
  have KX_37 := Lib.hid (OwnF.up KX_30.out hb_33)
  have KQ_38 := Lib.hid (OwnR.up KQ_31.out hb_33)
  have Kg_39 := Blk.up Kg_32 hb_33
  have KS_40 := Lib.hid (OwnF.up KS.out hb_33)
  clear hb_26 KB_27 KW_28 Kz_29 KX_30 KQ_31 Kg_32 KS
  clear KS_40
  go_wp2_with fail
  refine (markFactorS_any _ _ fs 1 _ (KX_37.out).1 (by omega) (by omega)).mono ?_
  rintro e w9 ⟨rfl, ho_42, hg_41⟩
  have hc_43 := OwnF.chgOf KX_37.out hg_41
  have z_w9 : w8.heap.size ≤ w9.heap.size := Chg.size hc_43
  have KB_44 := Lib.hid (Below.chg KB_34.out (by have := Below.size KB_34.out; omega) hc_43 (by omega))
  have KW_45 := Lib.hid (SlS.chgN KW_35.out (by omega) hc_43 (by omega))
  have Kz_46 := Blk.chg Kz_36 hc_43 (by omega)
  have KX_47 := Lib.hid (OwnF.markedC KX_37.out ho_42 hc_43)
  have KQ_48 := Lib.hid (OwnR.chg KQ_38.out hc_43 (by omega))
  have Kg_49 := Blk.chg Kg_39 hc_43 (by omega)
  clear hb_33 KB_34 KW_35 Kz_36 KX_37 KQ_38 Kg_39 ho_42 hg_41 hc_43
  have e0 : (decide (((1 + 3 * fs.length : Nat) : Int) < 0)) = false := by simp; omega
  have cg0_50 := Blk.cell (i := 0) (v := .slice A5 out.length c5) Kg_49 rfl
  have lg_51 := Blk.lt Kg_49
  have cz0_52 := Blk.cell (i := 0) (v := .slice A3 out.length c3) Kz_46 rfl
  have lz_53 := Blk.lt Kz_46
  go_wp2_with fail
  refine (eqGrammar_any _ _ out _ (OwnR.sl KQ_48.out) (SlS.le KW_45.out (by omega))).mono ?_
  rintro e w10 ⟨rfl, hb_54⟩
  have z_w10 : w9.heap.size ≤ w10.heap.size := hb_54.size
  have KB_55 := Lib.hid (Below.tr KB_44.out hb_54)
  have KW_56 := Lib.hid (SlS.upN KW_45.out (by omega) hb_54)
  have Kz_57 := Blk.up Kz_46 hb_54
  have KX_58 := Lib.hid (OwnF.up KX_47.out hb_54)
  have KQ_59 := Lib.hid (OwnR.up KQ_48.out hb_54)
  have Kg_60 := Blk.up Kg_49 hb_54
  clear cg0_50 lg_51 cz0_52 lz_53 KB_44 KW_45 Kz_46 KX_47 KQ_48 Kg_49
  have cg0_61 := Blk.cell (i := 0) (v := .slice A5 out.length c5) Kg_60 rfl
  have lg_62 := Blk.lt Kg_60
  go_wp2_with fail
  refine (markGrammar1 _ _ out _ (KQ_59.out).1 (by omega)).mono ?_
  rintro e w11 ⟨rfl, ho_64, hg_63⟩
  have hc_65 := chg_of KQ_59.out hg_63
  have z_w11 : w10.heap.size ≤ w11.heap.size := Chg.size hc_65
  have KB_66 := Lib.hid (Below.chg KB_55.out (by have := Below.size KB_55.out; omega) hc_65 (by omega))
  have KW_67 := Lib.hid (SlS.chgN KW_56.out (by omega) hc_65 (by omega))
  have Kz_68 := Blk.chg Kz_57 hc_65 (by omega)
  have KX_69 := Lib.hid (OwnF.chg KX_58.out hc_65 (by omega))
  have KQ_70 := Lib.hid (OwnR.markedC KQ_59.out ho_64 hc_65)
  have Kg_71 := Blk.chg Kg_60 hc_65 (by omega)
  clear hb_54 cg0_61 lg_62 KB_55 KW_56 Kz_57 KX_58 KQ_59 Kg_60 ho_64 hg_63 hc_65
  clear e0
  have cg0_72 := Blk.cell (i := 0) (v := .slice A5 out.length c5) Kg_71 rfl
  have lg_73 := Blk.lt Kg_71
  go_wp2_with fail
  refine (heldGrammar1 _ out.length _ (OwnR.sl KQ_70.out) (by omega)).mono ?_
  rintro e w12 ⟨rfl, hb_74⟩
  have z_w12 : w11.heap.size ≤ w12.heap.size := hb_74.size
  have KB_75 := Lib.hid (Below.tr KB_66.out hb_74)
  have KW_76 := Lib.hid (SlS.upN KW_67.out (by omega) hb_74)
  have Kz_77 := Blk.up Kz_68 hb_74
  have KX_78 := Lib.hid (OwnF.up KX_69.out hb_74)
  have KQ_79 := Lib.hid (OwnR.up KQ_70.out hb_74)
  have Kg_80 := Blk.up Kg_71 hb_74
  clear cg0_72 lg_73 KB_66 KW_67 Kz_68 KX_69 KQ_70 Kg_71
  go_wp2_with fail
  refine (toFactorS_any _ fs _ (HF.out.up KB_75.out) hn).mono ?_
  rintro e w13 ⟨v13, rfl, own13, hb_81⟩
  have z_w13 : w12.heap.size ≤ w13.heap.size := hb_81.size
  have KB_82 := Lib.hid (Below.tr KB_75.out hb_81)
  have KW_83 := Lib.hid (SlS.upN KW_76.out (by omega) hb_81)
  have Kz_84 := Blk.up Kz_77 hb_81
  have KX_85 := Lib.hid (OwnF.up KX_78.out hb_81)
  have KQ_86 := Lib.hid (OwnR.up KQ_79.out hb_81)
  have Kg_87 := Blk.up Kg_80 hb_81
  clear hb_74 KB_75 KW_76 Kz_77 KX_78 KQ_79 Kg_80
  have KS := Lib.hid (OwnF.of own13)
  clear own13
  go_wp2_with fail
  refine (implFac_any _ fs _ (OwnF.sl KS.out) hsm).mono ?_
  rintro e w14 ⟨hb_88, v14, own14, rfl⟩
  have z_w14 : w13.heap.size ≤ w14.heap.size := hb_88.size
  have KB_89 := Lib.hid (Below.tr KB_82.out hb_88)
  have KW_90 := Lib.hid (SlS.upN KW_83.out (by omega) hb_88)
  have Kz_91 := Blk.up Kz_84 hb_88
  have KX_92 := Lib.hid (OwnF.up KX_85.out hb_88)
  have KQ_93 := Lib.hid (OwnR.up KQ_86.out hb_88)
  have Kg_94 := Blk.up Kg_87 hb_88
  have KS_95 := Lib.hid (OwnF.up KS.out hb_88)
  clear hb_81 KB_82 KW_83 Kz_84 KX_85 KQ_86 Kg_87 KS
  clear KS_95
  rw [HOUT.out] at own14
  obtain ⟨A14, c14, rfl, _⟩ := own_nil own14
  have KH := Lib.hid (OwnRules.sl own14)
  clear own14
  have cz0_96 := Blk.cell (i := 0) (v := .slice A3 out.length c3) Kz_91 rfl
  have lz_97 := Blk.lt Kz_91
  go_wp2_with fail
  refine (eqGrammar_any _ _ out _ (SlS.le (SlS.below KH.out (by repeat (first | exact Below.refl _ _ | (refine Below.alloc ?_ (by first | omega | (simp; done) | (simp; omega)) _) | (refine Below.setCell ?_ (by first | exact Nat.le_refl _ | (show _ ≤ _; omega) | (simp; done) | (simp; omega)) _) | refine below_drewN ?_ _ | refine Below.drew ?_))) (by simp; done)) (SlS.le (SlS.below KW_90.out (by repeat (first | exact Below.refl _ _ | (refine Below.alloc ?_ (by first | omega | (simp; done) | (simp; omega)) _) | (refine Below.setCell ?_ (by first | exact Nat.le_refl _ | (show _ ≤ _; omega) | (simp; done) | (simp; omega)) _) | refine below_drewN ?_ _ | refine Below.drew ?_))) (by simp; omega))).mono ?_
  rintro e w15 ⟨rfl, hb_98⟩
  have Kh_99 : Blk w15 (w14.heap.size) #[.slice A14 out.length c14] 32 := by have := (Below.unalloc hb_98).2; simpa [Blk] using this
  replace hb_98 := (Below.unalloc hb_98).1
  have z_w15 : w14.heap.size ≤ w15.heap.size := hb_98.size
  have KB_100 := Lib.hid (Below.tr KB_89.out hb_98)
  have KW_101 := Lib.hid (SlS.upN KW_90.out (by omega) hb_98)
  have Kz_102 := Blk.up Kz_91 hb_98
  have KX_103 := Lib.hid (OwnF.up KX_92.out hb_98)
  have KQ_104 := Lib.hid (OwnR.up KQ_93.out hb_98)
  have Kg_105 := Blk.up Kg_94 hb_98
  have KH_106 := Lib.hid (SlS.upN KH.out (by omega) hb_98)
  clear hb_88 cz0_96 lz_97 KB_89 KW_90 Kz_91 KX_92 KQ_93 Kg_94 KH
  have cg0_107 := Blk.cell (i := 0) (v := .slice A5 out.length c5) Kg_105 rfl
  have lg_108 := Blk.lt Kg_105
  go_wp2_with fail
  refine (heldGrammar1 _ out.length _ (OwnR.sl KQ_104.out) (by omega)).mono ?_
  rintro e w16 ⟨rfl, hb_109⟩
  have z_w16 : w15.heap.size ≤ w16.heap.size := hb_109.size
  have KB_110 := Lib.hid (Below.tr KB_100.out hb_109)
  have KW_111 := Lib.hid (SlS.upN KW_101.out (by omega) hb_109)
  have Kz_112 := Blk.up Kz_102 hb_109
  have KX_113 := Lib.hid (OwnF.up KX_103.out hb_109)
  have KQ_114 := Lib.hid (OwnR.up KQ_104.out hb_109)
  have Kg_115 := Blk.up Kg_105 hb_109
  have KH_116 := Lib.hid (SlS.upN KH_106.out (by omega) hb_109)
  have Kh_117 := Blk.up Kh_99 hb_109
  clear hb_98 cg0_107 lg_108 KB_100 KW_101 Kz_102 KX_103 KQ_104 Kg_105 KH_106 Kh_99
  go_wp2
  go_ret
  exact ⟨rfl, KB_110.out⟩
end Go.Proofs.Ytfapnipmgmpgaaa

namespace Go.Proofs.Ytfapnipmgmpgaaa
open Go.RowKit Go.WideShapes Go.ChangeShapes
section
variable {H : Type} {enc : TypeId × Value → H} {P : Program}
theorem post_of_below {f : Func} {s : ChangeSpec} {apart fresh handsOn again : Bool} {W W' : World} {args : Array Value} {v : Value} {ds gs : List (DataW H)} {before pa pv : List MemPlace}
    (hW : DataW.Whole enc P f.params.toList s.vars apart W args.toList ds gs before)
    (hres : ∀ (b : Nat) (sp : Nat → Bool) (hd : Bool), DataW.TrodAll enc P W' b sp hd f.resultTypes.toList (v.resultList f.resultTypes.size) (s.fn H (ds ++ gs)).results [])
    (hargs : ∀ sp : Nat → Bool, (∀ p ∈ before, sp p.block = true) → DataW.TrodAll enc P W' 0 sp true f.params.toList args.toList (s.fn H (ds ++ gs)).args pa)
    (hvars : ∀ sp : Nat → Bool, (∀ p ∈ before, sp p.block = true) → DataW.TrodVars enc P W' sp s.vars (s.fn H (ds ++ gs)).vars pv)
    (hps : before = pa ++ pv) (hb : Below W.heap.size W W')
    (hok : ∀ (j : Nat) (t : TypeId) (r : Value), f.resultTypes[j]? = some t → (v.resultList f.resultTypes.size)[j]? = some r → Value.okWide P W' .any 0 t r) :
    s.post enc P f apart fresh handsOn again W args v W' := by
  have hlt : ∀ p ∈ before, p.block < W.heap.size := fun p hp => hW.lt p hp
  have hold : ∀ p ∈ before, (fun b => decide (b < W.heap.size)) p.block = true := fun p hp => by simpa using hlt p hp
  refine ⟨ds, gs, before, [], pa, pv, hW, hres _ _ _, hargs _ hold, hvars _ hold, World.keptBut_mono (fun p hp => ⟨hp, ?_⟩) (hb.frame (· ∈ before)), fun _ => ?_⟩
  · rw [hps, List.mem_append] at hp
    exact Or.inr hp
  · obtain ⟨_, _, _, _, _, hz, hn⟩ := hW
    refine ⟨hok, _, _, ([] ++ pa) ++ pv, ⟨[] ++ pa, pv, trodAll_append (hargs _ (fun _ _ => rfl)) (hres _ _ _), hvars _ (fun _ _ => rfl), rfl, ?_, ?_⟩, ?_⟩
    · intro b off hp
      have hin : MemPlace.cell b off ∈ before := by rw [hps]; simpa using hp
      rw [hb.frozen (hlt _ hin)]
      exact hz b off hin
    · intro ha
      have := hn ha
      rw [hps] at this
      simpa using this
    · intro p hp _
      rw [hps]
      simpa using hp

theorem trodAll_below (hl : laidOutB P = true) {W W' : World} (hb : Below W.heap.size W W') : ∀ {ts : List TypeId} {vs : List Value} {ds : List (DataW H)} {ps : List MemPlace},
    (∀ t ∈ ts, P.readableRec t = true ∧ t < P.types.size) → DataW.TrodAll enc P W 0 (fun _ => true) true ts vs ds ps → (∀ x ∈ ps, x.block < W.heap.size) → ∀ sp : Nat → Bool, (∀ p ∈ ps, sp p.block = true) →
    DataW.TrodAll enc P W' 0 sp true ts vs ds ps
  | [], _, _, _, _, h, _, _, _ => by
    obtain ⟨rfl, rfl, rfl⟩ := trodAll_nil h
    exact trodAll_mk0
  | t :: ts, vs, ds, ps, hts, h, hlt, sp, hsp => by
    obtain ⟨v, vs', d, ds', p, q, rfl, rfl, rfl, h0, r0⟩ := trodAll_cons h
    refine trodAll_cons_mk (WideElems.Trod_stays hl (hts t (by simp)).1 (hts t (by simp)).2 h0 (fun x hx => hb.same (hlt x (by simp [hx]))) (fun x hx => hsp x (by simp [hx]))) ?_
    exact trodAll_below hl hb (fun t ht => hts t (by simp [ht])) r0 (fun x hx => hlt x (by simp [hx])) sp (fun x hx => hsp x (by simp [hx]))
end
theorem laidOut : laidOutB Try.prog = true := by kernel_rfl
theorem own : ownKnob Try.prog.godebug = none := by kernel_rfl
end Go.Proofs.Ytfapnipmgmpgaaa

namespace Go.Proofs.Ytfapnipmgmpgaaa
open Go.RowKit Go.ChangeShapes Go.WideShapes Go.Deep
section
variable {H : Type} {enc : TypeId × Value → H} {P : Program} {w : World} {base : Nat} {spare : Nat → Bool} {held : Bool}
theorem open_slice_fields {t e : TypeId} {fs : Array Field} {fuel : Nat} {cs : List Value} {x : DataW H × List MemPlace} (ht : P.underlying t = some (.slice e)) (he : P.underlying e = some (.struct fs))
    (hone : oneCellFields P fs = true) (hC : P.cellsOf e = fs.size) (h : DataW.trod enc P w base spare held fuel t cs = some x) :
    (cs = [.slice none 0 0] ∧ x = (.nil, [])) ∨
    ∃ (a : Addr) (len cap m : Nat) (D : Nat → DataW H) (Pl : Nat → List MemPlace), cs = [.slice (some a) len cap] ∧ base ≤ a.block ∧ len ≤ cap ∧ cap ≤ maxLen ∧ m = (if spare a.block then cap else len) ∧
      x = (.slice ((List.range len).map D) ((List.range (m - len)).map fun j => D (len + j)), MemPlace.row a (m * fs.size) ++ (List.range m).flatMap Pl) ∧
      ∀ i, i < m → ∃ (ys : List (DataW H × List MemPlace)) (n : Nat), D i = .agg (ys.map (·.1)) ∧ Pl i = ys.flatMap (·.2) ∧ ys.length = fs.size ∧
        ∀ (j : Nat) (f : Field), fs[j]? = some f → ∃ (v : Value) (y : DataW H × List MemPlace), w.cell? (a.add (i * fs.size + j)) = some v ∧ ys[j]? = some y ∧ DataW.trod enc P w base spare held n f.type [v] = some y := by
  rcases open_slice ht h with h0 | ⟨a, len, cap, m, n, D, Pl, hcs, hb, hl, hm, hmm, hx, hi⟩
  · exact .inl h0
  · refine .inr ⟨a, len, cap, m, D, Pl, hcs, hb, hl, hm, hmm, by rw [hC] at hx; exact hx, fun i him => ?_⟩
    obtain ⟨cs', hc, ht'⟩ := hi i him
    rw [hC] at hc
    obtain ⟨ys, n', hn', hy, hlen, hyl, hf⟩ := DataW.trod_struct he ht'
    obtain ⟨_, hcl, hat⟩ := World.cells?_some hc
    simp only [Prod.mk.injEq] at hy
    refine ⟨ys, n', hy.1, hy.2, hyl, fun j f hj => ?_⟩
    obtain ⟨ho, hk⟩ := hone_of hone j f hj
    have hjl : j < fs.size := (Array.getElem?_eq_some_iff.1 hj).1
    have hcell := hat j hjl
    have hv : cs'[j]? = some (cs'[j]'(by omega)) := List.getElem?_eq_getElem (by omega)
    have h1 := hf j f hj
    rw [ho, hk] at h1
    have hone' : (cs'.drop j).take 1 = [cs'[j]'(by omega)] := by
      rw [List.drop_eq_getElem_cons (by omega)]
      rfl
    rw [hone'] at h1
    have hys : ys[j]? = some (ys[j]'(by omega)) := List.getElem?_eq_getElem (by omega)
    refine ⟨_, _, ?_, hys, h1.trans hys⟩
    rw [← Go.Deep.add_add, hcell, hv]

theorem add_plain (b o n : Nat) : (⟨b, o, none⟩ : Addr).add n = ⟨b, o + n, none⟩ := by unfold Addr.add; split <;> simp_all
theorem spot_none {a : Addr} {v : Value} (h : w.cell? a = some v) : a = ⟨a.block, a.off, none⟩ ∧ a.block < w.heap.size := by
  have hl := World.block_lt_of_cell? w a h
  refine ⟨?_, hl⟩
  obtain ⟨b, o, s⟩ := a
  unfold World.cell? at h
  cases s with
  | none => rfl
  | some s => split at h <;> simp at h
theorem len_map_range {α : Type} (f : Nat → α) (n : Nat) : ((List.range n).map f).length = n := by simp

theorem open_rules {t e : TypeId} {f0 f1 f2 : Field} {fuel : Nat} {v : Value} {x : DataW H × List MemPlace} (ht : P.underlying t = some (.slice e)) (he : P.underlying e = some (.struct #[f0, f1, f2]))
    (hone : oneCellFields P #[f0, f1, f2] = true) (hC : P.cellsOf e = 3) (h0 : P.underlying f0.type = some .string) (h1 : P.underlying f1.type = some (.int .i64)) (h2 : P.underlying f2.type = some (.int .i64))
    (h : DataW.trod enc P w base spare held fuel t [v] = some x) : ∃ xs : List GRule, Sl RuleE w w.heap.size v xs ∧ SmallL xs := by
  rcases open_slice_fields ht he hone hC h with ⟨hcs, _⟩ | ⟨a, len, cap, m, D, Pl, hcs, _, hl, hm, hmm, _, hf⟩
  · simp at hcs
    subst hcs
    exact ⟨[], SlS.nil _ _, fun r hr => by simp at hr⟩
  · simp at hcs
    subst hcs
    have hmle : len ≤ m := by rw [hmm]; split <;> omega
    have H : ∀ i, ∃ r : GRule, i < len → (w.cell? (a.add (i * 3)) = some (.string r.letter) ∧ w.cell? (a.add (i * 3 + 1)) = some (.int .i64 r.left) ∧ w.cell? (a.add (i * 3 + 2)) = some (.int .i64 r.right) ∧ r.letter.size ≤ maxLen) := by
      intro i
      by_cases hi : i < len
      · obtain ⟨ys, n, _, _, _, hx⟩ := hf i (by omega)
        obtain ⟨v0, y0, g0, _, t0⟩ := hx 0 f0 rfl
        obtain ⟨v1, y1, g1, _, t1⟩ := hx 1 f1 rfl
        obtain ⟨v2, y2, g2, _, t2⟩ := hx 2 f2 rfl
        obtain ⟨s, e0, _, hs⟩ := DataW.trod_string h0 t0
        obtain ⟨p, e1, _, _⟩ := DataW.trod_int h1 t1
        obtain ⟨q, e2, _, _⟩ := DataW.trod_int h2 t2
        simp at e0 e1 e2
        subst e0 e1 e2
        exact ⟨⟨s, p, q⟩, fun _ => ⟨by simpa using g0, g1, g2, hs⟩⟩
      · exact ⟨⟨⟨#[]⟩, 0, 0⟩, fun h => absurd h hi⟩
    obtain ⟨F, hF⟩ : ∃ F : Nat → GRule, ∀ i, i < len → (w.cell? (a.add (i * 3)) = some (.string (F i).letter) ∧ w.cell? (a.add (i * 3 + 1)) = some (.int .i64 (F i).left) ∧ w.cell? (a.add (i * 3 + 2)) = some (.int .i64 (F i).right) ∧ (F i).letter.size ≤ maxLen) :=
      ⟨fun i => Classical.choose (H i), fun i hi => Classical.choose_spec (H i) hi⟩
    clear H
    refine ⟨(List.range len).map F, ⟨some a, cap, by rw [len_map_range], by rw [len_map_range]; exact hl, hm, fun hn => ?_⟩, ?_⟩
    · rw [len_map_range] at hn
      obtain ⟨g0, _⟩ := hF 0 hn
      have ha : a.add (0 * 3) = a := by simp [Addr.add]
      rw [ha] at g0
      obtain ⟨hsp, hlt⟩ := spot_none g0
      refine ⟨a.block, a.off, by rw [← hsp], hlt, fun k r hr => ⟨r.cells, rfl, fun j u hu => ?_⟩⟩
      have hk : k < len := by
        have := (List.getElem?_eq_some_iff.1 hr).1
        rw [len_map_range] at this; exact this
      have er : F k = r := by
        rw [List.getElem?_map, List.getElem?_range hk] at hr; simpa using hr
      obtain ⟨g0, g1, g2, _⟩ := hF k hk
      rw [er, hsp, add_plain] at g0 g1 g2
      match j, hu with
      | 0, hu => simp [GRule.cells] at hu; subst hu; exact g0
      | 1, hu => simp [GRule.cells] at hu; subst hu; exact g1
      | 2, hu => simp [GRule.cells] at hu; subst hu; exact g2
      | j + 3, hu => simp [GRule.cells] at hu
    · intro r hr
      rw [List.mem_map] at hr
      obtain ⟨k, hk, rfl⟩ := hr
      have := (hF k (by simpa using hk)).2.2.2
      unfold maxLen at this
      exact this

end
end Go.Proofs.Ytfapnipmgmpgaaa

namespace Go.Proofs.Ytfapnipmgmpgaaa
open Go.ChangeShapes Go.WideShapes Go.ChangeAt Go.RowKit Go.Joins Go.Deep
set_option maxRecDepth 100000 in
theorem open_facs {H : Type} {enc : TypeId × Value → H} {w : World} {base : Nat} {spare : Nat → Bool} {held : Bool} {r : Reach} {b0 : Nat} {v : Value} {d : DataW H} {p : List MemPlace}
    (hv : Value.okWide Try.prog w r b0 45 v) (h : DataW.Trod enc Try.prog w base spare held 45 v d p) : ∃ xs, Sl RuleE w w.heap.size v xs ∧ SmallL xs := by
  obtain ⟨a, len, cap, rfl⟩ := okWide_slice Try.underlying45 hv
  obtain ⟨fuel, hf⟩ := h
  exact open_rules Try.underlying45 Try.underlying98 (by kernel_rfl) (by kernel_rfl) Try.underlying9 Try.underlying2 Try.underlying2 (fuel := fuel) (by simpa [Value.cells] using hf)
end Go.Proofs.Ytfapnipmgmpgaaa

