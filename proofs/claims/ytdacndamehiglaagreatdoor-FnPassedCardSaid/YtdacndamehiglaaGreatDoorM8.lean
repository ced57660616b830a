import Derived.Test.YtdacndamehiglaaGreatDoorM7
import Derived.Deep.DeepCutAuto
import Derived.Deep.CutBlock
import Derived.Test.YtdacndamehiglaaGreatDoorM3
import Derived.Test.YtdacndamehiglaaGreatDoorM6
namespace Go.Proofs.YtdacndamehiglaaGreatDoor
open Go.RowKit
def ixB (s : ByteArray) (k : Nat) : Int := Lib.indexByte s.data.toList (ltr k)
theorem ixB_yes {s : ByteArray} {k : Nat} (h : hasC s (ltr k) = true) : 0 ≤ ixB s k := by
  have h1 := Lib.indexByte_ge s.data.toList (ltr k)
  rcases Int.lt_or_le (ixB s k) 0 with hn | hn
  · have hm : ixB s k = -1 := by unfold ixB at hn ⊢; omega
    have := Lib.indexByte_none hm
    unfold hasC at h
    rw [List.contains_iff_mem] at h
    obtain ⟨j, hj⟩ := List.mem_iff_getElem?.1 h
    exact absurd hj (this j)
  · exact hn
theorem ixB_no {s : ByteArray} {k : Nat} (h : ¬ hasC s (ltr k) = true) : ixB s k < 0 := by
  rcases Int.lt_or_le (ixB s k) 0 with hn | hn
  · exact hn
  · obtain ⟨o, ho⟩ := Int.eq_ofNat_of_zero_le hn
    have := (Lib.indexByte_some (show Lib.indexByte s.data.toList (ltr k) = (o : Int) from ho)).1
    exact absurd (List.contains_iff_mem.2 (List.mem_of_getElem? this)) h
theorem ltr_nat {k : Nat} (h : k < 4) : ((97 + k : Nat) : Int) = ((ltr k).toNat : Int) := by
  have : k = 0 ∨ k = 1 ∨ k = 2 ∨ k = 3 := by omega
  rcases this with rfl | rfl | rfl | rfl <;> rfl
theorem indexByte_any (s : ByteArray) (k : Nat) (c : Int) (w : World) (hk : k < 4) (hc : c = 97 + k) : Calls Tryz.prog 169 #[.string s, .int .u8 c] w fun e w' => e = .returned (.int .i64 (ixB s k)) ∧ w = w' := by
  have h2 := ltr_nat hk
  have h3 : c.toNat.toUInt8 = ltr k := by
    have : k = 0 ∨ k = 1 ∨ k = 2 ∨ k = 3 := by omega
    subst hc
    rcases this with rfl | rfl | rfl | rfl <;> rfl
  refine (Tryz.strings_IndexByte s c w).mono fun e w' h => ⟨?_, h.2.symm⟩
  rw [h.1, h3]; rfl
theorem letter_int (k : Nat) (c : Int) (w : World) (hk : k < 4) (hc : c = 97 + k) : Calls Tryz.prog 170 #[.int .u8 c] w fun e w' => e = .returned (.agg #[.string (letR (ltr k)).letter, .int .i64 0, .int .i64 0]) ∧ Below w.heap.size w w' := by
  have h2 := ltr_nat hk
  have : c = ((ltr k).toNat : Int) := by omega
  subst this
  exact letter_any _ _
theorem Blk.new' {w : World} {b : Nat} {a : Array Value} {t : TypeId} (h : b = w.heap.size) : Blk (w.alloc (.cells a t)) b a t := by subst h; exact Blk.new _ _ _
theorem idxR_idxG {s : ByteArray} (hw : wordOk s = true) {i : Nat} (h : i < s.size) : idxR (letsG s 4) (letR s[i]) = ((idxG s s[i] : Nat) : Int) := by
  have := idxG_lt hw h
  unfold idxR idxG at *
  rw [if_pos this]
set_option maxRecDepth 100000 in
set_option maxHeartbeats 1000000 in
theorem plainOf_any (s : ByteArray) (i L N : Nat) (vL : Value) (w : World) (hi : i < s.size) (hw : wordOk s = true) (hL : Blk w L #[vL] 24) (hN : Blk w N #[.string s] 9) (hS : Sl RuleE w w.heap.size vL (letsG s 4)) :
    Calls Tryz.prog 171 #[.int .i64 (i : Int), .pointer (some ⟨L, 0, none⟩), .pointer (some ⟨N, 0, none⟩)] w fun e w' => e = .returned (.int .i64 ((idxG s (s[i]'hi) : Nat) : Int)) ∧ Below w.heap.size w w' := by
  have HI := Lib.hid (idxR_idxG hw hi)
  have HS := Lib.hid hS
  obtain ⟨AL, cL, rfl, _⟩ := hS
  have cL0 := hL.cell (i := 0) (v := .slice AL (letsG s 4).length cL) rfl
  have cN0 := hN.cell (i := 0) (v := .string s) rfl
  have lL := hL.lt
  have lN := hN.lt
  have hi2 : (i : Int) < (s.size : Int) := by omega
  clear hL hN hw
  go_enter Tryz.func171, Tryz.ntmps171
  go_wp2_with fail
  have KB := And.intro (show Below w.heap.size w w.drew from Below.drew (Below.refl _ _)) (And.intro (show w.drew.cell? ⟨L, 0, none⟩ = _ from cL0) (show w.drew.cell? ⟨N, 0, none⟩ = _ from cN0))
  go_region_held3 (fun w' => Below w.heap.size w w' ∧ w'.cell? ⟨L, 0, none⟩ = some (.slice AL (letsG s 4).length cL) ∧ w'.cell? ⟨N, 0, none⟩ = some (.string s))
    (first | (with_reducible exact KB) | (with_reducible exact keepC KB hb1 lL lN) | (with_reducible exact keepC (keepC KB hb1 lL lN) hb2 lL lN))
    (first
      | (go_at_call 170; (refine (letter_any _ _).mono ?_); rintro e w1 ⟨rfl, hb1⟩)
      | (go_at_call 172; (refine (indexRules_any _ (letsG s 4) (letR (s[i]'hi)) _ ((HS.out.up (by repeat (first | exact Below.refl _ _ | (refine Below.alloc ?_ (by first | omega | (simp; done) | (simp; omega)) _) | refine below_drewN ?_ _ | refine Below.drew ?_))).up hb1)).mono ?_); rintro e w2 ⟨rfl, hb2⟩))
  have HZ := Lib.hid (keepC (keepC KB hb1 lL lN) hb2 lL lN).1
  clear KB hb1 hb2
  go_wp2
  go_ret
  exact ⟨ret_int HI.out, HZ.out⟩
set_option maxRecDepth 100000 in
set_option maxHeartbeats 4000000 in
theorem plain_any (s : ByteArray) (w : World) (hs : wordOk s = true) :
    Calls Tryz.prog 127 #[.string s] w (GOwn (plainG s) w) := by
  have hsz : s.size ≤ 2000 := by unfold wordOk at hs; simp only [Bool.and_eq_true, decide_eq_true_eq] at hs; omega
  have HS := Lib.hid hs
  clear hs
  go_enter Tryz.func127, Tryz.ntmps127
  go_wp2_with fail
  go_loopw [4] (fun c wr => ∃ (k : Nat) (vo : Value), k ≤ 4 ∧ c = .int .u8 ((97 + k : Nat) : Int) ∧ Below w.heap.size w wr ∧ Blk wr w.heap.size #[.string s] 9 ∧ Blk wr (w.heap.size + 1) #[.slice none 0 0] 26 ∧ Boxed wr (w.heap.size + 2) 26 vo ∧ OwnRules wr (w.heap.size + 3) vo (letsG s k)) (fun c _ => 101 - (intOf c).toNat)
  case atStart =>
    refine ⟨0, .slice none 0 0, by omega, rfl, (by repeat (first | exact Below.refl _ _ | (refine Below.alloc ?_ (by first | omega | (simp; done) | (simp; omega)) _) | (refine Below.setCell ?_ (by first | exact Nat.le_refl _ | (show _ ≤ _; omega) | (simp; done) | (simp; omega)) _) | refine below_drewN ?_ _ | refine Below.drew ?_)), ?_, ?_, ?_, World.ownsRow_nil _ _ _ _⟩
    · repeat (first | (apply Blk.new'; simp; done) | apply Blk.alloc | apply Blk.drew)
    · repeat (first | (apply Blk.new'; simp; done) | apply Blk.alloc | apply Blk.drew)
    · show Blk _ _ #[.slice none 0 0] _
      repeat (first | (apply Blk.new'; simp; done) | apply Blk.alloc | apply Blk.drew)
  case round =>
    obtain ⟨k, vo, hk, rfl, hb, h0, h1, hbox, hown⟩ := hrel
    have HB := Lib.hid hb
    have H0 := Lib.hid h0
    have H1 := Lib.hid h1
    have Hbox := Lib.hid hbox
    have Hown := Lib.hid hown
    have c0 := h0.cell (i := 0) (v := .string s) rfl
    have cb := hbox.cell
    have fb := hbox.frozen
    have lb := hbox.lt
    have l0 := h0.lt
    obtain ⟨Ao, co, rfl, _⟩ := own_nil hown
    have HL := Lib.hid (show (letsG s k).length ≤ 1099511627775 by have := letsG_len s k; omega)
    clear hb h0 h1 hbox hown
    by_cases hlt : k < 4
    · have HSu := Lib.hid (letsG_succ s k)
      by_cases hc : hasC s (ltr k) = true
      · have hix := ixB_yes hc
        have HC := Lib.hid hc
        clear hc
        go_wp2_with (first
          | (go_at_call 169; refine (indexByte_any s k _ _ hlt (by omega)).mono ?_; rintro e w' ⟨rfl, rfl⟩))
        go_region_law (first
          | (refine step_push_rule (base := w.heap.size + 3) (by rfl) _ _ (by rfl) (by rfl) (by first | rfl | simp) rfl (OwnRules.below Hown.out.drew hb2) HL.out (by omega) ?_; intro v3 w3 own3 hg3 hb3; have bx3 : Boxed w3 (w.heap.size + 2) 26 _ := Boxed.grown (Boxed.up (Boxed.mk' Hbox.out) hb2 lb) (by decide) (OwnRules.below Hown.out.drew hb2) hg3; obtain ⟨A3, c3, rfl, _⟩ := own_nil own3; have hcb3 := bx3.cell; have hfb3 := bx3.frozen)
          | (go_simp; go_at_call 170; refine (letter_int k _ _ hlt (by omega)).mono ?_; rintro e w2 ⟨rfl, hb2⟩; have bx2 := Boxed.up (Boxed.mk' Hbox.out) hb2 lb; have hcb2 := bx2.cell; have hfb2 := bx2.frozen; have hlb2 := bx2.lt))
        all_goals
          have z2 : wr.heap.size ≤ w2.heap.size := hb2.size
          have hbz : Below (w.heap.size + 3) wr w3 := (Below.drew (Below.refl _ _)).trans (((hb2.mono (by show w.heap.size + 3 ≤ wr.heap.size; omega)).alloc (by omega) _).trans hb3)
          have HBZ := Lib.hid hbz
          have HO3 := Lib.hid own3
          have HX3 := Lib.hid bx3
          clear hbz own3 bx3 hb3 hb2 hg3 bx2
          go_wp2
          go_roundw
          case rel =>
            refine ⟨k + 1, _, by omega, by go_num, (HB.out.trans (HBZ.out.mono (by omega))).setCell (by show w.heap.size ≤ w.heap.size + 2; omega) _, (H0.out.upB HBZ.out (by omega)).other (by show w.heap.size ≠ w.heap.size + 2; omega) _, (H1.out.upB HBZ.out (by omega)).other (by show w.heap.size + 1 ≠ w.heap.size + 2; omega) _, Boxed.set _ HX3.out, ?_⟩
            rw [HSu.out, if_pos HC.out]
            exact own_put HX3.out HO3.out rfl (by simp)
          case measure => simp [intOf]; omega
      · have hix := ixB_no hc
        have HC := Lib.hid hc
        clear hc
        go_wp2_with (first
          | (go_at_call 169; refine (indexByte_any s k _ _ hlt (by omega)).mono ?_; rintro e w' ⟨rfl, rfl⟩))
        go_roundw
        case rel => exact ⟨k + 1, _, by omega, by go_num, HB.out, H0.out, H1.out, Hbox.out, by rw [HSu.out, if_neg HC.out]; exact Hown.out⟩
        case measure => simp [intOf]; omega
    · have hk4 : k = 4 := by omega
      subst hk4
      rw [show ((97 + 4 : Nat) : Int) = 101 from rfl]
      have hlen4 := letsG_len s 4
      obtain ⟨wo, rfl⟩ : ∃ wo : World, wo = wr := ⟨_, rfl⟩
      have hL0 := Lib.hid (Hown.out.slS (S := fun b => w.heap.size + 3 ≤ b ∧ b < wo.heap.size) fun g hg => World.ownsRow.lt Hown.out g hg)
      have hAo := Lib.hid (show 0 < (letsG s 4).length → ∃ g, Ao = some ⟨g, 0, none⟩ from fun hp => by
        obtain ⟨g, cap, e, _⟩ := own_form Hown.out hp
        injection e with e1
        exact ⟨g, e1⟩)
      go_wp2_with fail
      go_loopw [7] (fun q wx => ∃ (i : Nat) (vo : Value), 1 ≤ i ∧ (i ≤ s.size ∨ i = 1) ∧ q = .int .i64 (i : Int) ∧ Below w.heap.size w wx ∧ Blk wx w.heap.size #[.string s] 9 ∧ Blk wx (w.heap.size + 1) #[.slice none 0 0] 26 ∧
        Blk wx wo.heap.size #[.slice Ao (letsG s 4).length co] 24 ∧ Boxed wx (w.heap.size + 2) 26 vo ∧ OwnRules wx (w.heap.size + 3) vo (plainK s (i - 1)) ∧ SlS RuleE wx (fun b => w.heap.size + 3 ≤ b ∧ b < wo.heap.size) (.slice Ao (letsG s 4).length co) (letsG s 4)) (fun q _ => s.size + 1 - (intOf q).toNat)
      case atStart =>
        refine ⟨1, _, Nat.le_refl _, .inr rfl, rfl, HB.out.alloc HB.out.size _, H0.out.alloc _, H1.out.alloc _, Blk.new _ _ _, Boxed.alloc Hbox.out _, ?_, hL0.out.keep (Keep.of_below (B := wo.heap.size) ((Below.refl _ _).alloc (Nat.le_refl _) _) |>.mono fun _ hb => hb.2)⟩
        rw [show 1 - 1 = 0 from rfl, plainK_zero]
        exact Hown.out.alloc _
      case round =>
        obtain ⟨i, vo, hi1, hi2, rfl, hb, h0, h1, hL, hbox, hown, hsl⟩ := hrel
        have zr : w.heap.size + 2 < wr.heap.size := hbox.lt
        have zo : wo.heap.size < wr.heap.size := hL.lt
        have HB2 := Lib.hid hb
        have HK0 := Lib.hid h0
        have HK1 := Lib.hid h1
        have HKL := Lib.hid hL
        have HX := Lib.hid hbox
        have HO := Lib.hid hown
        have HSl := Lib.hid hsl
        have HSl2 := Lib.hid (show Sl RuleE wr wr.heap.size _ _ from hsl.more fun b hb => by omega)
        have c0' := h0.cell (i := 0) (v := .string s) rfl
        have l0' := h0.lt
        have cb' := hbox.cell
        have fb' := hbox.frozen
        have hlp := Lib.hid (plainK_len s (i - 1))
        obtain ⟨A2, c2, rfl, _⟩ := own_nil hown
        clear hb h0 h1 hL hbox hown hsl HB H0 H1 Hbox Hown cb fb c0 l0
        by_cases hlt2 : i < s.size
        · have HP := Lib.hid (plainK_succ s (i - 1))
          have HLn := Lib.hid (show (plainK s (i - 1)).length ≤ 1099511627775 by rw [hlp.out]; omega)
          have hpos : 0 < s.size := by omega
          have hpl1 : 1 ≤ (plainK s (i - 1)).length := by have := idxG_lt HS.out hpos; rw [hlp.out]; omega
          have hpl2 : (plainK s (i - 1)).length ≤ 4000 := by rw [hlp.out]; omega
          obtain ⟨I, hI⟩ : ∃ I : Nat, I = idxG s (s.data.getD i 0) := ⟨_, rfl⟩
          have hidx : ∀ W (hb : Below wr.heap.size wr W), Calls Tryz.prog 171 #[.int .i64 (i : Int), .pointer (some ⟨wo.heap.size, 0, none⟩), .pointer (some ⟨w.heap.size, 0, none⟩)] W fun e w' => e = .returned (.int .i64 (I : Int)) ∧ Below W.heap.size W w' := fun W hb => by
            rw [hI, getD_data hlt2]
            exact plainOf_any s i wo.heap.size w.heap.size _ W hlt2 HS.out (HKL.out.up hb) (HK0.out.up hb) (HSl2.out.up hb)
          have OF1 := Lib.hid hidx
          clear hidx
          obtain ⟨B, hB⟩ : ∃ B : Nat, (if i - 1 = 0 then (idxG s (s.data.getD 0 0) : Nat) else (letsG s 4).length + (i - 1) - 1) = B := ⟨_, rfl⟩
          have hBp : pairAt s (i - 1) = pairR (B : Int) (I : Int) := by
            unfold pairAt
            rw [show i - 1 + 1 = i by omega, ← hB, ← hI]
            split <;> rfl
          have HBp := Lib.hid hBp
          have HBq := Lib.hid hB
          clear hBp hB hI
          go_upto_if 39 with fail
          go_cut [8] (fun u8 wx => u8 = .int .i64 (B : Int) ∧ Below wr.heap.size wr wx)
          case first =>
            by_cases h1i : i = 1
            · subst h1i
              have OF0 := Lib.hid (plainOf_any s 0 wo.heap.size w.heap.size _ wr hpos HS.out HKL.out HK0.out HSl2.out)
              go_wp2_with (first
                | (go_at_call 171; (refine OF0.out.mono ?_); rintro e w2 ⟨rfl, hb2⟩))
              go_meet
              exact ⟨by rw [← HBq.out, if_pos trivial, getD_data hpos], hb2⟩
            · have hb1 : ((i : Int) == 1) = false := by rw [beq_eq_false_iff_ne]; omega
              go_wp2
              go_meet
              refine ⟨?_, Below.refl _ _⟩
              rw [← HBq.out, if_neg (by omega), hlp.out]
              congr 1; omega
          case rest =>
            obtain ⟨rfl, hbc⟩ := hcut
            have HC0 := Lib.hid hbc
            have HKX := Lib.hid (Boxed.up HX.out hbc HX.out.lt)
            have cb2 := HKX.out.cell
            have fb2 := HKX.out.frozen
            have lb2 := HKX.out.lt
            have HO1 := Lib.hid (OwnRules.below HO.out hbc)
            clear hbc cb' fb' c0'
            go_wp2_with fail
            go_region_law (first
              | (go_simp; go_at_call 171; refine (OF1.out _ (by repeat (first | exact HC0.out | refine Below.drew ?_))).mono ?_; rintro e w2 ⟨rfl, hb2⟩; have bx2 := Boxed.up (Boxed.mk' HKX.out) hb2 lb2; have hcb2 := bx2.cell; have hfb2 := bx2.frozen; have lb3 := bx2.lt)
              | (go_simp; go_at_call 173; refine (pairInt_any _ _ _).mono ?_; rintro e w3 ⟨rfl, hb3⟩; have bx3 := Boxed.up bx2 hb3 lb3; have hcb3 := bx3.cell; have hfb3 := bx3.frozen; have lb4 := bx3.lt)
              | (refine step_push_ruleK (base := w.heap.size + 3) (by rfl) _ _ (by rfl) (by rfl) (by first | rfl | simp) rfl (OwnRules.below (OwnRules.below HO1.out.drew hb2) hb3) HLn.out (by omega) ?_; intro v4 w4 own4 hg4 hor4 hb4; have bx4 : Boxed w4 (w.heap.size + 2) 26 _ := Boxed.grown (Boxed.up (Boxed.up (Boxed.mk' HKX.out) hb2 lb2) hb3 lb3) (by decide) (OwnRules.below (OwnRules.below HO1.out.drew hb2) hb3) hg4; obtain ⟨A4, c4, rfl, _⟩ := own_nil own4; have hcb4 := bx4.cell; have hfb4 := bx4.frozen))
            all_goals
              have z2 : wc.heap.size ≤ w2.heap.size := hb2.size
              have z3 : w2.heap.size ≤ w3.heap.size := hb3.size
              have zc : wr.heap.size ≤ wc.heap.size := HC0.out.size
              have h23 : Below wc.heap.size wc w3 := Below.tr (Below.undrew hb2) hb3
              have hbz : Below (w.heap.size + 3) wr w4 := (HC0.out.mono (by omega)).trans ((h23.mono (by omega)).trans (((Below.refl _ _).alloc (by omega) _).trans hb4))
              have OWN := OwnRules.below (OwnRules.below HO1.out.drew hb2) hb3
              have bL : Boxed w4 wo.heap.size 24 _ := Boxed.grownO (t := 24) (((HKL.out.up HC0.out).up h23)) (by decide) OWN hg4
              have HBL := Lib.hid bL
              have HBZ := Lib.hid hbz
              have HO4 := Lib.hid own4
              have HX4 := Lib.hid bx4
              obtain ⟨g, hg⟩ := hAo.out (by have := idxG_lt HS.out hpos; omega)
              have hsl3 : SlS RuleE (w3.alloc (.cells #[.string ⟨#[]⟩, .int .i64 (B : Int), .int .i64 (I : Int)] 112)) (fun b => w.heap.size + 3 ≤ b ∧ b < wo.heap.size) (.slice Ao (letsG s 4).length co) (letsG s 4) :=
                HSl.out.keep ((Keep.of_below ((Below.tr HC0.out h23).alloc (by omega) _)).mono fun _ hb => by omega)
              have e4 : plainK s (i - 1) ++ [⟨⟨#[]⟩, (B : Int), (I : Int)⟩] = letsG s 4 ++ ((List.range (i - 1)).map (pairAt s) ++ [⟨⟨#[]⟩, (B : Int), (I : Int)⟩]) := by rw [plainK, List.append_assoc]
              have hsl4 : SlS RuleE w4 (fun b => w.heap.size + 3 ≤ b ∧ b < wo.heap.size) (.slice Ao (letsG s 4).length co) (letsG s 4) := by
                rw [hg] at hsl3 ⊢
                exact lets_keep hsl3 (fun b hb => by simp; omega) own4 e4 hg4 hor4
              have HSL4 := Lib.hid hsl4
              clear hsl3 hsl4 e4 hg bL hbz own4 bx4 OWN h23 hb2 hb3 hb4 hg4 hor4 bx2 bx3
              go_wp2
              go_roundw
              case rel =>
                refine ⟨i + 1, _, by omega, .inl (by omega), by go_num, (HB2.out.trans (HBZ.out.mono (by omega))).setCell (by show w.heap.size ≤ w.heap.size + 2; omega) _, (HK0.out.upB HBZ.out (by omega)).other (by show w.heap.size ≠ w.heap.size + 2; omega) _, (HK1.out.upB HBZ.out (by omega)).other (by show w.heap.size + 1 ≠ w.heap.size + 2; omega) _,
                  Blk.other HBL.out (by show wo.heap.size ≠ w.heap.size + 2; omega) _, Boxed.set _ HX4.out, ?_, HSL4.out.keep fun b hb => Below.heap_setCell _ _ _ _ (by show b ≠ w.heap.size + 2; omega)⟩
                rw [show i + 1 - 1 = (i - 1) + 1 by omega, HP.out, HBp.out]
                exact own_put HX4.out HO4.out rfl (by simp)
              case measure => simp [intOf]; omega
        · have hb0 : 1 ≤ i := hi1
          have HE := Lib.hid (show plainK s (i - 1) = plainG s by rw [plainG]; congr 1; omega)
          have r1 := HK1.out.cell (i := 0) (v := .slice none 0 0) rfl
          have r2 := HK1.out.frozen 0
          have r3 := HK1.out.lt
          go_wp2
          rw [HE.out] at HO HX
          refine bodyPost_ret (v := .agg #[.slice A2 (plainG s).length c2]) (by simp [results, Tryz.results127, go_sem, r1, HE.out]) rfl ⟨HB2.out.setCell (by show w.heap.size ≤ w.heap.size + 1; omega) _, _, ?_, rfl⟩
          exact ownsRow_more (ownsRow_setCell_below HO.out (a := ⟨w.heap.size + 1, 0, none⟩) (by show w.heap.size + 1 < w.heap.size + 3; omega) _) (by omega)
theorem raiseR_ok {n k : Nat} {r : GRule} (h : okRule k r = true) : okRule (n + k) (raiseR n r) = true := by
  unfold raiseR
  cases hp : r.pair with
  | true =>
    obtain ⟨q1, q2, q3, q4⟩ := okRule_at h hp
    rw [if_pos rfl]
    have hl : r.letter.size = 0 := by simpa [GRule.pair] using hp
    unfold okRule
    rw [if_pos (show (GRule.pair ⟨r.letter, r.left + n, r.right + n⟩) = true by simpa [GRule.pair] using hl)]
    show (decide (0 ≤ r.left + n) && decide (r.left + n ≤ ((n + k : Nat) : Int) - 1) && decide (0 ≤ r.right + n) && decide (r.right + n ≤ ((n + k : Nat) : Int) - 1)) = true
    rw [decide_eq_true (by omega), decide_eq_true (by omega), decide_eq_true (by omega), decide_eq_true (by omega)]; rfl
  | false =>
    rw [if_neg (by simp)]
    unfold okRule at h ⊢
    rw [if_neg (by simp [hp])] at h ⊢
    exact h
theorem okAll_raise {xs ys : List GRule} (h : OkAll xs) (h' : OkAll ys) : OkAll (xs ++ ys.map (raiseR xs.length)) := by
  intro k r hk
  rcases Nat.lt_or_ge k xs.length with hlt | hge
  · rw [List.getElem?_append_left hlt] at hk; exact h k r hk
  · rw [List.getElem?_append_right hge, List.getElem?_map] at hk
    rcases hy : ys[k - xs.length]? with _ | y
    · rw [hy] at hk; cases hk
    · rw [hy] at hk
      have : raiseR xs.length y = r := by simpa using hk
      rw [← this, show k = xs.length + (k - xs.length) by omega]
      exact raiseR_ok (h' _ y hy)
theorem okAll_nil : OkAll [] := fun k r h => by simp at h
theorem okAll_smallP {xs : List GRule} (h : OkAll xs) (hl : xs.length ≤ 1099511627776) : SmallP xs := by
  intro r hr hp
  obtain ⟨k, hk⟩ := List.mem_iff_getElem?.1 hr
  have h1 := okRule_at (h k r hk) hp
  have h2 := (List.getElem?_eq_some_iff.1 hk).1
  omega
theorem ints_cell {S : List Int} {i : Nat} (h : i < S.length) : ((S.map (Value.int .i64)).toArray)[i]? = some (.int .i64 (S.getD i 0)) := by
  rw [List.getElem?_toArray, List.getElem?_map, List.getD_eq_getElem?_getD, List.getElem?_eq_getElem h]; rfl
theorem ints_set (S : List Int) (i : Nat) (v : Int) : ((S.map (Value.int .i64)).toArray).setIfInBounds i (.int .i64 v) = ((S.set i v).map (Value.int .i64)).toArray := by
  rw [List.map_set]; simp
structure BaseOk (k : Nat) (p : List GRule × List Int) : Prop where
  ok : OkAll p.1
  len : p.1.length ≤ 2004 * k
  l4 : p.2.length = 4
  low : ∀ i, i < 4 → -1 ≤ p.2.getD i 0 ∧ p.2.getD i 0 < p.1.length
theorem baseG_succ (xs : List GRule) (ws : List ByteArray) (k : Nat) : baseG xs ws (k + 1) = baseStep xs ws (baseG xs ws k) k := by
  unfold baseG; rw [List.range_succ, List.foldl_append]; rfl
theorem getD_set {l : List Int} {i j : Nat} {v : Int} (hi : i < l.length) : (l.set i v).getD j 0 = if i = j then v else l.getD j 0 := by
  by_cases h : i = j
  · subst h; rw [if_pos rfl, List.getD_eq_getElem?_getD, List.getElem?_set, if_pos rfl, if_pos hi]; rfl
  · rw [if_neg h]; exact set_ne h
theorem base_ok (xs : List GRule) (ws : List ByteArray) (hw : ∀ s ∈ ws, wordOk s = true) (hl : ws.length = 4) : ∀ k, k ≤ 4 → BaseOk k (baseG xs ws k) := by
  intro k
  induction k with
  | zero => intro _; refine ⟨okAll_nil, by simp [baseG], rfl, fun i hi => ?_⟩; have : i = 0 ∨ i = 1 ∨ i = 2 ∨ i = 3 := by omega
            rcases this with rfl | rfl | rfl | rfl <;> simp [baseG]
  | succ k ih =>
    intro hk
    have H := ih (by omega)
    rw [baseG_succ]
    obtain ⟨O, S, hp⟩ : ∃ O S, baseG xs ws k = (O, S) := ⟨_, _, rfl⟩
    rw [hp] at H ⊢
    have hO : OkAll O := H.ok
    have hlO : O.length ≤ 2004 * k := H.len
    have hS : S.length = 4 := H.l4
    have hlow : ∀ i, i < 4 → -1 ≤ S.getD i 0 ∧ S.getD i 0 < (O.length : Int) := H.low
    have hwk : wordOk (ws.getD k ⟨#[]⟩) = true := by
      rw [List.getD_eq_getElem?_getD, List.getElem?_eq_getElem (by omega)]
      exact hw _ (List.getElem_mem _)
    have hsz : (ws.getD k ⟨#[]⟩).size ≤ 2000 := by unfold wordOk at hwk; simp only [Bool.and_eq_true, decide_eq_true_eq] at hwk; omega
    have hpl := plainG_len (ws.getD k ⟨#[]⟩)
    unfold baseStep
    split
    · refine ⟨okAll_raise hO (okAll_plainG hwk), ?_, by simp [hS], ?_⟩
      · show (O ++ _).length ≤ _
        rw [List.length_append, List.length_map]; omega
      · intro i hi
        show -1 ≤ (S.set k _).getD i 0 ∧ (S.set k _).getD i 0 < ((O ++ _).length : Int)
        rw [getD_set (by omega), List.length_append, List.length_map]
        have := hlow i hi
        have e0 : ((O, S) : List GRule × List Int).fst.length = O.length := rfl
        split <;> omega
    · exact ⟨hO, by show O.length ≤ _; omega, hS, hlow⟩
structure StandOk (B k : Nat) (p : List GRule × List Int) : Prop where
  ok : OkAll p.1
  len : p.1.length ≤ B + k
  ls : p.2.length = k
  low : ∀ i, i < k → -1 ≤ p.2.getD i 0 ∧ p.2.getD i 0 < p.1.length
theorem standG_succ {xs : List GRule} {ws : List ByteArray} {k : Nat} {r : GRule} (h : xs[k]? = some r) : standG xs ws (k + 1) = standStep (baseG xs ws 4).2 (standG xs ws k) r := by
  unfold standG; exact foldl_take_succ _ _ _ _ _ h
theorem snoc_low {S : List Int} {v : Int} {m : Nat} (h : ∀ i, i < S.length → -1 ≤ S.getD i 0 ∧ S.getD i 0 < (m : Int)) {m' : Nat} (hm : m ≤ m') (hv : -1 ≤ v ∧ v < (m' : Int)) : ∀ i, i < S.length + 1 → -1 ≤ (S ++ [v]).getD i 0 ∧ (S ++ [v]).getD i 0 < (m' : Int) := by
  intro i hi
  rcases Nat.lt_or_ge i S.length with hlt | hge
  · rw [getI_append hlt]; have := h i hlt; omega
  · have : i = S.length := by omega
    subst this
    rw [getI_last]; exact hv
theorem letter_idx {r : GRule} {k : Nat} (h : okRule k r = true) (hp : r.pair = false) : 97 ≤ (r.letter.data.getD 0 0).toNat ∧ (r.letter.data.getD 0 0).toNat ≤ 100 := by
  unfold okRule at h
  rw [if_neg (by simp [hp])] at h
  simp [isLet] at h
  have h1 := h.1.1.1.2
  have h2 := h.1.1.2
  simp only [Array.getD_eq_getD_getElem?]
  omega
theorem stand_ok (xs : List GRule) (ws : List ByteArray) (hw : ∀ s ∈ ws, wordOk s = true) (hl : ws.length = 4) (hx : OkAll xs) : ∀ k, k ≤ xs.length → StandOk 8016 k (standG xs ws k) := by
  have HB := base_ok xs ws hw hl 4 (Nat.le_refl _)
  intro k
  induction k with
  | zero => intro _; exact ⟨HB.ok, by have := HB.len; show (baseG xs ws 4).1.length ≤ _; omega, rfl, fun i hi => absurd hi (by omega)⟩
  | succ k ih =>
    intro hk
    have H := ih (by omega)
    obtain ⟨r, hr⟩ : ∃ r, xs[k]? = some r := ⟨_, List.getElem?_eq_getElem (by omega)⟩
    have hor := hx k r hr
    have hB4 : (baseG xs ws 4).1.length ≤ (standG xs ws k).1.length := by
      clear H hor
      unfold standG
      suffices G : ∀ (l : List GRule) (p : List GRule × List Int), p.1.length ≤ (l.foldl (standStep (baseG xs ws 4).2) p).1.length by exact G (xs.take k) ((baseG xs ws 4).1, [])
      intro l
      induction l with
      | nil => intro p; exact Nat.le_refl _
      | cons a l ih2 =>
        intro p
        refine Nat.le_trans ?_ (ih2 _)
        unfold standStep
        split
        · split
          · exact Nat.le_refl _
          · split
            · exact Nat.le_refl _
            · simp
        · exact Nat.le_refl _
    rw [standG_succ hr]
    obtain ⟨O, S, hp⟩ : ∃ O S, standG xs ws k = (O, S) := ⟨_, _, rfl⟩
    rw [hp] at H hB4 ⊢
    have hO : OkAll O := H.ok
    have hlO : O.length ≤ 8016 + k := H.len
    have hS : S.length = k := H.ls
    have hlow : ∀ i, i < k → -1 ≤ S.getD i 0 ∧ S.getD i 0 < (O.length : Int) := H.low
    have hlow' : ∀ i, i < S.length → -1 ≤ S.getD i 0 ∧ S.getD i 0 < (O.length : Int) := fun i hi => hlow i (by omega)
    unfold standStep
    cases hpr : r.pair with
    | true =>
      obtain ⟨q1, q2, q3, q4⟩ := okRule_at hor hpr
      rw [if_pos rfl]
      have a := hlow _ q2
      have b := hlow _ q4
      split
      · exact ⟨hO, by show O.length ≤ _; omega, by simp [hS], by rw [← hS]; exact snoc_low hlow' (Nat.le_refl _) b⟩
      · split
        · exact ⟨hO, by show O.length ≤ _; omega, by simp [hS], by rw [← hS]; exact snoc_low hlow' (Nat.le_refl _) a⟩
        · rename_i c1 c2
          have c1' : ¬ S.getD r.left.toNat 0 < 0 := c1
          have c2' : ¬ S.getD r.right.toNat 0 < 0 := c2
          refine ⟨hO.snoc (okRule_pair ⟨by omega, a.2⟩ ⟨by omega, b.2⟩), by show (O ++ _).length ≤ _; simp; omega, by simp [hS], ?_⟩
          rw [← hS]
          show ∀ i, i < S.length + 1 → -1 ≤ (S ++ [(O.length : Int)]).getD i 0 ∧ (S ++ [(O.length : Int)]).getD i 0 < (((O ++ [pairR (S.getD r.left.toNat 0) (S.getD r.right.toNat 0)]).length : Nat) : Int)
          exact snoc_low hlow' (by simp) (by simp; omega)
    | false =>
      rw [if_neg (by simp)]
      have hc := letter_idx hor hpr
      have hb := HB.low ((r.letter.data.getD 0 0).toNat - 97) (by omega)
      exact ⟨hO, by show O.length ≤ _; omega, by simp [hS], by rw [← hS]; exact snoc_low hlow' (Nat.le_refl _) ⟨hb.1, by show _ < (O.length : Int); have : (baseG xs ws 4).1.length ≤ O.length := hB4; omega⟩⟩
def mapOut (xs : List GRule) (ws : List ByteArray) : List GRule :=
  if 400 < (mapP xs ws).1.length then [] else if xs.length = 0 ∨ lastI (mapP xs ws).2 < 0 then [] else limOut (trimG ((mapP xs ws).1.take ((lastI (mapP xs ws).2).toNat + 1)))
def mapCode (xs : List GRule) (ws : List ByteArray) : Int :=
  if 400 < (mapP xs ws).1.length then 3 else if xs.length = 0 ∨ lastI (mapP xs ws).2 < 0 then 0 else limCode (trimG ((mapP xs ws).1.take ((lastI (mapP xs ws).2).toNat + 1)))
end Go.Proofs.YtdacndamehiglaaGreatDoor
