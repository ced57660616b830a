import Derived.Test.YtfapnipmgmpgaaaM6
import Derived.Deep.DeepCutAuto
import Derived.Deep.CutBlock
import Derived.Test.YtfapnipmgmpgaaaM4
import Derived.Test.YtfapnipmgmpgaaaM5
import Derived.Test.YtfapnipmgmpgaaaM3
import Derived.WalkArith
import Derived.Test.YtfapnipmgmpgaaaM1
import Derived.Test.YtfapnipmgmpgaaaM2
namespace Go.Proofs.Ytfapnipmgmpgaaa
open Go.RowKit

def ixB (s : ByteArray) (k : Nat) : Int := Lib.indexByte s.data.toList (ltr k)
theorem ixB_yes {s : ByteArray} {k : Nat} (h : hasC s (ltr k) = true) : 0 ≤ ixB s k := by
  have h1 := Lib.indexByte_ge s.data.toList (ltr k)
  rcases Int.lt_or_le (ixB s k) 0 with hn | hn
  · have hm : ixB s k = -1 := by unfold ixB at hn ⊢; omega
    have := Lib.indexByte_none hm
    unfold hasC at h
    rw [List.contains_iff_mem] at h
    obtain ⟨j, hj⟩ := List.mem_iff_getElem?.1 h
    exact absurd hj (this j)
  · exact hn
theorem ixB_no {s : ByteArray} {k : Nat} (h : ¬ hasC s (ltr k) = true) : ixB s k < 0 := by
  rcases Int.lt_or_le (ixB s k) 0 with hn | hn
  · exact hn
  · obtain ⟨o, ho⟩ := Int.eq_ofNat_of_zero_le hn
    have := (Lib.indexByte_some (show Lib.indexByte s.data.toList (ltr k) = (o : Int) from ho)).1
    exact absurd (List.contains_iff_mem.2 (List.mem_of_getElem? this)) h
theorem ltr_nat {k : Nat} (h : k < 4) : ((97 + k : Nat) : Int) = ((ltr k).toNat : Int) := by
  have : k = 0 ∨ k = 1 ∨ k = 2 ∨ k = 3 := by omega
  rcases this with rfl | rfl | rfl | rfl <;> rfl
theorem indexByte_any (s : ByteArray) (k : Nat) (c : Int) (w : World) (hk : k < 4) (hc : c = 97 + k) : Calls Try.prog 132 #[.string s, .int .u8 c] w fun e w' => e = .returned (.int .i64 (ixB s k)) ∧ w = w' := by
  have h2 := ltr_nat hk
  have h3 : c.toNat.toUInt8 = ltr k := by
    have : k = 0 ∨ k = 1 ∨ k = 2 ∨ k = 3 := by omega
    subst hc
    rcases this with rfl | rfl | rfl | rfl <;> rfl
  refine (Try.strings_IndexByte s c w).mono fun e w' h => ⟨?_, h.2.symm⟩
  rw [h.1, h3]; rfl
theorem letter_int (k : Nat) (c : Int) (w : World) (hk : k < 4) (hc : c = 97 + k) : Calls Try.prog 133 #[.int .u8 c] w fun e w' => e = .returned (.agg #[.string (letR (ltr k)).letter, .int .i64 0, .int .i64 0]) ∧ Below w.heap.size w w' := by
  have h2 := ltr_nat hk
  have : c = ((ltr k).toNat : Int) := by omega
  subst this
  exact letter_any _ _

theorem Blk.new' {w : World} {b : Nat} {a : Array Value} {t : TypeId} (h : b = w.heap.size) : Blk (w.alloc (.cells a t)) b a t := by subst h; exact Blk.new _ _ _
theorem idxR_idxG {s : ByteArray} (hw : wordOk s = true) {i : Nat} (h : i < s.size) : idxR (letsG s 4) (letR s[i]) = ((idxG s s[i] : Nat) : Int) := by
  have := idxG_lt hw h
  unfold idxR idxG at *
  rw [if_pos this]
set_option maxRecDepth 100000 in
set_option maxHeartbeats 1000000 in
theorem plainOf_any (s : ByteArray) (i L N : Nat) (vL : Value) (w : World) (hi : i < s.size) (hw : wordOk s = true) (hL : Blk w L #[vL] 30) (hN : Blk w N #[.string s] 9) (hS : Sl RuleE w w.heap.size vL (letsG s 4)) :
    Calls Try.prog 134 #[.int .i64 (i : Int), .pointer (some ⟨L, 0, none⟩), .pointer (some ⟨N, 0, none⟩)] w fun e w' => e = .returned (.int .i64 ((idxG s (s[i]'hi) : Nat) : Int)) ∧ Below w.heap.size w w' := by
  have HI := Lib.hid (idxR_idxG hw hi)
  have HS := Lib.hid hS
  obtain ⟨AL, cL, rfl, _⟩ := hS
  have cL0 := hL.cell (i := 0) (v := .slice AL (letsG s 4).length cL) rfl
  have cN0 := hN.cell (i := 0) (v := .string s) rfl
  have lL := hL.lt
  have lN := hN.lt
  have hi2 : (i : Int) < (s.size : Int) := by omega
  clear hL hN hw
  go_enter Try.func134, Try.ntmps134
  go_wp2_with fail
  have KB := And.intro (show Below w.heap.size w w.drew from Below.drew (Below.refl _ _)) (And.intro (show w.drew.cell? ⟨L, 0, none⟩ = _ from cL0) (show w.drew.cell? ⟨N, 0, none⟩ = _ from cN0))
  go_region_held3 (fun w' => Below w.heap.size w w' ∧ w'.cell? ⟨L, 0, none⟩ = some (.slice AL (letsG s 4).length cL) ∧ w'.cell? ⟨N, 0, none⟩ = some (.string s))
    (first | (with_reducible exact KB) | (with_reducible exact keepC KB hb1 lL lN) | (with_reducible exact keepC (keepC KB hb1 lL lN) hb2 lL lN))
    (first
      | (go_at_call 133; (refine (letter_any _ _).mono ?_); rintro e w1 ⟨rfl, hb1⟩)
      | (go_at_call 135; (refine (indexRules_any _ (letsG s 4) (letR (s[i]'hi)) _ ((HS.out.up (by repeat (first | exact Below.refl _ _ | (refine Below.alloc ?_ (by first | omega | (simp; done) | (simp; omega)) _) | refine below_drewN ?_ _ | refine Below.drew ?_))).up hb1)).mono ?_); rintro e w2 ⟨rfl, hb2⟩))
  have HZ := Lib.hid (keepC (keepC KB hb1 lL lN) hb2 lL lN).1
  clear KB hb1 hb2
  go_wp2
  go_ret
  exact ⟨ret_int HI.out, HZ.out⟩
set_option maxRecDepth 100000 in
set_option maxHeartbeats 4000000 in
theorem plain_any (s : ByteArray) (w : World) (hs : wordOk s = true) :
    Calls Try.prog 75 #[.string s] w (GOwn (plainG s) w) := by
  have hsz : s.size ≤ 2000 := by unfold wordOk at hs; simp only [Bool.and_eq_true, decide_eq_true_eq] at hs; omega
  have HS := Lib.hid hs
  clear hs
  go_enter Try.func75, Try.ntmps75
  go_wp2_with fail
  go_loopw [4] (fun c wr => ∃ (k : Nat) (vo : Value), k ≤ 4 ∧ c = .int .u8 ((97 + k : Nat) : Int) ∧ Below w.heap.size w wr ∧ Blk wr w.heap.size #[.string s] 9 ∧ Blk wr (w.heap.size + 1) #[.slice none 0 0] 32 ∧ Boxed wr (w.heap.size + 2) 32 vo ∧ OwnRules wr (w.heap.size + 3) vo (letsG s k)) (fun c _ => 101 - (intOf c).toNat)
  case atStart =>
    refine ⟨0, .slice none 0 0, by omega, rfl, (by repeat (first | exact Below.refl _ _ | (refine Below.alloc ?_ (by first | omega | (simp; done) | (simp; omega)) _) | (refine Below.setCell ?_ (by first | exact Nat.le_refl _ | (show _ ≤ _; omega) | (simp; done) | (simp; omega)) _) | refine below_drewN ?_ _ | refine Below.drew ?_)), ?_, ?_, ?_, World.ownsRow_nil _ _ _ _⟩
    · repeat (first | (apply Blk.new'; simp; done) | apply Blk.alloc | apply Blk.drew)
    · repeat (first | (apply Blk.new'; simp; done) | apply Blk.alloc | apply Blk.drew)
    · show Blk _ _ #[.slice none 0 0] _
      repeat (first | (apply Blk.new'; simp; done) | apply Blk.alloc | apply Blk.drew)
  case round =>
    obtain ⟨k, vo, hk, rfl, hb, h0, h1, hbox, hown⟩ := hrel
    have HB := Lib.hid hb
    have H0 := Lib.hid h0
    have H1 := Lib.hid h1
    have Hbox := Lib.hid hbox
    have Hown := Lib.hid hown
    have c0 := h0.cell (i := 0) (v := .string s) rfl
    have cb := hbox.cell
    have fb := hbox.frozen
    have lb := hbox.lt
    have l0 := h0.lt
    obtain ⟨Ao, co, rfl, _⟩ := own_nil hown
    have HL := Lib.hid (show (letsG s k).length ≤ 1099511627775 by have := letsG_len s k; omega)
    clear hb h0 h1 hbox hown
    by_cases hlt : k < 4
    · have HSu := Lib.hid (letsG_succ s k)
      by_cases hc : hasC s (ltr k) = true
      · have hix := ixB_yes hc
        have HC := Lib.hid hc
        clear hc
        go_wp2_with (first
          | (go_at_call 132; refine (indexByte_any s k _ _ hlt (by omega)).mono ?_; rintro e w' ⟨rfl, rfl⟩))
        go_region_law (first
          | (refine step_push_rule (base := w.heap.size + 3) (by rfl) _ _ (by rfl) (by rfl) (by first | rfl | simp) rfl (OwnRules.below Hown.out.drew hb2) HL.out (by omega) ?_; intro v3 w3 own3 hg3 hb3; have bx3 : Boxed w3 (w.heap.size + 2) 32 _ := Boxed.grown (Boxed.up (Boxed.mk' Hbox.out) hb2 lb) (by decide) (OwnRules.below Hown.out.drew hb2) hg3; obtain ⟨A3, c3, rfl, _⟩ := own_nil own3; have hcb3 := bx3.cell; have hfb3 := bx3.frozen)
          | (go_simp; go_at_call 133; refine (letter_int k _ _ hlt (by omega)).mono ?_; rintro e w2 ⟨rfl, hb2⟩; have bx2 := Boxed.up (Boxed.mk' Hbox.out) hb2 lb; have hcb2 := bx2.cell; have hfb2 := bx2.frozen; have hlb2 := bx2.lt))
        all_goals
          have z2 : wr.heap.size ≤ w2.heap.size := hb2.size
          have hbz : Below (w.heap.size + 3) wr w3 := (Below.drew (Below.refl _ _)).trans (((hb2.mono (by show w.heap.size + 3 ≤ wr.heap.size; omega)).alloc (by omega) _).trans hb3)
          have HBZ := Lib.hid hbz
          have HO3 := Lib.hid own3
          have HX3 := Lib.hid bx3
          clear hbz own3 bx3 hb3 hb2 hg3 bx2
          go_wp2
          go_roundw
          case rel =>
            refine ⟨k + 1, _, by omega, by go_num, (HB.out.trans (HBZ.out.mono (by omega))).setCell (by show w.heap.size ≤ w.heap.size + 2; omega) _, (H0.out.upB HBZ.out (by omega)).other (by show w.heap.size ≠ w.heap.size + 2; omega) _, (H1.out.upB HBZ.out (by omega)).other (by show w.heap.size + 1 ≠ w.heap.size + 2; omega) _, Boxed.set _ HX3.out, ?_⟩
            rw [HSu.out, if_pos HC.out]
            exact own_put HX3.out HO3.out rfl (by simp)
          case measure => simp [intOf]; omega
      · have hix := ixB_no hc
        have HC := Lib.hid hc
        clear hc
        go_wp2_with (first
          | (go_at_call 132; refine (indexByte_any s k _ _ hlt (by omega)).mono ?_; rintro e w' ⟨rfl, rfl⟩))
        go_roundw
        case rel => exact ⟨k + 1, _, by omega, by go_num, HB.out, H0.out, H1.out, Hbox.out, by rw [HSu.out, if_neg HC.out]; exact Hown.out⟩
        case measure => simp [intOf]; omega
    · have hk4 : k = 4 := by omega
      subst hk4
      rw [show ((97 + 4 : Nat) : Int) = 101 from rfl]
      have hlen4 := letsG_len s 4
      obtain ⟨wo, rfl⟩ : ∃ wo : World, wo = wr := ⟨_, rfl⟩
      have hL0 := Lib.hid (Hown.out.slS (S := fun b => w.heap.size + 3 ≤ b ∧ b < wo.heap.size) fun g hg => World.ownsRow.lt Hown.out g hg)
      have hAo := Lib.hid (show 0 < (letsG s 4).length → ∃ g, Ao = some ⟨g, 0, none⟩ from fun hp => by
        obtain ⟨g, cap, e, _⟩ := own_form Hown.out hp
        injection e with e1
        exact ⟨g, e1⟩)
      go_wp2_with fail
      go_loopw [7] (fun q wx => ∃ (i : Nat) (vo : Value), 1 ≤ i ∧ (i ≤ s.size ∨ i = 1) ∧ q = .int .i64 (i : Int) ∧ Below w.heap.size w wx ∧ Blk wx w.heap.size #[.string s] 9 ∧ Blk wx (w.heap.size + 1) #[.slice none 0 0] 32 ∧
        Blk wx wo.heap.size #[.slice Ao (letsG s 4).length co] 30 ∧ Boxed wx (w.heap.size + 2) 32 vo ∧ OwnRules wx (w.heap.size + 3) vo (plainK s (i - 1)) ∧ SlS RuleE wx (fun b => w.heap.size + 3 ≤ b ∧ b < wo.heap.size) (.slice Ao (letsG s 4).length co) (letsG s 4)) (fun q _ => s.size + 1 - (intOf q).toNat)
      case atStart =>
        refine ⟨1, _, Nat.le_refl _, .inr rfl, rfl, HB.out.alloc HB.out.size _, H0.out.alloc _, H1.out.alloc _, Blk.new _ _ _, Boxed.alloc Hbox.out _, ?_, hL0.out.keep (Keep.of_below (B := wo.heap.size) ((Below.refl _ _).alloc (Nat.le_refl _) _) |>.mono fun _ hb => hb.2)⟩
        rw [show 1 - 1 = 0 from rfl, plainK_zero]
        exact Hown.out.alloc _
      case round =>
        obtain ⟨i, vo, hi1, hi2, rfl, hb, h0, h1, hL, hbox, hown, hsl⟩ := hrel
        have zr : w.heap.size + 2 < wr.heap.size := hbox.lt
        have zo : wo.heap.size < wr.heap.size := hL.lt
        have HB2 := Lib.hid hb
        have HK0 := Lib.hid h0
        have HK1 := Lib.hid h1
        have HKL := Lib.hid hL
        have HX := Lib.hid hbox
        have HO := Lib.hid hown
        have HSl := Lib.hid hsl
        have HSl2 := Lib.hid (show Sl RuleE wr wr.heap.size _ _ from hsl.more fun b hb => by omega)
        have c0' := h0.cell (i := 0) (v := .string s) rfl
        have l0' := h0.lt
        have cb' := hbox.cell
        have fb' := hbox.frozen
        have hlp := Lib.hid (plainK_len s (i - 1))
        obtain ⟨A2, c2, rfl, _⟩ := own_nil hown
        clear hb h0 h1 hL hbox hown hsl HB H0 H1 Hbox Hown cb fb c0 l0
        by_cases hlt2 : i < s.size
        · have HP := Lib.hid (plainK_succ s (i - 1))
          have HLn := Lib.hid (show (plainK s (i - 1)).length ≤ 1099511627775 by rw [hlp.out]; omega)
          have hpos : 0 < s.size := by omega
          have hpl1 : 1 ≤ (plainK s (i - 1)).length := by have := idxG_lt HS.out hpos; rw [hlp.out]; omega
          have hpl2 : (plainK s (i - 1)).length ≤ 4000 := by rw [hlp.out]; omega
          obtain ⟨I, hI⟩ : ∃ I : Nat, I = idxG s (s.data.getD i 0) := ⟨_, rfl⟩
          have hidx : ∀ W (hb : Below wr.heap.size wr W), Calls Try.prog 134 #[.int .i64 (i : Int), .pointer (some ⟨wo.heap.size, 0, none⟩), .pointer (some ⟨w.heap.size, 0, none⟩)] W fun e w' => e = .returned (.int .i64 (I : Int)) ∧ Below W.heap.size W w' := fun W hb => by
            rw [hI, getD_data hlt2]
            exact plainOf_any s i wo.heap.size w.heap.size _ W hlt2 HS.out (HKL.out.up hb) (HK0.out.up hb) (HSl2.out.up hb)
          have OF1 := Lib.hid hidx
          clear hidx
          obtain ⟨B, hB⟩ : ∃ B : Nat, (if i - 1 = 0 then (idxG s (s.data.getD 0 0) : Nat) else (letsG s 4).length + (i - 1) - 1) = B := ⟨_, rfl⟩
          have hBp : pairAt s (i - 1) = pairR (B : Int) (I : Int) := by
            unfold pairAt
            rw [show i - 1 + 1 = i by omega, ← hB, ← hI]
            split <;> rfl
          have HBp := Lib.hid hBp
          have HBq := Lib.hid hB
          clear hBp hB hI
          go_upto_if 39 with fail
          go_cut [8] (fun u8 wx => u8 = .int .i64 (B : Int) ∧ Below wr.heap.size wr wx)
          case first =>
            by_cases h1i : i = 1
            · subst h1i
              have OF0 := Lib.hid (plainOf_any s 0 wo.heap.size w.heap.size _ wr hpos HS.out HKL.out HK0.out HSl2.out)
              go_wp2_with (first
                | (go_at_call 134; (refine OF0.out.mono ?_); rintro e w2 ⟨rfl, hb2⟩))
              go_meet
              exact ⟨by rw [← HBq.out, if_pos trivial, getD_data hpos], hb2⟩
            · have hb1 : ((i : Int) == 1) = false := by rw [beq_eq_false_iff_ne]; omega
              go_wp2
              go_meet
              refine ⟨?_, Below.refl _ _⟩
              rw [← HBq.out, if_neg (by omega), hlp.out]
              congr 1; omega
          case rest =>
            obtain ⟨rfl, hbc⟩ := hcut
            have HC0 := Lib.hid hbc
            have HKX := Lib.hid (Boxed.up HX.out hbc HX.out.lt)
            have cb2 := HKX.out.cell
            have fb2 := HKX.out.frozen
            have lb2 := HKX.out.lt
            have HO1 := Lib.hid (OwnRules.below HO.out hbc)
            clear hbc cb' fb' c0'
            go_wp2_with fail
            go_region_law (first
              | (go_simp; go_at_call 134; refine (OF1.out _ (by repeat (first | exact HC0.out | refine Below.drew ?_))).mono ?_; rintro e w2 ⟨rfl, hb2⟩; have bx2 := Boxed.up (Boxed.mk' HKX.out) hb2 lb2; have hcb2 := bx2.cell; have hfb2 := bx2.frozen; have lb3 := bx2.lt)
              | (go_simp; go_at_call 136; refine (pairInt_any _ _ _).mono ?_; rintro e w3 ⟨rfl, hb3⟩; have bx3 := Boxed.up bx2 hb3 lb3; have hcb3 := bx3.cell; have hfb3 := bx3.frozen; have lb4 := bx3.lt)
              | (refine step_push_ruleK (base := w.heap.size + 3) (by rfl) _ _ (by rfl) (by rfl) (by first | rfl | simp) rfl (OwnRules.below (OwnRules.below HO1.out.drew hb2) hb3) HLn.out (by omega) ?_; intro v4 w4 own4 hg4 hor4 hb4; have bx4 : Boxed w4 (w.heap.size + 2) 32 _ := Boxed.grown (Boxed.up (Boxed.up (Boxed.mk' HKX.out) hb2 lb2) hb3 lb3) (by decide) (OwnRules.below (OwnRules.below HO1.out.drew hb2) hb3) hg4; obtain ⟨A4, c4, rfl, _⟩ := own_nil own4; have hcb4 := bx4.cell; have hfb4 := bx4.frozen))
            all_goals
              have z2 : wc.heap.size ≤ w2.heap.size := hb2.size
              have z3 : w2.heap.size ≤ w3.heap.size := hb3.size
              have zc : wr.heap.size ≤ wc.heap.size := HC0.out.size
              have h23 : Below wc.heap.size wc w3 := Below.tr (Below.undrew hb2) hb3
              have hbz : Below (w.heap.size + 3) wr w4 := (HC0.out.mono (by omega)).trans ((h23.mono (by omega)).trans (((Below.refl _ _).alloc (by omega) _).trans hb4))
              have OWN := OwnRules.below (OwnRules.below HO1.out.drew hb2) hb3
              have bL : Boxed w4 wo.heap.size 30 _ := Boxed.grownO (t := 30) (((HKL.out.up HC0.out).up h23)) (by decide) OWN hg4
              have HBL := Lib.hid bL
              have HBZ := Lib.hid hbz
              have HO4 := Lib.hid own4
              have HX4 := Lib.hid bx4
              obtain ⟨g, hg⟩ := hAo.out (by have := idxG_lt HS.out hpos; omega)
              have hsl3 : SlS RuleE (w3.alloc (.cells #[.string ⟨#[]⟩, .int .i64 (B : Int), .int .i64 (I : Int)] 160)) (fun b => w.heap.size + 3 ≤ b ∧ b < wo.heap.size) (.slice Ao (letsG s 4).length co) (letsG s 4) :=
                HSl.out.keep ((Keep.of_below ((Below.tr HC0.out h23).alloc (by omega) _)).mono fun _ hb => by omega)
              have e4 : plainK s (i - 1) ++ [⟨⟨#[]⟩, (B : Int), (I : Int)⟩] = letsG s 4 ++ ((List.range (i - 1)).map (pairAt s) ++ [⟨⟨#[]⟩, (B : Int), (I : Int)⟩]) := by rw [plainK, List.append_assoc]
              have hsl4 : SlS RuleE w4 (fun b => w.heap.size + 3 ≤ b ∧ b < wo.heap.size) (.slice Ao (letsG s 4).length co) (letsG s 4) := by
                rw [hg] at hsl3 ⊢
                exact lets_keep hsl3 (fun b hb => by simp; omega) own4 e4 hg4 hor4
              have HSL4 := Lib.hid hsl4
              clear hsl3 hsl4 e4 hg bL hbz own4 bx4 OWN h23 hb2 hb3 hb4 hg4 hor4 bx2 bx3
              go_wp2
              go_roundw
              case rel =>
                refine ⟨i + 1, _, by omega, .inl (by omega), by go_num, (HB2.out.trans (HBZ.out.mono (by omega))).setCell (by show w.heap.size ≤ w.heap.size + 2; omega) _, (HK0.out.upB HBZ.out (by omega)).other (by show w.heap.size ≠ w.heap.size + 2; omega) _, (HK1.out.upB HBZ.out (by omega)).other (by show w.heap.size + 1 ≠ w.heap.size + 2; omega) _,
                  Blk.other HBL.out (by show wo.heap.size ≠ w.heap.size + 2; omega) _, Boxed.set _ HX4.out, ?_, HSL4.out.keep fun b hb => Below.heap_setCell _ _ _ _ (by show b ≠ w.heap.size + 2; omega)⟩
                rw [show i + 1 - 1 = (i - 1) + 1 by omega, HP.out, HBp.out]
                exact own_put HX4.out HO4.out rfl (by simp)
              case measure => simp [intOf]; omega
        · have hb0 : 1 ≤ i := hi1
          have HE := Lib.hid (show plainK s (i - 1) = plainG s by rw [plainG]; congr 1; omega)
          have r1 := HK1.out.cell (i := 0) (v := .slice none 0 0) rfl
          have r2 := HK1.out.frozen 0
          have r3 := HK1.out.lt
          go_wp2
          rw [HE.out] at HO HX
          refine bodyPost_ret (v := .agg #[.slice A2 (plainG s).length c2]) (by simp [results, Try.results75, go_sem, r1, HE.out]) rfl ⟨HB2.out.setCell (by show w.heap.size ≤ w.heap.size + 1; omega) _, _, ?_, rfl⟩
          exact ownsRow_more (ownsRow_setCell_below HO.out (a := ⟨w.heap.size + 1, 0, none⟩) (by show w.heap.size + 1 < w.heap.size + 3; omega) _) (by omega)
end Go.Proofs.Ytfapnipmgmpgaaa

namespace Go.Proofs.Ytfapnipmgmpgaaa
open Go.RowKit

end Go.Proofs.Ytfapnipmgmpgaaa

namespace Go.Proofs.Ytfapnipmgmpgaaa
open Go.RowKit

/-- An edit. -/
structure GEdit where
  kind : Int
  i : Int
  j : Int
  k : Int
  part : List GRule
  map : ByteArray
def EditV (w : World) (B : Nat) (v : Value) (e : GEdit) : Prop := ∃ vR, v = .agg #[.int .i64 e.kind, .int .i64 e.i, .int .i64 e.j, .int .i64 e.k, vR, .string e.map] ∧ Sl RuleE w B vR e.part
theorem EditV.below {w w' : World} {B : Nat} {v : Value} {e : GEdit} (h : EditV w B v e) (hb : Below B w w') : EditV w' B v e := by
  obtain ⟨vR, rfl, h1⟩ := h; exact ⟨vR, rfl, h1.below hb⟩
theorem EditV.le {w : World} {B B' : Nat} {v : Value} {e : GEdit} (h : EditV w B v e) (hb : B ≤ B') : EditV w B' v e := by
  obtain ⟨vR, rfl, h1⟩ := h; exact ⟨vR, rfl, h1.le hb⟩
theorem EditV.up {w0 w : World} {v : Value} {e : GEdit} (h : EditV w0 w0.heap.size v e) (hb : Below w0.heap.size w0 w) : EditV w w.heap.size v e := (h.below hb).le hb.size

/-- Six cells of a block. -/
def Box6 (w : World) (b : Nat) (c0 c1 c2 c3 c4 c5 : Value) : Prop := w.cell? ⟨b, 0, none⟩ = some c0 ∧ w.cell? ⟨b, 1, none⟩ = some c1 ∧ w.cell? ⟨b, 2, none⟩ = some c2 ∧ w.cell? ⟨b, 3, none⟩ = some c3 ∧ w.cell? ⟨b, 4, none⟩ = some c4 ∧ w.cell? ⟨b, 5, none⟩ = some c5
theorem Box6.up {w w' : World} {b N : Nat} {c0 c1 c2 c3 c4 c5 : Value} (h : Box6 w b c0 c1 c2 c3 c4 c5) (hb : Below N w w') (hlt : b < N) : Box6 w' b c0 c1 c2 c3 c4 c5 := by
  obtain ⟨h0, h1, h2, h3, h4, h5⟩ := h
  have k : ∀ {o : Nat} {v : Value}, w.cell? ⟨b, o, none⟩ = some v → w'.cell? ⟨b, o, none⟩ = some v := fun {o v} hc => (hb.cell (p := ⟨b, o, none⟩) hlt).trans hc
  exact ⟨k h0, k h1, k h2, k h3, k h4, k h5⟩
theorem Box6.new {w w' : World} {c0 c1 c2 c3 c4 c5 : Value} {t : TypeId} (hb : Below (w.alloc (.cells #[c0, c1, c2, c3, c4, c5] t)).heap.size (w.alloc (.cells #[c0, c1, c2, c3, c4, c5] t)) w') : Box6 w' w.heap.size c0 c1 c2 c3 c4 c5 :=
  Box6.up (w := w.alloc (.cells #[c0, c1, c2, c3, c4, c5] t)) ⟨by simp [go_sem], by simp [go_sem], by simp [go_sem], by simp [go_sem], by simp [go_sem], by simp [go_sem]⟩ hb (by simp)
end Go.Proofs.Ytfapnipmgmpgaaa

namespace Go.Proofs.Ytfapnipmgmpgaaa
open Go.RowKit

end Go.Proofs.Ytfapnipmgmpgaaa

namespace Go.Proofs.Ytfapnipmgmpgaaa
open Go.RowKit

end Go.Proofs.Ytfapnipmgmpgaaa

namespace Go.Proofs.Ytfapnipmgmpgaaa
open Go.RowKit

end Go.Proofs.Ytfapnipmgmpgaaa

namespace Go.Proofs.Ytfapnipmgmpgaaa
open Go.RowKit

/-- The cells of an edit. -/
def editCells (e : GEdit) (vR : Value) : Array Value := #[.int .i64 e.kind, .int .i64 e.i, .int .i64 e.j, .int .i64 e.k, vR, .string e.map]
theorem gram_len400 {p : List GRule} (h : gramOk p = true) : p.length ≤ 400 := (gram_lens h).1
end Go.Proofs.Ytfapnipmgmpgaaa

namespace Go.Proofs.Ytfapnipmgmpgaaa
open Go.RowKit

end Go.Proofs.Ytfapnipmgmpgaaa

namespace Go.Proofs.Ytfapnipmgmpgaaa
open Go.RowKit

end Go.Proofs.Ytfapnipmgmpgaaa

namespace Go.Proofs.Ytfapnipmgmpgaaa
open Go.RowKit

end Go.Proofs.Ytfapnipmgmpgaaa

namespace Go.Proofs.Ytfapnipmgmpgaaa
open Go.RowKit

end Go.Proofs.Ytfapnipmgmpgaaa

namespace Go.Proofs.Ytfapnipmgmpgaaa
open Go.RowKit

/-- An edit in the cells of block E behind the place o. -/
structure EC (w : World) (E o : Nat) (e : GEdit) (vR : Value) : Prop where
  c0 : w.cell? ⟨E, o, none⟩ = some (.int .i64 e.kind)
  c1 : w.cell? ⟨E, o + 1, none⟩ = some (.int .i64 e.i)
  c2 : w.cell? ⟨E, o + 2, none⟩ = some (.int .i64 e.j)
  c3 : w.cell? ⟨E, o + 3, none⟩ = some (.int .i64 e.k)
  c4 : w.cell? ⟨E, o + 4, none⟩ = some vR
  c5 : w.cell? ⟨E, o + 5, none⟩ = some (.string e.map)
  lt : E < w.heap.size
section
variable {w w' : World} {E o b : Nat} {e : GEdit} {vR : Value}
theorem EC.same (h : EC w E o e vR) (hs : w'.heap[E]? = w.heap[E]?) : EC w' E o e vR := by
  have k : ∀ {j : Nat} {v : Value}, w.cell? ⟨E, j, none⟩ = some v → w'.cell? ⟨E, j, none⟩ = some v := fun {j v} hc => (World.cell?_of_block (a := ⟨E, j, none⟩) hs).trans hc
  refine ⟨k h.c0, k h.c1, k h.c2, k h.c3, k h.c4, k h.c5, ?_⟩
  have h1 : w.heap[E]? = some (w.heap[E]'h.lt) := Array.getElem?_eq_getElem h.lt
  exact (Array.getElem?_eq_some_iff.1 (hs.trans h1)).1
theorem EC.up (h : EC w E o e vR) (hb : Below w.heap.size w w') : EC w' E o e vR := h.same (hb.block E h.lt)
theorem EC.but (h : EC w E o e vR) (hb : But b w w') (hne : E ≠ b) : EC w' E o e vR := h.same (hb.block E h.lt hne)
theorem EC.of (h : Blk w E (editCells e vR) 34) : EC w E 0 e vR :=
  ⟨h.cell rfl, h.cell rfl, h.cell rfl, h.cell rfl, h.cell rfl, h.cell rfl, h.lt⟩
end
/-- One cell, in a world that has it and in the later ones. -/
structure C1 (w : World) (p : Addr) (v : Value) : Prop where
  c : w.cell? p = some v
  lt : p.block < w.heap.size
theorem C1.same {w w' : World} {p : Addr} {v : Value} (h : C1 w p v) (hs : w'.heap[p.block]? = w.heap[p.block]?) : C1 w' p v := by
  refine ⟨(World.cell?_of_block hs).trans h.c, ?_⟩
  have h1 : w.heap[p.block]? = some (w.heap[p.block]'h.lt) := Array.getElem?_eq_getElem h.lt
  exact (Array.getElem?_eq_some_iff.1 (hs.trans h1)).1
theorem C1.up {w w' : World} {p : Addr} {v : Value} (h : C1 w p v) (hb : Below w.heap.size w w') : C1 w' p v := h.same (hb.block _ h.lt)
theorem C1.but {w w' : World} {b : Nat} {p : Addr} {v : Value} (h : C1 w p v) (hb : But b w w') (hne : p.block ≠ b) : C1 w' p v := h.same (hb.block _ h.lt hne)
end Go.Proofs.Ytfapnipmgmpgaaa

namespace Go.Proofs.Ytfapnipmgmpgaaa
open Go.RowKit

/-- How an edit lies in six cells. -/
def EditE : Enc GEdit where
  size := 6
  pos := by decide
  cells := fun w S e cs => ∃ vR, cs = [.int .i64 e.kind, .int .i64 e.i, .int .i64 e.j, .int .i64 e.k, vR, .string e.map] ∧ SlS RuleE w S vR e.part
  len := by rintro _ _ _ _ ⟨vR, rfl, _⟩; rfl
  keep := by rintro _ _ _ _ _ ⟨vR, rfl, h⟩ hb; exact ⟨vR, rfl, h.keep hb⟩
  more := by rintro _ _ _ _ _ ⟨vR, rfl, h⟩ hb; exact ⟨vR, rfl, h.more hb⟩
  one := by rintro _ _ _ _ ⟨vR, rfl, A, c, rfl, _⟩; simp [Value.oneCell']
theorem Row.edit {w : World} {S : Nat → Prop} {A : Option Addr} {l : List GEdit} (h : Row EditE w S A l) (hS : ∀ b, S b → b < w.heap.size) {k : Nat} (hk : k < l.length) :
    ∃ b o, A = some ⟨b, o, none⟩ ∧ S b ∧ ∀ i e, l[i]? = some e → ∃ vR, EC w b (o + i * 6) e vR ∧ SlS RuleE w S vR e.part := by
  obtain ⟨b, o, rfl, hlt, hc⟩ := h (by omega)
  refine ⟨b, o, rfl, hlt, fun i e hi => ?_⟩
  obtain ⟨cs, ⟨vR, rfl, h1⟩, h2⟩ := hc i e hi
  exact ⟨vR, ⟨by simpa [EditE] using h2 0 _ rfl, by simpa [EditE, Nat.add_assoc] using h2 1 _ rfl, by simpa [EditE, Nat.add_assoc] using h2 2 _ rfl, by simpa [EditE, Nat.add_assoc] using h2 3 _ rfl, by simpa [EditE, Nat.add_assoc] using h2 4 _ rfl, by simpa [EditE, Nat.add_assoc] using h2 5 _ rfl, hS b hlt⟩, h1⟩
end Go.Proofs.Ytfapnipmgmpgaaa

namespace Go.Proofs.Ytfapnipmgmpgaaa
open Go.RowKit

end Go.Proofs.Ytfapnipmgmpgaaa

namespace Go.Proofs.Ytfapnipmgmpgaaa
open Go.RowKit

end Go.Proofs.Ytfapnipmgmpgaaa

namespace Go.Proofs.Ytfapnipmgmpgaaa
open Go.RowKit

/-- An edit at an address, below B. -/
structure EditAt (w : World) (B b : Nat) (e : GEdit) (vR : Value) : Prop where
  box : Box6 w b (.int .i64 e.kind) (.int .i64 e.i) (.int .i64 e.j) (.int .i64 e.k) vR (.string e.map)
  lt : b < B
  sl : Sl RuleE w B vR e.part
theorem EditAt.up {w w' : World} {b : Nat} {e : GEdit} {vR : Value} (h : EditAt w w.heap.size b e vR) (hb : Below w.heap.size w w') : EditAt w' w'.heap.size b e vR :=
  ⟨h.box.up hb h.lt, Nat.lt_of_lt_of_le h.lt hb.size, h.sl.up hb⟩

end Go.Proofs.Ytfapnipmgmpgaaa

namespace Go.Proofs.Ytfapnipmgmpgaaa
open Go.RowKit

end Go.Proofs.Ytfapnipmgmpgaaa

namespace Go.Proofs.Ytfapnipmgmpgaaa
open Go.RowKit

end Go.Proofs.Ytfapnipmgmpgaaa

namespace Go.Proofs.Ytfapnipmgmpgaaa
open Go.RowKit

end Go.Proofs.Ytfapnipmgmpgaaa

namespace Go.Proofs.Ytfapnipmgmpgaaa
open Go.RowKit

end Go.Proofs.Ytfapnipmgmpgaaa

namespace Go.Proofs.Ytfapnipmgmpgaaa
open Go.RowKit

end Go.Proofs.Ytfapnipmgmpgaaa

namespace Go.Proofs.Ytfapnipmgmpgaaa
open Go.RowKit

end Go.Proofs.Ytfapnipmgmpgaaa

namespace Go.Proofs.Ytfapnipmgmpgaaa
open Go.RowKit

end Go.Proofs.Ytfapnipmgmpgaaa

namespace Go.Proofs
end Go.Proofs
namespace Go.Proofs.Ytfapnipmgmpgaaa
open Go.RowKit

end Go.Proofs.Ytfapnipmgmpgaaa

namespace Go.Proofs.Ytfapnipmgmpgaaa
open Go.RowKit

/-- The six cells of an edit. -/
def epCells (p : GEdit × Value) : List Value := [.int .i64 p.1.kind, .int .i64 p.1.i, .int .i64 p.1.j, .int .i64 p.1.k, p.2, .string p.1.map]
theorem ep_at (ps : List (GEdit × Value)) (k : Nat) (p : GEdit × Value) (h : ps[k]? = some p) (j : Nat) (hj : j < 6) : (ps.flatMap epCells)[k * 6 + j]? = (epCells p)[j]? := by
  induction ps generalizing k with
  | nil => simp at h
  | cons x xs ih =>
    cases k with
    | zero =>
      simp at h; subst h
      rw [List.flatMap_cons, List.getElem?_append_left (by simp [epCells]; omega), Nat.zero_mul, Nat.zero_add]
    | succ k =>
      have := ih k (by simpa using h)
      rw [List.flatMap_cons, List.getElem?_append_right (by simp [epCells]; omega)]
      rw [show (k + 1) * 6 + j - (epCells x).length = k * 6 + j by simp [epCells]; omega]
      exact this
/-- The rules of one edit of a row: nothing, or a row of its own between two numbers, apart from the row of edits v. -/
def PartAt (w : World) (v : Value) (a b : Nat) (p : GEdit × Value) : Prop :=
  ((p.1.part = [] ∧ ∃ A c, p.2 = .slice A 0 c ∧ c ≤ maxLen) ∨ OwnR w a b p.2 p.1.part) ∧ ∀ g, v.ownBlock = some g → g < a ∨ b ≤ g
theorem PartAt.keep {w w' : World} {v : Value} {a b : Nat} {p : GEdit × Value} (h : PartAt w v a b p) (hk : ∀ g, a ≤ g → g < b → w'.heap[g]? = w.heap[g]?) (hs : w.heap.size ≤ w'.heap.size) : PartAt w' v a b p := by
  refine ⟨?_, h.2⟩
  rcases h.1 with h | h1
  · exact .inl h
  · exact .inr ⟨own_keep h1.1 fun g hg => hk g (h1.rng g hg).1 (h1.rng g hg).2, h1.2.1, Nat.le_trans h1.2.2 hs⟩
theorem PartAt.row {w w' : World} {v : Value} {a b g : Nat} {p : GEdit × Value} (h : PartAt w v a b p) (hv : v.ownBlock = some g) (hb : b ≤ w.heap.size) (hg : w.grownBy w' (some g)) : PartAt w' v a b p :=
  h.keep (fun g' h1 h2 => hg.block g' (by omega) (fun e => by have := h.2 g hv; simp at e; omega)) hg.size
theorem PartAt.sl {w : World} {v : Value} {a b : Nat} {p : GEdit × Value} (h : PartAt w v a b p) : Sl RuleE w w.heap.size p.2 p.1.part := by
  rcases h.1 with ⟨h1, A, c, h2, h3⟩ | h1
  · rw [h1, h2]; exact ⟨A, c, rfl, Nat.zero_le _, h3, fun h => absurd h (by simp)⟩
  · exact h1.sl
structure PartsR (w : World) (v : Value) (lo hi : Nat) (r : Nat → Nat) (ps : List (GEdit × Value)) : Prop where
  low : lo ≤ r 0
  mono : ∀ i j, i ≤ j → r i ≤ r j
  high : ∀ i, r i ≤ hi
  at_ : ∀ i p, ps[i]? = some p → PartAt w v (r (2 * i)) (r (2 * i + 1)) p
theorem PartsR.keep {w w' : World} {v : Value} {lo hi : Nat} {r : Nat → Nat} {ps : List (GEdit × Value)} (h : PartsR w v lo hi r ps) (hk : ∀ g, lo ≤ g → g < hi → v.ownBlock ≠ some g → w'.heap[g]? = w.heap[g]?) (hs : w.heap.size ≤ w'.heap.size) : PartsR w' v lo hi r ps := by
  refine ⟨h.low, h.mono, h.high, fun i p hp => ?_⟩
  obtain ⟨h0, h2⟩ := h.at_ i p hp
  refine ⟨?_, h2⟩
  rcases h0 with h1 | h1
  · exact .inl h1
  · refine .inr ⟨own_keep h1.1 fun g hg => ?_, h1.2.1, Nat.le_trans h1.2.2 hs⟩
    have hr := h1.rng g hg
    have a1 := h.mono 0 (2 * i) (Nat.zero_le _)
    have a2 := h.high (2 * i + 1)
    have a3 := h.low
    refine hk g (by omega) (by omega) fun e => ?_
    have := h2 g e
    omega
theorem PartsR.snoc {w : World} {v : Value} {lo hi hi' : Nat} {r : Nat → Nat} {ps : List (GEdit × Value)} {q : GEdit × Value} (h : PartsR w v lo hi r ps) (hq : PartAt w v hi hi' q) (hh : hi ≤ hi') (hl : lo ≤ hi) : ∃ r', PartsR w v lo hi' r' (ps ++ [q]) := by
  refine ⟨fun j => if j < 2 * ps.length then r j else if j = 2 * ps.length then hi else hi', ?_, ?_, ?_, ?_⟩
  · have := h.low
    split
    · omega
    · split <;> omega
  · intro i j hij
    have h1 := h.mono i j hij
    have h2 := h.high i
    repeat' split
    all_goals omega
  · intro i
    have h2 := h.high i
    repeat' split
    all_goals omega
  · intro i p hp
    rcases Nat.lt_or_ge i ps.length with hlt | hge
    · rw [List.getElem?_append_left hlt] at hp
      have := h.at_ i p hp
      simp only [show 2 * i < 2 * ps.length by omega, show 2 * i + 1 < 2 * ps.length by omega, if_true]
      exact this
    · rw [List.getElem?_append_right hge] at hp
      have hi0 : i = ps.length := by
        have := (List.getElem?_eq_some_iff.1 hp).1
        simp at this; omega
      subst hi0
      simp at hp
      subst hp
      simp only [Nat.lt_irrefl, if_false, if_true, show ¬ (2 * ps.length + 1 < 2 * ps.length) by omega, show ¬ (2 * ps.length + 1 = 2 * ps.length) by omega]
      exact hq
theorem PartsR.nil {w : World} {v : Value} {lo hi : Nat} (h : lo ≤ hi) : PartsR w v lo hi (fun _ => hi) [] := ⟨h, fun _ _ _ => Nat.le_refl _, fun _ => Nat.le_refl _, fun i p hp => by simp at hp⟩
theorem PartsR.le {w : World} {v : Value} {lo lo' hi hi' : Nat} {r : Nat → Nat} {ps : List (GEdit × Value)} (h : PartsR w v lo hi r ps) (h1 : lo' ≤ lo) (h2 : hi ≤ hi') : PartsR w v lo' hi' r ps := ⟨Nat.le_trans h1 h.low, h.mono, fun i => Nat.le_trans (h.high i) h2, h.at_⟩
/-- A row of edits of one's own, between two block numbers. -/
def OEds (w : World) (lo hi : Nat) (v : Value) (es : List GEdit) : Prop :=
  ∃ ps r, ps.map Prod.fst = es ∧ w.ownsRow lo 34 6 v es.length (ps.flatMap epCells) ∧ (∀ g, v.ownBlock = some g → g < hi) ∧ hi ≤ w.heap.size ∧ PartsR w v lo hi r ps
section
variable {w w' : World} {lo hi : Nat} {v : Value} {es : List GEdit}
theorem OEds.keep (h : OEds w lo hi v es) (hk : ∀ g, lo ≤ g → g < hi → w'.heap[g]? = w.heap[g]?) (hs : w.heap.size ≤ w'.heap.size) : OEds w' lo hi v es := by
  obtain ⟨ps, r, h1, h2, h3, h4, h5⟩ := h
  exact ⟨ps, r, h1, own_keep h2 fun g hg => hk g (World.ownsRow.lt h2 g hg).1 (h3 g hg), h3, Nat.le_trans h4 hs, h5.keep (fun g a b _ => hk g a b) hs⟩
theorem OEds.up (h : OEds w lo hi v es) (hb : Below w.heap.size w w') : OEds w' lo hi v es := h.keep (fun g _ b => hb.block g (by obtain ⟨_, _, _, _, _, h4, _⟩ := h; omega)) hb.size
theorem OEds.chg {lo' hi' : Nat} (h : OEds w lo hi v es) (hc : Chg lo' hi' w w') (hne : hi ≤ lo' ∨ hi' ≤ lo) : OEds w' lo hi v es :=
  h.keep (fun g a b => hc.block g (by obtain ⟨_, _, _, _, _, h4, _⟩ := h; omega) (by omega)) hc.size
theorem ps_at {ps : List (GEdit × Value)} {i : Nat} {e : GEdit} (h : (ps.map Prod.fst)[i]? = some e) : ∃ u, ps[i]? = some (e, u) := by
  rw [List.getElem?_map] at h
  obtain ⟨p, h1, h2⟩ := Option.map_eq_some_iff.1 h
  exact ⟨p.2, by rw [h1, ← h2]⟩
theorem OEds.sl (h : OEds w lo hi v es) : Sl EditE w w.heap.size v es := by
  obtain ⟨ps, r, rfl, h2, h3, h4, h5⟩ := h
  obtain ⟨A, cap, rfl, c1, c2⟩ := own_nil h2
  refine ⟨A, cap, rfl, c1, c2, Row.of_own (E := EditE) h2 rfl (fun g hg => (World.ownsRow.lt h2 g hg).2) fun k e hx => ?_⟩
  obtain ⟨u, hu⟩ := ps_at hx
  refine ⟨epCells (e, u), ⟨u, rfl, (h5.at_ k _ hu).sl⟩, fun j x hj => ?_⟩
  have hj6 : j < 6 := by have := (List.getElem?_eq_some_iff.1 hj).1; simpa [epCells] using this
  show (ps.flatMap epCells)[k * 6 + j]? = some x
  rw [ep_at ps k _ hu j hj6]; exact hj
end
end Go.Proofs.Ytfapnipmgmpgaaa

namespace Go.Proofs.Ytfapnipmgmpgaaa
open Go.RowKit

end Go.Proofs.Ytfapnipmgmpgaaa

namespace Go.Proofs.Ytfapnipmgmpgaaa
open Go.RowKit

end Go.Proofs.Ytfapnipmgmpgaaa

namespace Go.Proofs.Ytfapnipmgmpgaaa
open Go.RowKit

end Go.Proofs.Ytfapnipmgmpgaaa

namespace Go.Proofs.Ytfapnipmgmpgaaa
open Go.RowKit

end Go.Proofs.Ytfapnipmgmpgaaa

namespace Go.Proofs.Ytfapnipmgmpgaaa
open Go.RowKit

/-- A row of edits and what is known of its parts. -/
def OEdP (w : World) (lo hp : Nat) (v : Value) (es : List GEdit) : Prop :=
  ∃ ps r, ps.map Prod.fst = es ∧ w.ownsRow lo 34 6 v es.length (ps.flatMap epCells) ∧ PartsR w v lo hp r ps
theorem OEdP.keep {w w' : World} {lo hp : Nat} {v : Value} {es : List GEdit} (h : OEdP w lo hp v es) (hb : Below w.heap.size w w') (hh : hp ≤ w.heap.size) : OEdP w' lo hp v es := by
  obtain ⟨ps, r, h1, h2, h3⟩ := h
  exact ⟨ps, r, h1, ownsRow_below h2 hb, h3.keep (fun g _ b _ => hb.block g (by omega)) hb.size⟩
end Go.Proofs.Ytfapnipmgmpgaaa

namespace Go.Proofs.Ytfapnipmgmpgaaa
open Go.RowKit

def foundK (s : ByteArray) (c : UInt8) (k : Nat) : List Int := ((List.range k).filter (fun j => s.data.getD j 0 == c)).map fun (j : Nat) => (j : Int)
theorem foundK_succ (s : ByteArray) (c : UInt8) (k : Nat) : foundK s c (k + 1) = if s.data.getD k 0 = c then foundK s c k ++ [(k : Int)] else foundK s c k := by
  unfold foundK
  rw [List.range_succ, List.filter_append, List.map_append]
  by_cases h : s.data.getD k 0 = c
  · rw [if_pos h]; simp at h; simp [h]
  · rw [if_neg h]; simp at h; simp [h]
theorem foundK_len (s : ByteArray) (c : UInt8) (k : Nat) : (foundK s c k).length ≤ k := by
  unfold foundK
  rw [List.length_map]
  exact Nat.le_trans (List.length_filter_le _ _) (by simp)
theorem foundK_pos (s : ByteArray) (c : UInt8) : 0 < (foundK s c s.size).length ↔ hasC s c = true := by
  unfold foundK hasC
  rw [List.length_map, List.length_pos_iff_exists_mem, List.contains_iff_mem]
  constructor
  · rintro ⟨j, hj⟩
    obtain ⟨h1, h2⟩ := List.mem_filter.1 hj
    have h3 := List.mem_range.1 h1
    rw [getD_data h3] at h2
    have : s[j] = c := by simpa using h2
    rw [← this]
    exact List.mem_of_getElem? (toList_getElem? s j h3)
  · intro h
    obtain ⟨j, hj⟩ := List.mem_iff_getElem?.1 h
    have hlt : j < s.size := by have := (List.getElem?_eq_some_iff.1 hj).1; simpa using this
    refine ⟨j, List.mem_filter.2 ⟨List.mem_range.2 hlt, ?_⟩⟩
    rw [toList_getElem? s j hlt] at hj
    rw [getD_data hlt]
    simpa using hj
theorem ext_one (s : ByteArray) (i : Nat) (h : i < s.size) : s.extract i (i + 1) = ⟨#[s.data.getD i 0]⟩ := by
  rw [getD_data h]
  apply ByteArray.ext
  apply Array.ext'
  show (s.extract i (i + 1)).data.toList = [s[i]]
  rw [Lib.extract_data, show i + 1 - i = 1 by omega]
  have h1 := toList_getElem? s i h
  have hl : i < s.data.toList.length := (List.getElem?_eq_some_iff.1 h1).1
  rw [List.drop_eq_getElem_cons hl]
  have h2 : s.data.toList[i] = s[i] := by
    have := List.getElem?_eq_getElem hl
    rw [h1] at this
    exact (Option.some.inj this).symm
  rw [h2]; rfl
set_option maxRecDepth 100000 in
set_option maxHeartbeats 1000000 in
theorem l01Found_any (s : ByteArray) (c : UInt8) (w : World) (hs : s.size ≤ 1048576) :
    Calls Try.prog 126 #[.string ⟨#[c]⟩, .string s] w fun e w' => ∃ v, e = .returned v ∧ OwnInts w' w.heap.size v (foundK s c s.size) ∧ Below w.heap.size w w' := by
  go_enter Try.func126, Try.ntmps126
  go_wp2_with fail
  go_loopw [5, 6] (fun out q wr => ∃ (i : Nat), i ≤ s.size ∧ q = .int .i64 (i : Int) ∧ Below w.heap.size w wr ∧ OwnInts wr w.heap.size out (foundK s c i)) (fun _ q _ => s.size - (intOf q).toNat)
  case atStart => exact ⟨0, by omega, rfl, (by repeat (first | exact Below.refl _ _ | (refine Below.alloc ?_ (by first | omega | (simp; done) | (simp; omega)) _) | (refine Below.setCell ?_ (by first | exact Nat.le_refl _ | (show _ ≤ _; omega) | (simp; done) | (simp; omega)) _) | refine below_drewN ?_ _ | refine Below.drew ?_)), OwnInts.empty (by simp) (by simp)⟩
  case round =>
    obtain ⟨i, hi, rfl, hb, hown⟩ := hrel
    have HB := Lib.hid hb
    have HO := Lib.hid hown
    have hsz : w.heap.size ≤ wr.heap.size := hb.size
    have hfl := foundK_len s c i
    clear hb
    by_cases hlt : i < s.size
    · have hE := ext_one s i hlt
      have HF := Lib.hid (foundK_succ s c i)
      by_cases hc : s.data.getD i 0 = c
      · have HC := Lib.hid hc
        rw [hc] at hE
        clear hc
        go_wp2_with (first
          | (at_builtin; go_must (refine push_ints rfl _ _ rfl rfl rfl (by simp) (by repeat (first | exact hown | apply OwnInts.alloc)) (by omega) (by first | omega | (simp; omega)) ?_)
             intro v' w1 hown1 hgrow hbw))
        go_roundw
        case rel => exact ⟨i + 1, by omega, by go_num, HB.out.trans hbw, by rw [HF.out, if_pos HC.out]; exact hown1⟩
        case measure => simp [intOf]; omega
      · have HC := Lib.hid hc
        have hne : ¬ (⟨#[s.data.getD i 0]⟩ : ByteArray) = ⟨#[c]⟩ := fun h => hc (by
          have h2 := congrArg ByteArray.data h
          simpa using h2)
        obtain ⟨d, hd⟩ : ∃ d, s.data.getD i 0 = d := ⟨_, rfl⟩
        rw [hd] at hne hE hc
        have hbq : (d == c) = false := by simpa using hc
        clear hd
        go_wp2_with fail
        go_roundw
        case rel => exact ⟨i + 1, by omega, by go_num, HB.out, by rw [HF.out, if_neg HC.out]; exact HO.out⟩
        case measure => simp [intOf]; omega
    · have hi2 : i = s.size := by omega
      subst hi2
      go_wp2_with fail
      go_ret
      exact ⟨_, rfl, HO.out, HB.out⟩
end Go.Proofs.Ytfapnipmgmpgaaa

namespace Go.Proofs.Ytfapnipmgmpgaaa
open Go.RowKit

theorem idx_at (s : ByteArray) {k : Nat} (hk : k < 4) (h : hasC s (ltr k) = true) : idxG s (ltr k) = (letsG s k).length := by
  have : k = 0 ∨ k = 1 ∨ k = 2 ∨ k = 3 := by omega
  have e01 : letR (ltr 0) ≠ letR (ltr 1) := by decide
  unfold idxG letsG
  rcases this with rfl | rfl | rfl | rfl <;> simp only [List.range_succ, List.range_zero, List.nil_append, List.cons_append, List.filter_cons, h] <;> (repeat' split) <;> first | rfl | decide | (simp_all; done)
/-- The places of the letters. -/
def TabI (s : ByteArray) (T : List Int) (k : Nat) : Prop := T.length = 4 ∧ ∀ j, j < k → hasC s (ltr j) = true → T.getD j 0 = (idxG s (ltr j) : Nat)
theorem TabI.next {s : ByteArray} {T : List Int} {k : Nat} (h : TabI s T k) (hn : ¬ hasC s (ltr k) = true) : TabI s T (k + 1) :=
  ⟨h.1, fun j hj hc => by
    rcases Nat.lt_succ_iff_lt_or_eq.1 hj with h1 | rfl
    · exact h.2 j h1 hc
    · exact absurd hc hn⟩
theorem TabI.put {s : ByteArray} {T : List Int} {k : Nat} (h : TabI s T k) (hk : k < 4) (hc : hasC s (ltr k) = true) : TabI s (T.set k ((letsG s k).length : Nat)) (k + 1) :=
  ⟨by rw [List.length_set]; exact h.1, fun j hj hcj => by
    rw [getD_set (by rw [h.1]; exact hk)]
    split
    · rename_i e; subst e; rw [idx_at s hk hc]
    · exact h.2 j (by omega) hcj⟩
theorem step_push_ruleW (W : World) {W' : World} {ops : Array Oper} {o : Oper} {a : Act} {K : Act → World → Prop} {Q : Exit → Act → World → Prop} {E : Prop} {t : ByteArray} {p q : Int} (hW : W' = W.alloc (.cells #[.string t, .int .i64 p, .int .i64 q] 160)) (hgd : o.guard = none) (s x : Operand)
    (ho : o.op = .call { callee := .builtin .append, args := #[s, x], argTypes := #[30, 30] }) {base : Nat} {v : Value} {l : List GRule}
    (hs : a.eval s = v) {N : Nat} (hx : a.eval x = .slice (some ⟨N, 0, none⟩) 1 1) (hN : N = W.heap.size) (hown : OwnRules W base v l) (hlen : l.length ≤ 1099511627775) (hbase : base ≤ W.heap.size)
    (h : ∀ v' w', OwnRules w' base v' (l ++ [⟨t, p, q⟩]) → (W.alloc (.cells #[.string t, .int .i64 p, .int .i64 q] 160)).grownBy w' v.ownBlock → Below base (W.alloc (.cells #[.string t, .int .i64 p, .int .i64 q] 160)) w' → K (a.put o.dst v') w') :
    if Region.wanted o (yielded ops a.tmps) = true then Oper.wp Try.prog o a W' K Q else E := by
  subst hW
  exact step_push_rule hgd s x ho hs hx hN hown hlen hbase h
theorem let_place {s : ByteArray} {T : List Int} (hw : wordOk s = true) (hT : TabI s T 4) {i : Nat} (h : i < s.size) : ∃ j : Nat, j < 4 ∧ ((s[i].toNat : Int) - 97) % 256 = (j : Int) ∧ IntKind.u8.wrap ((s[i].toNat : Int) - 97) = (j : Int) ∧ T.getD j 0 = ((idxG s (s.data.getD i 0) : Nat) : Int) := by
  obtain ⟨j, hj, e⟩ := let_ltr (letOk_at hw h)
  have hc := hasC_at h
  rw [getD_data h]
  rw [e] at hc ⊢
  have h1 : (((ltr j).toNat : Int) - 97) % 256 = (j : Int) := by
    rw [← ltr_nat hj]
    omega
  exact ⟨j, hj, h1, h1, hT.2 j hj hc⟩
set_option maxRecDepth 100000 in
set_option maxHeartbeats 4000000 in
theorem l02Plain_any (s : ByteArray) (w : World) (hs : wordOk s = true) :
    Calls Try.prog 69 #[.string s] w (GOwn (plainG s) w) := by
  have hsz : s.size ≤ 2000 := by unfold wordOk at hs; simp only [Bool.and_eq_true, decide_eq_true_eq] at hs; omega
  have HS := Lib.hid hs
  clear hs
  have hmk : ∀ W : World, (Instr.makeSlice 65 (.int .i64 4) (.int .i64 4)).run Try.prog W = .ok (.slice (some ⟨W.heap.size, 0, none⟩) 4 4) (W.alloc (.cells #[.int .i64 0, .int .i64 0, .int .i64 0, .int .i64 0] 2)) :=
    fun W => by
      have h := run_make_row' (P := Try.prog) 65 2 (.int .i64 0) 8 Try.underlying65 Try.infoI rfl .i64 .i64 4 (by omega) (by omega) W
      have e : madeCells #[Value.int .i64 0] 4 = #[.int .i64 0, .int .i64 0, .int .i64 0, .int .i64 0] := by
        have hr : Array.range 4 = #[0, 1, 2, 3] := by decide
        simp [madeCells, hr]
      rw [e] at h
      exact h
  go_enter Try.func69, Try.ntmps69
  go_wp2_with fail
  go_loopw [5, 6] (fun q u6 wr => ∃ (k : Nat) (vo : Value) (T : List Int), k ≤ 4 ∧ q = .int .i64 (k : Int) ∧ Below w.heap.size w wr ∧ Blk wr w.heap.size #[.slice none 0 0] 32 ∧ Boxed wr (w.heap.size + 1) 32 vo ∧ OwnRules wr (w.heap.size + 3) vo (letsG s k) ∧ Blk wr (w.heap.size + 2) ((T.map (Value.int .i64)).toArray) 2 ∧ TabI s T k) (fun q _ _ => 4 - (intOf q).toNat)
  case atStart =>
    refine ⟨0, .slice none 0 0, [0, 0, 0, 0], by omega, rfl, (by repeat (first | exact Below.refl _ _ | (refine Below.alloc ?_ (by first | omega | (simp; done) | (simp; omega)) _) | (refine Below.setCell ?_ (by first | exact Nat.le_refl _ | (show _ ≤ _; omega) | (simp; done) | (simp; omega)) _) | refine below_drewN ?_ _ | refine Below.drew ?_)), ?_, ?_, World.ownsRow_nil _ _ _ _, ?_, rfl, fun j hj => by omega⟩
    · repeat (first | (apply Blk.new'; simp; done) | apply Blk.alloc | apply Blk.drew)
    · show Blk _ _ #[.slice none 0 0] _
      repeat (first | (apply Blk.new'; simp; done) | apply Blk.alloc | apply Blk.drew)
    · show Blk _ _ #[.int .i64 0, .int .i64 0, .int .i64 0, .int .i64 0] _
      repeat (first | (apply Blk.new'; simp; done) | apply Blk.alloc | apply Blk.drew)
  case round =>
    obtain ⟨k, vo, T, hk, rfl, hb, h0, hbox, hown, hT, htab⟩ := hrel
    have HB := Lib.hid hb
    have H0 := Lib.hid h0
    have Hbox := Lib.hid hbox
    have Hown := Lib.hid hown
    have HT := Lib.hid hT
    have HTab := Lib.hid htab
    obtain ⟨Ao, co, rfl, _⟩ := own_nil hown
    clear hb h0 hbox hown hT htab
    by_cases hlt : k < 4
    · have hcv : (convert 56 9 (.slice (some ⟨wr.heap.size, 0, none⟩) 1 1)).run Try.prog (wr.alloc (.cells #[.int .u8 (97 + (k : Int))] 5)) = .ok (.string (letR (ltr k)).letter) (wr.alloc (.cells #[.int .u8 (97 + (k : Int))] 5)) := by
        have := convC wr _ rfl (ltr k)
        rw [← ltr_nat hlt, show ((97 + k : Nat) : Int) = 97 + (k : Int) by omega] at this
        exact this
      have HSu := Lib.hid (letsG_succ s k)
      have hTl := HTab.out.1
      have cT := HT.out.cell (i := k) (ints_cell (by omega))
      have fT := HT.out.frozen k
      have lT := HT.out.lt
      have cb := Hbox.out.cell
      have fb := Hbox.out.frozen
      have lb := Hbox.out.lt
      have hll := letsG_len s k
      go_wp2_with fail
      refine (l01Found_any s (ltr k) _ (by omega)).mono ?_
      rintro e w2 ⟨v2, rfl, own2, hb2⟩
      obtain ⟨A2, c2, rfl, _⟩ := OwnInts.sl own2
      obtain ⟨hb3, _⟩ := Below.unalloc hb2
      have z2 : wr.heap.size ≤ w2.heap.size := hb3.size
      have HB2 := Lib.hid (HB.out.trans (hb3.mono HB.out.size))
      have H02 := Lib.hid (H0.out.up hb3)
      have Hbox2 := Lib.hid (Boxed.up Hbox.out hb3 Hbox.out.lt)
      have Hown2 := Lib.hid (OwnRules.below Hown.out hb3)
      have HT2 := Lib.hid (HT.out.up hb3)
      have cT2 := HT2.out.cell (i := k) (ints_cell (by omega))
      have fT2 := HT2.out.frozen k
      have lT2 := HT2.out.lt
      have cb2 := Hbox2.out.cell
      have fb2 := Hbox2.out.frozen
      have lb2 := Hbox2.out.lt
      have hpos := foundK_pos s (ltr k)
      generalize (foundK s (ltr k) s.size).length = M at *
      clear hb2 own2 cT fT lT cb fb lb HB H0 Hbox Hown HT hb3
      by_cases hc : hasC s (ltr k) = true
      · have hM : 0 < M := hpos.2 hc
        have HC := Lib.hid hc
        clear hpos hc
        have KX : ∀ v, Boxed (w2.setCell ⟨w.heap.size + 2, k, none⟩ v) (w.heap.size + 1) 32 (.slice Ao (letsG s k).length co) := fun v => Blk.other Hbox2.out (by show w.heap.size + 1 ≠ w.heap.size + 2; omega) v
        have HKX := Lib.hid KX
        have HOX := Lib.hid (fun v => ownsRow_setCell_below Hown2.out (a := ⟨w.heap.size + 2, k, none⟩) (by show w.heap.size + 2 < w.heap.size + 3; omega) v)
        clear KX
        go_wp2_with (first
          | (at_builtin; refine list_push_rule (base := w.heap.size + 3) (t := ⟨#[ltr k]⟩) (p := 0) (q := 0) rfl _ _ rfl rfl rfl (by simp) (HOX.out _) (by omega) (by simp; omega) ?_; intro v3 w3 own3 hg3 hb3; have bx3 : Boxed w3 (w.heap.size + 1) 32 _ := Boxed.grown (HKX.out _) (by decide) (HOX.out _) hg3; obtain ⟨A3, c3, rfl, _⟩ := own_nil own3; have hcb3 := bx3.cell; have hfb3 := bx3.frozen; have hlb3 := bx3.lt))
        have hbz : Below (w.heap.size + 3) (w2.setCell ⟨w.heap.size + 2, k, none⟩ (.int .i64 ((letsG s k).length : Nat))) w3 := ((Below.refl _ _).alloc (by simp; omega) _).trans hb3
        have hby : Below w.heap.size w w3 := (HB2.out.setCell (by show w.heap.size ≤ w.heap.size + 2; omega) _).trans (hbz.mono (by omega))
        go_roundw
        case rel =>
          refine ⟨k + 1, _, T.set k ((letsG s k).length : Nat), by omega, by go_num, hby.setCell (by show w.heap.size ≤ w.heap.size + 1; omega) _, ((H02.out.other (by show w.heap.size ≠ w.heap.size + 2; omega) _).upB hbz (by omega)).other (by show w.heap.size ≠ w.heap.size + 1; omega) _, Boxed.set _ bx3, ?_, ?_, HTab.out.put hlt HC.out⟩
          · rw [HSu.out, if_pos HC.out]
            exact own_put bx3 own3 rfl (by simp)
          · rw [← ints_set]
            exact ((HT2.out.set k _).upB hbz (by omega)).other (by show w.heap.size + 2 ≠ w.heap.size + 1; omega) _
        case measure => simp [intOf]; omega
      · have hM : M = 0 := by
          rcases Nat.eq_zero_or_pos M with h | h
          · exact h
          · exact absurd (hpos.1 h) hc
        subst hM
        have HC := Lib.hid hc
        clear hpos hc
        go_wp2_with fail
        go_roundw
        case rel => exact ⟨k + 1, _, T, by omega, by go_num, HB2.out, H02.out, Hbox2.out, by rw [HSu.out, if_neg HC.out]; exact Hown2.out, HT2.out, HTab.out.next HC.out⟩
        case measure => simp [intOf]; omega
    · have hk4 : k = 4 := by omega
      subst hk4
      rw [show ((4 : Nat) : Int) = 4 from rfl]
      have hlen4 := letsG_len s 4
      obtain ⟨wo, rfl⟩ : ∃ wo : World, wo = wr := ⟨_, rfl⟩
      have hTl := HTab.out.1
      go_wp2_with fail
      go_loopw [7, 8] (fun q u8 wx => ∃ (i : Nat) (vo : Value), 1 ≤ i ∧ (i ≤ s.size ∨ i = 1) ∧ q = .int .i64 (i : Int) ∧ Below w.heap.size w wx ∧ Blk wx w.heap.size #[.slice none 0 0] 32 ∧ Boxed wx (w.heap.size + 1) 32 vo ∧
        OwnRules wx (w.heap.size + 3) vo (plainK s (i - 1)) ∧ Blk wx (w.heap.size + 2) ((T.map (Value.int .i64)).toArray) 2) (fun q _ _ => s.size + 1 - (intOf q).toNat)
      case atStart =>
        refine ⟨1, _, Nat.le_refl _, .inr rfl, rfl, HB.out, H0.out, Hbox.out, ?_, HT.out⟩
        rw [show 1 - 1 = 0 from rfl, plainK_zero]
        exact Hown.out
      case round =>
        obtain ⟨i, vo, hi1, hi2, rfl, hb, h0, hbox, hown, hT⟩ := hrel
        have HB2 := Lib.hid hb
        have HK0 := Lib.hid h0
        have HX := Lib.hid hbox
        have HO := Lib.hid hown
        have HT2 := Lib.hid hT
        have cb' := hbox.cell
        have fb' := hbox.frozen
        have lb' := hbox.lt
        have lT' := hT.lt
        have hlp := Lib.hid (plainK_len s (i - 1))
        obtain ⟨A2, c2, rfl, _⟩ := own_nil hown
        clear hb h0 hbox hown hT HB H0 Hbox Hown HT
        by_cases hlt2 : i < s.size
        · have HP := Lib.hid (plainK_succ s (i - 1))
          have HLn := Lib.hid (show (plainK s (i - 1)).length ≤ 1099511627775 by rw [hlp.out]; omega)
          have hpos : 0 < s.size := by omega
          have hpl1 : 1 ≤ (plainK s (i - 1)).length := by have := idxG_lt HS.out hpos; rw [hlp.out]; omega
          have hpl2 : (plainK s (i - 1)).length ≤ 4000 := by rw [hlp.out]; omega
          obtain ⟨j1, hj1, hn1, hw1, ht1⟩ := let_place HS.out HTab.out hlt2
          have hj1' : (j1 : Int) < 4 := by omega
          have cT1 := HT2.out.cell (i := j1) (ints_cell (by omega))
          obtain ⟨I, hI⟩ : ∃ I : Nat, I = idxG s (s.data.getD i 0) := ⟨_, rfl⟩
          rw [ht1, ← hI] at cT1
          obtain ⟨B, hB⟩ : ∃ B : Nat, (if i - 1 = 0 then (idxG s (s.data.getD 0 0) : Nat) else (letsG s 4).length + (i - 1) - 1) = B := ⟨_, rfl⟩
          have hBp : pairAt s (i - 1) = pairR (B : Int) (I : Int) := by
            unfold pairAt
            rw [show i - 1 + 1 = i by omega, ← hB, ← hI]
            split <;> rfl
          have HBp := Lib.hid hBp
          have HBq := Lib.hid hB
          clear hBp hB hI ht1
          go_upto_if 49 with fail
          go_cut [8] (fun u8 wx => u8 = .int .i64 (B : Int) ∧ wx = wr)
          case first =>
            by_cases h1i : i = 1
            · subst h1i
              obtain ⟨j0, hj0, hn0, hw0, ht0⟩ := let_place HS.out HTab.out hpos
              have cT0 := HT2.out.cell (i := j0) (ints_cell (by omega))
              rw [ht0] at cT0
              go_wp2_with fail
              go_meet
              exact ⟨by rw [← HBq.out, if_pos trivial, getD_data hpos]; rfl, rfl⟩
            · have hb1 : ((i : Int) == 1) = false := by rw [beq_eq_false_iff_ne]; omega
              go_wp2
              go_meet
              refine ⟨?_, rfl⟩
              rw [← HBq.out, if_neg (by omega), hlp.out]
              congr 1; omega
          case rest => 
            obtain ⟨rfl, rfl⟩ := hcut
            go_wp2_with fail
            go_region_law (refine step_push_ruleW wc.drew (base := w.heap.size + 3) (by rfl) (by rfl) _ _ (by rfl) (by rfl) (by first | rfl | simp) rfl HO.out.drew HLn.out (by show w.heap.size + 3 ≤ wc.heap.size; omega) ?_; intro v3 w3 own3 hg3 hb3; have bx3 : Boxed w3 (w.heap.size + 1) 32 _ := Boxed.grown (show Boxed wc.drew (w.heap.size + 1) 32 _ from HX.out) (by decide) HO.out.drew hg3; obtain ⟨A3, c3, rfl, _⟩ := own_nil own3; have hcb3 := bx3.cell; have hfb3 := bx3.frozen; have hlb3 := bx3.lt)
            all_goals
              have hbz : Below (w.heap.size + 3) wc w3 := (Below.drew (Below.refl _ _)).trans (((Below.refl _ _).alloc (by show w.heap.size + 3 ≤ wc.heap.size; omega) _).trans hb3)
              have HBZ := Lib.hid hbz
              have HO3 := Lib.hid own3
              have HX3 := Lib.hid bx3
              clear hbz own3 bx3 hb3 hg3
              go_wp2
              go_roundw
              case rel =>
                refine ⟨i + 1, _, by omega, .inl (by omega), by go_num, (HB2.out.trans (HBZ.out.mono (by omega))).setCell (by show w.heap.size ≤ w.heap.size + 1; omega) _, (HK0.out.upB HBZ.out (by omega)).other (by show w.heap.size ≠ w.heap.size + 1; omega) _, Boxed.set _ HX3.out, ?_, (HT2.out.upB HBZ.out (by omega)).other (by show w.heap.size + 2 ≠ w.heap.size + 1; omega) _⟩
                rw [show i + 1 - 1 = (i - 1) + 1 by omega, HP.out, HBp.out]
                exact own_put HX3.out HO3.out rfl (by simp)
              case measure => simp [intOf]; omega
        · have HE := Lib.hid (show plainK s (i - 1) = plainG s by rw [plainG]; congr 1; omega)
          have r1 := HK0.out.cell (i := 0) (v := .slice none 0 0) rfl
          have r2 := HK0.out.frozen 0
          have r3 := HK0.out.lt
          go_wp2
          rw [HE.out] at HO HX
          refine bodyPost_ret (v := .agg #[.slice A2 (plainG s).length c2]) (by simp [results, Try.results69, go_sem, r1, HE.out]) rfl ⟨HB2.out.setCell (by show w.heap.size ≤ w.heap.size; omega) _, _, ?_, rfl⟩
          exact ownsRow_more (ownsRow_setCell_below HO.out (a := ⟨w.heap.size, 0, none⟩) (by show w.heap.size < w.heap.size + 3; omega) _) (by omega)
end Go.Proofs.Ytfapnipmgmpgaaa

namespace Go.Proofs.Ytfapnipmgmpgaaa
open Go.RowKit

theorem okAll_smallL {xs : List GRule} (h : OkAll xs) : SmallL xs := by
  intro r hr
  obtain ⟨k, hk⟩ := List.mem_iff_getElem?.1 hr
  cases hp : r.pair with
  | true => have : r.letter.size = 0 := by simpa [GRule.pair] using hp
            omega
  | false => have := (okRule_let (h k r hk) hp).1
             omega
end Go.Proofs.Ytfapnipmgmpgaaa

namespace Go.Proofs.Ytfapnipmgmpgaaa
open Go.RowKit

end Go.Proofs.Ytfapnipmgmpgaaa

namespace Go.Proofs.Ytfapnipmgmpgaaa
open Go.RowKit

end Go.Proofs.Ytfapnipmgmpgaaa

namespace Go.Proofs
end Go.Proofs
namespace Go.Proofs.Ytfapnipmgmpgaaa
open Go.RowKit

/-- The words of a row of the call's own. -/
def OwnW (w : World) (base : Nat) (v : Value) (l : List ByteArray) : Prop := w.ownsRow base 9 1 v l.length (l.map Value.string)
theorem OwnW.empty {w : World} {base N : Nat} (hN : N = w.heap.size) (hb : base ≤ w.heap.size) : OwnW (w.alloc (Obj.cells #[] 9)) base (Value.slice (some ⟨N, 0, none⟩) 0 0) [] := by
  subst hN
  exact World.ownsRow_lit w #[] 0 hb (Nat.zero_le _) rfl
theorem OwnW.sl {w : World} {base : Nat} {v : Value} {l : List ByteArray} (h : OwnW w base v l) : Sl StrE w w.heap.size v l := by
  have hh : w.ownsRow base 9 1 v l.length (l.map Value.string) := h
  obtain ⟨A, cap, rfl, h1, h2⟩ := own_nil hh
  refine ⟨A, cap, rfl, h1, h2, Row.of_own (E := StrE) hh rfl (fun g hg => (World.ownsRow.lt hh g hg).2) fun k x hx => ⟨[.string x], rfl, fun j u hu => ?_⟩⟩
  cases j with
  | zero => simp at hu; subst hu; simp [StrE, hx]
  | succ j => simp at hu
end Go.Proofs.Ytfapnipmgmpgaaa

namespace Go.Proofs.Ytfapnipmgmpgaaa
open Go.RowKit

end Go.Proofs.Ytfapnipmgmpgaaa

namespace Go.Proofs.Ytfapnipmgmpgaaa
open Go.RowKit

end Go.Proofs.Ytfapnipmgmpgaaa

namespace Go.Proofs.Ytfapnipmgmpgaaa
open Go.RowKit

end Go.Proofs.Ytfapnipmgmpgaaa

namespace Go.Proofs.Ytfapnipmgmpgaaa
open Go.RowKit

end Go.Proofs.Ytfapnipmgmpgaaa

namespace Go.Proofs.Ytfapnipmgmpgaaa

theorem raise_len {n : Nat} {lx a : List Int} {r : GRule} (hn : lx.length = n) (h : okRule a.length r = true) : ruleLen (lx ++ a) (raiseR n r) = ruleLen a r := by
  unfold raiseR
  cases hp : r.pair with
  | false => simp [ruleLen, hp]
  | true =>
    have h2 := okRule_at h hp
    have hp2 : ({ letter := r.letter, left := r.left + n, right := r.right + n } : GRule).pair = true := hp
    simp only [if_true]
    unfold ruleLen
    rw [if_pos hp2, if_pos hp]
    have e1 : (r.left + (n : Int)).toNat = n + r.left.toNat := by omega
    have e2 : (r.right + (n : Int)).toNat = n + r.right.toNat := by omega
    show (lx ++ a).getD (r.left + n).toNat 0 + (lx ++ a).getD (r.right + n).toNat 0 = _
    rw [e1, e2, List.getD_eq_getElem?_getD, List.getD_eq_getElem?_getD, List.getElem?_append_right (by omega), List.getElem?_append_right (by omega), hn, Nat.add_sub_cancel_left, Nat.add_sub_cancel_left]
    rw [← List.getD_eq_getElem?_getD, ← List.getD_eq_getElem?_getD]
theorem lens_raise {xs ys : List GRule} {lx ly : List Int} (hx : lens xs = some lx) (hy : lens ys = some ly) : lens (xs ++ ys.map (raiseR xs.length)) = some (lx ++ ly) := by
  rw [lens_app, hx]
  have hn : lx.length = xs.length := lens_length hx
  suffices H : ∀ (l : List GRule) (a o : List Int), l.foldl lensStep (some a) = some o → (l.map (raiseR xs.length)).foldl lensStep (some (lx ++ a)) = some (lx ++ o) by simpa using H ys [] ly hy
  intro l
  induction l with
  | nil => intro a o h; simp at h; simp [h]
  | cons y l ih =>
    intro a o h
    rw [List.map_cons, List.foldl_cons]
    rw [List.foldl_cons] at h
    cases hs : lensStep (some a) y with
    | none => rw [hs, lens_none] at h; cases h
    | some b =>
      rw [hs] at h
      simp only [lensStep, Option.bind_some] at hs
      split at hs
      · rename_i hok
        cases hs
        have e1 : okRule (lx ++ a).length (raiseR xs.length y) = true := by rw [List.length_append, hn]; exact raiseR_ok hok.1
        have e2 : ruleLen (lx ++ a) (raiseR xs.length y) = ruleLen a y := raise_len hn hok.1
        have e3 : lensStep (some (lx ++ a)) (raiseR xs.length y) = some (lx ++ (a ++ [ruleLen a y])) := by
          simp only [lensStep, Option.bind_some]
          rw [e2, if_pos ⟨e1, hok.2⟩, List.append_assoc]
        rw [e3]
        exact ih _ _ h
      · cases hs
end Go.Proofs.Ytfapnipmgmpgaaa

namespace Go.Proofs.Ytfapnipmgmpgaaa

/-- The grammar that is joined for a factor. -/
def facPart (g : List GRule) (f : GRule) : List GRule := if f.letter.size = 0 then partX g f.left (f.left + f.right) else plainG f.letter
def facStep (g : List GRule) (f : GRule) : Option (List GRule) := if 400 < (joinG g (facPart g f)).length then none else some (trimG (joinG g (facPart g f)))
def facRun : List GRule → List GRule → Option (List GRule)
  | g, [] => some g
  | g, f :: r => match facStep g f with | some h => facRun h r | none => none
def facOut (fs : List GRule) : List GRule := if facOk fs then (facRun [] fs).getD [] else []
def facCode (fs : List GRule) : Int := if facOk fs then (if (facRun [] fs).isSome then 0 else 3) else 1
/-- Two right grammars, of any number of rules, joined. -/
theorem joinG_lens {xs ys : List GRule} {lx ly : List Int} (h1 : lens xs = some lx) (h2 : lens ys = some ly) (hm : lastI lx + lastI ly ≤ maxL) : ∃ l, lens (joinG xs ys) = some l ∧ lastI l = lastI lx + lastI ly := by
  have hxl := lens_length h1
  have hyl := lens_length h2
  unfold joinG
  by_cases c1 : xs.length = 0
  · rw [if_pos c1]
    have : lx = [] := List.eq_nil_of_length_eq_zero (by omega)
    exact ⟨ly, h2, by rw [this]; simp [lastI]⟩
  · rw [if_neg c1]
    by_cases c2 : ys.length = 0
    · rw [if_pos c2]
      have : ly = [] := List.eq_nil_of_length_eq_zero (by omega)
      exact ⟨lx, h1, by rw [this]; simp [lastI]⟩
    · rw [if_neg c2]
      have hr := lens_raise h1 h2
      have hlen : (xs ++ ys.map (raiseR xs.length)).length = xs.length + ys.length := by simp
      have e1 : ((xs.length : Int) - 1) = ((xs.length - 1 : Nat) : Int) := by omega
      have e2 : ((xs.length : Int) + ys.length - 1) = ((xs.length + ys.length - 1 : Nat) : Int) := by omega
      have g2 : (lx ++ ly).getD (xs.length - 1) 0 = lastI lx := by
        rw [lastI, List.getD_eq_getElem?_getD, List.getElem?_append_left (by omega), ← List.getD_eq_getElem?_getD, hxl]
      have g3 : (lx ++ ly).getD (xs.length + ys.length - 1) 0 = lastI ly := by
        rw [lastI, List.getD_eq_getElem?_getD, List.getElem?_append_right (by omega), ← List.getD_eq_getElem?_getD, hxl, hyl]
        congr 1; omega
      rw [e1, e2]
      have h3 := lens_snoc (a := xs.length - 1) (b := xs.length + ys.length - 1) hr (by omega) (by omega) (by rw [g2, g3]; exact hm)
      rw [g2, g3] at h3
      exact ⟨_, h3, by simp [lastI]⟩
theorem partX_of {g : List GRule} {ls : List Int} (h : lens g = some ls) (i j : Int) : partX g i j = partG g ls i j := by simp [partX, h]
theorem okRule_isLet {f : GRule} (hz : ¬ f.letter.size = 0) (h : okRule 0 f = true) : isLet f.letter = true := by
  rw [okR0 hz] at h; simp at h; exact h.1.1
theorem plain_one {s : ByteArray} (h : isLet s = true) : lens (plainG s) = some [1] := by
  have h1 := isLet_size h
  have hw : wordOk s = true := by rw [wordOk_one h1]; exact h
  have hok := okAll_plainG hw
  have hc : hasC s s[0] = true := hasC_at (by omega)
  have hlo : letOk s[0] = true := letOk_at hw (by omega)
  have hmem := mem_letsG hlo hc
  have hpl : plainG s = letsG s 4 := by
    have e : s.size - 1 = 0 := by omega
    unfold plainG; rw [e, plainK_zero]
  obtain ⟨k, hk, hk2⟩ := let_ltr hlo
  -- only one letter is there
  have huniq : ∀ c, hasC s c = true → c = s[0] := by
    intro c hcc
    have : s.data.toList = [s[0]] := by
      have hs1 : s.data.toList.length = 1 := by simpa using h1
      obtain ⟨a, ha⟩ := List.length_eq_one_iff.1 hs1
      have h0 := toList_getElem? s 0 (by omega)
      rw [ha] at h0 ⊢
      simp at h0
      rw [h0]
    unfold hasC at hcc
    rw [this] at hcc
    simpa using hcc
  have hl : letsG s 4 = [letR s[0]] := by
    have hall : ∀ r ∈ letsG s 4, r = letR s[0] := by
      intro r hr
      unfold letsG at hr
      obtain ⟨j, hj, rfl⟩ := List.mem_map.1 hr
      have := (List.mem_filter.1 hj).2
      have hu := huniq (ltr j) (by simpa using this)
      rw [hu]
    have hnd : (letsG s 4).length ≤ 1 := by
      unfold letsG
      rw [List.length_map]
      have hf : ∀ j ∈ (List.range 4).filter (fun j => hasC s (ltr j)), j = k := by
        intro j hj
        obtain ⟨hj1, hj2⟩ := List.mem_filter.1 hj
        have h1 := huniq _ hj2
        rw [hk2] at h1
        have hj4 : j < 4 := by simpa using hj1
        have h2 := congrArg UInt8.toNat h1
        unfold ltr at h2
        rw [UInt8.toNat_ofNat', UInt8.toNat_ofNat'] at h2
        omega
      have hnod : ((List.range 4).filter (fun j => hasC s (ltr j))).Nodup := List.nodup_range.filter _
      generalize (List.range 4).filter (fun j => hasC s (ltr j)) = l at hf hnod
      match l, hf, hnod with
      | [], _, _ => simp
      | [_], _, _ => simp
      | a :: b :: t, hf, hnod =>
        exfalso
        have ha := hf a (by simp)
        have hb := hf b (by simp)
        rw [ha, hb] at hnod
        simp at hnod
    cases hL : letsG s 4 with
    | nil => rw [hL] at hmem; cases hmem
    | cons a t =>
      rw [hL] at hnd hall
      have : t = [] := by simpa using hnd
      rw [this, hall a (by simp)]
  rw [hpl, hl]
  have h2 : okRule 0 (letR s[0]) = true := by
    have := hok 0 (letR s[0]) (by rw [hpl, hl]; rfl)
    exact this
  have h3 : (letR s[0]).pair = false := rfl
  simp [lens, lensStep, h2, ruleLen, h3, maxL]
theorem facNext_part {n m : Int} {f : GRule} (hz : f.letter.size = 0) (h : facNext n f = some m) : (1 ≤ f.right ∧ 0 ≤ f.left ∧ f.left ≤ n ∧ f.right ≤ n - f.left) ∧ m = n + f.right ∧ n + f.right ≤ maxL := by
  unfold facNext at h
  rw [if_pos hz] at h
  split at h
  · rename_i hh; cases h; exact ⟨hh.1, rfl, hh.2⟩
  · cases h
theorem facNext_let {n m : Int} {f : GRule} (hz : ¬ f.letter.size = 0) (h : facNext n f = some m) : isLet f.letter = true ∧ m = n + 1 ∧ n + 1 ≤ maxL := by
  unfold facNext at h
  rw [if_neg hz] at h
  split at h
  · rename_i hh; cases h; exact ⟨okRule_isLet hz hh.1, rfl, hh.2⟩
  · cases h
/-- What is joined is right, and has the length of the factor. -/
theorem facPart_lens {g : List GRule} {n m : Int} {f : GRule} (hg : gramOk g = true) (hn : gramLen g = n) (h : facNext n f = some m) : ∃ l, lens (facPart g f) = some l ∧ n + lastI l = m ∧ m ≤ maxL := by
  obtain ⟨_, ls, hl⟩ := gram_lens hg
  have hgl := gramLen_of hl
  unfold facPart
  by_cases hz : f.letter.size = 0
  · obtain ⟨h1, rfl, h3⟩ := facNext_part hz h
    rw [if_pos hz, partX_of hl]
    obtain ⟨l1, k1, _⟩ := partG_word hl (i := f.left) (j := f.left + f.right) (by omega) (by omega) (by omega)
    have k3 := partG_gramLen hl (i := f.left) (j := f.left + f.right) (by omega) (by omega) (by omega)
    rw [gramLen_of k1] at k3
    exact ⟨l1, k1, by omega, h3⟩
  · obtain ⟨h1, rfl, h3⟩ := facNext_let hz h
    rw [if_neg hz]
    exact ⟨[1], plain_one h1, by simp [lastI], h3⟩
theorem facStep_ok {g h : List GRule} {n m : Int} {f : GRule} (hg : gramOk g = true) (hn : gramLen g = n) (hf : facNext n f = some m) (hs : facStep g f = some h) : gramOk h = true ∧ gramLen h = m := by
  obtain ⟨l, h1, h2, h3⟩ := facPart_lens hg hn hf
  obtain ⟨_, ls, hl⟩ := gram_lens hg
  have hgl := gramLen_of hl
  obtain ⟨l3, h4, h5⟩ := joinG_lens hl h1 (by omega)
  unfold facStep at hs
  split at hs
  · cases hs
  · cases hs
    obtain ⟨l4, h6, h7, _⟩ := trimG_sem h4
    have h8 := trimG_len (joinG g (facPart g f))
    refine ⟨?_, ?_⟩
    · simp only [gramOk, Bool.and_eq_true, decide_eq_true_eq]
      exact ⟨by omega, by rw [h6]; rfl⟩
    · rw [gramLen_of h6, ← wordG_len h6, h7, wordG_len h4, h5]; omega
theorem facRun_step {fs : List GRule} {g : List GRule} {k : Nat} {f : GRule} (h : fs[k]? = some f) : facRun g (fs.drop k) = (match facStep g f with | some h => facRun h (fs.drop (k + 1)) | none => none) := by
  obtain ⟨hk, rfl⟩ := List.getElem?_eq_some_iff.1 h
  rw [List.drop_eq_getElem_cons hk]; rfl
theorem facOut_bad {fs : List GRule} (h : facOk fs = false) : facOut fs = [] ∧ facCode fs = 1 := by simp [facOut, facCode, h]
theorem facOut_none {fs : List GRule} (h : facOk fs = true) (hr : facRun [] fs = none) : facOut fs = [] ∧ facCode fs = 3 := by simp [facOut, facCode, h, hr]
theorem facOut_some {fs g : List GRule} (h : facOk fs = true) (hr : facRun [] fs = some g) : facOut fs = g ∧ facCode fs = 0 := by simp [facOut, facCode, h, hr]
theorem facOk_at {fs : List GRule} (h : facOk fs = true) : fs.length ≤ 120 ∧ ∃ n, facLen 0 fs = some n := by
  simp only [facOk, Bool.and_eq_true, decide_eq_true_eq] at h
  exact ⟨h.1, Option.isSome_iff_exists.1 h.2⟩
/-- The walk through factors that are right: at each, what comes next is right as well. -/
theorem facLen_at {fs : List GRule} {k : Nat} {f : GRule} {n N : Int} (h : fs[k]? = some f) (hr : facLen n (fs.drop k) = some N) : ∃ m, facNext n f = some m ∧ facLen m (fs.drop (k + 1)) = some N := by
  rw [facLen_step h] at hr
  cases hf : facNext n f with
  | none => rw [hf] at hr; cases hr
  | some m => rw [hf] at hr; exact ⟨m, rfl, hr⟩
theorem facRun_ok {fs : List GRule} {g o : List GRule} {n N : Int} (hg : gramOk g = true) (hn : gramLen g = n) (hl : facLen n fs = some N) (hr : facRun g fs = some o) : gramOk o = true := by
  induction fs generalizing g n with
  | nil => simp [facRun] at hr; rw [← hr]; exact hg
  | cons f r ih =>
    obtain ⟨m, h1, h2⟩ := facLen_at (fs := f :: r) (k := 0) rfl (by simpa using hl)
    simp only [facRun] at hr
    cases hs : facStep g f with
    | none => rw [hs] at hr; cases hr
    | some h =>
      rw [hs] at hr
      obtain ⟨k1, k2⟩ := facStep_ok hg hn h1 hs
      exact ih k1 k2 (by simpa using h2) hr
theorem facOut_ok (fs : List GRule) : gramOk (facOut fs) = true := by
  unfold facOut
  split
  · rename_i h
    obtain ⟨_, N, hN⟩ := facOk_at h
    cases hr : facRun [] fs with
    | none => rfl
    | some o => exact facRun_ok (g := []) (n := 0) rfl rfl hN hr
  · rfl
/-- What trimOrLimit answers. -/
def tolOut (xs : List GRule) : List GRule := if 400 < xs.length then [] else limOut (trimG xs)
def tolCode (xs : List GRule) : Int := if 400 < xs.length then 3 else limCode (trimG xs)
theorem facPart_len {g : List GRule} {n m : Int} {f : GRule} (hg : gramOk g = true) (h : facNext n f = some m) : (facPart g f).length ≤ 1200 := by
  obtain ⟨h4, ls, hl⟩ := gram_lens hg
  unfold facPart
  by_cases hz : f.letter.size = 0
  · rw [if_pos hz, partX_of hl]
    have := partG_len hl f.left (f.left + f.right)
    omega
  · rw [if_neg hz]
    have h1 := isLet_size (facNext_let hz h).1
    have := plainG_len f.letter
    omega
theorem joinG_len2 (xs ys : List GRule) : (joinG xs ys).length ≤ xs.length + ys.length + 1 := by
  unfold joinG
  split
  · omega
  · split
    · omega
    · simp; omega
theorem fac_tol {g : List GRule} {n m : Int} {f : GRule} (hg : gramOk g = true) (hn : gramLen g = n) (hf : facNext n f = some m) :
    SmallP (facPart g f) ∧ OkAll (joinG g (facPart g f)) ∧ (joinG g (facPart g f)).length ≤ 1601 ∧
    ((facStep g f = none ∧ tolOut (joinG g (facPart g f)) = [] ∧ tolCode (joinG g (facPart g f)) = 3) ∨
     (facStep g f = some (trimG (joinG g (facPart g f))) ∧ tolOut (joinG g (facPart g f)) = trimG (joinG g (facPart g f)) ∧ tolCode (joinG g (facPart g f)) = 0)) := by
  obtain ⟨l, h1, h2, h3⟩ := facPart_lens hg hn hf
  obtain ⟨h4, ls, hl⟩ := gram_lens hg
  have hgl := gramLen_of hl
  obtain ⟨l3, h5, h6⟩ := joinG_lens hl h1 (by omega)
  have hp := facPart_len hg hf
  have hj := joinG_len2 g (facPart g f)
  refine ⟨okAll_smallP (okAll_lens h1) (by omega), okAll_lens h5, by omega, ?_⟩
  by_cases hc : 400 < (joinG g (facPart g f)).length
  · left
    exact ⟨by unfold facStep; rw [if_pos hc], by unfold tolOut; rw [if_pos hc], by unfold tolCode; rw [if_pos hc]⟩
  · right
    obtain ⟨l4, h7, h8, _⟩ := trimG_sem h5
    have h9 := trimG_len (joinG g (facPart g f))
    have hok : gramOk (trimG (joinG g (facPart g f))) = true := by
      simp only [gramOk, Bool.and_eq_true, decide_eq_true_eq]
      exact ⟨by omega, by rw [h7]; rfl⟩
    exact ⟨by unfold facStep; rw [if_neg hc], by unfold tolOut limOut; rw [if_neg hc, if_pos hok], by unfold tolCode limCode; rw [if_neg hc, if_pos hok]⟩
end Go.Proofs.Ytfapnipmgmpgaaa

