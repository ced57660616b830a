import Derived.Test.YtejgbfgocaggfaaM9
import Derived.Test.YtejgbfgocaggfaaM2
import Derived.Test.YtejgbfgocaggfaaM8
import Derived.Test.YtejgbfgocaggfaaM6
import Derived.WalkArith
import Derived.Test.YtejgbfgocaggfaaM5
import Derived.Test.YtejgbfgocaggfaaM4
namespace Go.Proofs.Ytejgbfgocaggfaa
open Go.RowKit
def FinR (k : Nat) (F : List Int) : Prop := ∀ i, i < F.length → 0 ≤ F.getD i 0 ∧ F.getD i 0 < k ∧ (0 < i → F.getD (i - 1) 0 < F.getD i 0)
theorem FinR.nil (k : Nat) : FinR k [] := fun i hi => absurd hi (by simp)
theorem FinR.more {k : Nat} {F : List Int} (h : FinR k F) : FinR (k + 1) F := fun i hi => by have := h i hi; omega
theorem FinR.push {k : Nat} {F : List Int} (h : FinR k F) : FinR (k + 1) (F ++ [(k : Int)]) := by
  intro i hi
  rw [List.length_append, List.length_singleton] at hi
  by_cases e : i < F.length
  · have e1 : (F ++ [(k : Int)]).getD i 0 = F.getD i 0 := by rw [List.getD_eq_getElem?_getD, List.getElem?_append_left e, ← List.getD_eq_getElem?_getD]
    have e2 : (F ++ [(k : Int)]).getD (i - 1) 0 = F.getD (i - 1) 0 := by rw [List.getD_eq_getElem?_getD, List.getElem?_append_left (by omega), ← List.getD_eq_getElem?_getD]
    rw [e1, e2]; have := h i e; omega
  · have ei : i = F.length := by omega
    have e1 : (F ++ [(k : Int)]).getD i 0 = k := by rw [List.getD_eq_getElem?_getD, List.getElem?_append_right (by omega), ei, Nat.sub_self]; rfl
    rw [e1]
    refine ⟨by omega, by omega, fun h0 => ?_⟩
    have e2 : (F ++ [(k : Int)]).getD (i - 1) 0 = F.getD (i - 1) 0 := by rw [List.getD_eq_getElem?_getD, List.getElem?_append_left (by omega), ← List.getD_eq_getElem?_getD]
    rw [e2]; exact (h (i - 1) (by omega)).2.1
def NxtR (S : Nat) (N : List (List Int)) : Prop := ∀ i, i < N.length → (N.getD i []).length = 4 ∧ ∀ d, d < 4 → 0 ≤ (N.getD i []).getD d 0 ∧ (N.getD i []).getD d 0 < S
theorem NxtR.nil (S : Nat) : NxtR S [] := fun i hi => absurd hi (by simp)
theorem NxtR.push {S : Nat} {N : List (List Int)} {L : List Int} (h : NxtR S N) (h1 : L.length = 4) (h2 : ∀ d, d < 4 → 0 ≤ L.getD d 0 ∧ L.getD d 0 < S) : NxtR S (N ++ [L]) := by
  intro i hi
  rw [List.length_append, List.length_singleton] at hi
  by_cases e : i < N.length
  · have e1 : (N ++ [L]).getD i [] = N.getD i [] := by rw [List.getD_eq_getElem?_getD, List.getElem?_append_left e, ← List.getD_eq_getElem?_getD]
    rw [e1]; exact h i e
  · have e1 : (N ++ [L]).getD i [] = L := by rw [List.getD_eq_getElem?_getD, List.getElem?_append_right (by omega), show i = N.length by omega, Nat.sub_self]; rfl
    rw [e1]; exact ⟨h1, h2⟩
theorem auto_made {S : Nat} {st : Nat} {F : List Int} {N : List (List Int)} (h1 : 1 ≤ S) (h2 : S ≤ 24) (h3 : st < S) (hF : FinR S F) (hN : NxtR S N) (hl : N.length = S) : autoOk ⟨S, st, F, N⟩ = true := by
  have e1 : inR (S : Int) 1 24 = true := by simp [inR]; omega
  have e2 : inR (st : Int) 0 ((S : Int) - 1) = true := by simp [inR]; omega
  have e3 : risesOk ((S : Int) - 1) F = true := allB_true fun i hi => by
    have := hF i hi
    by_cases h0 : i = 0
    · subst h0
      simp only [inR, Bool.and_eq_true, decide_eq_true_eq, Bool.or_eq_true, beq_self_eq_true, true_or, and_true]; omega
    · have h4 := this.2.2 (by omega)
      simp only [inR, Bool.and_eq_true, decide_eq_true_eq, Bool.or_eq_true]; omega
  have e4 : nextOk (S : Int) N = true := by
    rw [nextOk_of fun i hi => rowOk_yes (hN i hi).1 fun d hd => ?_]
    · simp [hl]
    · have := (hN i hi).2 d hd
      simp only [inR, Bool.and_eq_true, decide_eq_true_eq]; omega
  unfold autoOk
  simp [e1, e2, e3, e4]
def AutoS (w : World) (S : Nat → Prop) (v : Value) (a : GAuto) : Prop := ∃ vF vN, v = .agg #[.int .i64 a.states, .int .i64 a.start, vF, vN] ∧ SlS IntE w S vF a.finals ∧ SlS (SliceE IntE) w S vN a.next
theorem AutoS.keep {w w' : World} {S : Nat → Prop} {v : Value} {a : GAuto} (h : AutoS w S v a) (hk : Keep S w w') : AutoS w' S v a := by
  obtain ⟨vF, vN, e, h1, h2⟩ := h
  exact ⟨vF, vN, e, h1.keep hk, h2.keep hk⟩
theorem AutoS.more {w : World} {S S' : Nat → Prop} {v : Value} {a : GAuto} (h : AutoS w S v a) (hk : ∀ b, S b → S' b) : AutoS w S' v a := by
  obtain ⟨vF, vN, e, h1, h2⟩ := h
  exact ⟨vF, vN, e, h1.more hk, h2.more hk⟩
theorem AutoS.v {w : World} {B : Nat} {v : Value} {a : GAuto} (h : AutoS w (· < B) v a) : AutoV w B v a := h
def AutoDPost (b M : Nat) (w : World) (r : Ending) (w' : World) : Prop := ∃ v a, r = .returned v ∧ AutoS w' (fun g => w.heap.size < g ∧ g < w'.heap.size) v a ∧ autoOk a = true ∧ Src w' b M ∧ But b w w'
theorem AuSt.done {w wo : World} {b M M' P k st : Nat} {vF vN : Value} {F : List Int} {vs : List Value} {Nx : List (List Int)} (h : AuSt w b M wo P k st vF F vN k vs Nx) (hl : Nx.length = k) (hlt : b < w.heap.size) (hok : autoOk ⟨k, st, F, Nx⟩ = true) (hM : M ≤ M') :
    AutoDPost b M' w (.returned (.agg #[.int .i64 (k : Int), .int .i64 (st : Int), vF, vN])) ((((wo.setCell ⟨w.heap.size, 0, none⟩ (.int .i64 (k : Int))).setCell ⟨w.heap.size, 1, none⟩ (.int .i64 (st : Int))).setCell ⟨w.heap.size, 2, none⟩ vF).setCell ⟨w.heap.size, 3, none⟩ vN) := by
  have hP := h.hP
  have hF1 : SlS IntE wo (fun g => P + 1 ≤ g ∧ g < wo.heap.size) vF F := OwnInts.slS h.fin fun g hg => World.ownsRow.lt h.fin g hg
  have hN1 : SlS (SliceE IntE) wo (fun g => P + 1 ≤ g ∧ g < wo.heap.size) vN Nx := by
    refine Each.sl (base := P + 1) (e := 26) (vs := vs) (h.ea.more fun _ h => ⟨h.1, h.2.1⟩) ?_ fun g hg => World.ownsRow.lt h.nx g hg
    rw [hl]; exact h.nx
  have hW : Below w.heap.size wo ((((wo.setCell ⟨w.heap.size, 0, none⟩ (.int .i64 (k : Int))).setCell ⟨w.heap.size, 1, none⟩ (.int .i64 (st : Int))).setCell ⟨w.heap.size, 2, none⟩ vF).setCell ⟨w.heap.size, 3, none⟩ vN) :=
    ((((Below.refl _ _).setCell (p := ⟨w.heap.size, 0, none⟩) (Nat.le_refl _) _).setCell (p := ⟨w.heap.size, 1, none⟩) (Nat.le_refl _) _).setCell (p := ⟨w.heap.size, 2, none⟩) (Nat.le_refl _) _).setCell (p := ⟨w.heap.size, 3, none⟩) (Nat.le_refl _) _
  refine ⟨_, ⟨k, st, F, Nx⟩, rfl, ⟨_, _, rfl, ?_, ?_⟩, hok, (h.src.keepB hW hlt).more hM, h.but.up hW (Nat.le_refl _)⟩
  · exact ((((hF1.keep (Keep.of_set2 (by omega) _)).keep (Keep.of_set2 (by omega) _)).keep (Keep.of_set2 (by omega) _)).keep (Keep.of_set2 (by omega) _)).more fun g hg => ⟨by omega, by simp [World.setCell]; exact hg.2⟩
  · exact ((((hN1.keep (Keep.of_set2 (by omega) _)).keep (Keep.of_set2 (by omega) _)).keep (Keep.of_set2 (by omega) _)).keep (Keep.of_set2 (by omega) _)).more fun g hg => ⟨by omega, by simp [World.setCell]; exact hg.2⟩
set_option maxRecDepth 100000 in
set_option maxHeartbeats 8000000 in
theorem l04Draw_any (b N : Nat) (most : Int) (w : World) (h : Src w b N) (hN : N ≤ 800000) (hm : 1 ≤ most ∧ most ≤ 24) :
    Calls Try.prog 74 #[.pointer (some ⟨b, 0, none⟩), .int .i64 most] w (AutoDPost b (N + 400) w) := by
  have hlt := h.lt
  have HS := Lib.hid h
  clear h
  go_enter Try.func74, Try.ntmps74
  go_wp2_with fail
  have ka : Below w.heap.size w (w.alloc (Obj.cells #[.int .i64 0, .int .i64 0, .slice none 0 0, .slice none 0 0] 45)) := (Below.refl _ _).alloc (Nat.le_refl _) _
  have kb : Blk (w.alloc (Obj.cells #[.int .i64 0, .int .i64 0, .slice none 0 0, .slice none 0 0] 45)) w.heap.size #[.int .i64 0, .int .i64 0, .slice none 0 0, .slice none 0 0] 45 := Blk.new _ _ _
  generalize w.alloc (Obj.cells #[.int .i64 0, .int .i64 0, .slice none 0 0, .slice none 0 0] 45) = w1 at *
  refine (pick_any b N most _ (HS.out.keep ka) (by omega)).mono ?_
  rintro r w2 ⟨x, rfl, hx, hx2, hs2, hb2⟩
  obtain ⟨S, hS⟩ : ∃ S : Nat, S = 1 + x := ⟨_, rfl⟩
  have hSI : 1 + (x : Int) = (S : Int) := by omega
  have hwS : IntKind.i64.wrap (1 + (x : Int)) = (S : Int) := by rw [IntWalk.i64_in _ (by omega)]; omega
  have hS1 : 1 ≤ S := by omega
  have hS24 : S ≤ 24 := by omega
  have HB := Lib.hid ((But.of ka).trans hb2)
  have HK := Lib.hid (kb.but hb2 (by omega))
  have HS2 := Lib.hid hs2
  have zw1 : w.heap.size < w2.heap.size := HK.out.lt
  clear hS hx hs2 hb2 ka kb
  go_wp2_with fail
  have kc := (Below.refl w2.heap.size w2).alloc (Nat.le_refl _) (Obj.cells #[.int .i64 (S : Int), .int .i64 0, .slice none 0 0, .slice none 0 0] 45)
  have H0 : AuSt w b (N + 2) (w2.alloc (Obj.cells #[.int .i64 (S : Int), .int .i64 0, .slice none 0 0, .slice none 0 0] 45)) w2.heap.size S 0 (.slice none 0 0) [] (.slice none 0 0) 0 [] [] :=
    ⟨HS2.out.keep kc, HB.out.trans (But.of kc), HK.out.up kc, zw1, Blk.new _ _ _, World.ownsRow_nil _ _ _ _, World.ownsRow_nil _ _ _ _, Each.nil⟩
  obtain ⟨P, hP⟩ : ∃ P, w2.heap.size = P := ⟨_, rfl⟩
  rw [hP] at H0 zw1
  rw [hP]
  have H0h := Lib.hid H0
  clear kc H0 hP HS2 HK HB hx2 hwS
  refine (pick_any b (N + 2) S _ H0h.out.src (by omega)).mono ?_
  rintro r w3 ⟨st, rfl, hst, _, hs3, hb3⟩
  have hst2 : st < S := by omega
  have H3 := Lib.hid (H0h.out.pick hb3 hs3 hlt)
  obtain ⟨c0, c1, c2, c3, zP, fP⟩ := H3.out.cells
  have H4 := Lib.hid (H3.out.setStart hlt (st : Int))
  clear H0h hs3 hb3 hst hSI
  go_wp2_with fail
  clear c0 c1 c2 c3 zP fP H3
  generalize w3.setCell ⟨P, 1, none⟩ (.int .i64 (st : Int)) = w4 at *
  go_loopw [6] (fun i wx => ∃ (k : Nat) (vF vN : Value) (F : List Int) (vs : List Value) (Nx : List (List Int)), k ≤ S ∧ i = .int .i64 k ∧ AuSt w b (N + 4 + 10 * k) wx P S st vF F vN k vs Nx ∧ FinR k F ∧ F.length ≤ k ∧ NxtR S Nx ∧ Nx.length = k) (fun i _ => S - (intOf i).toNat)
  case atStart => exact ⟨0, _, _, [], [], [], Nat.zero_le _, rfl, H4.out, FinR.nil _, Nat.le_refl _, NxtR.nil _, rfl⟩
  case round =>
    obtain ⟨k, vF, vN, F, vs, Nx, hk, rfl, hA, hF, hFl, hNx, hNl⟩ := hrel
    have HA := Lib.hid hA
    have HF := Lib.hid hF
    have HNx := Lib.hid hNx
    obtain ⟨wo, rfl⟩ : ∃ wo : World, wo = wr := ⟨_, rfl⟩
    obtain ⟨c0, c1, c2, c3, zP, fP⟩ := hA.cells
    have HNl := Lib.hid hNl
    clear hA hF hNx hNl
    by_cases hks : k < S
    · have hks2 : (k : Int) < (S : Int) := by omega
      clear c1 c2 c3
      go_wp2_with fail
      have ka := (Below.refl wo.heap.size wo).alloc (Nat.le_refl _) (Obj.cells #[] 2)
      go_loopw [7, 8] (fun row i wi => ∃ (d : Nat) (L : List Int), d ≤ 4 ∧ i = .int .i64 d ∧ Src wi b (N + 4 + 10 * k + 2 * d) ∧ But b wo wi ∧ OwnInts wi wo.heap.size row L ∧ L.length = d ∧ (∀ e, e < d → 0 ≤ L.getD e 0 ∧ L.getD e 0 < S) ∧ wo.heap.size ≤ wi.heap.size) (fun _ i _ => 4 - (intOf i).toNat)
      case atStart => exact ⟨0, [], by omega, rfl, HA.out.src.keep ka, But.of ka, OwnInts.empty rfl (Nat.le_refl _), rfl, fun e he => absurd he (by omega), by simp⟩
      case round =>
        obtain ⟨d, L, hd, rfl, hsr, hbt, hrow, hLl, hLb, hzo⟩ := hrel
        have HSr := Lib.hid hsr
        have HBt := Lib.hid hbt
        have HLl := Lib.hid hLl
        have HLb := Lib.hid hLb
        have hbo : b < wo.heap.size := HA.out.src.lt
        have e0 := (hbt.cell (p := ⟨P, 0, none⟩) zP (by show P ≠ b; have := HA.out.hP; omega)).trans c0
        have zP2 : P < wr.heap.size := by omega
        obtain ⟨Ar, cr, rfl, _⟩ := own_nil hrow
        have HR := Lib.hid hrow
        clear hsr hbt hLl hLb hrow ka
        by_cases hd4 : d < 4
        · have hd42 : (d : Int) < 4 := by omega
          go_wp2_with fail
          refine (pick_any b (N + 4 + 10 * k + 2 * d) S _ HSr.out (by omega)).mono ?_
          rintro r w5 ⟨y, rfl, hy, _, hs5, hb5⟩
          have hy2 : (y : Int) < S := by omega
          have HS5 := Lib.hid hs5
          have HB5 := Lib.hid (HBt.out.trans hb5)
          have HR5 : Hid (OwnInts w5 wo.heap.size (.slice Ar L.length cr) L) := own_butB HR.out hb5 hbo
          have hz5 : wo.heap.size ≤ w5.heap.size := Nat.le_trans hzo hb5.size
          have hL9 : L.length ≤ 1099511627776 := by rw [HLl.out]; omega
          clear hs5 hb5 hy
          go_wp2_with (first | (at_builtin; refine push_ints (base := wo.heap.size) (v := .slice Ar L.length cr) (l := L) (y := (y : Int)) rfl _ _ rfl rfl rfl rfl HR5.out hL9 hz5 ?_; intro v6 w6 own6 hg6 hb6))
          go_roundw
          case rel =>
            refine ⟨d + 1, L ++ [(y : Int)], by omega, by go_num, HS5.out.keepB hb6 hbo, HB5.out.up hb6 (Nat.le_refl _), own6, by rw [List.length_append, HLl.out]; rfl, fun e he => ?_, Nat.le_trans hz5 hb6.size⟩
            by_cases e9 : e < d
            · rw [List.getD_eq_getElem?_getD, List.getElem?_append_left (by rw [HLl.out]; exact e9), ← List.getD_eq_getElem?_getD]; exact HLb.out e e9
            · rw [List.getD_eq_getElem?_getD, List.getElem?_append_right (by rw [HLl.out]; omega), HLl.out, show e - d = 0 by omega]
              exact ⟨by show (0 : Int) ≤ (y : Int); omega, hy2⟩
          case measure => simp [intOf]; omega
        · have hd5 : d = 4 := by omega
          subst hd5
          have hA6 := HA.out.pick HBt.out HSr.out hlt
          have HA6 := Lib.hid hA6
          obtain ⟨e1, e2, e3, e4, _, fP2⟩ := hA6.cells
          obtain ⟨AN, cN, rfl, _⟩ := own_nil hA6.nx
          have hk9 : k ≤ 1099511627776 := by omega
          have hPz : P + 1 ≤ wr.heap.size := by omega
          have hbF : ∀ g, vF.ownBlock = some g → g < wo.heap.size := fun g hg => (World.ownsRow.lt HA.out.fin g hg).2
          have hbN : ∀ g, (Value.slice AN k cN).ownBlock = some g → g < wo.heap.size := fun g hg => (World.ownsRow.lt HA.out.nx g hg).2
          have HbF := Lib.hid hbF
          have HbN := Lib.hid hbN
          clear hA6 e1 e2 e3 hbF hbN c0 fP e0
          go_wp2_with (first | (at_builtin; refine push_sl (W := wr) (N := wr.heap.size) (base := P + 1) rfl _ _ rfl rfl rfl rfl rfl HA6.out.nx hk9 hPz ?_; intro v7 w7 own7 hg7 hv7'; have hv7 := Lib.hid hv7'; clear hv7'; obtain ⟨A7, c7, rfl, _⟩ := own_nil own7; have hbx7 := HA6.out.grN hg7; have cP7 := Blk.cell (i := 3) (v := .slice AN k cN) hbx7 rfl; have fP7 := Blk.frozen hbx7 3; have zP7 := Blk.lt hbx7))
          have HA7 := Lib.hid (HA6.out.pushN hlt HR.out (Nat.succ_le_of_lt zP) HbF.out HbN.out hg7 hv7.out own7)
          clear hbx7 cP7 fP7 zP7 hg7 hv7 own7
          generalize w7.setCell ⟨P, 3, none⟩ (.slice A7 (k + 1) c7) = w8 at *
          refine (one_any b _ 3 _ HA7.out.src (by omega)).mono ?_
          rintro r w9 ⟨t, rfl, hs9, hb9⟩
          have HA9 := Lib.hid (HA7.out.pick hb9 hs9 hlt)
          obtain ⟨e1, e2, e3, e4', zP9, fP9⟩ := HA9.out.cells
          obtain ⟨AF, cF, rfl, _⟩ := own_nil HA9.out.fin
          have hF9 : F.length ≤ 1099511627776 := by omega
          have hPz9 : P + 1 ≤ w9.heap.size := zP9
          have HNx9 : Hid (NxtR S (Nx ++ [L])) := HNx.out.push HLl.out HLb.out
          have HNl9 : Hid ((Nx ++ [L]).length = k + 1) := by rw [Hid, List.length_append, HNl.out]; rfl
          clear hs9 hb9 e1 e2 e4' HA7 fP9 e4
          cases t with
          | false =>
            go_wp2_with fail
            go_roundw
            case rel => exact ⟨k + 1, _, _, F, _, _, by omega, by go_num, HA9.out.more (M' := N + 4 + 10 * (k + 1)) (by omega), HF.out.more, by omega, HNx9.out, HNl9.out⟩
            case measure => simp [intOf]; omega
          | true =>
            go_wp2_with (first | (at_builtin; refine push_int2 (W := w9) (N := w9.heap.size) (base := P + 1) (y := (k : Int)) rfl _ _ rfl rfl rfl rfl HA9.out.fin hF9 hPz9 ?_; intro v7 w7 own7 hg7 hv7'; have hv7 := Lib.hid hv7'; clear hv7'; obtain ⟨A7, c7, rfl, _⟩ := own_nil own7; have hbx7 := HA9.out.grF hg7; have cP7 := Blk.cell (i := 2) (v := .slice AF F.length cF) hbx7 rfl; have fP7 := Blk.frozen hbx7 2; have zP7 := Blk.lt hbx7))
            have HA7 := Lib.hid (HA9.out.pushF hlt hg7 hv7.out own7)
            have hFL : (F ++ [(k : Int)]).length = F.length + 1 := by simp
            rw [hFL] at HA7
            have HFL := Lib.hid hFL
            clear hFL
            clear hbx7 cP7 fP7 zP7 hg7 hv7 own7
            go_roundw
            case rel => exact ⟨k + 1, _, _, _, _, _, by omega, by go_num, HA7.out.more (M' := N + 4 + 10 * (k + 1)) (by omega), HF.out.push, by rw [List.length_append]; show F.length + 1 ≤ k + 1; omega, HNx9.out, HNl9.out⟩
            case measure => simp [intOf]; omega
    · have hks3 : k = S := by omega
      subst hks3
      obtain ⟨c0, c1, c2, c3, _, _⟩ := HA.out.cells
      have cb0 := Blk.cell (i := 0) (v := .int .i64 0) HA.out.b0 rfl
      have cb1 := Blk.cell (i := 1) (v := .int .i64 0) HA.out.b0 rfl
      have cb2 := Blk.cell (i := 2) (v := .slice none 0 0) HA.out.b0 rfl
      have cb3 := Blk.cell (i := 3) (v := .slice none 0 0) HA.out.b0 rfl
      have fb := Blk.frozen HA.out.b0
      have zb := Blk.lt HA.out.b0
      obtain ⟨AF, cF, rfl, _⟩ := own_nil HA.out.fin
      obtain ⟨AN, cN, rfl, _⟩ := own_nil HA.out.nx
      have hok := auto_made hS1 hS24 hst2 HF.out HNx.out HNl.out
      have Hok := Lib.hid hok
      clear hok fP
      go_wp2_with fail
      refine bodyPost_ret (v := .agg #[.int .i64 (k : Int), .int .i64 (st : Int), .slice AF F.length cF, .slice AN k cN]) (by simp [results, Try.results74, go_sem, cb0, cb1, cb2, cb3]) rfl ?_
      exact HA.out.done HNl.out hlt Hok.out (by omega)
def inB (n a b : Int) : Bool := decide (a ≤ n) && decide (n ≤ b)
theorem l00InY (n a b : Int) (r : Bool) (w : World) (h : inB n a b = r) : Calls Try.prog 63 #[.int .i64 n, .int .i64 a, .int .i64 b] w fun e w' => e = .returned (.bool r) ∧ w = w' :=
  (l00In_any n a b w).mono fun _ _ ⟨he, hw⟩ => ⟨by rw [he, ← h]; rfl, hw⟩
def powOut (xs : List GRule) (t : Int) : List GRule := if gramOk xs && inB t 0 1000000000000000 then limOut (powG xs t.toNat) else []
def powCode (xs : List GRule) (t : Int) : Int := if gramOk xs then if inB t 0 1000000000000000 then limCode (powG xs t.toNat) else 2 else 1
theorem binL_lo (n : Nat) : 0 < n → ∀ d, d < (binL n).length → 0 < n / 2 ^ d := by
  induction n using Nat.strongRecOn with
  | ind n ih =>
    intro hn d hd
    by_cases c : n < 2
    · rw [binL_lt c] at hd
      have : d = 0 := by simpa using hd
      subst this; simpa using hn
    · rw [binL_ge c, List.length_append] at hd
      cases d with
      | zero => simpa using hn
      | succ d =>
        have := ih (n / 2) (by omega) (by omega) d (by simp at hd; omega)
        rw [Nat.pow_succ, Nat.mul_comm, ← Nat.div_div_eq_div_mul]
        exact this
theorem binL_hi (n : Nat) : n / 2 ^ (binL n).length = 0 := by
  induction n using Nat.strongRecOn with
  | ind n ih =>
    by_cases c : n < 2
    · rw [binL_lt c]
      have : n / 2 = 0 := by omega
      simpa using this
    · rw [binL_ge c, List.length_append]
      have := ih (n / 2) (by omega)
      show n / 2 ^ ((binL (n / 2)).length + 1) = 0
      rw [Nat.pow_succ, Nat.mul_comm, ← Nat.div_div_eq_div_mul]
      exact this
theorem binL_get (n : Nat) : ∀ j, j < (binL n).length → (binL n)[(binL n).length - 1 - j]? = some (UInt8.ofNat (48 + n / 2 ^ j % 2)) := by
  induction n using Nat.strongRecOn with
  | ind n ih =>
    intro j hj
    by_cases c : n < 2
    · rw [binL_lt c] at hj ⊢
      have : j = 0 := by simpa using hj
      subst this
      have : n % 2 = n := by omega
      simp [this]
    · rw [binL_ge c] at hj ⊢
      rw [List.length_append] at hj ⊢
      cases j with
      | zero => simp
      | succ j =>
        have h1 := ih (n / 2) (by omega) j (by simp at hj; omega)
        have e : (binL (n / 2)).length + [UInt8.ofNat (48 + n % 2)].length - 1 - (j + 1) = (binL (n / 2)).length - 1 - j := by simp; omega
        rw [e, List.getElem?_append_left (by simp at hj; omega), h1, Nat.pow_succ, Nat.mul_comm, ← Nat.div_div_eq_div_mul]
theorem and_oneI (i : Nat) (hi : i < 9223372036854775808) : bits BinOp.and IntKind.i64 (i : Int) 1 = ((i % 2 : Nat) : Int) := by
  have e63 : (2 : Int) ^ 63 = 9223372036854775808 := by decide
  have h := bits_mask .i64 63 (by decide) (fun n h0 h1 => by rw [e63] at h1; rw [IntKind.wrap_i64]; omega) 1 (by decide) (i : Int) (by omega) (by rw [e63]; omega)
  have e : ((2 : Int) ^ 1 - 1) = 1 := by decide
  rw [e] at h
  rw [h]
  omega
theorem shr_nat (n d : Nat) : ((n : Int) / 2 ^ d) = ((n / 2 ^ d : Nat) : Int) := by
  rw [Int.natCast_ediv]; simp
theorem powStep_small {root : Int} {L : List GRule} {d : UInt8} (h : SmallL L) : SmallL (powStep root L d) := by
  unfold powStep
  split <;> intro r hr <;> simp at hr
  · rcases hr with hr | rfl | rfl
    · exact h r hr
    · exact (by decide : (0 : Nat) ≤ 9223372036854775807)
    · exact (by decide : (0 : Nat) ≤ 9223372036854775807)
  · rcases hr with hr | rfl
    · exact h r hr
    · exact (by decide : (0 : Nat) ≤ 9223372036854775807)
theorem powFold_small {root : Int} : ∀ (ds : List UInt8) {L : List GRule}, SmallL L → SmallL (ds.foldl (powStep root) L)
  | [], _, h => h
  | d :: ds, _, h => powFold_small ds (powStep_small (d := d) h)
theorem powG_small {xs : List GRule} (n : Nat) (h : SmallL xs) : SmallL (powG xs n) := by
  unfold powG
  split
  · intro r hr; simp at hr
  · exact powFold_small _ h
set_option maxRecDepth 100000 in
set_option maxHeartbeats 4000000 in
theorem specPower_any (v : Value) (xs : List GRule) (t : Int) (w : World) (h : Sl RuleE w w.heap.size v xs) (hn : xs.length ≤ 1048576) (hs : SmallL xs) :
    Calls Try.prog 115 #[.agg #[v], .int .i64 t] w (GRes (powOut xs t) (powCode xs t) w) := by
  have h1 := fun o o' => (h.below (((Below.refl w.heap.size w).alloc (Nat.le_refl _) o).alloc (by simp) o')).le (B' := ((w.alloc o).alloc o').heap.size) (by simp; omega)
  have H1 := Lib.hid h1
  have Hs := Lib.hid hs
  clear h1 hs
  obtain ⟨A, c, rfl, hc, hm, hrow⟩ := h
  clear hm hrow
  go_enter Try.func115, Try.ntmps115
  go_wp2_with fail
  refine (l02Ok_any _ _ _ _ _ (by simp [go_sem]) (by first | omega | (simp; done) | (simp; omega)) (H1.out _ _) Hs.out).mono ?_
  rintro e w1 ⟨rfl, hb1⟩
  obtain ⟨hc1, hf1⟩ := bcell hb1
  have hz1 : w.heap.size + 1 < w1.heap.size := by have := hb1.size; simp at this; omega
  have a1 : w1.cell? ⟨w.heap.size, 0, none⟩ = some (.slice A xs.length c) := by rw [hc1 _ _ (by first | omega | (simp; done) | (simp; omega))]; simp [go_sem]
  have c1 : w1.cell? ⟨w.heap.size + 1, 0, none⟩ = some (.slice none 0 0) := by rw [hc1 _ _ (by first | omega | (simp; done) | (simp; omega))]; simp [go_sem]
  have f1 : w1.frozen? ⟨w.heap.size + 1, 0, none⟩ = false := by rw [hf1 _ _ (by first | omega | (simp; done) | (simp; omega))]; simp [go_sem]
  have S1 := Lib.hid ((H1.out (Obj.cells #[Value.slice A xs.length c] 31) (Obj.cells #[Value.slice none 0 0] 31)).up hb1)
  have B1 := Lib.hid (((Below.refl w.heap.size w).alloc (Nat.le_refl _) (Obj.cells #[Value.slice A xs.length c] 31)).alloc (by simp) (Obj.cells #[Value.slice none 0 0] 31) |>.trans (hb1.mono (by simp; omega)))
  clear hc1 hf1 hb1
  by_cases hok : gramOk xs = true
  · have hok2 : (!gramOk xs) = false := by simp [hok]
    have Hok := Lib.hid hok
    clear hok
    go_wp2_with fail
    by_cases hin : inB t 0 1000000000000000 = true
    · have Hin := Lib.hid hin
      have ht : 0 ≤ t ∧ t ≤ 1000000000000000 := by simpa [inB] using hin
      obtain ⟨n, rfl⟩ := Int.eq_ofNat_of_zero_le ht.1
      have hn60 : n < 1152921504606846976 := by omega
      clear hin ht
      refine (l00InY _ _ _ _ _ Hin.out).mono ?_
      rintro e w' ⟨rfl, rfl⟩
      have e1 : powOut xs n = limOut (powG xs n) := by rw [powOut, Hok.out, Hin.out]; rfl
      have e2 : powCode xs n = limCode (powG xs n) := by rw [powCode, Hok.out, Hin.out]; rfl
      have E1 := Lib.hid e1
      have E2 := Lib.hid e2
      clear e1 e2
      by_cases h0 : n = 0 ∨ xs.length = 0
      · have hg : powG xs n = [] := by rw [powG, if_pos h0]
        have hlo : limOut (powG xs n) = [] := by rw [hg]; rfl
        have hlc : limCode (powG xs n) = 0 := by rw [hg]; rfl
        have Hg := Lib.hid hg
        have Ho := Lib.hid hlo
        have Hc := Lib.hid hlc
        clear hg hlo hlc
        by_cases hz : n = 0
        · subst hz
          clear h0
          go_wp2_with fail
          have e3 : powOut xs 0 = [] := by
            have e : powOut xs ((0 : Nat) : Int) = [] := by rw [E1.out, Ho.out]
            exact e
          have e4 : powCode xs 0 = 0 := by
            have e : powCode xs ((0 : Nat) : Int) = 0 := by rw [E2.out, Hc.out]
            exact e
          refine bodyPost_ret (v := .tuple #[.agg #[.slice none 0 0], .int .i64 0]) (by simp [results, Try.results115, go_sem, c1]) rfl ⟨?_, .slice none 0 0, ?_, by simp [e4]⟩
          · exact B1.out.setCell (by show w.heap.size ≤ w.heap.size + 1; omega) _
          · simp [e3]; exact World.ownsRow_nil _ _ _ _
        · have hx : xs.length = 0 := by omega
          have g0 : ((n : Int) == 0) = false := by rw [beq_eq_false_iff_ne]; omega
          have g1 : ((xs.length : Int) == 0) = true := by simp [hx]
          clear h0 hx
          go_wp2_with fail
          refine bodyPost_ret (v := .tuple #[.agg #[.slice none 0 0], .int .i64 0]) (by simp [results, Try.results115, go_sem, c1]) rfl ⟨?_, _, ?_, by rw [E2.out, Hc.out]⟩
          · exact B1.out.setCell (by show w.heap.size ≤ w.heap.size + 1; omega) _
          · rw [E1.out, Ho.out]; exact World.ownsRow_nil _ _ _ _
      · have hg : powG xs n = (binL n).tail.foldl (powStep ((xs.length : Int) - 1)) xs := by rw [powG, if_neg h0]
        have Hg := Lib.hid hg
        have g0 : ((n : Int) == 0) = false := by rw [beq_eq_false_iff_ne]; omega
        have g1 : ((xs.length : Int) == 0) = false := by rw [beq_eq_false_iff_ne]; omega
        have hwx : IntKind.i64.wrap ((xs.length : Int) - 1) = (xs.length : Int) - 1 := IntWalk.i64_in _ (by omega)
        have hn0 : 0 < n := by omega
        have hhi := binL_hi n
        have hlo := binL_lo n hn0
        have hpos := binL_pos n
        have hxt := binL_len n 60 hn60 (by omega)
        have hget := binL_get n
        obtain ⟨BL, hBL⟩ : ∃ BL, binL n = BL := ⟨_, rfl⟩
        rw [hBL] at hhi hlo hpos hxt hget
        have HBL := Lib.hid hBL
        have Hhi := Lib.hid hhi
        have Hlo := Lib.hid hlo
        have Hget := Lib.hid hget
        clear hg hBL hhi hlo hget h0
        go_wp2_with fail
        refine (l02Own_any _ _ _ _ _ a1 (by omega) S1.out (by omega)).mono ?_
        rintro e w3 ⟨v3, rfl, own3, hb3⟩
        obtain ⟨A3, k3, rfl, _⟩ := own_nil own3
        have z3 : w1.heap.size ≤ w3.heap.size := hb3.size
        have hz3 : w.heap.size + 1 < w3.heap.size := by omega
        have a3 := cell_up a1 hb3 (by omega)
        have c3 := cell_up c1 hb3 (by omega)
        have f3 : w3.frozen? ⟨w.heap.size + 1, 0, none⟩ = false := by rw [hb3.frozen hz1, f1]
        have B3 := Lib.hid (B1.out.trans (hb3.mono (by omega)))
        have O3 := Lib.hid own3
        have y3 : w.heap.size < w3.heap.size := by omega
        clear a1 c1 f1 hb3 own3
        go_wp2_with fail
        go_loopw [8] (fun q wr => ∃ d : Nat, q = .int .i64 d ∧ d ≤ BL.length ∧ wr = w3.alloc (Obj.cells #[Value.slice A3 xs.length k3] 31)) (fun q _ => BL.length - (intOf q).toNat)
        case atStart => exact ⟨0, rfl, Nat.zero_le _, rfl⟩
        case round =>
          obtain ⟨d, rfl, hd, rfl⟩ := hrel
          by_cases hdl : d < BL.length
          · have hsh : (0 : Int) < (n : Int) / 2 ^ d := by rw [shr_nat]; have := Hlo.out d hdl; omega
            have hd60 : d < 64 := by omega
            go_wp2_with fail
            exact ⟨⟨d + 1, rfl, hdl, trivial⟩, by simp [intOf]; omega⟩
          · have hdn : d = BL.length := by omega
            subst hdn
            have hsh : ¬ ((0 : Int) < (n : Int) / 2 ^ BL.length) := by rw [shr_nat, Hhi.out]; decide
            obtain ⟨K, hK⟩ : ∃ K, w3.heap.size = K := ⟨_, rfl⟩
            have bx4 : Boxed (w3.alloc (Obj.cells #[Value.slice A3 xs.length k3] 31)) K 31 (.slice A3 xs.length k3) := by rw [← hK]; exact Boxed.new _ _ _
            have own4 : OwnRules (w3.alloc (Obj.cells #[Value.slice A3 xs.length k3] 31)) w1.heap.size (.slice A3 xs.length k3) xs := O3.out.alloc _
            have b4 : Below w1.heap.size (w3.alloc (Obj.cells #[Value.slice A3 xs.length k3] 31)) (w3.alloc (Obj.cells #[Value.slice A3 xs.length k3] 31)) := Below.refl _ _
            have B4 := Lib.hid (B3.out.alloc (by omega) (Obj.cells #[Value.slice A3 xs.length k3] 31))
            have y4 : w.heap.size + 1 < (w3.alloc (Obj.cells #[Value.slice A3 xs.length k3] 31)).heap.size := by simp; omega
            have c4 : (w3.alloc (Obj.cells #[Value.slice A3 xs.length k3] 31)).cell? ⟨w.heap.size + 1, 0, none⟩ = some (.slice none 0 0) := by simp [go_sem, c3, hz3]
            have f4 : (w3.alloc (Obj.cells #[Value.slice A3 xs.length k3] 31)).frozen? ⟨w.heap.size + 1, 0, none⟩ = false := by simp [go_sem, f3, hz3]
            have hK1 : w1.heap.size ≤ K := by omega
            rw [hK]
            revert bx4 own4 b4 B4 y4 c4 f4
            generalize w3.alloc (Obj.cells #[Value.slice A3 xs.length k3] 31) = w4
            intro bx4 own4 b4 B4 y4 c4 f4
            clear a3 c3 f3 y3 hK hdl hd
            have h60 : BL.length ≤ 60 := hxt
            have hbl : BL.tail.length = BL.length - 1 := by simp
            go_wp2_with fail
            go_loopw [9, 10] (fun q u wr => ∃ (k : Nat) (vo : Value), q = .int .i64 ((BL.length : Int) - 2 - k) ∧ k ≤ BL.length - 1 ∧ Boxed wr K 31 vo ∧ OwnRules wr w1.heap.size vo ((BL.tail.take k).foldl (powStep ((xs.length : Int) - 1)) xs) ∧ Below w1.heap.size w4 wr) (fun q _ _ => (intOf q + 1).toNat)
            case atStart => exact ⟨0, _, by simp, Nat.zero_le _, bx4, by simpa using own4, b4⟩
            case round =>
              obtain ⟨k, vo, rfl, hk, hbox, hown, hb⟩ := hrel
              have Hb := Lib.hid hb
              have Hown := Lib.hid hown
              have Hbox := Lib.hid hbox
              have hll := powFold_len ((xs.length : Int) - 1) (BL.tail.take k) xs
              obtain ⟨L, hL⟩ : ∃ L, (BL.tail.take k).foldl (powStep ((xs.length : Int) - 1)) xs = L := ⟨_, rfl⟩
              have HL := Lib.hid hL
              have hlen : L.length ≤ 2000000 := by rw [← hL]; simp at hll; omega
              rw [hL] at Hown
              clear hb hown hbox hll hL
              by_cases hlt : k < BL.length - 1
              · obtain ⟨j, hj⟩ : ∃ j : Nat, (BL.length : Int) - 2 - k = j := ⟨BL.length - 2 - k, by omega⟩
                have hjl : j < BL.length := by omega
                have hgt := Hget.out j hjl
                have hgt' : BL.tail[k]? = some (UInt8.ofNat (48 + n / 2 ^ j % 2)) := by
                  rw [← hgt, List.getElem?_tail]; congr 1; omega
                have Hgt := Lib.hid hgt'
                have hand : bits BinOp.and IntKind.i64 ((n : Int) / 2 ^ j) 1 = ((n / 2 ^ j % 2 : Nat) : Int) := by
                  rw [shr_nat]; exact and_oneI _ (Nat.lt_of_le_of_lt (Nat.div_le_self _ _) (by omega))
                obtain ⟨D, hD⟩ : ∃ D, n / 2 ^ j % 2 = D := ⟨_, rfl⟩
                have hD2 : D = 0 ∨ D = 1 := by omega
                rw [hD] at hand Hgt
                obtain ⟨Ao, co, rfl, _⟩ := own_nil Hown.out
                have bxc := Hbox.out.cell
                have bxf := Hbox.out.frozen
                have hw1 : IntKind.i64.wrap ((L.length : Int) - 1) = (L.length : Int) - 1 := IntWalk.i64_in _ (by omega)
                have hw2 : IntKind.i64.wrap ((j : Int) - 1) = (j : Int) - 1 := IntWalk.i64_in _ (by omega)
                have Hll : Hid (L.length ≤ 1099511627775) := by rw [Hid]; omega
                have Hw4 := Lib.hid (show w1.heap.size ≤ w4.heap.size by have := bx4.lt; omega)
                have Hw0 := Lib.hid (show w1.heap.size ≤ wr.heap.size from Nat.le_trans (by have := bx4.lt; omega) Hb.out.size)
                have Hlen := Lib.hid hlen
                rw [hj]
                have Hj := Lib.hid hj
                have Hlt := Lib.hid hlt
                have hj60 : j < 64 := by omega
                clear hgt hgt' hD hlt hk hj
                have Hstep : Hid ((BL.tail.take (k + 1)).foldl (powStep ((xs.length : Int) - 1)) xs = powStep ((xs.length : Int) - 1) L (UInt8.ofNat (48 + D))) := by
                  rw [Hid, List.take_add_one, Hgt.out, List.foldl_append, HL.out]; rfl
                obtain ⟨M, hM⟩ : ∃ M, L ++ [pairR ((L.length : Int) - 1) ((L.length : Int) - 1)] = M := ⟨_, rfl⟩
                have hMl : M.length = L.length + 1 := by rw [← hM]; simp
                have HM := Lib.hid hM
                have HMl := Lib.hid hMl
                have Hml : Hid (M.length ≤ 1099511627775) := by rw [Hid]; have := Hlen.out; omega
                have HN := fun q : Int × Int => Lib.hid (show (M ++ [pairR q.1 q.2]).length = M.length + 1 by simp)
                have e0 : powStep ((xs.length : Int) - 1) L (UInt8.ofNat (48 + 0)) = M := by rw [← hM]; simp [powStep]
                have e1 : powStep ((xs.length : Int) - 1) L (UInt8.ofNat (48 + 1)) = M ++ [pairR (L.length : Int) ((xs.length : Int) - 1)] := by rw [← hM]; simp [powStep]
                have E3 := Lib.hid e0
                have E4 := Lib.hid e1
                have hm0 : (((j : Int) - 1) + 1).toNat < ((j : Int) + 1).toNat := by omega
                have Hm0 := Lib.hid hm0
                clear hM hMl e0 e1 hm0
                rcases hD2 with rfl | rfl
                · go_wp2_with (first
                    | (at_builtin; refine list_push_rule (base := w1.heap.size) (v := .slice Ao L.length co) rfl _ _ rfl (by rfl) (by rfl) rfl Hown.out Hll.out Hw0.out ?_; intro v5 w5 own5 hg5 hb5; go_loud (have bx5 : Boxed w5 K 31 _ := Boxed.grown Hbox.out (by decide) Hown.out hg5; obtain ⟨A5, c5, rfl, _⟩ := own_nil own5; have hcb5 := bx5.cell; have hfb5 := bx5.frozen; have hl5 := bx5.lt; have own6 := Lib.hid (own_put bx5 own5 HM.out HMl.out); have B6 : Hid (Below w1.heap.size w4 (w5.setCell ⟨K, 0, none⟩ (.slice A5 (L.length + 1) c5))) := ((Hb.out.alloc Hw0.out _).trans hb5).setCell hK1 _; have X6 : Hid (Boxed (w5.setCell ⟨K, 0, none⟩ (.slice A5 (L.length + 1) c5)) K 31 (.slice A5 (L.length + 1) c5)) := Boxed.set _ bx5; clear own5 hg5 hb5)))
                  refine ⟨⟨k + 1, _, by congr 1; have := Hj.out; omega, by have := Hlt.out; omega, X6.out, ?_, B6.out⟩, by simp only [intOf]; exact Hm0.out⟩
                  rw [Hstep.out, E3.out]; exact own6.out
                · go_wp2_with (first
                    | (at_builtin; refine list_push_rule (base := w1.heap.size) (v := .slice Ao L.length co) rfl _ _ rfl (by rfl) (by rfl) rfl Hown.out Hll.out Hw0.out ?_; intro v5 w5 own5 hg5 hb5; go_loud (have bx5 : Boxed w5 K 31 _ := Boxed.grown Hbox.out (by decide) Hown.out hg5; obtain ⟨A5, c5, rfl, _⟩ := own_nil own5; have hcb5 := bx5.cell; have hfb5 := bx5.frozen; have hl5 := bx5.lt; have own6 := Lib.hid (own_put bx5 own5 HM.out HMl.out); have B6 : Hid (Below w1.heap.size w4 (w5.setCell ⟨K, 0, none⟩ (.slice A5 (L.length + 1) c5))) := ((Hb.out.alloc Hw0.out _).trans hb5).setCell hK1 _; have X6 : Hid (Boxed (w5.setCell ⟨K, 0, none⟩ (.slice A5 (L.length + 1) c5)) K 31 (.slice A5 (L.length + 1) c5)) := Boxed.set _ bx5; clear own5 hg5 hb5))
                    | (at_builtin; go_loud (refine list_push_rule (base := w1.heap.size) (v := .slice A5 (L.length + 1) c5) rfl _ _ rfl (by rfl) (by rfl) (by simp) own6.out Hml.out (Nat.le_trans Hw4.out B6.out.size) ?_); intro v7 w7 own7 hg7 hb7; have bx7 : Boxed w7 K 31 _ := Boxed.grown X6.out (by decide) own6.out hg7; obtain ⟨A7, c7, rfl, _⟩ := own_nil own7; have hcb7 := bx7.cell; have hfb7 := bx7.frozen; have hl7 := bx7.lt; go_loud (have own8 := Lib.hid (own_put bx7 own7 rfl (HN (L.length, (xs.length : Int) - 1)).out); have B8 : Hid (Below w1.heap.size w4 (w7.setCell ⟨K, 0, none⟩ (.slice A7 (M.length + 1) c7))) := ((B6.out.alloc (Nat.le_trans Hw4.out B6.out.size) _).trans hb7).setCell hK1 _; have X8 : Hid (Boxed (w7.setCell ⟨K, 0, none⟩ (.slice A7 (M.length + 1) c7)) K 31 (.slice A7 (M.length + 1) c7)) := Boxed.set _ bx7; clear own7 hg7 hb7)))
                  refine ⟨⟨k + 1, _, by congr 1; have := Hj.out; omega, by have := Hlt.out; omega, X8.out, ?_, B8.out⟩, by simp only [intOf]; exact Hm0.out⟩
                  rw [Hstep.out, E4.out]; exact own8.out
              · have hkn : k = BL.length - 1 := by omega
                subst hkn
                have hneg : ¬ ((0 : Int) ≤ (BL.length : Int) - 2 - ((BL.length - 1 : Nat) : Int)) := by omega
                have hL' : powG xs n = L := by rw [Hg.out, HBL.out, ← HL.out, ← hbl, List.take_length]
                have HL' := Lib.hid hL'
                have z1 : w1.heap.size ≤ wr.heap.size := Nat.le_trans (by have := bx4.lt; omega) Hb.out.size
                obtain ⟨Ao, co, rfl, _⟩ := own_nil Hown.out
                have bxc := Hbox.out.cell
                have hlr := Hbox.out.lt
                have c9 : wr.cell? ⟨w.heap.size + 1, 0, none⟩ = some (.slice none 0 0) := (Hb.out.cell (p := ⟨w.heap.size + 1, 0, none⟩) (by show w.heap.size + 1 < w1.heap.size; omega)).trans c4
                have f9 : wr.frozen? ⟨w.heap.size + 1, 0, none⟩ = false := (Hb.out.frozen (p := ⟨w.heap.size + 1, 0, none⟩) (by show w.heap.size + 1 < w1.heap.size; omega)).trans f4
                have hz9 : w.heap.size + 1 < wr.heap.size := by omega
                have B9 := Lib.hid (B4.out.trans (Hb.out.mono (by omega)))
                clear hL' hlt hk hlen
                go_wp2_with fail
                refine (l02Told_any _ _ _ _ Hown.out (by rw [← HL'.out]; exact powG_small n Hs.out)).mono ?_
                rintro e w10 ⟨hb10, v10, own10, rfl⟩
                obtain ⟨A10, k10, rfl, _⟩ := own_nil own10
                have c10 := cell_up c9 hb10 (by omega)
                have f10 : w10.frozen? ⟨w.heap.size + 1, 0, none⟩ = false := by rw [hb10.frozen hz9, f9]
                have B10 := Lib.hid (B9.out.trans (hb10.mono (by omega)))
                have O10 := Lib.hid own10
                clear c9 f9 hb10 own10
                go_wp2
                refine bodyPost_ret (v := .tuple #[.agg #[.slice A10 (limOut L).length k10], .int .i64 (limCode L)]) (by simp [results, Try.results115, go_sem, c10]) rfl ⟨?_, _, ?_, by rw [E2.out, HL'.out]⟩
                · exact B10.out.setCell (by show w.heap.size ≤ w.heap.size + 1; omega) _
                · rw [E1.out, HL'.out]
                  exact ownsRow_more (ownsRow_setCell_below O10.out (a := ⟨w.heap.size + 1, 0, none⟩) (by show w.heap.size + 1 < w1.heap.size; omega) _) (by omega)
    · have hin' : inB t 0 1000000000000000 = false := by simpa using hin
      have Hin := Lib.hid hin'
      clear hin hin'
      refine (l00InY _ _ _ _ _ Hin.out).mono ?_
      rintro e w' ⟨rfl, rfl⟩
      go_wp2
      refine bodyPost_ret (v := .tuple #[.agg #[.slice none 0 0], .int .i64 2]) (by simp [results, Try.results115, go_sem, c1]) rfl ⟨?_, _, ?_, by rw [powCode, if_pos Hok.out, if_neg (by rw [Hin.out]; decide)]⟩
      · exact B1.out.setCell (by show w.heap.size ≤ w.heap.size + 1; omega) _
      · rw [powOut, if_neg (by simp [Hin.out])]; exact World.ownsRow_nil _ _ _ _
  · have hok2 : (!gramOk xs) = true := by simp [hok]
    have Hok := Lib.hid hok
    clear hok
    go_wp2
    refine bodyPost_ret (v := .tuple #[.agg #[.slice none 0 0], .int .i64 1]) (by simp [results, Try.results115, go_sem, c1]) rfl ⟨?_, _, ?_, by rw [powCode, if_neg (by simp [Hok.out])]⟩
    · exact B1.out.setCell (by show w.heap.size ≤ w.heap.size + 1; omega) _
    · rw [powOut, if_neg (by simp [Hok.out])]; exact World.ownsRow_nil _ _ _ _
theorem Src.alloc {w : World} {b N : Nat} (h : Src w b N) (o : Obj) : Src (w.alloc o) b N := h.keep ((Below.refl _ _).alloc (Nat.le_refl _) o)
theorem Src.drew {w : World} {b N : Nat} (h : Src w b N) : Src w.drew b N := h.keep (Below.drew (Below.refl _ _))
theorem hugLim_ok (xs : List GRule) : gramOk (limOut xs) = true := by
  unfold limOut
  split
  · assumption
  · decide
theorem hugPow_ok (xs : List GRule) (t : Int) : gramOk (powOut xs t) = true := by
  unfold powOut
  split
  · exact hugLim_ok _
  · decide
theorem hugJoin_ok (xs ys : List GRule) : gramOk (joinOut xs ys) = true := by
  unfold joinOut
  split
  · exact hugLim_ok _
  · decide
theorem gram_small1 {xs : List GRule} (h : gramOk xs = true) : SmallL xs := by
  obtain ⟨_, ls, hl⟩ := gram_lens h
  intro r hr
  obtain ⟨k, hk⟩ := List.mem_iff_getElem?.1 hr
  have h1 := (lens_steps hl k r hk).1
  unfold okRule at h1
  by_cases hp : r.pair = true
  · have : r.letter.size = 0 := by simpa [GRule.pair] using hp
    omega
  · rw [if_neg hp] at h1
    simp only [Bool.and_eq_true] at h1
    have := isLet_size h1.1.1; omega
structure HuSt (w : World) (b M : Nat) (wx : World) (B : Nat) (v : Value) (xs : List GRule) : Prop where
  src : Src wx b M
  but : But b w wx
  b0 : Boxed wx w.heap.size 31 (.slice none 0 0)
  hB : w.heap.size < B
  b3 : Boxed wx B 31 v
  sl : SlS RuleE wx (fun k => w.heap.size < k ∧ k < wx.heap.size) v xs
  ok : gramOk xs = true
section
variable {w wx w' : World} {b M M' B : Nat} {v : Value} {xs : List GRule}
theorem HuSt.pick (h : HuSt w b M wx B v xs) (hb : But b wx w') (hs : Src w' b M') (hlt : b < w.heap.size) : HuSt w b M' w' B v xs :=
  have hB := h.hB
  ⟨hs, h.but.trans hb, Boxed.but h.b0 hb (by omega), h.hB, Boxed.but h.b3 hb (by omega), (h.sl.keep fun k hk => hb.block k hk.2 (by omega)).more fun _ hk => ⟨hk.1, Nat.lt_of_lt_of_le hk.2 hb.size⟩, h.ok⟩
theorem HuSt.up (h : HuSt w b M wx B v xs) (hb : Below wx.heap.size wx w') : HuSt w b M w' B v xs :=
  ⟨h.src.keep hb, h.but.trans (But.of hb), Boxed.up h.b0 hb (Array.getElem?_eq_some_iff.1 h.b0).1, h.hB, Boxed.up h.b3 hb (Array.getElem?_eq_some_iff.1 h.b3).1, (h.sl.keep fun k hk => hb.block k hk.2).more fun _ hk => ⟨hk.1, Nat.lt_of_lt_of_le hk.2 hb.size⟩, h.ok⟩
theorem HuSt.alloc (h : HuSt w b M wx B v xs) (o : Obj) : HuSt w b M (wx.alloc o) B v xs := h.up ((Below.refl _ _).alloc (Nat.le_refl _) o)
theorem HuSt.drew (h : HuSt w b M wx B v xs) : HuSt w b M wx.drew B v xs := h.up (Below.drew (Below.refl _ _))
theorem HuSt.slW (h : HuSt w b M wx B v xs) : Sl RuleE wx wx.heap.size v xs := h.sl.more fun _ hk => hk.2
theorem HuSt.more (h : HuSt w b M wx B v xs) (hM : M ≤ M') : HuSt w b M' wx B v xs := ⟨h.src.more hM, h.but, h.b0, h.hB, h.b3, h.sl, h.ok⟩
theorem HuSt.lt (h : HuSt w b M wx B v xs) : w.heap.size < wx.heap.size ∧ B < wx.heap.size := ⟨(Array.getElem?_eq_some_iff.1 h.b0).1, (Array.getElem?_eq_some_iff.1 h.b3).1⟩
def HugePost (b M : Nat) (w : World) (r : Ending) (w' : World) : Prop :=
  ∃ v xs, r = .returned (.agg #[v]) ∧ SlS RuleE w' (fun k => w.heap.size < k ∧ k < w'.heap.size) v xs ∧ gramOk xs = true ∧ Src w' b M ∧ But b w w'
theorem HuSt.done (h : HuSt w b M wx B v xs) (hlt : b < w.heap.size) (hM : M ≤ M') : HugePost b M' w (.returned (.agg #[v])) (wx.setCell ⟨w.heap.size, 0, none⟩ v) := by
  have hW : Below w.heap.size wx (wx.setCell ⟨w.heap.size, 0, none⟩ v) := (Below.refl _ _).setCell (p := ⟨w.heap.size, 0, none⟩) (Nat.le_refl _) _
  exact ⟨v, xs, rfl, (h.sl.keep fun k hk => Below.heap_setCell wx ⟨w.heap.size, 0, none⟩ v k (by show k ≠ w.heap.size; omega)).more fun k hk => by simpa [World.setCell] using hk, h.ok, (h.src.keepB hW hlt).more hM, h.but.up hW (Nat.le_refl _)⟩
theorem HuSt.put {ys : List GRule} {u : Value} (h : HuSt w b M wx B v xs) (hlt : b < w.heap.size) (hu : SlS RuleE wx (fun k => w.heap.size < k ∧ k ≠ B ∧ k < wx.heap.size) u ys) (hok : gramOk ys = true) : HuSt w b M (wx.setCell ⟨B, 0, none⟩ u) B u ys := by
  have hB := h.hB
  have hW : Below w.heap.size wx (wx.setCell ⟨B, 0, none⟩ u) := (Below.refl _ _).setCell (p := ⟨B, 0, none⟩) (by show w.heap.size ≤ B; omega) _
  refine ⟨h.src.keepB hW hlt, h.but.up hW (Nat.le_refl _), boxed_other h.b0 (by omega) _, hB, Boxed.set _ h.b3, ?_, hok⟩
  exact (hu.keep fun k hk => Below.heap_setCell wx ⟨B, 0, none⟩ u k (by show k ≠ B; omega)).more fun k hk => ⟨by omega, by simpa [World.setCell] using hk.2.2⟩
end
def HuEnd (w : World) (b M B : Nat) (v : Value) (xs : List GRule) (p q : Value) (wx : World) : Prop := ∃ (B4 : Nat) (u : Value) (ys : List GRule) (c : Int), p = .pointer (some ⟨B4, 0, none⟩) ∧ q = .int .i64 c ∧ B ≠ B4 ∧ HuSt w b M wx B v xs ∧ HuSt w b M wx B4 u ys ∧ SlS RuleE wx (fun j => w.heap.size < j ∧ j < wx.heap.size ∧ j ≠ B4) v xs
theorem HuSt.endA {w w7 : World} {b M B base : Nat} {v u : Value} {xs ys : List GRule} (h : HuSt w b M w7 B v xs) (own : OwnRules w7 base u ys) (hb : w.heap.size < base) (hok : gramOk ys = true) (c : Int) :
    HuEnd w b M B v xs (.pointer (some ⟨w7.heap.size, 0, none⟩)) (.int .i64 c) (w7.alloc (.cells #[u] 31)) := by
  have hl := h.lt
  have kc := (Below.refl _ w7).alloc (Nat.le_refl _) (.cells #[u] 31)
  refine ⟨_, u, ys, c, rfl, rfl, by omega, h.alloc _, ⟨h.src.alloc _, h.but.trans (But.of kc), Boxed.up h.b0 kc hl.1, hl.1, heap_alloc_new w7 _, ?_, hok⟩, (h.sl.keep fun k hk => kc.block k hk.2).more fun k hk => ⟨hk.1, Nat.lt_of_lt_of_le hk.2 kc.size, by omega⟩⟩
  have := own.slS (S := fun k => w.heap.size < k ∧ k < w7.heap.size) fun g hg => by have := World.ownsRow.lt own g hg; omega
  exact (this.keep fun k hk => kc.block k hk.2).more fun k hk => ⟨hk.1, Nat.lt_of_lt_of_le hk.2 kc.size⟩
theorem HuSt.endS {w w7 : World} {b M B base k : Nat} {v u u0 : Value} {xs ys : List GRule} (h : HuSt w b M w7 B v xs) (hlt : b < w.heap.size) (bq : Boxed w7 k 31 u0) (own : OwnRules w7 base u ys) (hk : k < base) (hwk : w.heap.size < k) (hB : B ≠ k) (hok : gramOk ys = true)
    (hsl : SlS RuleE w7 (fun j => w.heap.size < j ∧ j < w7.heap.size ∧ j ≠ k) v xs) (c : Int) :
    HuEnd w b M B v xs (.pointer (some ⟨k, 0, none⟩)) (.int .i64 c) (w7.setCell ⟨k, 0, none⟩ u) := by
  have hl := h.lt
  have hW : Below w.heap.size w7 (w7.setCell ⟨k, 0, none⟩ u) := (Below.refl _ _).setCell (p := ⟨k, 0, none⟩) (by show w.heap.size ≤ k; omega) _
  have hs : (w7.setCell ⟨k, 0, none⟩ u).heap.size = w7.heap.size := by simp
  refine ⟨k, u, ys, c, rfl, rfl, hB, ⟨h.src.keepB hW hlt, h.but.up hW (Nat.le_refl _), boxed_other h.b0 (by omega) _, h.hB, boxed_other h.b3 hB _, ?_, h.ok⟩, ⟨h.src.keepB hW hlt, h.but.up hW (Nat.le_refl _), boxed_other h.b0 (by omega) _, hwk, Boxed.set _ bq, ?_, hok⟩, ?_⟩
  · exact (hsl.keep fun j hj => Below.heap_setCell w7 ⟨k, 0, none⟩ u j hj.2.2).more fun j hj => ⟨hj.1, by rw [hs]; exact hj.2.1⟩
  · have := own.slS (S := fun j => w.heap.size < j ∧ j < w7.heap.size ∧ j ≠ k) fun g hg => by have := World.ownsRow.lt own g hg; omega
    exact (this.keep fun j hj => Below.heap_setCell w7 ⟨k, 0, none⟩ u j hj.2.2).more fun j hj => ⟨hj.1, by rw [hs]; exact hj.2.1⟩
  · exact (hsl.keep fun j hj => Below.heap_setCell w7 ⟨k, 0, none⟩ u j hj.2.2).more fun j hj => ⟨hj.1, by rw [hs]; exact hj.2.1, hj.2.2⟩
theorem HuSt.other {w wx : World} {b M B k : Nat} {v : Value} {xs : List GRule} (h : HuSt w b M wx B v xs) (hlt : b < w.heap.size) (hwk : w.heap.size < k) (hB : B ≠ k) (hsl : SlS RuleE wx (fun j => w.heap.size < j ∧ j < wx.heap.size ∧ j ≠ k) v xs) (u : Value) : HuSt w b M (wx.setCell ⟨k, 0, none⟩ u) B v xs := by
  have hW : Below w.heap.size wx (wx.setCell ⟨k, 0, none⟩ u) := (Below.refl _ _).setCell (p := ⟨k, 0, none⟩) (by show w.heap.size ≤ k; omega) _
  have hs : (wx.setCell ⟨k, 0, none⟩ u).heap.size = wx.heap.size := by simp
  exact ⟨h.src.keepB hW hlt, h.but.up hW (Nat.le_refl _), boxed_other h.b0 (by omega) _, h.hB, boxed_other h.b3 hB _, (hsl.keep fun j hj => Below.heap_setCell wx ⟨k, 0, none⟩ u j hj.2.2).more fun j hj => ⟨hj.1, by rw [hs]; exact hj.2.1⟩, h.ok⟩
theorem mul_small {x y : Nat} (hx : x ≤ 65535) (hy : y ≤ 65535) : IntKind.i64.wrap ((x : Int) * (y : Int)) = (x : Int) * (y : Int) ∧ IntKind.i64.wrap (1 + (x : Int) * (y : Int)) = 1 + (x : Int) * (y : Int) := by
  have h := Nat.mul_le_mul hx hy
  rw [← Int.natCast_mul]
  generalize x * y = z at h
  exact ⟨IntWalk.i64_in _ (by omega), IntWalk.i64_in _ (by omega)⟩
set_option maxRecDepth 100000 in
set_option maxHeartbeats 8000000 in
theorem l02Huge_any (b N : Nat) (w : World) (h : Src w b N) (hN : N ≤ 700000) :
    Calls Try.prog 76 #[.pointer (some ⟨b, 0, none⟩)] w (HugePost b (N + 500) w) := by
  have hlt := h.lt
  have HS := Lib.hid h
  clear h
  go_enter Try.func76, Try.ntmps76
  go_wp2_with fail
  have ka := (Below.refl _ w).alloc (Nat.le_refl _) (.cells #[.slice none 0 0] 31)
  have KR := Lib.hid (show Boxed (w.alloc (.cells #[.slice none 0 0] 31)) w.heap.size 31 (.slice none 0 0) from heap_alloc_new w _)
  refine (l02Drawn_any b N 1000 _ (HS.out.keep ka) (by omega)).mono ?_
  rintro r w2 ⟨v, xs, rfl, hsl, hok, h14, hs2, hb2⟩
  have KR2 := Lib.hid (Boxed.but KR.out hb2 (by omega))
  have z2 : w.heap.size < w2.heap.size := (Array.getElem?_eq_some_iff.1 KR2.out).1
  have HB2 := Lib.hid ((But.of ka).trans hb2)
  have HS2 := Lib.hid hs2
  have HSL := Lib.hid hsl
  have HOK := Lib.hid hok.1
  obtain ⟨AX, cX, rfl, _⟩ := hsl
  clear ka hs2 hb2 hok
  go_upto_region 2 with fail
  have kc := (Below.refl _ w2).alloc (Nat.le_refl _) (.cells #[.slice AX xs.length cX] 31)
  have H3 : HuSt w b (N + 200) (w2.alloc (.cells #[.slice AX xs.length cX] 31)) w2.heap.size (.slice AX xs.length cX) xs :=
    ⟨HS2.out.keep kc, HB2.out.trans (But.of kc), Boxed.up KR2.out kc z2, z2, heap_alloc_new w2 _, (HSL.out.keep fun k hk => kc.block k hk.2).more fun k hk => ⟨by have := hk.1; simp at this; omega, Nat.lt_of_lt_of_le hk.2 kc.size⟩, HOK.out⟩
  obtain ⟨B, hB⟩ : ∃ B, w2.heap.size = B := ⟨_, rfl⟩
  rw [hB] at H3 z2
  rw [hB]
  have H3h := Lib.hid H3
  clear kc H3 KR2 HB2 HS2 HSL HOK hB
  generalize w2.alloc (.cells #[.slice AX xs.length cX] 31) = w3 at *
  have c3 := Boxed.cell H3h.out.b3
  obtain ⟨z3, zB3⟩ := H3h.out.lt
  have hx9 : xs.length ≤ 1048576 := by omega
  have hsm := gram_small1 H3h.out.ok
  have Hsm := Lib.hid hsm
  have HX9 := Lib.hid hx9
  clear hsm hx9
  go_cut [4, 5] (fun p q wx => HuEnd w b (N + 204) B (.slice AX xs.length cX) xs p q wx)
  case first =>
    go_region_law (first
      | ((fail_if_success (have hx5 := hs5)); (fail_if_success (have hx6 := hs6)); go_simp; go_at_call 78; refine (pick_any b (N + 200) 1000000 _ (by (repeat (first | exact H3h.out.src | apply Src.alloc | apply Src.drew))) (by omega)).mono ?_; rintro r w5 ⟨x, rfl, _, hx2, hs5, hb5⟩; have st5 : HuSt w b (N + 202) w5 B (.slice AX xs.length cX) xs := HuSt.pick (by (repeat (first | exact H3h.out | apply HuSt.alloc | apply HuSt.drew))) hb5 hs5 hlt; have bt5 : But b w3 w5 := But.trans (by (repeat (first | exact But.refl b w3 | apply But.drew | apply But.alloc))) hb5; have c5 := Boxed.cell st5.b3; have z5 := st5.lt.2; (try (have bq : Boxed w5 w3.heap.size 31 (.slice none 0 0) := Boxed.but (w := (w3.alloc (.cells #[.slice none 0 0] 31)).drew) (heap_alloc_new w3 _) hb5 (by omega))))
      | ((fail_if_success (have hx6 := hs6)); go_simp; go_at_call 78; refine (pick_any b (N + 202) 100000 _ (by (repeat (first | exact hs5 | apply Src.alloc | apply Src.drew))) (by omega)).mono ?_; rintro r w6 ⟨y, rfl, _, hy2, hs6, hb6⟩; have st6 : HuSt w b (N + 204) w6 B (.slice AX xs.length cX) xs := HuSt.pick (by (repeat (first | exact st5 | apply HuSt.alloc | apply HuSt.drew))) hb6 hs6 hlt; have bt6 : But b w3 w6 := But.trans (by (repeat (first | exact bt5 | apply But.drew | apply But.alloc))) hb6; have c6 := Boxed.cell st6.b3; have z6 := st6.lt.2; (try (have bq2 : Boxed w6 w3.heap.size 31 (.slice none 0 0) := Boxed.but bq hb6 (by omega))); (try (have bq2 : Boxed w6 w5.heap.size 31 (.slice none 0 0) := Boxed.but (w := w5.alloc (.cells #[.slice none 0 0] 31)) (heap_alloc_new w5 _) hb6 (by have := st5.lt; omega))); have hxy := mul_small hx2 hy2; have hw1 := hxy.1; have hw2 := hxy.2; clear hxy)
      | (go_simp; go_at_call 115; refine (specPower_any _ xs _ _ (HuSt.slW (w := w) (b := b) (M := N + 204) (B := B) (by (repeat (first | exact st6 | apply HuSt.alloc | apply HuSt.drew)))) HX9.out Hsm.out).mono ?_; rintro e w7 ⟨hb7, v7, own7, rfl⟩; obtain ⟨A7, c7, rfl, _⟩ := own_nil own7; have st7 : HuSt w b (N + 204) w7 B (.slice AX xs.length cX) xs := HuSt.up (by (repeat (first | exact st6 | apply HuSt.alloc | apply HuSt.drew))) hb7; have bt7 : But b w3 w7 := But.trans (by (repeat (first | exact bt6 | apply But.drew | apply But.alloc))) (But.of hb7); have c7' := Boxed.cell st7.b3; have z7 := st7.lt.2; (try (have bq3 : Boxed w7 w3.heap.size 31 (.slice none 0 0) := Boxed.up bq2 hb7 (Array.getElem?_eq_some_iff.1 bq2).1)); (try (have bq3 : Boxed w7 w5.heap.size 31 (.slice none 0 0) := Boxed.up bq2 hb7 (Array.getElem?_eq_some_iff.1 bq2).1)); (try (have bq3 : Boxed w7 w6.heap.size 31 (.slice none 0 0) := Boxed.up (w := w6.alloc (.cells #[.slice none 0 0] 31)) (heap_alloc_new w6 _) hb7 (by simp))); (try (have cq := Boxed.cell bq3; have fq := Boxed.frozen bq3; have zq := (Array.getElem?_eq_some_iff.1 bq3).1))))
    all_goals
      go_wp2_with fail
      go_meet
      have hX7 : ∀ k, w3.heap.size ≤ k → SlS RuleE w7 (fun j => w.heap.size < j ∧ j < w7.heap.size ∧ j ≠ k) (.slice AX xs.length cX) xs := fun k hk => by
        have hz := bt7.size
        exact (H3h.out.sl.keep fun j hj => bt7.block j hj.2 (by omega)).more fun j hj => ⟨hj.1, by omega, by omega⟩
      first
        | exact st7.endA own7 (by first | exact st6.lt.1 | (have := st6.lt; simp; omega)) (hugPow_ok _ _) _
        | exact st7.endS hlt bq3 own7 (by first | exact (Array.getElem?_eq_some_iff.1 bq2).1 | simp) (by first | exact z3 | exact st5.lt.1 | exact st6.lt.1) (by omega) (hugPow_ok _ _) (hX7 _ (by first | exact Nat.le_refl _ | exact bt5.size | exact bt6.size)) _
  case rest =>
    revert hcut
    generalize wc = w4
    intro hcut
    obtain ⟨B4, u, ys, c, rfl, rfl, hBB, h1, h2, h3⟩ := hcut
    have HX4 := Lib.hid h3
    clear h3
    have HX := Lib.hid h1
    have HY := Lib.hid h2
    obtain ⟨AY, cY, rfl, _⟩ := h2.sl
    have cX9 := Boxed.cell h1.b3
    have cY' := Boxed.cell h2.b3
    have cR := Boxed.cell h1.b0
    have fR := Boxed.frozen h1.b0
    obtain ⟨zR, zX⟩ := h1.lt
    have zY := h2.lt.2
    clear h1 h2 H3h c3 z3 zB3
    by_cases hc0 : c = 0
    · subst hc0
      clear fR
      go_wp2_with fail
      refine (one_any b (N + 204) 2 _ HX.out.src (by omega)).mono ?_
      rintro r w5 ⟨t, rfl, hs5, hb5⟩
      have HX5 := Lib.hid (HX.out.pick hb5 hs5 hlt)
      have HY5 := Lib.hid (HY.out.pick hb5 hs5 hlt)
      have HX45 : Hid (SlS RuleE w5 (fun j => w.heap.size < j ∧ j < w5.heap.size ∧ j ≠ B4) (.slice AX xs.length cX) xs) := (HX4.out.keep fun j hj => hb5.block j hj.2.1 (by omega)).more fun j hj => ⟨hj.1, Nat.lt_of_lt_of_le hj.2.1 hb5.size, hj.2.2⟩
      clear cX9 cY' cR zR zX zY hs5 hb5 HX HY
      have cX9 := Boxed.cell HX5.out.b3
      have cY' := Boxed.cell HY5.out.b3
      have cR := Boxed.cell HX5.out.b0
      have fR := Boxed.frozen HX5.out.b0
      obtain ⟨zR, zX⟩ := HX5.out.lt
      have zY := HY5.out.lt.2
      cases t with
      | false =>
        go_wp2_with fail
        refine bodyPost_ret (v := .agg #[.slice AY ys.length cY]) (by simp [results, Try.results76, go_sem, cR]) rfl ?_
        exact HY5.out.done hlt (by omega)
      | true =>
        have hsy := gram_small1 HY5.out.ok
        have Hsy := Lib.hid hsy
        have hly : ys.length ≤ 1048576 := by have := (gram_lens HY5.out.ok).1; omega
        have Hly := Lib.hid hly
        clear hsy hly cR fR
        go_upto_region 6 with fail
        go_cut [5] (fun q wx => ∃ (u : Value) (zs : List GRule) (c : Int), q = .int .i64 c ∧ HuSt w b (N + 406) wx B (.slice AX xs.length cX) xs ∧ HuSt w b (N + 406) wx B4 u zs)
        case first =>
          go_region_law (first
            | (go_simp; go_at_call 77; refine (l02Drawn_any b (N + 206) 100 _ (by (repeat (first | exact HX5.out.src | apply Src.alloc | apply Src.drew))) (by omega)).mono ?_; rintro r w6 ⟨v6, zs, rfl, hsl6, hok6, h146, hs6, hb6⟩; have stX : HuSt w b (N + 406) w6 B (.slice AX xs.length cX) xs := HuSt.pick (by (repeat (first | exact HX5.out | apply HuSt.alloc | apply HuSt.drew))) hb6 hs6 hlt; have stY : HuSt w b (N + 406) w6 B4 (.slice AY ys.length cY) ys := HuSt.pick (by (repeat (first | exact HY5.out | apply HuSt.alloc | apply HuSt.drew))) hb6 hs6 hlt; have bt6 : But b w5 w6 := But.trans (by (repeat (first | exact But.refl b w5 | apply But.drew | apply But.alloc))) hb6; have c6 := Boxed.cell stY.b3; have z6 := stY.lt.2)
            | (go_simp; go_at_call 116; refine (specJoin_any _ _ ys zs _ stY.slW (hsl6.more fun _ hk => hk.2) Hly.out (by omega) Hsy.out hok6.2.2.2).mono ?_; rintro e w7 ⟨hb7, v7, own7, rfl⟩; obtain ⟨A7, c7, rfl, _⟩ := own_nil own7; have bt7 : But b w5 w7 := But.trans bt6 (But.of hb7); have sX7 := stX.up hb7; have sY7 := stY.up hb7; have cc7 := Boxed.cell sY7.b3; have f7 := Boxed.frozen sY7.b3; have z7 := sY7.lt.2))
          all_goals
            go_wp2_with fail
            go_meet
            have hz6 := stX.lt
            have hu7 : SlS RuleE w7 (fun k => w.heap.size < k ∧ k ≠ B4 ∧ k < w7.heap.size) (.slice A7 (joinOut ys zs).length c7) (joinOut ys zs) := own7.slS fun g hg => by have := World.ownsRow.lt own7 g hg; omega
            have hX7 : SlS RuleE w7 (fun j => w.heap.size < j ∧ j < w7.heap.size ∧ j ≠ B4) (.slice AX xs.length cX) xs := (HX45.out.keep fun j hj => bt7.block j hj.2.1 (by omega)).more fun j hj => ⟨hj.1, Nat.lt_of_lt_of_le hj.2.1 bt7.size, hj.2.2⟩
            exact ⟨_, _, _, rfl, sX7.other hlt HY5.out.hB hBB hX7 _, sY7.put hlt hu7 (hugJoin_ok _ _)⟩
        case rest =>
          revert hcut
          generalize wc = w8
          intro hcut
          obtain ⟨u, zs, c, rfl, h1, h2⟩ := hcut
          have HX8 := Lib.hid h1
          have HY8 := Lib.hid h2
          obtain ⟨AZ, cZ, rfl, _⟩ := h2.sl
          clear cX9 cY' zX zY zR HX5 HY5
          have cX9 := Boxed.cell h1.b3
          have cY' := Boxed.cell h2.b3
          have cR := Boxed.cell h1.b0
          have fR := Boxed.frozen h1.b0
          obtain ⟨zR, zX⟩ := h1.lt
          have zY := h2.lt.2
          clear h1 h2
          by_cases hc0 : c = 0
          · subst hc0
            go_wp2_with fail
            refine bodyPost_ret (v := .agg #[.slice AZ zs.length cZ]) (by simp [results, Try.results76, go_sem, cR]) rfl ?_
            exact HY8.out.done hlt (by omega)
          · have hc1 : (c == 0) = false := by rw [beq_eq_false_iff_ne]; exact hc0
            go_wp2_with fail
            refine bodyPost_ret (v := .agg #[.slice AX xs.length cX]) (by simp [results, Try.results76, go_sem, cR]) rfl ?_
            exact HX8.out.done hlt (by omega)
    · have hc1 : (c == 0) = false := by rw [beq_eq_false_iff_ne]; exact hc0
      go_wp2_with fail
      refine bodyPost_ret (v := .agg #[.slice AX xs.length cX]) (by simp [results, Try.results76, go_sem, cR]) rfl ?_
      exact HX.out.done hlt (by omega)
end Go.Proofs.Ytejgbfgocaggfaa
