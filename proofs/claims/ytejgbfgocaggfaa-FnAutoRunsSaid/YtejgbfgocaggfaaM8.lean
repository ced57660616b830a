import Derived.Test.YtejgbfgocaggfaaM7
import Derived.Test.YtejgbfgocaggfaaM3
import Derived.Test.YtejgbfgocaggfaaM6
import Derived.WalkArith
import Derived.Test.YtejgbfgocaggfaaM5
namespace Go.Proofs.Ytejgbfgocaggfaa
open Go.RowKit
def FinR (k : Nat) (F : List Int) : Prop := ∀ i, i < F.length → 0 ≤ F.getD i 0 ∧ F.getD i 0 < k ∧ (0 < i → F.getD (i - 1) 0 < F.getD i 0)
theorem FinR.nil (k : Nat) : FinR k [] := fun i hi => absurd hi (by simp)
theorem FinR.more {k : Nat} {F : List Int} (h : FinR k F) : FinR (k + 1) F := fun i hi => by have := h i hi; omega
theorem FinR.push {k : Nat} {F : List Int} (h : FinR k F) : FinR (k + 1) (F ++ [(k : Int)]) := by
  intro i hi
  rw [List.length_append, List.length_singleton] at hi
  by_cases e : i < F.length
  · have e1 : (F ++ [(k : Int)]).getD i 0 = F.getD i 0 := by rw [List.getD_eq_getElem?_getD, List.getElem?_append_left e, ← List.getD_eq_getElem?_getD]
    have e2 : (F ++ [(k : Int)]).getD (i - 1) 0 = F.getD (i - 1) 0 := by rw [List.getD_eq_getElem?_getD, List.getElem?_append_left (by omega), ← List.getD_eq_getElem?_getD]
    rw [e1, e2]; have := h i e; omega
  · have ei : i = F.length := by omega
    have e1 : (F ++ [(k : Int)]).getD i 0 = k := by rw [List.getD_eq_getElem?_getD, List.getElem?_append_right (by omega), ei, Nat.sub_self]; rfl
    rw [e1]
    refine ⟨by omega, by omega, fun h0 => ?_⟩
    have e2 : (F ++ [(k : Int)]).getD (i - 1) 0 = F.getD (i - 1) 0 := by rw [List.getD_eq_getElem?_getD, List.getElem?_append_left (by omega), ← List.getD_eq_getElem?_getD]
    rw [e2]; exact (h (i - 1) (by omega)).2.1
def NxtR (S : Nat) (N : List (List Int)) : Prop := ∀ i, i < N.length → (N.getD i []).length = 4 ∧ ∀ d, d < 4 → 0 ≤ (N.getD i []).getD d 0 ∧ (N.getD i []).getD d 0 < S
theorem NxtR.nil (S : Nat) : NxtR S [] := fun i hi => absurd hi (by simp)
theorem NxtR.push {S : Nat} {N : List (List Int)} {L : List Int} (h : NxtR S N) (h1 : L.length = 4) (h2 : ∀ d, d < 4 → 0 ≤ L.getD d 0 ∧ L.getD d 0 < S) : NxtR S (N ++ [L]) := by
  intro i hi
  rw [List.length_append, List.length_singleton] at hi
  by_cases e : i < N.length
  · have e1 : (N ++ [L]).getD i [] = N.getD i [] := by rw [List.getD_eq_getElem?_getD, List.getElem?_append_left e, ← List.getD_eq_getElem?_getD]
    rw [e1]; exact h i e
  · have e1 : (N ++ [L]).getD i [] = L := by rw [List.getD_eq_getElem?_getD, List.getElem?_append_right (by omega), show i = N.length by omega, Nat.sub_self]; rfl
    rw [e1]; exact ⟨h1, h2⟩
theorem auto_made {S : Nat} {st : Nat} {F : List Int} {N : List (List Int)} (h1 : 1 ≤ S) (h2 : S ≤ 24) (h3 : st < S) (hF : FinR S F) (hN : NxtR S N) (hl : N.length = S) : autoOk ⟨S, st, F, N⟩ = true := by
  have e1 : inR (S : Int) 1 24 = true := by simp [inR]; omega
  have e2 : inR (st : Int) 0 ((S : Int) - 1) = true := by simp [inR]; omega
  have e3 : risesOk ((S : Int) - 1) F = true := allB_true fun i hi => by
    have := hF i hi
    by_cases h0 : i = 0
    · subst h0
      simp only [inR, Bool.and_eq_true, decide_eq_true_eq, Bool.or_eq_true, beq_self_eq_true, true_or, and_true]; omega
    · have h4 := this.2.2 (by omega)
      simp only [inR, Bool.and_eq_true, decide_eq_true_eq, Bool.or_eq_true]; omega
  have e4 : nextOk (S : Int) N = true := by
    rw [nextOk_of fun i hi => rowOk_yes (hN i hi).1 fun d hd => ?_]
    · simp [hl]
    · have := (hN i hi).2 d hd
      simp only [inR, Bool.and_eq_true, decide_eq_true_eq]; omega
  unfold autoOk
  simp [e1, e2, e3, e4]
def AutoS (w : World) (S : Nat → Prop) (v : Value) (a : GAuto) : Prop := ∃ vF vN, v = .agg #[.int .i64 a.states, .int .i64 a.start, vF, vN] ∧ SlS IntE w S vF a.finals ∧ SlS (SliceE IntE) w S vN a.next
theorem AutoS.keep {w w' : World} {S : Nat → Prop} {v : Value} {a : GAuto} (h : AutoS w S v a) (hk : Keep S w w') : AutoS w' S v a := by
  obtain ⟨vF, vN, e, h1, h2⟩ := h
  exact ⟨vF, vN, e, h1.keep hk, h2.keep hk⟩
theorem AutoS.more {w : World} {S S' : Nat → Prop} {v : Value} {a : GAuto} (h : AutoS w S v a) (hk : ∀ b, S b → S' b) : AutoS w S' v a := by
  obtain ⟨vF, vN, e, h1, h2⟩ := h
  exact ⟨vF, vN, e, h1.more hk, h2.more hk⟩
theorem AutoS.v {w : World} {B : Nat} {v : Value} {a : GAuto} (h : AutoS w (· < B) v a) : AutoV w B v a := h
def AutoDPost (b M : Nat) (w : World) (r : Ending) (w' : World) : Prop := ∃ v a, r = .returned v ∧ AutoS w' (fun g => w.heap.size < g ∧ g < w'.heap.size) v a ∧ autoOk a = true ∧ Src w' b M ∧ But b w w'
theorem AuSt.done {w wo : World} {b M M' P k st : Nat} {vF vN : Value} {F : List Int} {vs : List Value} {Nx : List (List Int)} (h : AuSt w b M wo P k st vF F vN k vs Nx) (hl : Nx.length = k) (hlt : b < w.heap.size) (hok : autoOk ⟨k, st, F, Nx⟩ = true) (hM : M ≤ M') :
    AutoDPost b M' w (.returned (.agg #[.int .i64 (k : Int), .int .i64 (st : Int), vF, vN])) ((((wo.setCell ⟨w.heap.size, 0, none⟩ (.int .i64 (k : Int))).setCell ⟨w.heap.size, 1, none⟩ (.int .i64 (st : Int))).setCell ⟨w.heap.size, 2, none⟩ vF).setCell ⟨w.heap.size, 3, none⟩ vN) := by
  have hP := h.hP
  have hF1 : SlS IntE wo (fun g => P + 1 ≤ g ∧ g < wo.heap.size) vF F := OwnInts.slS h.fin fun g hg => World.ownsRow.lt h.fin g hg
  have hN1 : SlS (SliceE IntE) wo (fun g => P + 1 ≤ g ∧ g < wo.heap.size) vN Nx := by
    refine Each.sl (base := P + 1) (e := 26) (vs := vs) (h.ea.more fun _ h => ⟨h.1, h.2.1⟩) ?_ fun g hg => World.ownsRow.lt h.nx g hg
    rw [hl]; exact h.nx
  have hW : Below w.heap.size wo ((((wo.setCell ⟨w.heap.size, 0, none⟩ (.int .i64 (k : Int))).setCell ⟨w.heap.size, 1, none⟩ (.int .i64 (st : Int))).setCell ⟨w.heap.size, 2, none⟩ vF).setCell ⟨w.heap.size, 3, none⟩ vN) :=
    ((((Below.refl _ _).setCell (p := ⟨w.heap.size, 0, none⟩) (Nat.le_refl _) _).setCell (p := ⟨w.heap.size, 1, none⟩) (Nat.le_refl _) _).setCell (p := ⟨w.heap.size, 2, none⟩) (Nat.le_refl _) _).setCell (p := ⟨w.heap.size, 3, none⟩) (Nat.le_refl _) _
  refine ⟨_, ⟨k, st, F, Nx⟩, rfl, ⟨_, _, rfl, ?_, ?_⟩, hok, (h.src.keepB hW hlt).more hM, h.but.up hW (Nat.le_refl _)⟩
  · exact ((((hF1.keep (Keep.of_set2 (by omega) _)).keep (Keep.of_set2 (by omega) _)).keep (Keep.of_set2 (by omega) _)).keep (Keep.of_set2 (by omega) _)).more fun g hg => ⟨by omega, by simp [World.setCell]; exact hg.2⟩
  · exact ((((hN1.keep (Keep.of_set2 (by omega) _)).keep (Keep.of_set2 (by omega) _)).keep (Keep.of_set2 (by omega) _)).keep (Keep.of_set2 (by omega) _)).more fun g hg => ⟨by omega, by simp [World.setCell]; exact hg.2⟩
set_option maxRecDepth 100000 in
set_option maxHeartbeats 8000000 in
theorem l04Draw_any (b N : Nat) (most : Int) (w : World) (h : Src w b N) (hN : N ≤ 800000) (hm : 1 ≤ most ∧ most ≤ 24) :
    Calls Try.prog 74 #[.pointer (some ⟨b, 0, none⟩), .int .i64 most] w (AutoDPost b (N + 400) w) := by
  have hlt := h.lt
  have HS := Lib.hid h
  clear h
  go_enter Try.func74, Try.ntmps74
  go_wp2_with fail
  have ka : Below w.heap.size w (w.alloc (Obj.cells #[.int .i64 0, .int .i64 0, .slice none 0 0, .slice none 0 0] 45)) := (Below.refl _ _).alloc (Nat.le_refl _) _
  have kb : Blk (w.alloc (Obj.cells #[.int .i64 0, .int .i64 0, .slice none 0 0, .slice none 0 0] 45)) w.heap.size #[.int .i64 0, .int .i64 0, .slice none 0 0, .slice none 0 0] 45 := Blk.new _ _ _
  generalize w.alloc (Obj.cells #[.int .i64 0, .int .i64 0, .slice none 0 0, .slice none 0 0] 45) = w1 at *
  refine (pick_any b N most _ (HS.out.keep ka) (by omega)).mono ?_
  rintro r w2 ⟨x, rfl, hx, hx2, hs2, hb2⟩
  obtain ⟨S, hS⟩ : ∃ S : Nat, S = 1 + x := ⟨_, rfl⟩
  have hSI : 1 + (x : Int) = (S : Int) := by omega
  have hwS : IntKind.i64.wrap (1 + (x : Int)) = (S : Int) := by rw [IntWalk.i64_in _ (by omega)]; omega
  have hS1 : 1 ≤ S := by omega
  have hS24 : S ≤ 24 := by omega
  have HB := Lib.hid ((But.of ka).trans hb2)
  have HK := Lib.hid (kb.but hb2 (by omega))
  have HS2 := Lib.hid hs2
  have zw1 : w.heap.size < w2.heap.size := HK.out.lt
  clear hS hx hs2 hb2 ka kb
  go_wp2_with fail
  have kc := (Below.refl w2.heap.size w2).alloc (Nat.le_refl _) (Obj.cells #[.int .i64 (S : Int), .int .i64 0, .slice none 0 0, .slice none 0 0] 45)
  have H0 : AuSt w b (N + 2) (w2.alloc (Obj.cells #[.int .i64 (S : Int), .int .i64 0, .slice none 0 0, .slice none 0 0] 45)) w2.heap.size S 0 (.slice none 0 0) [] (.slice none 0 0) 0 [] [] :=
    ⟨HS2.out.keep kc, HB.out.trans (But.of kc), HK.out.up kc, zw1, Blk.new _ _ _, World.ownsRow_nil _ _ _ _, World.ownsRow_nil _ _ _ _, Each.nil⟩
  obtain ⟨P, hP⟩ : ∃ P, w2.heap.size = P := ⟨_, rfl⟩
  rw [hP] at H0 zw1
  rw [hP]
  have H0h := Lib.hid H0
  clear kc H0 hP HS2 HK HB hx2 hwS
  refine (pick_any b (N + 2) S _ H0h.out.src (by omega)).mono ?_
  rintro r w3 ⟨st, rfl, hst, _, hs3, hb3⟩
  have hst2 : st < S := by omega
  have H3 := Lib.hid (H0h.out.pick hb3 hs3 hlt)
  obtain ⟨c0, c1, c2, c3, zP, fP⟩ := H3.out.cells
  have H4 := Lib.hid (H3.out.setStart hlt (st : Int))
  clear H0h hs3 hb3 hst hSI
  go_wp2_with fail
  clear c0 c1 c2 c3 zP fP H3
  generalize w3.setCell ⟨P, 1, none⟩ (.int .i64 (st : Int)) = w4 at *
  go_loopw [6] (fun i wx => ∃ (k : Nat) (vF vN : Value) (F : List Int) (vs : List Value) (Nx : List (List Int)), k ≤ S ∧ i = .int .i64 k ∧ AuSt w b (N + 4 + 10 * k) wx P S st vF F vN k vs Nx ∧ FinR k F ∧ F.length ≤ k ∧ NxtR S Nx ∧ Nx.length = k) (fun i _ => S - (intOf i).toNat)
  case atStart => exact ⟨0, _, _, [], [], [], Nat.zero_le _, rfl, H4.out, FinR.nil _, Nat.le_refl _, NxtR.nil _, rfl⟩
  case round =>
    obtain ⟨k, vF, vN, F, vs, Nx, hk, rfl, hA, hF, hFl, hNx, hNl⟩ := hrel
    have HA := Lib.hid hA
    have HF := Lib.hid hF
    have HNx := Lib.hid hNx
    obtain ⟨wo, rfl⟩ : ∃ wo : World, wo = wr := ⟨_, rfl⟩
    obtain ⟨c0, c1, c2, c3, zP, fP⟩ := hA.cells
    have HNl := Lib.hid hNl
    clear hA hF hNx hNl
    by_cases hks : k < S
    · have hks2 : (k : Int) < (S : Int) := by omega
      clear c1 c2 c3
      go_wp2_with fail
      have ka := (Below.refl wo.heap.size wo).alloc (Nat.le_refl _) (Obj.cells #[] 2)
      go_loopw [7, 8] (fun row i wi => ∃ (d : Nat) (L : List Int), d ≤ 4 ∧ i = .int .i64 d ∧ Src wi b (N + 4 + 10 * k + 2 * d) ∧ But b wo wi ∧ OwnInts wi wo.heap.size row L ∧ L.length = d ∧ (∀ e, e < d → 0 ≤ L.getD e 0 ∧ L.getD e 0 < S) ∧ wo.heap.size ≤ wi.heap.size) (fun _ i _ => 4 - (intOf i).toNat)
      case atStart => exact ⟨0, [], by omega, rfl, HA.out.src.keep ka, But.of ka, OwnInts.empty rfl (Nat.le_refl _), rfl, fun e he => absurd he (by omega), by simp⟩
      case round =>
        obtain ⟨d, L, hd, rfl, hsr, hbt, hrow, hLl, hLb, hzo⟩ := hrel
        have HSr := Lib.hid hsr
        have HBt := Lib.hid hbt
        have HLl := Lib.hid hLl
        have HLb := Lib.hid hLb
        have hbo : b < wo.heap.size := HA.out.src.lt
        have e0 := (hbt.cell (p := ⟨P, 0, none⟩) zP (by show P ≠ b; have := HA.out.hP; omega)).trans c0
        have zP2 : P < wr.heap.size := by omega
        obtain ⟨Ar, cr, rfl, _⟩ := own_nil hrow
        have HR := Lib.hid hrow
        clear hsr hbt hLl hLb hrow ka
        by_cases hd4 : d < 4
        · have hd42 : (d : Int) < 4 := by omega
          go_wp2_with fail
          refine (pick_any b (N + 4 + 10 * k + 2 * d) S _ HSr.out (by omega)).mono ?_
          rintro r w5 ⟨y, rfl, hy, _, hs5, hb5⟩
          have hy2 : (y : Int) < S := by omega
          have HS5 := Lib.hid hs5
          have HB5 := Lib.hid (HBt.out.trans hb5)
          have HR5 : Hid (OwnInts w5 wo.heap.size (.slice Ar L.length cr) L) := own_butB HR.out hb5 hbo
          have hz5 : wo.heap.size ≤ w5.heap.size := Nat.le_trans hzo hb5.size
          have hL9 : L.length ≤ 1099511627776 := by rw [HLl.out]; omega
          clear hs5 hb5 hy
          go_wp2_with (first | (at_builtin; refine push_ints (base := wo.heap.size) (v := .slice Ar L.length cr) (l := L) (y := (y : Int)) rfl _ _ rfl rfl rfl rfl HR5.out hL9 hz5 ?_; intro v6 w6 own6 hg6 hb6))
          go_roundw
          case rel =>
            refine ⟨d + 1, L ++ [(y : Int)], by omega, by go_num, HS5.out.keepB hb6 hbo, HB5.out.up hb6 (Nat.le_refl _), own6, by rw [List.length_append, HLl.out]; rfl, fun e he => ?_, Nat.le_trans hz5 hb6.size⟩
            by_cases e9 : e < d
            · rw [List.getD_eq_getElem?_getD, List.getElem?_append_left (by rw [HLl.out]; exact e9), ← List.getD_eq_getElem?_getD]; exact HLb.out e e9
            · rw [List.getD_eq_getElem?_getD, List.getElem?_append_right (by rw [HLl.out]; omega), HLl.out, show e - d = 0 by omega]
              exact ⟨by show (0 : Int) ≤ (y : Int); omega, hy2⟩
          case measure => simp [intOf]; omega
        · have hd5 : d = 4 := by omega
          subst hd5
          have hA6 := HA.out.pick HBt.out HSr.out hlt
          have HA6 := Lib.hid hA6
          obtain ⟨e1, e2, e3, e4, _, fP2⟩ := hA6.cells
          obtain ⟨AN, cN, rfl, _⟩ := own_nil hA6.nx
          have hk9 : k ≤ 1099511627776 := by omega
          have hPz : P + 1 ≤ wr.heap.size := by omega
          have hbF : ∀ g, vF.ownBlock = some g → g < wo.heap.size := fun g hg => (World.ownsRow.lt HA.out.fin g hg).2
          have hbN : ∀ g, (Value.slice AN k cN).ownBlock = some g → g < wo.heap.size := fun g hg => (World.ownsRow.lt HA.out.nx g hg).2
          have HbF := Lib.hid hbF
          have HbN := Lib.hid hbN
          clear hA6 e1 e2 e3 hbF hbN c0 fP e0
          go_wp2_with (first | (at_builtin; refine push_sl (W := wr) (N := wr.heap.size) (base := P + 1) rfl _ _ rfl rfl rfl rfl rfl HA6.out.nx hk9 hPz ?_; intro v7 w7 own7 hg7 hv7'; have hv7 := Lib.hid hv7'; clear hv7'; obtain ⟨A7, c7, rfl, _⟩ := own_nil own7; have hbx7 := HA6.out.grN hg7; have cP7 := Blk.cell (i := 3) (v := .slice AN k cN) hbx7 rfl; have fP7 := Blk.frozen hbx7 3; have zP7 := Blk.lt hbx7))
          have HA7 := Lib.hid (HA6.out.pushN hlt HR.out (Nat.succ_le_of_lt zP) HbF.out HbN.out hg7 hv7.out own7)
          clear hbx7 cP7 fP7 zP7 hg7 hv7 own7
          generalize w7.setCell ⟨P, 3, none⟩ (.slice A7 (k + 1) c7) = w8 at *
          refine (one_any b _ 3 _ HA7.out.src (by omega)).mono ?_
          rintro r w9 ⟨t, rfl, hs9, hb9⟩
          have HA9 := Lib.hid (HA7.out.pick hb9 hs9 hlt)
          obtain ⟨e1, e2, e3, e4', zP9, fP9⟩ := HA9.out.cells
          obtain ⟨AF, cF, rfl, _⟩ := own_nil HA9.out.fin
          have hF9 : F.length ≤ 1099511627776 := by omega
          have hPz9 : P + 1 ≤ w9.heap.size := zP9
          have HNx9 : Hid (NxtR S (Nx ++ [L])) := HNx.out.push HLl.out HLb.out
          have HNl9 : Hid ((Nx ++ [L]).length = k + 1) := by rw [Hid, List.length_append, HNl.out]; rfl
          clear hs9 hb9 e1 e2 e4' HA7 fP9 e4
          cases t with
          | false =>
            go_wp2_with fail
            go_roundw
            case rel => exact ⟨k + 1, _, _, F, _, _, by omega, by go_num, HA9.out.more (M' := N + 4 + 10 * (k + 1)) (by omega), HF.out.more, by omega, HNx9.out, HNl9.out⟩
            case measure => simp [intOf]; omega
          | true =>
            go_wp2_with (first | (at_builtin; refine push_int2 (W := w9) (N := w9.heap.size) (base := P + 1) (y := (k : Int)) rfl _ _ rfl rfl rfl rfl HA9.out.fin hF9 hPz9 ?_; intro v7 w7 own7 hg7 hv7'; have hv7 := Lib.hid hv7'; clear hv7'; obtain ⟨A7, c7, rfl, _⟩ := own_nil own7; have hbx7 := HA9.out.grF hg7; have cP7 := Blk.cell (i := 2) (v := .slice AF F.length cF) hbx7 rfl; have fP7 := Blk.frozen hbx7 2; have zP7 := Blk.lt hbx7))
            have HA7 := Lib.hid (HA9.out.pushF hlt hg7 hv7.out own7)
            have hFL : (F ++ [(k : Int)]).length = F.length + 1 := by simp
            rw [hFL] at HA7
            have HFL := Lib.hid hFL
            clear hFL
            clear hbx7 cP7 fP7 zP7 hg7 hv7 own7
            go_roundw
            case rel => exact ⟨k + 1, _, _, _, _, _, by omega, by go_num, HA7.out.more (M' := N + 4 + 10 * (k + 1)) (by omega), HF.out.push, by rw [List.length_append]; show F.length + 1 ≤ k + 1; omega, HNx9.out, HNl9.out⟩
            case measure => simp [intOf]; omega
    · have hks3 : k = S := by omega
      subst hks3
      obtain ⟨c0, c1, c2, c3, _, _⟩ := HA.out.cells
      have cb0 := Blk.cell (i := 0) (v := .int .i64 0) HA.out.b0 rfl
      have cb1 := Blk.cell (i := 1) (v := .int .i64 0) HA.out.b0 rfl
      have cb2 := Blk.cell (i := 2) (v := .slice none 0 0) HA.out.b0 rfl
      have cb3 := Blk.cell (i := 3) (v := .slice none 0 0) HA.out.b0 rfl
      have fb := Blk.frozen HA.out.b0
      have zb := Blk.lt HA.out.b0
      obtain ⟨AF, cF, rfl, _⟩ := own_nil HA.out.fin
      obtain ⟨AN, cN, rfl, _⟩ := own_nil HA.out.nx
      have hok := auto_made hS1 hS24 hst2 HF.out HNx.out HNl.out
      have Hok := Lib.hid hok
      clear hok fP
      go_wp2_with fail
      refine bodyPost_ret (v := .agg #[.int .i64 (k : Int), .int .i64 (st : Int), .slice AF F.length cF, .slice AN k cN]) (by simp [results, Try.results74, go_sem, cb0, cb1, cb2, cb3]) rfl ?_
      exact HA.out.done HNl.out hlt Hok.out (by omega)
theorem Src.alloc {w : World} {b N : Nat} (h : Src w b N) (o : Obj) : Src (w.alloc o) b N := h.keep ((Below.refl _ _).alloc (Nat.le_refl _) o)
theorem Src.drew {w : World} {b N : Nat} (h : Src w b N) : Src w.drew b N := h.keep (Below.drew (Below.refl _ _))
theorem gram_small1 {xs : List GRule} (h : gramOk xs = true) : SmallL xs := by
  obtain ⟨_, ls, hl⟩ := gram_lens h
  intro r hr
  obtain ⟨k, hk⟩ := List.mem_iff_getElem?.1 hr
  have h1 := (lens_steps hl k r hk).1
  unfold okRule at h1
  by_cases hp : r.pair = true
  · have : r.letter.size = 0 := by simpa [GRule.pair] using hp
    omega
  · rw [if_neg hp] at h1
    simp only [Bool.and_eq_true] at h1
    have := isLet_size h1.1.1; omega
section
variable {w wx w' : World} {b M M' B : Nat} {v : Value} {xs : List GRule}
end
theorem P6Pick_any (v : Value) (l : List UInt8) (n : Int) (w : World) (h : Sl ByteE w w.heap.size v l) :
    Calls Try.prog 23 #[v, .int .i64 n] w fun e w' => ∃ x : Nat, e = .returned (.int .i64 (x : Int)) ∧ (x = 0 ∨ (x : Int) < n) ∧ x ≤ 65535 ∧ Below w.heap.size w w' := by
  have HL := Lib.hid h
  obtain ⟨A, c, rfl, _⟩ := h
  go_enter Try.func23, Try.ntmps23
  go_wp2_with fail
  refine (from_any _ l _ HL.out).mono ?_
  rintro r w1 ⟨b, rfl, hb, hs, hb1⟩
  have HS := Lib.hid hs
  have HB := Lib.hid hb1
  have Hb := Lib.hid hb
  clear hs hb1 hb
  go_wp2_with fail
  refine (pick_any b 0 n _ HS.out (by omega)).mono ?_
  rintro r w2 ⟨x, rfl, hx, hx2, _, hb2⟩
  have HB2 := Lib.hid (HB.out.trans (hb2.below (B := w.heap.size) (by rw [Hb.out]; exact Nat.le_refl _) (by have := HB.out.size; omega)))
  have HX := Lib.hid hx
  clear hb2 hx
  go_wp2_with fail
  go_ret
  exact ⟨x, rfl, HX.out, hx2, HB2.out⟩
theorem four {wx : World} {R : Nat} {a0 a1 a2 a3 : Value} {t : TypeId} (h : Blk wx R #[a0, a1, a2, a3] t) (v0 v1 v2 v3 : Value) :
    let W := (((wx.setCell ⟨R, 0, none⟩ v0).setCell ⟨R, 1, none⟩ v1).setCell ⟨R, 2, none⟩ v2).setCell ⟨R, 3, none⟩ v3
    Blk W R #[v0, v1, v2, v3] t ∧ (∀ k, k ≠ R → W.heap[k]? = wx.heap[k]?) ∧ Below R wx W := by
  intro W
  exact ⟨(((h.set 0 v0).set 1 v1).set 2 v2).set 3 v3,
    fun k hk => (Below.heap_setCell _ ⟨R, 3, none⟩ v3 k hk).trans ((Below.heap_setCell _ ⟨R, 2, none⟩ v2 k hk).trans ((Below.heap_setCell _ ⟨R, 1, none⟩ v1 k hk).trans (Below.heap_setCell _ ⟨R, 0, none⟩ v0 k hk))),
    ((((Below.refl _ wx).setCell (p := ⟨R, 0, none⟩) (Nat.le_refl _) v0).setCell (p := ⟨R, 1, none⟩) (Nat.le_refl _) v1).setCell (p := ⟨R, 2, none⟩) (Nat.le_refl _) v2).setCell (p := ⟨R, 3, none⟩) (Nat.le_refl _) v3⟩
theorem P6Auto_any (v : Value) (l : List UInt8) (w : World) (h : Sl ByteE w w.heap.size v l) :
    Calls Try.prog 20 #[v] w fun e w' => ∃ u a, e = .returned u ∧ AutoV w' w'.heap.size u a ∧ autoOk a = true ∧ Below w.heap.size w w' := by
  have HL := Lib.hid h
  obtain ⟨A, c, rfl, _⟩ := h
  go_enter Try.func20, Try.ntmps20
  go_wp2_with fail
  have ba := (Below.refl _ w).alloc (Nat.le_refl _) (.cells #[.int .i64 0, .int .i64 0, .slice none 0 0, .slice none 0 0] 45)
  refine (from_any _ l _ (HL.out.up ba)).mono ?_
  rintro r w1 ⟨b, rfl, hb, hs, hb1⟩
  have KR1 := Lib.hid (Blk.up (Blk.new w #[.int .i64 0, .int .i64 0, .slice none 0 0, .slice none 0 0] 45) hb1)
  have hbz : w.heap.size < b := by simp at hb; omega
  have HS := Lib.hid hs
  have HB := Lib.hid (ba.trans (hb1.mono ba.size))
  have hz1 : w.heap.size < w1.heap.size := KR1.out.lt
  clear hs hb1 ba hb
  go_wp2_with fail
  refine (l04Draw_any b 0 4 _ HS.out (by omega) (by omega)).mono ?_
  rintro r w2 ⟨u, a, rfl, hV, hok, _, hb2⟩
  have KR2 := Lib.hid (KR1.out.but hb2 (by omega))
  have cR0 := Blk.cell (i := 0) (v := .int .i64 0) KR2.out rfl
  have cR1 := Blk.cell (i := 1) (v := .int .i64 0) KR2.out rfl
  have cR2 := Blk.cell (i := 2) (v := .slice none 0 0) KR2.out rfl
  have cR3 := Blk.cell (i := 3) (v := .slice none 0 0) KR2.out rfl
  have zR := Blk.frozen KR2.out
  have hz2 : w.heap.size < w2.heap.size := KR2.out.lt
  have HB2 := Lib.hid (HB.out.trans (hb2.below (B := w.heap.size) (by omega) (by omega)))
  have HV := Lib.hid (hV.more (S' := fun g => w.heap.size < g ∧ g < w2.heap.size) fun g hg => ⟨by have := hg.1; omega, hg.2⟩)
  have HK := Lib.hid hok
  have HKR := KR2
  clear hb2 hok KR2
  obtain ⟨vF, vN, rfl, hF, hN⟩ := hV
  obtain ⟨AF, cF, rfl, _⟩ := hF
  obtain ⟨AN, cN, rfl, _⟩ := hN
  go_wp2_with fail
  obtain ⟨s1, s2, s3⟩ := four HKR.out (.int .i64 a.states) (.int .i64 a.start) (.slice AF a.finals.length cF) (.slice AN a.next.length cN)
  have HB3 := HB2.out.trans s3
  clear cR0 cR1 cR2 cR3 zR
  revert s1 s2 s3 HB3
  generalize (((w2.setCell ⟨w.heap.size, 0, none⟩ (.int .i64 a.states)).setCell ⟨w.heap.size, 1, none⟩ (.int .i64 a.start)).setCell ⟨w.heap.size, 2, none⟩ (.slice AF a.finals.length cF)).setCell ⟨w.heap.size, 3, none⟩ (.slice AN a.next.length cN) = W
  intro s1 s2 s3 HB3
  have x0 := Blk.cell (i := 0) (v := .int .i64 a.states) s1 rfl
  have x1 := Blk.cell (i := 1) (v := .int .i64 a.start) s1 rfl
  have x2 := Blk.cell (i := 2) (v := .slice AF a.finals.length cF) s1 rfl
  have x3 := Blk.cell (i := 3) (v := .slice AN a.next.length cN) s1 rfl
  exact bodyPost_ret (v := .agg #[.int .i64 a.states, .int .i64 a.start, .slice AF a.finals.length cF, .slice AN a.next.length cN]) (by simp [results, Try.results20, go_sem, x0, x1, x2, x3]) rfl
    ⟨_, a, rfl, ((HV.out.keep fun k hk => s2 k (by omega)).more (S' := (· < W.heap.size)) fun k hk => Nat.lt_of_lt_of_le hk.2 s3.size).v, HK.out, HB3⟩
def RowN (w : World) (b : Nat) (l : List Nat) : Prop := w.rowIs b 2 l.length fun i => .int .i64 ((l.getD i 0 : Nat) : Int)
section
variable {w w' : World} {b M : Nat} {l : List Nat}
theorem RowN.made (w : World) (n : Nat) : RowN (w.alloc (.cells (madeCells #[.int .i64 0] n) 2)) w.heap.size (List.replicate n 0) := by
  have h := World.rowIs_made w (.int .i64 0) n 2
  unfold RowN; rw [List.length_replicate]
  exact h.congr fun i hi => by simp [hi]
theorem RowN.set (h : RowN w b l) {i : Nat} (_hi : i < l.length) (x : Nat) : RowN (w.setCell ⟨b, i, none⟩ (.int .i64 (x : Int))) b (l.set i x) := by
  have h2 := World.rowIs.set h i (.int .i64 (x : Int))
  unfold RowN; rw [List.length_set]
  exact h2.congr fun j hj => by
    by_cases e : j = i
    · subst e; simp [hj]
    · rw [if_neg e, List.getD_eq_getElem?_getD, List.getD_eq_getElem?_getD, List.getElem?_set_ne (by omega)]
theorem RowN.lt (h : RowN w b l) : b < w.heap.size := World.rowIs.lt h
theorem RowN.cell (h : RowN w b l) {i : Nat} (hi : i < l.length) : w.cell? ⟨b, i, none⟩ = some (.int .i64 ((l.getD i 0 : Nat) : Int)) := World.rowIs.cell h hi
theorem RowN.frozen (h : RowN w b l) (i : Nat) : w.frozen? ⟨b, i, none⟩ = false := World.rowIs.frozen h i
theorem RowN.same (h : RowN w b l) (e : w'.heap[b]? = w.heap[b]?) : RowN w' b l := World.rowIs.of_block h e
theorem RowN.other (h : RowN w b l) {c o : Nat} (hne : b ≠ c) (u : Value) : RowN (w.setCell ⟨c, o, none⟩ u) b l := World.rowIs.setOther h hne u
theorem RowN.sl (h : RowN w b l) : Sl IntE w w.heap.size (.slice (some ⟨b, 0, none⟩) l.length l.length) (l.map Int.ofNat) ∨ maxLen < l.length := by
  rcases Nat.lt_or_ge maxLen l.length with hm | hm
  · exact Or.inr hm
  · refine Or.inl ⟨some ⟨b, 0, none⟩, l.length, by simp, by simp, hm, fun _ => ⟨b, 0, rfl, h.lt, fun k x hx => ⟨[.int .i64 x], rfl, fun j u hu => ?_⟩⟩⟩
    match j, hu with
    | 0, hu =>
      simp at hu; subst hu
      rw [List.getElem?_map] at hx
      obtain ⟨y, hy, rfl⟩ : ∃ y, l[k]? = some y ∧ Int.ofNat y = x := by
        cases hy : l[k]? with
        | none => rw [hy] at hx; cases hx
        | some y => rw [hy] at hx; exact ⟨y, rfl, by simpa using hx⟩
      have hk : k < l.length := (List.getElem?_eq_some_iff.1 hy).1
      have := h.cell hk
      rw [List.getD_eq_getElem?_getD, hy] at this
      simpa [IntE] using this
    | j + 1, hu => simp at hu
end
structure TabN (w : World) (N0 B : Nat) (R : Nat → Nat) (n S : Nat) (M : List (List Nat)) : Prop where
  top : w.rowIs B 26 n fun i => .slice (some ⟨R i, 0, none⟩) S S
  row : ∀ i, i < n → RowN w (R i) (M.getD i [])
  len : M.length = n
  wid : ∀ i, i < n → (M.getD i []).length = S
  inj : ∀ i j, i < n → j < n → R i = R j → i = j
  ne : ∀ i, i < n → R i ≠ B
  lowB : N0 ≤ B
  low : ∀ i, i < n → N0 ≤ R i
section
variable {w w' : World} {N0 B : Nat} {R : Nat → Nat} {n S : Nat} {M : List (List Nat)}
theorem TabN.same (h : TabN w N0 B R n S M) (e0 : w'.heap[B]? = w.heap[B]?) (e1 : ∀ i, i < n → w'.heap[R i]? = w.heap[R i]?) : TabN w' N0 B R n S M :=
  ⟨World.rowIs.of_block h.top e0, fun i hi => (h.row i hi).same (e1 i hi), h.len, h.wid, h.inj, h.ne, h.lowB, h.low⟩
theorem TabN.below (h : TabN w N0 B R n S M) (hb : Below w.heap.size w w') : TabN w' N0 B R n S M :=
  h.same (hb.block B (World.rowIs.lt h.top)) fun i hi => hb.block (R i) (h.row i hi).lt
theorem TabN.drew (h : TabN w N0 B R n S M) : TabN w.drew N0 B R n S M := h.same rfl fun _ _ => rfl
theorem TabN.other (h : TabN w N0 B R n S M) {c o : Nat} (h0 : B ≠ c) (h1 : ∀ i, i < n → R i ≠ c) (u : Value) : TabN (w.setCell ⟨c, o, none⟩ u) N0 B R n S M :=
  h.same (Below.heap_setCell w ⟨c, o, none⟩ u B h0) fun i hi => Below.heap_setCell w ⟨c, o, none⟩ u (R i) (h1 i hi)
theorem TabN.at_ (h : TabN w N0 B R n S M) {r s : Nat} (hr : r < n) (hs : s < S) : w.cell? ⟨B, r, none⟩ = some (.slice (some ⟨R r, 0, none⟩) S S) ∧ w.cell? ⟨R r, s, none⟩ = some (.int .i64 (((M.getD r []).getD s 0 : Nat) : Int)) ∧
    w.frozen? ⟨R r, s, none⟩ = false ∧ B < w.heap.size ∧ R r < w.heap.size :=
  ⟨World.rowIs.cell h.top hr, (h.row r hr).cell (by rw [h.wid r hr]; exact hs), (h.row r hr).frozen s, World.rowIs.lt h.top, (h.row r hr).lt⟩
theorem TabN.top_at (h : TabN w N0 B R n S M) {r : Nat} (hr : r < n) : w.cell? ⟨B, r, none⟩ = some (.slice (some ⟨R r, 0, none⟩) S S) ∧ B < w.heap.size := ⟨World.rowIs.cell h.top hr, World.rowIs.lt h.top⟩
theorem TabN.add (h : TabN w N0 B R n S M) {r s : Nat} (hr : r < n) (hs : s < S) (x : Nat) : TabN (w.setCell ⟨R r, s, none⟩ (.int .i64 ((((M.getD r []).getD s 0 + x : Nat)) : Int))) N0 B R n S (addM M r s x) := by
  have hrl : r < M.length := by rw [h.len]; exact hr
  refine ⟨World.rowIs.of_block h.top (Below.heap_setCell w ⟨R r, s, none⟩ _ B (fun e => h.ne r hr e.symm)), fun i hi => ?_, by rw [addM_len]; exact h.len, fun i hi => ?_, h.inj, h.ne, h.lowB, h.low⟩
  · rw [addM_get _ _ _ _ _ hrl]
    by_cases e : i = r
    · subst e
      rw [if_pos rfl]
      exact (h.row i hi).set (by rw [h.wid i hi]; exact hs) _
    · rw [if_neg e]
      exact (h.row i hi).other (fun e2 => e (h.inj i r hi hr e2)) _
  · rw [addM_get _ _ _ _ _ hrl]
    by_cases e : i = r
    · subst e; rw [if_pos rfl, addR_len]; exact h.wid i hi
    · rw [if_neg e]; exact h.wid i hi
end
structure TabK (w : World) (N0 B : Nat) (R : Nat → Nat) (n k S : Nat) : Prop where
  top : w.rowIs B 26 n fun i => if i < k then .slice (some ⟨R i, 0, none⟩) S S else .slice none 0 0
  row : ∀ i, i < k → RowN w (R i) (List.replicate S 0)
  inj : ∀ i j, i < k → j < k → R i = R j → i = j
  ne : ∀ i, i < k → R i ≠ B
  lowB : N0 ≤ B
  low : ∀ i, i < k → N0 ≤ R i
theorem TabK.done {w : World} {N0 B : Nat} {R : Nat → Nat} {n S : Nat} (h : TabK w N0 B R n n S) : TabN w N0 B R n S (List.replicate n (List.replicate S 0)) := by
  have e : ∀ i, i < n → (List.replicate n (List.replicate S 0)).getD i [] = List.replicate S 0 := fun i hi => by
    rw [List.getD_eq_getElem?_getD, List.getElem?_replicate_of_lt hi]; rfl
  exact ⟨h.top.congr fun i hi => by rw [if_pos hi], fun i hi => by rw [e i hi]; exact h.row i hi, by simp, fun i hi => by rw [e i hi]; simp, h.inj, h.ne, h.lowB, h.low⟩
theorem TabK.next {w w' : World} {N0 B : Nat} {R : Nat → Nat} {n k S b : Nat} (h : TabK w N0 B R n k S) (_hk : k < n) (hb : Below w.heap.size w w') (hr : RowN w' b (List.replicate S 0)) (hn : w.heap.size ≤ b) (hN : N0 ≤ w.heap.size) :
    TabK (w'.setCell ⟨B, k, none⟩ (.slice (some ⟨b, 0, none⟩) S S)) N0 B (fun i => if i = k then b else R i) n (k + 1) S := by
  have hB := World.rowIs.lt h.top
  refine ⟨?_, fun i hi => ?_, fun i j hi hj e => ?_, fun i hi => ?_, h.lowB, fun i hi => ?_⟩
  · have h1 : w'.rowIs B 26 n (fun i => if i < k then .slice (some ⟨R i, 0, none⟩) S S else .slice none 0 0) := World.rowIs.of_block h.top (hb.block B hB)
    refine (h1.set k (.slice (some ⟨b, 0, none⟩) S S)).congr fun i hi => ?_
    by_cases e : i = k
    · subst e; simp
    · simp only [if_neg e]
      by_cases g : i < k
      · rw [if_pos g, if_pos (by omega)]
      · rw [if_neg g, if_neg (by omega)]
  · by_cases e : i = k
    · simp only [e, if_true]; exact hr.other (by omega) _
    · simp only [if_neg e]
      have h2 := h.row i (by omega)
      exact (h2.same (hb.block _ h2.lt)).other (h.ne i (by omega)) _
  · by_cases e1 : i = k
    · by_cases e2 : j = k
      · omega
      · simp only [e1, if_true, if_neg e2] at e
        have := (h.row j (by omega)).lt; omega
    · by_cases e2 : j = k
      · simp only [e2, if_true, if_neg e1] at e
        have := (h.row i (by omega)).lt; omega
      · simp only [if_neg e1, if_neg e2] at e
        exact h.inj i j (by omega) (by omega) e
  · by_cases e : i = k
    · simp only [e, if_true]; omega
    · simp only [if_neg e]; exact h.ne i (by omega)
  · by_cases e : i = k
    · simp only [e, if_true]; omega
    · simp only [if_neg e]; exact h.low i (by omega)
theorem TabK.start {w : World} {N0 n S : Nat} (R : Nat → Nat) {B : Nat} (h : w.rowIs B 26 n fun _ => .slice none 0 0) (hN : N0 ≤ B) : TabK w N0 B R n 0 S :=
  ⟨h.congr fun i hi => by rw [if_neg (by omega)], fun i hi => absurd hi (by omega), fun i j hi => absurd hi (by omega), fun i hi => absurd hi (by omega), hN, fun i hi => absurd hi (by omega)⟩
theorem TabK.below {w w' : World} {N0 B : Nat} {R : Nat → Nat} {n k S : Nat} (h : TabK w N0 B R n k S) (hb : Below w.heap.size w w') : TabK w' N0 B R n k S :=
  ⟨World.rowIs.of_block h.top (hb.block B (World.rowIs.lt h.top)), fun i hi => (h.row i hi).same (hb.block _ (h.row i hi).lt), h.inj, h.ne, h.lowB, h.low⟩
theorem visPut_le (maps : List (List Int)) : ∀ (L : List Nat) (M : List (List Nat)) (s : Nat) (k : Nat), (∀ r t, (M.getD r []).getD t 0 ≤ k) → ∀ r t, ((visPut maps L M s).getD r []).getD t 0 ≤ k + L.length := by
  intro L
  induction L with
  | nil => intro M s k h; exact h
  | cons r L ih =>
    intro M s k h r' t'
    have e := ih (addM M r s 1) (stepM maps s r) (k + 1) (fun r2 t2 => by
      by_cases hr : r < M.length
      · rw [addM_get _ _ _ _ _ hr]
        by_cases e : r2 = r
        · rw [if_pos e]
          by_cases hs : s < (M.getD r []).length
          · by_cases e2 : t2 = s
            · subst e2
              unfold addR
              rw [List.getD_eq_getElem?_getD, List.getElem?_set_self hs]
              have := h r t2; show (M.getD r []).getD t2 0 + 1 ≤ _; omega
            · unfold addR
              rw [List.getD_eq_getElem?_getD, List.getElem?_set_ne (by omega), ← List.getD_eq_getElem?_getD]
              have := h r t2; omega
          · unfold addR
            rw [List.set_eq_of_length_le (by omega)]
            have := h r t2; omega
        · rw [if_neg e]; have := h r2 t2; omega
      · unfold addM
        rw [List.set_eq_of_length_le (by omega)]
        have := h r2 t2; omega) r' t'
    rw [visPut, List.length_cons]; omega
structure VJ (w0 : World) (N0 bs B : Nat) (R : Nat → Nat) (n S : Nat) (C : Nat → Prop) (st : Nat × List (List Nat)) (w : World) : Prop where
  wk : Wk (fun b => b < w0.heap.size ∧ b ≠ bs ∧ ∀ i, i < n → b ≠ R i) w0 w
  cell : w.cell? ⟨bs, 0, none⟩ = some (.int .i64 st.1)
  fr : w.frozen? ⟨bs, 0, none⟩ = false
  tab : TabN w N0 B R n S st.2
  nc : ¬ C bs
  nr : ∀ i, i < n → ¬ C (R i)
  lt : st.1 < S
theorem VJ.ext {w0 : World} {N0 bs B : Nat} {R : Nat → Nat} {n S : Nat} (hbs : bs < w0.heap.size) (hR : ∀ i, i < n → R i < w0.heap.size) : ∀ C st w w', VJ w0 N0 bs B R n S C st w → Below w.heap.size w w' → (∀ b, C b → b < w.heap.size) → VJ w0 N0 bs B R n S (ext C w.heap.size w'.heap.size) st w' := by
  intro C st w w' h hb hC
  have hsz := h.wk.size
  refine ⟨h.wk.trans (Wk.of_below hb fun k hk => by have := hk.1; omega), (hb.cell (p := ⟨bs, 0, none⟩) (by show bs < _; omega)).trans h.cell, (hb.frozen (p := ⟨bs, 0, none⟩) (by show bs < _; omega)).trans h.fr, h.tab.below hb, ?_, ?_, h.lt⟩
  · intro h'
    rcases h' with h' | h'
    · exact h.nc h'
    · omega
  · intro i hi h'
    rcases h' with h' | h'
    · exact h.nr i hi h'
    · have := hR i hi; omega
def visStepP (maps : List (List Int)) (st : Nat × List (List Nat)) (r : Nat) : Nat × List (List Nat) := (stepM maps st.1 r, addM st.2 r st.1 1)
theorem visStepP_fold (maps : List (List Int)) : ∀ (L : List Nat) (s : Nat) (M : List (List Nat)), L.foldl (visStepP maps) (s, M) = (L.foldl (stepM maps) s, visPut maps L M s) := by
  intro L
  induction L with
  | nil => intro s M; rfl
  | cons r L ih => intro s M; rw [List.foldl_cons, List.foldl_cons, visPut, ← ih]; rfl
def VOk (st : Nat × List (List Nat)) (r : Nat) : Prop := (st.2.getD r []).getD st.1 0 ≤ 1000000000000000
set_option maxRecDepth 100000 in
set_option maxHeartbeats 1000000 in
theorem visCl_any (w0 : World) (br bo bs B N0 : Nat) (R : Nat → Nat) (n S : Nat) (vM : Value) (maps : List (List Int)) (hbr : br < w0.heap.size ∧ br ≠ bs ∧ ∀ i, i < n → br ≠ R i) (hbo : bo < w0.heap.size ∧ bo ≠ bs ∧ ∀ i, i < n → bo ≠ R i)
    (hbs : bs < w0.heap.size) (hR : ∀ i, i < n → R i < w0.heap.size ∧ R i ≠ bs) (hB : B ≠ bs) (hn : n ≤ 1099511627776)
    (hm : w0.cell? ⟨br, 6, none⟩ = some vM) (ho : w0.cell? ⟨bo, 0, none⟩ = some (.slice (some ⟨B, 0, none⟩) n n)) (hM : SlS (SliceE IntE) w0 (fun b => b < w0.heap.size ∧ b ≠ bs ∧ ∀ i, i < n → b ≠ R i) vM maps) (hok : RowsOk S maps) (hml : maps.length = n) :
    ∀ C st (r : Nat) (w : World), VJ w0 N0 bs B R n S C st w → VOk st r → r < n → (∀ b, C b → b < w.heap.size) → Calls Try.prog 123 (#[.int .i64 r] ++ #[.pointer (some ⟨bo, 0, none⟩), .pointer (some ⟨bs, 0, none⟩), .pointer (some ⟨br, 0, none⟩)]) w (TakePost (VJ w0 N0 bs B R n S) C (visStepP maps st r) w) := by
  intro C st r w hJ hO hr hC
  have HJ := Lib.hid hJ
  have HC := Lib.hid hC
  obtain ⟨s, M⟩ := st
  have hlt : s < S := hJ.lt
  obtain ⟨A, c, rfl, _, hmx, hrow⟩ := (hM.keep hJ.wk.keep)
  obtain ⟨b, o, rfl, hbb, hcells⟩ := cells2 hrow (by omega)
  have r1 := hok r (by omega)
  obtain ⟨b', o', c', d1, d2, d3⟩ := hcells r s (by omega) (by rw [r1.1]; exact hlt)
  rw [r1.1] at d1
  obtain ⟨m, hm1⟩ : ∃ m : Nat, (maps.getD r []).getD s 0 = m := ⟨((maps.getD r []).getD s 0).toNat, by have := (r1.2 s hlt).1; omega⟩
  have hmn : m < S := by have := (r1.2 s hlt).2; omega
  rw [hm1] at d3
  have hst : stepM maps s r = m := by rw [stepM, hm1]; rfl
  have Hst := Lib.hid hst
  have x6 := hJ.wk.cell (k := br) (o := 6) hbr hm
  have x0 := hJ.wk.cell (k := bo) (o := 0) hbo ho
  have xs : w.cell? ⟨bs, 0, none⟩ = some (.int .i64 (s : Int)) := hJ.cell
  have xf := hJ.fr
  have hsz := hJ.wk.size
  have y1 : bs < w.heap.size := by omega
  have y2 : br < w.heap.size := by omega
  have y3 : bo < w.heap.size := by omega
  have y4 : b < w.heap.size := by have := hbb.1; omega
  have y5 : b' < w.heap.size := by have := d2.1; omega
  have i1 : (r : Int) < (maps.length : Int) := by omega
  have i2 : (s : Int) < (S : Int) := by omega
  have i3 : (r : Int) < (n : Int) := by omega
  obtain ⟨t1, t2, t3, t4, t5⟩ := hJ.tab.at_ hr hlt
  have hO' : (M.getD r []).getD s 0 ≤ 1000000000000000 := hO
  obtain ⟨x, hx⟩ : ∃ x, (M.getD r []).getD s 0 = x := ⟨_, rfl⟩
  have Hx := Lib.hid hx
  have t2' : w.cell? ⟨R r, s, none⟩ = some (.int .i64 (x : Int)) := by have := t2; simp only at this; rw [hx] at this; exact this
  have hwr : IntKind.i64.wrap ((x : Int) + 1) = (x : Int) + 1 := IntWalk.i64_in _ (by omega)
  have n1 : ¬ (br = R r) := fun e => hbr.2.2 r hr e
  have n2 : ¬ (bs = R r) := fun e => (hR r hr).2 e.symm
  have n3 : ¬ (b = R r) := fun e => hbb.2.2 r hr e
  have n4 : ¬ (b' = R r) := fun e => d2.2.2 r hr e
  have g6 := fun v => show (w.setCell ⟨R r, s, none⟩ v).drew.cell? ⟨br, 6, none⟩ = _ from (World.cell?_of_block (a := ⟨br, 6, none⟩) (Below.heap_setCell w ⟨R r, s, none⟩ v br n1)).trans x6
  have gs := fun v => show (w.setCell ⟨R r, s, none⟩ v).drew.cell? ⟨bs, 0, none⟩ = _ from (World.cell?_of_block (a := ⟨bs, 0, none⟩) (Below.heap_setCell w ⟨R r, s, none⟩ v bs n2)).trans xs
  have gb := fun v => show (w.setCell ⟨R r, s, none⟩ v).drew.cell? ⟨b, o + r, none⟩ = _ from (World.cell?_of_block (a := ⟨b, o + r, none⟩) (Below.heap_setCell w ⟨R r, s, none⟩ v b n3)).trans d1
  have gb' := fun v => show (w.setCell ⟨R r, s, none⟩ v).drew.cell? ⟨b', o' + s, none⟩ = _ from (World.cell?_of_block (a := ⟨b', o' + s, none⟩) (Below.heap_setCell w ⟨R r, s, none⟩ v b' n4)).trans d3
  have gf := fun v => show (w.setCell ⟨R r, s, none⟩ v).drew.frozen? ⟨bs, 0, none⟩ = _ from (World.frozen?_of_block (a := ⟨bs, 0, none⟩) (Below.heap_setCell w ⟨R r, s, none⟩ v bs n2)).trans xf
  have G6 := Lib.hid g6
  have Gs := Lib.hid gs
  have Gb := Lib.hid gb
  have Gb' := Lib.hid gb'
  have Gf := Lib.hid gf
  unfold maxLen at hmx
  have Hnr : Hid (∀ i, i < n → R i ≠ bs) := fun i hi => (hR i hi).2
  have HBs := Lib.hid hB
  have Hr := Lib.hid hr
  have Hlt := Lib.hid hlt
  clear hcells r1 hm1 hst hrow hM hm hJ hok hC hx hO hO' t2 d2 hbb n1 n3 n4 g6 gs gb gb' gf hR hbr hbo hB
  show Calls Try.prog 123 #[.int .i64 r, .pointer (some ⟨bo, 0, none⟩), .pointer (some ⟨bs, 0, none⟩), .pointer (some ⟨br, 0, none⟩)] w _
  go_enter Try.func123, Try.ntmps123
  go_wp2_with fail
  go_still_tail 9, (by kernel_rfl)
  change wpList _ _ _ _ _ w.drew
  go_wp2_with fail
  have e6 := G6.out (.int .i64 ((x : Int) + 1))
  have es := Gs.out (.int .i64 ((x : Int) + 1))
  have eb := Gb.out (.int .i64 ((x : Int) + 1))
  have eb' := Gb'.out (.int .i64 ((x : Int) + 1))
  have ef := Gf.out (.int .i64 ((x : Int) + 1))
  clear x6 xs d1 d3 xf t1 t2' t3 x0
  have T1 := Lib.hid (HJ.out.tab.add Hr.out Hlt.out 1)
  rw [show (((M.getD r []).getD s 0 + 1 : Nat) : Int) = (x : Int) + 1 by rw [Hx.out]; rfl] at T1
  replace T1 := Lib.hid T1.out.drew
  have W1 : Hid (Wk (fun b => b < w0.heap.size ∧ b ≠ bs ∧ ∀ i, i < n → b ≠ R i) w0 (w.setCell ⟨R r, s, none⟩ (.int .i64 ((x : Int) + 1))).drew) := HJ.out.wk.trans (Wk.set fun h => h.2.2 r Hr.out rfl)
  have W2 : Hid (Wk C w (w.setCell ⟨R r, s, none⟩ (.int .i64 ((x : Int) + 1))).drew) := Wk.set (HJ.out.nr r Hr.out)
  have z0 : (w.setCell ⟨R r, s, none⟩ (.int .i64 ((x : Int) + 1))).drew.heap.size = w.heap.size := by simp
  clear Gf G6 Gs Gb Gb'
  generalize (w.setCell ⟨R r, s, none⟩ (.int .i64 ((x : Int) + 1))).drew = w1 at *
  have v1 : bs < w1.heap.size := by omega
  have v2 : br < w1.heap.size := by omega
  have v4 : b < w1.heap.size := by omega
  have v5 : b' < w1.heap.size := by omega
  clear y1 y2 y3 y4 y5 t4 t5 hwr
  go_still_tail 8, (by kernel_rfl)
  change wpList _ _ _ _ _ w1.drew
  go_wp2_with fail
  go_end0
  have nC : ¬ C bs := HJ.out.nc
  refine ⟨rfl, C, fun _ h => h, ?_, ⟨?_, ?_, ?_, ?_, HJ.out.nc, HJ.out.nr, by show stepM maps s r < S; rw [Hst.out]; exact hmn⟩, ?_⟩
  · intro b h
    have := HC.out b h
    simp [World.setCell]; omega
  · exact W1.out.trans (Wk.set (C := fun b => b < w0.heap.size ∧ b ≠ bs ∧ ∀ i, i < n → b ≠ R i) (w := w1) (b := bs) (o := 0) (v := .int .i64 (m : Int)) fun h => h.2.1 rfl)
  · show _ = some (Value.int .i64 ((stepM maps s r : Nat) : Int))
    rw [Hst.out]; simp [go_sem, es]
  · simp [go_sem, ef]
  · exact (T1.out.other (c := bs) (o := 0) (by exact HBs.out) (fun i hi => Hnr.out i hi) (.int .i64 (m : Int))).drew
  · exact W2.out.trans (Wk.set nC)
end Go.Proofs.Ytejgbfgocaggfaa
