import Derived.Test.YtfhiaifdigefdaaDoorM6
import Derived.Test.YtfhiaifdigefdaaDoorRows
import Derived.WalkKit
import Derived.ProofKit
import Derived.Below
import Derived.ChangeSame
import Derived.Lib.SmallJoins
import Derived.Carry
import Derived.WideKeyArgs
import Derived.OpenShut
import Derived.Test.YtfhiaifdigefdaaDoorM1
import Derived.Deep.Slices
import Derived.Deep.Fields
import Derived.Test.YtfhiaifdigefdaaDoorM2
import Derived.SevenTiedAt
namespace Go.Proofs.YtfhiaifdigefdaaDoor
open Go.RowKit
theorem idx_str {X : List GRule} {s : ByteArray} {c : UInt8} {d : Nat} (hs : (⟨(wordG X).toArray⟩ : ByteArray) = s) (hc : (wordG X)[d]? = some c) (W : World) :
    (Instr.index 9 (.string s) (.int .i64 (d : Int))).run Tryd.prog W = .ok (.int .u8 (c.toNat : Int)) W := by
  have hl := (List.getElem?_eq_some_iff.1 hc).1
  have hz : s.size = (wordG X).length := by rw [← hs]; show (wordG X).toArray.size = _; simp
  rw [run_index_string (P := Tryd.prog) W 9 s .i64 (d : Int) Tryd.underlying9, dif_pos ⟨by omega, by omega⟩]
  congr 2
  have e : s[((d : Int)).toNat]'(by rw [hz]; simpa using hl) = c := by
    subst hs
    have h2 := (List.getElem?_eq_some_iff.1 hc).2
    show (wordG X).toArray[d] = c
    simpa using h2
  rw [e]
theorem due_more {X : List GRule} {d : Nat} {c c0 : UInt8} (h : ∀ i, i < d → (wordG X)[i]? = (wordG X)[0]?) (hc : (wordG X)[d]? = some c ∧ (wordG X)[0]? = some c0) (e : c = c0) : ∀ i, i < d + 1 → (wordG X)[i]? = (wordG X)[0]? := fun i hi => by
  rcases Nat.lt_or_ge i d with g | g
  · exact h i g
  · rw [show i = d by omega, hc.1, hc.2, e]
theorem cut_from {X : List GRule} {s : ByteArray} {n p : Nat} (hs : (⟨(wordG X).toArray⟩ : ByteArray) = s) (hn : (wordG X).length = n) (hp : p ≤ n) (W : World) :
    (Instr.slice 9 (.string s) (some (.int .i64 (p : Int))) none none).run Tryd.prog W = .ok (.string ⟨((wordG X).drop p).toArray⟩) W := by
  have hz : s.size = (wordG X).length := by rw [← hs]; show (wordG X).toArray.size = _; simp
  rw [run_slice_string_l (P := Tryd.prog) W 9 s Tryd.underlying9 .i64 (p : Int) (by omega) (by omega)]
  congr 2
  subst hs
  rw [cut_ext, show ((p : Int)).toNat = p from rfl, hz, List.take_length]
theorem cut_to {X : List GRule} {s : ByteArray} {p : Nat} (hs : (⟨(wordG X).toArray⟩ : ByteArray) = s) (hp : p ≤ (wordG X).length) (W : World) :
    (Instr.slice 9 (.string s) none (some (.int .i64 (p : Int))) none).run Tryd.prog W = .ok (.string ⟨((wordG X).take p).toArray⟩) W := by
  have hz : s.size = (wordG X).length := by rw [← hs]; show (wordG X).toArray.size = _; simp
  rw [run_slice_string_h (P := Tryd.prog) W 9 s Tryd.underlying9 .i64 (p : Int) (by omega) (by omega)]
  congr 2
  subst hs
  rw [cut_ext, List.drop_zero, show ((p : Int)).toNat = p from rfl]
theorem eq_bytes (a b : List UInt8) : ((⟨a.toArray⟩ : ByteArray).toList == (⟨b.toArray⟩ : ByteArray).toList) = decide (a = b) := by
  by_cases h : a = b
  · rw [decide_eq_true h, h]; simp
  · rw [decide_eq_false h, beq_eq_false_iff_ne]
    intro q
    rw [ByteArray.toList_eq, ByteArray.toList_eq] at q
    exact h (by simpa using q)
theorem eq_rev {X : List GRule} {s : ByteArray} (hs : (⟨(wordG X).toArray⟩ : ByteArray) = s) : (s.toList == (⟨s.data.toList.reverse.toArray⟩ : ByteArray).toList) = decide (wordG X = (wordG X).reverse) := by
  subst hs
  rw [eq_bytes]
set_option maxRecDepth 100000 in
set_option maxHeartbeats 8000000 in
theorem lawPeriods_any (v v' : Value) (l l' : List UInt8) (w : World) (h : Sl ByteE w w.heap.size v l) (h' : Sl ByteE w w.heap.size v' l') (htab : Lib.TabIs Tryd.prog w "math/bits.deBruijn64tab" .u8 deB64) :
    Calls Tryd.prog 4 #[v, v'] w fun r w' => r = .returned (.bool true) ∧ Below w.heap.size w w' := by
  have HL := Lib.hid h
  have HM := Lib.hid h'
  have HT := Lib.hid htab
  obtain ⟨A, c, rfl, _⟩ := h
  obtain ⟨A', c', rfl, _⟩ := h'
  clear htab
  go_enter Tryd.func4, Tryd.ntmps4
  go_wp2_with fail
  refine (a2Long_any _ _ l l' _ HL.out HM.out).mono ?_
  rintro r w0 ⟨rfl, rfl⟩
  cases hlong : (decide ((3000 : Int) < l.length) || decide ((3000 : Int) < l'.length)) with
  | true =>
    go_wp2_with fail
    go_ret
    exact ⟨rfl, Below.refl _ _⟩
  | false =>
    clear hlong
    go_wp2_with fail
    refine (A2Grammar_any _ l 8 _ HL.out).mono ?_
    rintro r w1 ⟨u1, xs, rfl, hsl, hdr, hl14, hb1⟩
    obtain ⟨AG, cGx, rfl, _⟩ := (id hsl : Sl RuleE w1 w1.heap.size u1 xs)
    have HDR := Lib.hid hdr
    have SG1 := Lib.hid hsl
    have HB1 := Lib.hid hb1
    have SM1 := Lib.hid (HM.out.up HB1.out)
    clear hb1 hdr hsl
    go_wp2_with fail
    refine (a2At_any _ l' 0 4 _ SM1.out (by omega) (by omega)).mono ?_
    rintro r wa ⟨xa, rfl, a0, a1, rfl⟩
    obtain ⟨t, ht⟩ : ∃ n : Nat, (n : Int) = 1 + xa := ⟨(1 + xa).toNat, by omega⟩
    have war : IntKind.i64.wrap (1 + xa) = (t : Int) := by rw [IntWalk.i64_in _ (by omega)]; omega
    have rt : 1 ≤ t ∧ t ≤ 4 := by omega
    clear a0 a1 ht
    have HP := Lib.hid (per_law HDR.out hl14 rt.1 rt.2)
    obtain ⟨X, hX⟩ : ∃ O, powOut xs (t : Int) = O := ⟨_, rfl⟩
    rw [hX] at HP
    obtain ⟨n, hn⟩ : ∃ n, (wordG X).length = n := ⟨_, rfl⟩
    rw [hn] at HP
    have HX := Lib.hid hX
    have n1 := HP.out.n1
    have n32 := HP.out.n32
    have x18 := HP.out.xl
    clear hX hn
    go_wp2_with fail
    refine (implPower_any _ xs t _ SG1.out (by omega) (tab_below HT.out HB1.out)).mono ?_
    rintro r wpX ⟨hb, vpX, own, rfl⟩
    rw [HX.out] at own
    rw [HP.out.code]
    obtain ⟨AX, cXx, rfl, _⟩ := own_nil own
    have ba := (Below.refl _ wpX).alloc (Nat.le_refl _) (.cells #[.slice AX X.length cXx] 26)
    have nR := JR.new own
    have hb9 := Below.tr hb ba
    have SG2 := Lib.hid (SG1.out.up hb9)
    have SM2 := Lib.hid (SM1.out.up hb9)
    have HB2 := Lib.hid (Below.tr HB1.out hb9)
    clear SG1 SM1 HB1
    have RX2 := Lib.hid nR
    clear hb ba nR hb9 own
    have cX := Blk.cell (i := 0) (v := .slice AX X.length cXx) RX2.out.b rfl
    have lX := RX2.out.b.lt
    have HSZ := Lib.hid (gram_smallL HP.out.ok)
    go_wp2_with fail
    refine (specValidGrammar_any _ X _ RX2.out.s HSZ.out).mono ?_
    rintro r wv ⟨rfl, hb⟩
    rw [HP.out.ok]
    have SG3 := Lib.hid (SG2.out.up hb)
    have SM3 := Lib.hid (SM2.out.up hb)
    have RX3 := Lib.hid (RX2.out.up hb)
    have HB3 := Lib.hid (Below.tr HB2.out hb)
    clear SG2 SM2 RX2 HB2
    clear hb cX lX
    have cX := Blk.cell (i := 0) (v := .slice AX X.length cXx) RX3.out.b rfl
    have lX := RX3.out.b.lt
    go_wp2_with fail
    refine (Unpacked_any _ X _ RX3.out.s HSZ.out).mono ?_
    rintro r wu ⟨rfl, hb⟩
    rw [HP.out.up]
    have SG4 := Lib.hid (SG3.out.up hb)
    have SM4 := Lib.hid (SM3.out.up hb)
    have RX4 := Lib.hid (RX3.out.up hb)
    have HB4 := Lib.hid (Below.tr HB3.out hb)
    clear SG3 SM3 RX3 HB3
    clear hb cX lX
    obtain ⟨sw, hsw⟩ : ∃ s, (⟨(wordG X).toArray⟩ : ByteArray) = s := ⟨_, rfl⟩
    have hsz : sw.size = n := by rw [← hsw]; show (wordG X).toArray.size = n; rw [List.size_toArray]; exact HP.out.len
    rw [hsw]
    have HSW := Lib.hid hsw
    have HSN := Lib.hid hsz
    clear hsw
    go_wp2_with fail
    refine (a2At_any _ l' 1 n _ SM4.out (by omega) (by omega)).mono ?_
    rintro r wa ⟨xp, rfl, a0, a1, rfl⟩
    obtain ⟨p, hp⟩ : ∃ n : Nat, (n : Int) = 1 + xp := ⟨(1 + xp).toNat, by omega⟩
    have wpr : IntKind.i64.wrap (1 + xp) = (p : Int) := by rw [IntWalk.i64_in _ (by omega)]; omega
    have rp : 1 ≤ p ∧ p ≤ n := by omega
    clear a0 a1 hp
    have cX := Blk.cell (i := 0) (v := .slice AX X.length cXx) RX4.out.b rfl
    have lX := RX4.out.b.lt
    go_wp2_with fail
    refine (hasPeriod_any _ X p _ RX4.out.s HP.out.ok (by omega) (by rw [HP.out.gl]; omega)).mono ?_
    rintro r wh ⟨rfl, hb⟩
    rw [HP.out.per p rp.2]
    have SG5 := Lib.hid (SG4.out.up hb)
    have SM5 := Lib.hid (SM4.out.up hb)
    have RX5 := Lib.hid (RX4.out.up hb)
    have HB5 := Lib.hid (Below.tr HB4.out hb)
    clear SG4 SM4 RX4 HB4
    clear hb cX lX
    have cX := Blk.cell (i := 0) (v := .slice AX X.length cXx) RX5.out.b rfl
    have lX := RX5.out.b.lt
    go_wp2_with fail
    refine (isPal_any _ X _ RX5.out.s HP.out.ok HP.out.okT).mono ?_
    rintro r wi ⟨rfl, hb⟩
    rw [HP.out.pal]
    have SG6 := Lib.hid (SG5.out.up hb)
    have SM6 := Lib.hid (SM5.out.up hb)
    have RX6 := Lib.hid (RX5.out.up hb)
    have HB6 := Lib.hid (Below.tr HB5.out hb)
    clear SG5 SM5 RX5 HB5
    clear hb cX lX
    have cX := Blk.cell (i := 0) (v := .slice AX X.length cXx) RX6.out.b rfl
    have lX := RX6.out.b.lt
    go_wp2_with fail
    refine (firstUnlike_any _ X n _ RX6.out.s HP.out.ok HP.out.gl n1).mono ?_
    rintro r wf ⟨rfl, hb⟩
    have SG7 := Lib.hid (SG6.out.up hb)
    have SM7 := Lib.hid (SM6.out.up hb)
    have RX7 := Lib.hid (RX6.out.up hb)
    have HB7 := Lib.hid (Below.tr HB6.out hb)
    clear SG6 SM6 RX6 HB6
    clear hb cX lX
    have HWL := Lib.hid HP.out.len
    go_wp2_with fail
    go_loopw [16] (fun vd wx => ∃ d : Nat, vd = .int .i64 (d : Int) ∧ 1 ≤ d ∧ d ≤ n ∧ Hid (∀ i, i < d → (wordG X)[i]? = (wordG X)[0]?) ∧ Below wf.heap.size wf wx) (fun vd _ => n - (intOf vd).toNat)
    case atStart => exact ⟨1, rfl, Nat.le_refl _, n1, fun i hi => by rw [show i = 0 by omega], Below.refl _ _⟩
    case round =>
      obtain ⟨d, rfl, d1, dn, HD, hbw⟩ := hrel
      by_cases hdn : d < n
      · have hI : (d : Int) < (n : Int) := by omega
        obtain ⟨c, hc⟩ : ∃ c, (wordG X)[d]? = some c := ⟨_, List.getElem?_eq_getElem (by rw [HWL.out]; exact hdn)⟩
        obtain ⟨c0, hc0⟩ : ∃ c, (wordG X)[0]? = some c := ⟨_, List.getElem?_eq_getElem (by rw [HWL.out]; omega)⟩
        have hix := fun W => idx_str (X := X) HSW.out hc W
        have hi0 : ∀ W, (Instr.index 9 (.string sw) (.int .i64 0)).run Tryd.prog W = .ok (.int .u8 (c0.toNat : Int)) W := fun W => idx_str (X := X) HSW.out hc0 W
        have hdI : decide (d < n) = true := decide_eq_true hdn
        have HBW := Lib.hid hbw
        have wd1 : IntKind.i64.wrap ((d : Int) + 1) = (d : Int) + 1 := IntWalk.i64_in _ (by omega)
        have HCC := Lib.hid (And.intro hc hc0)
        clear hbw hc hc0
        by_cases hcc : c = c0
        · have hcE : ((c.toNat : Int) == (c0.toNat : Int)) = true := by rw [hcc]; simp
          go_wp2_with fail
          go_quiet (fail)
          go_wp2_with fail
          go_roundw
          case rel => exact ⟨d + 1, by go_num, by omega, by omega, due_more HD.out HCC.out hcc, below_drewN HBW.out _⟩
          case measure => simp [intOf]; omega
        · have hne : ((c.toNat : Int) == (c0.toNat : Int)) = false := by rw [beq_eq_false_iff_ne]; intro q; exact hcc (UInt8.toNat_inj.1 (by omega))
          have hdue : DueP (wordG X) d := ⟨d1, by rw [HWL.out]; exact dn, HD.out, Or.inr (by rw [HCC.out.1, HCC.out.2]; exact fun q => hcc (Option.some.inj q))⟩
          have hdE : ((d : Int) == (n : Int)) = false := by rw [beq_eq_false_iff_ne]; omega
          have hunV : unlV n d = (d : Int) := if_neg (by omega)
          have hunE : unlE n d = 0 := if_neg (by omega)
          go_wp2_with fail
          go_quiet (fail)
          have HU := Lib.hid (HP.out.unl d hdue)
          rw [HU.out, hunV, hunE]
          generalize hWQ : World.drewN wr _ = WQ
          have HBX := Lib.hid (show Below w.heap.size w WQ from by rw [← hWQ]; exact below_drewN (Below.tr HB7.out HBW.out) _)
          clear hWQ
          obtain ⟨b1, hb1⟩ : ∃ b, decide ((wordG X).drop p = (wordG X).take (n - p)) = b := ⟨_, rfl⟩
          obtain ⟨b2, hb2⟩ : ∃ b, decide (wordG X = (wordG X).reverse) = b := ⟨_, rfl⟩
          have hs1 := fun W => cut_from (X := X) HSW.out HWL.out rp.2 W
          have hs2 := fun W => cut_to (X := X) HSW.out (show n - p ≤ (wordG X).length by rw [HWL.out]; omega) W
          have hq1 := eq_bytes ((wordG X).drop p) ((wordG X).take (n - p))
          rw [hb1] at hq1
          have hq2 := eq_rev (X := X) HSW.out
          rw [hb2] at hq2
          rw [hb1, hb2]
          obtain ⟨S1, hS1⟩ : ∃ S : ByteArray, (⟨((wordG X).drop p).toArray⟩ : ByteArray) = S := ⟨_, rfl⟩
          obtain ⟨S2, hS2⟩ : ∃ S : ByteArray, (⟨((wordG X).take (n - p)).toArray⟩ : ByteArray) = S := ⟨_, rfl⟩
          rw [hS1, hS2] at hq1
          rw [hS1] at hs1
          rw [hS2] at hs2
          obtain ⟨T1, hT1⟩ : ∃ S : ByteArray, (⟨sw.data.toList.reverse.toArray⟩ : ByteArray) = S := ⟨_, rfl⟩
          rw [hT1] at hq2
          have HTT := Lib.hid hT1
          have hsx : sw.size ≤ 1000000 := by rw [HSN.out]; omega
          have wnp : IntKind.i64.wrap ((n : Int) - (p : Int)) = ((n - p : Nat) : Int) := by rw [IntWalk.i64_in _ (by omega)]; omega
          clear hb1 hb2 hS1 hS2 hT1 hdue
          go_wp2_with fail
          have KD : Below WQ.heap.size WQ WQ.drew := Below.drew (Below.refl _ _)
          have HTU := Lib.hid (fun W => Turned_any sw W hsx)
          cases b1 <;> cases b2 <;>
            (go_region_held3 (fun w' => Below WQ.heap.size WQ w') (first | (with_reducible exact KD) | (with_reducible exact d1))
              (first | (go_at_call 21; (with_reducible refine (HTU.out _).mono ?_); rintro r t1 ⟨rfl, hb1⟩; have d1 : Below WQ.heap.size WQ t1 := Below.undrew hb1; rw [HTT.out])))
          all_goals (have HBF := Lib.hid (Below.tr HBX.out d1))
          all_goals clear d1 KD HBX
          all_goals go_wp2_with fail
          all_goals go_ret
          all_goals exact ⟨rfl, HBF.out⟩
      · have hde : d = n := by omega
        have hI : ¬ (d : Int) < (n : Int) := by omega
        have hdI : decide (d < n) = false := decide_eq_false hdn
        have hdE : ((d : Int) == (n : Int)) = true := by rw [beq_iff_eq]; omega
        have hunV : unlV n d = 0 := if_pos hde
        have hunE : unlE n d = 6 := if_pos hde
        have hdue : DueP (wordG X) d := ⟨d1, by rw [HWL.out]; exact dn, HD.out, Or.inl (by rw [HWL.out]; exact hde)⟩
        have HBW := Lib.hid hbw
        clear hbw hde
        go_wp2_with fail
        go_quiet (fail)
        have HU := Lib.hid (HP.out.unl d hdue)
        rw [HU.out, hunV, hunE]
        generalize hWQ : World.drewN wr _ = WQ
        have HBX := Lib.hid (show Below w.heap.size w WQ from by rw [← hWQ]; exact below_drewN (Below.tr HB7.out HBW.out) _)
        clear hWQ
        obtain ⟨b1, hb1⟩ : ∃ b, decide ((wordG X).drop p = (wordG X).take (n - p)) = b := ⟨_, rfl⟩
        obtain ⟨b2, hb2⟩ : ∃ b, decide (wordG X = (wordG X).reverse) = b := ⟨_, rfl⟩
        have hs1 := fun W => cut_from (X := X) HSW.out HWL.out rp.2 W
        have hs2 := fun W => cut_to (X := X) HSW.out (show n - p ≤ (wordG X).length by rw [HWL.out]; omega) W
        have hq1 := eq_bytes ((wordG X).drop p) ((wordG X).take (n - p))
        rw [hb1] at hq1
        have hq2 := eq_rev (X := X) HSW.out
        rw [hb2] at hq2
        rw [hb1, hb2]
        obtain ⟨S1, hS1⟩ : ∃ S : ByteArray, (⟨((wordG X).drop p).toArray⟩ : ByteArray) = S := ⟨_, rfl⟩
        obtain ⟨S2, hS2⟩ : ∃ S : ByteArray, (⟨((wordG X).take (n - p)).toArray⟩ : ByteArray) = S := ⟨_, rfl⟩
        rw [hS1, hS2] at hq1
        rw [hS1] at hs1
        rw [hS2] at hs2
        obtain ⟨T1, hT1⟩ : ∃ S : ByteArray, (⟨sw.data.toList.reverse.toArray⟩ : ByteArray) = S := ⟨_, rfl⟩
        rw [hT1] at hq2
        have HTT := Lib.hid hT1
        have hsx : sw.size ≤ 1000000 := by rw [HSN.out]; omega
        have wnp : IntKind.i64.wrap ((n : Int) - (p : Int)) = ((n - p : Nat) : Int) := by rw [IntWalk.i64_in _ (by omega)]; omega
        clear hb1 hb2 hS1 hS2 hT1 hdue
        go_wp2_with fail
        have KD : Below WQ.heap.size WQ WQ.drew := Below.drew (Below.refl _ _)
        have HTU := Lib.hid (fun W => Turned_any sw W hsx)
        cases b1 <;> cases b2 <;>
          (go_region_held3 (fun w' => Below WQ.heap.size WQ w') (first | (with_reducible exact KD) | (with_reducible exact d1))
            (first | (go_at_call 21; (with_reducible refine (HTU.out _).mono ?_); rintro r t1 ⟨rfl, hb1⟩; have d1 : Below WQ.heap.size WQ t1 := Below.undrew hb1; rw [HTT.out])))
        all_goals (have HBF := Lib.hid (Below.tr HBX.out d1))
        all_goals clear d1 KD HBX
        all_goals go_wp2_with fail
        all_goals go_ret
        all_goals exact ⟨rfl, HBF.out⟩
open Go.RowKit Go.WideShapes Go.ChangeShapes
section
variable {H : Type} {enc : TypeId × Value → H} {P : Program}
theorem post_of_below {f : Func} {s : ChangeSpec} {apart fresh handsOn again : Bool} {W W' : World} {args : Array Value} {v : Value} {ds gs : List (DataW H)} {before pa pv : List MemPlace}
    (hW : DataW.Whole enc P f.params.toList s.vars apart W args.toList ds gs before)
    (hres : ∀ (b : Nat) (sp : Nat → Bool) (hd : Bool), DataW.TrodAll enc P W' b sp hd f.resultTypes.toList (v.resultList f.resultTypes.size) (s.fn H (ds ++ gs)).results [])
    (hargs : ∀ sp : Nat → Bool, (∀ p ∈ before, sp p.block = true) → DataW.TrodAll enc P W' 0 sp true f.params.toList args.toList (s.fn H (ds ++ gs)).args pa)
    (hvars : ∀ sp : Nat → Bool, (∀ p ∈ before, sp p.block = true) → DataW.TrodVars enc P W' sp s.vars (s.fn H (ds ++ gs)).vars pv)
    (hps : before = pa ++ pv) (hb : Below W.heap.size W W')
    (hok : ∀ (j : Nat) (t : TypeId) (r : Value), f.resultTypes[j]? = some t → (v.resultList f.resultTypes.size)[j]? = some r → Value.okWide P W' .any 0 t r) :
    s.post enc P f apart fresh handsOn again W args v W' := by
  have hlt : ∀ p ∈ before, p.block < W.heap.size := fun p hp => hW.lt p hp
  have hold : ∀ p ∈ before, (fun b => decide (b < W.heap.size)) p.block = true := fun p hp => by simpa using hlt p hp
  refine ⟨ds, gs, before, [], pa, pv, hW, hres _ _ _, hargs _ hold, hvars _ hold, World.keptBut_mono (fun p hp => ⟨hp, ?_⟩) (hb.frame (· ∈ before)), fun _ => ?_⟩
  · rw [hps, List.mem_append] at hp
    exact Or.inr hp
  · obtain ⟨_, _, _, _, _, hz, hn⟩ := hW
    refine ⟨hok, _, _, ([] ++ pa) ++ pv, ⟨[] ++ pa, pv, trodAll_append (hargs _ (fun _ _ => rfl)) (hres _ _ _), hvars _ (fun _ _ => rfl), rfl, ?_, ?_⟩, ?_⟩
    · intro b off hp
      have hin : MemPlace.cell b off ∈ before := by rw [hps]; simpa using hp
      rw [hb.frozen (hlt _ hin)]
      exact hz b off hin
    · intro ha
      have := hn ha
      rw [hps] at this
      simpa using this
    · intro p hp _
      rw [hps]
      simpa using hp
theorem trodAll_below (hl : laidOutB P = true) {W W' : World} (hb : Below W.heap.size W W') : ∀ {ts : List TypeId} {vs : List Value} {ds : List (DataW H)} {ps : List MemPlace},
    (∀ t ∈ ts, P.readableRec t = true ∧ t < P.types.size) → DataW.TrodAll enc P W 0 (fun _ => true) true ts vs ds ps → (∀ x ∈ ps, x.block < W.heap.size) → ∀ sp : Nat → Bool, (∀ p ∈ ps, sp p.block = true) →
    DataW.TrodAll enc P W' 0 sp true ts vs ds ps
  | [], _, _, _, _, h, _, _, _ => by
    obtain ⟨rfl, rfl, rfl⟩ := trodAll_nil h
    exact trodAll_mk0
  | t :: ts, vs, ds, ps, hts, h, hlt, sp, hsp => by
    obtain ⟨v, vs', d, ds', p, q, rfl, rfl, rfl, h0, r0⟩ := trodAll_cons h
    refine trodAll_cons_mk (WideElems.Trod_stays hl (hts t (by simp)).1 (hts t (by simp)).2 h0 (fun x hx => hb.same (hlt x (by simp [hx]))) (fun x hx => hsp x (by simp [hx]))) ?_
    exact trodAll_below hl hb (fun t ht => hts t (by simp [ht])) r0 (fun x hx => hlt x (by simp [hx])) sp (fun x hx => hsp x (by simp [hx]))
end
theorem laidOut : laidOutB Tryd.prog = true := by kernel_rfl
theorem own : ownKnob Tryd.prog.godebug = none := by kernel_rfl
open Go.RowKit Go.ChangeShapes Go.WideShapes Go.Deep
section
variable {H : Type} {enc : TypeId × Value → H} {P : Program} {w : World} {base : Nat} {spare : Nat → Bool} {held : Bool}
theorem add_plain (b o n : Nat) : (⟨b, o, none⟩ : Addr).add n = ⟨b, o + n, none⟩ := by unfold Addr.add; split <;> simp_all
theorem spot_none {a : Addr} {v : Value} (h : w.cell? a = some v) : a = ⟨a.block, a.off, none⟩ ∧ a.block < w.heap.size := by
  have hl := World.block_lt_of_cell? w a h
  refine ⟨?_, hl⟩
  obtain ⟨b, o, s⟩ := a
  unfold World.cell? at h
  cases s with
  | none => rfl
  | some s => split at h <;> simp at h
theorem len_map_range {α : Type} (f : Nat → α) (n : Nat) : ((List.range n).map f).length = n := by simp
end
open Go.RowKit Go.ChangeShapes Go.WideShapes Go.Deep
def Opens {α : Type} (P : Program) (E : Enc α) (Q : α → Prop) (t : TypeId) : Prop :=
  ∀ {H : Type} (enc : TypeId × Value → H) (w : World) (base : Nat) (spare : Nat → Bool) (held : Bool) (fuel : Nat) (cs : List Value) (x : DataW H × List MemPlace), DataW.trod enc P w base spare held fuel t cs = some x → ∃ a, E.cells w (· < w.heap.size) a cs ∧ Q a
instance : Inhabited GRule := ⟨⟨⟨#[]⟩, 0, 0⟩⟩
theorem opens_slice {α : Type} {P : Program} {E : Enc α} {Q : α → Prop} {t e : TypeId} [Inhabited α] (hE : Opens P E Q e) (ht : P.underlying t = some (.slice e)) (hC : P.cellsOf e = E.size) : Opens P (SliceE E) (fun xs => ∀ x ∈ xs, Q x) t := by
  intro H enc w base spare held fuel cs x h
  rcases open_slice ht h with ⟨h0, _⟩ | ⟨a, len, cap, m, n, D, Pl, hcs, hb, hl, hm, hmm, hx, hi⟩
  · exact ⟨[], ⟨_, h0, SlS.nil _ _⟩, fun x hx => by simp at hx⟩
  · have hmle : len ≤ m := by rw [hmm]; split <;> omega
    have Hh : ∀ i, i < len → ∃ r : α, ∃ cs', E.cells w (· < w.heap.size) r cs' ∧ (∀ j u, cs'[j]? = some u → w.cell? (a.add (i * E.size + j)) = some u) ∧ Q r := by
      intro i hil
      obtain ⟨cs', hc, ht'⟩ := hi i (by omega)
      obtain ⟨r, hr, hq⟩ := hE enc w base spare held n cs' _ ht'
      obtain ⟨_, hcl, hat⟩ := World.cells?_some hc
      refine ⟨r, cs', hr, fun j u hu => ?_, hq⟩
      have hj : j < cs'.length := (List.getElem?_eq_some_iff.1 hu).1
      rw [← Go.Deep.add_add, ← hC, hat j (by omega), hu]
    obtain ⟨F, hF⟩ := choose_lt Hh
    clear Hh
    refine ⟨(List.range len).map F, ⟨.slice (some a) len cap, hcs, some a, cap, by rw [len_map_range], by rw [len_map_range]; exact hl, hm, fun hn => ?_⟩, ?_⟩
    · rw [len_map_range] at hn
      obtain ⟨cs', h1, h2, _⟩ := hF 0 hn
      have hlen := E.len h1
      have hpos := E.pos
      have g0 := h2 0 cs'[0] (List.getElem?_eq_getElem (by omega))
      have ha : a.add (0 * E.size + 0) = a := by simp [Addr.add]
      rw [ha] at g0
      obtain ⟨hsp, hlt⟩ := spot_none g0
      refine ⟨a.block, a.off, by rw [← hsp], hlt, fun k r hr => ?_⟩
      have hk : k < len := by
        have := (List.getElem?_eq_some_iff.1 hr).1
        rw [len_map_range] at this; exact this
      have er : F k = r := by
        rw [List.getElem?_map, List.getElem?_range hk] at hr; simpa using hr
      obtain ⟨cs'', h3, h4, _⟩ := hF k hk
      rw [er] at h3
      refine ⟨cs'', h3, fun j u hu => ?_⟩
      have := h4 j u hu
      rw [hsp, add_plain] at this
      exact this
    · intro r hr
      rw [List.mem_map] at hr
      obtain ⟨k, hk, rfl⟩ := hr
      exact (hF k (by simpa using hk)).choose_spec.2.2
open Go.ChangeShapes Go.WideShapes Go.ChangeAt Go.RowKit Go.Joins Go.Deep
theorem opens_byte {P : Program} {t : TypeId} (ht : P.underlying t = some (.int .u8)) : Opens P ByteE (fun _ => True) t := by
  intro H enc w base spare held fuel cs x h
  obtain ⟨p, e1, _, e2⟩ := DataW.trod_int ht h
  have hp : 0 ≤ p ∧ p < 256 := by
    have h1 : IntKind.u8.min ≤ p ∧ p ≤ IntKind.u8.max := by simpa [Lit.wf] using e2
    have m1 : IntKind.u8.min = 0 := by decide
    have m2 : IntKind.u8.max = 255 := by decide
    rw [m1, m2] at h1
    omega
  refine ⟨UInt8.ofNat p.toNat, ?_, trivial⟩
  rw [e1]
  have : (UInt8.ofNat p.toNat).toNat = p.toNat := by rw [UInt8.toNat_ofNat']; omega
  show [Value.int .u8 p] = [.int .u8 ((UInt8.ofNat p.toNat).toNat : Int)]
  rw [this]
  congr 2
  omega
instance : Inhabited UInt8 := ⟨0⟩
set_option maxRecDepth 100000 in
theorem opensBytes : Opens Tryd.prog (SliceE ByteE) (fun xs => ∀ x ∈ xs, True) 22 := opens_slice (opens_byte Tryd.underlying5) Tryd.underlying22 (by kernel_rfl)
set_option maxRecDepth 100000 in
theorem open_bytes {H : Type} {enc : TypeId × Value → H} {w : World} {base : Nat} {spare : Nat → Bool} {held : Bool} {r : Reach} {b0 : Nat} {v : Value} {d : DataW H} {p : List MemPlace}
    (hv : Value.okWide Tryd.prog w r b0 22 v) (h : DataW.Trod enc Tryd.prog w base spare held 22 v d p) : ∃ xs, Sl ByteE w w.heap.size v xs := by
  obtain ⟨a, len, cap, rfl⟩ := okWide_slice Tryd.underlying22 hv
  obtain ⟨fuel, hf⟩ := h
  obtain ⟨xs, ⟨u, e1, hsl⟩, _⟩ := opensBytes enc w base spare held fuel [.slice a len cap] _ (by simpa [Value.cells] using hf)
  simp at e1
  subst e1
  exact ⟨xs, hsl⟩
theorem goes_none {P : Program} (h : P.funcs.any Func.goes = false) (f : FuncId) : P.goes f = false := by
  have h1 : ∀ g : Nat, (P.funcs[g]?).any Func.goes = false := by
    intro g
    cases hg : P.funcs[g]? with
    | none => rfl
    | some x =>
      obtain ⟨hi, rfl⟩ := Array.getElem?_eq_some_iff.1 hg
      have := Array.any_eq_false.1 h g hi
      simpa using this
  unfold Program.goes
  rw [h]
  simp only [h1]
  simp
theorem goes_by {c : OpenClaim} {P : Program} (h : P.funcs.any Func.goes = false) (hs : c.start = .entering) : false = c.goesBy P := by
  unfold OpenClaim.goesBy Program.goesAt Program.goesFrom
  rw [hs]
  cases P.funcNamed c.func with
  | none => rfl
  | some f => simp [goes_none h f]
theorem Tryd.no_go : Tryd.pinned.checked.prog.funcs.any Func.goes = false := by kernel_rfl
end Go.Proofs.YtfhiaifdigefdaaDoor
