import Derived.Test.YtfkijaamfmpboaaM6
import Derived.Test.YtfkijaamfmpboaaM3
import Derived.Test.YtfkijaamfmpboaaM2
import Derived.Test.YtfkijaamfmpboaaM4
import Derived.Test.YtfkijaamfmpboaaRows
import Derived.WalkKit
import Derived.ProofKit
import Derived.Below
import Derived.ChangeSame
import Derived.Lib.SmallJoins
import Derived.Carry
import Derived.WideKeyArgs
import Derived.OpenShut
import Derived.Test.YtfkijaamfmpboaaM1
import Derived.Deep.Slices
import Derived.Deep.Fields
namespace Go.Proofs.Ytfkijaamfmpboaa
open Go.RowKit
def emN (xs : List GRule) (p : ByteArray) : Nat := (embF (wordG xs) p.data.toList 0).length
theorem efL_len (xs : List GRule) (p : ByteArray) : (efL xs p).length = emN xs p := by unfold efL emN; rw [List.length_map]
theorem emN_le (xs : List GRule) (p : ByteArray) : emN xs p ≤ p.size := by
  have := embF_le (wordG xs) p.data.toList 0; rw [Array.length_toList] at this; exact this
set_option maxRecDepth 100000 in
set_option maxHeartbeats 4000000 in
theorem specEmbedFirst_any (vR : Value) (xs : List GRule) (p : ByteArray) (w : World) (hR : Sl RuleE w w.heap.size vR xs) (hg : gramOk xs = true) (hw : wordOk p = true) :
    Calls Try.prog 21 #[.agg #[vR], .string p] w (EfPost xs p w) := by
  have HR := Lib.hid hR
  have hsm := gram_small1 hg
  obtain ⟨h4, ls, hl⟩ := gram_lens hg
  have HSm := Lib.hid hsm
  have Hl := Lib.hid hl
  have Hg := Lib.hid hg
  have Hw := Lib.hid hw
  have h2000 := word_2000 hw
  have hps : p.size ≤ maxLen := by unfold maxLen; omega
  obtain ⟨AR, cR, rfl, _⟩ := hR
  have Hc := Lib.hid (show efC xs p = if emN xs p < p.size then 6 else 0 by rw [efC, hg, hw, efL_len]; rfl)
  clear hg hw hl hsm
  go_enter Try.func21, Try.ntmps21
  go_upto_region 1 with fail
  have ka := (Below.refl w.heap.size w).alloc (Nat.le_refl _) (Obj.cells #[.slice AR xs.length cR] 30)
  have kg := Blk.new w #[.slice AR xs.length cR] 30
  generalize w.alloc (Obj.cells #[.slice AR xs.length cR] 30) = w1 at *
  have B1 := Lib.hid ka
  have HR1 := Lib.hid (HR.out.up ka)
  have KG := Lib.hid kg
  have g0 := Blk.cell (i := 0) (v := .slice AR xs.length cR) kg rfl
  have gl := Blk.lt kg
  clear ka kg
  go_wp2_with fail
  refine (l02Ok_any w.heap.size 0 _ xs w1 g0 gl HR1.out HSm.out).mono ?_
  rintro r w2 ⟨rfl, hb2⟩
  rw [Hg.out]
  have B2 := Lib.hid (Below.tr B1.out hb2)
  have HR2 := Lib.hid (HR1.out.up hb2)
  have K2 := Lib.hid (KG.out.up hb2)
  clear hb2 g0 gl
  go_wp2_with fail
  refine (l01Ok_any p _ hps).mono ?_
  rintro r w3 ⟨rfl, rfl⟩
  rw [Hw.out]
  have g0 := Blk.cell (i := 0) (v := .slice AR xs.length cR) K2.out rfl
  have gl := Blk.lt K2.out
  go_wp2_with fail
  refine (l05Embed_any w.heap.size _ xs ls p w2 HR2.out HSm.out g0 gl Hl.out h4 Hw.out h2000).mono ?_
  rintro e w5 ⟨v5, rfl, own5, hb5⟩
  have B5 := Lib.hid (Below.tr B2.out hb5)
  have hz := B2.out.size
  have hlen : (efL xs p).length = emN xs p := efL_len xs p
  have hle := emN_le xs p
  obtain ⟨L, hL⟩ : ∃ L, efL xs p = L := ⟨_, rfl⟩
  obtain ⟨n, hn⟩ : ∃ n, emN xs p = n := ⟨_, rfl⟩
  rw [hL] at own5 hlen
  rw [hn] at Hc hlen hle
  have HL := Lib.hid hL
  obtain ⟨A5, c5, rfl, _⟩ := own_nil own5
  have Own5 := Lib.hid (ownsRow_more own5 hz)
  have own5b : Hid (OwnInts w5 w.heap.size (.slice A5 n c5) L) := by have := Own5.out; rw [hlen] at this; unfold OwnInts; rw [hlen]; exact this
  rw [hlen]
  clear hb5 own5 hL g0 gl Own5 hlen hn
  by_cases hlt : n < p.size
  · have hI : (n : Int) < (p.size : Int) := by omega
    have Hc2 := Lib.hid (show efC xs p = 6 by rw [Hc.out, if_pos hlt])
    clear hlt
    go_wp2_with fail
    go_ret2
    refine ⟨.slice (some ⟨w5.heap.size, 0, none⟩) 0 0, by rw [Hc2.out]; rfl, ?_, B5.out.alloc B5.out.size _⟩
    rw [efV, Hc2.out, if_neg (by decide)]; exact OwnInts.empty rfl B5.out.size
  · have hI : ¬ (n : Int) < (p.size : Int) := by omega
    have Hc2 := Lib.hid (show efC xs p = 0 by rw [Hc.out, if_neg hlt])
    clear hlt
    go_wp2_with fail
    go_ret2
    refine ⟨.slice A5 n c5, by rw [Hc2.out]; rfl, ?_, B5.out⟩
    rw [efV, Hc2.out, if_pos rfl, HL.out]; exact own5b.out
set_option maxRecDepth 100000 in
set_option maxHeartbeats 4000000 in
theorem specEmbStart_any (vR : Value) (xs : List GRule) (p : ByteArray) (w : World) (hR : Sl RuleE w w.heap.size vR xs) (hg : gramOk xs = true) (hw : wordOk p = true) :
    Calls Try.prog 23 #[.agg #[vR], .string p] w fun e w' => e = .returned (.tuple #[.int .i64 (emN xs p : Nat), .int .i64 0]) ∧ Below w.heap.size w w' := by
  have HR := Lib.hid hR
  have hsm := gram_small1 hg
  obtain ⟨h4, ls, hl⟩ := gram_lens hg
  have HSm := Lib.hid hsm
  have Hl := Lib.hid hl
  have Hg := Lib.hid hg
  have Hw := Lib.hid hw
  have h2000 := word_2000 hw
  have hps : p.size ≤ maxLen := by unfold maxLen; omega
  obtain ⟨AR, cR, rfl, _⟩ := hR
  clear hg hw hl hsm
  go_enter Try.func23, Try.ntmps23
  go_upto_region 1 with fail
  have ka := (Below.refl w.heap.size w).alloc (Nat.le_refl _) (Obj.cells #[.slice AR xs.length cR] 30)
  have kg := Blk.new w #[.slice AR xs.length cR] 30
  generalize w.alloc (Obj.cells #[.slice AR xs.length cR] 30) = w1 at *
  have B1 := Lib.hid ka
  have HR1 := Lib.hid (HR.out.up ka)
  have KG := Lib.hid kg
  have g0 := Blk.cell (i := 0) (v := .slice AR xs.length cR) kg rfl
  have gl := Blk.lt kg
  clear ka kg
  go_wp2_with fail
  refine (l02Ok_any w.heap.size 0 _ xs w1 g0 gl HR1.out HSm.out).mono ?_
  rintro r w2 ⟨rfl, hb2⟩
  rw [Hg.out]
  have B2 := Lib.hid (Below.tr B1.out hb2)
  have HR2 := Lib.hid (HR1.out.up hb2)
  have K2 := Lib.hid (KG.out.up hb2)
  clear hb2 g0 gl
  go_wp2_with fail
  refine (l01Ok_any p _ hps).mono ?_
  rintro r w3 ⟨rfl, rfl⟩
  rw [Hw.out]
  have g0 := Blk.cell (i := 0) (v := .slice AR xs.length cR) K2.out rfl
  have gl := Blk.lt K2.out
  go_wp2_with fail
  refine (l05Embed_any w.heap.size _ xs ls p w2 HR2.out HSm.out g0 gl Hl.out h4 Hw.out h2000).mono ?_
  rintro e w5 ⟨v5, rfl, own5, hb5⟩
  have B5 := Lib.hid (Below.tr B2.out hb5)
  obtain ⟨A5, c5, rfl, _⟩ := own_nil own5
  rw [efL_len]
  clear own5 hb5 g0 gl
  go_wp2_with fail
  go_ret2
  exact ⟨rfl, B5.out⟩
set_option maxRecDepth 100000 in
set_option maxHeartbeats 4000000 in
theorem implEmbStart_any (vR : Value) (xs : List GRule) (p : ByteArray) (w : World) (hR : Sl RuleE w w.heap.size vR xs) (hgo : gramOk xs = true) (hw : wordOk p = true) :
    Calls Try.prog 22 #[.agg #[vR], .string p] w fun e w' => e = .returned (.tuple #[.int .i64 (emN xs p : Nat), .int .i64 0]) ∧ Below w.heap.size w w' := by
  have HR := Lib.hid hR
  have hn : xs.length ≤ 1048576 := by have := (gram_lens hgo).1; omega
  have Hw := Lib.hid hw
  have Hgo := Lib.hid hgo
  have h2000 := word_2000 hw
  have hps : p.size ≤ maxLen := by unfold maxLen; omega
  obtain ⟨AR, cR, rfl, _⟩ := hR
  clear hgo hw
  go_enter Try.func22, Try.ntmps22
  go_upto_region 1 with fail
  have ka := (Below.refl w.heap.size w).alloc (Nat.le_refl _) (Obj.cells #[.slice AR xs.length cR] 30)
  have kg := Blk.new w #[.slice AR xs.length cR] 30
  generalize w.alloc (Obj.cells #[.slice AR xs.length cR] 30) = w1 at *
  have B1 := Lib.hid ka
  have HR1 := Lib.hid (HR.out.up ka)
  have g0 := Blk.cell (i := 0) (v := .slice AR xs.length cR) kg rfl
  have gl := Blk.lt kg
  clear ka kg
  go_wp2_with fail
  refine (newCensus_any _ xs _ HR1.out hn).mono ?_
  rintro e w2 ⟨hb2, hpost⟩
  have B2 := Lib.hid (Below.tr B1.out hb2)
  clear hb2 g0 gl
  rcases hpost with ⟨hg, v, ls, hl, rfl, hv⟩ | ⟨hg, rfl⟩
  · have Hl := Lib.hid hl
    have hv0 := hv
    obtain ⟨vR', vL, vM, rfl, h1, h2, h3⟩ := hv
    obtain ⟨A1', c1, rfl, _⟩ := h1
    obtain ⟨A2', c2, rfl, _⟩ := h2
    obtain ⟨A3', c3, rfl, _⟩ := h3
    have ka := (Below.refl w2.heap.size w2).alloc (Nat.le_refl _) (Obj.cells #[.slice A1' xs.length c1, .slice A2' ls.length c2, .slice A3' (manyL xs).length c3] 99)
    have kx := Blk.new w2 #[.slice A1' xs.length c1, .slice A2' ls.length c2, .slice A3' (manyL xs).length c3] 99
    go_upto_region 2 with fail
    generalize w2.alloc (Obj.cells #[.slice A1' xs.length c1, .slice A2' ls.length c2, .slice A3' (manyL xs).length c3] 99) = w3 at *
    have B3 := Lib.hid (Below.tr B2.out ka)
    have HV3 := Lib.hid (hv0.up ka)
    have m0 := Blk.cell (i := 0) (v := .slice A1' xs.length c1) kx rfl
    have m1 := Blk.cell (i := 1) (v := .slice A2' ls.length c2) kx rfl
    have m2 := Blk.cell (i := 2) (v := .slice A3' (manyL xs).length c3) kx rfl
    have lx := Blk.lt kx
    clear ka kx hv0 hg hl
    go_wp2_with fail
    refine (ValidWord_any p _ hps).mono ?_
    rintro r w4 ⟨rfl, rfl⟩
    rw [Hw.out]
    go_wp2_with fail
    refine (embed_any _ xs ls p _ HV3.out Hl.out hn Hw.out h2000).mono ?_
    rintro e w5 ⟨v5, rfl, own5, hb5⟩
    have B5 := Lib.hid (Below.tr B3.out hb5)
    have hlen : ((embF (wordG xs) p.data.toList 0).map Int.ofNat).length = emN xs p := efL_len xs p
    obtain ⟨A5, c5, rfl, _⟩ := own_nil own5
    rw [hlen]
    clear hb5 own5 hlen m0 m1 m2 lx
    go_wp2_with fail
    go_ret2
    exact ⟨rfl, B5.out⟩
  · rw [Hgo.out] at hg; cases hg
theorem cutOne {l : List UInt8} {i : Nat} {c : UInt8} (h : l[i]? = some c) : cutL l (i : Int) ((i : Int) + 1) = [c] := by
  have hi := (List.getElem?_eq_some_iff.1 h).1
  have e : cutL l (i : Int) ((i : Int) + 1) = (l.drop i).take 1 := by
    unfold cutL
    rw [show ((i : Int) + 1).toNat = i + 1 by omega, Int.toNat_natCast, List.drop_take, show i + 1 - i = 1 by omega]
  rw [e, List.drop_eq_getElem_cons hi]
  have := (List.getElem?_eq_some_iff.1 h).2
  simp [this]
set_option maxRecDepth 100000 in
set_option maxHeartbeats 1000000 in
theorem letterAtIn_any (v : Value) (xs : List GRule) (i : Nat) (c : UInt8) (w : World) (h : Sl RuleE w w.heap.size v xs) (hg : gramOk xs = true) (hc : (wordG xs)[i]? = some c) :
    Calls Try.prog 25 #[.agg #[v], .int .i64 (i : Int)] w fun e w' => e = .returned (.tuple #[.string ⟨#[c]⟩, .int .i64 0]) ∧ Below w.heap.size w w' := by
  obtain ⟨hn, ls, hl⟩ := gram_lens hg
  have h1 := fun o => (h.below ((Below.refl w.heap.size w).alloc (Nat.le_refl _) o)).le (B' := (w.alloc o).heap.size) (by simp)
  have H1 := Lib.hid h1
  have Hcut := Lib.hid (cutOne hc)
  have hi := (List.getElem?_eq_some_iff.1 hc).1
  have hwl := wordG_len hl
  clear h1 hc
  obtain ⟨A, cp, rfl, _⟩ := h
  have Hl := Lib.hid hl
  have hlast : 0 ≤ lastI ls ∧ lastI ls ≤ 1000000000000000 := lastI_bounds hl
  have hlt : (i : Int) < lastI ls := by omega
  clear hl
  go_enter Try.func25, Try.ntmps25
  go_wp2_with fail
  refine (lengths_any _ xs _ (H1.out _) (by omega)).mono ?_
  rintro e w1 ⟨hb1, hpost⟩
  have hcase : ∃ vv, e = .returned (.tuple #[vv, .bool true]) ∧ Sl IntE w1 w1.heap.size vv ls := by
    rcases hpost with ⟨l2, vv, hl2, he, ho⟩ | ⟨hl2, he⟩
    · have e2 : l2 = ls := by have := Hl.out; rw [hl2] at this; exact Option.some.inj this
      subst e2
      exact ⟨vv, by rw [he]; simp [hn], ho.sl⟩
    · rw [Hl.out] at hl2; cases hl2
  obtain ⟨vv, rfl, hL⟩ := hcase
  have hz1 : w.heap.size < w1.heap.size := by have := hb1.size; simp at this; omega
  have a1 : w1.cell? ⟨w.heap.size, 0, none⟩ = some (.slice A xs.length cp) := (hb1.cell (p := ⟨w.heap.size, 0, none⟩) (by simp)).trans (by simp [go_sem])
  have S1 := Lib.hid ((H1.out (Obj.cells #[Value.slice A xs.length cp] 30)).up hb1)
  have B1 := Lib.hid (((Below.refl w.heap.size w).alloc (Nat.le_refl _) (Obj.cells #[Value.slice A xs.length cp] 30)).trans (hb1.mono (by simp)))
  have HL := Lib.hid hL
  obtain ⟨AL, cL, rfl, _⟩ := hL
  have HLA := Lib.hid (fun (W : World) (hW : Below w1.heap.size w1 W) => last_any _ ls W (HL.out.up hW))
  have hw1 : inR (i : Int) 0 (lastI ls - 1) = true := by simp [inR]; omega
  clear hb1 hpost
  go_wp2_with fail
  refine (HLA.out _ (by repeat (first | exact Below.refl _ _ | (refine Below.alloc ?_ (by first | omega | (simp; done) | (simp; omega)) _) | (refine Below.setCell ?_ (by first | exact Nat.le_refl _ | (show _ ≤ _; omega) | (simp; done) | (simp; omega)) _) | refine below_drewN ?_ _ | refine Below.drew ?_))).mono ?_
  rintro e w' ⟨rfl, rfl⟩
  go_wp2_with fail
  refine (within_yes _ _ _ _ hw1).mono ?_
  rintro e w' ⟨rfl, rfl⟩
  go_wp2_with fail
  refine (unpack_any _ _ xs ls (i : Int) ((i : Int) + 1) _ S1.out HL.out Hl.out (by omega) (by rw [Hcut.out]; simp)).mono ?_
  rintro e w2 ⟨rfl, hb2⟩
  rw [Hcut.out]
  go_wp2_with fail
  go_ret2
  exact ⟨rfl, B1.out.trans (hb2.mono (by omega))⟩
theorem lit_strs {W : World} {b N : Nat} (l : List ByteArray) (hb : b < W.heap.size) (hN : N = W.heap.size) (hl : l.length ≤ 1000) :
    SlS StrE (W.alloc (.cells (l.map Value.string).toArray 9)) (fun k => k ≠ b ∧ k < (W.alloc (.cells (l.map Value.string).toArray 9)).heap.size) (.slice (some ⟨N, 0, none⟩) l.length l.length) l := by
  subst hN
  have h := World.ownsRow_lit W (l.map Value.string).toArray l.length (Nat.le_refl _) (by simp only [maxLen]; omega) (e := 9) (size := 1) (by simp)
  refine ⟨_, _, rfl, Nat.le_refl _, by simp only [maxLen]; omega, Row.of_own (E := StrE) h rfl (fun g hg => by simp [Value.ownBlock] at hg; subst hg; exact ⟨by omega, by simp⟩) fun k x hx => ⟨[.string x], rfl, fun j u hu => ?_⟩⟩
  cases j with
  | zero => simp at hu; subst hu; simp [StrE, hx]
  | succ j => simp at hu
section
variable {w wx w' : World} {b M M' E : Nat} {k i j q : Int} {vP : Value} {xs : List GRule} {m : ByteArray}
end
theorem convS (W : World) (N : Nat) (hN : N = W.heap.size) (c : UInt8) : (convert 41 9 (.slice (some ⟨N, 0, none⟩) 1 1)).run Try.prog (W.alloc (.cells #[.int .u8 (c.toNat : Int)] 5)) = .ok (.string ⟨#[c]⟩) (W.alloc (.cells #[.int .u8 (c.toNat : Int)] 5)) := by
  subst hN
  rw [run_convert_bytes_arg (W.alloc (.cells #[.int .u8 (c.toNat : Int)] 5)) 41 5 Try.underlying41 Try.underlying5 W.heap.size 0 1 1 [(c.toNat : Int)] rfl
    (fun i hi => by
      have : i = 0 := by omega
      subst this
      simp [go_sem]) 9 Try.underlying9]
  have : strOfNums [(c.toNat : Int)] = ⟨#[c]⟩ := by
    simp only [strOfNums, List.map_cons, List.map_nil]
    simp
  rw [this]
def FewL (n : Nat) (p : ByteArray) : Prop := p.size ≤ n ∧ p.data.toList.all letOk = true
theorem FewL.ok {n : Nat} {p : ByteArray} (h : FewL n p) (hn : n ≤ 2000) : wordOk p = true := by
  unfold wordOk
  rw [Bool.and_eq_true]
  exact ⟨decide_eq_true (by have := h.1; omega), h.2⟩
theorem FewL.app {n m : Nat} {p q : ByteArray} (h : FewL n p) (h' : FewL m q) : FewL (n + m) (p ++ q) := by
  refine ⟨by rw [ByteArray.size_append]; have := h.1; have := h'.1; omega, ?_⟩
  rw [show (p ++ q).data.toList = p.data.toList ++ q.data.toList by simp, List.all_append, h.2, h'.2]; rfl
def scTexts : List ByteArray := [⟨#[97]⟩, ⟨#[98]⟩, ⟨#[99]⟩]
theorem scTexts_ok : ∀ m ∈ scTexts, FewL 1 m := by unfold FewL scTexts; decide
theorem wordG_letOk {xs : List GRule} (hg : gramOk xs = true) {i : Nat} {c : UInt8} (h : (wordG xs)[i]? = some c) : letOk c = true := by
  have h2 := List.mem_of_getElem? h
  obtain ⟨_, ls, hl⟩ := gram_lens hg
  have hne : 0 < xs.length := by
    refine Nat.pos_of_ne_zero fun e => ?_
    have hx : xs = [] := List.eq_nil_of_length_eq_zero e
    subst hx
    simp [wordG] at h2
  rw [wordG_pos hne] at h2
  exact List.all_eq_true.1 (W1_ok hl (xs.length - 1) (by omega)) c h2
set_option maxRecDepth 100000 in
set_option maxHeartbeats 8000000 in
theorem P6Scattered_any (v vR : Value) (l : List UInt8) (xs : List GRule) (w : World) (h : Sl ByteE w w.heap.size v l) (hR : Sl RuleE w w.heap.size vR xs) (hg : gramOk xs = true) :
    Calls Try.prog 19 #[v, .agg #[vR]] w fun e w' => ∃ p, e = .returned (.string p) ∧ wordOk p = true ∧ Below w.heap.size w w' := by
  have HL := Lib.hid h
  have HR := Lib.hid hR
  have Hsm := Lib.hid (gram_small1 hg)
  have HG := Lib.hid hg
  obtain ⟨h4, ls, hl⟩ := gram_lens hg
  have Hl := Lib.hid hl
  have hwl := wordG_len hl
  have hx9 : xs.length ≤ 1099511627776 := by omega
  have HwL := Lib.hid hwl
  obtain ⟨A, c, rfl, _⟩ := h
  obtain ⟨AR, cR, rfl, _⟩ := hR
  clear hg hl hwl
  go_enter Try.func19, Try.ntmps19
  go_upto_region 1 with fail
  have ka := (Below.refl w.heap.size w).alloc (Nat.le_refl _) (Obj.cells #[.slice AR xs.length cR] 30)
  have kg := Blk.new w #[.slice AR xs.length cR] 30
  generalize w.alloc (Obj.cells #[.slice AR xs.length cR] 30) = w1 at *
  have B1 := Lib.hid ka
  have K1 := Lib.hid kg
  have HL1 := Lib.hid (HL.out.up ka)
  have z1 := Blk.lt kg
  clear ka kg
  go_wp2_with fail
  refine (from_any _ l _ HL1.out).mono ?_
  rintro r w2 ⟨b, rfl, hbz, hs, hb⟩
  have hbz1 : w.heap.size < b := by omega
  have hbz2 := hs.lt
  have S2 := Lib.hid hs
  have B2 := Lib.hid (Below.tr B1.out hb)
  have K2 := Lib.hid (K1.out.up hb)
  clear hb hs hbz
  have HR2 := Lib.hid ((HR.out.below B2.out).le (B' := w2.heap.size) (by omega))
  have g0 := Blk.cell (i := 0) (v := .slice AR xs.length cR) K2.out rfl
  have gl := Blk.lt K2.out
  go_wp2_with fail
  refine (l02Length_any w.heap.size 0 _ xs ls _ Hl.out g0 gl HR2.out Hsm.out hx9).mono ?_
  rintro e w3 ⟨rfl, hb3⟩
  have S3 := Lib.hid (S2.out.keep hb3)
  have B3 := Lib.hid (Below.tr B2.out hb3)
  have K3 := Lib.hid (K2.out.up hb3)
  have z3 := hb3.size
  clear hb3 g0 gl
  go_wp2_with fail
  refine (l00Min_any _ _ _).mono ?_
  rintro e w3' ⟨rfl, rfl⟩
  go_wp2_with fail
  refine (pick_any b 0 _ _ S3.out (by omega)).mono ?_
  rintro r w4 ⟨at0, rfl, hat, _, hs4, hb4⟩
  have hat4 : at0 ≤ 4 := by omega
  have S4 := Lib.hid hs4
  have K4 := Lib.hid (K3.out.but hb4 (by omega))
  have B4 := Lib.hid (B3.out.trans (hb4.below (B := w.heap.size) (by omega) (by omega)))
  have z4 := hb4.size
  clear hs4 hb4 hat
  have HR4 := Lib.hid ((HR.out.below B4.out).le (B' := w4.heap.size) (by omega))
  have g0 := Blk.cell (i := 0) (v := .slice AR xs.length cR) K4.out rfl
  have gl := Blk.lt K4.out
  go_wp2_with fail
  refine (l02Lengths_any w.heap.size 0 _ xs _ g0 gl HR4.out Hsm.out).mono ?_
  rintro e w5 ⟨hb5, vL, ls', rfl, own5, hls⟩
  have els : ls' = ls := hls h4 ls Hl.out
  subst els
  have S5 := Lib.hid (S4.out.keep hb5)
  have B5 := Lib.hid (Below.tr B4.out hb5)
  have K5 := Lib.hid (K4.out.up hb5)
  have z5 := hb5.size
  have HL5 := Lib.hid (own5.slS (S := fun k => k ≠ b ∧ k < w5.heap.size) fun g hgg => ⟨by have := (World.ownsRow.lt own5 g hgg).1; omega, (World.ownsRow.lt own5 g hgg).2⟩)
  obtain ⟨AL, cL, rfl, _⟩ := own_nil own5
  clear hb5 own5 hls g0 gl
  go_wp2_with fail
  refine (pick_any b 2 5 _ S5.out (by omega)).mono ?_
  rintro r w6 ⟨k0, rfl, hk, _, hs6, hb6⟩
  have hk4 : k0 ≤ 4 := by omega
  have S6 := Lib.hid hs6
  have K6 := Lib.hid (K5.out.but hb6 (by omega))
  have B6 := Lib.hid (B5.out.trans (hb6.below (B := w.heap.size) (by omega) (by omega)))
  have z6 := hb6.size
  have HL6 := Lib.hid ((HL5.out.keep fun k hk => hb6.block k hk.2 hk.1).more (S' := fun k => k ≠ b ∧ k < w6.heap.size) fun k hk => ⟨hk.1, by have := hk.2; omega⟩)
  clear hs6 hb6 hk
  go_wp2_with fail
  go_loopw [6, 7, 10] (fun vw va vk wx => ∃ (k at' N' : Nat) (p : ByteArray), vk = .int .i64 (k : Int) ∧ va = .int .i64 (at' : Int) ∧ vw = .string p ∧ k ≤ 4 ∧ at' + 3 * k ≤ 16 ∧ N' + 2 * k ≤ 20 ∧ Hid (FewL (4 - k) p) ∧ Src wx b N' ∧ Blk wx w.heap.size #[.slice AR xs.length cR] 30 ∧ But b w6 wx) (fun _ _ vk _ => (intOf vk).toNat)
  case atStart => exact ⟨k0, at0, 4, ⟨#[]⟩, rfl, rfl, rfl, hk4, by omega, by omega, ⟨Nat.zero_le _, rfl⟩, S6.out, K6.out, But.refl _ _⟩
  case round =>
    obtain ⟨k, at', N', p, rfl, rfl, rfl, hk4, ha16, hN, HF, hs, hkk, hbut⟩ := hrel
    have Sx := Lib.hid hs
    have Kx := Lib.hid hkk
    have Bx := Lib.hid hbut
    have zx := hbut.size
    have BBx := Lib.hid (B6.out.trans (hbut.below (B := w.heap.size) (by omega) (by omega)))
    have hbx := hs.lt
    clear hs hkk hbut
    have HRx := Lib.hid ((HR.out.below BBx.out).le (B' := wr.heap.size) (by omega))
    have g0 := Blk.cell (i := 0) (v := .slice AR xs.length cR) Kx.out rfl
    have gl := Blk.lt Kx.out
    have hend : ∀ wz : World, Src wz b N' → But b wr wz → True := fun _ _ _ => trivial
    clear hend
    by_cases hgo : 0 < k ∧ (at' : Int) < lastI ls'
    · -- @V a
      obtain ⟨hk0, hal⟩ := hgo
      have hkI : (0 : Int) < (k : Int) := by omega
      have hlt : at' < (wordG xs).length := by have := HwL.out; omega
      obtain ⟨c1, hc1⟩ : ∃ x, (wordG xs)[at']? = some x := ⟨_, List.getElem?_eq_getElem hlt⟩
      have HC := Lib.hid hc1
      have HOk := Lib.hid (wordG_letOk HG.out hc1)
      clear hlt hc1
      go_wp2_with fail
      refine (l02Length_any w.heap.size 0 _ xs ls' _ Hl.out g0 gl HRx.out Hsm.out hx9).mono ?_
      rintro e w7 ⟨rfl, hb7⟩
      have S7 := Lib.hid (Sx.out.keep hb7)
      have K7 := Lib.hid (Kx.out.up hb7)
      have T7 := Lib.hid (Bx.out.tr hb7)
      have BB7 := Lib.hid (BBx.out.trans (hb7.mono (by omega)))
      have HR7 := Lib.hid (HRx.out.up hb7)
      have z7 := hb7.size
      have HL7 := Lib.hid ((HL6.out.keep fun k hk => T7.out.block k hk.2 hk.1).more (S' := fun k => k < w7.heap.size) fun k hk => by have := hk.2; omega)
      clear hb7 g0 gl
      have g0 := Blk.cell (i := 0) (v := .slice AR xs.length cR) K7.out rfl
      have gl := Blk.lt K7.out
      have hcv := convS w7 w7.heap.size rfl c1
      have hpz : p.size ≤ 4 := by have := HF.out.1; omega
      have hq1 : (⟨#[c1]⟩ : ByteArray).size = 1 := rfl
      have hcz : p.size + (⟨#[c1]⟩ : ByteArray).size ≤ 9223372036854775807 := by rw [hq1]; omega
      go_wp2_with fail
      refine (l02Letter_any w.heap.size 0 _ _ xs ls' (at' : Int) c1 w7 g0 HR7.out HL7.out Hl.out hx9 (by omega) (by rw [Int.toNat_natCast]; exact HC.out)).mono ?_
      rintro e w8 ⟨rfl, rfl⟩
      go_wp2_with fail
      have ba := (Below.refl _ w7).alloc (Nat.le_refl _) (.cells #[.int .u8 (c1.toNat : Int)] 5)
      have S8 := Lib.hid (S7.out.keep ba)
      have K8 := Lib.hid (K7.out.up ba)
      have T8 := Lib.hid (T7.out.tr ba)
      clear ba hcv g0 gl
      generalize w7.alloc (.cells #[.int .u8 (c1.toNat : Int)] 5) = w8 at *
      refine (pick_any b N' 3 _ S8.out (by omega)).mono ?_
      rintro r w9 ⟨d, rfl, hd, _, hs9, hb9⟩
      have hd2 : d ≤ 2 := by omega
      have S9 := Lib.hid hs9
      have K9 := Lib.hid (K8.out.but hb9 (by omega))
      have T9 := Lib.hid (T8.out.trans hb9)
      have hwa : IntKind.i64.wrap (1 + (d : Int)) = ((1 + d : Nat) : Int) := by rw [IntWalk.i64_in _ (by omega)]; omega
      have hwb : IntKind.i64.wrap ((at' : Int) + ((1 + d : Nat) : Int)) = ((at' + (1 + d) : Nat) : Int) := by rw [IntWalk.i64_in _ (by omega)]; omega
      have hwc : IntKind.i64.wrap ((k : Int) - 1) = ((k - 1 : Nat) : Int) := by rw [IntWalk.i64_in _ (by omega)]; omega
      have HF2 : Hid (FewL (4 - (k - 1)) (p ++ ⟨#[c1]⟩)) := by
        have h1 := HF.out.app (m := 1) (q := ⟨#[c1]⟩) ⟨Nat.le_refl _, by simp [HOk.out]⟩
        rwa [show 4 - k + 1 = 4 - (k - 1) by omega] at h1
      clear hs9 hb9 hd
      go_wp2_with fail
      go_roundw
      case rel => exact ⟨k - 1, at' + (1 + d), N' + 2, p ++ ⟨#[c1]⟩, rfl, rfl, rfl, by omega, by omega, by omega, HF2, S9.out, K9.out, T9.out⟩
      case measure => simp [intOf]; omega
    · -- @V b
      by_cases hk0 : k = 0
      · -- @V b.a
        subst hk0
        clear hgo
        go_wp2_with fail
        refine (one_any b N' 4 _ Sx.out (by omega)).mono ?_
        rintro r w10 ⟨t10, rfl, hs10, hb10⟩
        have S10 := Lib.hid hs10
        have BB10 := Lib.hid (BBx.out.trans (hb10.below (B := w.heap.size) (by omega) (by omega)))
        have zz10 := hb10.size
        have hpz : p.size ≤ 4 := by have := HF.out.1; omega
        clear hs10 hb10
        cases t10 with
        | false =>
          go_wp2_with fail
          go_ret
          exact ⟨p, rfl, HF.out.ok (by omega), BB10.out⟩
        | true =>
          go_wp2_with fail
          have ba := (Below.refl _ w10).alloc (Nat.le_refl _) (.cells (scTexts.map Value.string).toArray 9)
          refine (text_any b _ _ scTexts _ (S10.out.keep ba) (by omega) (lit_strs scTexts S10.out.lt rfl (by decide)) (by decide) (by decide)).mono ?_
          rintro r w12 ⟨m, hm, rfl, hs12, hb12⟩
          have hm1 := (scTexts_ok m hm).1
          have hcz : p.size + m.size ≤ 9223372036854775807 := by omega
          have BB12 := Lib.hid ((BB10.out.alloc (by omega) (.cells (scTexts.map Value.string).toArray 9)).trans (hb12.below (B := w.heap.size) (by omega) (by simp; omega)))
          have HF2 := Lib.hid ((HF.out.app (scTexts_ok m hm)).ok (by omega))
          clear hs12 hb12 ba hm
          go_wp2_with fail
          go_ret
          exact ⟨p ++ m, rfl, HF2.out, BB12.out⟩
      · -- @V b.b
        have hkI : (0 : Int) < (k : Int) := by omega
        have haI : ¬ (at' : Int) < lastI ls' := fun h => hgo ⟨by omega, h⟩
        go_wp2_with fail
        refine (l02Length_any w.heap.size 0 _ xs ls' _ Hl.out g0 gl HRx.out Hsm.out hx9).mono ?_
        rintro e w7 ⟨rfl, hb7⟩
        have S7 := Lib.hid (Sx.out.keep hb7)
        have BB7 := Lib.hid (BBx.out.trans (hb7.mono (by omega)))
        have z7 := hb7.size
        clear hb7 g0 gl hgo
        go_wp2_with fail
        refine (one_any b N' 4 _ S7.out (by omega)).mono ?_
        rintro r w10 ⟨t10, rfl, hs10, hb10⟩
        have S10 := Lib.hid hs10
        have BB10 := Lib.hid (BB7.out.trans (hb10.below (B := w.heap.size) (by omega) (by omega)))
        have zz10 := hb10.size
        have hpz : p.size ≤ 4 := by have := HF.out.1; omega
        clear hs10 hb10
        cases t10 with
        | false =>
          go_wp2_with fail
          go_ret
          exact ⟨p, rfl, HF.out.ok (by omega), BB10.out⟩
        | true =>
          go_wp2_with fail
          have ba := (Below.refl _ w10).alloc (Nat.le_refl _) (.cells (scTexts.map Value.string).toArray 9)
          refine (text_any b _ _ scTexts _ (S10.out.keep ba) (by omega) (lit_strs scTexts S10.out.lt rfl (by decide)) (by decide) (by decide)).mono ?_
          rintro r w12 ⟨m, hm, rfl, hs12, hb12⟩
          have hm1 := (scTexts_ok m hm).1
          have hcz : p.size + m.size ≤ 9223372036854775807 := by omega
          have BB12 := Lib.hid ((BB10.out.alloc (by omega) (.cells (scTexts.map Value.string).toArray 9)).trans (hb12.below (B := w.heap.size) (by omega) (by simp; omega)))
          have HF2 := Lib.hid ((HF.out.app (scTexts_ok m hm)).ok (by omega))
          clear hs12 hb12 ba hm
          go_wp2_with fail
          go_ret
          exact ⟨p ++ m, rfl, HF2.out, BB12.out⟩
structure EmAll (xs : List GRule) (p : ByteArray) (A B : List Int) : Prop where
  la : A.length = p.size
  lb : B.length = p.size
  get : ∀ t (ht : t < p.size), ∃ a b : Nat, A.getD t 0 = (a : Int) ∧ B.getD t 0 = (b : Int) ∧ a ≤ b ∧ (wordG xs)[a]? = some p[t] ∧ (wordG xs)[b]? = some p[t]
  ina : ∀ t, t + 1 < p.size → A.getD t 0 < A.getD (t + 1) 0
  inb : ∀ t, t + 1 < p.size → B.getD t 0 < B.getD (t + 1) 0
theorem mapO_get (V : List Nat) (k : Nat) : (V.map Int.ofNat).getD k 0 = ((V.getD k 0 : Nat) : Int) := by
  rw [List.getD_eq_getElem?_getD, List.getElem?_map, List.getD_eq_getElem?_getD]
  cases V[k]? <;> rfl
theorem plen (p : ByteArray) : p.data.toList.length = p.size := by rw [Array.length_toList]; rfl
theorem pget {p : ByteArray} {t : Nat} (h : t < p.size) : p.data.toList[t]? = some p[t] := by
  have h2 : t < p.data.toList.length := by rw [plen]; exact h
  rw [List.getElem?_eq_getElem h2]; rfl
theorem emb_cases (xs : List GRule) (p : ByteArray) (hg : gramOk xs = true) (hw : wordOk p = true) :
    (emN xs p < p.size ∧ efC xs p = 6 ∧ elC xs p = 6 ∧ efV xs p = [] ∧ elV xs p = []) ∨ (emN xs p = p.size ∧ efC xs p = 0 ∧ elC xs p = 0 ∧ EmAll xs p (efV xs p) (elV xs p)) := by
  have hle := emN_le xs p
  obtain ⟨q1, q2⟩ := embs_all (wordG xs) p.data.toList
  have e1 : efC xs p = if emN xs p < p.size then 6 else 0 := by rw [efC, hg, hw, efL_len]; rfl
  have e2 : elC xs p = (if (elO xs p).isNone then 6 else 0) ∧ elV xs p = ((elO xs p).getD []).reverse.map Int.ofNat := by unfold elC elV; rw [hg, hw]; exact ⟨rfl, rfl⟩
  have e3 : elO xs p = if (embF (wordG xs).reverse p.data.toList.reverse 0).length < p.size then none else some ((embF (wordG xs).reverse p.data.toList.reverse 0).map fun a => (wordG xs).length - 1 - a) := by
    unfold elO
    rw [emb_last0, List.length_reverse, plen]
  have hle2 : (embF (wordG xs).reverse p.data.toList.reverse 0).length ≤ p.size := by
    have := embF_le (wordG xs).reverse p.data.toList.reverse 0
    rwa [List.length_reverse, plen] at this
  rw [plen] at q1 q2
  have q0 : (embF (wordG xs) p.data.toList 0).length = emN xs p := rfl
  rw [q0] at q1 q2
  by_cases hs : emN xs p < p.size
  · left
    have hs2 : (embF (wordG xs).reverse p.data.toList.reverse 0).length < p.size := by
      rcases Nat.lt_or_ge (embF (wordG xs).reverse p.data.toList.reverse 0).length p.size with h | h
      · exact h
      · have := q1.2 (by omega); omega
    rw [if_pos hs2] at e3
    rw [e3] at e2
    rw [if_pos hs] at e1
    refine ⟨hs, e1, by rw [e2.1]; rfl, by rw [efV, e1, if_neg (by decide)], by rw [e2.2]; rfl⟩
  · right
    have hf : emN xs p = p.size := by omega
    have hs2 := q1.1 hf
    rw [if_neg (by omega)] at e3
    rw [e3] at e2
    rw [if_neg hs] at e1
    obtain ⟨⟨a1, a2, a3⟩, ⟨b1, b2, b3⟩, ab⟩ := q2 hf
    have eA : efV xs p = (embF (wordG xs) p.data.toList 0).map Int.ofNat := by rw [efV, e1, if_pos rfl]; rfl
    have eB : elV xs p = (lastE (wordG xs) p.data.toList).map Int.ofNat := by rw [e2.2]; rfl
    rw [plen] at a1 a2 a3 b1 b2 b3
    refine ⟨hf, e1, by rw [e2.1]; rfl, ?_⟩
    rw [eA, eB]
    refine ⟨by rw [List.length_map]; exact a1, by rw [List.length_map]; exact b1, fun t ht => ?_, fun t ht => ?_, fun t ht => ?_⟩
    · refine ⟨_, _, mapO_get _ _, mapO_get _ _, ab t ht, ?_, ?_⟩
      · rw [(a2 t ht).2]; exact pget ht
      · rw [(b2 t ht).2]; exact pget ht
    · rw [mapO_get, mapO_get]; have := a3 t ht; omega
    · rw [mapO_get, mapO_get]; have := b3 t ht; omega
theorem ext_take (p : ByteArray) (n : Nat) : (p.extract 0 n).data.toList = p.data.toList.take n := by
  simp [ByteArray.data_extract]
theorem ext_size {p : ByteArray} {n : Nat} (h : n ≤ p.size) : (p.extract 0 n).size = n := by
  rw [ByteArray.size_extract]; omega
theorem ext_ok {p : ByteArray} (hw : wordOk p = true) {n : Nat} (h : n ≤ p.size) : wordOk (p.extract 0 n) = true := by
  unfold wordOk at hw ⊢
  rw [Bool.and_eq_true] at hw ⊢
  rw [ext_take, ext_size h]
  have h1 := of_decide_eq_true hw.1
  refine ⟨decide_eq_true (by omega), List.all_eq_true.2 fun x hx => List.all_eq_true.1 hw.2 x (List.mem_of_mem_take hx)⟩
theorem ext_emN (xs : List GRule) (p : ByteArray) (n : Nat) : emN xs (p.extract 0 n) = min n (emN xs p) := by
  unfold emN
  rw [ext_take, embF_take, List.length_take]
theorem ext_yes {xs : List GRule} {p : ByteArray} (hg : gramOk xs = true) (hw : wordOk p = true) : efC xs (p.extract 0 (emN xs p)) = 0 ∧ (efV xs (p.extract 0 (emN xs p))).length = emN xs p := by
  have h1 : efC xs (p.extract 0 (emN xs p)) = 0 := by
    rw [efC, hg, ext_ok hw (emN_le xs p), efL_len, ext_emN, ext_size (emN_le xs p), Nat.min_self]; simp
  exact ⟨h1, by rw [efV, h1, if_pos rfl, efL_len, ext_emN, Nat.min_self]⟩
theorem ext_no {xs : List GRule} {p : ByteArray} (hg : gramOk xs = true) (hw : wordOk p = true) (hs : emN xs p < p.size) : efC xs (p.extract 0 (emN xs p + 1)) = 6 ∧ efV xs (p.extract 0 (emN xs p + 1)) = [] := by
  have h1 : efC xs (p.extract 0 (emN xs p + 1)) = 6 := by
    rw [efC, hg, ext_ok hw hs, efL_len, ext_emN, ext_size hs, show min (emN xs p + 1) (emN xs p) = emN xs p by omega]; simp
  exact ⟨h1, by rw [efV, h1, if_neg (by decide)]⟩
theorem ext_one {p : ByteArray} {k : Nat} (h : k < p.size) : p.extract k (k + 1) = ⟨#[p[k]]⟩ := by
  have e : (p.extract k (k + 1)).data.toList = [p[k]] := by
    have e2 : (p.extract k (k + 1)).data.toList = (p.data.toList.drop k).take 1 := by simp [ByteArray.data_extract, List.take_drop]
    have hi : k < p.data.toList.length := by rw [plen]; exact h
    rw [e2, List.drop_eq_getElem_cons hi]
    have := pget h
    rw [List.getElem?_eq_getElem hi] at this
    simp [Option.some.inj this]
  have e3 : (p.extract k (k + 1)).data = #[p[k]] := by rw [show (p.extract k (k + 1)).data = ((p.extract k (k + 1)).data.toList).toArray from Array.toArray_toList.symm, e]
  cases hx : p.extract k (k + 1) with
  | mk d => rw [hx] at e3; exact congrArg ByteArray.mk e3
theorem f6bigE_any (v : Value) (l : List UInt8) (w : World) (h : Sl ByteE w w.heap.size v l) :
    Calls Try.prog 17 #[v] w fun e w' => e = .returned (.bool (decide ((4096 : Int) < l.length))) ∧ w = w' := by
  obtain ⟨A, c, rfl, _⟩ := h
  go_enter Try.func17, Try.ntmps17
  go_wp2
  go_ret
  exact ⟨rfl, rfl⟩
theorem keepG2e {W w' : World} {p : Nat} {v x : Value} {t : TypeId} {q : Addr} (k1 : Blk W p #[v] t) (k2 : W.cell? q = some x) (hq : q.block < W.heap.size) (h : Below W.heap.size W w') : Below W.heap.size W w' ∧ w'.cell? ⟨p, 0, none⟩ = some v ∧ w'.cell? q = some x :=
  ⟨h, Blk.cell (i := 0) (Blk.up k1 h) rfl, (h.cell hq).trans k2⟩
theorem sliceOne {p : ByteArray} {k : Nat} (h : k < p.size) (W : World) : (Instr.slice 9 (.string p) (some (.int .i64 (k : Int))) (some (.int .i64 ((k : Int) + 1))) none).run Try.prog W = .ok (.string ⟨#[p[k]]⟩) W := by
  rw [run_slice_string (P := Try.prog) W 9 p .i64 .i64 (k : Int) ((k : Int) + 1) Try.underlying9 (by omega) (by omega) (by omega), Int.toNat_natCast, show ((k : Int) + 1).toNat = k + 1 by omega, ext_one h]
theorem keepG1 {W w' : World} {p : Nat} {v : Value} {t : TypeId} (k1 : Blk W p #[v] t) (h : Below W.heap.size W w') : Below W.heap.size W w' ∧ w'.cell? ⟨p, 0, none⟩ = some v :=
  ⟨h, Blk.cell (i := 0) (Blk.up k1 h) rfl⟩
set_option maxRecDepth 100000 in
set_option maxHeartbeats 8000000 in
theorem lawEmbeds_any (v v' : Value) (l l' : List UInt8) (w : World) (h : Sl ByteE w w.heap.size v l) (h' : Sl ByteE w w.heap.size v' l') :
    Calls Try.prog 5 #[v, v'] w fun r w' => r = .returned (.bool true) ∧ Below w.heap.size w w' := by
  have HL := Lib.hid h
  have HM := Lib.hid h'
  obtain ⟨A, c, rfl, _⟩ := h
  obtain ⟨A', c', rfl, _⟩ := h'
  go_enter Try.func5, Try.ntmps5
  by_cases hl1 : (4096 : Int) < l.length
  · have e1 : decide ((4096 : Int) < l.length) = true := decide_eq_true hl1
    have F1 := Lib.hid (fun w h => f6bigE_any (.slice A l.length c) l w h)
    go_wp2_with fail
    refine (F1.out _ HL.out).mono ?_
    rintro r w0 ⟨rfl, rfl⟩
    rw [e1]
    go_wp2_with fail
    go_ret
    exact ⟨rfl, Below.refl _ _⟩
  have e1 : decide ((4096 : Int) < l.length) = false := decide_eq_false hl1
  by_cases hl2 : (4096 : Int) < l'.length
  · have e2 : decide ((4096 : Int) < l'.length) = true := decide_eq_true hl2
    go_wp2_with fail
    refine (f6bigE_any _ l _ HL.out).mono ?_
    rintro r w0 ⟨rfl, rfl⟩
    rw [e1]
    go_wp2_with fail
    refine (f6bigE_any _ l' _ HM.out).mono ?_
    rintro r w0 ⟨rfl, rfl⟩
    rw [e2]
    go_wp2_with fail
    go_ret
    exact ⟨rfl, Below.refl _ _⟩
  have e2 : decide ((4096 : Int) < l'.length) = false := decide_eq_false hl2
  go_wp2_with fail
  refine (f6bigE_any _ l _ HL.out).mono ?_
  rintro r w0 ⟨rfl, rfl⟩
  rw [e1]
  go_wp2_with fail
  refine (f6bigE_any _ l' _ HM.out).mono ?_
  rintro r w0 ⟨rfl, rfl⟩
  rw [e2]
  clear hl1 hl2 e1 e2
  go_wp2_with fail
  refine (P6Huge_any _ l _ HL.out).mono ?_
  rintro r w1 ⟨u1, xs, rfl, hsl, hg, hb⟩
  obtain ⟨AX, cX, rfl, _⟩ := (id hsl : Sl RuleE w1 w1.heap.size u1 xs)
  have HG := Lib.hid hg
  have hx400 : xs.length ≤ 1048576 := by have := (gram_lens hg).1; omega
  have Hsm := Lib.hid (gram_small1 hg)
  clear hg
  have ba := hb.alloc hb.size (Obj.cells #[.slice AX xs.length cX] 30)
  have b1 := (Below.refl _ w1).alloc (Nat.le_refl _) (Obj.cells #[.slice AX xs.length cX] 30)
  have KG1 := Lib.hid (Blk.new w1 #[.slice AX xs.length cX] 30)
  have SG1 := Lib.hid ((hsl).up b1)
  have HB1 := Lib.hid ba
  clear ba b1 hb
  go_upto_region 4 with fail
  generalize (w1.alloc (Obj.cells #[.slice AX xs.length cX] 30)) = W1 at KG1 SG1 HB1 ⊢
  have HM1 := Lib.hid (HM.out.up HB1.out)
  have cG := Blk.cell (i := 0) (v := .slice AX xs.length cX) KG1.out rfl
  have lG := Blk.lt KG1.out
  go_wp2_with fail
  refine (P6Scattered_any _ _ l' xs _ HM1.out SG1.out HG.out).mono ?_
  rintro r w2 ⟨p, rfl, hw, hb⟩
  have Hw := Lib.hid hw
  have h2000 := word_2000 hw
  have hps : p.size ≤ maxLen := by unfold maxLen; omega
  have HB2 := Lib.hid (Below.tr HB1.out hb)
  have KG2 := Lib.hid (KG1.out.up hb)
  have SG2 := Lib.hid (SG1.out.up hb)
  clear hb cG lG hw HM1 HM HL HB1 KG1 SG1 hsl
  obtain ⟨L1, hL1⟩ : ∃ L, efV xs p = L := ⟨_, rfl⟩
  obtain ⟨L2, hL2⟩ : ∃ L, elV xs p = L := ⟨_, rfl⟩
  obtain ⟨c1, hc1⟩ : ∃ L, efC xs p = L := ⟨_, rfl⟩
  obtain ⟨c2, hc2⟩ : ∃ L, elC xs p = L := ⟨_, rfl⟩
  obtain ⟨n, hn⟩ : ∃ n, emN xs p = n := ⟨_, rfl⟩
  have HD := Lib.hid (And.intro hL1 (And.intro hL2 (And.intro hc1 (And.intro hc2 hn))))
  clear hL1 hL2 hc1 hc2 hn
  have cG := Blk.cell (i := 0) (v := .slice AX xs.length cX) KG2.out rfl
  have lG := Blk.lt KG2.out
  go_wp2_with fail
  refine (embedFirst_any _ xs p _ SG2.out hx400 hps).mono ?_
  rintro e w3 ⟨v3, rfl, own3, hb⟩
  rw [HD.out.1] at own3; rw [HD.out.2.2.1]
  obtain ⟨A3, c3x, rfl, _⟩ := own_nil own3
  have O1_3 := Lib.hid (OwnInts.sl own3)
  have HB3 := Lib.hid (Below.tr HB2.out hb)
  have KG3 := Lib.hid (KG2.out.up hb)
  have SG3 := Lib.hid (SG2.out.up hb)
  clear hb cG lG own3 HB2 KG2 SG2 
  have cG := Blk.cell (i := 0) (v := .slice AX xs.length cX) KG3.out rfl
  have lG := Blk.lt KG3.out
  go_wp2_with fail
  refine (implEmbedLast_any _ xs p _ SG3.out hx400 hps).mono ?_
  rintro e w4 ⟨v4, rfl, own4, hb⟩
  rw [HD.out.2.1] at own4; rw [HD.out.2.2.2.1]
  obtain ⟨A4, c4x, rfl, _⟩ := own_nil own4
  have O2_4 := Lib.hid (OwnInts.sl own4)
  have HB4 := Lib.hid (Below.tr HB3.out hb)
  have KG4 := Lib.hid (KG3.out.up hb)
  have SG4 := Lib.hid (SG3.out.up hb)
  have O1_4 := Lib.hid (O1_3.out.up hb)
  clear hb cG lG own4 HB3 KG3 SG3 O1_3
  have cG := Blk.cell (i := 0) (v := .slice AX xs.length cX) KG4.out rfl
  have lG := Blk.lt KG4.out
  go_wp2_with fail
  refine (specEmbedFirst_any _ xs p _ SG4.out HG.out Hw.out).mono ?_
  rintro e w5 ⟨v5, rfl, own5, hb⟩
  rw [HD.out.1] at own5; rw [HD.out.2.2.1]
  obtain ⟨A5, c5x, rfl, _⟩ := own_nil own5
  have O3_5 := Lib.hid (OwnInts.sl own5)
  have HB5 := Lib.hid (Below.tr HB4.out hb)
  have KG5 := Lib.hid (KG4.out.up hb)
  have SG5 := Lib.hid (SG4.out.up hb)
  have O1_5 := Lib.hid (O1_4.out.up hb)
  have O2_5 := Lib.hid (O2_4.out.up hb)
  clear hb cG lG own5 HB4 KG4 SG4 O1_4 O2_4
  have cG := Blk.cell (i := 0) (v := .slice AX xs.length cX) KG5.out rfl
  have lG := Blk.lt KG5.out
  go_wp2_with fail
  refine (specEmbedLast_any _ xs p _ SG5.out Hsm.out hx400 hps).mono ?_
  rintro e w6 ⟨v6, rfl, own6, hb⟩
  rw [HD.out.2.1] at own6; rw [HD.out.2.2.2.1]
  obtain ⟨A6, c6x, rfl, _⟩ := own_nil own6
  have O4_6 := Lib.hid (OwnInts.sl own6)
  have HB6 := Lib.hid (Below.tr HB5.out hb)
  have KG6 := Lib.hid (KG5.out.up hb)
  have SG6 := Lib.hid (SG5.out.up hb)
  have O1_6 := Lib.hid (O1_5.out.up hb)
  have O2_6 := Lib.hid (O2_5.out.up hb)
  have O3_6 := Lib.hid (O3_5.out.up hb)
  clear hb cG lG own6 HB5 KG5 SG5 O1_5 O2_5 O3_5
  have cG := Blk.cell (i := 0) (v := .slice AX xs.length cX) KG6.out rfl
  have lG := Blk.lt KG6.out
  go_wp2_with fail
  refine (implEmbStart_any _ xs p _ SG6.out HG.out Hw.out).mono ?_
  rintro e w7 ⟨rfl, hb⟩
  rw [HD.out.2.2.2.2]
  have HB7 := Lib.hid (Below.tr HB6.out hb)
  have KG7 := Lib.hid (KG6.out.up hb)
  have SG7 := Lib.hid (SG6.out.up hb)
  have O1_7 := Lib.hid (O1_6.out.up hb)
  have O2_7 := Lib.hid (O2_6.out.up hb)
  have O3_7 := Lib.hid (O3_6.out.up hb)
  have O4_7 := Lib.hid (O4_6.out.up hb)
  clear hb cG lG HB6 KG6 SG6 O1_6 O2_6 O3_6 O4_6
  have cG := Blk.cell (i := 0) (v := .slice AX xs.length cX) KG7.out rfl
  have lG := Blk.lt KG7.out
  go_wp2_with fail
  refine (specEmbStart_any _ xs p _ SG7.out HG.out Hw.out).mono ?_
  rintro e w8 ⟨rfl, hb⟩
  rw [HD.out.2.2.2.2]
  have HB8 := Lib.hid (Below.tr HB7.out hb)
  have KG8 := Lib.hid (KG7.out.up hb)
  have SG8 := Lib.hid (SG7.out.up hb)
  have O1_8 := Lib.hid (O1_7.out.up hb)
  have O2_8 := Lib.hid (O2_7.out.up hb)
  have O3_8 := Lib.hid (O3_7.out.up hb)
  have O4_8 := Lib.hid (O4_7.out.up hb)
  clear hb cG lG HB7 KG7 SG7 O1_7 O2_7 O3_7 O4_7
  have hcase := emb_cases xs p HG.out Hw.out
  rw [HD.out.1, HD.out.2.1, HD.out.2.2.1, HD.out.2.2.2.1, HD.out.2.2.2.2] at hcase
  rcases hcase with ⟨hs, rfl, rfl, rfl, rfl⟩ | ⟨hf, rfl, rfl, HA⟩
  · -- @V a
    have hnI : ¬ (n : Int) = (p.size : Int) := by omega
    have hnb : ((n : Int) == (p.size : Int)) = false := by rw [beq_eq_false_iff_ne]; exact hnI
    have Q1 := Lib.hid (fun (W : World) (hW : Below w8.heap.size w8 W) => f6ints_any _ _ [] W (O1_8.out.up hW) (O3_8.out.up hW))
    have Q2 := Lib.hid (fun (W : World) (hW : Below w8.heap.size w8 W) => f6ints_any _ _ [] W (O2_8.out.up hW) (O4_8.out.up hW))
    have hlen0 : ([] : List Int).length = 0 := rfl
    go_wp2_with fail
    refine (Q1.out _ (Below.refl _ _)).mono ?_
    rintro e w9 ⟨rfl, n9, rfl⟩
    go_wp2_with fail
    refine (Q2.out _ (below_drewN (Below.refl _ _) n9)).mono ?_
    rintro e w10 ⟨rfl, n10, rfl⟩
    have hbA : Below w8.heap.size w8 ((w8.drewN n9).drewN n10) := below_drewN (below_drewN (Below.refl _ _) n9) n10
    generalize (w8.drewN n9).drewN n10 = wA at *
    have HBA := Lib.hid (Below.tr HB8.out hbA)
    have KGA := Lib.hid (KG8.out.up hbA)
    have SGA := Lib.hid (SG8.out.up hbA)
    have cG := Blk.cell (i := 0) (v := .slice AX xs.length cX) KGA.out rfl
    have lG := Blk.lt KGA.out
    clear hbA
    have z9 : Below wA.heap.size wA wA.drew := Below.drew (Below.refl _ _)
    have hy := ext_yes HG.out Hw.out
    have hno := ext_no HG.out Hw.out (by rw [HD.out.2.2.2.2]; exact hs)
    rw [HD.out.2.2.2.2] at hy hno
    have he1 : (p.extract 0 n).size ≤ maxLen := by rw [ext_size (by omega)]; omega
    have he2 : (p.extract 0 (n + 1)).size ≤ maxLen := by rw [ext_size (by omega)]; omega
    have hE1 : Hid (∀ W : World, Below wA.heap.size wA W → Calls Try.prog 20 #[.agg #[.slice AX xs.length cX], .string (p.extract 0 n)] W fun e w' => ∃ A c, e = .returned (.tuple #[.slice A n c, .int .i64 0]) ∧ Below W.heap.size W w') := fun W hW => by
      have h0 := embedFirst_any _ xs (p.extract 0 n) W (SGA.out.up hW) hx400 he1
      refine h0.mono ?_
      rintro e w' ⟨v, rfl, own, hb⟩
      obtain ⟨A, c, rfl, _⟩ := own_nil own
      rw [hy.1, hy.2]
      exact ⟨A, c, rfl, hb⟩
    have hE2 : Hid (∀ W : World, Below wA.heap.size wA W → Calls Try.prog 20 #[.agg #[.slice AX xs.length cX], .string (p.extract 0 (n + 1))] W fun e w' => ∃ A c, e = .returned (.tuple #[.slice A 0 c, .int .i64 6]) ∧ Below W.heap.size W w') := fun W hW => by
      have h0 := embedFirst_any _ xs (p.extract 0 (n + 1)) W (SGA.out.up hW) hx400 he2
      refine h0.mono ?_
      rintro e w' ⟨v, rfl, own, hb⟩
      obtain ⟨A, c, rfl, _⟩ := own_nil own
      rw [hno.1, hno.2]
      exact ⟨A, c, rfl, hb⟩
    have hn1 : (n : Int) ≤ (p.size : Int) := by omega
    have hn2 : (n : Int) + 1 ≤ (p.size : Int) := by omega
    have hn3 : (0 : Int) ≤ (n : Int) + 1 := by omega
    have hwn : IntKind.i64.wrap ((n : Int) + 1) = (n : Int) + 1 := IntWalk.i64_in _ (by omega)
    have htn : ((n : Int) + 1).toNat = n + 1 := by omega
    clear hy hno he1 he2
    go_wp2_with fail
    -- @V c
    go_region_held3 (fun w' => Below wA.heap.size wA w' ∧ w'.cell? ⟨w1.heap.size, 0, none⟩ = some (.slice AX xs.length cX))
      (first | (with_reducible exact keepG1 KGA.out z9) | (with_reducible exact keepG1 KGA.out (Below.tr z9 hbC)))
      (first | (go_at_call 20; refine (hE1.out _ z9).mono ?_; rintro e wC ⟨AC, cC, rfl, hbC⟩))
    have zC := Below.tr z9 hbC
    have HBC := Lib.hid (Below.tr HBA.out zC)
    have KGC := Lib.hid (KGA.out.up zC)
    have HzC := Lib.hid zC
    clear z9 hbC hE1 zC cG lG
    have cG := Blk.cell (i := 0) (v := .slice AX xs.length cX) KGC.out rfl
    have lG := Blk.lt KGC.out
    have zD : Below wC.heap.size wC wC.drew := Below.drew (Below.refl _ _)
    go_wp2_with fail
    go_region_held3 (fun w' => Below wC.heap.size wC w' ∧ w'.cell? ⟨w1.heap.size, 0, none⟩ = some (.slice AX xs.length cX))
      (first | (with_reducible exact keepG1 KGC.out zD) | (with_reducible exact keepG1 KGC.out (Below.tr zD hbD)))
      (first | (go_at_call 20; refine (hE2.out _ (Below.tr HzC.out zD)).mono ?_; rintro e wD ⟨AD, cD, rfl, hbD⟩))
    have HBD := Lib.hid (Below.tr (Below.tr HBC.out zD) hbD)
    clear zD hbD cG lG
    go_wp2_with fail
    go_ret
    exact ⟨rfl, HBD.out⟩
  · -- @V b
    subst hf
    have hla := HA.la
    have hlb := HA.lb
    have HAH := Lib.hid HA
    have P1 := O1_8.out
    have P2 := O2_8.out
    have P3 := O3_8.out
    have P4 := O4_8.out
    rw [hla] at P1 P3
    rw [hlb] at P2 P4
    have R3 := Lib.hid P3
    have R4 := Lib.hid P4
    have Q1 := Lib.hid (fun (W : World) (hW : Below w8.heap.size w8 W) => f6ints_any _ _ L1 W (SlS.up P1 hW) (SlS.up P3 hW))
    have Q2 := Lib.hid (fun (W : World) (hW : Below w8.heap.size w8 W) => f6ints_any _ _ L2 W (SlS.up P2 hW) (SlS.up P4 hW))
    have Hla := Lib.hid hla
    have Hlb := Lib.hid hlb
    rw [hla, hlb]
    clear P1 P2 P3 P4 hla hlb O1_8 O2_8 O3_8 O4_8
    go_wp2_with fail
    -- @V b.p
    refine (Q1.out _ (Below.refl _ _)).mono ?_
    rintro e w9 ⟨rfl, n9, rfl⟩
    -- @V b.p.q
    go_wp2_with fail
    -- @V b.p.q.r
    refine (Q2.out _ (below_drewN (Below.refl _ _) n9)).mono ?_
    rintro e w10 ⟨rfl, n10, rfl⟩
    have hbA : Below w8.heap.size w8 ((w8.drewN n9).drewN n10) := below_drewN (below_drewN (Below.refl _ _) n9) n10
    generalize (w8.drewN n9).drewN n10 = wA at *
    have HBA := Lib.hid (Below.tr HB8.out hbA)
    have KGA := Lib.hid (KG8.out.up hbA)
    have SGA := Lib.hid (SG8.out.up hbA)
    have OA := Lib.hid (R3.out.up hbA)
    have OB := Lib.hid (R4.out.up hbA)
    clear hbA Q1 Q2 HA R3 R4 HB8 KG8 SG8 Hsm hx400 hps HD
    -- @V b.p.q.r.s
    go_wp2_with fail
    -- @V b.p.q.r.s.t
    go_loopw [23] (fun vi wx => ∃ k : Nat, k ≤ p.size ∧ vi = .int .i64 (k : Int) ∧ Below wA.heap.size wA wx) (fun vi _ => p.size - (intOf vi).toNat)
    case atStart => exact ⟨0, Nat.zero_le _, rfl, Below.refl _ _⟩
    case round =>
      obtain ⟨k, hk, rfl, hb⟩ := hrel
      have HBr := Lib.hid (Below.tr HBA.out hb)
      have HBw := Lib.hid hb
      have KGr := Lib.hid (KGA.out.up hb)
      have SGr := Lib.hid (SGA.out.up hb)
      by_cases hkp : k < p.size
      · -- @V b.p.q.r.s.t.y
        have hkI : (k : Int) < (p.size : Int) := by omega
        obtain ⟨a, b, ea, eb, hab, wa, wb⟩ := HAH.out.get k hkp
        have Hwa := Lib.hid wa
        have Hwb := Lib.hid wb
        have ka : k < L1.length := by rw [Hla.out]; exact hkp
        have kb : k < L2.length := by rw [Hlb.out]; exact hkp
        obtain ⟨_, _, ex, _, _, hx⟩ := OA.out.up hb
        obtain ⟨ba, oa, qx, zx, gx⟩ := hx.int ka
        injection ex with ex enx ecx
        clear enx
        subst ecx
        rw [qx] at ex
        subst ex
        have dx := gx k ka
        rw [ea] at dx
        obtain ⟨_, _, ey, _, _, hy⟩ := OB.out.up hb
        obtain ⟨bb, ob, qy, zy, gy⟩ := hy.int kb
        injection ey with ey eny ecy
        clear eny
        subst ecy
        rw [qy] at ey
        subst ey
        have dy := gy k kb
        rw [eb] at dy
        have GX := Lib.hid gx
        have GY := Lib.hid gy
        have ZX := Lib.hid zx
        have ZY := Lib.hid zy
        have Dx := Lib.hid dx
        have Dy := Lib.hid dy
        have hLA := Lib.hid (fun (W : World) (hW : Below wr.heap.size wr W) => letterAtIn_any _ xs a p[k] W (SGr.out.up hW) HG.out Hwa.out)
        have hLB := Lib.hid (fun (W : World) (hW : Below wr.heap.size wr W) => letterAtIn_any _ xs b p[k] W (SGr.out.up hW) HG.out Hwb.out)
        have cG := Blk.cell (i := 0) (v := .slice AX xs.length cX) KGr.out rfl
        have lG := Blk.lt KGr.out
        have z9 : Below wr.heap.size wr wr.drew := Below.drew (Below.refl _ _)
        clear hx hy qx qy gx gy wa wb zx zy hb ka kb dy
        have EAB := Lib.hid (And.intro ea eb)
        clear ea eb
        go_wp2_with fail
        go_region_held3 (fun w' => Below wr.heap.size wr w' ∧ w'.cell? ⟨w1.heap.size, 0, none⟩ = some (.slice AX xs.length cX) ∧ w'.cell? ⟨ba, oa + k, none⟩ = some (.int .i64 (a : Int)))
          (first | (with_reducible exact keepG2e KGr.out Dx.out ZX.out z9) | (with_reducible exact keepG2e KGr.out Dx.out ZX.out (Below.tr z9 hbC)))
          (first | (go_at_call 25; refine (hLA.out _ z9).mono ?_; rintro e wC ⟨rfl, hbC⟩))
        have zC := Below.tr z9 hbC
        have HzC := Lib.hid zC
        have KGC := Lib.hid (KGr.out.up zC)
        have HBC := Lib.hid (Below.tr HBr.out zC)
        have HwC := Lib.hid (Below.tr HBw.out zC)
        have DyC := Lib.hid ((zC.cell (p := ⟨bb, ob + k, none⟩) ZY.out).trans Dy.out)
        have DxC := Lib.hid ((zC.cell (p := ⟨ba, oa + k, none⟩) ZX.out).trans Dx.out)
        have ZYC := Lib.hid (show bb < wC.heap.size from Nat.lt_of_lt_of_le ZY.out zC.size)
        have ZXC := Lib.hid (show ba < wC.heap.size from Nat.lt_of_lt_of_le ZX.out zC.size)
        clear z9 zC hbC cG lG dx
        have dy := DyC.out
        have cG := Blk.cell (i := 0) (v := .slice AX xs.length cX) KGC.out rfl
        have lG := Blk.lt KGC.out
        have zD : Below wC.heap.size wC wC.drew := Below.drew (Below.refl _ _)
        go_wp2_with fail
        go_region_held3 (fun w' => Below wC.heap.size wC w' ∧ w'.cell? ⟨w1.heap.size, 0, none⟩ = some (.slice AX xs.length cX) ∧ w'.cell? ⟨bb, ob + k, none⟩ = some (.int .i64 (b : Int)))
          (first | (with_reducible exact keepG2e KGC.out DyC.out ZYC.out zD) | (with_reducible exact keepG2e KGC.out DyC.out ZYC.out (Below.tr zD hbD)))
          (first | (go_at_call 25; refine (hLB.out _ (Below.tr HzC.out zD)).mono ?_; rintro e wD ⟨rfl, hbD⟩))
        have zD2 := Below.tr zD hbD
        have HBD := Lib.hid (Below.tr HBC.out zD2)
        have HwD := Lib.hid (Below.tr HwC.out zD2)
        have dyD := (zD2.cell (p := ⟨bb, ob + k, none⟩) ZYC.out).trans DyC.out
        have dxD := (zD2.cell (p := ⟨ba, oa + k, none⟩) ZXC.out).trans DxC.out
        have HzD := Lib.hid (Below.tr HzC.out zD2)
        have zxD : ba < wD.heap.size := Nat.lt_of_lt_of_le ZXC.out zD2.size
        have zyD : bb < wD.heap.size := Nat.lt_of_lt_of_le ZYC.out zD2.size
        have hslc := sliceOne hkp
        have hwk : IntKind.i64.wrap ((k : Int) + 1) = (k : Int) + 1 := IntWalk.i64_in _ (by omega)
        have habI : decide (b < a) = false := decide_eq_false (by omega)
        clear zD hbD cG lG dy hLA hLB zD2 DyC DxC ZYC ZXC HzC KGC HBC HwC Dx Dy KGr SGr OA OB
        by_cases hk0 : k = 0
        · -- @V b.p.q.r.s.t.y.a
          have hkg : decide (0 < k) = false := decide_eq_false (by omega)
          clear HBw HBr HzD HAH GX GY ZX ZY EAB Hwa Hwb Hla Hlb
          have Hk0 := Lib.hid hk0
          clear hk0
          go_wp2_with fail
          go_quiet (fail)
          have hbn := below_drewN HwD.out nq
          go_wp2_with fail
          go_roundw
          case rel => exact ⟨k + 1, hkp, rfl, hbn⟩
          case measure => simp [intOf]; omega
        · -- @V b.p.q.r.s.t.y.b
          have hkg : decide (0 < k) = true := decide_eq_true (by omega)
          obtain ⟨m, hm⟩ : ∃ m, k = m + 1 := ⟨k - 1, by omega⟩
          have hwm : IntKind.i64.wrap ((k : Int) - 1) = (m : Int) := by rw [IntWalk.i64_in _ (by omega)]; omega
          have hmI : (m : Int) < (p.size : Int) := by omega
          have dxm := (HzD.out.cell (p := ⟨ba, oa + m, none⟩) ZX.out).trans (GX.out m (by rw [Hla.out]; omega))
          have dym := (HzD.out.cell (p := ⟨bb, ob + m, none⟩) ZY.out).trans (GY.out m (by rw [Hlb.out]; omega))
          have ha := HAH.out.ina m (by omega)
          have hb' := HAH.out.inb m (by omega)
          rw [← hm, EAB.out.1] at ha
          rw [← hm, EAB.out.2] at hb'
          obtain ⟨a', b', ea', eb', -⟩ := HAH.out.get m (by omega)
          rw [ea'] at ha dxm
          rw [eb'] at hb' dym
          have haI : decide (a ≤ a') = false := decide_eq_false (by omega)
          have hbI : decide (b ≤ b') = false := decide_eq_false (by omega)
          have Hm := Lib.hid hm
          clear hk0 hm ha hb' ea' eb' HBw HBr HzD HAH GX GY ZX ZY EAB Hwa Hwb Hla Hlb
          go_wp2_with fail
          go_quiet (fail)
          have hbn := below_drewN HwD.out nq
          go_wp2_with fail
          go_roundw
          case rel => exact ⟨k + 1, hkp, rfl, hbn⟩
          case measure => simp [intOf]; omega
      · -- @V b.p.q.r.s.t.z
        have hke : k = p.size := by omega
        subst hke
        clear hb
        go_wp2_with fail
        go_ret
        exact ⟨rfl, HBr.out⟩
open Go.RowKit Go.WideShapes Go.ChangeShapes
section
variable {H : Type} {enc : TypeId × Value → H} {P : Program}
theorem post_of_below {f : Func} {s : ChangeSpec} {apart fresh handsOn again : Bool} {W W' : World} {args : Array Value} {v : Value} {ds gs : List (DataW H)} {before pa pv : List MemPlace}
    (hW : DataW.Whole enc P f.params.toList s.vars apart W args.toList ds gs before)
    (hres : ∀ (b : Nat) (sp : Nat → Bool) (hd : Bool), DataW.TrodAll enc P W' b sp hd f.resultTypes.toList (v.resultList f.resultTypes.size) (s.fn H (ds ++ gs)).results [])
    (hargs : ∀ sp : Nat → Bool, (∀ p ∈ before, sp p.block = true) → DataW.TrodAll enc P W' 0 sp true f.params.toList args.toList (s.fn H (ds ++ gs)).args pa)
    (hvars : ∀ sp : Nat → Bool, (∀ p ∈ before, sp p.block = true) → DataW.TrodVars enc P W' sp s.vars (s.fn H (ds ++ gs)).vars pv)
    (hps : before = pa ++ pv) (hb : Below W.heap.size W W')
    (hok : ∀ (j : Nat) (t : TypeId) (r : Value), f.resultTypes[j]? = some t → (v.resultList f.resultTypes.size)[j]? = some r → Value.okWide P W' .any 0 t r) :
    s.post enc P f apart fresh handsOn again W args v W' := by
  have hlt : ∀ p ∈ before, p.block < W.heap.size := fun p hp => hW.lt p hp
  have hold : ∀ p ∈ before, (fun b => decide (b < W.heap.size)) p.block = true := fun p hp => by simpa using hlt p hp
  refine ⟨ds, gs, before, [], pa, pv, hW, hres _ _ _, hargs _ hold, hvars _ hold, World.keptBut_mono (fun p hp => ⟨hp, ?_⟩) (hb.frame (· ∈ before)), fun _ => ?_⟩
  · rw [hps, List.mem_append] at hp
    exact Or.inr hp
  · obtain ⟨_, _, _, _, _, hz, hn⟩ := hW
    refine ⟨hok, _, _, ([] ++ pa) ++ pv, ⟨[] ++ pa, pv, trodAll_append (hargs _ (fun _ _ => rfl)) (hres _ _ _), hvars _ (fun _ _ => rfl), rfl, ?_, ?_⟩, ?_⟩
    · intro b off hp
      have hin : MemPlace.cell b off ∈ before := by rw [hps]; simpa using hp
      rw [hb.frozen (hlt _ hin)]
      exact hz b off hin
    · intro ha
      have := hn ha
      rw [hps] at this
      simpa using this
    · intro p hp _
      rw [hps]
      simpa using hp
theorem trodAll_below (hl : laidOutB P = true) {W W' : World} (hb : Below W.heap.size W W') : ∀ {ts : List TypeId} {vs : List Value} {ds : List (DataW H)} {ps : List MemPlace},
    (∀ t ∈ ts, P.readableRec t = true ∧ t < P.types.size) → DataW.TrodAll enc P W 0 (fun _ => true) true ts vs ds ps → (∀ x ∈ ps, x.block < W.heap.size) → ∀ sp : Nat → Bool, (∀ p ∈ ps, sp p.block = true) →
    DataW.TrodAll enc P W' 0 sp true ts vs ds ps
  | [], _, _, _, _, h, _, _, _ => by
    obtain ⟨rfl, rfl, rfl⟩ := trodAll_nil h
    exact trodAll_mk0
  | t :: ts, vs, ds, ps, hts, h, hlt, sp, hsp => by
    obtain ⟨v, vs', d, ds', p, q, rfl, rfl, rfl, h0, r0⟩ := trodAll_cons h
    refine trodAll_cons_mk (WideElems.Trod_stays hl (hts t (by simp)).1 (hts t (by simp)).2 h0 (fun x hx => hb.same (hlt x (by simp [hx]))) (fun x hx => hsp x (by simp [hx]))) ?_
    exact trodAll_below hl hb (fun t ht => hts t (by simp [ht])) r0 (fun x hx => hlt x (by simp [hx])) sp (fun x hx => hsp x (by simp [hx]))
end
theorem laidOut : laidOutB Try.prog = true := by kernel_rfl
theorem own : ownKnob Try.prog.godebug = none := by kernel_rfl
open Go.RowKit Go.ChangeShapes Go.WideShapes Go.Deep
section
variable {H : Type} {enc : TypeId × Value → H} {P : Program} {w : World} {base : Nat} {spare : Nat → Bool} {held : Bool}
theorem add_plain (b o n : Nat) : (⟨b, o, none⟩ : Addr).add n = ⟨b, o + n, none⟩ := by unfold Addr.add; split <;> simp_all
theorem spot_none {a : Addr} {v : Value} (h : w.cell? a = some v) : a = ⟨a.block, a.off, none⟩ ∧ a.block < w.heap.size := by
  have hl := World.block_lt_of_cell? w a h
  refine ⟨?_, hl⟩
  obtain ⟨b, o, s⟩ := a
  unfold World.cell? at h
  cases s with
  | none => rfl
  | some s => split at h <;> simp at h
theorem len_map_range {α : Type} (f : Nat → α) (n : Nat) : ((List.range n).map f).length = n := by simp
end
open Go.RowKit Go.ChangeShapes Go.WideShapes Go.Deep
def Opens {α : Type} (P : Program) (E : Enc α) (Q : α → Prop) (t : TypeId) : Prop :=
  ∀ {H : Type} (enc : TypeId × Value → H) (w : World) (base : Nat) (spare : Nat → Bool) (held : Bool) (fuel : Nat) (cs : List Value) (x : DataW H × List MemPlace), DataW.trod enc P w base spare held fuel t cs = some x → ∃ a, E.cells w (· < w.heap.size) a cs ∧ Q a
instance : Inhabited GRule := ⟨⟨⟨#[]⟩, 0, 0⟩⟩
theorem opens_slice {α : Type} {P : Program} {E : Enc α} {Q : α → Prop} {t e : TypeId} [Inhabited α] (hE : Opens P E Q e) (ht : P.underlying t = some (.slice e)) (hC : P.cellsOf e = E.size) : Opens P (SliceE E) (fun xs => ∀ x ∈ xs, Q x) t := by
  intro H enc w base spare held fuel cs x h
  rcases open_slice ht h with ⟨h0, _⟩ | ⟨a, len, cap, m, n, D, Pl, hcs, hb, hl, hm, hmm, hx, hi⟩
  · exact ⟨[], ⟨_, h0, SlS.nil _ _⟩, fun x hx => by simp at hx⟩
  · have hmle : len ≤ m := by rw [hmm]; split <;> omega
    have Hh : ∀ i, i < len → ∃ r : α, ∃ cs', E.cells w (· < w.heap.size) r cs' ∧ (∀ j u, cs'[j]? = some u → w.cell? (a.add (i * E.size + j)) = some u) ∧ Q r := by
      intro i hil
      obtain ⟨cs', hc, ht'⟩ := hi i (by omega)
      obtain ⟨r, hr, hq⟩ := hE enc w base spare held n cs' _ ht'
      obtain ⟨_, hcl, hat⟩ := World.cells?_some hc
      refine ⟨r, cs', hr, fun j u hu => ?_, hq⟩
      have hj : j < cs'.length := (List.getElem?_eq_some_iff.1 hu).1
      rw [← Go.Deep.add_add, ← hC, hat j (by omega), hu]
    obtain ⟨F, hF⟩ := choose_lt Hh
    clear Hh
    refine ⟨(List.range len).map F, ⟨.slice (some a) len cap, hcs, some a, cap, by rw [len_map_range], by rw [len_map_range]; exact hl, hm, fun hn => ?_⟩, ?_⟩
    · rw [len_map_range] at hn
      obtain ⟨cs', h1, h2, _⟩ := hF 0 hn
      have hlen := E.len h1
      have hpos := E.pos
      have g0 := h2 0 cs'[0] (List.getElem?_eq_getElem (by omega))
      have ha : a.add (0 * E.size + 0) = a := by simp [Addr.add]
      rw [ha] at g0
      obtain ⟨hsp, hlt⟩ := spot_none g0
      refine ⟨a.block, a.off, by rw [← hsp], hlt, fun k r hr => ?_⟩
      have hk : k < len := by
        have := (List.getElem?_eq_some_iff.1 hr).1
        rw [len_map_range] at this; exact this
      have er : F k = r := by
        rw [List.getElem?_map, List.getElem?_range hk] at hr; simpa using hr
      obtain ⟨cs'', h3, h4, _⟩ := hF k hk
      rw [er] at h3
      refine ⟨cs'', h3, fun j u hu => ?_⟩
      have := h4 j u hu
      rw [hsp, add_plain] at this
      exact this
    · intro r hr
      rw [List.mem_map] at hr
      obtain ⟨k, hk, rfl⟩ := hr
      exact (hF k (by simpa using hk)).choose_spec.2.2
open Go.ChangeShapes Go.WideShapes Go.ChangeAt Go.RowKit Go.Joins Go.Deep
theorem opens_byte {P : Program} {t : TypeId} (ht : P.underlying t = some (.int .u8)) : Opens P ByteE (fun _ => True) t := by
  intro H enc w base spare held fuel cs x h
  obtain ⟨p, e1, _, e2⟩ := DataW.trod_int ht h
  have hp : 0 ≤ p ∧ p < 256 := by
    have h1 : IntKind.u8.min ≤ p ∧ p ≤ IntKind.u8.max := by simpa [Lit.wf] using e2
    have m1 : IntKind.u8.min = 0 := by decide
    have m2 : IntKind.u8.max = 255 := by decide
    rw [m1, m2] at h1
    omega
  refine ⟨UInt8.ofNat p.toNat, ?_, trivial⟩
  rw [e1]
  have : (UInt8.ofNat p.toNat).toNat = p.toNat := by rw [UInt8.toNat_ofNat']; omega
  show [Value.int .u8 p] = [.int .u8 ((UInt8.ofNat p.toNat).toNat : Int)]
  rw [this]
  congr 2
  omega
instance : Inhabited UInt8 := ⟨0⟩
set_option maxRecDepth 100000 in
theorem opensBytes : Opens Try.prog (SliceE ByteE) (fun xs => ∀ x ∈ xs, True) 41 := opens_slice (opens_byte Try.underlying5) Try.underlying41 (by kernel_rfl)
set_option maxRecDepth 100000 in
theorem open_bytes {H : Type} {enc : TypeId × Value → H} {w : World} {base : Nat} {spare : Nat → Bool} {held : Bool} {r : Reach} {b0 : Nat} {v : Value} {d : DataW H} {p : List MemPlace}
    (hv : Value.okWide Try.prog w r b0 41 v) (h : DataW.Trod enc Try.prog w base spare held 41 v d p) : ∃ xs, Sl ByteE w w.heap.size v xs := by
  obtain ⟨a, len, cap, rfl⟩ := okWide_slice Try.underlying41 hv
  obtain ⟨fuel, hf⟩ := h
  obtain ⟨xs, ⟨u, e1, hsl⟩, _⟩ := opensBytes enc w base spare held fuel [.slice a len cap] _ (by simpa [Value.cells] using hf)
  simp at e1
  subst e1
  exact ⟨xs, hsl⟩
end Go.Proofs.Ytfkijaamfmpboaa
