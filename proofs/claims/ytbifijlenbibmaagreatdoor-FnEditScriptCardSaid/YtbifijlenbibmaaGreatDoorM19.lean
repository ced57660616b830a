import Derived.Test.YtbifijlenbibmaaGreatDoorM2
import Derived.Test.YtbifijlenbibmaaGreatDoorM8
import Derived.Test.YtbifijlenbibmaaGreatDoorM9
import Derived.Test.YtbifijlenbibmaaGreatDoorM14
import Derived.Test.YtbifijlenbibmaaGreatDoorM16
import Derived.Test.YtbifijlenbibmaaGreatDoorM1
import Derived.Test.YtbifijlenbibmaaGreatDoorM17
import Derived.Test.YtbifijlenbibmaaGreatDoorM18
import Derived.Test.YtbifijlenbibmaaGreatDoorRows
import Derived.WalkKit
import Derived.ProofKit
import Derived.Below
import Derived.ChangeSame
import Derived.Lib.SmallJoins
import Derived.Carry
import Derived.WideKeyArgs
import Derived.OpenShut
import Derived.Deep.Slices
import Derived.Deep.Fields
import Derived.SevenTiedAt
namespace Go.Proofs.YtbifijlenbibmaaGreatDoor
open Go.RowKit
theorem mk_str (l : List UInt8) : (⟨l.toArray⟩ : ByteArray).size = l.length := by show l.toArray.size = _; simp
theorem esHead_snoc (ps : List GEdit) (e : GEdit) : esHead (ps ++ [e]) = esHead ps ++ (etV e ++ [10]) := by
  unfold esHead; rw [List.flatMap_append]; simp
theorem esHead_len {ps : List GEdit} (h : ∀ e ∈ ps, (etV e).length ≤ 2100) : (esHead ps).length ≤ 2101 * ps.length := by
  induction ps with
  | nil => simp [esHead]
  | cons e l ih =>
    have h2 := ih (fun x hx => h x (by simp [hx]))
    have h3 := h e (by simp)
    unfold esHead at h2 ⊢
    rw [List.flatMap_cons, List.length_append, List.length_append, List.length_singleton, List.length_cons]
    omega
theorem edit_map4 {e : GEdit} (h : editOk e = true) : e.map.size ≤ 4 := by
  unfold editOk at h
  simp only [Bool.and_eq_true] at h
  have := h.2
  split at this
  · simp only [Bool.and_eq_true, beq_iff_eq] at this; omega
  · simp only [beq_iff_eq] at this; omega
set_option maxRecDepth 100000 in
set_option maxHeartbeats 8000000 in
theorem lawEditScript_any (v v' : Value) (l l' : List UInt8) (w : World) (h : Sl ByteE w w.heap.size v l) (h' : Sl ByteE w w.heap.size v' l') (hv : RdVars w) (htab : Lib.TabIs Tryz.prog w "math/bits.deBruijn64tab" .u8 deB64) :
    Calls Tryz.prog 5 #[v, v'] w fun r w' => r = .returned (.bool true) ∧ Below w.heap.size w w' := by
  have HL := Lib.hid h
  have HM := Lib.hid h'
  have HV := Lib.hid hv
  have HT := Lib.hid htab
  obtain ⟨A, c, rfl, _⟩ := h
  obtain ⟨A', c', rfl, _⟩ := h'
  clear hv htab
  go_enter Tryz.func5, Tryz.ntmps5
  go_wp2_with fail
  refine (a2Long_any _ _ l l' _ HL.out HM.out).mono ?_
  rintro r w0 ⟨rfl, rfl⟩
  cases hlong : (decide ((3000 : Int) < l.length) || decide ((3000 : Int) < l'.length)) with
  | true =>
    go_wp2_with fail
    go_ret
    exact ⟨rfl, Below.refl _ _⟩
  | false =>
    clear hlong
    go_wp2_with fail
    refine (A2Grammar_any _ l 20 _ HL.out).mono ?_
    rintro r w1 ⟨u1, xs, rfl, hsl, hdr, hl14, hb1⟩
    obtain ⟨AX, cX, rfl, _⟩ := (id hsl : Sl RuleE w1 w1.heap.size u1 xs)
    obtain ⟨d1, d2, d3, d4⟩ := drawnW hdr (by omega) (by omega)
    have hgx := hdr.1
    have hsx := hdr.2.2.2
    have ba := (Below.refl _ w1).alloc (Nat.le_refl _) (.cells #[.slice AX xs.length cX] 30)
    have KG := Lib.hid (Blk.new w1 #[.slice AX xs.length cX] 30)
    have HB1 := Lib.hid (Below.tr hb1 ba)
    have HS1 := Lib.hid (hsl.up ba)
    have HGX := Lib.hid hgx
    have HSX := Lib.hid hsx
    have HD := Lib.hid (And.intro d1 (And.intro d2 (And.intro d3 d4)))
    clear hb1 hdr d1 d2 d3 d4 hgx hsx hsl ba
    go_upto_region 4 with fail
    revert KG HB1 HS1
    generalize (w1.alloc (.cells #[.slice AX xs.length cX] 30)) = w2
    intro KG HB1 HS1
    obtain ⟨G, hG⟩ : ∃ G, w1.heap.size = G := ⟨_, rfl⟩
    rw [hG] at KG
    rw [hG]
    clear hG
    have cG := Blk.cell (i := 0) (v := .slice AX xs.length cX) KG.out rfl
    have lG := Blk.lt KG.out
    go_wp2_with fail
    refine (A2Edits_any _ _ l' xs _ (HM.out.up HB1.out) HS1.out HGX.out).mono ?_
    rintro r w3 ⟨vE, es, rfl, hE, h6, hdE, hb3⟩
    have HE3 := Lib.hid hE
    obtain ⟨AE, cE, rfl, hcE, hmE, _⟩ := hE
    have HDE := Lib.hid hdE
    have KG3 := Lib.hid (KG.out.up hb3)
    have HB3 := Lib.hid (Below.tr HB1.out hb3)
    have HS3 := Lib.hid (HS1.out.up hb3)
    have hG3 : G < w3.heap.size := KG3.out.lt
    clear hb3 KG HB1 HS1 cG lG hdE hcE hmE
    have b4 := (Below.refl _ w3).alloc (Nat.le_refl _) (Obj.cells #[] 46)
    have HQ4 := Lib.hid (oedq_empty (W := w3) (b := G) (c := G) (lo := w3.heap.size) rfl (Nat.le_refl _) hG3 (by omega))
    have HB4 := Lib.hid b4
    clear b4
    go_wp2_with fail
    go_loopw [7, 8, 9] (fun o x i wx => ∃ (k : Nat) (Av : Option Addr) (cv : Nat), k ≤ es.length ∧ o = .slice Av (plainEs (es.take k)).length cv ∧ x = .string ⟨(esHead (plainEs (es.take k))).toArray⟩ ∧ i = .int .i64 k ∧ Hid (OEdQ wx G G w3.heap.size (.slice Av (plainEs (es.take k)).length cv) (plainEs (es.take k))) ∧ Hid (Below w3.heap.size w3 wx)) (fun _ _ i _ => es.length - (intOf i).toNat)
    case atStart => exact ⟨0, _, _, Nat.zero_le _, rfl, rfl, rfl, HQ4, HB4⟩
    case round =>
      obtain ⟨k, Av, cv, hk, rfl, rfl, rfl, HQ, HB⟩ := hrel
      by_cases hlt : k < es.length
      · obtain ⟨e, he⟩ : ∃ e, es[k]? = some e := ⟨_, List.getElem?_eq_getElem hlt⟩
        obtain ⟨_, _, hAE, _, _, hrow⟩ := HE3.out.up HB.out
        injection hAE with hA1 hA2 hA3
        subst hA1 hA3
        obtain ⟨bE, oE, rfl, hbl, hcell⟩ := hrow.edit (fun _ h => h) hlt
        obtain ⟨vR, hec, hR⟩ := hcell k e he
        have hde := HDE.out e (List.mem_of_getElem? he)
        have HEV := Lib.hid (show EditV wr wr.heap.size (.agg #[.int .i64 e.kind, .int .i64 e.i, .int .i64 e.j, .int .i64 e.k, vR, .string e.map]) e from ⟨vR, rfl, hR⟩)
        have HDe := Lib.hid hde
        have hi : (k : Int) < (es.length : Int) := by omega
        obtain ⟨e0, e1, e2, e3, e4, e5, elt⟩ := hec
        clear hcell hrow hR hde
        go_wp2_with fail
        refine (specEditText_any _ e _ HEV.out HDe.out.2.1 (by have := HDe.out.1.1; omega) (by have := HDe.out.2.2.2; unfold maxLen; omega)).mono ?_
        rintro r w5 ⟨rfl, hb5⟩
        have HB5 := Lib.hid (Below.tr HB.out hb5)
        have HQ5 := Lib.hid (HQ.out.up hb5)
        have hlen := etV_len HDe.out.2.2.2
        have hts : (⟨(etV e).toArray⟩ : ByteArray).size ≤ 1048576 := by rw [mk_str]; omega
        have HET := Lib.hid (show (⟨(etV e).toArray⟩ : ByteArray) = txtE e from rfl)
        clear hb5 e0 e1 e2 e3 e4 e5 elt HQ HB
        go_wp2_with fail
        refine (specRead_any ⟨(etV e).toArray⟩ _ hts).mono ?_
        rintro r w6 ⟨hb6, v6, own6, rfl⟩
        have hz56 := hb6.size
        have hz35 : w3.heap.size ≤ w5.heap.size := HB5.out.size
        have HB6 := Lib.hid (Below.tr HB5.out hb6)
        have HQ6 := Lib.hid (HQ5.out.up hb6)
        have hown5 := HQ5.out.own
        cases hr : rdSpec (txtE e) with
        | none =>
          obtain ⟨r1, r2⟩ := rd_none hr
          have HP := Lib.hid (plainEs_no he hr)
          rw [show (⟨(etV e).toArray⟩ : ByteArray) = txtE e from rfl, r1] at own6
          rw [show (⟨(etV e).toArray⟩ : ByteArray) = txtE e from rfl, r1, r2]
          obtain ⟨A6, c6, rfl, _⟩ := own_nil own6
          have b7 := (Below.refl _ w6).alloc (Nat.le_refl _) (Obj.cells #[.int .i64 rdZero.kind, .int .i64 rdZero.i, .int .i64 rdZero.j, .int .i64 rdZero.k, .slice A6 rdZero.part.length c6, .string rdZero.map] 46)
          have HB7 := Lib.hid (Below.tr HB6.out b7)
          have HQ7 := Lib.hid (HQ6.out.up b7)
          clear own6 b7 hr hb6 r1 r2 hown5
          go_wp2_with fail
          go_roundw
          case rel => exact ⟨k + 1, Av, cv, by omega, by rw [HP.out], by rw [HP.out], by go_num, by rw [HP.out]; exact HQ7, HB7⟩
          case measure => simp [intOf]; omega
        | some e' =>
          obtain ⟨r1, r2⟩ := rd_some hr
          have hed := rd_et hr
          have HP := Lib.hid (plainEs_yes he hr)
          rw [show (⟨(etV e).toArray⟩ : ByteArray) = txtE e from rfl, r1] at own6
          rw [show (⟨(etV e).toArray⟩ : ByteArray) = txtE e from rfl, r1, r2]
          obtain ⟨A6, c6, rfl, _⟩ := own_nil own6
          have hm4 := edit_map4 hed.1
          have hlen' : (etV e').length ≤ 2100 := etV_len hm4
          have hg4 := (gram_lens (editOk_get hed.1).2.2.2.2.2.2).1
          have hgs := gram_small (editOk_get hed.1).2.2.2.2.2.2
          have b7 := (Below.refl _ w6).alloc (Nat.le_refl _) (Obj.cells #[.int .i64 e'.kind, .int .i64 e'.i, .int .i64 e'.j, .int .i64 e'.k, .slice A6 e'.part.length c6, .string e'.map] 46)
          have HB7 := Lib.hid (Below.tr HB6.out b7)
          have HQ7 := Lib.hid (HQ6.out.up b7)
          have KX := Blk.new w6 #[.int .i64 e'.kind, .int .i64 e'.i, .int .i64 e'.j, .int .i64 e'.k, .slice A6 e'.part.length c6, .string e'.map] 46
          have hown : ∀ g, (Value.slice Av (plainEs (List.take k es)).length cv).ownBlock = some g → g < w5.heap.size := hown5
          have hsl : SlS RuleE (w6.alloc (Obj.cells #[.int .i64 e'.kind, .int .i64 e'.i, .int .i64 e'.j, .int .i64 e'.k, .slice A6 e'.part.length c6, .string e'.map] 46)) (QS (w6.alloc (Obj.cells #[.int .i64 e'.kind, .int .i64 e'.i, .int .i64 e'.j, .int .i64 e'.k, .slice A6 e'.part.length c6, .string e'.map] 46)) G G w3.heap.size (.slice Av (plainEs (List.take k es)).length cv)) (.slice A6 e'.part.length c6) e'.part :=
            OwnRules.slS (base := w5.heap.size) (l := e'.part) (World.ownsRow.alloc own6 _) fun g hg => by
              have h1 := (World.ownsRow.lt own6 g hg)
              exact ⟨by omega, by omega, fun q => by have := hown g q; omega, by omega, Nat.lt_of_lt_of_le h1.2 b7.size⟩
          have HSL := Lib.hid hsl
          have HOWN := Lib.hid hown
          have hz7 : w3.heap.size ≤ (w6.alloc (Obj.cells #[.int .i64 e'.kind, .int .i64 e'.i, .int .i64 e'.j, .int .i64 e'.k, .slice A6 e'.part.length c6, .string e'.map] 46)).heap.size := HB7.out.size
          have hzX : w6.heap.size < (w6.alloc (Obj.cells #[.int .i64 e'.kind, .int .i64 e'.i, .int .i64 e'.j, .int .i64 e'.k, .slice A6 e'.part.length c6, .string e'.map] 46)).heap.size := KX.lt
          have HKX := Lib.hid KX
          have hHL : (esHead (plainEs (es.take k))).length ≤ 2101 * 6 := by
            refine Nat.le_trans (esHead_len fun x hx => ?_) (Nat.mul_le_mul_left _ (Nat.le_trans (plainEs_len _) (by rw [List.length_take]; omega)))
            exact etV_len (edit_map4 (plainEs_mem hx).1)
          have hPl : (plainEs (es.take k)).length ≤ 1048576 := Nat.le_trans (plainEs_len _) (by rw [List.length_take]; omega)
          have HED := Lib.hid hed
          clear own6 b7 hr hb6 r1 r2 hown5 hown hsl KX hed
          go_upto_region 11 with fail
          revert HB7 HQ7 HSL HKX hz7 hzX
          generalize (w6.alloc (Obj.cells #[.int .i64 e'.kind, .int .i64 e'.i, .int .i64 e'.j, .int .i64 e'.k, .slice A6 e'.part.length c6, .string e'.map] 46)) = w7
          intro HB7 HQ7 HSL hz7 hzX HKX
          obtain ⟨P, hP⟩ : ∃ P, plainEs (es.take k) = P := ⟨_, rfl⟩
          rw [hP] at HP HQ7 HSL hHL hPl HOWN
          rw [hP]
          clear hP HQ5 HQ6
          have x0 := Blk.cell (i := 0) (v := .int .i64 e'.kind) HKX.out rfl
          have x1 := Blk.cell (i := 1) (v := .int .i64 e'.i) HKX.out rfl
          have x2 := Blk.cell (i := 2) (v := .int .i64 e'.j) HKX.out rfl
          have x3 := Blk.cell (i := 3) (v := .int .i64 e'.k) HKX.out rfl
          have x4 := Blk.cell (i := 4) (v := .slice A6 e'.part.length c6) HKX.out rfl
          have x5 := Blk.cell (i := 5) (v := .string e'.map) HKX.out rfl
          have hG7 : G < w7.heap.size := by omega
          go_wp2_with (first
            | (at_builtin; refine push_drawn (e := e') (u := .slice A6 e'.part.length c6) rfl _ _ rfl (by rfl) (by rfl) rfl HQ7.out hPl hz7 hG7 hG7 HSL.out ?_; intro g9 c9 w9 row9 tk9 kp9 hb9; (have kX9 : Blk w9 w6.heap.size #[.int .i64 e'.kind, .int .i64 e'.i, .int .i64 e'.j, .int .i64 e'.k, .slice A6 e'.part.length c6, .string e'.map] 46 := (kp9 _ hzX (fun q => by have := HOWN.out _ q; omega)).trans HKX.out); have y0 := Blk.cell (i := 0) (v := .int .i64 e'.kind) kX9 rfl; have y1 := Blk.cell (i := 1) (v := .int .i64 e'.i) kX9 rfl; have y2 := Blk.cell (i := 2) (v := .int .i64 e'.j) kX9 rfl; have y3 := Blk.cell (i := 3) (v := .int .i64 e'.k) kX9 rfl; have y4 := Blk.cell (i := 4) (v := .slice A6 e'.part.length c6) kX9 rfl; have y5 := Blk.cell (i := 5) (v := .string e'.map) kX9 rfl; have yl := kX9.lt))
          have hE9 : EditV w9 w9.heap.size (.agg #[.int .i64 e'.kind, .int .i64 e'.i, .int .i64 e'.j, .int .i64 e'.k, .slice A6 e'.part.length c6, .string e'.map]) e' := ⟨_, rfl, (HSL.out.keep fun q hq => kp9 q hq.2.2.2.2 hq.2.2.1).more fun q hq => Nat.lt_of_lt_of_le hq.2.2.2.2 hb9.size⟩
          have HE9 := Lib.hid hE9
          have HB9 := Lib.hid (HB7.out.trans hb9)
          have el : (P ++ [e']).length = P.length + 1 := by simp
          have HR9 := Lib.hid (show OEdQ w9 G G w3.heap.size (.slice (some ⟨g9, 0, none⟩) (P ++ [e']).length c9) (P ++ [e']) by rw [el]; exact row9)
          clear x0 x1 x2 x3 x4 x5 y0 y1 y2 y3 y4 y5 yl row9 tk9 kp9 hb9 kX9 hE9
          go_wp2_with fail
          refine (specEditText_any _ e' _ HE9.out hgs (by omega) (by unfold maxLen; omega)).mono ?_
          rintro r w10 ⟨rfl, hb10⟩
          have HB10 := Lib.hid (Below.tr HB9.out hb10)
          have HR10 := Lib.hid (HR9.out.up hb10)
          have n1 : ¬ (9223372036854775807 < (etV e').length + 1) := by omega
          have n2 : ¬ (9223372036854775807 < (esHead P).length + ((etV e').length + 1)) := by omega
          have HS := Lib.hid (show (⟨(esHead P).toArray⟩ : ByteArray) ++ ((⟨(etV e').toArray⟩ : ByteArray) ++ ⟨#[10]⟩) = ⟨(esHead (P ++ [e'])).toArray⟩ by rw [esHead_snoc]; exact out_app _ _)
          clear hb10 hlen' hHL
          go_wp2_with fail
          go_roundw
          case rel => exact ⟨k + 1, _, c9, by omega, by rw [HP.out, el], by rw [HP.out, HS.out], by go_num, by rw [HP.out]; exact HR10, HB10⟩
          case measure => simp [intOf]; omega
      · have hkn : k = es.length := by omega
        subst hkn
        rw [List.take_length] at HQ ⊢
        have hPl : (plainEs es).length ≤ 6 := Nat.le_trans (plainEs_len _) h6
        have hPm := fun x (hx : x ∈ plainEs es) => plainEs_mem hx
        obtain ⟨P, hP⟩ : ∃ P, plainEs es = P := ⟨_, rfl⟩
        rw [hP] at HQ hPl hPm
        rw [hP]
        have HPM := Lib.hid hPm
        have hPe : ∀ x ∈ P, x.part.length ≤ 1048576 ∧ x.map.size ≤ maxLen := fun x hx => by
          have h1 := (hPm x hx).1
          have h2 := (gram_lens (editOk_get h1).2.2.2.2.2.2).1
          have h3 := edit_map4 h1
          exact ⟨by omega, by unfold maxLen; omega⟩
        have HPE := Lib.hid hPe
        have KG4 := KG3.out.up HB.out
        have cG := Blk.cell (i := 0) (v := .slice AX xs.length cX) KG4 rfl
        have lG := Blk.lt KG4
        have HKG := Lib.hid KG4
        have HB5 := Lib.hid (Below.tr HB3.out HB.out)
        have HS5 := Lib.hid (HS3.out.up HB.out)
        have hall : (P.all editOk) = true := List.all_eq_true.2 fun x hx => (hPm x hx).1
        have HC0 := Lib.hid (show aesCode xs P = 0 by unfold aesCode; rw [HGX.out, hall, if_pos (by rfl), if_neg (by omega)])
        have hn0 := foldE_num xs P
        obtain ⟨d, hd⟩ : ∃ d : Nat, (foldE xs P).2 = (d : Int) := ⟨(foldE xs P).2.toNat, by omega⟩
        have hd6 : d ≤ 6 := by omega
        have HN := Lib.hid (show aesN xs P = (d : Int) by unfold aesN; rw [if_pos HC0.out]; exact hd)
        have HO := Lib.hid (show aesOut xs P = (foldE xs P).1 by unfold aesOut; rw [if_pos HC0.out])
        have HFO := Lib.hid (foldE_ok P HGX.out)
        have HFD := Lib.hid hd
        clear hP hPm hPe KG4 KG3 HB3 hG3 HS3 HDE HE3 hall hn0 hd
        go_wp2_with fail
        refine (implApplyEdits_any _ _ xs P _ HS5.out HQ.out.sl (by omega) HPE.out (tabB HT.out HB5.out)).mono ?_
        rintro r w6 ⟨hb6, v6, own6, rfl⟩
        rw [HC0.out, HN.out]
        rw [HO.out] at own6
        obtain ⟨O, hO⟩ : ∃ O, (foldE xs P).1 = O := ⟨_, rfl⟩
        rw [hO] at own6 HFO
        have HOO := Lib.hid hO
        obtain ⟨A6, c6, rfl, _⟩ := own_nil own6
        have b7 := hb6.alloc hb6.size (Obj.cells #[.slice A6 O.length c6] 30)
        have HK7 := Lib.hid (HKG.out.up b7)
        have HB7 := Lib.hid (Below.tr HB5.out b7)
        have HS7 := Lib.hid (HS5.out.up b7)
        have HKN := Lib.hid (Blk.new w6 #[.slice A6 O.length c6] 30)
        have HSO := Lib.hid ((OwnRules.sl own6).up ((Below.refl _ w6).alloc (Nat.le_refl _) (Obj.cells #[.slice A6 O.length c6] 30)))
        have ho4 := (gram_lens HFO.out).1
        have hob := gramLen_bounds O
        clear hb6 own6 b7 hO HS5 HB5 HKG HQ HB cG lG
        go_upto_region 15 with fail
        revert HK7 HB7 HS7 HKN HSO
        generalize (w6.alloc (Obj.cells #[.slice A6 O.length c6] 30)) = w7
        intro HK7 HB7 HS7 HKN HSO
        have cN := Blk.cell (i := 0) (v := .slice A6 O.length c6) HKN.out rfl
        have lN := Blk.lt HKN.out
        go_wp2_with fail
        refine (LengthOf_any _ O _ HSO.out (by omega)).mono ?_
        rintro r w8 ⟨rfl, hb8⟩
        have HK8 := Lib.hid (HK7.out.up hb8)
        have HB8 := Lib.hid (Below.tr HB7.out hb8)
        have HS8 := Lib.hid (HS7.out.up hb8)
        have HKN8 := Lib.hid (HKN.out.up hb8)
        have HSO8 := Lib.hid (HSO.out.up hb8)
        have HLV := Lib.hid (show lenV O = gramLen O ∧ lenC O = 0 by unfold lenV lenC; rw [if_pos HFO.out, if_pos HFO.out]; exact ⟨rfl, rfl⟩)
        rw [HLV.out.1, HLV.out.2]
        obtain ⟨n, hn⟩ : ∃ n, gramLen O = n := ⟨_, rfl⟩
        rw [hn] at hob HLV
        rw [hn]
        clear hb8 cN lN HK7 HB7 HS7 HKN HSO hn
        have cN := Blk.cell (i := 0) (v := .slice A6 O.length c6) HKN8.out rfl
        have lN := Blk.lt HKN8.out
        go_wp2_with fail
        refine (specValidGrammar_any _ O _ HSO8.out (gram_small HFO.out)).mono ?_
        rintro r w9 ⟨rfl, hb9⟩
        rw [HFO.out]
        have HK9 := Lib.hid (HK8.out.up hb9)
        have HB9 := Lib.hid (Below.tr HB8.out hb9)
        have HS9 := Lib.hid (HS8.out.up hb9)
        have hn0 : ¬ (n < 0) := by omega
        have hHL : (esHead P).length ≤ 2101 * 6 := Nat.le_trans (esHead_len fun x hx => etV_len (edit_map4 (HPM.out x hx).1)) (Nat.mul_le_mul_left _ hPl)
        have n1 : ¬ (9223372036854775807 < (esHead P).length + 7) := by omega
        clear hb9 HK8 HB8 HS8 HKN8 HSO8 cN lN
        have HS0 := Lib.hid (show (⟨(esHead P).toArray⟩ : ByteArray) ++ ⟨#[108, 101, 110, 103, 116, 104, 10]⟩ = ⟨(esHead P ++ [108, 101, 110, 103, 116, 104, 10] ++ undoL 0).toArray⟩ by rw [show undoL 0 = [] from rfl, List.append_nil]; exact str_app _ _)
        have hE13 := es_small (k := d) hPl hd6 fun x hx => etV_len (edit_map4 (HPM.out x hx).1)
        have HE13 := Lib.hid hE13
        have HNN := Lib.hid hob
        clear hE13
        go_wp2_with fail
        rw [HS0.out]
        go_loopw [8, 17] (fun x i wx => ∃ κ : Nat, κ ≤ d ∧ x = .string ⟨(esHead P ++ [108, 101, 110, 103, 116, 104, 10] ++ undoL κ).toArray⟩ ∧ i = .int .i64 κ ∧ wx = w9) (fun _ i _ => d - (intOf i).toNat)
        case atStart => exact ⟨0, Nat.zero_le _, rfl, rfl, by first | rfl | trivial⟩
        case round =>
          obtain ⟨κ, hκ, rfl, rfl, rfl⟩ := hrel
          have hll : (esHead P ++ [108, 101, 110, 103, 116, 104, 10] ++ undoL κ).length ≤ 13000 := by
            have : (undoL κ).length = 5 * κ := by unfold undoL; simp [Nat.mul_comm]
            simp only [List.length_append, List.length_cons, List.length_nil]
            omega
          by_cases hlt : κ < d
          · have HS1 := Lib.hid (show (⟨(esHead P ++ [108, 101, 110, 103, 116, 104, 10] ++ undoL κ).toArray⟩ : ByteArray) ++ ⟨#[117, 110, 100, 111, 10]⟩ = ⟨(esHead P ++ [108, 101, 110, 103, 116, 104, 10] ++ undoL (κ + 1)).toArray⟩ by rw [undoL_succ, ← List.append_assoc]; exact str_app _ _)
            obtain ⟨L, hL⟩ : ∃ L, esHead P ++ [108, 101, 110, 103, 116, 104, 10] ++ undoL κ = L := ⟨_, rfl⟩
            rw [hL] at HS1 hll
            rw [hL]
            have n2 : ¬ (9223372036854775807 < L.length + 5) := by omega
            have hki : (κ : Int) < (d : Int) := by omega
            clear hL hll
            go_wp2_with fail
            go_roundw
            case rel => exact ⟨κ + 1, by omega, by rw [HS1.out], by go_num, by first | rfl | trivial⟩
            case measure => simp [intOf]; omega
          · have hkd : κ = d := by omega
            subst hkd
            have HS1 := Lib.hid (show (⟨(esHead P ++ [108, 101, 110, 103, 116, 104, 10] ++ undoL κ).toArray⟩ : ByteArray) ++ ⟨#[119, 111, 114, 100, 10, 117, 110, 100, 111, 10, 119, 104, 97, 116, 32, 105, 115, 32, 116, 104, 105, 115]⟩ = ⟨(esText P κ).toArray⟩ from str_app _ _)
            obtain ⟨L, hL⟩ : ∃ L, esHead P ++ [108, 101, 110, 103, 116, 104, 10] ++ undoL κ = L := ⟨_, rfl⟩
            rw [hL] at HS1 hll
            rw [hL]
            have n2 : ¬ (9223372036854775807 < L.length + 22) := by omega
            have cG := Blk.cell (i := 0) (v := .slice AX xs.length cX) HK9.out rfl
            have lG := Blk.lt HK9.out
            clear hL hll
            go_upto_region 24 with fail
            rw [HS1.out]
            have hts : (⟨(esText P κ).toArray⟩ : ByteArray).size ≤ 1048576 := by rw [mk_str]; have := HE13.out.1; omega
            have htl : (⟨(esText P κ).toArray⟩ : ByteArray).data.toList = esText P κ := rfl
            obtain ⟨t, ht⟩ : ∃ t : ByteArray, (⟨(esText P κ).toArray⟩ : ByteArray) = t := ⟨_, rfl⟩
            have htz : t.size ≤ 13000 := by rw [← ht, mk_str]; exact HE13.out.1
            rw [ht] at hts htl
            rw [ht]
            have hsl := es_scLines htl
            have HSC := Lib.hid (show scCode xs t = 0 by
              unfold scCode
              rw [if_pos HGX.out, if_pos ⟨by omega, by rw [hsl, List.length_map]; have := HE13.out.2; omega⟩])
            obtain ⟨pre, hpre⟩ := es_run (g := xs) (fun e he => (HPM.out e he).2.1) hPl HD.out.2.1 κ HFD.out htl
            rw [HOO.out, HLV.out.1] at hpre
            have HPR := Lib.hid (show scOut xs t = pre ++ esLast xs n κ by unfold scOut; rw [if_pos HSC.out]; exact hpre)
            have hsc := scRun_len HGX.out (scLines t) (scLines t).length
            rw [List.take_length, hpre] at hsc
            have hsl2 : (scLines t).length ≤ 20 := by rw [hsl, List.length_map]; exact HE13.out.2
            have HOL := Lib.hid (show (pre ++ esLast xs n κ).length ≤ 50000 by omega)
            clear hsl htl ht hpre hsc hsl2 HS1 HE13 HFD HOO HN HPE HC0 HO
            go_wp2_with fail
            refine (implRunScript_any _ xs t _ HS9.out (by omega) hts (HV.out.up HB9.out) (tabB HT.out HB9.out)).mono ?_
            rintro r w10 ⟨rfl, hb10⟩
            rw [HSC.out]
            have HB10 := Lib.hid (Below.tr HB9.out hb10)
            have HS10 := Lib.hid (HS9.out.up hb10)
            have HK10 := Lib.hid (HK9.out.up hb10)
            clear hb10 cG lG HB9 HS9 HK9
            have cG := Blk.cell (i := 0) (v := .slice AX xs.length cX) HK10.out rfl
            have lG := Blk.lt HK10.out
            go_wp2_with fail
            refine (specRunScript_any _ xs t _ HS10.out HSX.out (by omega) hts).mono ?_
            rintro r w11 ⟨rfl, hb11⟩
            rw [HSC.out]
            have HB11 := Lib.hid (Below.tr HB10.out hb11)
            have HS11 := Lib.hid (HS10.out.up hb11)
            have HK11 := Lib.hid (HK10.out.up hb11)
            have hne : ((⟨(scOut xs t).toArray⟩ : ByteArray).toList != (⟨(scOut xs t).toArray⟩ : ByteArray).toList) = false := by simp
            obtain ⟨O2, hO2⟩ : ∃ O2 : ByteArray, (⟨(scOut xs t).toArray⟩ : ByteArray) = O2 := ⟨_, rfl⟩
            have HO2 := Lib.hid (show O2.data.toList = pre ++ esLast xs n κ by rw [← hO2]; exact HPR.out)
            rw [hO2] at hne
            rw [hO2]
            clear hb11 cG lG HB10 HS10 HK10 hO2
            go_wp2_with fail
            refine (Decimal_big n HNN.out _).mono ?_
            rintro r w12 ⟨rfl, hb12⟩
            have HB12 := Lib.hid (Below.tr HB11.out hb12)
            have HS12 := Lib.hid (HS11.out.up hb12)
            have HK12 := Lib.hid (HK11.out.up hb12)
            have hdl := dec_len15 HNN.out
            have n3 : ¬ (9223372036854775807 < (dec n).length + 1) := by omega
            have HS2 := Lib.hid (show (⟨(dec n).toArray⟩ : ByteArray) ++ ⟨#[10]⟩ = ⟨(dec n ++ [10] ++ okL 0).toArray⟩ by rw [show okL 0 = [] from rfl, List.append_nil]; exact str_app _ _)
            clear hb12 HB11 HS11 HK11
            go_wp2_with fail
            rw [HS2.out]
            go_loopw [22, 23] (fun x i wx => ∃ q : Nat, q ≤ κ ∧ x = .string ⟨(dec n ++ [10] ++ okL q).toArray⟩ ∧ i = .int .i64 q ∧ wx = w12) (fun _ i _ => κ - (intOf i).toNat)
            case atStart => exact ⟨0, Nat.zero_le _, rfl, rfl, by first | rfl | trivial⟩
            case round =>
              obtain ⟨q, hq, rfl, rfl, rfl⟩ := hrel
              have hll : (dec n ++ [10] ++ okL q).length ≤ 100 := by
                have : (okL q).length = 3 * q := by unfold okL; simp [Nat.mul_comm]
                simp only [List.length_append, List.length_cons, List.length_nil]
                omega
              by_cases hlt : q < κ
              · have HS3 := Lib.hid (show (⟨(dec n ++ [10] ++ okL q).toArray⟩ : ByteArray) ++ ⟨#[111, 107, 10]⟩ = ⟨(dec n ++ [10] ++ okL (q + 1)).toArray⟩ by rw [okL_succ, ← List.append_assoc]; exact str_app _ _)
                obtain ⟨L3, hL3⟩ : ∃ L, dec n ++ [10] ++ okL q = L := ⟨_, rfl⟩
                rw [hL3] at HS3 hll
                rw [hL3]
                have n4 : ¬ (9223372036854775807 < L3.length + 3) := by omega
                have hki : (q : Int) < (κ : Int) := by omega
                clear hL3 hll
                go_wp2_with fail
                go_roundw
                case rel => exact ⟨q + 1, by omega, by rw [HS3.out], by go_num, by first | rfl | trivial⟩
                case measure => simp [intOf]; omega
              · have hqd : q = κ := by omega
                subst hqd
                obtain ⟨L3, hL3⟩ : ∃ L, dec n ++ [10] ++ okL q = L := ⟨_, rfl⟩
                have HS3 := Lib.hid (show (⟨L3.toArray⟩ : ByteArray) ++ ((⟨(upV xs).toArray⟩ : ByteArray) ++ ⟨#[10, 101, 114, 114, 111, 114, 32, 115, 116, 97, 116, 101, 10, 119, 104, 97, 116, 10]⟩) = ⟨(esLast xs n q).toArray⟩ by
                  rw [show (⟨#[10, 101, 114, 114, 111, 114, 32, 115, 116, 97, 116, 101, 10, 119, 104, 97, 116, 10]⟩ : ByteArray) = ⟨([10, 101, 114, 114, 111, 114, 32, 115, 116, 97, 116, 101, 10, 119, 104, 97, 116, 10] : List UInt8).toArray⟩ from rfl, str_app, str_app, ← hL3]
                  unfold esLast
                  simp only [List.append_assoc])
                have hEL : (esLast xs n q).length = L3.length + ((upV xs).length + 18) := by
                  rw [← hL3]; unfold esLast
                  simp only [List.length_append, List.length_cons, List.length_nil]
                  omega
                have hup : (upV xs).length ≤ 20 := by have := HD.out; rw [this.1]; omega
                rw [hL3] at hll
                rw [hL3]
                have n4 : ¬ (9223372036854775807 < (upV xs).length + 18) := by omega
                have n5 : ¬ (9223372036854775807 < L3.length + ((upV xs).length + 18)) := by omega
                have cG := Blk.cell (i := 0) (v := .slice AX xs.length cX) HK12.out rfl
                have lG := Blk.lt HK12.out
                have HEL := Lib.hid hEL
                clear hL3 hEL
                go_wp2_with fail
                refine (Unpacked_any _ xs _ HS12.out HSX.out).mono ?_
                rintro r w13 ⟨rfl, hb13⟩
                have HB13 := Lib.hid (Below.tr HB12.out hb13)
                clear hb13 cG lG
                go_upto_region 34 with fail
                rw [HS3.out]
                have hEl := HEL.out
                obtain ⟨X, hX⟩ : ∃ X : ByteArray, (⟨(esLast xs n q).toArray⟩ : ByteArray) = X := ⟨_, rfl⟩
                have hXs : X.size = (esLast xs n q).length := by rw [← hX, mk_str]
                have hXd : X.data.toList = esLast xs n q := by rw [← hX]
                have hOs : O2.size = pre.length + (esLast xs n q).length := by
                  have : O2.size = O2.data.toList.length := by rw [Array.length_toList]; rfl
                  rw [this, HO2.out, List.length_append]
                have hle : (X.size : Int) ≤ (O2.size : Int) := by omega
                have hol := HOL.out
                rw [List.length_append] at hol
                have hw : IntKind.i64.wrap ((O2.size : Int) - (X.size : Int)) = (pre.length : Int) := by rw [IntWalk.i64_in _ (by omega)]; omega
                have hpl : (pre.length : Int) ≤ (O2.size : Int) := by omega
                have hcmp : ((O2.extract pre.length O2.size).toList == X.toList) = true := by
                  rw [beq_iff_eq, ByteArray.toList_eq, ByteArray.toList_eq, bextE, HO2.out, hXd, List.drop_left]
                rw [hX]
                clear hX hXs hXd hOs hEl hol HEL n4 n5 hup hll
                go_wp2_with fail
                go_ret
                exact ⟨rfl, HB13.out⟩
open Go.RowKit Go.WideShapes Go.ChangeShapes
section
variable {H : Type} {enc : TypeId × Value → H} {P : Program}
theorem post_of_below {f : Func} {s : ChangeSpec} {apart fresh handsOn again : Bool} {W W' : World} {args : Array Value} {v : Value} {ds gs : List (DataW H)} {before pa pv : List MemPlace}
    (hW : DataW.Whole enc P f.params.toList s.vars apart W args.toList ds gs before)
    (hres : ∀ (b : Nat) (sp : Nat → Bool) (hd : Bool), DataW.TrodAll enc P W' b sp hd f.resultTypes.toList (v.resultList f.resultTypes.size) (s.fn H (ds ++ gs)).results [])
    (hargs : ∀ sp : Nat → Bool, (∀ p ∈ before, sp p.block = true) → DataW.TrodAll enc P W' 0 sp true f.params.toList args.toList (s.fn H (ds ++ gs)).args pa)
    (hvars : ∀ sp : Nat → Bool, (∀ p ∈ before, sp p.block = true) → DataW.TrodVars enc P W' sp s.vars (s.fn H (ds ++ gs)).vars pv)
    (hps : before = pa ++ pv) (hb : Below W.heap.size W W')
    (hok : ∀ (j : Nat) (t : TypeId) (r : Value), f.resultTypes[j]? = some t → (v.resultList f.resultTypes.size)[j]? = some r → Value.okWide P W' .any 0 t r) :
    s.post enc P f apart fresh handsOn again W args v W' := by
  have hlt : ∀ p ∈ before, p.block < W.heap.size := fun p hp => hW.lt p hp
  have hold : ∀ p ∈ before, (fun b => decide (b < W.heap.size)) p.block = true := fun p hp => by simpa using hlt p hp
  refine ⟨ds, gs, before, [], pa, pv, hW, hres _ _ _, hargs _ hold, hvars _ hold, World.keptBut_mono (fun p hp => ⟨hp, ?_⟩) (hb.frame (· ∈ before)), fun _ => ?_⟩
  · rw [hps, List.mem_append] at hp
    exact Or.inr hp
  · obtain ⟨_, _, _, _, _, hz, hn⟩ := hW
    refine ⟨hok, _, _, ([] ++ pa) ++ pv, ⟨[] ++ pa, pv, trodAll_append (hargs _ (fun _ _ => rfl)) (hres _ _ _), hvars _ (fun _ _ => rfl), rfl, ?_, ?_⟩, ?_⟩
    · intro b off hp
      have hin : MemPlace.cell b off ∈ before := by rw [hps]; simpa using hp
      rw [hb.frozen (hlt _ hin)]
      exact hz b off hin
    · intro ha
      have := hn ha
      rw [hps] at this
      simpa using this
    · intro p hp _
      rw [hps]
      simpa using hp
theorem trodAll_below (hl : laidOutB P = true) {W W' : World} (hb : Below W.heap.size W W') : ∀ {ts : List TypeId} {vs : List Value} {ds : List (DataW H)} {ps : List MemPlace},
    (∀ t ∈ ts, P.readableRec t = true ∧ t < P.types.size) → DataW.TrodAll enc P W 0 (fun _ => true) true ts vs ds ps → (∀ x ∈ ps, x.block < W.heap.size) → ∀ sp : Nat → Bool, (∀ p ∈ ps, sp p.block = true) →
    DataW.TrodAll enc P W' 0 sp true ts vs ds ps
  | [], _, _, _, _, h, _, _, _ => by
    obtain ⟨rfl, rfl, rfl⟩ := trodAll_nil h
    exact trodAll_mk0
  | t :: ts, vs, ds, ps, hts, h, hlt, sp, hsp => by
    obtain ⟨v, vs', d, ds', p, q, rfl, rfl, rfl, h0, r0⟩ := trodAll_cons h
    refine trodAll_cons_mk (WideElems.Trod_stays hl (hts t (by simp)).1 (hts t (by simp)).2 h0 (fun x hx => hb.same (hlt x (by simp [hx]))) (fun x hx => hsp x (by simp [hx]))) ?_
    exact trodAll_below hl hb (fun t ht => hts t (by simp [ht])) r0 (fun x hx => hlt x (by simp [hx])) sp (fun x hx => hsp x (by simp [hx]))
end
theorem laidOut : laidOutB Tryz.prog = true := by kernel_rfl
theorem own : ownKnob Tryz.prog.godebug = none := by kernel_rfl
open Go.RowKit Go.ChangeShapes Go.WideShapes Go.Deep
section
variable {H : Type} {enc : TypeId × Value → H} {P : Program} {w : World} {base : Nat} {spare : Nat → Bool} {held : Bool}
theorem add_plain (b o n : Nat) : (⟨b, o, none⟩ : Addr).add n = ⟨b, o + n, none⟩ := by unfold Addr.add; split <;> simp_all
theorem spot_none {a : Addr} {v : Value} (h : w.cell? a = some v) : a = ⟨a.block, a.off, none⟩ ∧ a.block < w.heap.size := by
  have hl := World.block_lt_of_cell? w a h
  refine ⟨?_, hl⟩
  obtain ⟨b, o, s⟩ := a
  unfold World.cell? at h
  cases s with
  | none => rfl
  | some s => split at h <;> simp at h
theorem len_map_range {α : Type} (f : Nat → α) (n : Nat) : ((List.range n).map f).length = n := by simp
end
open Go.RowKit Go.ChangeShapes Go.WideShapes Go.Deep
def Opens {α : Type} (P : Program) (E : Enc α) (Q : α → Prop) (t : TypeId) : Prop :=
  ∀ {H : Type} (enc : TypeId × Value → H) (w : World) (base : Nat) (spare : Nat → Bool) (held : Bool) (fuel : Nat) (cs : List Value) (x : DataW H × List MemPlace), DataW.trod enc P w base spare held fuel t cs = some x → ∃ a, E.cells w (· < w.heap.size) a cs ∧ Q a
instance : Inhabited GRule := ⟨⟨⟨#[]⟩, 0, 0⟩⟩
theorem opens_slice {α : Type} {P : Program} {E : Enc α} {Q : α → Prop} {t e : TypeId} [Inhabited α] (hE : Opens P E Q e) (ht : P.underlying t = some (.slice e)) (hC : P.cellsOf e = E.size) : Opens P (SliceE E) (fun xs => ∀ x ∈ xs, Q x) t := by
  intro H enc w base spare held fuel cs x h
  rcases open_slice ht h with ⟨h0, _⟩ | ⟨a, len, cap, m, n, D, Pl, hcs, hb, hl, hm, hmm, hx, hi⟩
  · exact ⟨[], ⟨_, h0, SlS.nil _ _⟩, fun x hx => by simp at hx⟩
  · have hmle : len ≤ m := by rw [hmm]; split <;> omega
    have Hh : ∀ i, i < len → ∃ r : α, ∃ cs', E.cells w (· < w.heap.size) r cs' ∧ (∀ j u, cs'[j]? = some u → w.cell? (a.add (i * E.size + j)) = some u) ∧ Q r := by
      intro i hil
      obtain ⟨cs', hc, ht'⟩ := hi i (by omega)
      obtain ⟨r, hr, hq⟩ := hE enc w base spare held n cs' _ ht'
      obtain ⟨_, hcl, hat⟩ := World.cells?_some hc
      refine ⟨r, cs', hr, fun j u hu => ?_, hq⟩
      have hj : j < cs'.length := (List.getElem?_eq_some_iff.1 hu).1
      rw [← Go.Deep.add_add, ← hC, hat j (by omega), hu]
    obtain ⟨F, hF⟩ := choose_lt Hh
    clear Hh
    refine ⟨(List.range len).map F, ⟨.slice (some a) len cap, hcs, some a, cap, by rw [len_map_range], by rw [len_map_range]; exact hl, hm, fun hn => ?_⟩, ?_⟩
    · rw [len_map_range] at hn
      obtain ⟨cs', h1, h2, _⟩ := hF 0 hn
      have hlen := E.len h1
      have hpos := E.pos
      have g0 := h2 0 cs'[0] (List.getElem?_eq_getElem (by omega))
      have ha : a.add (0 * E.size + 0) = a := by simp [Addr.add]
      rw [ha] at g0
      obtain ⟨hsp, hlt⟩ := spot_none g0
      refine ⟨a.block, a.off, by rw [← hsp], hlt, fun k r hr => ?_⟩
      have hk : k < len := by
        have := (List.getElem?_eq_some_iff.1 hr).1
        rw [len_map_range] at this; exact this
      have er : F k = r := by
        rw [List.getElem?_map, List.getElem?_range hk] at hr; simpa using hr
      obtain ⟨cs'', h3, h4, _⟩ := hF k hk
      rw [er] at h3
      refine ⟨cs'', h3, fun j u hu => ?_⟩
      have := h4 j u hu
      rw [hsp, add_plain] at this
      exact this
    · intro r hr
      rw [List.mem_map] at hr
      obtain ⟨k, hk, rfl⟩ := hr
      exact (hF k (by simpa using hk)).choose_spec.2.2
open Go.ChangeShapes Go.WideShapes Go.ChangeAt Go.RowKit Go.Joins Go.Deep
theorem opens_byte {P : Program} {t : TypeId} (ht : P.underlying t = some (.int .u8)) : Opens P ByteE (fun _ => True) t := by
  intro H enc w base spare held fuel cs x h
  obtain ⟨p, e1, _, e2⟩ := DataW.trod_int ht h
  have hp : 0 ≤ p ∧ p < 256 := by
    have h1 : IntKind.u8.min ≤ p ∧ p ≤ IntKind.u8.max := by simpa [Lit.wf] using e2
    have m1 : IntKind.u8.min = 0 := by decide
    have m2 : IntKind.u8.max = 255 := by decide
    rw [m1, m2] at h1
    omega
  refine ⟨UInt8.ofNat p.toNat, ?_, trivial⟩
  rw [e1]
  have : (UInt8.ofNat p.toNat).toNat = p.toNat := by rw [UInt8.toNat_ofNat']; omega
  show [Value.int .u8 p] = [.int .u8 ((UInt8.ofNat p.toNat).toNat : Int)]
  rw [this]
  congr 2
  omega
instance : Inhabited UInt8 := ⟨0⟩
set_option maxRecDepth 100000 in
theorem opensBytes : Opens Tryz.prog (SliceE ByteE) (fun xs => ∀ x ∈ xs, True) 34 := opens_slice (opens_byte Tryz.underlying5) Tryz.underlying34 (by kernel_rfl)
set_option maxRecDepth 100000 in
theorem open_bytes {H : Type} {enc : TypeId × Value → H} {w : World} {base : Nat} {spare : Nat → Bool} {held : Bool} {r : Reach} {b0 : Nat} {v : Value} {d : DataW H} {p : List MemPlace}
    (hv : Value.okWide Tryz.prog w r b0 34 v) (h : DataW.Trod enc Tryz.prog w base spare held 34 v d p) : ∃ xs, Sl ByteE w w.heap.size v xs := by
  obtain ⟨a, len, cap, rfl⟩ := okWide_slice Tryz.underlying34 hv
  obtain ⟨fuel, hf⟩ := h
  obtain ⟨xs, ⟨u, e1, hsl⟩, _⟩ := opensBytes enc w base spare held fuel [.slice a len cap] _ (by simpa [Value.cells] using hf)
  simp at e1
  subst e1
  exact ⟨xs, hsl⟩
theorem goes_none {P : Program} (h : P.funcs.any Func.goes = false) (f : FuncId) : P.goes f = false := by
  have h1 : ∀ g : Nat, (P.funcs[g]?).any Func.goes = false := by
    intro g
    cases hg : P.funcs[g]? with
    | none => rfl
    | some x =>
      obtain ⟨hi, rfl⟩ := Array.getElem?_eq_some_iff.1 hg
      have := Array.any_eq_false.1 h g hi
      simpa using this
  unfold Program.goes
  rw [h]
  simp only [h1]
  simp
theorem goes_by {c : OpenClaim} {P : Program} (h : P.funcs.any Func.goes = false) (hs : c.start = .entering) : false = c.goesBy P := by
  unfold OpenClaim.goesBy Program.goesAt Program.goesFrom
  rw [hs]
  cases P.funcNamed c.func with
  | none => rfl
  | some f => simp [goes_none h f]
theorem Tryz.no_go : Tryz.pinned.checked.prog.funcs.any Func.goes = false := by kernel_rfl
end Go.Proofs.YtbifijlenbibmaaGreatDoor
