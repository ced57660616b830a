import Derived.Test.YtbifijlenbibmaaGreatDoorM13
import Derived.Test.YtbifijlenbibmaaGreatDoorM10
import Derived.Test.YtbifijlenbibmaaGreatDoorM7
import Derived.Test.YtbifijlenbibmaaGreatDoorM5
import Derived.Test.YtbifijlenbibmaaGreatDoorM3
import Derived.Test.YtbifijlenbibmaaGreatDoorM12
namespace Go.Proofs.YtbifijlenbibmaaGreatDoor
open Go.RowKit
theorem split10_any (s : ByteArray) (w : World) (hs : s.size ≤ 1048576) (hv : RdVars w) :
    Calls Tryz.prog 73 #[.string s, .string ⟨#[10]⟩] w fun e w' => Below w.heap.size w w' ∧ ∃ v, OwnW w' w.heap.size v (splB 10 s) ∧ e = .returned v := by
  obtain ⟨⟨m, h1⟩, _, _, _⟩ := hv
  refine (Tryz.strings_Split s ⟨#[10]⟩ m w (by omega) h1 (by decide)).mono ?_
  rintro e w' ⟨rfl, rfl⟩
  have hl : Lib.countB s ⟨#[10]⟩ + 1 = (splB 10 s).length := by
    rw [← splitB_eq]; exact (Lib.splitB_all ⟨#[10]⟩ (by decide) 0 _ s rfl).symm
  rw [splitB_eq, hl]
  refine ⟨(Below.refl _ _).alloc (Nat.le_refl _) _, _, ?_, rfl⟩
  have hle : (splB 10 s).length ≤ 1048577 := by rw [← hl]; have := Lib.countB_le ⟨#[10]⟩ (by decide) s.size s (Nat.le_refl _); omega
  have := World.ownsRow_lit w ((splB 10 s).map Value.string).toArray (splB 10 s).length (Nat.le_refl _) (by simp only [maxLen]; omega) (e := 9) (size := 1) (by simp)
  simpa [OwnW] using this
set_option maxRecDepth 100000 in
theorem topS_any (g c k L : Nat) (x : ByteArray) (w : World) (hL : L = k + 1) (h : w.cell? ⟨g, k, none⟩ = some (.string x)) (_hlt : g < w.heap.size) (hk : k ≤ 1048577) :
    Calls Tryz.prog 117 #[.slice (some ⟨g, 0, none⟩) L c] w fun e w' => e = .returned (.string x) ∧ Below w.heap.size w w' := by
  have hw : IntKind.i64.wrap ((L : Int) - 1) = (k : Int) := by rw [IntWalk.i64_in _ (by omega)]; omega
  have hi : (k : Int) < (L : Int) := by omega
  clear hL
  go_enter Tryz.func117, Tryz.ntmps117
  go_wp2_with fail
  exact bodyPost_ret (v := .string x) (by simp [results, Tryz.results117, go_sem]) rfl ⟨rfl, (by repeat (first | exact Below.refl _ _ | (refine Below.alloc ?_ (by first | omega | (simp; done) | (simp; omega)) _) | (refine Below.setCell ?_ (by first | exact Nat.le_refl _ | (show _ ≤ _; omega) | (simp; done) | (simp; omega)) _) | refine below_drewN ?_ _ | refine Below.drew ?_))⟩
set_option maxRecDepth 100000 in
set_option maxHeartbeats 2000000 in
theorem scriptLines_any (t : ByteArray) (w : World) (hs : t.size ≤ 1048576) (hv : RdVars w) :
    Calls Tryz.prog 51 #[.string t] w fun e w' => Below w.heap.size w w' ∧ ∃ v, OwnW w' w.heap.size v (scLines t) ∧ e = .returned (.tuple #[v, .bool (decide (t.size ≤ 20000) && decide ((scLines t).length ≤ 120))]) := by
  have HV := Lib.hid hv
  clear hv
  go_enter Tryz.func51, Tryz.ntmps51
  go_wp2_with fail
  refine (split10_any t _ hs HV.out).mono ?_
  rintro e w1 ⟨hb1, v, own, rfl⟩
  have hpos := splB_pos 10 t
  have hle := splB_len 10 t
  obtain ⟨g, cL, rfl, _, hgl, hcap, hcell⟩ := own_form own hpos
  obtain ⟨k, hk⟩ : ∃ k, (splB 10 t).length = k + 1 := ⟨(splB 10 t).length - 1, by omega⟩
  obtain ⟨x, hx⟩ : ∃ x, (splB 10 t)[k]? = some x := ⟨_, List.getElem?_eq_getElem (by omega)⟩
  have hcx : w1.cell? ⟨g, k, none⟩ = some (.string x) := hcell k _ (by rw [List.getElem?_map, hx]; rfl)
  have HLS := Lib.hid (scLines_last (t := t) (x := x) (by rw [hk]; exact hx))
  have hpop := OwnW.pop own hpos
  obtain ⟨L, hL⟩ : ∃ L, (splB 10 t).length = L := ⟨_, rfl⟩
  have hdl : (splB 10 t).dropLast.length = k := by rw [List.length_dropLast]; omega
  have hLk : L = k + 1 := by omega
  rw [hL, hLk, Nat.add_sub_cancel] at hpop
  have own2 : w1.ownsRow w.heap.size 9 1 (.slice (some ⟨g, 0, none⟩) L cL) (splB 10 t).length ((splB 10 t).map Value.string) := by rw [← hL]; exact own
  unfold maxLen at hcap
  have hkc : (k : Int) ≤ (cL : Int) := by omega
  have hw : IntKind.i64.wrap ((L : Int) - 1) = (k : Int) := by rw [IntWalk.i64_in _ (by omega)]; omega
  have hk20 : k ≤ 1048577 := by omega
  have HTOP := Lib.hid (fun (W : World) (hW : Below w1.heap.size w1 W) => topS_any g cL k L x W hLk ((hW.cell (p := ⟨g, k, none⟩) hgl).trans hcx) (Nat.lt_of_lt_of_le hgl hW.size) hk20)
  have HB1 := Lib.hid hb1
  have HO := Lib.hid own2
  have HP := Lib.hid hpop
  have HL := Lib.hid hL
  have HDL := Lib.hid hdl
  have HLK := Lib.hid hLk
  rw [hL]
  clear own hpos hle hcell hk hx hcx hpop hL hdl hLk own2 hb1
  go_wp2_with fail
  refine (HTOP.out _ (by repeat (first | exact Below.refl _ _ | (refine Below.alloc ?_ (by first | omega | (simp; done) | (simp; omega)) _) | (refine Below.setCell ?_ (by first | exact Nat.le_refl _ | (show _ ≤ _; omega) | (simp; done) | (simp; omega)) _) | refine below_drewN ?_ _ | refine Below.drew ?_))).mono ?_
  rintro e w2 ⟨rfl, hb2⟩
  have HB2 := Lib.hid (Below.tr HB1.out hb2)
  have HO2 := Lib.hid (ownsRow_below HO.out hb2)
  have HP2 := Lib.hid (ownsRow_below HP.out hb2)
  clear HTOP
  cases hb : (x.toList == ([] : List UInt8)) with
  | true =>
    have hx0 : x = ⟨#[]⟩ := (str_is x ⟨#[]⟩ [] rfl).1 hb
    have HQ := Lib.hid (HLS.out.1 hx0)
    have HO3 := Lib.hid (show OwnW w2 w.heap.size (.slice (some ⟨g, 0, none⟩) k cL) (scLines t) by rw [HQ.out]; exact HP2.out)
    have HK := Lib.hid (show (scLines t).length = k by rw [HQ.out, HDL.out])
    clear hx0
    by_cases h2 : t.size ≤ 20000
    · have h2I : (t.size : Int) ≤ 20000 := by omega
      have H2 := Lib.hid (show (decide (t.size ≤ 20000) && decide ((scLines t).length ≤ 120)) = decide ((k : Int) ≤ 120) by rw [decide_eq_true h2, HK.out, Bool.true_and]; exact decide_eq_decide.2 (by omega))
      clear h2
      go_wp2_with fail
      refine bodyPost_ret (v := .tuple #[.slice (some ⟨g, 0, none⟩) k cL, .bool (decide ((k : Int) ≤ 120))]) (by simp [results, Tryz.results51, go_sem]) rfl ⟨HB2.out, _, HO3.out, by rw [H2.out]⟩
    · have h2I : 20000 < (t.size : Int) := by omega
      have H2 := Lib.hid (show (decide (t.size ≤ 20000) && decide ((scLines t).length ≤ 120)) = false by rw [decide_eq_false h2, Bool.false_and])
      clear h2
      go_wp2_with fail
      refine bodyPost_ret (v := .tuple #[.slice (some ⟨g, 0, none⟩) k cL, .bool false]) (by simp [results, Tryz.results51, go_sem]) rfl ⟨HB2.out, _, HO3.out, by rw [H2.out]⟩
  | false =>
    have hx0 : x ≠ ⟨#[]⟩ := fun h => by rw [(str_is x ⟨#[]⟩ [] rfl).2 h] at hb; cases hb
    have HQ := Lib.hid (HLS.out.2 hx0)
    have HK := Lib.hid (show (scLines t).length = L by rw [HQ.out]; exact HL.out)
    have HO3 := Lib.hid (show OwnW w2 w.heap.size (.slice (some ⟨g, 0, none⟩) L cL) (scLines t) by rw [HQ.out]; exact HO2.out)
    clear hx0
    by_cases h2 : t.size ≤ 20000
    · have h2I : (t.size : Int) ≤ 20000 := by omega
      have H2 := Lib.hid (show (decide (t.size ≤ 20000) && decide ((scLines t).length ≤ 120)) = decide ((L : Int) ≤ 120) by rw [decide_eq_true h2, HK.out, Bool.true_and]; exact decide_eq_decide.2 (by omega))
      clear h2
      go_wp2_with fail
      refine bodyPost_ret (v := .tuple #[.slice (some ⟨g, 0, none⟩) L cL, .bool (decide ((L : Int) ≤ 120))]) (by simp [results, Tryz.results51, go_sem]) rfl ⟨HB2.out, _, HO3.out, by rw [H2.out]⟩
    · have h2I : 20000 < (t.size : Int) := by omega
      have H2 := Lib.hid (show (decide (t.size ≤ 20000) && decide ((scLines t).length ≤ 120)) = false by rw [decide_eq_false h2, Bool.false_and])
      clear h2
      go_wp2_with fail
      refine bodyPost_ret (v := .tuple #[.slice (some ⟨g, 0, none⟩) L cL, .bool false]) (by simp [results, Tryz.results51, go_sem]) rfl ⟨HB2.out, _, HO3.out, by rw [H2.out]⟩
set_option maxRecDepth 100000 in
set_option maxHeartbeats 8000000 in
theorem implRunScript_any (v : Value) (xs : List GRule) (t : ByteArray) (w : World) (h : Sl RuleE w w.heap.size v xs) (hn : xs.length ≤ 1048576) (ht : t.size ≤ 1048576) (hv : RdVars w) (htab : Lib.TabIs Tryz.prog w "math/bits.deBruijn64tab" .u8 deB64) :
    Calls Tryz.prog 11 #[.agg #[v], .string t] w fun e w' => e = .returned (.tuple #[.string ⟨(scOut xs t).toArray⟩, .int .i64 (scCode xs t)]) ∧ Below w.heap.size w w' := by
  have HG := Lib.hid h
  have HV := Lib.hid hv
  have HT := Lib.hid htab
  obtain ⟨A, c, rfl, _⟩ := h
  clear hv htab
  have b1 := (Below.refl w.heap.size w).alloc (Nat.le_refl _) (Obj.cells #[.slice A xs.length c] 30)
  have KP := Blk.new w #[.slice A xs.length c] 30
  go_enter Tryz.func11, Tryz.ntmps11
  go_upto_region 1 with fail
  generalize (w.alloc (Obj.cells #[.slice A xs.length c] 30)) = w0 at *
  have KB := Lib.hid b1
  clear b1
  have cP0 := Blk.cell (i := 0) (v := .slice A xs.length c) KP rfl
  have lP := Blk.lt KP
  go_wp2_with fail
  refine (ValidGrammar_any _ xs _ (HG.out.up KB.out) (by omega)).mono ?_
  rintro e w1 ⟨rfl, hb1⟩
  have KB1 := Lib.hid (Below.tr KB.out hb1)
  have KP1 := KP.up hb1
  clear KB KP hb1 cP0 lP
  cases hg : gramOk xs with
  | false =>
    have HQ := Lib.hid (sc_bad (t := t) hg)
    clear hg
    go_wp2_with fail
    refine bodyPost_ret (v := .tuple #[.string ⟨#[]⟩, .int .i64 1]) (by simp [results, Tryz.results11, go_sem]) rfl ⟨by rw [HQ.out.1, HQ.out.2], KB1.out⟩
  | true =>
    have HGG := Lib.hid hg
    clear hg
    go_wp2_with fail
    refine (scriptLines_any t _ ht (HV.out.up KB1.out)).mono ?_
    rintro e w2 ⟨hb2, vL, ownL, rfl⟩
    have KB2 := Lib.hid (Below.tr KB1.out hb2)
    have KP2 := KP1.up hb2
    clear hb2 KP1 KB1
    by_cases hfar : t.size ≤ 20000 ∧ (scLines t).length ≤ 120
    · have hd : (decide (t.size ≤ 20000) && decide ((scLines t).length ≤ 120)) = true := by simp [hfar]
      have HQ := Lib.hid (sc_yes HGG.out hfar)
      have hl120 := hfar.2
      have ht20 := hfar.1
      rw [hd]
      clear hd hfar
      obtain ⟨AL, cL, rfl, _⟩ := own_nil ownL
      have HOL := Lib.hid ownL
      clear ownL
      have cP2 := Blk.cell (i := 0) (v := .slice A xs.length c) KP2 rfl
      have lP2 := Blk.lt KP2
      have hz2 := KB2.out.size
      obtain ⟨ls, hls⟩ : ∃ ls, scLines t = ls := ⟨_, rfl⟩
      have HSZ := Lib.hid (fun x (hx : x ∈ ls) => Nat.le_trans (scLines_size (t := t) (by rw [hls]; exact hx)) ht)
      rw [hls] at HOL hl120 HQ ⊢
      clear hls
      go_upto_region 7 with fail
      have bA := (((Below.refl w2.heap.size w2).alloc (Nat.le_refl _) (Obj.cells #[.slice A xs.length c] 30)).alloc (by simp) (Obj.cells #[.slice (some ⟨w2.heap.size, 0, none⟩) 1 1, .int .i64 0] 91)).alloc (by simp; omega) (Obj.cells #[.pointer none, .slice none 0 0] 94)
      have KS1 : Blk (w2.alloc (Obj.cells #[.slice A xs.length c] 30) |>.alloc (Obj.cells #[.slice (some ⟨w2.heap.size, 0, none⟩) 1 1, .int .i64 0] 91)) (w2.heap.size + 1) #[.slice (some ⟨w2.heap.size, 0, none⟩) 1 1, .int .i64 0] 91 := by
        have := Blk.new (w2.alloc (Obj.cells #[.slice A xs.length c] 30)) #[.slice (some ⟨w2.heap.size, 0, none⟩) 1 1, .int .i64 0] 91
        simpa using this
      have KB1 : Blk ((w2.alloc (Obj.cells #[.slice A xs.length c] 30)).alloc (Obj.cells #[.slice (some ⟨w2.heap.size, 0, none⟩) 1 1, .int .i64 0] 91) |>.alloc (Obj.cells #[.pointer none, .slice none 0 0] 94)) (w2.heap.size + 1 + 1) #[.pointer none, .slice none 0 0] 94 := by
        have := Blk.new ((w2.alloc (Obj.cells #[.slice A xs.length c] 30)).alloc (Obj.cells #[.slice (some ⟨w2.heap.size, 0, none⟩) 1 1, .int .i64 0] 91)) #[.pointer none, .slice none 0 0] 94
        simpa using this
      have og := OGp.one (W := w2) (lo := w.heap.size) rfl hz2 (u := .slice A xs.length c) (x := xs) (.inl (HG.out.below KB2.out))
      have og2 := og.up (w' := ((w2.alloc (Obj.cells #[.slice A xs.length c] 30)).alloc (Obj.cells #[.slice (some ⟨w2.heap.size, 0, none⟩) 1 1, .int .i64 0] 91)).alloc (Obj.cells #[.pointer none, .slice none 0 0] 94)) (by repeat (first | exact Below.refl _ _ | (refine Below.alloc ?_ (by first | omega | (simp; done) | (simp; omega)) _) | (refine Below.setCell ?_ (by first | exact Nat.le_refl _ | (show _ ≤ _; omega) | (simp; done) | (simp; omega)) _) | refine below_drewN ?_ _ | refine Below.drew ?_)) (by simp; omega)
      have J0 := Lib.hid (show Ses 91 _ w.heap.size (w2.heap.size + 1) ⟨[xs], 0⟩ from Ses.of (g := w2.heap.size) (c := 1) (by decide) (KS1.alloc _) (by omega) og2)
      have B0 := Lib.hid (show BuiltB w.heap.size (w2.heap.size + 1 + 1) [] _ from .inl ⟨by omega, _, KB1, World.ownsRow_nil _ _ _ _, by simp [Value.ownBlock]⟩)
      have L0 := Lib.hid (show OwnW _ w1.heap.size (.slice AL ls.length cL) ls from ownsRow_below HOL.out bA)
      have H0 := Lib.hid (Below.tr KB2.out bA)
      clear bA KS1 KB1 og og2 HOL KP2 cP2 lP2
      revert J0 B0 L0 H0
      generalize ((w2.alloc (Obj.cells #[.slice A xs.length c] 30)).alloc (Obj.cells #[.slice (some ⟨w2.heap.size, 0, none⟩) 1 1, .int .i64 0] 91)).alloc (Obj.cells #[.pointer none, .slice none 0 0] 94) = w3
      generalize w2.heap.size + 1 + 1 = b
      generalize w2.heap.size + 1 = P
      intro J0 B0 L0 H0
      go_wp2_with fail
      go_loopw [29] (fun i wx => ∃ k : Nat, k ≤ ls.length ∧ i = .int .i64 k ∧ Hid (Ses 91 wx w.heap.size P (scRun xs (ls.take k)).2) ∧ Hid (BuiltB w.heap.size b (scRun xs (ls.take k)).1 wx) ∧ Hid (OwnW wx w1.heap.size (.slice AL ls.length cL) ls) ∧ Hid (Below w.heap.size w wx)) (fun i _ => ls.length - (intOf i).toNat)
      case atStart => exact ⟨0, Nat.zero_le _, rfl, J0, B0, L0, H0⟩
      case round =>
        obtain ⟨k, hk, rfl, HJ, HB, HL, HW⟩ := hrel
        by_cases hlt : k < ls.length
        · obtain ⟨g, cap, hv, _, hgl, _, hcell⟩ := own_form HL.out (by omega)
          injection hv with hv1 hv2 hv3
          subst hv1 hv3
          obtain ⟨y, hy⟩ : ∃ y, ls[k]? = some y := ⟨_, List.getElem?_eq_getElem hlt⟩
          have hcy : wr.cell? ⟨g, k, none⟩ = some (.string y) := hcell k _ (by rw [List.getElem?_map, hy]; rfl)
          have hys := HSZ.out y (List.mem_of_getElem? hy)
          have hrs := scRun_snoc (x := xs) hy
          have hlen := scRun_len HGG.out ls k
          have hok := scRun_ok HGG.out ls k
          have hasz := scAns_size hok y
          obtain ⟨l0, hl0⟩ : ∃ l0, (scRun xs (ls.take k)).1 = l0 := ⟨_, rfl⟩
          obtain ⟨s0, hs0⟩ : ∃ s0, (scRun xs (ls.take k)).2 = s0 := ⟨_, rfl⟩
          have hrs1 : (scRun xs (ls.take (k + 1))).1 = l0 ++ ((scAns s0 y).1.data.toList ++ [10]) := by rw [hrs, ← hl0, ← hs0]; rfl
          have hrs2 : (scRun xs (ls.take (k + 1))).2 = (scAns s0 y).2 := by rw [hrs, ← hs0]; rfl
          rw [hl0] at HB hlen
          rw [hs0] at HJ hok hasz
          have HRS := Lib.hid (And.intro hrs1 hrs2)
          have HOK := Lib.hid hok
          have hki : (k : Int) < (ls.length : Int) := by omega
          have hl2 : l0.length ≤ 240120 := by omega
          clear hrs hrs1 hrs2 hl0 hs0 hok hy hcell hlen hv2
          go_wp2_with fail
          refine (implAnswer_any w.heap.size P s0 y _ HJ.out HOK.out hys (HV.out.up HW.out) (tabB HT.out HW.out)).mono ?_
          rintro e w4 ⟨rfl, hs4, hb4, hk4, hz4⟩
          have HS4 := Lib.hid hs4
          have HB4 := Lib.hid (BuiltB.tk HB.out hk4 (by unfold SK; decide) (by unfold SK; decide))
          have HL4 := Lib.hid (show OwnW w4 w1.heap.size (.slice (some ⟨g, 0, none⟩) ls.length cL) ls from TK.row HL.out hk4 (by unfold SK; decide))
          have HW4 := Lib.hid (HW.out.trans hb4)
          clear hs4 hb4 hk4 HB HL HW HJ hcy hgl
          obtain ⟨r, hr⟩ : ∃ r, (scAns s0 y).1 = r := ⟨_, rfl⟩
          rw [hr] at hasz ⊢
          have hrz : (r ++ (⟨#[10]⟩ : ByteArray)).size ≤ 2001 := by
            rw [ByteArray.size_append]
            have : (⟨#[10]⟩ : ByteArray).size = 1 := rfl
            omega
          go_wp2_with fail
          refine (writeString_any w.heap.size b l0 _ _ HB4.out (by omega) HW4.out.size).mono ?_
          rintro e w5 ⟨rfl, hB5, hb5, hk5⟩
          obtain ⟨cb, hcb⟩ := BuiltB.typed HB4.out
          have hk5' : TK (fun t => t ≠ 5 ∧ t ≠ 94) w4 w5 := TK.others hk5 hcb (fun _ h => h)
          have HS5 := Lib.hid (HS4.out.keep hb5 hk5' hb5.size (by decide) (by decide) (by decide))
          have HL5 := Lib.hid (show OwnW w5 w1.heap.size (.slice (some ⟨g, 0, none⟩) ls.length cL) ls from TK.row HL4.out hk5' (by decide))
          have HW5 := Lib.hid (HW4.out.trans hb5)
          have HB5 := Lib.hid hB5
          clear hB5 hb5 hk5 hcb hk5' HS4 HB4 HL4 HW4
          go_wp2_with fail
          refine ⟨⟨k + 1, by omega, by go_num, by rw [HRS.out.2]; exact HS5, ?_, HL5, HW5⟩, by simp [intOf]; omega⟩
          rw [HRS.out.1, hr]
          have := HB5.out
          rw [ByteArray.data_append, Array.toList_append] at this
          exact Lib.hid this
        · have hkn : k = ls.length := by omega
          subst hkn
          have hB := HB.out
          rw [List.take_length] at hB
          have HBB := Lib.hid hB
          clear hB HB HJ HL
          go_wp2_with fail
          refine (BuiltB.string HBB.out HW.out.size).mono ?_
          rintro e w6 ⟨rfl, hb6⟩
          have HW6 := Lib.hid (HW.out.trans hb6)
          go_wp2_with fail
          refine bodyPost_ret (v := .tuple #[.string ⟨((scRun xs ls).1).toArray⟩, .int .i64 0]) (by simp [results, Tryz.results11, go_sem]) rfl ⟨by rw [HQ.out.1, HQ.out.2], HW6.out⟩
    · have hd : (decide (t.size ≤ 20000) && decide ((scLines t).length ≤ 120)) = false := by rw [← Bool.not_eq_true]; simp; omega
      have HQ := Lib.hid (sc_far HGG.out hfar)
      rw [hd]
      clear hfar hd
      obtain ⟨AL, cL, rfl, _⟩ := own_nil ownL
      go_wp2_with fail
      refine bodyPost_ret (v := .tuple #[.string ⟨#[]⟩, .int .i64 2]) (by simp [results, Tryz.results11, go_sem]) rfl ⟨by rw [HQ.out.1, HQ.out.2], KB2.out⟩
def usedK (xs : List GRule) (k i : Nat) : Bool := (xs.take i).any fun r => decide (r.letter = (letR (ltr k)).letter)
theorem usedK_succ {xs : List GRule} {k i : Nat} {r : GRule} (h : xs[i]? = some r) : usedK xs k (i + 1) = (usedK xs k i || decide (r.letter = (letR (ltr k)).letter)) := by
  unfold usedK
  rw [List.take_add_one, h, List.any_append]
  simp
theorem usedK_has {xs : List GRule} (hx : OkAll xs) (k : Nat) : usedK xs k xs.length = hasL xs k := by
  unfold usedK hasL
  rw [List.take_length, Bool.eq_iff_iff, List.any_eq_true, List.contains_iff_mem]
  constructor
  · rintro ⟨r, hr, he⟩
    have he2 : r.letter = (letR (ltr k)).letter := by simpa using he
    obtain ⟨i, hi⟩ := List.mem_iff_getElem?.1 hr
    have hp : r.pair = false := by
      unfold GRule.pair; rw [he2]; rfl
    obtain ⟨q1, q2, q3⟩ := okRule_let (hx i r hi) hp
    have : r = letR (ltr k) := by
      cases r
      simp only at he2 q2 q3
      simp [letR, he2, q2, q3]
    rw [← this]; exact hr
  · intro h
    exact ⟨_, h, by simp⟩
theorem okAll_smallL {xs : List GRule} (h : OkAll xs) : SmallL xs := by
  intro r hr
  obtain ⟨k, hk⟩ := List.mem_iff_getElem?.1 hr
  cases hp : r.pair with
  | true => have : r.letter.size = 0 := by simpa [GRule.pair] using hp
            omega
  | false => have := (okRule_let (h k r hk) hp).1
             omega
theorem stand_tailT {w2 W w3 : World} {M : Nat} {vs vo : Value} {T : List Int} {P : List GRule} {a : Array Value} {t : TypeId} {o : Obj} (hb : Below M w2 W) (hbox : Boxed W M 30 vo) (hown : OwnRules W (M + 2) vo P) (hi : OwnInts W (M + 2) vs T) (hst : Blk W (M + 1) a t)
    (hg : (W.alloc o).grownBy w3 vs.ownBlock) (hM : M + 2 ≤ W.heap.size) : Below M w2 w3 ∧ Boxed w3 M 30 vo ∧ OwnRules w3 (M + 2) vo P ∧ Blk w3 (M + 1) a t := by
  have hlt : ∀ k, vs.ownBlock = some k → M + 2 ≤ k := fun k hk => (World.ownsRow.lt hi k hk).1
  refine ⟨(hb.alloc (by omega) o).grown hg (by simp; omega) (fun k hk => by have := hlt k hk; omega), Boxed.kept (Boxed.alloc hbox o) hg (fun e => by have := hlt M e.symm; omega), keep_rules hown hi hg, ?_⟩
  exact (hg.block (M + 1) (by simp; omega) (fun e => by have := hlt (M + 1) e.symm; omega)).trans (hst.alloc o)
theorem raise_tail {x Z : Nat} {wr w2 w3 : World} {o : Obj} {v7 v3 vZ vG : Value} {G : List GRule} {t : TypeId} (hb : Below wr.heap.size wr w2) (hg : (w2.alloc o).grownBy w3 v7.ownBlock) (hor : v3.ownBlock = v7.ownBlock ∨ v3.ownBlock = some (w2.heap.size + 1))
    (hob : ∀ g, v7.ownBlock = some g → g < x ∨ Z < g) (hz : Blk wr Z #[vZ] t) (hs : SlS RuleE wr (fun b => x ≤ b ∧ b < Z) vG G) (hx : x ≤ Z) : Blk w3 Z #[vZ] t ∧ SlS RuleE w3 (fun b => x ≤ b ∧ b < Z) vG G ∧ ∀ g, v3.ownBlock = some g → g < x ∨ Z < g := by
  have hZ := hz.lt
  have h2 := hb.size
  have hne : ∀ b', x ≤ b' → b' ≤ Z → some b' ≠ v7.ownBlock := fun b' h1 h2 e => by rcases hob b' e.symm with h | h <;> omega
  refine ⟨(hg.block Z (by simp; omega) (hne Z hx (Nat.le_refl _))).trans ((hz.up hb).alloc _), hs.keep (fun b hb' => (hg.block b (by simp; omega) (hne b hb'.1 (by omega))).trans ((Below.heap_alloc _ _ _ (by omega)).trans (hb.block b (by omega)))), fun g hg' => ?_⟩
  rcases hor with h | h
  · exact hob g (h.symm.trans hg')
  · have h8 := Option.some.inj (h.symm.trans hg')
    right; omega
theorem step_push_ruleN {W : World} {ops : Array Oper} {o : Oper} {a : Act} {K : Act → World → Prop} {Q : Exit → Act → World → Prop} {E : Prop} (hgd : o.guard = none) (s x : Operand)
    (ho : o.op = .call { callee := .builtin .append, args := #[s, x], argTypes := #[28, 28] }) {t : ByteArray} {p q : Int} {base : Nat} {v : Value} {l : List GRule}
    (hs : a.eval s = v) {N : Nat} (hx : a.eval x = .slice (some ⟨N, 0, none⟩) 1 1) (hN : N = W.heap.size) (hown : OwnRules W base v l) (hlen : l.length ≤ 1099511627775) (hbase : base ≤ W.heap.size)
    (h : ∀ v' w', OwnRules w' base v' (l ++ [⟨t, p, q⟩]) → (W.alloc (.cells #[.string t, .int .i64 p, .int .i64 q] 165)).grownBy w' v.ownBlock → (v'.ownBlock = v.ownBlock ∨ v'.ownBlock = some (W.heap.size + 1)) →
      Below base (W.alloc (.cells #[.string t, .int .i64 p, .int .i64 q] 165)) w' → K (a.put o.dst v') w') :
    if Region.wanted o (yielded ops a.tmps) = true then Oper.wp Tryz.prog o a (W.alloc (.cells #[.string t, .int .i64 p, .int .i64 q] 165)) K Q else E := by
  subst hN
  have hw : Region.wanted o (yielded ops a.tmps) = true := by simp [Region.wanted, hgd]
  rw [if_pos hw]
  obtain ⟨i0, hi0, hz0, hz1, hz2⟩ := info_parts Tryz.infoR
  have hsl : SlS RuleE (W.alloc (.cells #[.string t, .int .i64 p, .int .i64 q] 165)) (fun b => b = W.heap.size) (.slice (some ⟨W.heap.size, 0, none⟩) 1 1) [⟨t, p, q⟩] := ⟨_, 1, rfl, Nat.le_refl _, by simp [maxLen], fun _ => ⟨W.heap.size, 0, rfl, rfl, fun k r hk => ⟨r.cells, rfl, fun j u hu => by
    have hk0 : k = 0 := by
      have := (List.getElem?_eq_some_iff.1 hk).1
      simp at this; exact this
    subst hk0
    simp at hk
    subst hk
    have hc : (W.alloc (.cells #[.string t, .int .i64 p, .int .i64 q] 165)).cell? ⟨W.heap.size, j, none⟩ = (#[Value.string t, .int .i64 p, .int .i64 q] : Array Value)[j]? := cell_of_row _ _ _ _ 165 (0, 0) (heap_alloc_new W _)
    simp only [Nat.zero_mul, Nat.zero_add]
    rw [hc]
    simpa [GRule.cells] using hu⟩⟩⟩
  obtain ⟨A, c, e, hc, hm, hrow⟩ := hsl
  injection e with e1 e2 e3
  subst e1
  obtain ⟨v', w', hrun, h2, h3, _, h5⟩ := run_append_own_at (P := Tryz.prog) (W.alloc (.cells #[.string t, .int .i64 p, .int .i64 q] 165)) base 28 o.type 165 i0 _ 3 32 Tryz.underlying28 hi0 hz0 hz1 hz2 rfl (by decide) v _ _ (World.ownsRow.alloc hown _) ⟨W.heap.size, 0, none⟩ 1 1 (([⟨t, p, q⟩] : List GRule).flatMap GRule.cells)
    (cells_len _) (rules_cells hrow) (rules_one _) (by simp only [maxLen]; omega) (by omega) (by simp; omega)
  unfold Oper.wp execOp
  simp only [ho, resolve, invoke, builtin, Sem.run_bind, Sem.run_pure, Result.andThen_ok, List.map_toArray, List.map_cons, List.map_nil, hs, hx, hrun]
  refine h v' w' (by unfold OwnRules; simpa using h2) h3 ?_ ((Below.refl base _).grown h3 (by simp; omega) (fun k hk => (World.ownsRow.lt hown k hk).1))
  simpa using h5
set_option maxRecDepth 100000 in
set_option maxHeartbeats 8000000 in
theorem specMap_any (v vW : Value) (xs : List GRule) (ws : List ByteArray) (w : World) (h : Sl RuleE w w.heap.size v xs) (hW : Sl StrE w w.heap.size vW ws) (hsm : SmallL xs) (hx : gramOk xs = true) (hws : ∀ s ∈ ws, wordOk s = true) (hl4 : ws.length = 4) :
    Calls Tryz.prog 194 #[.agg #[v], vW] w (GRes (mapOut xs ws) (mapCode xs ws) w) := by
  have HS := Lib.hid h
  have HW := Lib.hid hW
  have HX := Lib.hid hx
  have HWS := Lib.hid hws
  have HL4 := Lib.hid hl4
  have hn4 : xs.length ≤ 400 := (gram_lens hx).1
  have hokx := Lib.hid (okAll_lens (gram_lens hx).2.choose_spec)
  have HSM := Lib.hid hsm
  obtain ⟨A, c, rfl, _⟩ := h
  obtain ⟨AW, cW, rfl, _⟩ := hW
  rw [hl4]
  clear hx hws hl4 hsm
  go_enter Tryz.func194, Tryz.ntmps194
  go_wp2_with fail
  refine (l02Ok_any w.heap.size 0 _ xs _ (by simp [go_sem]) (by simp; omega) (HS.out.up (by repeat (first | exact Below.refl _ _ | (refine Below.alloc ?_ (by first | omega | (simp; done) | (simp; omega)) _) | (refine Below.setCell ?_ (by first | exact Nat.le_refl _ | (show _ ≤ _; omega) | (simp; done) | (simp; omega)) _) | refine below_drewN ?_ _ | refine Below.drew ?_))) HSM.out).mono ?_
  rintro e w1 ⟨rfl, hb_1⟩
  have KQ_2 : Blk w1 (w.heap.size + 1) #[.slice none 0 0] 30 := by have := (Below.unalloc hb_1).2; simpa [Blk] using this
  replace hb_1 := (Below.unalloc hb_1).1
  have KP_3 : Blk w1 (w.heap.size) #[.slice A xs.length c] 30 := by have := (Below.unalloc hb_1).2; simpa [Blk] using this
  replace hb_1 := (Below.unalloc hb_1).1
  have z_w1 : w.heap.size ≤ w1.heap.size := hb_1.size
  have KB_4 := Lib.hid hb_1
  rw [HX.out]
  have HK0 := Lib.hid KP_3
  have HK1 := Lib.hid KQ_2
  have HB2 := Lib.hid KB_4.out
  have HW2 := Lib.hid (show Sl StrE w1 w1.heap.size (.slice AW 4 cW) ws by have := HW.out.up HB2.out; rw [HL4.out] at this; exact this)
  have HS2 := Lib.hid (HS.out.up HB2.out)
  go_wp2_with fail
  go_loopw [6] (fun q wr => ∃ k : Nat, k ≤ 4 ∧ q = .int .i64 (k : Int) ∧ wr = w1) (fun q _ => 4 - (intOf q).toNat)
  case atStart => exact ⟨0, by omega, rfl, rfl⟩
  case round =>
    obtain ⟨k, hk, rfl, rfl⟩ := hrel
    by_cases hlt : k < 4
    · obtain ⟨s, hs⟩ : ∃ s, ws[k]? = some s := ⟨_, List.getElem?_eq_getElem (by rw [HL4.out]; exact hlt)⟩
      obtain ⟨AW', cW', eW, _, _, hrow⟩ := HW2.out
      injection eW with eW1 eW2 eW3
      subst eW1
      obtain ⟨b, o, rfl, hbl, hcell⟩ := hrow.str (k := k) (by rw [HL4.out]; exact hlt)
      have hcw := hcell k s hs
      have hki : (k : Int) < 4 := by omega
      have HWk := Lib.hid (HWS.out s (List.mem_of_getElem? hs))
      clear hcell hrow hs eW2 eW3
      go_wp2_with fail
      refine (l01Ok_any s _ (by have h1 := HWk.out; unfold wordOk at h1; simp only [Bool.and_eq_true, decide_eq_true_eq] at h1; unfold maxLen; omega)).mono ?_
      rintro e w' ⟨rfl, rfl⟩
      rw [HWk.out]
      go_wp2_with fail
      go_roundw
      case rel => exact ⟨k + 1, by omega, by go_num, trivial⟩
      case measure => simp [intOf]; omega
    · have hk4 : k = 4 := by omega
      subst hk4
      rw [show ((4 : Nat) : Int) = 4 from rfl]
      obtain ⟨wo, rfl⟩ : ∃ wo : World, wo = wr := ⟨_, rfl⟩
      go_wp2_with fail
      obtain ⟨M, hM⟩ : ∃ M, M = wo.heap.size := ⟨_, rfl⟩
      have HM := Lib.hid hM
      rw [← hM]
      have hSt : Blk ((wo.alloc (Obj.cells #[Value.slice none 0 0] 30)).alloc (Obj.cells #[Value.int IntKind.i64 (-1), Value.int IntKind.i64 (-1), Value.int IntKind.i64 (-1), Value.int IntKind.i64 (-1)] 2)) (M + 1) #[Value.int IntKind.i64 (-1), Value.int IntKind.i64 (-1), Value.int IntKind.i64 (-1), Value.int IntKind.i64 (-1)] 2 := by
        rw [hM]; repeat (first | (apply Blk.new'; simp; done) | apply Blk.alloc | apply Blk.drew)
      have hOut : Blk ((wo.alloc (Obj.cells #[Value.slice none 0 0] 30)).alloc (Obj.cells #[Value.int IntKind.i64 (-1), Value.int IntKind.i64 (-1), Value.int IntKind.i64 (-1), Value.int IntKind.i64 (-1)] 2)) M #[.slice none 0 0] 30 := by
        rw [hM]; repeat (first | (apply Blk.new'; simp; done) | apply Blk.alloc | apply Blk.drew)
      have HSt := Lib.hid hSt
      have HOut := Lib.hid hOut
      have z20 : w.heap.size ≤ M := by rw [hM]; exact HB2.out.size
      have z21 : w.heap.size + 1 < M := by rw [hM]; exact HK1.out.lt
      clear hSt hOut hM KQ_2 KP_3 hb_1 z_w1 KB_4
      go_loopw [9, 10, 11, 12, 13, 14] (fun q _ _ _ _ _ wr => ∃ (k : Nat) (vo : Value), k ≤ 4 ∧ q = .int .i64 (k : Int) ∧ Below M wo wr ∧ Boxed wr M 30 vo ∧ OwnRules wr (M + 2) vo (baseG xs ws k).1 ∧ Blk wr (M + 1) (((baseG xs ws k).2.map (Value.int .i64)).toArray) 2) (fun q _ _ _ _ _ _ => 4 - (intOf q).toNat)
      case atStart =>
        refine ⟨0, _, by omega, rfl, ?_, HOut.out, World.ownsRow_nil _ _ _ _, HSt.out⟩
        rw [HM.out]; exact (by repeat (first | exact Below.refl _ _ | (refine Below.alloc ?_ (by first | omega | (simp; done) | (simp; omega)) _) | (refine Below.setCell ?_ (by first | exact Nat.le_refl _ | (show _ ≤ _; omega) | (simp; done) | (simp; omega)) _) | refine below_drewN ?_ _ | refine Below.drew ?_))
      case round =>
        obtain ⟨k, vo, hk, rfl, hb, hbox, hown, hst⟩ := hrel
        have hbase := base_ok xs ws HWS.out HL4.out k hk
        have hlen1 := hbase.len
        have hlen2 := hbase.l4
        have HBA := Lib.hid hbase
        have HBs := Lib.hid (baseG_succ xs ws k)
        clear hbase
        obtain ⟨O, S, hOS⟩ : ∃ O S, baseG xs ws k = (O, S) := ⟨_, _, rfl⟩
        rw [hOS] at hown hst hlen1 hlen2
        replace hown : OwnRules wr (M + 2) vo O := hown
        replace hst : Blk wr (M + 1) ((S.map (Value.int .i64)).toArray) 2 := hst
        replace hlen1 : O.length ≤ 2004 * k := hlen1
        replace hlen2 : S.length = 4 := hlen2
        have HOS := Lib.hid hOS
        have HB := Lib.hid hb
        have HX1 := Lib.hid hbox
        have HO := Lib.hid hown
        have HST := Lib.hid hst
        have HS4 := Lib.hid hlen2
        have c0 : wr.cell? ⟨w.heap.size, 0, none⟩ = some (.slice A xs.length c) := (HK0.out.upB hb (by omega)).cell rfl
        have lMw : M + 1 < wr.heap.size := hst.lt
        obtain ⟨Ao, co, rfl, _⟩ := own_nil hown
        clear hb hbox hown hst hOS hlen2
        by_cases hlt : k < 4
        · have hcv : ∀ W : World, (convert 34 9 (.slice (some ⟨W.heap.size, 0, none⟩) 1 1)).run Tryz.prog (W.alloc (.cells #[.int .u8 (97 + (k : Int))] 5)).drew = .ok (.string (letR (ltr k)).letter) (W.alloc (.cells #[.int .u8 (97 + (k : Int))] 5)).drew := fun W => by
            have := convC W.drew _ rfl (ltr k)
            rw [← ltr_nat hlt, show ((97 + k : Nat) : Int) = 97 + (k : Int) by omega] at this
            exact this
          obtain ⟨wq, rfl⟩ : ∃ wq : World, wq = wr := ⟨_, rfl⟩
          go_wp2_with fail
          go_loopw [10, 11] (fun u10 q wx => ∃ i : Nat, i ≤ xs.length ∧ q = .int .i64 (i : Int) ∧ u10 = .bool (usedK xs k i) ∧ Below wq.heap.size wq wx) (fun _ q _ => xs.length - (intOf q).toNat)
          case atStart => exact ⟨0, by omega, rfl, rfl, Below.refl _ _⟩
          case round =>
            obtain ⟨i, hi, rfl, rfl, hbx⟩ := hrel
            have HBX := Lib.hid hbx
            have c0' : wr.cell? ⟨w.heap.size, 0, none⟩ = some (.slice A xs.length c) := (hbx.cell (p := ⟨w.heap.size, 0, none⟩) (by show w.heap.size < wq.heap.size; omega)).trans c0
            have zq : wq.heap.size ≤ wr.heap.size := hbx.size
            by_cases hlt2 : i < xs.length
            · obtain ⟨AG, cG, eG, _, _, hrow⟩ := HS2.out
              injection eG with eG1 eG2 eG3
              subst eG1
              obtain ⟨b, o, rfl, hbl, hcell⟩ := hrow.rule hlt2
              obtain ⟨r, hr⟩ : ∃ r, xs[i]? = some r := ⟨_, List.getElem?_eq_getElem hlt2⟩
              obtain ⟨g0, g1, g2⟩ := hcell i r hr
              have hbl2 : b < M := by rw [HM.out]; exact hbl
              have hc0 := (hbx.cell (p := ⟨b, o + i * 3, none⟩) (by show b < wq.heap.size; omega)).trans ((HB.out.cell (p := ⟨b, o + i * 3, none⟩) hbl2).trans g0)
              have lbw : b < wr.heap.size := by omega
              have lP : w.heap.size < wr.heap.size := by omega
              have hs1 : IntKind.i64.wrap (97 + (k : Int)) = 97 + (k : Int) := IntWalk.i64_in _ (by omega)
              have hs2 : IntKind.u8.wrap (97 + (k : Int)) = 97 + (k : Int) := by rw [IntKind.wrap_u8]; omega
              have HU := Lib.hid (usedK_succ (k := k) hr)
              have hki : (i : Int) < (xs.length : Int) := by omega
              clear hcell hrow g0 g1 g2 hr eG2 eG3 hbx c0
              cases hu : usedK xs k i with
              | true =>
                rw [hu] at HU
                clear hu
                go_wp2_with fail
                go_region
                all_goals
                  go_wp2_with fail
                  go_roundw
                  case rel => exact ⟨i + 1, by omega, by go_num, by rw [HU.out]; rfl, Below.drew HBX.out⟩
                  case measure => simp [intOf]; omega
              | false =>
                rw [hu] at HU
                clear hu
                go_wp2_with fail
                by_cases hrl : r.letter = (letR (ltr k)).letter
                · have hdl : decide (r.letter = (letR (ltr k)).letter) = true := by simp [hrl]
                  rw [hdl] at HU
                  go_region
                  all_goals
                    go_wp2_with fail
                    go_roundw
                    case rel => exact ⟨i + 1, by omega, by go_num, by rw [HU.out]; rfl, Below.drew (HBX.out.alloc zq _)⟩
                    case measure => simp [intOf]; omega
                · have hdl : decide (r.letter = (letR (ltr k)).letter) = false := by simp [hrl]
                  have hdl2 : (r.letter.toList == (letR (ltr k)).letter.toList) = false := by
                    rw [beq_eq_false_iff_ne, ByteArray.toList_eq, ByteArray.toList_eq]
                    exact fun h => hrl (ByteArray.ext (Array.toList_inj.mp h))
                  rw [hdl] at HU
                  go_region
                  all_goals
                    go_wp2_with fail
                    go_roundw
                    case rel => exact ⟨i + 1, by omega, by go_num, by rw [HU.out]; rfl, Below.drew (HBX.out.alloc zq _)⟩
                    case measure => simp [intOf]; omega
            · have hik : i = xs.length := by omega
              subst hik
              rw [usedK_has hokx.out k]
              obtain ⟨ws3, rfl⟩ : ∃ ws3 : World, ws3 = wr := ⟨_, rfl⟩
              obtain ⟨s, hs⟩ : ∃ s, ws[k]? = some s := ⟨_, List.getElem?_eq_getElem (by rw [HL4.out]; exact hlt)⟩
              have hsg : ws.getD k ⟨#[]⟩ = s := by rw [List.getD_eq_getElem?_getD, hs]; rfl
              obtain ⟨AW', cW', eW, _, _, hrow⟩ := HW2.out
              injection eW with eW1 eW2 eW3
              subst eW1
              obtain ⟨b, o, rfl, hbl, hcell⟩ := hrow.str (k := k) (by rw [HL4.out]; exact hlt)
              have hbl2 : b < M := by rw [HM.out]; exact hbl
              have hcw : ws3.cell? ⟨b, o + k, none⟩ = some (.string s) := (hbx.cell (p := ⟨b, o + k, none⟩) (by show b < wq.heap.size; omega)).trans ((HB.out.cell (p := ⟨b, o + k, none⟩) hbl2).trans (hcell k s hs))
              have lbw : b < ws3.heap.size := by omega
              have hki : (k : Int) < 4 := by omega
              have HWk := Lib.hid (HWS.out s (List.mem_of_getElem? hs))
              have HSG := Lib.hid hsg
              have HXr := Lib.hid (Boxed.up HX1.out hbx HX1.out.lt)
              have HOr := Lib.hid (OwnRules.below HO.out hbx)
              have HSTr := Lib.hid (HST.out.up hbx)
              have HBr := Lib.hid (HB.out.trans (hbx.mono (by omega)))
              have lP : w.heap.size < ws3.heap.size := by omega
              clear hcell hrow hs hsg eW2 eW3 hbx HBX
              by_cases hcd : s.size ≠ 0 ∧ hasL xs k = true
              · have he1 : s.toList.isEmpty = false := by rw [isEmpty_size]; simp [hcd.1]
                have hL := hcd.2
                rw [hL]
                have HCD := Lib.hid hcd
                clear hcd
                have cX := HXr.out.cell
                have lX := HXr.out.lt
                go_wp2_with fail
                refine (l02Plain_any s _ HWk.out).mono ?_
                rintro e w4 ⟨hb4, v4, own4, rfl⟩
                have HXp := Lib.hid (Boxed.up HXr.out hb4 HXr.out.lt)
                have HOp := Lib.hid (OwnRules.below HOr.out hb4)
                have HSTp := Lib.hid (HSTr.out.up hb4)
                have HBp := Lib.hid (HBr.out.trans (hb4.mono (by omega)))
                have hsz : s.size ≤ 2000 := by have := HWk.out; unfold wordOk at this; simp only [Bool.and_eq_true, decide_eq_true_eq] at this; omega
                have hpl := plainG_len s
                have HP := Lib.hid (okAll_smallP (okAll_plainG HWk.out) (by omega))
                have hO8 : O.length ≤ 8016 := by omega
                obtain ⟨G, hG⟩ : ∃ G, plainG s = G := ⟨_, rfl⟩
                have HG := Lib.hid hG
                rw [hG] at hpl HP own4
                obtain ⟨A4, c4, rfl, _⟩ := own_nil own4
                have z4 : ws3.heap.size ≤ w4.heap.size := hb4.size
                have HG4 := Lib.hid (OwnRules.slS own4 (S := fun b => ws3.heap.size ≤ b ∧ b < w4.heap.size) fun g hg => World.ownsRow.lt own4 g hg)
                have cX4 := HXp.out.cell
                have lX4 := HXp.out.lt
                have hOB := Lib.hid (fun g (hg : (Value.slice Ao O.length co).ownBlock = some g) => (World.ownsRow.lt HOr.out g hg).2)
                clear hG hb4 own4 cX lX hcw
                go_wp2_with fail
                obtain ⟨Z, hZ⟩ : ∃ Z, Z = w4.heap.size := ⟨_, rfl⟩
                have hZc : Blk (w4.alloc (Obj.cells #[Value.slice A4 G.length c4] 30)) Z #[.slice A4 G.length c4] 30 := by rw [hZ]; exact Blk.new _ _ _
                have HZc := Lib.hid hZc
                have HZ := Lib.hid hZ
                rw [← hZ]
                rw [← hZ] at z4 lX4
                clear hZ hZc
                go_loopw [14] (fun q wx => ∃ (i : Nat) (vo : Value), i ≤ G.length ∧ q = .int .i64 (i : Int) ∧ Below M wo wx ∧ Boxed wx M 30 vo ∧ OwnRules wx (M + 2) vo (O ++ (G.take i).map (raiseR O.length)) ∧ Blk wx (M + 1) ((S.map (Value.int .i64)).toArray) 2 ∧
                  Blk wx Z #[.slice A4 G.length c4] 30 ∧ SlS RuleE wx (fun b => ws3.heap.size ≤ b ∧ b < Z) (.slice A4 G.length c4) G ∧ (∀ g, vo.ownBlock = some g → g < ws3.heap.size ∨ Z < g)) (fun q _ => G.length - (intOf q).toNat)
                case atStart =>
                  refine ⟨0, _, Nat.zero_le _, rfl, HBp.out.alloc (by rw [← HZ.out]; omega) _, Boxed.alloc HXp.out _, ?_, HSTp.out.alloc _, HZc.out, ?_, fun g hg => .inl (hOB.out g hg)⟩
                  · rw [List.take_zero, List.map_nil, List.append_nil]; exact HOp.out.alloc _
                  · rw [HZ.out]; exact HG4.out.keep ((Keep.of_below (B := w4.heap.size) ((Below.refl _ _).alloc (Nat.le_refl _) _)).mono fun _ hb => hb.2)
                case round =>
                  obtain ⟨i, vo, hi, rfl, hb, hbox, hown, hst, hzc, hsl, hob⟩ := hrel
                  obtain ⟨L, hL9⟩ : ∃ L, L = O ++ (G.take i).map (raiseR O.length) := ⟨_, rfl⟩
                  rw [← hL9] at hown
                  have hlk : L.length = O.length + i := by rw [hL9]; simp; omega
                  have HL9 := Lib.hid hL9
                  have HB7 := Lib.hid hb
                  have HX7 := Lib.hid hbox
                  have HO7 := Lib.hid hown
                  have HST7 := Lib.hid hst
                  have HZ7 := Lib.hid hzc
                  have HS7 := Lib.hid hsl
                  have HOB7 := Lib.hid hob
                  have cO := hbox.cell
                  have fO := hbox.frozen
                  have lO := hbox.lt
                  have cZ := hzc.cell (i := 0) (v := .slice A4 G.length c4) rfl
                  have lZ := hzc.lt
                  have l1 := hst.lt
                  obtain ⟨A7, c7, rfl, _⟩ := own_nil hown
                  have HLl := Lib.hid (show L.length ≤ 1099511627775 by omega)
                  have HLK := Lib.hid hlk
                  clear hb hbox hown hst hzc hob hL9 hlk
                  by_cases hlt3 : i < G.length
                  · obtain ⟨AZ, cZ', eZ, _, _, hrowZ⟩ := HS7.out
                    injection eZ with eZ1 eZ2 eZ3
                    subst eZ1
                    obtain ⟨b2, o2, rfl, hbl3, hcell⟩ := hrowZ.rule hlt3
                    obtain ⟨r, hr⟩ : ∃ r, G[i]? = some r := ⟨_, List.getElem?_eq_getElem hlt3⟩
                    obtain ⟨hg0, hg1, hg2⟩ := hcell i r hr
                    have lb2 : b2 < wr.heap.size := by omega
                    have hgi : (i : Int) < (G.length : Int) := by omega
                    have HPr := Lib.hid (HP.out r (List.mem_of_getElem? hr))
                    have hnx : O ++ (G.take (i + 1)).map (raiseR O.length) = L ++ [raiseR O.length r] := by rw [List.take_add_one, hr, List.map_append, ← List.append_assoc, ← HL9.out]; rfl
                    have HNX := Lib.hid hnx
                    clear hcell hrowZ hr hsl eZ2 eZ3 hnx
                    go_wp2_with fail
                    go_region_law (first
                      | (refine step_push_ruleN (base := M + 2) (v := .slice A7 L.length c7) (by rfl) _ _ (by rfl) (by rfl) (by first | rfl | simp) rfl (OwnRules.below HO7.out.drew hb2) HLl.out (by omega) ?_; intro v3 w3 own3 hg3 hor3 hb3; have bx3 : Boxed w3 M 30 _ := Boxed.grown (Boxed.up (Boxed.mk' HX7.out) hb2 lO) (by decide) (OwnRules.below HO7.out.drew hb2) hg3; obtain ⟨A3, c3, rfl, _⟩ := own_nil own3; have hcb3 := bx3.cell; have hfb3 := bx3.frozen)
                      | (go_simp; go_at_call 262; refine (l02Raised_any r O.length _ (by omega) HPr.out).mono ?_; rintro e w2 ⟨rfl, hb2⟩; have bx2 := Boxed.up (Boxed.mk' HX7.out) hb2 lO; have hcb2 := bx2.cell; have hfb2 := bx2.frozen; have hlb2 := bx2.lt; have z2 : wr.heap.size ≤ w2.heap.size := hb2.size))
                    all_goals
                      have h2 : Below wr.heap.size wr w2 := Below.undrew hb2
                      have hbz : Below (M + 2) wr w3 := (h2.mono (by omega)).trans (((Below.refl _ _).alloc (by omega) _).trans hb3)
                      obtain ⟨kZ, kS, kOB⟩ := raise_tail h2 hg3 hor3 HOB7.out HZ7.out HS7.out z4
                      have HBZ := Lib.hid hbz
                      have HO8 := Lib.hid own3
                      have HX8 := Lib.hid bx3
                      have HKZ := Lib.hid kZ
                      have HKS := Lib.hid kS
                      have HKO := Lib.hid kOB
                      clear hbz own3 bx3 hb2 hb3 hg3 hor3 h2 kZ kS kOB bx2
                      go_wp2_with fail
                      go_roundw
                      case rel =>
                        refine ⟨i + 1, .slice A3 (L.length + 1) c3, by omega, by go_num, (HB7.out.trans (HBZ.out.mono (by omega))).setCell (by show M ≤ M; omega) _, Boxed.set _ HX8.out, ?_, (HST7.out.upB HBZ.out (by omega)).other (by show M + 1 ≠ M; omega) _, HKZ.out.other (by show Z ≠ M; omega) _, HKS.out.keep fun b hb => Below.heap_setCell _ _ _ _ (by show b ≠ M; omega), fun g hg => HKO.out g (by rw [List.length_append]; exact hg)⟩
                        rw [HNX.out]
                        exact own_put HX8.out HO8.out rfl (by simp)
                      case measure => simp [intOf]; omega
                  · have hig : i = G.length := by omega
                    subst hig
                    have cS := HST7.out.cell (i := k) (v := .int .i64 (S.getD k 0)) (ints_cell (by rw [HS4.out]; exact hlt))
                    have fS := HST7.out.frozen k
                    have hO9 : L.length ≤ 12000 := by rw [HLK.out]; omega
                    have hHL : L = O ++ G.map (raiseR O.length) := by rw [HL9.out, List.take_length]
                    have HHL := Lib.hid hHL
                    clear hHL
                    go_wp2_with fail
                    go_roundw
                    case rel =>
                      have ebs : baseG xs ws (k + 1) = (L, S.set k ((L.length : Int) - 1)) := by
                        rw [HBs.out, baseStep, HSG.out, if_pos HCD.out, HOS.out, HG.out, HHL.out, List.length_append, List.length_map]
                      refine ⟨k + 1, _, by omega, by go_num, HB7.out.setCell (by show M ≤ M + 1; omega) _, Blk.other HX7.out (by show M ≠ M + 1; omega) _, ?_, ?_⟩
                      · rw [ebs]
                        exact ownsRow_setCell_below (a := ⟨M + 1, k, none⟩) HO7.out (by show M + 1 < M + 2; omega) _
                      · rw [ebs, ← ints_set]
                        exact HST7.out.set k _
                    case measure => simp [intOf]; omega
              · have e0 : ¬ ((ws.getD k ⟨#[]⟩).size ≠ 0 ∧ hasL xs k = true) := by rw [HSG.out]; exact hcd
                have E0 := Lib.hid e0
                cases hL : hasL xs k with
                | false =>
                  go_wp2_with fail
                  go_roundw
                  case rel => exact ⟨k + 1, _, by omega, by go_num, HBr.out, HXr.out, by rw [HBs.out, baseStep, if_neg E0.out, HOS.out]; exact HOr.out, by rw [HBs.out, baseStep, if_neg E0.out, HOS.out]; exact HSTr.out⟩
                  case measure => simp [intOf]; omega
                | true =>
                  have hs0 : s.size = 0 := by
                    rcases Nat.eq_zero_or_pos s.size with h | h
                    · exact h
                    · exact absurd ⟨by omega, hL⟩ hcd
                  have hse : s = ⟨#[]⟩ := ByteArray.ext (Array.eq_empty_of_size_eq_zero hs0)
                  have HSE := Lib.hid hse
                  rw [hse] at hcw
                  clear hse hs0
                  go_wp2_with fail
                  go_roundw
                  case rel => exact ⟨k + 1, _, by omega, by go_num, HBr.out, HXr.out, by rw [HBs.out, baseStep, if_neg E0.out, HOS.out]; exact HOr.out, by rw [HBs.out, baseStep, if_neg E0.out, HOS.out]; exact HSTr.out⟩
                  case measure => simp [intOf]; omega
        · have hk4 : k = 4 := by omega
          subst hk4
          obtain ⟨wq, rfl⟩ : ∃ wq : World, wq = wr := ⟨_, rfl⟩
          have HBO := Lib.hid (show (baseG xs ws 4).2 = S by rw [HOS.out])
          have HSK := Lib.hid (fun k hk => stand_ok xs ws HWS.out HL4.out hokx.out k hk)
          have HBl := Lib.hid (fun i hi => HBA.out.low i hi)
          rw [HOS.out] at HBl
          have hS0 := Lib.hid (show standG xs ws 0 = (O, []) by unfold standG; rw [HOS.out]; rfl)
          go_wp2_with fail
          go_loopw [15, 16, 17, 18, 19] (fun sv q _ _ _ wr => ∃ (k : Nat) (vo : Value), k ≤ xs.length ∧ q = .int .i64 (k : Int) ∧ Below M wo wr ∧ Boxed wr M 30 vo ∧ OwnRules wr (M + 2) vo (standG xs ws k).1 ∧ OwnInts wr (M + 2) sv (standG xs ws k).2 ∧ Blk wr (M + 1) ((S.map (Value.int .i64)).toArray) 2) (fun _ q _ _ _ _ => xs.length - (intOf q).toNat)
          case atStart =>
            refine ⟨0, _, Nat.zero_le _, rfl, HB.out.alloc (by omega) _, Boxed.alloc HX1.out _, ?_, ?_, HST.out.alloc _⟩
            · rw [hS0.out]; exact HO.out.alloc _
            · rw [hS0.out]; exact OwnInts.empty rfl (by omega)
          case round =>
            obtain ⟨k, vo, hk, rfl, hb, hbox, hown, hi, hst⟩ := hrel
            have hsk := HSK.out k hk
            have hlO := hsk.len
            have hlS := hsk.ls
            have hlow := hsk.low
            have HOK := Lib.hid hsk.ok
            have HNx := Lib.hid (fun r hr => standG_succ (xs := xs) (ws := ws) (k := k) (r := r) hr)
            rw [HBO.out] at HNx
            obtain ⟨P, T, hPT⟩ : ∃ P T, standG xs ws k = (P, T) := ⟨_, _, rfl⟩
            have HPT := Lib.hid hPT
            rw [hPT] at hown hi hlO hlS hlow HOK HNx
            replace hown : OwnRules wr (M + 2) vo P := hown
            replace hi : OwnInts wr (M + 2) u15 T := hi
            replace hlO : P.length ≤ 8016 + k := hlO
            replace hlS : T.length = k := hlS
            have HTl := Lib.hid hlS
            have HLow := Lib.hid hlow
            have HB5 := Lib.hid hb
            have HX5 := Lib.hid hbox
            have HO5 := Lib.hid hown
            have HI5 := Lib.hid hi
            have HST5 := Lib.hid hst
            have c05 : wr.cell? ⟨w.heap.size, 0, none⟩ = some (.slice A xs.length c) := (HK0.out.upB hb (by omega)).cell rfl
            have cb5 := hbox.cell
            have fb5 := hbox.frozen
            have lb5 := hbox.lt
            have l15 := hst.lt
            obtain ⟨A5, c5, rfl, _⟩ := own_nil hown
            obtain ⟨A7, c7, rfl, _⟩ := own_nil hi
            have HTl2 := Lib.hid (show T.length ≤ 1099511627775 by rw [hlS]; omega)
            have HPl2 := Lib.hid (show P.length ≤ 1099511627775 by omega)
            clear hb hbox hown hi hst hPT hsk hlow hlS c0
            by_cases hlt2 : k < xs.length
            · obtain ⟨AG, cG, eG, _, _, hrow⟩ := HS2.out
              injection eG with eG1 eG2 eG3
              subst eG1
              obtain ⟨b, o, rfl, hbl, hcell⟩ := hrow.rule hlt2
              obtain ⟨r, hr⟩ : ∃ r, xs[k]? = some r := ⟨_, List.getElem?_eq_getElem hlt2⟩
              obtain ⟨g0, g1, g2⟩ := hcell k r hr
              have hbl2 : b < M := by rw [HM.out]; exact hbl
              have hc0 := (HB5.out.cell (p := ⟨b, o + k * 3, none⟩) hbl2).trans g0
              have hc1 := (HB5.out.cell (p := ⟨b, o + k * 3 + 1, none⟩) hbl2).trans g1
              have hc2 := (HB5.out.cell (p := ⟨b, o + k * 3 + 2, none⟩) hbl2).trans g2
              have lbw : b < wr.heap.size := by omega
              have Hr := Lib.hid hr
              have hor := hokx.out k r hr
              have HN := Lib.hid (HNx.out r hr)
              have hki : (k : Int) < (xs.length : Int) := by omega
              clear hcell hrow g0 g1 g2 hr eG2 eG3 HNx
              cases hpr : r.pair with
              | false =>
                have he1 : r.letter.toList.isEmpty = false := by rw [isEmpty_size]; simpa [GRule.pair] using hpr
                have he2 : (!r.letter.toList.isEmpty) = true := by rw [he1]; rfl
                obtain ⟨q1, q2, q3⟩ := okRule_let hor hpr
                have hidx := letter_idx hor hpr
                have hpos : 0 < r.letter.size := by omega
                rw [getD_data hpos] at hidx
                obtain ⟨j, hj⟩ : ∃ j, j = r.letter[0].toNat - 97 := ⟨_, rfl⟩
                have hn1 : ((r.letter[0].toNat : Int) - 97) % 256 = (j : Int) := by omega
                have hw1 : IntKind.u8.wrap ((r.letter[0].toNat : Int) - 97) = (j : Int) := hn1
                have hj4 : (j : Int) < 4 := by omega
                have cS := Blk.cell (i := j) (v := .int .i64 (S.getD j 0)) HST5.out (ints_cell (by rw [HS4.out]; omega))
                obtain ⟨v, hv⟩ : ∃ v, S.getD j 0 = v := ⟨_, rfl⟩
                rw [hv] at cS
                have hst9 : standStep S (P, T) r = (P, T ++ [v]) := by
                  unfold standStep
                  rw [if_neg (by simp [hpr]), getD_data hpos, ← hj, hv]
                rw [hst9] at HN
                have Hq1 := Lib.hid q1
                have hs1 : (r.letter.size : Int) = 1 := by omega
                clear hst9 hv hor q1 q2 q3 hj hidx
                go_wp2_with (at_builtin; go_must (refine list_push_int (base := M + 2) (v := .slice A7 T.length c7) (l := T) rfl _ _ rfl rfl rfl (by simp) HI5.out HTl2.out (by omega) ?_); intro v3 w3 own3 hg3 hv3; obtain ⟨A3, c3, rfl, _⟩ := own_nil own3)
                obtain ⟨t1, t2, t3, t4⟩ := stand_tailT HB5.out HX5.out HO5.out HI5.out HST5.out hg3 (by omega)
                exact ⟨⟨k + 1, _, by omega, by go_num, t1, t2, by rw [HN.out]; exact t3, by rw [HN.out]; exact int_len own3, t4⟩, by simp [intOf]; omega⟩
              | true =>
                have he1 : r.letter.toList.isEmpty = true := by rw [isEmpty_size]; exact hpr
                have he2 : (!r.letter.toList.isEmpty) = false := by rw [he1]; rfl
                obtain ⟨q1, q2, q3, q4⟩ := okRule_at hor hpr
                obtain ⟨l1, hl1⟩ := Int.eq_ofNat_of_zero_le q1
                obtain ⟨l2, hl2⟩ := Int.eq_ofNat_of_zero_le q3
                have h1k : l1 < T.length := by rw [HTl.out]; omega
                have h2k : l2 < T.length := by rw [HTl.out]; omega
                obtain ⟨g, cap, e1, hgb, hgl, _, hgc⟩ := OwnInts.at_ HI5.out (j := l1) h1k
                injection e1 with e11 e12 e13
                subst e11
                have ca := hgc l1 h1k
                have cb' := hgc l2 h2k
                have hLa := HLow.out l1 (by rw [← HTl.out]; exact h1k)
                have hLb := HLow.out l2 (by rw [← HTl.out]; exact h2k)
                replace hLa : -1 ≤ T.getD l1 0 ∧ T.getD l1 0 < (P.length : Int) := hLa
                replace hLb : -1 ≤ T.getD l2 0 ∧ T.getD l2 0 < (P.length : Int) := hLb
                obtain ⟨a, ha⟩ : ∃ a, T.getD l1 0 = a := ⟨_, rfl⟩
                obtain ⟨bb, hbb⟩ : ∃ a, T.getD l2 0 = a := ⟨_, rfl⟩
                rw [ha] at ca hLa
                rw [hbb] at cb' hLb
                have hst9 : standStep S (P, T) r = if a < 0 then (P, T ++ [bb]) else if bb < 0 then (P, T ++ [a]) else (P ++ [pairR a bb], T ++ [(P.length : Int)]) := by
                  unfold standStep
                  rw [if_pos hpr, hl1, hl2, Int.toNat_natCast, Int.toNat_natCast, ha, hbb]
                rw [hst9] at HN
                rw [hl1] at hc1
                rw [hl2] at hc2
                have h1i : (l1 : Int) < (T.length : Int) := by omega
                have h2i : (l2 : Int) < (T.length : Int) := by omega
                clear hst9 hor q1 q2 q3 q4 hl1 hl2 ha hbb hgc e12 e13
                by_cases hA : a < 0
                · rw [if_pos hA] at HN
                  go_wp2_with (at_builtin; go_must (refine list_push_int (base := M + 2) (v := .slice (some ⟨g, 0, none⟩) T.length c7) (l := T) rfl _ _ rfl rfl rfl (by simp) HI5.out HTl2.out (by omega) ?_); intro v3 w3 own3 hg3 hv3; obtain ⟨A3, c3, rfl, _⟩ := own_nil own3)
                  obtain ⟨t1, t2, t3, t4⟩ := stand_tailT HB5.out HX5.out HO5.out HI5.out HST5.out hg3 (by omega)
                  exact ⟨⟨k + 1, _, by omega, by go_num, t1, t2, by rw [HN.out]; exact t3, by rw [HN.out]; exact int_len own3, t4⟩, by simp [intOf]; omega⟩
                · rw [if_neg hA] at HN
                  by_cases hB : bb < 0
                  · rw [if_pos hB] at HN
                    go_wp2_with (at_builtin; go_must (refine list_push_int (base := M + 2) (v := .slice (some ⟨g, 0, none⟩) T.length c7) (l := T) rfl _ _ rfl rfl rfl (by simp) HI5.out HTl2.out (by omega) ?_); intro v3 w3 own3 hg3 hv3; obtain ⟨A3, c3, rfl, _⟩ := own_nil own3)
                    obtain ⟨t1, t2, t3, t4⟩ := stand_tailT HB5.out HX5.out HO5.out HI5.out HST5.out hg3 (by omega)
                    exact ⟨⟨k + 1, _, by omega, by go_num, t1, t2, by rw [HN.out]; exact t3, by rw [HN.out]; exact int_len own3, t4⟩, by simp [intOf]; omega⟩
                  · rw [if_neg hB] at HN
                    have hp8 : P.length ≤ 8500 := by omega
                    go_wp2_with (first
                      | (at_builtin; refine list_push_rule (base := M + 2) (t := ⟨#[]⟩) (p := a) (q := bb) (v := .slice A5 P.length c5) (l := P) rfl _ _ rfl rfl rfl (by simp) HO5.out HPl2.out (by omega) ?_; intro v5 w5 own5 hg5 hb5; have own4 : OwnInts w5 (M + 2) (.slice (some ⟨g, 0, none⟩) T.length c7) T := keep_ints HI5.out HO5.out hg5; have bx5 : Boxed w5 M 30 _ := Boxed.grown HX5.out (by decide) HO5.out hg5; obtain ⟨A9, c9, rfl, _⟩ := own_nil own5; have cb9 := bx5.cell; have fb9 := bx5.frozen; have lb9 := bx5.lt; have lg9 := (World.ownsRow.lt own4 g rfl); have hbz : Below (M + 2) wr w5 := ((Below.refl _ _).alloc (by omega) _).trans hb5; have HO9 := Lib.hid own5; have HI9 := Lib.hid own4; have HX9 := Lib.hid bx5; have HBZ := Lib.hid hbz; clear own5 own4 hg5 hb5 hbz bx5)
                      | (at_builtin; go_must (refine list_push_int (base := M + 2) (v := .slice (some ⟨g, 0, none⟩) T.length c7) (l := T) rfl _ _ rfl rfl rfl (by simp) (ownsRow_setCell_below HI9.out (by show M < M + 2; omega) _) HTl2.out (by simp; omega) ?_); intro v3 w3 own3 hg3 hv3; obtain ⟨A3, c3, rfl, _⟩ := own_nil own3))
                    obtain ⟨t1, t2, t3, t4⟩ := stand_tailT (((HB5.out.trans (HBZ.out.mono (by omega))).setCell (by show M ≤ M; omega) _)) (Boxed.set _ HX9.out) (own_put HX9.out HO9.out rfl (by simp)) (ownsRow_setCell_below HI9.out (by show M < M + 2; omega) _) ((HST5.out.upB HBZ.out (by omega)).other (by show M + 1 ≠ M; omega) _) hg3 (by simp; omega)
                    refine ⟨⟨k + 1, _, by omega, by go_num, t1, t2, by rw [HN.out]; exact t3, ?_, t4⟩, by simp [intOf]; omega⟩
                    rw [HN.out]
                    have e8 : (P.length : Int) + 1 - 1 = (P.length : Int) := by omega
                    first
                      | exact int_len own3
                      | (rw [e8] at own3; exact int_len own3)
            · have hkn : k = xs.length := by omega
              subst hkn
              have HPM := Lib.hid (show mapP xs ws = (P, T) from HPT.out)
              have hmo : mapOut xs ws = if 400 < P.length then [] else if xs.length = 0 ∨ lastI T < 0 then [] else limOut (trimG (P.take ((lastI T).toNat + 1))) := by unfold mapOut; rw [HPM.out]
              have hmc : mapCode xs ws = if 400 < P.length then 3 else if xs.length = 0 ∨ lastI T < 0 then 0 else limCode (trimG (P.take ((lastI T).toNat + 1))) := by unfold mapCode; rw [HPM.out]
              have HMO := Lib.hid hmo
              have HMC := Lib.hid hmc
              have hKR := HK1.out.upB HB5.out z21
              have r1 := hKR.cell (i := 0) (v := .slice none 0 0) rfl
              have r2 := hKR.frozen 0
              have r3 := hKR.lt
              have HKR := Lib.hid hKR
              have HBw := Lib.hid (HB2.out.trans (HB5.out.mono (by omega)))
              clear hmo hmc hKR
              by_cases h400 : 400 < P.length
              · rw [if_pos h400] at HMO HMC
                go_wp2
                refine bodyPost_ret (v := .tuple #[.agg #[.slice none 0 0], .int .i64 3]) (by simp [results, Tryz.results194, go_sem, r1]) rfl ⟨HBw.out.setCell (by show w.heap.size ≤ w.heap.size + 1; omega) _, _, ?_, by rw [HMC.out]⟩
                rw [HMO.out]; exact World.ownsRow_nil _ _ _ _
              · rw [if_neg h400] at HMO HMC
                have hTx := HTl.out
                by_cases hx0 : xs.length = 0
                · rw [if_pos (.inl hx0)] at HMO HMC
                  have g0 : ((T.length : Int) == 0) = true := by rw [beq_iff_eq]; omega
                  have HX0 := Lib.hid hx0
                  clear hx0 hTx
                  go_wp2
                  refine bodyPost_ret (v := .tuple #[.agg #[.slice none 0 0], .int .i64 0]) (by simp [results, Tryz.results194, go_sem, r1]) rfl ⟨HBw.out.setCell (by show w.heap.size ≤ w.heap.size + 1; omega) _, _, ?_, by rw [HMC.out]⟩
                  rw [HMO.out]; exact World.ownsRow_nil _ _ _ _
                · have g0 : ((T.length : Int) == 0) = false := by rw [beq_eq_false_iff_ne]; omega
                  have hlq := HLow.out (xs.length - 1) (by omega)
                  replace hlq : -1 ≤ T.getD (xs.length - 1) 0 ∧ T.getD (xs.length - 1) 0 < (P.length : Int) := hlq
                  have hlT : lastI T = T.getD (xs.length - 1) 0 := by rw [lastI, hTx]
                  rw [← hlT] at hlq
                  obtain ⟨g, cap, e1, hgb, hgl, _, hgc⟩ := OwnInts.at_ HI5.out (j := T.length - 1) (by omega)
                  injection e1 with e11 e12 e13
                  subst e11
                  have cL := hgc (T.length - 1) (by omega)
                  obtain ⟨q, hq⟩ : ∃ q, lastI T = q := ⟨_, rfl⟩
                  have hq2 : T.getD (T.length - 1) 0 = q := hq
                  rw [hq2] at cL
                  rw [hq] at hlq HMO HMC
                  have hix : ((T.length : Int) - 1).toNat = T.length - 1 := by omega
                  have hi0 : 0 ≤ (T.length : Int) - 1 := by omega
                  have hi1 : (T.length : Int) - 1 < T.length := by omega
                  have hiw : IntKind.i64.wrap ((T.length : Int) - 1) = (T.length : Int) - 1 := IntWalk.i64_in _ (by omega)
                  clear hlT hTx hq hq2 hgc e12 e13
                  by_cases hq0 : q < 0
                  · rw [if_pos (.inr hq0)] at HMO HMC
                    go_wp2_with fail
                    refine bodyPost_ret (v := .tuple #[.agg #[.slice none 0 0], .int .i64 0]) (by simp [results, Tryz.results194, go_sem, r1]) rfl ⟨HBw.out.setCell (by show w.heap.size ≤ w.heap.size + 1; omega) _, _, ?_, by rw [HMC.out]⟩
                    rw [HMO.out]; exact World.ownsRow_nil _ _ _ _
                  · rw [if_neg (fun h => h.elim hx0 hq0)] at HMO HMC
                    obtain ⟨n, rfl⟩ := Int.eq_ofNat_of_zero_le (show 0 ≤ q by omega)
                    rw [Int.toNat_natCast] at HMO HMC
                    have hnP : n + 1 ≤ P.length := by omega
                    have hTrl : (trimG (P.take (n + 1))).length ≤ 8500 := by
                      have h1 := trimG_len (P.take (n + 1))
                      rw [List.length_take] at h1; omega
                    have HSmT := Lib.hid (show SmallL (trimG (P.take (n + 1))) from trimG_small (okAll_take HOK.out (n + 1)))
                    obtain ⟨Q9, hQ9⟩ : ∃ Q9, P.take (n + 1) = Q9 := ⟨_, rfl⟩
                    have HQl := Lib.hid (show Q9.length ≤ 4194304 by rw [← hQ9, List.length_take]; omega)
                    have HQok := Lib.hid (show OkAll (P.take (n + 1)) from okAll_take HOK.out (n + 1))
                    rw [hQ9] at HMO HMC HSmT HQok
                    have HSlq := Lib.hid (fun v => (sl_take (OwnRules.sl (show OwnRules (wr.setCell ⟨M, 0, none⟩ v) (M + 2) (.slice A5 P.length c5) P from ownsRow_setCell_below HO5.out (a := ⟨M, 0, none⟩) (by show M < M + 2; omega) v)) (m := n + 1) hnP))
                    rw [hQ9] at HSlq
                    have hcP : (P.length : Int) ≤ c5 := by omega
                    have htn : ((n : Int) + 1).toNat = n + 1 := by omega
                    have j1 : 0 ≤ (n : Int) + 1 := by omega
                    have j2 : (n : Int) + 1 ≤ (c5 : Int) := by omega
                    have j3 : IntKind.i64.wrap ((n : Int) + 1) = (n : Int) + 1 := IntWalk.i64_in _ (by omega)
                    clear hQ9 hq0 hlq
                    go_wp2_with fail
                    go_region
                    all_goals
                      go_wp2_with fail
                      refine (l02Trim_any M 0 (.slice A5 (n + 1) c5) Q9 _ (by simp [go_sem, cb5]) (by simp [World.drew]; omega) (SlS.dr (HSlq.out _)) HQl.out HQok.out).mono ?_
                      rintro e w6 ⟨hb6, v6, own6, rfl⟩
                      have hKR6 : Blk w6 (w.heap.size + 1) #[.slice none 0 0] 30 := by
                        refine Blk.up ?_ hb6
                        exact HKR.out.other (p := ⟨M, 0, none⟩) (by show w.heap.size + 1 ≠ M; omega) _
                      have hB6 : Below w.heap.size w w6 := by
                        refine Below.trans ?_ (hb6.mono (by simp [World.drew]; omega))
                        first
                          | exact (Below.setCell HBw.out (show w.heap.size ≤ (⟨M, 0, none⟩ : Addr).block from (by show w.heap.size ≤ M; omega)) _).drew
                          | exact Below.setCell (HBw.out.drew) (show w.heap.size ≤ (⟨M, 0, none⟩ : Addr).block from (by show w.heap.size ≤ M; omega)) _
                      have HB6 := Lib.hid hB6
                      obtain ⟨A6, c6, rfl, _⟩ := own_nil own6
                      clear hB6 r1 r2 r3 cb5 fb5 cL
                      go_wp2_with fail
                      refine (l02Told_any _ _ _ _ own6 HSmT.out).mono ?_
                      rintro e w7 ⟨hb7, v7, own7, rfl⟩
                      have hKR7 := hKR6.up hb7
                      have HB7 := Lib.hid (HB6.out.trans (hb7.mono HB6.out.size))
                      have s1 := hKR7.cell (i := 0) (v := .slice none 0 0) rfl
                      have s2 := hKR7.frozen 0
                      have s3 := hKR7.lt
                      obtain ⟨A7', c7', rfl, _⟩ := own_nil own7
                      have HO7 := Lib.hid own7
                      clear hb6 hb7 own6 own7
                      go_wp2_with fail
                      refine bodyPost_ret (v := .tuple #[.agg #[.slice A7' (limOut (trimG Q9)).length c7'], .int .i64 (limCode (trimG Q9))]) (by simp [results, Tryz.results194, go_sem, s1]) rfl ⟨HB7.out.setCell (by show w.heap.size ≤ w.heap.size + 1; omega) _, _, ?_, by rw [HMC.out]⟩
                      rw [HMO.out]
                      exact ownsRow_more (ownsRow_setCell_below HO7.out (a := ⟨w.heap.size + 1, 0, none⟩) (by simp [World.drew]; omega) _) (by simp [World.drew]; omega)
theorem raiseR_letter (n : Nat) (r : GRule) : (raiseR n r).letter = r.letter := by unfold raiseR; split <;> rfl
theorem joinG_small {xs ys : List GRule} (h : SmallL xs) (h' : SmallL ys) : SmallL (joinG xs ys) := by
  unfold joinG
  split
  · exact h'
  split
  · exact h
  rename_i h0 h0'
  intro r hr
  rcases List.mem_append.1 hr with hr | hr
  · rcases List.mem_append.1 hr with hr | hr
    · exact h r hr
    · obtain ⟨a, ha, rfl⟩ := List.mem_map.1 hr
      rw [raiseR_letter]; exact h' a ha
  · rw [List.mem_singleton] at hr; subst hr; exact (by decide : (0 : Nat) ≤ 9223372036854775807)
set_option maxHeartbeats 1000000 in
theorem specJoin_any (v u : Value) (xs ys : List GRule) (w : World) (h : Sl RuleE w w.heap.size v xs) (h' : Sl RuleE w w.heap.size u ys) (hn : xs.length ≤ 1048576) (hn' : ys.length ≤ 1048576) (hs : SmallL xs) (hs' : SmallL ys) :
    Calls Tryz.prog 191 #[.agg #[v], .agg #[u]] w (GRes (joinOut xs ys) (joinCode xs ys) w) := by
  have h1 := fun o o' o'' => (h.below ((((Below.refl w.heap.size w).alloc (Nat.le_refl _) o).alloc (by simp) o').alloc (by first | omega | (simp; done) | (simp; omega)) o'')).le (B' := (((w.alloc o).alloc o').alloc o'').heap.size) (by simp; omega)
  have h2 := fun o o' o'' => (h'.below ((((Below.refl w.heap.size w).alloc (Nat.le_refl _) o).alloc (by simp) o').alloc (by first | omega | (simp; done) | (simp; omega)) o'')).le (B' := (((w.alloc o).alloc o').alloc o'').heap.size) (by simp; omega)
  have H1 := Lib.hid h1
  have H2 := Lib.hid h2
  have Hs := Lib.hid hs
  have Hs' := Lib.hid hs'
  clear h1 h2 hs hs'
  obtain ⟨A, c, rfl, hc, hm, hrow⟩ := h
  obtain ⟨A', c', rfl, hc', hm', hrow'⟩ := h'
  clear hm hm' hrow hrow'
  go_enter Tryz.func191, Tryz.ntmps191
  go_wp2_with fail
  refine (l02Ok_any _ _ _ _ _ (by simp [go_sem]) (by first | omega | (simp; done) | (simp; omega)) (H1.out _ _ _) Hs.out).mono ?_
  rintro e w1 ⟨rfl, hb1⟩
  obtain ⟨hc1, hf1⟩ := bcell hb1
  have hz1 : w.heap.size + 2 < w1.heap.size := by have := hb1.size; simp at this; omega
  have a1 : w1.cell? ⟨w.heap.size, 0, none⟩ = some (.slice A xs.length c) := by rw [hc1 _ _ (by first | omega | (simp; done) | (simp; omega))]; simp [go_sem]
  have b1 : w1.cell? ⟨w.heap.size + 1, 0, none⟩ = some (.slice A' ys.length c') := by rw [hc1 _ _ (by first | omega | (simp; done) | (simp; omega))]; simp [go_sem]
  have c1 : w1.cell? ⟨w.heap.size + 2, 0, none⟩ = some (.slice none 0 0) := by rw [hc1 _ _ (by first | omega | (simp; done) | (simp; omega))]; simp [go_sem]
  have f1 : w1.frozen? ⟨w.heap.size + 2, 0, none⟩ = false := by rw [hf1 _ _ (by first | omega | (simp; done) | (simp; omega))]; simp [go_sem]
  have S1 := Lib.hid ((H1.out (Obj.cells #[Value.slice A xs.length c] 30) (Obj.cells #[Value.slice A' ys.length c'] 30) (Obj.cells #[Value.slice none 0 0] 30)).up hb1)
  have T1 := Lib.hid ((H2.out (Obj.cells #[Value.slice A xs.length c] 30) (Obj.cells #[Value.slice A' ys.length c'] 30) (Obj.cells #[Value.slice none 0 0] 30)).up hb1)
  have B1 := Lib.hid ((((Below.refl w.heap.size w).alloc (Nat.le_refl _) (Obj.cells #[Value.slice A xs.length c] 30)).alloc (by simp) (Obj.cells #[Value.slice A' ys.length c'] 30)).alloc (by simp; omega) (Obj.cells #[Value.slice none 0 0] 30) |>.trans (hb1.mono (by simp; omega)))
  clear hc1 hf1 hb1
  by_cases hok : gramOk xs = true
  · have hok2 : (!gramOk xs) = false := by simp [hok]
    have Hok := Lib.hid hok
    clear hok
    go_wp2_with fail
    refine (l02Ok_any _ _ _ _ _ b1 (by omega) T1.out Hs'.out).mono ?_
    rintro e w2 ⟨rfl, hb2⟩
    have z2 : w1.heap.size ≤ w2.heap.size := hb2.size
    have hz2 : w.heap.size + 2 < w2.heap.size := by omega
    have a2 := cell_up a1 hb2 (by omega)
    have b2 := cell_up b1 hb2 (by omega)
    have c2 := cell_up c1 hb2 (by omega)
    have f2 : w2.frozen? ⟨w.heap.size + 2, 0, none⟩ = false := by rw [hb2.frozen hz1, f1]
    have S2 := Lib.hid (S1.out.up hb2)
    have T2 := Lib.hid (T1.out.up hb2)
    have B2 := Lib.hid (B1.out.trans (hb2.mono (by omega)))
    clear a1 b1 c1 f1 hb2
    by_cases hoky : gramOk ys = true
    · have hoky2 : (!gramOk ys) = false := by simp [hoky]
      have Hoky := Lib.hid hoky
      clear hoky
      go_wp2_with fail
      refine (l02Join_any _ _ _ _ _ _ _ _ _ a2 b2 (by omega) (by omega) S2.out T2.out hn hn' (gram_smallP Hoky.out)).mono ?_
      rintro e w3 ⟨hb3, v3, own3, rfl⟩
      have z3 : w2.heap.size ≤ w3.heap.size := hb3.size
      have hz3 : w.heap.size + 2 < w3.heap.size := by omega
      have c3 := cell_up c2 hb3 (by omega)
      have f3 : w3.frozen? ⟨w.heap.size + 2, 0, none⟩ = false := by rw [hb3.frozen hz2, f2]
      have B3 := Lib.hid (B2.out.trans (hb3.mono (by omega)))
      have O3 := Lib.hid own3
      clear a2 b2 c2 f2 hb3 own3
      go_wp2_with fail
      refine (l02Told_any _ _ _ _ O3.out (joinG_small Hs.out Hs'.out)).mono ?_
      rintro e w4 ⟨hb4, v4, own4, rfl⟩
      obtain ⟨A4, k4, rfl, _⟩ := own_nil own4
      have c4 := cell_up c3 hb4 (by omega)
      have f4 : w4.frozen? ⟨w.heap.size + 2, 0, none⟩ = false := by rw [hb4.frozen hz3, f3]
      have B4 := Lib.hid (B3.out.trans (hb4.mono (by omega)))
      have O4 := Lib.hid own4
      clear c3 f3 hb4 own4
      have e1 : joinOut xs ys = limOut (joinG xs ys) := by rw [joinOut, Hok.out, Hoky.out]; rfl
      have e2 : joinCode xs ys = limCode (joinG xs ys) := by rw [joinCode, Hok.out, Hoky.out]; rfl
      have E1 := Lib.hid e1
      have E2 := Lib.hid e2
      clear e1 e2
      go_wp2
      refine bodyPost_ret (v := .tuple #[.agg #[.slice A4 (limOut (joinG xs ys)).length k4], .int .i64 (limCode (joinG xs ys))]) (by simp [results, Tryz.results191, go_sem, c4]) rfl ⟨?_, _, ?_, by rw [E2.out]⟩
      · exact B4.out.setCell (by show w.heap.size ≤ w.heap.size + 2; omega) _
      · rw [E1.out]
        exact ownsRow_more (ownsRow_setCell_below O4.out (a := ⟨w.heap.size + 2, 0, none⟩) (by show w.heap.size + 2 < w2.heap.size; omega) _) (by omega)
    · have hoky2 : (!gramOk ys) = true := by simp [hoky]
      have Hoky := Lib.hid hoky
      clear hoky
      go_wp2
      refine bodyPost_ret (v := .tuple #[.agg #[.slice none 0 0], .int .i64 1]) (by simp [results, Tryz.results191, go_sem, c2]) rfl ⟨?_, _, ?_, by rw [joinCode, if_neg (by simp [Hoky.out])]⟩
      · exact B2.out.setCell (by show w.heap.size ≤ w.heap.size + 2; omega) _
      · rw [joinOut, if_neg (by simp [Hoky.out])]; exact World.ownsRow_nil _ _ _ _
  · have hok2 : (!gramOk xs) = true := by simp [hok]
    have Hok := Lib.hid hok
    clear hok
    go_wp2
    refine bodyPost_ret (v := .tuple #[.agg #[.slice none 0 0], .int .i64 1]) (by simp [results, Tryz.results191, go_sem, c1]) rfl ⟨?_, _, ?_, by rw [joinCode, if_neg (by simp [Hok.out])]⟩
    · exact B1.out.setCell (by show w.heap.size ≤ w.heap.size + 2; omega) _
    · rw [joinOut, if_neg (by simp [Hok.out])]; exact World.ownsRow_nil _ _ _ _
def Mk (w : World) (b P oP : Nat) (s : Option (List GRule)) : Prop :=
  ∃ vO out, Blk w b #[.pointer (some ⟨P, oP, none⟩), vO, .bool s.isNone] 177 ∧ OwnRules w (b + 1) vO out ∧ (∀ o, s = some o → o = out) ∧ gramOk out = true
theorem Mk.lt {w : World} {b P oP : Nat} {s : Option (List GRule)} (h : Mk w b P oP s) : b < w.heap.size := by
  obtain ⟨_, _, h, _⟩ := h; exact h.lt
theorem Mk.up {w w' : World} {b P oP : Nat} {s : Option (List GRule)} (h : Mk w b P oP s) (hb : Below w.heap.size w w') : Mk w' b P oP s := by
  obtain ⟨vO, out, h1, h2, h3, h4⟩ := h
  exact ⟨vO, out, h1.up hb, OwnRules.below h2 hb, h3, h4⟩
set_option maxRecDepth 100000 in
set_option maxHeartbeats 1000000 in
theorem mkAdd_any (b P oP : Nat) (s g : Option (List GRule)) (vN : Value) (ys : List GRule) (cN : Int) (w : World) (h : Mk w b P oP s) (hN : SlS RuleE w (fun k => k ≠ b ∧ k < w.heap.size) vN ys) (hg : CodeIs g ys cN) :
    Calls Tryz.prog 126 #[.pointer (some ⟨b, 0, none⟩), .agg #[vN], .int .i64 cN] w fun e w' => NoRes e ∧ But b w w' ∧ Mk w' b P oP (addO s g) := by
  obtain ⟨vO, out, hB, hO, hs, hok⟩ := h
  have hlt := hB.lt
  have HB0 := Lib.hid hB
  have HO := Lib.hid hO
  have HN := Lib.hid hN
  have HK := Lib.hid hok
  obtain ⟨AN, kN, rfl, _⟩ := hN
  obtain ⟨AO, kO, rfl, _⟩ := own_nil hO
  clear hO
  rcases hg with ⟨rfl, rfl, hgy⟩ | ⟨rfl, rfl⟩
  · cases s with
    | none =>
      rw [addO_none (.inl rfl)]
      have c2 := hB.cell (i := 2) (v := .bool true) rfl
      have f2 := hB.frozen 2
      clear hB
      go_enter Tryz.func126, Tryz.ntmps126
      go_wp2_with fail
      have hbb : ∀ o, But b w ((w.setCell ⟨b, 2, none⟩ (.bool true)).alloc o) := fun o => ((But.refl b w).setCell _).alloc _
      refine bodyPost_ret (v := .tuple #[]) (by simp [results, Tryz.results126, go_sem]) rfl ⟨rfl, hbb _, .slice AO out.length kO, out, ((HB0.out.set 2 _).alloc _), World.ownsRow.alloc (ownsRow_setCell_below HO.out (by show b < b + 1; omega) _) _, (fun _ h => nomatch h), HK.out⟩
    | some o =>
      have e := hs o rfl
      subst e
      have c1 := hB.cell (i := 1) (v := .slice AO o.length kO) rfl
      have c2 := hB.cell (i := 2) (v := .bool false) rfl
      have f2 := hB.frozen 2
      have HGY := Lib.hid hgy
      have KN := Lib.hid (Blk.new w #[Value.slice AN ys.length kN] 30)
      clear hB hgy
      go_enter Tryz.func126, Tryz.ntmps126
      go_wp2_with fail
      have hBW : Blk (w.alloc (Obj.cells #[Value.slice AN ys.length kN] 30)) b _ _ := HB0.out.alloc _
      have hNW : SlS RuleE (w.alloc (Obj.cells #[Value.slice AN ys.length kN] 30)) (fun k => k ≠ b ∧ k < w.heap.size) (.slice AN ys.length kN) ys := HN.out.keep fun k hk => Below.heap_alloc _ _ _ hk.2
      have hOW : OwnRules (w.alloc (Obj.cells #[Value.slice AN ys.length kN] 30)) (b + 1) (.slice AO o.length kO) o := World.ownsRow.alloc HO.out _
      have hbW : But b w (w.alloc (Obj.cells #[Value.slice AN ys.length kN] 30)) := (But.refl b w).alloc _
      have hzW : w.heap.size < (w.alloc (Obj.cells #[Value.slice AN ys.length kN] 30)).heap.size := by simp
      clear c1 c2 f2
      generalize (w.alloc (Obj.cells #[Value.slice AN ys.length kN] 30)) = W at *
      have c1 := hBW.cell (i := 1) (v := .slice AO o.length kO) rfl
      have c3 := KN.out.cell (i := 0) (v := .slice AN ys.length kN) rfl
      have lW := hBW.lt
      have HBW := Lib.hid hBW
      have HNW := Lib.hid (hNW.more (S' := (· < W.heap.size)) fun k hk => by have := hk.2; omega)
      have HOW := Lib.hid hOW
      have HbW := Lib.hid hbW
      have l1 : o.length ≤ 1048576 := by have := gram_len400 hok; omega
      have l2 : ys.length ≤ 1048576 := by have := gram_len400 HGY.out; omega
      have sm1 := Lib.hid (okAll_smallL (okAll_lens (gram_lens hok).2.choose_spec))
      have sm2 := Lib.hid (okAll_smallL (okAll_lens (gram_lens HGY.out).2.choose_spec))
      clear hBW hNW hOW hbW
      go_cut [6, 7] (fun s6 s7 wx => ∃ (Z : Nat) (A9 : Option Addr) (c9 : Nat), s6 = .pointer (some ⟨Z, 0, none⟩) ∧ s7 = .int .i64 (joinCode o ys) ∧ Z ≠ b ∧ Below W.heap.size W wx ∧ Blk wx Z #[.slice A9 (joinOut o ys).length c9] 30 ∧ OwnRules wx W.heap.size (.slice A9 (joinOut o ys).length c9) (joinOut o ys))
      case first =>
        go_region_law (go_simp; go_at_call 191; (refine (specJoin_any _ _ o ys _ (HOW.out.sl.up (by repeat (first | exact Below.refl _ _ | (refine Below.alloc ?_ (by first | omega | (simp; done) | (simp; omega)) _) | (refine Below.setCell ?_ (by first | exact Nat.le_refl _ | (show _ ≤ _; omega) | (simp; done) | (simp; omega)) _) | refine below_drewN ?_ _ | refine Below.drew ?_))) (HNW.out.up (by repeat (first | exact Below.refl _ _ | (refine Below.alloc ?_ (by first | omega | (simp; done) | (simp; omega)) _) | (refine Below.setCell ?_ (by first | exact Nat.le_refl _ | (show _ ≤ _; omega) | (simp; done) | (simp; omega)) _) | refine below_drewN ?_ _ | refine Below.drew ?_))) l1 l2 sm1.out sm2.out).mono ?_); rintro e w1 ⟨hb1, v1, own1, rfl⟩; obtain ⟨A9, c9, rfl, _⟩ := own_nil own1; (try (obtain ⟨hbz, KR⟩ := Below.unalloc (Below.undrew hb1); have cz := Blk.cell (i := 0) (v := .slice none 0 0) KR rfl; have fz := Blk.frozen KR 0; have lz := Blk.lt KR)))
        all_goals
          go_wp2_with fail
          go_meet
          have hz1 : W.heap.size ≤ w1.heap.size := by have := hb1.size; first | exact this | (simp [World.drew] at this; omega)
          first
            | exact ⟨w1.heap.size, A9, c9, rfl, rfl, by omega, (Below.undrew hb1).alloc hz1 _, Blk.new _ _ _, World.ownsRow.alloc own1 _⟩
            | exact ⟨W.heap.size, A9, c9, rfl, rfl, by omega, Below.setCell hbz (show W.heap.size ≤ (⟨W.heap.size, 0, none⟩ : Addr).block from Nat.le_refl _) _, Blk.set KR 0 _, ownsRow_more (ownsRow_setCell_below own1 (a := ⟨W.heap.size, 0, none⟩) (by simp [World.drew]) _) (by simp [World.drew])⟩
      case rest =>
        obtain ⟨Z, A9, c9, rfl, rfl, hne, hb, hZ, hown⟩ := hcut
        have hj : joinOut o ys = limOut (joinG o ys) ∧ joinCode o ys = limCode (joinG o ys) := by simp [joinOut, joinCode, HK.out, HGY.out]
        rw [hj.1] at hZ hown
        rw [hj.2]
        have hKB := HBW.out.up hb
        have HKB := Lib.hid hKB
        have HO9 := Lib.hid (ownsRow_more hown (base' := b + 1) (by omega))
        have HbC := Lib.hid (HbW.out.tr hb)
        have d1 := hKB.cell (i := 1) (v := .slice AO o.length kO) rfl
        have d2 := hKB.cell (i := 2) (v := .bool false) rfl
        have f1 := hKB.frozen 1
        have f2 := hKB.frozen 2
        have lb := hKB.lt
        have dz := hZ.cell (i := 0) (v := .slice A9 (limOut (joinG o ys)).length c9) rfl
        have lz := hZ.lt
        have hne' : b ≠ Z := fun h => hne h.symm
        have HLok := Lib.hid (limOut_ok (joinG o ys))
        clear hKB hb hZ hown hj c1 c3
        cases hg : gramOk (joinG o ys) with
        | true =>
          have q1 : limCode (joinG o ys) = 0 := by unfold limCode; rw [hg]; rfl
          have q2 : addO (some o) (some ys) = some (limOut (joinG o ys)) := by rw [addO_lim]; unfold limO limOut; rw [hg]; rfl
          have Q2 := Lib.hid q2
          rw [q1]
          clear q1 q2 hg
          go_wp2_with fail
          go_end0
          rw [Q2.out]
          exact ⟨rfl, (HbC.out.setCell _).setCell _, .slice A9 (limOut (joinG o ys)).length c9, limOut (joinG o ys), ((HKB.out.set 1 _).set 2 _), ownsRow_setCell_below (ownsRow_setCell_below HO9.out (by show b < b + 1; omega) _) (by show b < b + 1; omega) _, (fun _ h => (Option.some.inj h).symm), HLok.out⟩
        | false =>
          have q1 : limCode (joinG o ys) = 3 := by unfold limCode; rw [hg]; rfl
          have q2 : addO (some o) (some ys) = none := by rw [addO_lim]; unfold limO; rw [hg]; rfl
          have Q2 := Lib.hid q2
          rw [q1]
          clear q1 q2 hg
          go_wp2_with fail
          go_end0
          rw [Q2.out]
          exact ⟨rfl, (HbC.out.setCell _).setCell _, .slice A9 (limOut (joinG o ys)).length c9, limOut (joinG o ys), ((HKB.out.set 1 _).set 2 _), ownsRow_setCell_below (ownsRow_setCell_below HO9.out (by show b < b + 1; omega) _) (by show b < b + 1; omega) _, (fun _ h => nomatch h), HLok.out⟩
  · rw [addO_none (.inr rfl)]
    have c2 := hB.cell (i := 2) (v := .bool s.isNone) rfl
    have f2 := hB.frozen 2
    clear hB
    go_enter Tryz.func126, Tryz.ntmps126
    go_wp2_with fail
    have hbb : ∀ o, But b w ((w.setCell ⟨b, 2, none⟩ (.bool true)).alloc o) := fun o => ((But.refl b w).setCell _).alloc _
    refine bodyPost_ret (v := .tuple #[]) (by simp [results, Tryz.results126, go_sem]) rfl ⟨rfl, hbb _, .slice AO out.length kO, out, ((HB0.out.set 2 _).alloc _), World.ownsRow.alloc (ownsRow_setCell_below HO.out (by show b < b + 1; omega) _) _, (fun _ h => nomatch h), HK.out⟩
set_option maxRecDepth 100000 in
set_option maxHeartbeats 1000000 in
theorem mkPart_any (b P oP : Nat) (vG : Value) (xs : List GRule) (ls : List Int) (s : Option (List GRule)) (i j : Int) (w : World) (h : Mk w b P oP s) (hP : w.cell? ⟨P, oP, none⟩ = some vG) (hPl : P < w.heap.size) (hG : Sl RuleE w b vG xs) (hg : gramOk xs = true) (hl : lens xs = some ls) (hi : 0 ≤ i ∧ i ≤ j ∧ j ≤ lastI ls) :
    Calls Tryz.prog 125 #[.pointer (some ⟨b, 0, none⟩), .int .i64 i, .int .i64 j] w fun e w' => NoRes e ∧ But b w w' ∧ Mk w' b P oP (addO s (limO (partG xs ls i j))) := by
  have hlt := h.lt
  have HM := Lib.hid h
  have HG := Lib.hid (hG.le (Nat.le_of_lt hlt))
  have sm := okAll_smallL (okAll_lens (gram_lens hg).2.choose_spec)
  have hn : xs.length ≤ 1048576 := by have := gram_len400 hg; omega
  have HY := Lib.hid (partOut_yes hg hl hi)
  obtain ⟨AG, cG, rfl, _⟩ := hG
  obtain ⟨vO, out, hB, _⟩ := h
  have c0 := hB.cell (i := 0) (v := .pointer (some ⟨P, oP, none⟩)) rfl
  have cP := hP
  have lP := hPl
  clear hB hP hl hi
  go_enter Tryz.func125, Tryz.ntmps125
  go_wp2_with fail
  refine (specPart_any _ xs i j _ (HG.out.up (by repeat (first | exact Below.refl _ _ | (refine Below.alloc ?_ (by first | omega | (simp; done) | (simp; omega)) _) | (refine Below.setCell ?_ (by first | exact Nat.le_refl _ | (show _ ≤ _; omega) | (simp; done) | (simp; omega)) _) | refine below_drewN ?_ _ | refine Below.drew ?_))) hn sm).mono ?_
  rintro e w1 ⟨hb1, v1, own1, rfl⟩
  rw [HY.out.1] at own1
  rw [HY.out.2]
  have HB1 := Lib.hid hb1
  have HO1 := Lib.hid own1
  obtain ⟨A1, k1, rfl, _⟩ := own_nil own1
  clear hb1 own1
  go_wp2_with fail
  refine (mkAdd_any b P oP s _ _ _ _ _ (HM.out.up HB1.out) (own_slS HO1.out hlt) (codeIs_lim (partG xs ls i j))).mono ?_
  rintro e w2 ⟨rfl, hb2, ha2⟩
  go_wp2
  go_end0
  exact ⟨rfl, (But.of HB1.out).trans hb2, ha2⟩
structure EC (w : World) (E o : Nat) (e : GEdit) (vR : Value) : Prop where
  c0 : w.cell? ⟨E, o, none⟩ = some (.int .i64 e.kind)
  c1 : w.cell? ⟨E, o + 1, none⟩ = some (.int .i64 e.i)
  c2 : w.cell? ⟨E, o + 2, none⟩ = some (.int .i64 e.j)
  c3 : w.cell? ⟨E, o + 3, none⟩ = some (.int .i64 e.k)
  c4 : w.cell? ⟨E, o + 4, none⟩ = some vR
  c5 : w.cell? ⟨E, o + 5, none⟩ = some (.string e.map)
  lt : E < w.heap.size
section
variable {w w' : World} {E o b : Nat} {e : GEdit} {vR : Value}
theorem EC.same (h : EC w E o e vR) (hs : w'.heap[E]? = w.heap[E]?) : EC w' E o e vR := by
  have k : ∀ {j : Nat} {v : Value}, w.cell? ⟨E, j, none⟩ = some v → w'.cell? ⟨E, j, none⟩ = some v := fun {j v} hc => (World.cell?_of_block (a := ⟨E, j, none⟩) hs).trans hc
  refine ⟨k h.c0, k h.c1, k h.c2, k h.c3, k h.c4, k h.c5, ?_⟩
  have h1 : w.heap[E]? = some (w.heap[E]'h.lt) := Array.getElem?_eq_getElem h.lt
  exact (Array.getElem?_eq_some_iff.1 (hs.trans h1)).1
theorem EC.up (h : EC w E o e vR) (hb : Below w.heap.size w w') : EC w' E o e vR := h.same (hb.block E h.lt)
theorem EC.but (h : EC w E o e vR) (hb : But b w w') (hne : E ≠ b) : EC w' E o e vR := h.same (hb.block E h.lt hne)
theorem EC.of (h : Blk w E (editCells e vR) 46) : EC w E 0 e vR :=
  ⟨h.cell rfl, h.cell rfl, h.cell rfl, h.cell rfl, h.cell rfl, h.cell rfl, h.lt⟩
end
structure C1 (w : World) (p : Addr) (v : Value) : Prop where
  c : w.cell? p = some v
  lt : p.block < w.heap.size
theorem C1.same {w w' : World} {p : Addr} {v : Value} (h : C1 w p v) (hs : w'.heap[p.block]? = w.heap[p.block]?) : C1 w' p v := by
  refine ⟨(World.cell?_of_block hs).trans h.c, ?_⟩
  have h1 : w.heap[p.block]? = some (w.heap[p.block]'h.lt) := Array.getElem?_eq_getElem h.lt
  exact (Array.getElem?_eq_some_iff.1 (hs.trans h1)).1
theorem C1.up {w w' : World} {p : Addr} {v : Value} (h : C1 w p v) (hb : Below w.heap.size w w') : C1 w' p v := h.same (hb.block _ h.lt)
theorem C1.but {w w' : World} {b : Nat} {p : Addr} {v : Value} (h : C1 w p v) (hb : But b w w') (hne : p.block ≠ b) : C1 w' p v := h.same (hb.block _ h.lt hne)
theorem keep4 {wr W : World} {p q r s : Addr} {v1 v2 v3 v4 : Value} (k1 : C1 wr p v1) (k2 : C1 wr q v2) (k3 : C1 wr r v3) (k4 : C1 wr s v4) (h : Below wr.heap.size wr W) :
    Below wr.heap.size wr W ∧ W.cell? p = some v1 ∧ W.cell? q = some v2 ∧ W.cell? r = some v3 ∧ W.cell? s = some v4 := ⟨h, (k1.up h).c, (k2.up h).c, (k3.up h).c, (k4.up h).c⟩
end Go.Proofs.YtbifijlenbibmaaGreatDoor
