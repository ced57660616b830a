import Derived.Test.YtbifijlenbibmaaGreatDoorM13
import Derived.Test.YtbifijlenbibmaaGreatDoorM15
import Derived.Test.YtbifijlenbibmaaGreatDoorM1
import Derived.Test.YtbifijlenbibmaaGreatDoorM2
import Derived.Test.YtbifijlenbibmaaGreatDoorM8
import Derived.Test.YtbifijlenbibmaaGreatDoorM9
import Derived.Test.YtbifijlenbibmaaGreatDoorRows
import Derived.WalkKit
import Derived.ProofKit
import Derived.Below
import Derived.ChangeSame
import Derived.Lib.SmallJoins
import Derived.Carry
import Derived.WideKeyArgs
import Derived.OpenShut
import Derived.Deep.Slices
import Derived.Deep.Fields
import Derived.SevenTiedAt
namespace Go.Proofs.YtbifijlenbibmaaGreatDoor
open Go.RowKit

theorem rd_okE2 {t : ByteArray} (h : rdCode t = 0) : editOk (rdOut t) = true := by
  cases hq : rdSpec t with
  | none => rw [(rd_none hq).2] at h; cases h
  | some e =>
    rw [(rd_some hq).1]
    unfold rdSpec rdK at hq
    split at hq
    · cases hq
    · split at hq
      · cases hq
      · split at hq
        · cases hq
        · split at hq
          · rename_i hok
            cases hq
            exact hok
          · cases hq
/-- In the middle of an answer of the model: nothing old has changed. -/
structure SpSt (T : TypeId) (w wx : World) (lo P g c k : Nat) (s : ScS) (A : Option Addr) (cx : Nat) (x : List GRule) : Prop where
  bel : Below w.heap.size w wx
  kP : Blk wx P #[.slice (some ⟨g, 0, none⟩) s.gs.length c, .int .i64 s.n] T
  og : OGp wx lo (.slice (some ⟨g, 0, none⟩) s.gs.length c) s.gs
  ct : C1 wx ⟨g, k, none⟩ (.slice A x.length cx)
  gx : Sl RuleE wx wx.heap.size (.slice A x.length cx) x
  wl : lo ≤ w.heap.size
theorem SpSt.up {T : TypeId} {w wx w' : World} {lo P g c k : Nat} {s : ScS} {A : Option Addr} {cx : Nat} {x : List GRule} (h : SpSt T w wx lo P g c k s A cx x) (hb : Below wx.heap.size wx w') : SpSt T w w' lo P g c k s A cx x :=
  ⟨Below.tr h.bel hb, h.kP.up hb, h.og.up hb (Nat.le_trans h.wl h.bel.size), h.ct.up hb, h.gx.up hb, h.wl⟩
theorem SpSt.same {T : TypeId} {w wx : World} {lo P g c k : Nat} {s : ScS} {A : Option Addr} {cx : Nat} {x : List GRule} (h : SpSt T w wx lo P g c k s A cx x) (hT : T ≠ 30) (hlo : lo ≤ P) {b : ByteArray} {r : ByteArray × ScS} (hr : r = (b, s)) :
    AnsPost T lo P r w (.returned (.string b)) wx := by
  subst hr
  exact ⟨rfl, Ses.of hT h.kP hlo h.og, h.bel.mono h.wl, TK.of_below h.bel, h.bel.size⟩
/-- A session, opened. -/
theorem ses_open {T : TypeId} {w : World} {lo P : Nat} {s : ScS} (hS : Ses T w lo P s) (hok : ScOk s) :
    ∃ g c k A cx x, SpSt T w w lo P g c k s A cx x ∧ rsTop s.gs = x ∧ gramOk x = true ∧ s.gs.length = k + 1 ∧ k ≤ 60 ∧ lo ≤ P ∧ g < w.heap.size ∧ s.gs.length ≤ c ∧ lo ≤ g := by
  obtain ⟨g, c, KP, hP, hg1, hg2, hgP, hc, hgc, HO⟩ := hS
  have h1 := hok.len
  have h2 := hok.most
  have h3 := hok.pos
  obtain ⟨k, hk⟩ : ∃ k, s.gs.length = k + 1 := ⟨s.gs.length - 1, by omega⟩
  have hxi : s.gs[k]? = some (rsTop s.gs) := by
    unfold rsTop
    rw [List.getD_eq_getElem?_getD, hk, Nat.add_sub_cancel, List.getElem?_eq_getElem (by omega)]; rfl
  obtain ⟨g', c', u, hv', _, _, _, _, hcu, hgu⟩ := HO.at_ hxi
  injection hv' with hv1 hv2 hv3
  injection hv1 with hv1
  injection hv1 with hv1
  subst hv1 hv3
  obtain ⟨_, A, cx, rfl⟩ := hgu.one
  exact ⟨g, c, k, A, cx, _, ⟨Below.refl _ _, KP, HO, ⟨hcu, hg2⟩, hgu.sl (by omega), by omega⟩, rfl, hok.top, hk, by omega, hP, hg2, hgc, hg1⟩
set_option maxRecDepth 100000 in
theorem now_any (P g c k L : Nat) (n : Int) (w : World) (hP : Blk w P #[.slice (some ⟨g, 0, none⟩) L c, .int .i64 n] 82) (hL : L = k + 1) (hk : k ≤ 1048576) :
    Calls Tryz.prog 114 #[.pointer (some ⟨P, 0, none⟩)] w fun e w' => e = .returned (.pointer (some ⟨g, k, none⟩)) ∧ Below w.heap.size w w' := by
  have hw : IntKind.i64.wrap ((L : Int) - 1) = (k : Int) := by rw [IntWalk.i64_in _ (by omega)]; omega
  have hi : (k : Int) < (L : Int) := by omega
  have cp := Blk.cell (i := 0) (v := .slice (some ⟨g, 0, none⟩) L c) hP rfl
  have lp := Blk.lt hP
  clear hL hP
  go_enter Tryz.func114, Tryz.ntmps114
  go_wp2_with fail
  go_quiet (fail)
  go_wp2_with fail
  exact bodyPost_ret (v := .pointer (some ⟨g, k, none⟩)) (by simp [results, Tryz.results114, go_sem]) rfl ⟨rfl, (by repeat (first | exact Below.refl _ _ | (refine Below.alloc ?_ (by first | omega | (simp; done) | (simp; omega)) _) | (refine Below.setCell ?_ (by first | exact Nat.le_refl _ | (show _ ≤ _; omega) | (simp; done) | (simp; omega)) _) | refine below_drewN ?_ _ | refine Below.drew ?_))⟩
theorem errB_at (c : Int) (l : List UInt8) (h : (errB c).data.toList = l) : (⟨l.toArray⟩ : ByteArray) = errB c := by
  apply ByteArray.ext
  rw [← h]
set_option maxRecDepth 100000 in
set_option maxHeartbeats 8000000 in
theorem specEdit_any (lo P E : Nat) (s : ScS) (e : GEdit) (vR : Value) (w : World) (hS : Ses 82 w lo P s) (hok : ScOk s) (hE : EC w E 0 e vR) (hR : Sl RuleE w w.heap.size vR e.part) (hk : editOk e = true) :
    Calls Tryz.prog 47 #[.pointer (some ⟨P, 0, none⟩), .pointer (some ⟨E, 0, none⟩)] w (AnsPost 82 lo P (scEdit s e) w) := by
  have hn60 := hok.most
  obtain ⟨g, c, k, A, cx, x, J, hx, hxo, hL1, hk60, hP, hg2, hgc, hg1⟩ := ses_open hS hok
  have hwl := J.wl
  have HJ := Lib.hid J
  have HX := Lib.hid hx
  have HXO := Lib.hid hxo
  have HEO := Lib.hid hk
  have HE := Lib.hid hE
  have HR := Lib.hid hR
  have HL := Lib.hid hL1
  have hlen : s.gs.length ≤ 61 := by omega
  clear J hx hxo hk hE hR hS hok hL1
  have cp1 := Blk.cell (i := 1) (v := .int .i64 s.n) HJ.out.kP rfl
  have lp := Blk.lt HJ.out.kP
  by_cases hn : s.n = 60
  · have hnI : (s.n : Int) = 60 := by omega
    have HR := Lib.hid (show scEdit s e = (errB 3, s) by unfold scEdit; rw [if_pos hn])
    clear hn
    go_enter Tryz.func47, Tryz.ntmps47
    go_wp2_with fail
    refine bodyPost_ret (v := .string (errB 3)) (by simp [results, Tryz.results47, go_sem]; exact errB_at 3 [101, 114, 114, 111, 114, 32, 108, 105, 109, 105, 116] (by decide)) rfl (HJ.out.same (by decide) hP ?_)
    rw [HR.out]
  · have hnI : ¬ (s.n : Int) = 60 := by omega
    have HN := Lib.hid hn
    have hw1 : IntKind.i64.wrap ((s.n : Int) + 1) = (s.n : Int) + 1 := IntWalk.i64_in _ (by omega)
    have HW1 := Lib.hid hw1
    clear hn hw1
    go_enter Tryz.func47, Tryz.ntmps47
    go_wp2_with fail
    refine (now_any P g c k s.gs.length s.n _ HJ.out.kP HL.out (by omega)).mono ?_
    rintro r w1 ⟨rfl, hb1⟩
    have J1 := Lib.hid (HJ.out.up hb1)
    have HE1 := Lib.hid (HE.out.up hb1)
    have HR1 := Lib.hid (HR.out.up hb1)
    clear hb1 HE HR HJ cp1 lp
    go_wp2_with fail
    refine (l07Apply_any g k E 0 _ _ x e _ J1.out.ct HE1.out J1.out.gx HR1.out HXO.out HEO.out).mono ?_
    rintro r w5 ⟨hb5, v5, own5, rfl⟩
    have J5 := Lib.hid (J1.out.up hb5)
    have hw4 : lo ≤ w1.heap.size := Nat.le_trans hwl J1.out.bel.size
    clear hb5 J1 HE1 HR1
    obtain ⟨A5, c5, rfl, _⟩ := own_nil own5
    go_upto_region 4 with fail
    have bN := (Below.refl w5.heap.size w5).alloc (Nat.le_refl _) (Obj.cells #[.slice A5 (applyOut x e).length c5] 30)
    have J6 := Lib.hid (J5.out.up bN)
    have KN := Lib.hid (Blk.new w5 #[.slice A5 (applyOut x e).length c5] 30)
    have ON := Lib.hid (OwnRules.below (ownsRow_more own5 (base' := lo) hw4) bN)
    clear bN J5 own5
    revert J6 KN ON
    generalize (w5.alloc (Obj.cells #[.slice A5 (applyOut x e).length c5] 30)) = w6
    generalize w5.heap.size = NB
    intro J6 KN ON
    by_cases hac : applyCode x e = 0
    · have HR := Lib.hid (show scEdit s e = (okB, ⟨s.gs ++ [applyOut x e], s.n + 1⟩) by unfold scEdit; rw [if_neg HN.out, HX.out, if_pos hac])
      rw [hac]
      clear hac hw4 HN
      have hl6 : lo ≤ w6.heap.size := Nat.le_trans hwl J6.out.bel.size
      have cp0 := Blk.cell (i := 0) (v := .slice (some ⟨g, 0, none⟩) s.gs.length c) J6.out.kP rfl
      have zp0 := Blk.frozen J6.out.kP 0
      have lp := Blk.lt J6.out.kP
      have cn0 := Blk.cell (i := 0) (v := .slice A5 (applyOut x e).length c5) KN.out rfl
      have ln := Blk.lt KN.out
      go_upto_region 6 with fail
      go_cut [] (fun wx => ∃ g7 c7 : Nat, Blk wx P #[.slice (some ⟨g7, 0, none⟩) (s.gs.length + 1) c7, .int .i64 s.n] 82 ∧ OGp wx lo (.slice (some ⟨g7, 0, none⟩) (s.gs.length + 1) c7) (s.gs ++ [applyOut x e]) ∧ Below lo w6 wx ∧ TK (SK 82) w6 wx ∧ w6.heap.size ≤ wx.heap.size)
      case first =>
        go_region_law (first
          | (refine step_push_gp (by rfl) _ _ (by rfl) (u := .slice A5 (applyOut x e).length c5) (y := applyOut x e) (lo := lo) (g := g) (c := c) (gs := s.gs) (by rfl) (by first | rfl | simp) (by simp [go_sem]) (J6.out.og.up (by repeat (first | exact Below.refl _ _ | (refine Below.alloc ?_ (by first | omega | (simp; done) | (simp; omega)) _) | (refine Below.setCell ?_ (by first | exact Nat.le_refl _ | (show _ ≤ _; omega) | (simp; done) | (simp; omega)) _) | refine below_drewN ?_ _ | refine Below.drew ?_)) hl6) (by omega) (by simp; omega) (.inr (OwnRules.below ON.out (by repeat (first | exact Below.refl _ _ | (refine Below.alloc ?_ (by first | omega | (simp; done) | (simp; omega)) _) | (refine Below.setCell ?_ (by first | exact Nat.le_refl _ | (show _ ≤ _; omega) | (simp; done) | (simp; omega)) _) | refine below_drewN ?_ _ | refine Below.drew ?_)))) ?_; intro g7 c7 w7 og7 hb7 hk7 hz7; have kP7 : Blk w7 P #[.slice (some ⟨g, 0, none⟩) s.gs.length c, .int .i64 s.n] 82 := TK.blk (J6.out.kP.up (by repeat (first | exact Below.refl _ _ | (refine Below.alloc ?_ (by first | omega | (simp; done) | (simp; omega)) _) | (refine Below.setCell ?_ (by first | exact Nat.le_refl _ | (show _ ≤ _; omega) | (simp; done) | (simp; omega)) _) | refine below_drewN ?_ _ | refine Below.drew ?_))) hk7 (by decide); have cp7 := Blk.cell (i := 0) (v := .slice (some ⟨g, 0, none⟩) s.gs.length c) kP7 rfl; have zp7 := Blk.frozen kP7 0; have lp7 := Blk.lt kP7))
        all_goals
          go_wp2_with fail
          go_meet
          have hz6 := Nat.le_trans (show w6.heap.size ≤ _ from (show Below w6.heap.size w6 _ from (by repeat (first | exact Below.refl _ _ | (refine Below.alloc ?_ (by first | omega | (simp; done) | (simp; omega)) _) | (refine Below.setCell ?_ (by first | exact Nat.le_refl _ | (show _ ≤ _; omega) | (simp; done) | (simp; omega)) _) | refine below_drewN ?_ _ | refine Below.drew ?_))).size) hz7
          refine ⟨g7, c7, kP7.set 0 _, og7.setP kP7 hP (by decide) (by decide), ?_, ?_, ?_⟩
          · exact ((show Below w6.heap.size w6 _ from (by repeat (first | exact Below.refl _ _ | (refine Below.alloc ?_ (by first | omega | (simp; done) | (simp; omega)) _) | (refine Below.setCell ?_ (by first | exact Nat.le_refl _ | (show _ ≤ _; omega) | (simp; done) | (simp; omega)) _) | refine below_drewN ?_ _ | refine Below.drew ?_))).mono hl6).trans (hb7.setCell (p := ⟨P, 0, none⟩) hP _)
          · exact TK.tr (TK.of_below (show Below w6.heap.size w6 _ from (by repeat (first | exact Below.refl _ _ | (refine Below.alloc ?_ (by first | omega | (simp; done) | (simp; omega)) _) | (refine Below.setCell ?_ (by first | exact Nat.le_refl _ | (show _ ≤ _; omega) | (simp; done) | (simp; omega)) _) | refine below_drewN ?_ _ | refine Below.drew ?_)))) (TK.tr (hk7.sub (fun _ h => h.1)) (TK.setCell kP7 (fun _ h => h.2)))
          · simpa using hz6
      case rest =>
        obtain ⟨g7, c7, k7, o7, b7, t7, z7⟩ := hcut
        have K7 := Lib.hid k7
        have O7 := Lib.hid o7
        have B7 := Lib.hid ((J6.out.bel.mono hwl).trans b7)
        have T7 := Lib.hid (TK.tr (TK.of_below (ts := SK 82) J6.out.bel) t7)
        have Z7 : w.heap.size ≤ wc.heap.size := Nat.le_trans J6.out.bel.size z7
        have hw1 := HW1.out
        clear k7 o7 b7 t7 z7 cp0 zp0 lp cn0 ln J6 KN ON
        revert K7 O7 B7 T7 Z7
        generalize wc = w7
        intro K7 O7 B7 T7 Z7
        have cp1 := Blk.cell (i := 1) (v := .int .i64 s.n) K7.out rfl
        have zp1 := Blk.frozen K7.out 1
        have lp := Blk.lt K7.out
        go_wp2_with fail
        refine bodyPost_ret (v := .string okB) (by simp [results, Tryz.results47, go_sem, okB]) rfl ?_
        rw [HR.out]
        have k8 := K7.out.set 1 (.int .i64 ((s.n : Int) + 1))
        have o8 := O7.out.setP (i := 1) (u := .int .i64 ((s.n : Int) + 1)) K7.out hP (by decide) (by decide)
        refine ⟨rfl, Ses.of (g := g7) (c := c7) (by decide) ?_ hP ?_, ?_, ?_, ?_⟩
        · simpa using k8
        · simpa using o8
        · exact B7.out.trans ((Below.refl lo w7).setCell (p := ⟨P, 1, none⟩) hP _)
        · exact TK.tr T7.out (TK.setCell K7.out (fun _ h => h.2))
        · simpa using Z7
    · have HR := Lib.hid (show scEdit s e = (errB (applyCode x e), s) by unfold scEdit; rw [if_neg HN.out, HX.out, if_neg hac])
      have hacb : (applyCode x e != 0) = true := by simp [hac]
      have hsz := codeNm_size (applyCode x e)
      clear hac
      go_wp2_with fail
      refine (specCodeName_any (applyCode x e) _).mono ?_
      rintro r w8 ⟨rfl, hb8⟩
      have HJ8 := Lib.hid (J6.out.up hb8)
      go_wp2_with fail
      refine bodyPost_ret (v := .string (errB (applyCode x e))) (by simp [results, Tryz.results47, go_sem, errB, errP]) rfl (HJ8.out.same (by decide) hP ?_)
      rw [HR.out]
end Go.Proofs.YtbifijlenbibmaaGreatDoor

namespace Go.Proofs.YtbifijlenbibmaaGreatDoor
open Go.RowKit

theorem str_is2 (t b : ByteArray) (l : List UInt8) (h : b.data.toList = l) : (t.toList == l) = true ↔ t = b := by
  rw [beq_iff_eq, ByteArray.toList_eq]
  constructor
  · intro e; apply ByteArray.ext; apply Array.toList_inj.1; rw [e, h]
  · rintro rfl; exact h
theorem place_undo : scPlace undoB = none := by simp [scPlace, undoB]
theorem place_length : scPlace lengthB = none := by simp [scPlace, lengthB]
theorem place_word : scPlace wordB = none := by simp [scPlace, wordB]
theorem rest_what {s : ScS} {t : ByteArray} (h : scPlace t = none) (h1 : t ≠ undoB) (h2 : t ≠ lengthB) (h3 : t ≠ wordB) : scRest s t = (whatB, s) := by unfold scRest; rw [h, if_neg h1, if_neg h2, if_neg h3]
theorem rest_place {s : ScS} {t : ByteArray} {i : Int} (h : scPlace t = some i) : scRest s t = (scLet (rsTop s.gs) i, s) := by unfold scRest; rw [h]
theorem two_of {α : Type} {l : List α} (h : l.length = 2) : ∃ a b, l = [a, b] := by
  match l, h with
  | [a, b], _ => exact ⟨a, b, rfl⟩
theorem place_one {t : ByteArray} (h : (splB 32 t).length ≠ 2) : scPlace t = none := by
  cases hq : scPlace t with
  | none => rfl
  | some i =>
    obtain ⟨x, hx, _⟩ := place_some hq
    rw [hx] at h; exact absurd rfl h
theorem place_other {t X Y : ByteArray} (h : splB 32 t = [X, Y]) (hX : X ≠ atB) : scPlace t = none := by
  cases hq : scPlace t with
  | none => rfl
  | some i =>
    obtain ⟨x, hx, _⟩ := place_some hq
    rw [hx] at h; cases h; exact absurd rfl hX
set_option maxRecDepth 100000 in
set_option maxHeartbeats 8000000 in
theorem specAnswer_any (lo P : Nat) (s : ScS) (t : ByteArray) (w : World) (hS : Ses 82 w lo P s) (hok : ScOk s) (ht : t.size ≤ 1048576) :
    Calls Tryz.prog 48 #[.pointer (some ⟨P, 0, none⟩), .string t] w (AnsPost 82 lo P (scRest s t) w) := by
  obtain ⟨g, c, k, A, cx, x, J, hx, hxo, hL1, hk60, hP, hg2, hgc, hg1⟩ := ses_open hS hok
  have hwl := J.wl
  obtain ⟨hn4, ls, hl⟩ := gram_lens hxo
  have hV : lenV x = lastI ls := by simp [lenV, hxo, gramLen_of hl]
  have hlb := lastI_bounds hl
  have hwl2 := wordG_len hl
  have sm := Lib.hid (okAll_smallL (okAll_lens (gram_lens hxo).2.choose_spec))
  have HJ := Lib.hid J
  have HX := Lib.hid hx
  have HXO := Lib.hid hxo
  have HL := Lib.hid hL1
  have HV := Lib.hid hV
  have Hl := Lib.hid hl
  have HW := Lib.hid hwl2
  clear J hx hxo hS hok hL1 hV hl hwl2
  go_enter Tryz.func48, Tryz.ntmps48
  go_wp2_with fail
  refine (now_any P g c k s.gs.length s.n _ HJ.out.kP HL.out (by omega)).mono ?_
  rintro r w1 ⟨rfl, hb1⟩
  have J1 := Lib.hid (HJ.out.up hb1)
  clear hb1 HJ
  go_wp2_with fail
  refine (l02Length_any g k _ x ls _ Hl.out J1.out.ct.c J1.out.ct.lt J1.out.gx sm.out (by omega)).mono ?_
  rintro r w2 ⟨rfl, hb2⟩
  have J2 := Lib.hid (J1.out.up hb2)
  clear hb2 J1
  go_wp2_with fail
  refine (l01Split32 t _ ht).mono ?_
  rintro r w3 ⟨hb3, vW, ownW, rfl⟩
  have J3 := Lib.hid (J2.out.up hb3)
  clear hb3 J2
  obtain ⟨n, hn⟩ : ∃ n, lastI ls = n := ⟨_, rfl⟩
  have HNN := Lib.hid hn
  rw [hn] at HV hlb HW ⊢
  clear hn
  cases h1 : (t.toList == ([117, 110, 100, 111] : List UInt8)) with
  | true =>
    have ht1 : t = undoB := (str_is2 t undoB [117, 110, 100, 111] rfl).1 h1
    have HR1 := Lib.hid (show scRest s t = (if s.gs.length = 1 then (errB 4, s) else (okB, ⟨s.gs.dropLast, s.n⟩)) by subst ht1; unfold scRest; rw [place_undo, if_pos rfl])
    clear ht1
    obtain ⟨AW, cW, rfl, _⟩ := own_nil ownW
    by_cases hl1 : s.gs.length = 1
    · have hl1I : (s.gs.length : Int) = 1 := by omega
      have HR := Lib.hid (show scRest s t = (errB 4, s) by rw [HR1.out, if_pos hl1])
      clear HR1 hl1
      have cp0 := Blk.cell (i := 0) (v := .slice (some ⟨g, 0, none⟩) s.gs.length c) J3.out.kP rfl
      have lp := Blk.lt J3.out.kP
      go_wp2_with fail
      refine bodyPost_ret (v := .string (errB 4)) (by simp [results, Tryz.results48, go_sem]; exact errB_at 4 [101, 114, 114, 111, 114, 32, 115, 116, 97, 116, 101] (by decide)) rfl (J3.out.same (by decide) hP ?_)
      rw [HR.out]
    · have HR := Lib.hid (show scRest s t = (okB, ⟨s.gs.dropLast, s.n⟩) by rw [HR1.out, if_neg hl1])
      have kP5 := J3.out.kP
      have hL1 := HL.out
      have og5 := OGp.pop J3.out.og (by omega)
      have hdl : s.gs.dropLast.length = k := by simp; omega
      obtain ⟨L, hL⟩ : ∃ L, s.gs.length = L := ⟨_, rfl⟩
      rw [hL1, Nat.add_sub_cancel] at og5
      rw [hL] at kP5 hl1 hgc hL1
      have hw : IntKind.i64.wrap ((L : Int) - 1) = (k : Int) := by rw [IntWalk.i64_in _ (by omega)]; omega
      have hkc : (k : Int) ≤ (c : Int) := by omega
      have hLI : ¬ (L : Int) = 1 := by omega
      have HKP := Lib.hid kP5
      have HOG := Lib.hid og5
      have HDL := Lib.hid hdl
      clear HR1 hl1 hL hL1 hdl og5
      have cp0 := Blk.cell (i := 0) (v := .slice (some ⟨g, 0, none⟩) L c) kP5 rfl
      have zp0 := Blk.frozen kP5 0
      have lp := Blk.lt kP5
      clear kP5
      go_upto_region 7 with fail
      go_cut [] (fun wx => Blk wx P #[.slice (some ⟨g, 0, none⟩) k c, .int .i64 s.n] 82 ∧ OGp wx lo (.slice (some ⟨g, 0, none⟩) k c) s.gs.dropLast ∧ Below lo w3 wx ∧ TK (SK 82) w3 wx ∧ w3.heap.size ≤ wx.heap.size)
      case first =>
        go_region_law (fail)
        all_goals
          go_wp2_with fail
          go_meet
          refine ⟨HKP.out.set 0 _, HOG.out.setP HKP.out hP (by decide) (by decide), ?_, ?_, ?_⟩
          · exact (Below.drew (Below.refl lo w3)).setCell (p := ⟨P, 0, none⟩) hP _
          · exact TK.setCell (w := w3.drew) HKP.out (fun _ h => h.2)
          · simp
      case rest =>
        obtain ⟨k7, o7, b7, t7, z7⟩ := hcut
        have K7 := Lib.hid k7
        have O7 := Lib.hid o7
        have B7 := Lib.hid ((J3.out.bel.mono hwl).trans b7)
        have T7 := Lib.hid (TK.tr (TK.of_below (ts := SK 82) J3.out.bel) t7)
        have Z7 : w.heap.size ≤ wc.heap.size := Nat.le_trans J3.out.bel.size z7
        clear k7 o7 b7 t7 z7
        go_wp2_with fail
        refine bodyPost_ret (v := .string okB) (by simp [results, Tryz.results48, go_sem, okB]) rfl ?_
        rw [HR.out]
        refine ⟨rfl, Ses.of (g := g) (c := c) (by decide) ?_ hP ?_, B7.out, T7.out, Z7⟩
        · rw [HDL.out]; exact K7.out
        · rw [HDL.out]; exact O7.out
  | false =>
    have ht1 : t ≠ undoB := fun h => by rw [(str_is2 t undoB [117, 110, 100, 111] rfl).2 h] at h1; cases h1
    cases h2 : (t.toList == ([108, 101, 110, 103, 116, 104] : List UInt8)) with
    | true =>
      have ht2 : t = lengthB := (str_is2 t lengthB [108, 101, 110, 103, 116, 104] rfl).1 h2
      have HR := Lib.hid (show scRest s t = (⟨(dec n).toArray⟩, s) by subst ht2; unfold scRest; rw [place_length, if_neg ht1, if_pos rfl, HX.out, HV.out])
      clear ht1 ht2
      obtain ⟨AW, cW, rfl, _⟩ := own_nil ownW
      obtain ⟨m, rfl⟩ := Int.eq_ofNat_of_zero_le hlb.1
      go_wp2_with fail
      refine (Decimal_any m (by omega) _).mono ?_
      rintro r w8 ⟨rfl, hb8⟩
      have HJ8 := Lib.hid (J3.out.up hb8)
      go_wp2_with fail
      refine bodyPost_ret (v := .string ⟨(Lib.decDigits m).toArray⟩) (by simp [results, Tryz.results48, go_sem]) rfl (HJ8.out.same (by decide) hP ?_)
      rw [HR.out]; rfl
    | false =>
      have ht2 : t ≠ lengthB := fun h => by rw [(str_is2 t lengthB [108, 101, 110, 103, 116, 104] rfl).2 h] at h2; cases h2
      cases h3 : (t.toList == ([119, 111, 114, 100] : List UInt8)) with
      | true =>
        have ht3 : t = wordB := (str_is2 t wordB [119, 111, 114, 100] rfl).1 h3
        have HR1 := Lib.hid (show scRest s t = (spokB ⟨(upV x).toArray⟩ (upC x), s) by subst ht3; unfold scRest; rw [place_word, if_neg ht1, if_neg ht2, if_pos rfl, HX.out])
        clear ht1 ht2 ht3
        obtain ⟨AW, cW, rfl, _⟩ := own_nil ownW
        by_cases hbig : n ≤ 2000
        · have hu := up_ok (xs := x) HXO.out (by have := HW.out; omega)
          have HR := Lib.hid (show scRest s t = (⟨(wordG x).toArray⟩, s) by rw [HR1.out, hu.1, hu.2]; rfl)
          have HCUT := Lib.hid (show cutL (wordG x) 0 n = wordG x from cutL_all (Int.le_refl _) (by have := HW.out; omega))
          have hbg : ¬ (2000 : Int) < n := by omega
          clear hu HR1
          go_wp2_with fail
          refine (l02Unpack_any g k _ x ls 0 n _ J3.out.ct.c J3.out.ct.lt J3.out.gx sm.out Hl.out hn4 (Int.le_refl _) hlb.1 (by have := HNN.out; omega) (by omega)).mono ?_
          rintro r w8 ⟨rfl, hb8⟩
          have HJ8 := Lib.hid (J3.out.up hb8)
          rw [HCUT.out]
          go_wp2_with fail
          refine bodyPost_ret (v := .string ⟨(wordG x).toArray⟩) (by simp [results, Tryz.results48, go_sem]) rfl (HJ8.out.same (by decide) hP ?_)
          rw [HR.out]
        · have hu := up_long (xs := x) HXO.out (by have := HW.out; omega)
          have HR := Lib.hid (show scRest s t = (errB 3, s) by rw [HR1.out, hu.2]; rfl)
          have hbg : (2000 : Int) < n := by omega
          clear hu HR1
          go_wp2_with fail
          refine bodyPost_ret (v := .string (errB 3)) (by simp [results, Tryz.results48, go_sem]; exact errB_at 3 [101, 114, 114, 111, 114, 32, 108, 105, 109, 105, 116] (by decide)) rfl (J3.out.same (by decide) hP ?_)
          rw [HR.out]
      | false =>
        have ht3 : t ≠ wordB := fun h => by rw [(str_is2 t wordB [119, 111, 114, 100] rfl).2 h] at h3; cases h3
        by_cases hl2 : (splB 32 t).length = 2
        · obtain ⟨X, Y, hXY⟩ := two_of hl2
          clear hl2
          have hYs : Y.size ≤ t.size := splB_size (b := 32) (by rw [hXY]; simp)
          have HXY := Lib.hid hXY
          rw [hXY] at ownW
          obtain ⟨gW, cW, rfl, _, hgW, _, hcell⟩ := own_form ownW (by simp)
          have cX : w3.cell? ⟨gW, 0, none⟩ = some (.string X) := hcell 0 _ rfl
          have cY : w3.cell? ⟨gW, 1, none⟩ = some (.string Y) := hcell 1 _ rfl
          clear hcell ownW hXY
          cases hX : (X.toList == ([97, 116] : List UInt8)) with
          | true =>
            have hXa : X = atB := (str_is2 X atB [97, 116] rfl).1 hX
            subst hXa
            cases hrd : rdOk Y.data.toList with
            | true =>
              have HR1 := Lib.hid (rest_place (s := s) (place_yes HXY.out hrd))
              have hi0 : 0 ≤ numV Y.data.toList := (rdOk_dec hrd).2
              have HRD := Lib.hid hrd
              obtain ⟨i, hi⟩ : ∃ i, numV Y.data.toList = i := ⟨_, rfl⟩
              have HI := Lib.hid hi
              rw [hi] at HR1 hi0
              clear hi hrd ht1 ht2 ht3
              by_cases hin : i < n
              · have HR := Lib.hid (show scRest s t = (⟨(cutL (wordG x) i (i + 1)).toArray⟩, s) by rw [HR1.out, HX.out]; unfold scLet; rw [HV.out, if_pos hin])
                have hw1 : IntKind.i64.wrap (i + 1) = i + 1 := IntWalk.i64_in _ (by omega)
                have hin2 : ¬ n ≤ i := by omega
                clear HR1
                go_wp2_with fail
                refine (l01Number_any Y _ (by omega)).mono ?_
                rintro r w5 ⟨hb5, rfl⟩
                have J5 := Lib.hid (J3.out.up hb5)
                rw [HI.out, HRD.out]
                clear hb5 J3 cX cY
                go_wp2_with fail
                refine (l02Unpack_any g k _ x ls i (i + 1) _ J5.out.ct.c J5.out.ct.lt J5.out.gx sm.out Hl.out hn4 hi0 (by omega) (by have := HNN.out; omega) (by omega)).mono ?_
                rintro r w8 ⟨rfl, hb8⟩
                have HJ8 := Lib.hid (J5.out.up hb8)
                go_wp2_with fail
                refine bodyPost_ret (v := .string ⟨(cutL (wordG x) i (i + 1)).toArray⟩) (by simp [results, Tryz.results48, go_sem]) rfl (HJ8.out.same (by decide) hP ?_)
                rw [HR.out]
              · have HR := Lib.hid (show scRest s t = (errB 2, s) by rw [HR1.out, HX.out]; unfold scLet; rw [HV.out, if_neg hin])
                have hin2 : n ≤ i := by omega
                clear HR1 hin
                go_wp2_with fail
                refine (l01Number_any Y _ (by omega)).mono ?_
                rintro r w5 ⟨hb5, rfl⟩
                have J5 := Lib.hid (J3.out.up hb5)
                rw [HI.out, HRD.out]
                clear hb5 J3 cX cY
                go_wp2_with fail
                refine bodyPost_ret (v := .string (errB 2)) (by simp [results, Tryz.results48, go_sem]; exact errB_at 2 [101, 114, 114, 111, 114, 32, 114, 97, 110, 103, 101] (by decide)) rfl (J5.out.same (by decide) hP ?_)
                rw [HR.out]
            | false =>
              have HR := Lib.hid (rest_what (s := s) (place_no HXY.out hrd) ht1 ht2 ht3)
              have HRD := Lib.hid hrd
              clear ht1 ht2 ht3 hrd
              go_wp2_with fail
              refine (l01Number_any Y _ (by omega)).mono ?_
              rintro r w5 ⟨hb5, rfl⟩
              have J5 := Lib.hid (J3.out.up hb5)
              rw [HRD.out]
              clear hb5 J3 cX cY
              go_wp2_with fail
              refine bodyPost_ret (v := .string whatB) (by simp [results, Tryz.results48, go_sem, whatB]) rfl (J5.out.same (by decide) hP ?_)
              rw [HR.out]
          | false =>
            have hXa : X ≠ atB := fun h => by rw [(str_is2 X atB [97, 116] rfl).2 h] at hX; cases hX
            have HR := Lib.hid (rest_what (s := s) (place_other HXY.out hXa) ht1 ht2 ht3)
            clear ht1 ht2 ht3 hXa
            go_wp2_with fail
            refine bodyPost_ret (v := .string whatB) (by simp [results, Tryz.results48, go_sem, whatB]) rfl (J3.out.same (by decide) hP ?_)
            rw [HR.out]
        · have HR := Lib.hid (rest_what (s := s) (place_one hl2) ht1 ht2 ht3)
          obtain ⟨AW, cW, rfl, _⟩ := own_nil ownW
          obtain ⟨LW, hLW⟩ : ∃ LW, (splB 32 t).length = LW := ⟨_, rfl⟩
          rw [hLW] at hl2 ⊢
          have hl2I : ¬ (LW : Int) = 2 := by omega
          clear ht1 ht2 ht3 hl2 hLW ownW
          go_wp2_with fail
          refine bodyPost_ret (v := .string whatB) (by simp [results, Tryz.results48, go_sem, whatB]) rfl (J3.out.same (by decide) hP ?_)
          rw [HR.out]
end Go.Proofs.YtbifijlenbibmaaGreatDoor

namespace Go.Proofs.YtbifijlenbibmaaGreatDoor
open Go.RowKit

theorem l01Split10 (s : ByteArray) (w : World) (hs : s.size ≤ 1048576) :
    Calls Tryz.prog 45 #[.string s, .int .u8 10] w fun e w' => Below w.heap.size w w' ∧ ∃ v, OwnW w' w.heap.size v (splB 10 s) ∧ e = .returned v := l01Split_any s 10 w hs
theorem out_app (l : List UInt8) (r : ByteArray) : (⟨l.toArray⟩ : ByteArray) ++ (r ++ ⟨#[10]⟩) = ⟨(l ++ (r.data.toList ++ [10])).toArray⟩ := by
  apply ByteArray.ext
  simp [ByteArray.data_append]
set_option maxRecDepth 100000 in
set_option maxHeartbeats 8000000 in
/-- spec.RunScript. -/
theorem specRunScript_any (v : Value) (xs : List GRule) (t : ByteArray) (w : World) (h : Sl RuleE w w.heap.size v xs) (hsm : SmallL xs) (hn : xs.length ≤ 1048576) (ht : t.size ≤ 1048576) :
    Calls Tryz.prog 9 #[.agg #[v], .string t] w fun e w' => e = .returned (.tuple #[.string ⟨(scOut xs t).toArray⟩, .int .i64 (scCode xs t)]) ∧ Below w.heap.size w w' := by
  have HG := Lib.hid h
  obtain ⟨A, c, rfl, _⟩ := h
  have b1 := (Below.refl w.heap.size w).alloc (Nat.le_refl _) (Obj.cells #[.slice A xs.length c] 30)
  have KP := Blk.new w #[.slice A xs.length c] 30
  go_enter Tryz.func9, Tryz.ntmps9
  go_upto_region 1 with fail
  generalize (w.alloc (Obj.cells #[.slice A xs.length c] 30)) = w0 at *
  have KB := Lib.hid b1
  clear b1
  have cP0 := Blk.cell (i := 0) (v := .slice A xs.length c) KP rfl
  have lP := Blk.lt KP
  go_wp2_with fail
  refine (l02Ok_any w.heap.size 0 _ xs _ cP0 lP (HG.out.up KB.out) hsm).mono ?_
  rintro e w1 ⟨rfl, hb1⟩
  have KB1 := Lib.hid (Below.tr KB.out hb1)
  have KP1 := KP.up hb1
  clear KB KP hb1 cP0 lP
  cases hg : gramOk xs with
  | false =>
    have HQ := Lib.hid (sc_bad (t := t) hg)
    clear hg
    go_wp2_with fail
    refine bodyPost_ret (v := .tuple #[.string ⟨#[]⟩, .int .i64 1]) (by simp [results, Tryz.results9, go_sem]) rfl ⟨by rw [HQ.out.1, HQ.out.2], KB1.out⟩
  | true =>
    have HGG := Lib.hid hg
    clear hg
    go_wp2_with fail
    refine (l01Split10 t _ ht).mono ?_
    rintro e w2 ⟨hb2, vL, own, rfl⟩
    have KB2 := Lib.hid (Below.tr KB1.out hb2)
    have KP2 := Lib.hid (KP1.up hb2)
    clear hb2 KP1 KB1
    have hpos := splB_pos 10 t
    have hle := splB_len 10 t
    obtain ⟨g, cL, rfl, _, hgl, hcap, hcell⟩ := own_form own hpos
    obtain ⟨k, hk⟩ : ∃ k, (splB 10 t).length = k + 1 := ⟨(splB 10 t).length - 1, by omega⟩
    obtain ⟨x, hx⟩ : ∃ x, (splB 10 t)[k]? = some x := ⟨_, List.getElem?_eq_getElem (by omega)⟩
    have hcx : w2.cell? ⟨g, k, none⟩ = some (.string x) := hcell k _ (by rw [List.getElem?_map, hx]; rfl)
    have HLS := Lib.hid (scLines_last (t := t) (x := x) (by rw [hk]; exact hx))
    have hpop := OwnW.pop own hpos
    obtain ⟨L, hL⟩ : ∃ L, (splB 10 t).length = L := ⟨_, rfl⟩
    have hdl : (splB 10 t).dropLast.length = k := by rw [List.length_dropLast]; omega
    have hLk : L = k + 1 := by omega
    rw [hL, hLk, Nat.add_sub_cancel] at hpop
    have own2 : w2.ownsRow w1.heap.size 9 1 (.slice (some ⟨g, 0, none⟩) L cL) (splB 10 t).length ((splB 10 t).map Value.string) := by rw [← hL]; exact own
    unfold maxLen at hcap
    have hkc : (k : Int) ≤ (cL : Int) := by omega
    have hkL : (k : Int) < (L : Int) := by omega
    have hw : IntKind.i64.wrap ((L : Int) - 1) = (k : Int) := by rw [IntWalk.i64_in _ (by omega)]; omega
    have HO := Lib.hid own2
    have HP := Lib.hid hpop
    have HL := Lib.hid hL
    have HDL := Lib.hid hdl
    rw [hL]
    clear own hpos hle hcell hk hx hpop hL hdl hLk own2
    go_upto_if 22 with fail
    go_cut [6] (fun v wx => ∃ cA, v = .slice (some ⟨g, 0, none⟩) (scLines t).length cA ∧ OwnW wx w1.heap.size v (scLines t) ∧ Below w2.heap.size w2 wx)
    case first =>
      have HY := Lib.hid (fun (q : x.toList.isEmpty = true) => HLS.out.1 ((str_is2 x ⟨#[]⟩ [] rfl).1 (by rw [List.isEmpty_iff.1 q]; rfl)))
      have HZ := Lib.hid (fun (q : x.toList.isEmpty = false) => HLS.out.2 (fun h => by rw [beq_iff_eq.1 ((str_is2 x ⟨#[]⟩ [] rfl).2 h)] at q; cases q))
      go_wp2_with fail
      all_goals
        rename_i hq
        go_meet
        first
          | (have HQ := HY.out hq; exact ⟨cL, by rw [HQ, HDL.out], by rw [HQ]; exact HP.out, (by repeat (first | exact Below.refl _ _ | (refine Below.alloc ?_ (by first | omega | (simp; done) | (simp; omega)) _) | (refine Below.setCell ?_ (by first | exact Nat.le_refl _ | (show _ ≤ _; omega) | (simp; done) | (simp; omega)) _) | refine below_drewN ?_ _ | refine Below.drew ?_))⟩)
          | (have HQ := HZ.out hq; exact ⟨cL, by rw [HQ, HL.out], by rw [HQ]; exact HO.out, (by repeat (first | exact Below.refl _ _ | (refine Below.alloc ?_ (by first | omega | (simp; done) | (simp; omega)) _) | (refine Below.setCell ?_ (by first | exact Nat.le_refl _ | (show _ ≤ _; omega) | (simp; done) | (simp; omega)) _) | refine below_drewN ?_ _ | refine Below.drew ?_))⟩)
    case rest =>
      obtain ⟨cA, rfl, ownA, hbA⟩ := hcut
      have KB3 := Lib.hid (Below.tr KB2.out hbA)
      have KP3 := Lib.hid (KP2.out.up hbA)
      have HOA := Lib.hid ownA
      clear hbA ownA HO HP HL HDL HLS hcx hgl hkc hkL hw KP2 KB2 hcap
      revert KB3 KP3 HOA
      generalize wc = w3
      intro KB3 KP3 HOA
      obtain ⟨ls, hls⟩ : ∃ ls, scLines t = ls := ⟨_, rfl⟩
      have HSZ := Lib.hid (fun x (hx : x ∈ ls) => Nat.le_trans (scLines_size (t := t) (by rw [hls]; exact hx)) ht)
      by_cases h20 : t.size ≤ 20000
      · have h20I : ¬ (20000 : Int) < (t.size : Int) := by omega
        by_cases h12 : ls.length ≤ 120
        · have h12I : ¬ (120 : Int) < (ls.length : Int) := by omega
          have HQ := Lib.hid (sc_yes HGG.out ⟨h20, by rw [hls]; exact h12⟩)
          rw [hls] at HOA HQ ⊢
          clear hls
          have cP3 := Blk.cell (i := 0) (v := .slice A xs.length c) KP3.out rfl
          have lP3 := Blk.lt KP3.out
          go_wp2_with fail
          refine (l02Own_any w.heap.size 0 _ xs _ cP3 lP3 (HG.out.up KB3.out) (by omega)).mono ?_
          rintro e w4 ⟨vN, rfl, ownN, hb4⟩
          have KB4 := Lib.hid (Below.tr KB3.out hb4)
          have HL4 := Lib.hid (ownsRow_below HOA.out hb4)
          have hz4 := KB4.out.size
          have hz3 := KB3.out.size
          clear hb4 cP3 lP3 KP3 HOA
          obtain ⟨AN, cN, rfl, _⟩ := own_nil ownN
          have HN := Lib.hid (ownsRow_more ownN hz3)
          clear ownN
          go_upto_region 9 with fail
          have bA := ((Below.refl w4.heap.size w4).alloc (Nat.le_refl _) (Obj.cells #[.slice AN xs.length cN] 30)).alloc (by simp) (Obj.cells #[.slice (some ⟨w4.heap.size, 0, none⟩) 1 1, .int .i64 0] 82)
          have KS1 : Blk ((w4.alloc (Obj.cells #[.slice AN xs.length cN] 30)).alloc (Obj.cells #[.slice (some ⟨w4.heap.size, 0, none⟩) 1 1, .int .i64 0] 82)) (w4.heap.size + 1) #[.slice (some ⟨w4.heap.size, 0, none⟩) 1 1, .int .i64 0] 82 := by
            have := Blk.new (w4.alloc (Obj.cells #[.slice AN xs.length cN] 30)) #[.slice (some ⟨w4.heap.size, 0, none⟩) 1 1, .int .i64 0] 82
            simpa using this
          have og := OGp.one (W := w4) (lo := w.heap.size) rfl hz4 (u := .slice AN xs.length cN) (x := xs) (.inr HN.out)
          have og2 := og.up (w' := ((w4.alloc (Obj.cells #[.slice AN xs.length cN] 30)).alloc (Obj.cells #[.slice (some ⟨w4.heap.size, 0, none⟩) 1 1, .int .i64 0] 82))) (by repeat (first | exact Below.refl _ _ | (refine Below.alloc ?_ (by first | omega | (simp; done) | (simp; omega)) _) | (refine Below.setCell ?_ (by first | exact Nat.le_refl _ | (show _ ≤ _; omega) | (simp; done) | (simp; omega)) _) | refine below_drewN ?_ _ | refine Below.drew ?_)) (by simp; omega)
          have J0 := Lib.hid (show Ses 82 _ w.heap.size (w4.heap.size + 1) ⟨[xs], 0⟩ from Ses.of (g := w4.heap.size) (c := 1) (by decide) KS1 (by omega) og2)
          have L0 := Lib.hid (show OwnW _ w1.heap.size (.slice (some ⟨g, 0, none⟩) ls.length cA) ls from ownsRow_below HL4.out bA)
          have H0 := Lib.hid (Below.tr KB4.out bA)
          clear bA KS1 og og2 HL4 KB4 KB3 HN
          revert J0 L0 H0
          generalize (w4.alloc (Obj.cells #[.slice AN xs.length cN] 30)).alloc (Obj.cells #[.slice (some ⟨w4.heap.size, 0, none⟩) 1 1, .int .i64 0] 82) = w5
          generalize w4.heap.size + 1 = P
          intro J0 L0 H0
          go_wp2_with fail
          go_loopw [8, 9] (fun o i wx => ∃ k : Nat, k ≤ ls.length ∧ o = .string ⟨(scRun xs (ls.take k)).1.toArray⟩ ∧ i = .int .i64 k ∧ Hid (Ses 82 wx w.heap.size P (scRun xs (ls.take k)).2) ∧ Hid (OwnW wx w1.heap.size (.slice (some ⟨g, 0, none⟩) ls.length cA) ls) ∧ Hid (Below w.heap.size w wx)) (fun _ i _ => ls.length - (intOf i).toNat)
          case atStart => exact ⟨0, Nat.zero_le _, rfl, rfl, J0, L0, H0⟩
          case round =>
            obtain ⟨k, hk, rfl, rfl, HJ, HL, HW⟩ := hrel
            by_cases hlt : k < ls.length
            · obtain ⟨g', cap, hv, _, hgl, _, hcell⟩ := own_form HL.out (by omega)
              injection hv with hv1 hv2 hv3
              injection hv1 with hv1
              injection hv1 with hv1
              subst hv1 hv3
              obtain ⟨y, hy⟩ : ∃ y, ls[k]? = some y := ⟨_, List.getElem?_eq_getElem hlt⟩
              have hcy : wr.cell? ⟨g, k, none⟩ = some (.string y) := hcell k _ (by rw [List.getElem?_map, hy]; rfl)
              have hys := HSZ.out y (List.mem_of_getElem? hy)
              have hrs := scRun_snoc (x := xs) hy
              have hlen := scRun_len HGG.out ls k
              have hok := scRun_ok HGG.out ls k
              have hasz := scAns_size hok y
              obtain ⟨l0, hl0⟩ : ∃ l0, (scRun xs (ls.take k)).1 = l0 := ⟨_, rfl⟩
              obtain ⟨s0, hs0⟩ : ∃ s0, (scRun xs (ls.take k)).2 = s0 := ⟨_, rfl⟩
              have hrs1 : (scRun xs (ls.take (k + 1))).1 = l0 ++ ((scAns s0 y).1.data.toList ++ [10]) := by rw [hrs, ← hl0, ← hs0]; rfl
              have hrs2 : (scRun xs (ls.take (k + 1))).2 = (scAns s0 y).2 := by rw [hrs, ← hs0]; rfl
              rw [hl0] at hlen ⊢
              rw [hs0] at HJ hok hasz
              have HRS := Lib.hid (And.intro hrs1 hrs2)
              have HOK := Lib.hid hok
              have hki : (k : Int) < (ls.length : Int) := by omega
              have hl2 : l0.length ≤ 240120 := by omega
              have hl3 : (⟨l0.toArray⟩ : ByteArray).size = l0.length := arr_size l0
              obtain ⟨o0, ho0⟩ : ∃ o0 : ByteArray, (⟨l0.toArray⟩ : ByteArray) = o0 := ⟨_, rfl⟩
              rw [ho0] at hl3 ⊢
              have HOO := Lib.hid ho0
              have ho3 : o0.size ≤ 240120 := by omega
              clear hrs hrs1 hrs2 hl0 hs0 hok hy hcell hlen hv2 hl3 hl2 ho0
              go_wp2_with fail
              refine (specRead_any y _ hys).mono ?_
              rintro e w6 ⟨hb6, vE, ownE, rfl⟩
              have HJ6 := Lib.hid (HJ.out.up hb6)
              have HL6 := Lib.hid (ownsRow_below HL.out hb6)
              have HW6 := Lib.hid (Below.tr HW.out hb6)
              have hgl6 : g < w6.heap.size := Nat.lt_of_lt_of_le hgl hb6.size
              have hcy6 := (hb6.cell (p := ⟨g, k, none⟩) hgl).trans hcy
              clear hb6 HJ HL HW hcy
              obtain ⟨AE, cE, rfl, _⟩ := own_nil ownE
              obtain ⟨e, he⟩ : ∃ e, rdOut y = e := ⟨_, rfl⟩
              have HE := Lib.hid he
              rw [he] at ownE ⊢
              clear he
              go_upto_region 14 with fail
              have bE := (Below.refl w6.heap.size w6).alloc (Nat.le_refl _) (Obj.cells #[.int .i64 e.kind, .int .i64 e.i, .int .i64 e.j, .int .i64 e.k, .slice AE e.part.length cE, .string e.map] 46)
              have HJ7 := Lib.hid (HJ6.out.up bE)
              have HL7 := Lib.hid (show OwnW _ w1.heap.size (.slice (some ⟨g, 0, none⟩) ls.length cA) ls from ownsRow_below HL6.out bE)
              have HW7 := Lib.hid (Below.tr HW6.out bE)
              have hcy7 := (bE.cell (p := ⟨g, k, none⟩) hgl6).trans hcy6
              have KE7 := Lib.hid (EC.of (Blk.new w6 (editCells e (.slice AE e.part.length cE)) 46))
              have SE7 := Lib.hid ((OwnRules.sl ownE).up bE)
              clear bE HJ6 HL6 HW6 hcy6 ownE
              revert HJ7 HL7 HW7 hcy7 KE7 SE7
              show _ → _ → _ → _ → Hid (EC (w6.alloc (Obj.cells #[.int .i64 e.kind, .int .i64 e.i, .int .i64 e.j, .int .i64 e.k, .slice AE e.part.length cE, .string e.map] 46)) _ _ _ _) → _
              generalize (w6.alloc (Obj.cells #[.int .i64 e.kind, .int .i64 e.i, .int .i64 e.j, .int .i64 e.k, .slice AE e.part.length cE, .string e.map] 46)) = w7
              generalize w6.heap.size = E
              intro HJ7 HL7 HW7 hcy7 KE7 SE7
              by_cases hcd : rdCode y = 0
              · have hk := rd_okE2 hcd
                have hA : scAns s0 y = scEdit s0 e := by unfold scAns; rw [if_pos hcd, HE.out]
                rw [HE.out] at hk
                rw [hA] at HRS hasz
                have HKE := Lib.hid hk
                rw [hcd]
                clear hk hcd hA hgl hgl6
                go_wp2_with fail
                refine (specEdit_any w.heap.size P E s0 e _ _ HJ7.out HOK.out KE7.out SE7.out HKE.out).mono ?_
                rintro r w8 ⟨rfl, hs8, hb8, hk8, hz8⟩
                have HS8 := Lib.hid hs8
                have HL8 := Lib.hid (show OwnW w8 w1.heap.size (.slice (some ⟨g, 0, none⟩) ls.length cA) ls from TK.row HL7.out hk8 (by unfold SK; decide))
                have HW8 := Lib.hid (HW7.out.trans hb8)
                clear hs8 hb8 hk8 HJ7 HL7 HW7 hcy7 KE7 SE7
                obtain ⟨r, hr⟩ : ∃ r, (scEdit s0 e).1 = r := ⟨_, rfl⟩
                rw [hr] at hasz ⊢
                have hrz : (r ++ (⟨#[10]⟩ : ByteArray)).size ≤ 2001 := by
                  rw [ByteArray.size_append]
                  have : (⟨#[10]⟩ : ByteArray).size = 1 := rfl
                  omega
                go_wp2_with fail
                refine ⟨⟨k + 1, by omega, ?_, by go_num, by rw [HRS.out.2]; exact HS8, HL8, HW8⟩, by simp [intOf]; omega⟩
                rw [HRS.out.1, hr, ← HOO.out, ← out_app]
              · have hA : scAns s0 y = scRest s0 y := by unfold scAns; rw [if_neg hcd]
                rw [hA] at HRS hasz
                have hcb : (rdCode y == 0) = false := by simp [hcd]
                clear hcd hA hgl hgl6
                go_wp2_with fail
                refine (specAnswer_any w.heap.size P s0 y _ HJ7.out HOK.out hys).mono ?_
                rintro r w8 ⟨rfl, hs8, hb8, hk8, hz8⟩
                have HS8 := Lib.hid hs8
                have HL8 := Lib.hid (show OwnW w8 w1.heap.size (.slice (some ⟨g, 0, none⟩) ls.length cA) ls from TK.row HL7.out hk8 (by unfold SK; decide))
                have HW8 := Lib.hid (HW7.out.trans hb8)
                clear hs8 hb8 hk8 HJ7 HL7 HW7 hcy7 KE7 SE7
                obtain ⟨r, hr⟩ : ∃ r, (scRest s0 y).1 = r := ⟨_, rfl⟩
                rw [hr] at hasz ⊢
                have hrz : (r ++ (⟨#[10]⟩ : ByteArray)).size ≤ 2001 := by
                  rw [ByteArray.size_append]
                  have : (⟨#[10]⟩ : ByteArray).size = 1 := rfl
                  omega
                go_wp2_with fail
                refine ⟨⟨k + 1, by omega, ?_, by go_num, by rw [HRS.out.2]; exact HS8, HL8, HW8⟩, by simp [intOf]; omega⟩
                rw [HRS.out.1, hr, ← HOO.out, ← out_app]
            · have hkn : k = ls.length := by omega
              subst hkn
              clear HJ HL
              rw [List.take_length]
              go_wp2_with fail
              refine bodyPost_ret (v := .tuple #[.string ⟨((scRun xs ls).1).toArray⟩, .int .i64 0]) (by simp [results, Tryz.results9, go_sem]) rfl ⟨by rw [HQ.out.1, HQ.out.2], HW.out⟩
        · have h12I : (120 : Int) < (ls.length : Int) := by omega
          have HQ := Lib.hid (sc_far HGG.out (fun q => h12 (by rw [← hls]; exact q.2)))
          rw [hls]
          clear h12 hls
          go_wp2_with fail
          refine bodyPost_ret (v := .tuple #[.string ⟨#[]⟩, .int .i64 2]) (by simp [results, Tryz.results9, go_sem]) rfl ⟨by rw [HQ.out.1, HQ.out.2], KB3.out⟩
      · have h20I : (20000 : Int) < (t.size : Int) := by omega
        have HQ := Lib.hid (sc_far HGG.out (fun q => h20 q.1))
        clear h20
        go_wp2_with fail
        refine bodyPost_ret (v := .tuple #[.string ⟨#[]⟩, .int .i64 2]) (by simp [results, Tryz.results9, go_sem]) rfl ⟨by rw [HQ.out.1, HQ.out.2], KB3.out⟩
end Go.Proofs.YtbifijlenbibmaaGreatDoor

namespace Go.Proofs.YtbifijlenbibmaaGreatDoor
open Go.RowKit

theorem keep2S {wr W W2 : World} {p q : Nat} {a0 b0 : Value}
    (h : Below wr.heap.size wr W ∧ W.cell? ⟨p, 0, none⟩ = some a0 ∧ W.cell? ⟨q, 0, none⟩ = some b0)
    (h2 : Below W.heap.size W W2) (hp : p < wr.heap.size) (hq : q < wr.heap.size) :
    Below wr.heap.size wr W2 ∧ W2.cell? ⟨p, 0, none⟩ = some a0 ∧ W2.cell? ⟨q, 0, none⟩ = some b0 := by
  obtain ⟨h1, x0, y0⟩ := h
  exact ⟨h1.trans (h2.mono h1.size), (h2.cell (p := ⟨p, 0, none⟩) (Nat.lt_of_lt_of_le hp h1.size)).trans x0, (h2.cell (p := ⟨q, 0, none⟩) (Nat.lt_of_lt_of_le hq h1.size)).trans y0⟩
set_option maxRecDepth 100000 in
set_option maxHeartbeats 4000000 in
theorem lawRunScript_any (v : Value) (xs : List GRule) (t : ByteArray) (w : World) (h : Sl RuleE w w.heap.size v xs) (hsm : SmallL xs) (_ht : t.size ≤ maxLen) (hv : RdVars w) (htab : Lib.TabIs Tryz.prog w "math/bits.deBruijn64tab" .u8 deB64) :
    Calls Tryz.prog 3 #[.agg #[v], .string t] w fun r w' => r = .returned (.bool true) ∧ Below w.heap.size w w' := by
  have HV := Lib.hid hv
  have HT := Lib.hid htab
  have H0 := Lib.hid h
  obtain ⟨A, c, rfl, _⟩ := h
  clear hv htab
  have b0 := (Below.refl w.heap.size w).alloc (Nat.le_refl _) (Obj.cells #[.slice A xs.length c] 24)
  have KA := Blk.new w #[.slice A xs.length c] 24
  by_cases hbig : 1048576 < t.size
  · have hb2 : (1048576 : Int) < (t.size : Int) := by omega
    clear b0 KA
    go_enter Tryz.func3, Tryz.ntmps3
    go_wp2_with fail
    go_ret
    exact ⟨rfl, (by repeat (first | exact Below.refl _ _ | (refine Below.alloc ?_ (by first | omega | (simp; done) | (simp; omega)) _) | (refine Below.setCell ?_ (by first | exact Nat.le_refl _ | (show _ ≤ _; omega) | (simp; done) | (simp; omega)) _) | refine below_drewN ?_ _ | refine Below.drew ?_))⟩
  have hb2 : ¬ (1048576 : Int) < (t.size : Int) := by omega
  have hs : t.size ≤ 1048576 := by omega
  go_enter Tryz.func3, Tryz.ntmps3
  go_upto_region 1 with fail
  generalize (w.alloc (Obj.cells #[.slice A xs.length c] 24)) = w0 at *
  have KB := Lib.hid b0
  clear b0
  have cA := Blk.cell (i := 0) (v := .slice A xs.length c) KA rfl
  have lA := Blk.lt KA
  go_wp2_with fail
  refine (szGrammar_any _ _ _ _ (H0.out.up KB.out) hsm (by omega)).mono ?_
  rintro e w1 ⟨rfl, hb1⟩
  have KB1 := Lib.hid (Below.tr KB.out hb1)
  have KA1 := KA.up hb1
  clear hb1 KB KA cA lA
  by_cases hneg : szRs xs 1048576 < 0
  · rw [if_pos hneg]
    clear hneg
    go_wp2_with fail
    go_ret
    exact ⟨rfl, KB1.out⟩
  · rw [if_neg hneg]
    obtain ⟨_, hlen⟩ := szRs_le xs 1048576 (by omega)
    have hn : xs.length ≤ 1048576 := by omega
    have hpos : ¬ szRs xs 1048576 < 0 := hneg
    clear hneg hlen
    have cA := Blk.cell (i := 0) (v := .slice A xs.length c) KA1 rfl
    have lA := Blk.lt KA1
    go_wp2_with fail
    refine (toGrammar_any _ _ _ (H0.out.up KB1.out) hn).mono ?_
    rintro e w2 ⟨v2, rfl, own2, hb2'⟩
    have KB2 := Lib.hid (Below.tr KB1.out hb2')
    have KA2 := KA1.up hb2'
    have S2 := Lib.hid (OwnRules.sl own2)
    obtain ⟨A2, c2, rfl, _⟩ := own_nil own2
    clear hb2' KB1 KA1 cA lA own2
    go_wp2_with fail
    refine (specRunScript_any _ xs t _ S2.out hsm hn hs).mono ?_
    rintro e w3 ⟨rfl, hb3⟩
    have KB3 := Lib.hid (Below.tr KB2.out hb3)
    have KA3 := KA2.up hb3
    clear hb3 KB2 KA2 S2
    have cA := Blk.cell (i := 0) (v := .slice A xs.length c) KA3 rfl
    have lA := Blk.lt KA3
    go_wp2_with fail
    refine (toGrammar_any _ _ _ (H0.out.up KB3.out) hn).mono ?_
    rintro e w4 ⟨v4, rfl, own4, hb4⟩
    have KB4 := Lib.hid (Below.tr KB3.out hb4)
    have KA4 := KA3.up hb4
    have S4 := Lib.hid (OwnRules.sl own4)
    obtain ⟨A4, c4, rfl, _⟩ := own_nil own4
    clear hb4 KB3 KA3 cA lA own4
    go_upto_region 9 with fail
    have bX := (Below.refl w4.heap.size w4).alloc (Nat.le_refl _) (Obj.cells #[.slice A4 xs.length c4] 30)
    have KB5 := Lib.hid (Below.tr KB4.out bX)
    have KA5 := Lib.hid (KA4.up bX)
    have KX5 := Lib.hid (Blk.new w4 #[.slice A4 xs.length c4] 30)
    have S5 := Lib.hid (S4.out.up bX)
    clear bX KB4 KA4 S4
    revert KB5 KA5 KX5 S5
    generalize (w4.alloc (Obj.cells #[.slice A4 xs.length c4] 30)) = w5
    generalize w4.heap.size = X
    intro KB5 KA5 KX5 S5
    have cX := Blk.cell (i := 0) (v := .slice A4 xs.length c4) KX5.out rfl
    have lX := Blk.lt KX5.out
    go_wp2_with fail
    refine (implRunScript_any _ xs t _ S5.out hn hs (HV.out.up KB5.out) (tabB HT.out KB5.out)).mono ?_
    rintro e w6 ⟨rfl, hb6⟩
    have KB6 := Lib.hid (Below.tr KB5.out hb6)
    have KA6 := Lib.hid (KA5.out.up hb6)
    have KX6 := Lib.hid (KX5.out.up hb6)
    have S6 := Lib.hid (S5.out.up hb6)
    have T6 := Lib.hid (H0.out.up KB6.out)
    clear hb6 KB5 KA5 KX5 S5 cX lX
    have cA := Blk.cell (i := 0) (v := .slice A xs.length c) KA6.out rfl
    have lA := Blk.lt KA6.out
    have cX := Blk.cell (i := 0) (v := .slice A4 xs.length c4) KX6.out rfl
    have lX := Blk.lt KX6.out
    have KD : Below w6.heap.size w6 w6.drew ∧ w6.drew.cell? ⟨X, 0, none⟩ = some (.slice A4 xs.length c4) ∧ w6.drew.cell? ⟨w.heap.size, 0, none⟩ = some (.slice A xs.length c) := ⟨Below.drew (Below.refl _ _), cX, cA⟩
    go_wp2_with fail
    go_region_held3 (fun w' => Below w6.heap.size w6 w' ∧ w'.cell? ⟨X, 0, none⟩ = some (.slice A4 xs.length c4) ∧ w'.cell? ⟨w.heap.size, 0, none⟩ = some (.slice A xs.length c))
      (first | (with_reducible exact KD) | (with_reducible exact keep2S KD hb7 lX lA) | (with_reducible exact keep2S (keep2S KD hb7 lX lA) hb8 lX lA))
      (first
        | (go_at_call 10; refine (toGrammar_any _ _ _ (T6.out.up (Below.drew (Below.refl _ _))) hn).mono ?_; rintro e w7 ⟨v7, rfl, own7, hb7⟩)
        | (go_at_call 12; refine (eqGrammar_any _ _ xs _ ((S6.out.up (Below.drew (Below.refl _ _))).up hb7) (OwnRules.sl own7)).mono ?_; rintro e w8 ⟨rfl, hb8⟩))
    have B8 := Lib.hid (KB6.out.trans (((Below.drew (Below.refl w6.heap.size w6)).trans (hb7.trans (hb8.mono hb7.size))).mono KB6.out.size))
    clear KD hb7 hb8 own7 cA lA cX lX
    go_wp2_with fail
    go_ret
    exact ⟨rfl, B8.out⟩
end Go.Proofs.YtbifijlenbibmaaGreatDoor

namespace Go.Proofs.YtbifijlenbibmaaGreatDoor
open Go.RowKit Go.WideShapes Go.ChangeShapes
section
variable {H : Type} {enc : TypeId × Value → H} {P : Program}
theorem post_of_below {f : Func} {s : ChangeSpec} {apart fresh handsOn again : Bool} {W W' : World} {args : Array Value} {v : Value} {ds gs : List (DataW H)} {before pa pv : List MemPlace}
    (hW : DataW.Whole enc P f.params.toList s.vars apart W args.toList ds gs before)
    (hres : ∀ (b : Nat) (sp : Nat → Bool) (hd : Bool), DataW.TrodAll enc P W' b sp hd f.resultTypes.toList (v.resultList f.resultTypes.size) (s.fn H (ds ++ gs)).results [])
    (hargs : ∀ sp : Nat → Bool, (∀ p ∈ before, sp p.block = true) → DataW.TrodAll enc P W' 0 sp true f.params.toList args.toList (s.fn H (ds ++ gs)).args pa)
    (hvars : ∀ sp : Nat → Bool, (∀ p ∈ before, sp p.block = true) → DataW.TrodVars enc P W' sp s.vars (s.fn H (ds ++ gs)).vars pv)
    (hps : before = pa ++ pv) (hb : Below W.heap.size W W')
    (hok : ∀ (j : Nat) (t : TypeId) (r : Value), f.resultTypes[j]? = some t → (v.resultList f.resultTypes.size)[j]? = some r → Value.okWide P W' .any 0 t r) :
    s.post enc P f apart fresh handsOn again W args v W' := by
  have hlt : ∀ p ∈ before, p.block < W.heap.size := fun p hp => hW.lt p hp
  have hold : ∀ p ∈ before, (fun b => decide (b < W.heap.size)) p.block = true := fun p hp => by simpa using hlt p hp
  refine ⟨ds, gs, before, [], pa, pv, hW, hres _ _ _, hargs _ hold, hvars _ hold, World.keptBut_mono (fun p hp => ⟨hp, ?_⟩) (hb.frame (· ∈ before)), fun _ => ?_⟩
  · rw [hps, List.mem_append] at hp
    exact Or.inr hp
  · obtain ⟨_, _, _, _, _, hz, hn⟩ := hW
    refine ⟨hok, _, _, ([] ++ pa) ++ pv, ⟨[] ++ pa, pv, trodAll_append (hargs _ (fun _ _ => rfl)) (hres _ _ _), hvars _ (fun _ _ => rfl), rfl, ?_, ?_⟩, ?_⟩
    · intro b off hp
      have hin : MemPlace.cell b off ∈ before := by rw [hps]; simpa using hp
      rw [hb.frozen (hlt _ hin)]
      exact hz b off hin
    · intro ha
      have := hn ha
      rw [hps] at this
      simpa using this
    · intro p hp _
      rw [hps]
      simpa using hp

theorem trodAll_below (hl : laidOutB P = true) {W W' : World} (hb : Below W.heap.size W W') : ∀ {ts : List TypeId} {vs : List Value} {ds : List (DataW H)} {ps : List MemPlace},
    (∀ t ∈ ts, P.readableRec t = true ∧ t < P.types.size) → DataW.TrodAll enc P W 0 (fun _ => true) true ts vs ds ps → (∀ x ∈ ps, x.block < W.heap.size) → ∀ sp : Nat → Bool, (∀ p ∈ ps, sp p.block = true) →
    DataW.TrodAll enc P W' 0 sp true ts vs ds ps
  | [], _, _, _, _, h, _, _, _ => by
    obtain ⟨rfl, rfl, rfl⟩ := trodAll_nil h
    exact trodAll_mk0
  | t :: ts, vs, ds, ps, hts, h, hlt, sp, hsp => by
    obtain ⟨v, vs', d, ds', p, q, rfl, rfl, rfl, h0, r0⟩ := trodAll_cons h
    refine trodAll_cons_mk (WideElems.Trod_stays hl (hts t (by simp)).1 (hts t (by simp)).2 h0 (fun x hx => hb.same (hlt x (by simp [hx]))) (fun x hx => hsp x (by simp [hx]))) ?_
    exact trodAll_below hl hb (fun t ht => hts t (by simp [ht])) r0 (fun x hx => hlt x (by simp [hx])) sp (fun x hx => hsp x (by simp [hx]))
end
theorem laidOut : laidOutB Tryz.prog = true := by kernel_rfl
theorem own : ownKnob Tryz.prog.godebug = none := by kernel_rfl
end Go.Proofs.YtbifijlenbibmaaGreatDoor

namespace Go.Proofs.YtbifijlenbibmaaGreatDoor
open Go.RowKit Go.ChangeShapes Go.WideShapes Go.Deep
section
variable {H : Type} {enc : TypeId × Value → H} {P : Program} {w : World} {base : Nat} {spare : Nat → Bool} {held : Bool}
theorem open_slice_fields {t e : TypeId} {fs : Array Field} {fuel : Nat} {cs : List Value} {x : DataW H × List MemPlace} (ht : P.underlying t = some (.slice e)) (he : P.underlying e = some (.struct fs))
    (hone : oneCellFields P fs = true) (hC : P.cellsOf e = fs.size) (h : DataW.trod enc P w base spare held fuel t cs = some x) :
    (cs = [.slice none 0 0] ∧ x = (.nil, [])) ∨
    ∃ (a : Addr) (len cap m : Nat) (D : Nat → DataW H) (Pl : Nat → List MemPlace), cs = [.slice (some a) len cap] ∧ base ≤ a.block ∧ len ≤ cap ∧ cap ≤ maxLen ∧ m = (if spare a.block then cap else len) ∧
      x = (.slice ((List.range len).map D) ((List.range (m - len)).map fun j => D (len + j)), MemPlace.row a (m * fs.size) ++ (List.range m).flatMap Pl) ∧
      ∀ i, i < m → ∃ (ys : List (DataW H × List MemPlace)) (n : Nat), D i = .agg (ys.map (·.1)) ∧ Pl i = ys.flatMap (·.2) ∧ ys.length = fs.size ∧
        ∀ (j : Nat) (f : Field), fs[j]? = some f → ∃ (v : Value) (y : DataW H × List MemPlace), w.cell? (a.add (i * fs.size + j)) = some v ∧ ys[j]? = some y ∧ DataW.trod enc P w base spare held n f.type [v] = some y := by
  rcases open_slice ht h with h0 | ⟨a, len, cap, m, n, D, Pl, hcs, hb, hl, hm, hmm, hx, hi⟩
  · exact .inl h0
  · refine .inr ⟨a, len, cap, m, D, Pl, hcs, hb, hl, hm, hmm, by rw [hC] at hx; exact hx, fun i him => ?_⟩
    obtain ⟨cs', hc, ht'⟩ := hi i him
    rw [hC] at hc
    obtain ⟨ys, n', hn', hy, hlen, hyl, hf⟩ := DataW.trod_struct he ht'
    obtain ⟨_, hcl, hat⟩ := World.cells?_some hc
    simp only [Prod.mk.injEq] at hy
    refine ⟨ys, n', hy.1, hy.2, hyl, fun j f hj => ?_⟩
    obtain ⟨ho, hk⟩ := hone_of hone j f hj
    have hjl : j < fs.size := (Array.getElem?_eq_some_iff.1 hj).1
    have hcell := hat j hjl
    have hv : cs'[j]? = some (cs'[j]'(by omega)) := List.getElem?_eq_getElem (by omega)
    have h1 := hf j f hj
    rw [ho, hk] at h1
    have hone' : (cs'.drop j).take 1 = [cs'[j]'(by omega)] := by
      rw [List.drop_eq_getElem_cons (by omega)]
      rfl
    rw [hone'] at h1
    have hys : ys[j]? = some (ys[j]'(by omega)) := List.getElem?_eq_getElem (by omega)
    refine ⟨_, _, ?_, hys, h1.trans hys⟩
    rw [← Go.Deep.add_add, hcell, hv]

theorem add_plain (b o n : Nat) : (⟨b, o, none⟩ : Addr).add n = ⟨b, o + n, none⟩ := by unfold Addr.add; split <;> simp_all
theorem spot_none {a : Addr} {v : Value} (h : w.cell? a = some v) : a = ⟨a.block, a.off, none⟩ ∧ a.block < w.heap.size := by
  have hl := World.block_lt_of_cell? w a h
  refine ⟨?_, hl⟩
  obtain ⟨b, o, s⟩ := a
  unfold World.cell? at h
  cases s with
  | none => rfl
  | some s => split at h <;> simp at h
theorem len_map_range {α : Type} (f : Nat → α) (n : Nat) : ((List.range n).map f).length = n := by simp

theorem open_rules {t e : TypeId} {f0 f1 f2 : Field} {fuel : Nat} {v : Value} {x : DataW H × List MemPlace} (ht : P.underlying t = some (.slice e)) (he : P.underlying e = some (.struct #[f0, f1, f2]))
    (hone : oneCellFields P #[f0, f1, f2] = true) (hC : P.cellsOf e = 3) (h0 : P.underlying f0.type = some .string) (h1 : P.underlying f1.type = some (.int .i64)) (h2 : P.underlying f2.type = some (.int .i64))
    (h : DataW.trod enc P w base spare held fuel t [v] = some x) : ∃ xs : List GRule, Sl RuleE w w.heap.size v xs ∧ SmallL xs := by
  rcases open_slice_fields ht he hone hC h with ⟨hcs, _⟩ | ⟨a, len, cap, m, D, Pl, hcs, _, hl, hm, hmm, _, hf⟩
  · simp at hcs
    subst hcs
    exact ⟨[], SlS.nil _ _, fun r hr => by simp at hr⟩
  · simp at hcs
    subst hcs
    have hmle : len ≤ m := by rw [hmm]; split <;> omega
    have H : ∀ i, ∃ r : GRule, i < len → (w.cell? (a.add (i * 3)) = some (.string r.letter) ∧ w.cell? (a.add (i * 3 + 1)) = some (.int .i64 r.left) ∧ w.cell? (a.add (i * 3 + 2)) = some (.int .i64 r.right) ∧ r.letter.size ≤ maxLen) := by
      intro i
      by_cases hi : i < len
      · obtain ⟨ys, n, _, _, _, hx⟩ := hf i (by omega)
        obtain ⟨v0, y0, g0, _, t0⟩ := hx 0 f0 rfl
        obtain ⟨v1, y1, g1, _, t1⟩ := hx 1 f1 rfl
        obtain ⟨v2, y2, g2, _, t2⟩ := hx 2 f2 rfl
        obtain ⟨s, e0, _, hs⟩ := DataW.trod_string h0 t0
        obtain ⟨p, e1, _, _⟩ := DataW.trod_int h1 t1
        obtain ⟨q, e2, _, _⟩ := DataW.trod_int h2 t2
        simp at e0 e1 e2
        subst e0 e1 e2
        exact ⟨⟨s, p, q⟩, fun _ => ⟨by simpa using g0, g1, g2, hs⟩⟩
      · exact ⟨⟨⟨#[]⟩, 0, 0⟩, fun h => absurd h hi⟩
    obtain ⟨F, hF⟩ : ∃ F : Nat → GRule, ∀ i, i < len → (w.cell? (a.add (i * 3)) = some (.string (F i).letter) ∧ w.cell? (a.add (i * 3 + 1)) = some (.int .i64 (F i).left) ∧ w.cell? (a.add (i * 3 + 2)) = some (.int .i64 (F i).right) ∧ (F i).letter.size ≤ maxLen) :=
      ⟨fun i => Classical.choose (H i), fun i hi => Classical.choose_spec (H i) hi⟩
    clear H
    refine ⟨(List.range len).map F, ⟨some a, cap, by rw [len_map_range], by rw [len_map_range]; exact hl, hm, fun hn => ?_⟩, ?_⟩
    · rw [len_map_range] at hn
      obtain ⟨g0, _⟩ := hF 0 hn
      have ha : a.add (0 * 3) = a := by simp [Addr.add]
      rw [ha] at g0
      obtain ⟨hsp, hlt⟩ := spot_none g0
      refine ⟨a.block, a.off, by rw [← hsp], hlt, fun k r hr => ⟨r.cells, rfl, fun j u hu => ?_⟩⟩
      have hk : k < len := by
        have := (List.getElem?_eq_some_iff.1 hr).1
        rw [len_map_range] at this; exact this
      have er : F k = r := by
        rw [List.getElem?_map, List.getElem?_range hk] at hr; simpa using hr
      obtain ⟨g0, g1, g2, _⟩ := hF k hk
      rw [er, hsp, add_plain] at g0 g1 g2
      match j, hu with
      | 0, hu => simp [GRule.cells] at hu; subst hu; exact g0
      | 1, hu => simp [GRule.cells] at hu; subst hu; exact g1
      | 2, hu => simp [GRule.cells] at hu; subst hu; exact g2
      | j + 3, hu => simp [GRule.cells] at hu
    · intro r hr
      rw [List.mem_map] at hr
      obtain ⟨k, hk, rfl⟩ := hr
      have := (hF k (by simpa using hk)).2.2.2
      unfold maxLen at this
      exact this

theorem open_struct1 {t : TypeId} {f : Field} {v : Value} {d : DataW H} {p : List MemPlace} {r : Reach} {b0 : Nat} (hs : P.underlying t = some (.struct #[f])) (hone : oneCellFields P #[f] = true) (hC : P.cellsOf t = 1)
    (hv : Value.okWide P w r b0 t v) (h : DataW.Trod enc P w base spare held t v d p) : ∃ v0 n x, v = .agg #[v0] ∧ DataW.trod enc P w base spare held n f.type [v0] = some x := by
  obtain ⟨cs, rfl, hsz⟩ := okWide_struct hs hv
  obtain ⟨l⟩ := cs
  match l, hsz.trans hC with
  | [c0], _ =>
    obtain ⟨fuel, hf⟩ := h
    obtain ⟨xs, n, _, _, _, hlen, hg⟩ := DataW.trod_struct hs hf
    obtain ⟨o0, k0⟩ := hone_of hone 0 f rfl
    match xs, hlen with
    | [y0], _ => exact ⟨c0, n, y0, rfl, by simpa [Value.cells, o0, k0] using hg 0 f rfl⟩
end
set_option maxRecDepth 100000 in
theorem open_gram {H : Type} {enc : TypeId × Value → H} {w : World} {base : Nat} {spare : Nat → Bool} {held : Bool} {r : Reach} {b0 : Nat} {v : Value} {d : DataW H} {p : List MemPlace}
    (hv : Value.okWide Tryz.prog w r b0 24 v) (h : DataW.Trod enc Tryz.prog w base spare held 24 v d p) : ∃ v0 xs, v = .agg #[v0] ∧ Sl RuleE w w.heap.size v0 xs ∧ SmallL xs := by
  obtain ⟨v0, n, x, rfl, hx⟩ := open_struct1 Tryz.underlying24 (by kernel_rfl) (by kernel_rfl) hv h
  obtain ⟨xs, h1, h2⟩ := open_rules Tryz.underlying22 Tryz.underlying162 (by kernel_rfl) (by kernel_rfl) Tryz.underlying9 Tryz.underlying2 Tryz.underlying2 hx
  exact ⟨v0, xs, rfl, h1, h2⟩
end Go.Proofs.YtbifijlenbibmaaGreatDoor

namespace Go.Proofs.YtbifijlenbibmaaGreatDoor
open Go.RowKit

/-- Where no function starts a goroutine, no call does. -/
theorem goes_none {P : Program} (h : P.funcs.any Func.goes = false) (f : FuncId) : P.goes f = false := by
  have h1 : ∀ g : Nat, (P.funcs[g]?).any Func.goes = false := by
    intro g
    cases hg : P.funcs[g]? with
    | none => rfl
    | some x =>
      obtain ⟨hi, rfl⟩ := Array.getElem?_eq_some_iff.1 hg
      have := Array.any_eq_false.1 h g hi
      simpa using this
  unfold Program.goes
  rw [h]
  simp only [h1]
  simp
theorem goes_by {c : OpenClaim} {P : Program} (h : P.funcs.any Func.goes = false) (hs : c.start = .entering) : false = c.goesBy P := by
  unfold OpenClaim.goesBy Program.goesAt Program.goesFrom
  rw [hs]
  cases P.funcNamed c.func with
  | none => rfl
  | some f => simp [goes_none h f]
theorem Tryz.no_go : Tryz.pinned.checked.prog.funcs.any Func.goes = false := by kernel_rfl
end Go.Proofs.YtbifijlenbibmaaGreatDoor

