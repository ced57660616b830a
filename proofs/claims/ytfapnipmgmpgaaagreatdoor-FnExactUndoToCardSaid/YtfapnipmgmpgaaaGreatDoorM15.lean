import Derived.Test.YtfapnipmgmpgaaaGreatDoorM14
import Derived.Test.YtfapnipmgmpgaaaGreatDoorM12
import Derived.Test.YtfapnipmgmpgaaaGreatDoorM11
import Derived.Test.YtfapnipmgmpgaaaGreatDoorM1
import Derived.Test.YtfapnipmgmpgaaaGreatDoorM3
import Derived.Test.YtfapnipmgmpgaaaGreatDoorM8
import Derived.Test.YtfapnipmgmpgaaaGreatDoorM9
import Derived.Test.YtfapnipmgmpgaaaGreatDoorM2
namespace Go.Proofs.YtfapnipmgmpgaaaGreatDoor
open Go.RowKit

set_option maxRecDepth 100000 in
set_option maxHeartbeats 1000000 in
theorem IndexEds_any (v : Value) (xs : List GEdit) (F : FuncId) (cap : Array Value) (p : GEdit → Bool) (w : World) (h : Sl EditE w w.heap.size v xs)
    (eg : ∀ args w, (callFunc F args).run Tryz.prog w = .ok (.enter F args) w) (hf : ∀ (W : World) x vR, Below w.heap.size w W → x ∈ xs → Sl RuleE W W.heap.size vR x.part → Calls Tryz.prog F (#[.agg #[.int .i64 x.kind, .int .i64 x.i, .int .i64 x.j, .int .i64 x.k, vR, .string x.map]] ++ cap) W fun e w' => e = .returned (.bool (p x)) ∧ Below W.heap.size W w') :
    Calls Tryz.prog 131 #[v, .func (.func F) #[] cap] w fun e w' => e = .returned (.int .i64 (idxOf p xs)) ∧ Below w.heap.size w w' := by
  obtain ⟨A, c, rfl, hc, hm, hrow⟩ := h
  unfold maxLen at hm
  have Hf := Lib.hid hf
  clear hf
  go_enter Tryz.func131, Tryz.ntmps131
  go_wp2_with fail
  go_loopw [8] (fun i wr => ∃ k : Nat, k ≤ xs.length ∧ i = .int .i64 k ∧ Below w.heap.size w wr ∧ ∀ (j : Nat) y, j < k → xs[j]? = some y → p y = false) (fun i _ => xs.length - (intOf i).toNat)
  case atStart => exact ⟨0, Nat.zero_le _, rfl, Below.refl _ _, fun j y hj => absurd hj (by omega)⟩
  case round =>
    obtain ⟨k, hk, rfl, hb, hno⟩ := hrel
    have Hno := Lib.hid hno
    clear hno
    by_cases hlt : k < xs.length
    · obtain ⟨b, o, rfl, hbl, hcell⟩ := hrow.edit (fun _ h => h) hlt
      obtain ⟨x, hx⟩ : ∃ x, xs[k]? = some x := ⟨_, List.getElem?_eq_getElem hlt⟩
      obtain ⟨vR, hec, hR⟩ := hcell k x hx
      have hec2 := hec.up hb
      have HR2 := Lib.hid (hR.up hb)
      obtain ⟨c0, c1, c2, c3, c4, c5, cl⟩ := hec2
      have hi : (k : Int) < (xs.length : Int) := by omega
      have Hx := Lib.hid hx
      clear hcell hx hec hR
      go_wp2_with fail
      refine (Hf.out _ x _ hb (List.mem_of_getElem? Hx.out) HR2.out).mono ?_
      rintro e w2 ⟨rfl, hb2⟩
      by_cases hp : p x = true
      · have Hp := Lib.hid hp
        go_wp2
        go_ret
        exact ⟨ret_int (by rw [idxOf_some Hno.out Hx.out Hp.out]), hb.trans (hb2.mono hb.size)⟩
      · have hp2 : p x = false := by simpa using hp
        have Hp := Lib.hid hp2
        clear hp
        go_wp2
        go_roundw
        case rel =>
          refine ⟨k + 1, by omega, by go_num, hb.trans (hb2.mono hb.size), fun j y hj hy => ?_⟩
          by_cases e : j = k
          · subst e
            have := Hx.out
            rw [hy] at this
            injection this with this
            rw [this]; exact Hp.out
          · exact Hno.out j y (by omega) hy
        case measure => simp [intOf]; omega
    · go_wp2
      go_ret
      exact ⟨ret_int (by
        rw [idxOf_none]
        intro x hx
        obtain ⟨j, hj, rfl⟩ := List.getElem_of_mem hx
        exact Hno.out j _ (by omega) (List.getElem?_eq_getElem hj)), hb⟩
theorem ContainsEds_any (v : Value) (xs : List GEdit) (F : FuncId) (cap : Array Value) (p : GEdit → Bool) (w : World) (h : Sl EditE w w.heap.size v xs)
    (eg : ∀ args w, (callFunc F args).run Tryz.prog w = .ok (.enter F args) w) (hf : ∀ (W : World) x vR, Below w.heap.size w W → x ∈ xs → Sl RuleE W W.heap.size vR x.part → Calls Tryz.prog F (#[.agg #[.int .i64 x.kind, .int .i64 x.i, .int .i64 x.j, .int .i64 x.k, vR, .string x.map]] ++ cap) W fun e w' => e = .returned (.bool (p x)) ∧ Below W.heap.size W w') :
    Calls Tryz.prog 100 #[v, .func (.func F) #[] cap] w fun e w' => e = .returned (.bool (xs.any p)) ∧ Below w.heap.size w w' := by
  have H := Lib.hid (IndexEds_any v xs F cap p w h eg hf)
  clear hf eg
  obtain ⟨A, c, rfl, _⟩ := h
  go_enter Tryz.func100, Tryz.ntmps100
  go_wp2_with fail
  refine H.out.mono ?_
  rintro e w2 ⟨rfl, hb2⟩
  go_wp2
  go_ret
  exact ⟨ret_bool (idxOf_any p xs), hb2⟩
set_option maxRecDepth 100000 in
theorem badEdit_any (e : GEdit) (vR : Value) (w : World) (hR : Sl RuleE w w.heap.size vR e.part) (hn : e.part.length ≤ 1048576) (hm : e.map.size ≤ maxLen) : Calls Tryz.prog 101 #[.agg #[.int .i64 e.kind, .int .i64 e.i, .int .i64 e.j, .int .i64 e.k, vR, .string e.map]] w fun r w' => r = .returned (.bool (!editOk e)) ∧ Below w.heap.size w w' := by
  have HR := Lib.hid hR
  obtain ⟨AR, cR, rfl, _⟩ := hR
  go_enter Tryz.func101, Tryz.ntmps101
  go_wp2_with fail
  refine (implValidEdit_any _ e _ ⟨_, rfl, HR.out.up (by repeat (first | exact Below.refl _ _ | (refine Below.alloc ?_ (by first | omega | (simp; done) | (simp; omega)) _) | (refine Below.setCell ?_ (by first | exact Nat.le_refl _ | (show _ ≤ _; omega) | (simp; done) | (simp; omega)) _) | refine below_drewN ?_ _ | refine Below.drew ?_))⟩ (by omega) hm).mono ?_
  rintro r w1 ⟨rfl, hb1⟩
  go_wp2
  go_ret
  exact ⟨rfl, (Below.unalloc hb1).1⟩
theorem not_any_bad (l : List GEdit) : (!l.any fun e => !editOk e) = l.all editOk := by
  induction l with
  | nil => rfl
  | cons x xs ih => simp only [List.any_cons, List.all_cons, Bool.not_or, Bool.not_not, ih]
set_option maxRecDepth 100000 in
theorem areEdits_any (v : Value) (es : List GEdit) (w : World) (h : Sl EditE w w.heap.size v es) (hs : ∀ e ∈ es, e.part.length ≤ 1048576 ∧ e.map.size ≤ maxLen) :
    Calls Tryz.prog 51 #[v] w fun r w' => r = .returned (.bool (es.all editOk)) ∧ Below w.heap.size w w' := by
  have H := Lib.hid (ContainsEds_any v es 101 #[] (fun e => !editOk e) w h (enters_of Tryz.func101 (by kernel_rfl) rfl) (fun W x vR _ hx hR => badEdit_any x vR W hR (hs x hx).1 (hs x hx).2))
  obtain ⟨A, c, rfl, _⟩ := h
  go_enter Tryz.func51, Tryz.ntmps51
  go_wp2_with fail
  refine H.out.mono ?_
  rintro r w1 ⟨rfl, hb1⟩
  go_wp2
  go_ret
  refine ⟨ret_bool ?_, hb1⟩
  exact not_any_bad es
set_option maxRecDepth 100000 in
set_option maxHeartbeats 1000000 in
theorem l07All_any (v : Value) (es : List GEdit) (w : World) (h : Sl EditE w w.heap.size v es) (hs : ∀ e ∈ es, SmallL e.part ∧ e.part.length ≤ 1048576 ∧ e.map.size ≤ maxLen) :
    Calls Tryz.prog 48 #[v] w fun r w' => r = .returned (.bool (es.all editOk)) ∧ Below w.heap.size w w' := by
  obtain ⟨A, c, rfl, hc, hm, hrow⟩ := h
  unfold maxLen at hm
  go_enter Tryz.func48, Tryz.ntmps48
  go_wp2_with fail
  go_loopw [3] (fun i wr => ∃ k : Nat, k ≤ es.length ∧ i = .int .i64 k ∧ Below w.heap.size w wr ∧ Hid (∀ (j : Nat) y, j < k → es[j]? = some y → editOk y = true)) (fun i _ => es.length - (intOf i).toNat)
  case atStart => exact ⟨0, Nat.zero_le _, rfl, Below.refl _ _, fun j y hj => absurd hj (by omega)⟩
  case round =>
    obtain ⟨k, hk, rfl, hb, Hno⟩ := hrel
    by_cases hlt : k < es.length
    · obtain ⟨b, o, rfl, hbl, hcell⟩ := hrow.edit (fun _ h => h) hlt
      obtain ⟨x, hx⟩ : ∃ x, es[k]? = some x := ⟨_, List.getElem?_eq_getElem hlt⟩
      obtain ⟨vR, hec, hR⟩ := hcell k x hx
      have HA := Lib.hid (show EditAtO wr wr.heap.size b (o + k * 6) x vR from ⟨hec.up hb, (hec.up hb).lt, hR.up hb⟩)
      have hi : (k : Int) < (es.length : Int) := by omega
      have Hx := Lib.hid hx
      obtain ⟨s1, s2, s3⟩ := hs x (List.mem_of_getElem? hx)
      clear hcell hx hec hR
      go_wp2_with fail
      refine (l07OkO_any b (o + k * 6) _ x _ HA.out s1 (by omega) s3).mono ?_
      rintro r w2 ⟨rfl, hb2⟩
      have HB2 := Lib.hid (hb.trans (hb2.mono hb.size))
      cases hp : editOk x with
      | false =>
        have Hp := Lib.hid hp
        clear hp
        go_wp2_with fail
        go_ret
        refine ⟨ret_bool ?_, HB2.out⟩
        have : ¬ es.all editOk = true := fun h => by
          have := List.all_eq_true.1 h x (List.mem_of_getElem? Hx.out)
          rw [Hp.out] at this; cases this
        simpa using this
      | true =>
        have Hp := Lib.hid hp
        clear hp
        go_wp2_with fail
        go_roundw
        case rel =>
          refine ⟨k + 1, by omega, by go_num, HB2.out, Lib.hid fun j y hj hy => ?_⟩
          by_cases e : j = k
          · subst e
            have := Hx.out
            rw [hy] at this
            injection this with this
            rw [this]; exact Hp.out
          · exact Hno.out j y (by omega) hy
        case measure => simp [intOf]; omega
    · go_wp2
      go_ret
      refine ⟨ret_bool ?_, hb⟩
      symm
      rw [List.all_eq_true]
      intro x hx
      obtain ⟨j, hj, rfl⟩ := List.getElem_of_mem hx
      exact Hno.out j _ (by omega) (List.getElem?_eq_getElem hj)
end Go.Proofs.YtfapnipmgmpgaaaGreatDoor

namespace Go.Proofs.YtfapnipmgmpgaaaGreatDoor
open Go.RowKit

end Go.Proofs.YtfapnipmgmpgaaaGreatDoor

namespace Go.Proofs.YtfapnipmgmpgaaaGreatDoor
open Go.RowKit

end Go.Proofs.YtfapnipmgmpgaaaGreatDoor

namespace Go.Proofs.YtfapnipmgmpgaaaGreatDoor
open Go.RowKit

theorem szRs_le2 (xs : List GRule) (left : Int) (h2 : 0 ≤ szRs xs left) : szRs xs left + xs.length ≤ left := by
  unfold szRs at *
  split
  · rename_i h3; rw [if_pos h3] at h2; omega
  · rename_i h3
    have := szRR_le xs (szN xs.length left) (by omega)
    unfold szN at *
    split at h3 <;> (try omega)
theorem szE_sum {e : GEdit} {left : Int} (h : 0 ≤ szE e left) : szE e left + e.part.length ≤ left := by
  unfold szE at *
  split at h
  · omega
  · rename_i h1
    have h3 := szRs_le2 e.part left (by omega)
    split at h
    · omega
    · rename_i h4
      rw [if_neg h1, if_neg h4]; omega
theorem szEE_sum (es : List GEdit) : ∀ left : Int, 0 ≤ left → 0 ≤ szEE es left → szEE es left + partsLen es ≤ left := by
  induction es with
  | nil => intro l _ h; simp [szEE, partsLen]
  | cons x xs ih =>
    intro l hl h
    unfold szEE at h ⊢
    split at h
    · omega
    · rename_i h1
      rw [if_neg h1]
      have h2 := szE_sum (e := x) (left := l) (by omega)
      have h3 := ih _ (by omega) h
      have e : partsLen (x :: xs) = x.part.length + partsLen xs := by simp [partsLen]
      rw [e]; omega
theorem szES_sum {es : List GEdit} {left : Int} (h : 0 ≤ szES es left) : (es.length : Int) + partsLen es ≤ left := by
  unfold szES at h
  split at h
  · omega
  · have := szEE_sum es _ (by omega) h
    omega
theorem markEnd_eq (es : List GEdit) : ∀ k, markEnd k es = k + 5 * es.length + 3 * partsLen es := by
  induction es with
  | nil => intro k; simp [markEnd, partsLen]
  | cons x xs ih =>
    intro k
    have e : partsLen (x :: xs) = x.part.length + partsLen xs := by simp [partsLen]
    unfold markEnd
    rw [ih, e, List.length_cons]
    unfold mkK
    omega
end Go.Proofs.YtfapnipmgmpgaaaGreatDoor

namespace Go.Proofs.YtfapnipmgmpgaaaGreatDoor
open Go.RowKit

/-! what UndoTo answers -/
def undTop (l : List (List GRule)) : List GRule := l.getD (l.length - 1) []
def undStep (o : Option (List (List GRule))) (e : GEdit) : Option (List (List GRule)) := o.bind fun l => if applyCode (undTop l) e = 0 then some (l ++ [applyOut (undTop l) e]) else none
def undFold (xs : List GRule) (es : List GEdit) : Option (List (List GRule)) := es.foldl undStep (some [xs])
def noE : GEdit := ⟨0, 0, 0, 0, [], ⟨#[]⟩⟩
def undBackStep (gs : List (List GRule)) (es : List GEdit) (o : Option (List GEdit)) (i : Nat) : Option (List GEdit) :=
  o.bind fun l => if invCode (gs.getD i []) (es.getD i noE) = 0 then some (l ++ invOut (gs.getD i []) (es.getD i noE)) else none
def undBack (gs : List (List GRule)) (es : List GEdit) (n : Nat) : Option (List GEdit) := (List.range n).foldl (fun o t => undBackStep gs es o (es.length - 1 - t)) (some [])
def undS (xs : List GRule) (es : List GEdit) (count : Int) : Option (Option (List GEdit)) := (undFold xs es).map fun gs => undBack gs es (es.length - count.toNat)
def undCode (xs : List GRule) (es : List GEdit) (count : Int) : Int :=
  if gramOk xs && es.all editOk then
    (if 60 < es.length ∨ count < 0 ∨ es.length < count then 2 else match undS xs es count with | none => 4 | some none => 3 | some (some _) => 0)
  else 1
def undOut (xs : List GRule) (es : List GEdit) (count : Int) : List GEdit :=
  if undCode xs es count = 0 then ((undS xs es count).getD none).getD [] else []
theorem und_bad {xs : List GRule} {es : List GEdit} {count : Int} {c : Int} (h : undCode xs es count = c) (hc : c ≠ 0) : undOut xs es count = [] ∧ undCode xs es count = c := ⟨by unfold undOut; rw [if_neg (by omega)], h⟩
theorem undStep_yes {l : List (List GRule)} {e : GEdit} (h : applyCode (undTop l) e = 0) : undStep (some l) e = some (l ++ [applyOut (undTop l) e]) := by simp [undStep, h]
theorem undStep_no {l : List (List GRule)} {e : GEdit} (h : ¬ applyCode (undTop l) e = 0) : undStep (some l) e = none := by simp [undStep, h]
theorem undFold_none (es : List GEdit) : es.foldl undStep none = none := by
  induction es with
  | nil => rfl
  | cons x r ih => exact ih
theorem undFold_take {xs : List GRule} {es : List GEdit} {k : Nat} {e : GEdit} (h : es[k]? = some e) : undFold xs (es.take (k + 1)) = undStep (undFold xs (es.take k)) e := by
  unfold undFold
  rw [List.take_add_one, h]; simp
theorem undFold_stop {xs : List GRule} {es : List GEdit} {k : Nat} (h : undFold xs (es.take k) = none) : undFold xs es = none := by
  unfold undFold at h ⊢
  rw [← List.take_append_drop k es, List.foldl_append, h, undFold_none]
/-- All states are right. -/
theorem undFold_ok {xs : List GRule} {es : List GEdit} {gs : List (List GRule)} (hx : gramOk xs = true) (h : undFold xs es = some gs) : ∀ g ∈ gs, gramOk g = true := by
  unfold undFold at h
  suffices H : ∀ (l : List GEdit) (a o : List (List GRule)), (∀ g ∈ a, gramOk g = true) → l.foldl undStep (some a) = some o → ∀ g ∈ o, gramOk g = true from H es _ _ (fun g hg => by simp at hg; rw [hg]; exact hx) h
  intro l
  induction l with
  | nil => intro a o ha h; simp at h; rw [← h]; exact ha
  | cons x r ih =>
    intro a o ha h
    rw [List.foldl_cons] at h
    by_cases hc : applyCode (undTop a) x = 0
    · rw [undStep_yes hc] at h
      refine ih _ _ (fun g hg => ?_) h
      rcases List.mem_append.1 hg with hg | hg
      · exact ha g hg
      · simp at hg; rw [hg]; exact applyOut_ok _ _
    · rw [undStep_no hc, undFold_none] at h; cases h
theorem undBack_succ (gs : List (List GRule)) (es : List GEdit) (n : Nat) : undBack gs es (n + 1) = undBackStep gs es (undBack gs es n) (es.length - 1 - n) := by
  unfold undBack; rw [List.range_succ, List.foldl_append]; rfl
theorem undBack_stop {gs : List (List GRule)} {es : List GEdit} {k : Nat} (h : undBack gs es k = none) : ∀ n, k ≤ n → undBack gs es n = none := by
  intro n hn
  induction n with
  | zero => have : k = 0 := by omega
            subst this; exact h
  | succ n ih =>
    rcases Nat.lt_or_ge k (n + 1) with h1 | h1
    · rw [undBack_succ, ih (by omega)]; rfl
    · have : k = n + 1 := by omega
      subst this; exact h
/-- The code of an inverse whose edit could be applied. -/
theorem invCode_03 {xs : List GRule} {e : GEdit} (h : applyCode xs e = 0) : invCode xs e = 0 ∨ invCode xs e = 3 := by
  unfold invCode; rw [if_pos h]; split <;> simp

/-! rows of grammars -/
theorem Tryz.infoGr : (Tryz.prog.info? 31).map (fun i => (i.zero, i.size, i.bytes)) = some (some (.agg #[.slice none 0 0]), 1, 24) := by kernel_rfl
/-- A row of grammars of one's own; the rules lie elsewhere. -/
def OGrs (w : World) (lo : Nat) (v : Value) (gs : List (List GRule)) : Prop :=
  ∃ us : List Value, us.length = gs.length ∧ w.ownsRow lo 31 1 v gs.length us ∧ ∀ (i : Nat) u g, us[i]? = some u → gs[i]? = some g → SlS RuleE w (fun b => b < w.heap.size ∧ some b ≠ v.ownBlock) u g
theorem OGrs.up {w w' : World} {lo : Nat} {v : Value} {gs : List (List GRule)} (h : OGrs w lo v gs) (hb : Below w.heap.size w w') : OGrs w' lo v gs := by
  obtain ⟨us, h1, h2, h3⟩ := h
  refine ⟨us, h1, ownsRow_below h2 hb, fun i u g hu hg => ?_⟩
  exact ((h3 i u g hu hg).keep (fun b hb' => hb.block b hb'.1)).more fun b hb' => ⟨Nat.lt_of_lt_of_le hb'.1 hb.size, hb'.2⟩
theorem OGrs.at_ {w : World} {lo : Nat} {v : Value} {gs : List (List GRule)} (h : OGrs w lo v gs) {i : Nat} {x : List GRule} (hx : gs[i]? = some x) :
    ∃ g cap u, v = .slice (some ⟨g, 0, none⟩) gs.length cap ∧ lo ≤ g ∧ g < w.heap.size ∧ gs.length ≤ cap ∧ cap ≤ maxLen ∧ w.cell? ⟨g, i, none⟩ = some u ∧ Sl RuleE w w.heap.size u x := by
  obtain ⟨us, h1, h2, h3⟩ := h
  have hi : i < gs.length := (List.getElem?_eq_some_iff.1 hx).1
  obtain ⟨g, cap, rfl, h4, h5, h6, h7⟩ := own_form h2 (by omega)
  have hu : us[i]? = some us[i] := List.getElem?_eq_getElem (by omega)
  exact ⟨g, cap, us[i], rfl, h4, h5, h6.1, h6.2, h7 i _ hu, (h3 i _ x hu hx).more fun b hb => hb.1⟩
theorem sl_one {w : World} {S : Nat → Prop} {u : Value} {x : List GRule} (h : SlS RuleE w S u x) : u.oneCell' = true := by
  obtain ⟨A, c, rfl, _⟩ := h; rfl
theorem ogrs_one {W : World} {lo N : Nat} {u : Value} {x : List GRule} (hN : N = W.heap.size) (h : lo ≤ W.heap.size) (hu : Sl RuleE W W.heap.size u x) : OGrs (W.alloc (.cells #[u] 31)) lo (.slice (some ⟨N, 0, none⟩) 1 1) [x] := by
  subst hN
  refine ⟨[u], rfl, World.ownsRow_lit W #[u] 1 h (by decide) rfl, fun i u' g hu' hg => ?_⟩
  have hi : i = 0 := by
    have := (List.getElem?_eq_some_iff.1 hg).1
    simp at this; exact this
  subst hi
  simp at hu' hg
  subst hu' hg
  refine (hu.keep (fun b hb => Below.heap_alloc W _ b hb)).more fun b hb => ⟨by simp; omega, ?_⟩
  simp [Value.ownBlock]; omega
theorem push_gr {W : World} {ops : Array Oper} {rest : List Oper} {o : Oper} {a : Act} {Q : Exit → Act → World → Prop} (hgd : o.guard = none) (s x : Operand)
    (ho : o.op = .call { callee := .builtin .append, args := #[s, x], argTypes := #[88, 88] }) {u : Value} {y : List GRule} {lo : Nat} {v : Value} {gs : List (List GRule)}
    (hs : a.eval s = v) {N : Nat} (hx : a.eval x = .slice (some ⟨N, 0, none⟩) 1 1) (hN : N = W.heap.size) (hown : OGrs W lo v gs) (hlen : gs.length ≤ 1048576) (hbase : lo ≤ W.heap.size)
    (hu : Sl RuleE W W.heap.size u y) (hne : ∀ g, v.ownBlock = some g → SlS RuleE W (fun b => b < W.heap.size ∧ b ≠ g) u y)
    (h : ∀ g' c' w', OGrs w' lo (.slice (some ⟨g', 0, none⟩) (gs.length + 1) c') (gs ++ [y]) → (v.ownBlock = some g' ∨ g' = W.heap.size + 1) → W.grownBy w' v.ownBlock → Below lo W w' → wpList Tryz.prog ops Q rest (a.put o.dst (.slice (some ⟨g', 0, none⟩) (gs.length + 1) c')) w') :
    wpList Tryz.prog ops Q (o :: rest) a (W.alloc (.cells #[u] 31)) := by
  subst hN
  obtain ⟨us, h1, hrow, h3⟩ := hown
  have hu1 : u.oneCell' = true := sl_one hu
  obtain ⟨i0, hi0, hz0, hz1, hz2⟩ := info_parts Tryz.infoGr
  refine wpList_push2 hgd s x 88 ho i0 _ 1 24 Tryz.underlying88 hi0 hz0 hz1 hz2 rfl (by decide) hs hx rfl (by simpa using hu1) hrow (by omega) (by omega) hbase ?_
  intro v' w' k1 k2 k3
  have hg : W.grownBy w' v.ownBlock := ⟨k2.os, k2.tape, k2.output, Nat.le_trans (by simp) k2.size, fun y hy hne => (k2.block y (by simp; omega) hne).trans (Below.heap_alloc W _ y hy)⟩
  have hb : Below lo W w' := (Below.refl lo W).grown hg hbase (fun y hy => (World.ownsRow.lt hrow y hy).1)
  have k1' : w'.ownsRow lo 31 1 v' (gs.length + 1) (us ++ [u]) := by simpa using k1
  obtain ⟨g', c', rfl, _⟩ := own_form k1' (by omega)
  have k3' : v.ownBlock = some g' ∨ g' = W.heap.size + 1 := k3.imp (fun q => q.symm.trans rfl) (fun q => by simpa [Value.ownBlock] using q)
  refine h g' c' w' ⟨us ++ [u], by simp [h1], by simpa using k1', fun i u' g hu' hg' => ?_⟩ k3' hg hb
  have hkeep : ∀ {z : Value} {t : List GRule}, SlS RuleE W (fun b => b < W.heap.size ∧ some b ≠ v.ownBlock) z t → SlS RuleE w' (fun b => b < w'.heap.size ∧ some b ≠ (Value.slice (some ⟨g', 0, none⟩) (gs.length + 1) c').ownBlock) z t := by
    intro z t ht
    refine (ht.keep (fun b hb' => hg.block b hb'.1 hb'.2)).more fun b hb' => ⟨Nat.lt_of_lt_of_le hb'.1 hg.size, ?_⟩
    simp only [Value.ownBlock]
    intro e
    simp at e
    rcases k3' with k | k
    · rw [k] at hb'; exact hb'.2 (by rw [e])
    · omega
  rcases Nat.lt_or_ge i us.length with hlt | hge
  · rw [List.getElem?_append_left hlt] at hu'
    rw [List.getElem?_append_left (by omega)] at hg'
    exact hkeep (h3 i u' g hu' hg')
  · rw [List.getElem?_append_right hge] at hu'
    rw [List.getElem?_append_right (by omega)] at hg'
    have hi0 : i - us.length = 0 := by
      have := (List.getElem?_eq_some_iff.1 hu').1
      simp at this; omega
    rw [hi0] at hu'
    rw [show i - gs.length = 0 by omega] at hg'
    simp at hu' hg'
    subst hu' hg'
    refine hkeep ?_
    cases hv : v.ownBlock with
    | none => exact hu.more fun b hb => ⟨hb, by simp⟩
    | some g0 => exact (hne g0 hv).more fun b hb => ⟨hb.1, by simpa using hb.2⟩

/-! a row of edits behind a row of edits -/
theorem ep_one {W : World} {lo hi : Nat} {v : Value} {es : List GEdit} (h : OEds W lo hi v es) : ∃ ps r A c, ps.map Prod.fst = es ∧ v = .slice A es.length c ∧ W.ownsRow lo 36 6 v es.length (ps.flatMap epCells) ∧ PartsR W v lo hi r ps ∧ (∀ u ∈ ps.flatMap epCells, u.oneCell' = true) := by
  obtain ⟨ps, r, h1, h2, h3, h4, h5⟩ := h
  obtain ⟨A, c, hv, _⟩ := own_nil h2
  refine ⟨ps, r, A, c, h1, hv, h2, h5, fun u hu => ?_⟩
  obtain ⟨p, hp, hup⟩ := List.mem_flatMap.1 hu
  obtain ⟨i, hi, hpi⟩ := List.getElem_of_mem hp
  have h6 := (h5.at_ i p (by rw [← hpi]; exact List.getElem?_eq_getElem hi)).sl
  obtain ⟨A2, c2, e2, _⟩ := h6
  simp only [epCells, List.mem_cons, List.not_mem_nil, or_false] at hup
  rcases hup with rfl | rfl | rfl | rfl | rfl | rfl <;> first | rfl | (rw [e2]; rfl)
theorem PartsR.app {w : World} {v v2 : Value} {lo hi lo2 hi2 : Nat} {r r2 : Nat → Nat} {ps qs : List (GEdit × Value)} (h : PartsR w v lo hi r ps) (h2 : PartsR w v2 lo2 hi2 r2 qs) (h3 : hi ≤ lo2) (hv : ∀ g, v.ownBlock = some g → g < lo2 ∨ hi2 ≤ g) (hl : lo ≤ hi) (hl2 : lo2 ≤ hi2) : ∃ r', PartsR w v lo hi2 r' (ps ++ qs) := by
  refine ⟨fun j => if j < 2 * ps.length then r j else r2 (j - 2 * ps.length), ?_, ?_, ?_, ?_⟩
  · have := h.low
    have a2 := h2.low
    have a3 := h2.mono 0 (0 - 2 * ps.length) (by omega)
    split <;> omega
  · intro i j hij
    have h4 := h.mono i j hij
    have h5 := h.high i
    have h6 := h2.mono (i - 2 * ps.length) (j - 2 * ps.length) (by omega)
    have h7 := h2.mono 0 (j - 2 * ps.length) (by omega)
    have h8 := h2.low
    repeat' split
    all_goals omega
  · intro i
    have h5 := h.high i
    have h6 := h2.high (i - 2 * ps.length)
    split <;> omega
  · intro i p hp
    rcases Nat.lt_or_ge i ps.length with hlt | hge
    · rw [List.getElem?_append_left hlt] at hp
      have := h.at_ i p hp
      simp only [show 2 * i < 2 * ps.length by omega, show 2 * i + 1 < 2 * ps.length by omega, if_true]
      exact this
    · rw [List.getElem?_append_right hge] at hp
      have := h2.at_ _ p hp
      simp only [show ¬ (2 * i < 2 * ps.length) by omega, show ¬ (2 * i + 1 < 2 * ps.length) by omega, if_false]
      rw [show 2 * i - 2 * ps.length = 2 * (i - ps.length) by omega, show 2 * i + 1 - 2 * ps.length = 2 * (i - ps.length) + 1 by omega]
      refine ⟨this.1, fun g hg => ?_⟩
      have k1 := hv g hg
      have k2 := h2.low
      have k3 := h2.mono 0 (2 * (i - ps.length)) (by omega)
      have k4 := h2.high (2 * (i - ps.length) + 1)
      omega
set_option maxRecDepth 100000 in
/-- 'append(s, more...)' of a row of edits. -/
theorem append_edits {W : World} {ops : Array Oper} {rest : List Oper} {o : Oper} {a : Act} {Q : Exit → Act → World → Prop} (hgd : o.guard = none) (s x : Operand)
    (ho : o.op = .call { callee := .builtin .append, args := #[s, x], argTypes := #[47, 47] }) {lo hp lo2 hi2 : Nat} {v v2 : Value} {es es2 : List GEdit}
    (hs : a.eval s = v) (hx : a.eval x = v2) (hown : OEdP W lo hp v es) (hown2 : OEds W lo2 hi2 v2 es2) (hlen : es.length + es2.length ≤ 1048576) (hbase : lo ≤ W.heap.size)
    (h1 : hp ≤ lo2) (h2 : ∀ g, v.ownBlock = some g → g < lo2) (h3 : lo ≤ hp) (h4 : lo2 ≤ hi2) (h5 : hi2 ≤ W.heap.size)
    (h : ∀ A' c' w', OEdP w' lo hi2 (.slice A' (es.length + es2.length) c') (es ++ es2) → (∀ g, (Value.slice A' (es.length + es2.length) c').ownBlock = some g → g < w'.heap.size) → W.grownBy w' v.ownBlock → Below lo W w' → wpList Tryz.prog ops Q rest (a.put o.dst (.slice A' (es.length + es2.length) c')) w') :
    wpList Tryz.prog ops Q (o :: rest) a W := by
  refine wpList_plain hgd fun _ hK => ?_
  obtain ⟨ps, r, hm, hrow, hP⟩ := hown
  obtain ⟨qs, r2, A, c, hm2, rfl, hrow2, hP2, hone⟩ := ep_one hown2
  obtain ⟨i0, hi0, hz0, hz1, hz2⟩ := info_parts Tryz.infoEd
  have hps : ps.length = es.length := by rw [← hm]; simp
  have hqs : qs.length = es2.length := by rw [← hm2]; simp
  have H : ∃ v' w', (Builtin.append_ #[47, 47] o.type #[v, .slice A es2.length c]).run Tryz.prog W = .ok v' w' ∧ w'.ownsRow lo 36 6 v' (es.length + es2.length) ((ps ++ qs).flatMap epCells) ∧ W.grownBy w' v.ownBlock ∧ (v'.ownBlock = v.ownBlock ∨ v'.ownBlock = some W.heap.size) := by
    rcases A with _ | ad
    · have h0 : es2 = [] := by
        rcases Nat.eq_zero_or_pos es2.length with h0 | h0
        · exact List.eq_nil_of_length_eq_zero h0
        · obtain ⟨g, cap, h, _⟩ := own_form hrow2 h0; cases h
      subst h0
      have hq0 : qs = [] := List.eq_nil_of_length_eq_zero (by simpa using hqs)
      subst hq0
      exact ⟨v, W, run_append_of_nil W lo _ _ 36 i0 6 Tryz.underlying47 hi0 v _ _ hrow c, by simpa using hrow, World.grownBy.refl W _, .inl rfl⟩
    · have hcells : ∀ j u, (qs.flatMap epCells)[j]? = some u → W.cell? (ad.add j) = some u := by
        intro j u hu
        have hjl : j < (qs.flatMap epCells).length := (List.getElem?_eq_some_iff.1 hu).1
        rw [ep_len] at hjl
        obtain ⟨g, cap, hv, _, _, _, hc⟩ := own_form hrow2 (by omega)
        have had : ad = ⟨g, 0, none⟩ := by injection hv with hv _ _; injection hv
        have := hc j u hu
        rw [had]
        have ha : (⟨g, 0, none⟩ : Addr).add j = ⟨g, j, none⟩ := by unfold Addr.add; split <;> simp_all
        rw [ha]; exact this
      obtain ⟨v', w', hrun, h2, h3, _, h5⟩ := run_append_own_at (P := Tryz.prog) W lo 47 o.type 36 i0 _ 6 72 Tryz.underlying47 hi0 hz0 hz1 hz2 rfl (by decide) v _ _ hrow ad es2.length c (qs.flatMap epCells)
        (by rw [ep_len, hqs]) hcells hone (by simp only [maxLen]; omega) (by omega) hbase
      exact ⟨v', w', hrun, by simpa using h2, h3, h5⟩
  obtain ⟨v', w', hrun, k1, k2, k3⟩ := H
  unfold Oper.wp execOp
  simp only [ho, resolve, invoke, builtin, Sem.run_bind, Sem.run_pure, Result.andThen_ok, List.map_toArray, List.map_cons, List.map_nil, hs, hx, hrun]
  have hb : Below lo W w' := (Below.refl lo W).grown k2 hbase (fun y hy => (World.ownsRow.lt hrow y hy).1)
  obtain ⟨A', c', rfl, _⟩ := own_nil k1
  refine hK _ _ (h A' c' w' ?_ (fun g hg => (World.ownsRow.lt k1 g hg).2) k2 hb)
  obtain ⟨r', hr'⟩ := hP.app hP2 h1 (fun g hg => .inl (h2 g hg)) h3 h4
  refine ⟨ps ++ qs, r', by rw [List.map_append, hm, hm2], by simpa using k1, ?_⟩
  refine PartsR.reval (v := v) (N := W.heap.size) (hr'.keep (fun y _ hy hne => k2.block y (by omega) (fun e => hne e.symm)) k2.size) k3 (by omega)
end Go.Proofs.YtfapnipmgmpgaaaGreatDoor

namespace Go.Proofs.YtfapnipmgmpgaaaGreatDoor
open Go.RowKit

theorem OEdP.lt {w : World} {lo hp : Nat} {v : Value} {es : List GEdit} (h : OEdP w lo hp v es) : ∀ g, v.ownBlock = some g → lo ≤ g ∧ g < w.heap.size := by
  obtain ⟨ps, r, h1, h2, h3⟩ := h
  exact fun g hg => World.ownsRow.lt h2 g hg
theorem undTop_at {l : List (List GRule)} {k : Nat} {x : List GRule} (h : l.length = k + 1) (hx : l[k]? = some x) : undTop l = x := by
  unfold undTop
  rw [h, Nat.add_sub_cancel, List.getD_eq_getElem?_getD, hx]; rfl
theorem sl_far {w : World} {lo : Nat} {u : Value} {x : List GRule} {n c : Nat} {A : Option Addr} (h : OwnRules w lo u x) (hv : ∀ g, (Value.slice A n c).ownBlock = some g → g < lo) : ∀ g, (Value.slice A n c).ownBlock = some g → SlS RuleE w (fun b => b < w.heap.size ∧ b ≠ g) u x :=
  fun g hg => h.slS fun g' hg' => ⟨(World.ownsRow.lt h g' hg').2, by have := (World.ownsRow.lt h g' hg').1; have := hv g hg; omega⟩
theorem undS_of {xs : List GRule} {es : List GEdit} {count : Int} {gs : List (List GRule)} (hg : gramOk xs = true) (ha : es.all editOk = true) (h1 : ¬ 60 < es.length) (h2 : 0 ≤ count) (h3 : count ≤ es.length) (hf : undFold xs es = some gs) :
    (∀ l, undBack gs es (es.length - count.toNat) = some l → undOut xs es count = l ∧ undCode xs es count = 0) ∧ (undBack gs es (es.length - count.toNat) = none → undOut xs es count = [] ∧ undCode xs es count = 3) := by
  have hs : undS xs es count = some (undBack gs es (es.length - count.toNat)) := by simp [undS, hf]
  have hc : ∀ o, undBack gs es (es.length - count.toNat) = o → undCode xs es count = (match o with | none => 3 | some _ => 0) := by
    rintro o rfl
    unfold undCode
    rw [hg, ha, if_pos (by rfl), if_neg (by omega), hs]
    cases undBack gs es (es.length - count.toNat) <;> rfl
  refine ⟨fun l hl => ?_, fun hl => ?_⟩
  · have := hc _ hl
    exact ⟨by unfold undOut; rw [if_pos this, hs, hl]; rfl, this⟩
  · have := hc _ hl
    exact und_bad this (by decide)
theorem und_none {xs : List GRule} {es : List GEdit} {count : Int} (hg : gramOk xs = true) (ha : es.all editOk = true) (h1 : ¬ 60 < es.length) (h2 : 0 ≤ count) (h3 : count ≤ es.length) (hf : undFold xs es = none) : undOut xs es count = [] ∧ undCode xs es count = 4 := by
  refine und_bad ?_ (by decide)
  unfold undCode undS
  rw [hg, ha, if_pos (by rfl), if_neg (by omega), hf]; rfl
theorem undBackStep_yes {gs : List (List GRule)} {es l : List GEdit} {i : Nat} {g : List GRule} {e : GEdit} (hg : gs[i]? = some g) (he : es[i]? = some e) (h : invCode g e = 0) : undBackStep gs es (some l) i = some (l ++ invOut g e) := by
  have h1 : gs.getD i [] = g := by rw [List.getD_eq_getElem?_getD, hg]; rfl
  have h2 : es.getD i noE = e := by rw [List.getD_eq_getElem?_getD, he]; rfl
  unfold undBackStep; rw [h1, h2, Option.bind_some, if_pos h]
theorem undBackStep_no {gs : List (List GRule)} {es l : List GEdit} {i : Nat} {g : List GRule} {e : GEdit} (hg : gs[i]? = some g) (he : es[i]? = some e) (h : ¬ invCode g e = 0) : undBackStep gs es (some l) i = none := by
  have h1 : gs.getD i [] = g := by rw [List.getD_eq_getElem?_getD, hg]; rfl
  have h2 : es.getD i noE = e := by rw [List.getD_eq_getElem?_getD, he]; rfl
  unfold undBackStep; rw [h1, h2, Option.bind_some, if_neg h]
/-- Behind all edits, each could be applied to the state ahead of it. -/
theorem undFold_at {xs : List GRule} {es : List GEdit} {gs : List (List GRule)} (h : undFold xs es = some gs) : ∀ (i : Nat) g e, gs[i]? = some g → es[i]? = some e → applyCode g e = 0 := by
  unfold undFold at h
  suffices H : ∀ (l : List GEdit) (a o : List (List GRule)) (n : Nat), a.length = n + 1 → l.foldl undStep (some a) = some o → (∀ i, i ≤ n → o[i]? = a[i]?) ∧ ∀ (i : Nat) g e, n ≤ i → o[i]? = some g → l[i - n]? = some e → applyCode g e = 0 by
    intro i g e hg he
    exact (H es _ _ 0 rfl h).2 i g e (Nat.zero_le _) hg (by simpa using he)
  intro l
  induction l with
  | nil => intro a o n ha h; simp at h; subst h; exact ⟨fun _ _ => rfl, fun i g e _ _ he => by simp at he⟩
  | cons x r ih =>
    intro a o n ha h
    rw [List.foldl_cons] at h
    by_cases hc : applyCode (undTop a) x = 0
    · rw [undStep_yes hc] at h
      obtain ⟨k1, k2⟩ := ih _ _ (n + 1) (by simp [ha]) h
      refine ⟨fun i hi => ?_, fun i g e hi hg he => ?_⟩
      · rw [k1 i (by omega), List.getElem?_append_left (by omega)]
      · rcases Nat.lt_or_ge n i with hlt | hge
        · refine k2 i g e (by omega) hg ?_
          rw [show i - n = (i - (n + 1)) + 1 by omega] at he
          simpa using he
        · have hin : i = n := by omega
          subst hin
          rw [k1 i (by omega), List.getElem?_append_left (by omega)] at hg
          simp at he
          subst he
          rw [← undTop_at ha hg]; exact hc
    · rw [undStep_no hc, undFold_none] at h; cases h
theorem inv_len2 (xs : List GRule) (e : GEdit) : (invOut xs e).length ≤ 2 := by
  unfold invOut
  split
  · cases h : invL xs (lsOf xs) e with
    | none => simp
    | some l =>
      unfold invL at h
      repeat' split at h
      all_goals (try cases h)
      all_goals (try (simp; done))
      unfold invD
      repeat' split
      all_goals simp
  · simp
set_option maxRecDepth 100000 in
set_option maxHeartbeats 4000000 in
theorem specUndoTo_any (vG vE : Value) (xs : List GRule) (es : List GEdit) (count : Int) (w : World) (hG : Sl RuleE w w.heap.size vG xs) (hE : Sl EditE w w.heap.size vE es) (hsm : SmallL xs) (hs : ∀ e ∈ es, SmallL e.part ∧ e.part.length ≤ 1048576 ∧ e.map.size ≤ maxLen) :
    Calls Tryz.prog 31 #[.agg #[vG], vE, .int .i64 count] w (ERes (undOut xs es count) (undCode xs es count) w) := by
  have HG := Lib.hid hG
  have HE := Lib.hid hE
  have HS := Lib.hid hs
  obtain ⟨AG, cG, rfl, _⟩ := hG
  obtain ⟨AE, cE, rfl, hcE, hmE, _⟩ := hE
  unfold maxLen at hmE
  clear hs
  have b1 := (Below.refl w.heap.size w).alloc (Nat.le_refl _) (Obj.cells #[.slice AG xs.length cG] 31)
  have KP := Blk.new w #[.slice AG xs.length cG] 31
  go_enter Tryz.func31, Tryz.ntmps31
  go_upto_region 1 with fail
  generalize (w.alloc (Obj.cells #[.slice AG xs.length cG] 31)) = w0 at *
  have KB := Lib.hid b1
  clear b1
  have cP0_1 := Blk.cell (i := 0) (v := .slice AG xs.length cG) KP rfl
  have lP_2 := Blk.lt KP
  go_wp2_with fail
  refine (l02Ok_any w.heap.size 0 _ xs _ cP0_1 (Blk.lt KP) (HG.out.up KB.out) hsm).mono ?_
  rintro e w1 ⟨rfl, hb_3⟩
  have z_w1 : w0.heap.size ≤ w1.heap.size := hb_3.size
  have KB_4 := Lib.hid (Below.tr KB.out hb_3)
  have KP_5 := Blk.up KP hb_3
  clear cP0_1 lP_2 KB KP
  cases hg : gramOk xs with
  | false =>
    have HQ := Lib.hid (und_bad (xs := xs) (es := es) (count := count) (c := 1) (by simp [undCode, hg]) (by decide))
    clear hg
    go_wp2_with fail
    refine bodyPost_ret (v := .tuple #[.slice (some ⟨w1.heap.size, 0, none⟩) 0 0, .int .i64 1]) (by simp [results, Tryz.results31, go_sem]) rfl ?_
    rw [HQ.out.1, HQ.out.2]
    exact ERes.mk1 (lo := w1.heap.size) (Below.alloc KB_4.out (Below.size KB_4.out) _) (oeds_empty rfl (Nat.le_refl _)) (Below.size KB_4.out)
  | true =>
    have HGG := Lib.hid hg
    clear hg
    go_wp2_with fail
    refine (l07All_any _ es _ (HE.out.up KB_4.out) HS.out).mono ?_
    rintro e w2 ⟨rfl, hb_6⟩
    have z_w2 : w1.heap.size ≤ w2.heap.size := hb_6.size
    have KB_7 := Lib.hid (Below.tr KB_4.out hb_6)
    have KP_8 := Blk.up KP_5 hb_6
    clear hb_3 KB_4 KP_5
    cases ha : es.all editOk with
    | false =>
      have HQ := Lib.hid (und_bad (xs := xs) (es := es) (count := count) (c := 1) (by simp [undCode, ha]) (by decide))
      clear ha
      go_wp2_with fail
      refine bodyPost_ret (v := .tuple #[.slice (some ⟨w2.heap.size, 0, none⟩) 0 0, .int .i64 1]) (by simp [results, Tryz.results31, go_sem]) rfl ?_
      rw [HQ.out.1, HQ.out.2]
      exact ERes.mk1 (lo := w2.heap.size) (Below.alloc KB_7.out (Below.size KB_7.out) _) (oeds_empty rfl (Nat.le_refl _)) (Below.size KB_7.out)
    | true =>
      have HAA := Lib.hid ha
      clear ha
      by_cases hl : 60 < es.length
      · have HQ := Lib.hid (und_bad (xs := xs) (es := es) (count := count) (c := 2) (by unfold undCode; rw [HGG.out, HAA.out, if_pos (by rfl), if_pos (Or.inl hl)]) (by decide))
        have hli : (60 : Int) < (es.length : Int) := by omega
        go_wp2_with fail
        refine bodyPost_ret (v := .tuple #[.slice (some ⟨w2.heap.size, 0, none⟩) 0 0, .int .i64 2]) (by simp [results, Tryz.results31, go_sem]) rfl ?_
        rw [HQ.out.1, HQ.out.2]
        exact ERes.mk1 (lo := w2.heap.size) (Below.alloc KB_7.out (Below.size KB_7.out) _) (oeds_empty rfl (Nat.le_refl _)) (Below.size KB_7.out)
      · have hli : ¬ (60 : Int) < (es.length : Int) := by omega
        have HIN := Lib.hid (fun (W : World) => l00In_any count 0 (es.length : Int) W)
        by_cases hcn : 0 ≤ count ∧ count ≤ (es.length : Int)
        · have hd : (decide (0 ≤ count) && decide (count ≤ (es.length : Int))) = true := by simp [hcn]
          have HCN := Lib.hid hcn
          have HL := Lib.hid hl
          clear hcn hl
          go_wp2_with fail
          refine (HIN.out _).mono ?_
          rintro r wz ⟨rfl, rfl⟩
          rw [hd]
          clear hd
          have cP0_9 := Blk.cell (i := 0) (v := .slice AG xs.length cG) KP_8 rfl
          have lP_10 := Blk.lt KP_8
          go_wp2_with fail
          refine (l02Own_any w.heap.size 0 _ xs _ cP0_9 (Blk.lt KP_8) (HG.out.up KB_7.out) (by have := gram_len400 HGG.out; omega)).mono ?_
          rintro e w3 ⟨vN, rfl, ownN, hb_11⟩
          have z_w3 : w2.heap.size ≤ w3.heap.size := hb_11.size
          have KB_12 := Lib.hid (Below.tr KB_7.out hb_11)
          have KP_13 := Blk.up KP_8 hb_11
          clear hb_6 cP0_9 lP_10 KB_7 KP_8
          clear KP_13
          obtain ⟨AN, cN, rfl, _⟩ := own_nil ownN
          have hsz := Below.size KB_12.out
          have KOG := Lib.hid (ogrs_one (lo := w.heap.size) rfl hsz (OwnRules.sl ownN))
          have KBZ := Lib.hid (Below.alloc KB_12.out hsz (Obj.cells #[.slice AN xs.length cN] 31))
          clear ownN
          go_wp2_with fail
          go_loopw [8, 9] (fun st i wx => ∃ (k : Nat) (gs : List (List GRule)) (g c : Nat), k ≤ es.length ∧ i = .int .i64 k ∧ st = .slice (some ⟨g, 0, none⟩) gs.length c ∧ Hid (undFold xs (es.take k) = some gs) ∧ Hid (gs.length = k + 1) ∧ Hid (OGrs wx w.heap.size (.slice (some ⟨g, 0, none⟩) gs.length c) gs) ∧ Hid (Below w.heap.size w wx)) (fun _ i _ => es.length - (intOf i).toNat)
          case atStart => exact ⟨0, [xs], _, _, Nat.zero_le _, rfl, rfl, Lib.hid rfl, Lib.hid rfl, KOG, KBZ⟩
          case round =>
            obtain ⟨k, gs, g, c, hk, rfl, rfl, HF, HGL, HOG, HB⟩ := hrel
            by_cases hlt : k < es.length
            · obtain ⟨_, _, hAE, _, _, hrow⟩ := HE.out.up HB.out
              injection hAE with hA1 hA2 hA3
              subst hA1 hA3
              obtain ⟨b, o, rfl, hbl, hcell⟩ := hrow.edit (fun _ h => h) hlt
              obtain ⟨e, he⟩ : ∃ e, es[k]? = some e := ⟨_, List.getElem?_eq_getElem hlt⟩
              obtain ⟨vR, hec, hR⟩ := hcell k e he
              have heok := List.all_eq_true.1 HAA.out e (List.mem_of_getElem? he)
              obtain ⟨x, hx⟩ : ∃ x, gs[k]? = some x := ⟨_, List.getElem?_eq_getElem (by have := HGL.out; omega)⟩
              have hxo := undFold_ok HGG.out HF.out x (List.mem_of_getElem? hx)
              have htop := undTop_at HGL.out hx
              obtain ⟨g', c', u, hv, hg1, hg2, hg3, hg4, hcu, hsu⟩ := HOG.out.at_ hx
              injection hv with hv1 hv2 hv3
              injection hv1 with hv1
              injection hv1 with hv1
              subst hv1 hv3
              have HFT := Lib.hid (undFold_take (xs := xs) he)
              rw [HF.out] at HFT
              have HTP := Lib.hid htop
              have HEC := Lib.hid hec
              have HRR := Lib.hid hR
              have HEO := Lib.hid heok
              have HXO := Lib.hid hxo
              have HCU := Lib.hid (show C1 wr ⟨g, k, none⟩ u from ⟨hcu, hg2⟩)
              have HSU := Lib.hid hsu
              have hbz := HB.out.size
              have hi : (k : Int) < (es.length : Int) := by omega
              have hk1 : (k : Int) < (gs.length : Int) := by have := HGL.out; omega
              unfold maxLen at hg4
              clear hcell he hec hR heok hx hxo htop hcu hsu
              go_upto_region 9 with fail
              go_cut [10, 11] (fun p q wx => ∃ (Z : Nat) (A9 : Option Addr) (c9 : Nat), p = .pointer (some ⟨Z, 0, none⟩) ∧ q = .int .i64 (applyCode x e) ∧ wr.heap.size ≤ Z ∧ Below wr.heap.size wr wx ∧ Blk wx Z #[.slice A9 (applyOut x e).length c9] 31 ∧ OwnRules wx wr.heap.size (.slice A9 (applyOut x e).length c9) (applyOut x e))
              case first =>
                have B0 := Below.drew (Below.refl wr.heap.size wr)
                have BA := Lib.hid (fun (o : Obj) => Below.drew (Below.alloc (Below.refl wr.heap.size wr) (Nat.le_refl _) o))
                go_region_held3 (fun w' => Below wr.heap.size wr w')
                  (first | (with_reducible exact B0) | (with_reducible exact (BA.out _)) | (with_reducible exact b1) | (with_reducible exact (b1.alloc z1 _)) | (with_reducible exact ((b1.alloc z1 _).setCell z1 _)) | (with_reducible exact (b1.setCell (Nat.le_refl _) _)) | (with_reducible exact ((BA.out _).setCell (Nat.le_refl _) _)))
                  (first
                    | (go_at_call 39; (refine (l07Apply_any g k b (o + k * 6) _ _ x e _ (HCU.out.up (by repeat (first | exact Below.refl _ _ | (refine Below.alloc ?_ (by first | omega | (simp; done) | (simp; omega)) _) | (refine Below.setCell ?_ (by first | exact Nat.le_refl _ | (show _ ≤ _; omega) | (simp; done) | (simp; omega)) _) | refine below_drewN ?_ _ | refine Below.drew ?_))) (HEC.out.up (by repeat (first | exact Below.refl _ _ | (refine Below.alloc ?_ (by first | omega | (simp; done) | (simp; omega)) _) | (refine Below.setCell ?_ (by first | exact Nat.le_refl _ | (show _ ≤ _; omega) | (simp; done) | (simp; omega)) _) | refine below_drewN ?_ _ | refine Below.drew ?_))) (HSU.out.up (by repeat (first | exact Below.refl _ _ | (refine Below.alloc ?_ (by first | omega | (simp; done) | (simp; omega)) _) | (refine Below.setCell ?_ (by first | exact Nat.le_refl _ | (show _ ≤ _; omega) | (simp; done) | (simp; omega)) _) | refine below_drewN ?_ _ | refine Below.drew ?_))) (HRR.out.up (by repeat (first | exact Below.refl _ _ | (refine Below.alloc ?_ (by first | omega | (simp; done) | (simp; omega)) _) | (refine Below.setCell ?_ (by first | exact Nat.le_refl _ | (show _ ≤ _; omega) | (simp; done) | (simp; omega)) _) | refine below_drewN ?_ _ | refine Below.drew ?_))) HXO.out HEO.out).mono ?_); rintro r u1 ⟨hb1, v1, own1, rfl⟩; obtain ⟨A9, c9, rfl, _⟩ := own_nil own1; have b1 : Below wr.heap.size wr u1 := (by first | exact Below.undrew hb1 | exact (Below.unalloc (Below.undrew hb1)).1); have z1 := b1.size; (try (have KZ : Blk u1 wr.heap.size #[.slice none 0 0] 31 := (Below.unalloc (Below.undrew hb1)).2; have l1 := Blk.lt KZ; have kz := Blk.cell (i := 0) (v := .slice none 0 0) KZ rfl; have fz := Blk.frozen KZ 0))))
                all_goals
                  go_wp2_with fail
                  go_meet
                  have own5 : OwnRules u1 wr.heap.size _ _ := ownsRow_more own1 (base' := wr.heap.size) (by first | omega | (simp; omega) | simp)
                  first
                    | exact ⟨u1.heap.size, A9, c9, rfl, rfl, z1, b1.alloc z1 _, Blk.new _ _ _, World.ownsRow.alloc own5 _⟩
                    | exact ⟨wr.heap.size, A9, c9, rfl, rfl, Nat.le_refl _, b1.setCell (show wr.heap.size ≤ (⟨wr.heap.size, 0, none⟩ : Addr).block from Nat.le_refl _) _, KZ.set 0 _, ownsRow_more (ownsRow_setCell_below own1 (a := ⟨wr.heap.size, 0, none⟩) (by first | (show _ < _; omega) | (simp; done) | (simp; omega)) _) (by first | omega | (simp; omega) | simp)⟩
              case rest =>
                obtain ⟨Z, A4, c4, rfl, rfl, hZl, hbR, KZ, own4⟩ := hcut
                have HOG4 := Lib.hid (HOG.out.up hbR)
                have HB4 := Lib.hid (Below.tr HB.out hbR)
                have HO4 := Lib.hid own4
                have z4 := hbR.size
                have lZ := Blk.lt KZ
                have kz := Blk.cell (i := 0) (v := .slice A4 (applyOut x e).length c4) KZ rfl
                clear own4 hbR HOG KZ
                revert HOG4 HB4 HO4 z4 lZ kz
                generalize wc = w4
                intro HOG4 HB4 HO4 z4 lZ kz
                by_cases hc : applyCode x e = 0
                · have HFT2 := Lib.hid (show undFold xs (es.take (k + 1)) = some (gs ++ [applyOut x e]) by rw [HFT.out, undStep_yes (by rw [HTP.out]; exact hc), HTP.out])
                  rw [hc]
                  clear hc
                  have HGL2 := Lib.hid (show (gs ++ [applyOut x e]).length = k + 1 + 1 by simp [HGL.out])
                  have HSF := Lib.hid (sl_far (A := some ⟨g, 0, none⟩) (n := gs.length) (c := c) HO4.out (fun g' hg' => by simp [Value.ownBlock] at hg'; omega))
                  have hkl : k ≤ 60 := by have := HL.out; omega
                  go_wp2_with (first | (at_builtin; refine push_gr (W := w4) (N := w4.heap.size) (u := .slice A4 (applyOut x e).length c4) (y := applyOut x e) (lo := w.heap.size) (v := .slice (some ⟨g, 0, none⟩) gs.length c) (gs := gs) rfl _ _ rfl rfl rfl rfl HOG4.out (by have := HGL.out; omega) (by omega) (OwnRules.sl HO4.out) HSF.out ?_; intro g5 c5 w5 own5 hg5 hgr5 hb5))
                  go_roundw
                  case rel => exact ⟨k + 1, gs ++ [applyOut x e], g5, c5, by omega, by go_num, by simp, HFT2, HGL2, Lib.hid (by rw [List.length_append]; exact own5), Lib.hid (HB4.out.trans hb5)⟩
                  case measure => simp [intOf]; omega
                · have HFT2 := Lib.hid (undFold_stop (es := es) (k := k + 1) (show undFold xs (es.take (k + 1)) = none by rw [HFT.out, undStep_no (by rw [HTP.out]; exact hc)]))
                  have hcb : (applyCode x e != 0) = true := by simp [hc]
                  have HQ := Lib.hid (und_none (count := count) HGG.out HAA.out HL.out HCN.out.1 HCN.out.2 HFT2.out)
                  go_wp2_with fail
                  refine bodyPost_ret (v := .tuple #[.slice (some ⟨w4.heap.size, 0, none⟩) 0 0, .int .i64 4]) (by simp [results, Tryz.results31, go_sem]) rfl ?_
                  rw [HQ.out.1, HQ.out.2]
                  exact ERes.mk1 (lo := w4.heap.size) (Below.alloc HB4.out (Below.size HB4.out) _) (oeds_empty rfl (Nat.le_refl _)) (Below.size HB4.out)
            · have hkn : k = es.length := by omega
              subst hkn
              rw [List.take_length] at HF
              have HUS := Lib.hid (undS_of (count := count) HGG.out HAA.out HL.out HCN.out.1 HCN.out.2 HF.out)
              have HAT := Lib.hid (undFold_at HF.out)
              have HXO := Lib.hid (undFold_ok HGG.out HF.out)
              obtain ⟨wo, rfl⟩ : ∃ wo : World, wo = wr := ⟨_, rfl⟩
              have hbz := HB.out.size
              have KE := Lib.hid (oedp_empty (W := wo) (lo := wo.heap.size) rfl (Nat.le_refl _))
              have bo := (Below.refl wo.heap.size wo).alloc (Nat.le_refl _) (Obj.cells #[] 36)
              have HBO := Lib.hid bo
              clear bo
              obtain ⟨c0, c1⟩ := HCN.out
              have HCN2 := HCN
              clear HCN
              have wle : IntKind.i64.wrap ((es.length : Int) - 1) = (es.length : Int) - 1 := IntWalk.i64_in _ (by omega)
              go_wp2_with fail
              go_loopw [12, 13] (fun ot i wx => ∃ (n m : Nat) (l : List GEdit) (A : Option Addr) (c hp : Nat), n + m = es.length ∧ (n : Int) + count ≤ es.length ∧ i = .int .i64 ((m : Int) - 1) ∧ ot = .slice A l.length c ∧ Hid (undBack gs es n = some l) ∧ Hid (l.length ≤ 2 * n) ∧ Hid (OEdP wx wo.heap.size hp (.slice A l.length c) l) ∧ Hid (wo.heap.size ≤ hp ∧ hp ≤ wx.heap.size) ∧ Hid (Below wo.heap.size wo wx)) (fun _ i _ => (intOf i + 1).toNat)
              case atStart => exact ⟨0, es.length, [], _, _, wo.heap.size, by omega, by omega, rfl, rfl, Lib.hid rfl, Lib.hid (by simp), KE, Lib.hid ⟨Nat.le_refl _, by simp⟩, HBO⟩
              case round =>
                obtain ⟨n, m, l, A, c, hp, hnm, hnc, rfl, rfl, HU, HLL, HOE, HHP, HBX⟩ := hrel
                by_cases hcm : count ≤ (m : Int) - 1
                · obtain ⟨m, rfl⟩ : ∃ m', m = m' + 1 := ⟨m - 1, by omega⟩
                  have hm0 : ((m + 1 : Nat) : Int) - 1 = (m : Int) := by omega
                  rw [hm0] at hcm ⊢
                  clear hm0
                  have hlt : m < es.length := by omega
                  obtain ⟨_, _, hAE, _, _, hrow⟩ := HE.out.up (HB.out.trans (HBX.out.mono hbz))
                  injection hAE with hA1 hA2 hA3
                  subst hA1 hA3
                  obtain ⟨b, o, rfl, hbl, hcell⟩ := hrow.edit (fun _ h => h) hlt
                  obtain ⟨e, he⟩ : ∃ e, es[m]? = some e := ⟨_, List.getElem?_eq_getElem hlt⟩
                  obtain ⟨vR, hec, hR⟩ := hcell m e he
                  have heok := List.all_eq_true.1 HAA.out e (List.mem_of_getElem? he)
                  have hsmE := (HS.out e (List.mem_of_getElem? he)).1
                  obtain ⟨x, hx⟩ : ∃ x, gs[m]? = some x := ⟨_, List.getElem?_eq_getElem (by have := HGL.out; omega)⟩
                  have hxo := HXO.out x (List.mem_of_getElem? hx)
                  obtain ⟨g', c', u, hv, hg1, hg2, hg3, hg4, hcu, hsu⟩ := (HOG.out.up HBX.out).at_ hx
                  injection hv with hv1 hv2 hv3
                  injection hv1 with hv1
                  injection hv1 with hv1
                  subst hv1 hv3
                  have hac := HAT.out m x e hx he
                  have HAC := Lib.hid hac
                  have HY := Lib.hid (fun h => undBackStep_yes (l := l) hx he h)
                  have HN := Lib.hid (fun h => undBackStep_no (l := l) hx he h)
                  have HEC := Lib.hid hec
                  have HRR := Lib.hid hR
                  have HEO := Lib.hid heok
                  have HXO2 := Lib.hid hxo
                  have HCU := Lib.hid (show C1 wr ⟨g, m, none⟩ u from ⟨hcu, hg2⟩)
                  have HSU := Lib.hid hsu
                  have hi : (m : Int) < (es.length : Int) := by omega
                  have hi2 : (m : Int) < (gs.length : Int) := by have := HGL.out; omega
                  have hbx := HBX.out.size
                  unfold maxLen at hg4
                  clear hcell he hec hR heok hx hxo hcu hsu hac
                  go_upto_region 17 with fail
                  have B0 := Below.drew (Below.refl wr.heap.size wr)
                  go_region_held3 (fun w' => Below wr.heap.size wr w')
                    (first | (with_reducible exact B0) | (with_reducible exact b6))
                    (first | (go_at_call 54; (refine (l07Inverse_any g m b (o + m * 6) _ _ x e _ (HCU.out.up (by repeat (first | exact Below.refl _ _ | (refine Below.alloc ?_ (by first | omega | (simp; done) | (simp; omega)) _) | (refine Below.setCell ?_ (by first | exact Nat.le_refl _ | (show _ ≤ _; omega) | (simp; done) | (simp; omega)) _) | refine below_drewN ?_ _ | refine Below.drew ?_))) (HEC.out.up (by repeat (first | exact Below.refl _ _ | (refine Below.alloc ?_ (by first | omega | (simp; done) | (simp; omega)) _) | (refine Below.setCell ?_ (by first | exact Nat.le_refl _ | (show _ ≤ _; omega) | (simp; done) | (simp; omega)) _) | refine below_drewN ?_ _ | refine Below.drew ?_))) (HSU.out.up (by repeat (first | exact Below.refl _ _ | (refine Below.alloc ?_ (by first | omega | (simp; done) | (simp; omega)) _) | (refine Below.setCell ?_ (by first | exact Nat.le_refl _ | (show _ ≤ _; omega) | (simp; done) | (simp; omega)) _) | refine below_drewN ?_ _ | refine Below.drew ?_))) (HRR.out.up (by repeat (first | exact Below.refl _ _ | (refine Below.alloc ?_ (by first | omega | (simp; done) | (simp; omega)) _) | (refine Below.setCell ?_ (by first | exact Nat.le_refl _ | (show _ ≤ _; omega) | (simp; done) | (simp; omega)) _) | refine below_drewN ?_ _ | refine Below.drew ?_))) HXO2.out HEO.out hsmE).mono ?_); rintro r w6 ⟨hb6', v6, rfl, own6'⟩; have b6 := Below.undrew hb6'))
                  have hb6 := b6
                  have own6 : OEds w6 wr.heap.size w6.heap.size v6 (invOut x e) := own6'
                  clear b6 hb6' own6' B0
                  obtain ⟨A6, c6, rfl, _⟩ := OEds.sl own6
                  have HOE6 := Lib.hid (HOE.out.keep hb6 HHP.out.2)
                  have HB6 := Lib.hid (HBX.out.trans (hb6.mono hbx))
                  have HO6 := Lib.hid own6
                  have z6 := hb6.size
                  have HFR := Lib.hid (fun g hg => (HOE.out.lt g hg).2)
                  clear hb6 own6
                  have hle : es.length - 1 - n = m := by omega
                  by_cases hc : invCode x e = 0
                  · have HU2 := Lib.hid (show undBack gs es (n + 1) = some (l ++ invOut x e) by rw [undBack_succ, HU.out, hle]; exact HY.out hc)
                    rw [hc]
                    clear hc
                    have hsm2 := (inv_len2 x e)
                    have HLL2 := Lib.hid (show (l ++ invOut x e).length ≤ 2 * (n + 1) by have := HLL.out; rw [List.length_append]; omega)
                    have HSM2 := Lib.hid hsm2
                    clear hsm2 hle
                    go_wp2_with (first | (at_builtin; refine append_edits (W := w6) (lo := wo.heap.size) (hp := hp) (lo2 := wr.heap.size) (hi2 := w6.heap.size) (v := .slice A l.length c) (v2 := .slice A6 (invOut x e).length c6) (es := l) (es2 := invOut x e) rfl _ _ rfl rfl rfl HOE6.out HO6.out (by have := HLL.out; have := HSM2.out; omega) (by omega) (by have := HHP.out; omega) HFR.out HHP.out.1 z6 (Nat.le_refl _) ?_; intro A7 c7 w7 own7 hg7 hgr7 hb7))
                    rw [← List.length_append] at own7 ⊢
                    have hw7 := hgr7.size
                    go_roundw
                    case rel => exact ⟨n + 1, m, l ++ invOut x e, A7, c7, w6.heap.size, by omega, by omega, by go_num, rfl, HU2, HLL2, Lib.hid own7, Lib.hid ⟨by omega, hw7⟩, Lib.hid (HB6.out.trans hb7)⟩
                    case measure => first | (simp [intOf]; done) | (simp [intOf]; omega)
                  · have hc3 : invCode x e = 3 := by rcases invCode_03 HAC.out with h | h; exact absurd h hc; exact h
                    have HU2 := Lib.hid (HUS.out.2 (undBack_stop (k := n + 1) (by rw [undBack_succ, HU.out, hle]; exact HN.out hc) _ (by omega)))
                    have hcb : (invCode x e != 0) = true := by simp [hc]
                    go_wp2_with fail
                    refine bodyPost_ret (v := .tuple #[.slice (some ⟨w6.heap.size, 0, none⟩) 0 0, .int .i64 3]) (by simp [results, Tryz.results31, go_sem]) rfl ?_
                    rw [HU2.out.1, HU2.out.2]
                    have HB7 : Below w.heap.size w w6 := HB.out.trans (HB6.out.mono hbz)
                    exact ERes.mk1 (lo := w6.heap.size) (Below.alloc HB7 HB7.size _) (oeds_empty rfl (Nat.le_refl _)) HB7.size
                · have hnn : es.length - count.toNat = n := by omega
                  have HQ := Lib.hid (HUS.out.1 l (by rw [hnn]; exact HU.out))
                  clear hnn
                  go_wp2_with fail
                  refine bodyPost_ret (v := .tuple #[.slice A l.length c, .int .i64 0]) (by simp [results, Tryz.results31, go_sem]) rfl ?_
                  rw [HQ.out.1, HQ.out.2]
                  exact ERes.mk1 (lo := wo.heap.size) (HB.out.trans (HBX.out.mono hbz)) (HOE.out.oeds HHP.out.2) hbz
        · have hd : (decide (0 ≤ count) && decide (count ≤ (es.length : Int))) = false := by rw [← Bool.not_eq_true]; simp; omega
          have HQ := Lib.hid (und_bad (xs := xs) (es := es) (count := count) (c := 2) (by unfold undCode; rw [HGG.out, HAA.out, if_pos (by rfl), if_pos (by omega)]) (by decide))
          clear hcn
          go_wp2_with fail
          refine (HIN.out _).mono ?_
          rintro r wz ⟨rfl, rfl⟩
          rw [hd]
          go_wp2_with fail
          refine bodyPost_ret (v := .tuple #[.slice (some ⟨w2.heap.size, 0, none⟩) 0 0, .int .i64 2]) (by simp [results, Tryz.results31, go_sem]) rfl ?_
          rw [HQ.out.1, HQ.out.2]
          exact ERes.mk1 (lo := w2.heap.size) (Below.alloc KB_7.out (Below.size KB_7.out) _) (oeds_empty rfl (Nat.le_refl _)) (Below.size KB_7.out)
end Go.Proofs.YtfapnipmgmpgaaaGreatDoor

namespace Go.Proofs.YtfapnipmgmpgaaaGreatDoor
open Go.RowKit

set_option maxRecDepth 100000 in
theorem topGr_any (g c k L : Nat) (A : Option Addr) (n m : Nat) (w : World) (hL : L = k + 1) (h : w.cell? ⟨g, k, none⟩ = some (.slice A n m)) (hlt : g < w.heap.size) (hk : k ≤ 1048576) :
    Calls Tryz.prog 64 #[.slice (some ⟨g, 0, none⟩) L c] w fun e w' => e = .returned (.agg #[.slice A n m]) ∧ Below w.heap.size w w' := by
  have hw : IntKind.i64.wrap ((L : Int) - 1) = (k : Int) := by rw [IntWalk.i64_in _ (by omega)]; omega
  have hi : (k : Int) < (L : Int) := by omega
  clear hL
  go_enter Tryz.func64, Tryz.ntmps64
  go_wp2_with fail
  exact bodyPost_ret (v := .agg #[.slice A n m]) (by simp [results, Tryz.results64, go_sem]) rfl ⟨rfl, (by repeat (first | exact Below.refl _ _ | (refine Below.alloc ?_ (by first | omega | (simp; done) | (simp; omega)) _) | (refine Below.setCell ?_ (by first | exact Nat.le_refl _ | (show _ ≤ _; omega) | (simp; done) | (simp; omega)) _) | refine below_drewN ?_ _ | refine Below.drew ?_))⟩
theorem keep6 {wr W : World} {x : Nat} {t : TypeId} {c0 c1 c2 c3 c4 c5 : Value} (hx : Blk wr x #[c0, c1, c2, c3, c4, c5] t) (h : Below wr.heap.size wr W) :
    Below wr.heap.size wr W ∧ W.cell? ⟨x, 0, none⟩ = some c0 ∧ W.cell? ⟨x, 1, none⟩ = some c1 ∧ W.cell? ⟨x, 2, none⟩ = some c2 ∧ W.cell? ⟨x, 3, none⟩ = some c3 ∧ W.cell? ⟨x, 4, none⟩ = some c4 ∧ W.cell? ⟨x, 5, none⟩ = some c5 := by
  have h2 := hx.up h
  exact ⟨h, h2.cell rfl, h2.cell rfl, h2.cell rfl, h2.cell rfl, h2.cell rfl, h2.cell rfl⟩
theorem keepCE {wr W : World} {p : Addr} {u vR : Value} {E o : Nat} {e : GEdit} (h1 : C1 wr p u) (h2 : EC wr E o e vR) (h : Below wr.heap.size wr W) :
    Below wr.heap.size wr W ∧ W.cell? p = some u ∧ W.cell? ⟨E, o, none⟩ = some (.int .i64 e.kind) ∧ W.cell? ⟨E, o + 1, none⟩ = some (.int .i64 e.i) ∧ W.cell? ⟨E, o + 2, none⟩ = some (.int .i64 e.j) ∧ W.cell? ⟨E, o + 3, none⟩ = some (.int .i64 e.k) ∧ W.cell? ⟨E, o + 4, none⟩ = some vR ∧ W.cell? ⟨E, o + 5, none⟩ = some (.string e.map) := by
  have k := h2.up h
  exact ⟨h, (h1.up h).c, k.c0, k.c1, k.c2, k.c3, k.c4, k.c5⟩
set_option maxRecDepth 100000 in
set_option maxHeartbeats 4000000 in
theorem implUndoTo_any (vG vE : Value) (xs : List GRule) (es : List GEdit) (count : Int) (w : World) (hG : Sl RuleE w w.heap.size vG xs) (hE : Sl EditE w w.heap.size vE es) (hn : xs.length ≤ 1048576) (hs : ∀ e ∈ es, e.part.length ≤ 1048576 ∧ e.map.size ≤ maxLen) (htab : Lib.TabIs Tryz.prog w "math/bits.deBruijn64tab" .u8 deB64) :
    Calls Tryz.prog 32 #[.agg #[vG], vE, .int .i64 count] w (ERes (undOut xs es count) (undCode xs es count) w) := by
  have HG := Lib.hid hG
  have HE := Lib.hid hE
  have HS := Lib.hid hs
  obtain ⟨AG, cG, rfl, _⟩ := hG
  obtain ⟨AE, cE, rfl, hcE, hmE, _⟩ := hE
  unfold maxLen at hmE
  have HT := Lib.hid htab
  clear hs htab
  have b1 := (Below.refl w.heap.size w).alloc (Nat.le_refl _) (Obj.cells #[.slice AG xs.length cG] 31)
  have KP := Blk.new w #[.slice AG xs.length cG] 31
  go_enter Tryz.func32, Tryz.ntmps32
  go_upto_region 1 with fail
  generalize (w.alloc (Obj.cells #[.slice AG xs.length cG] 31)) = w0 at *
  have KB := Lib.hid b1
  clear b1
  have cP0_1 := Blk.cell (i := 0) (v := .slice AG xs.length cG) KP rfl
  have lP_2 := Blk.lt KP
  go_wp2_with fail
  refine (ValidGrammar_any _ xs _ (HG.out.up KB.out) (by omega)).mono ?_
  rintro e w1 ⟨rfl, hb_3⟩
  have z_w1 : w0.heap.size ≤ w1.heap.size := hb_3.size
  have KB_4 := Lib.hid (Below.tr KB.out hb_3)
  have KP_5 := Blk.up KP hb_3
  clear cP0_1 lP_2 KB KP
  cases hg : gramOk xs with
  | false =>
    have HQ := Lib.hid (und_bad (xs := xs) (es := es) (count := count) (c := 1) (by simp [undCode, hg]) (by decide))
    clear hg
    go_wp2_with fail
    refine bodyPost_ret (v := .tuple #[.slice none 0 0, .int .i64 1]) (by simp [results, Tryz.results32, go_sem]) rfl ?_
    rw [HQ.out.1, HQ.out.2]
    exact ERes.mk1 (lo := w1.heap.size) KB_4.out (oeds_zero (Nat.le_refl _)) (Below.size KB_4.out)
  | true =>
    have HGG := Lib.hid hg
    clear hg
    go_wp2_with fail
    refine (areEdits_any _ es _ (HE.out.up KB_4.out) HS.out).mono ?_
    rintro e w2 ⟨rfl, hb_6⟩
    have z_w2 : w1.heap.size ≤ w2.heap.size := hb_6.size
    have KB_7 := Lib.hid (Below.tr KB_4.out hb_6)
    have KP_8 := Blk.up KP_5 hb_6
    clear hb_3 KB_4 KP_5
    cases ha : es.all editOk with
    | false =>
      have HQ := Lib.hid (und_bad (xs := xs) (es := es) (count := count) (c := 1) (by simp [undCode, ha]) (by decide))
      clear ha
      go_wp2_with fail
      refine bodyPost_ret (v := .tuple #[.slice none 0 0, .int .i64 1]) (by simp [results, Tryz.results32, go_sem]) rfl ?_
      rw [HQ.out.1, HQ.out.2]
      exact ERes.mk1 (lo := w2.heap.size) KB_7.out (oeds_zero (Nat.le_refl _)) (Below.size KB_7.out)
    | true =>
      have HAA := Lib.hid ha
      clear ha
      by_cases hl : 60 < es.length
      · have HQ := Lib.hid (und_bad (xs := xs) (es := es) (count := count) (c := 2) (by unfold undCode; rw [HGG.out, HAA.out, if_pos (by rfl), if_pos (Or.inl hl)]) (by decide))
        have hli : (60 : Int) < (es.length : Int) := by omega
        go_wp2_with fail
        refine bodyPost_ret (v := .tuple #[.slice none 0 0, .int .i64 2]) (by simp [results, Tryz.results32, go_sem]) rfl ?_
        rw [HQ.out.1, HQ.out.2]
        exact ERes.mk1 (lo := w2.heap.size) KB_7.out (oeds_zero (Nat.le_refl _)) (Below.size KB_7.out)
      · have hli : ¬ (60 : Int) < (es.length : Int) := by omega
        have HIN := Lib.hid (fun (W : World) => within_any count 0 (es.length : Int) W)
        by_cases hcn : 0 ≤ count ∧ count ≤ (es.length : Int)
        · have hd : (decide (0 ≤ count) && decide (count ≤ (es.length : Int))) = true := by simp [hcn]
          have HCN := Lib.hid hcn
          have HL := Lib.hid hl
          clear hcn hl
          go_wp2_with fail
          refine (HIN.out _).mono ?_
          rintro r wz ⟨rfl, rfl⟩
          rw [hd]
          clear hd
          have hsz := Below.size KB_7.out
          have KOG := Lib.hid (ogrs_one (lo := w.heap.size) rfl hsz (HG.out.up KB_7.out))
          have KBZ := Lib.hid (Below.alloc KB_7.out hsz (Obj.cells #[.slice AG xs.length cG] 31))
          have cP0_9 := Blk.cell (i := 0) (v := .slice AG xs.length cG) KP_8 rfl
          have lP_10 := Blk.lt KP_8
          go_wp2_with fail
          go_loopw [8, 41] (fun st i wx => ∃ (k : Nat) (gs : List (List GRule)) (g c : Nat), k ≤ es.length ∧ i = .int .i64 k ∧ st = .slice (some ⟨g, 0, none⟩) gs.length c ∧ Hid (undFold xs (es.take k) = some gs) ∧ Hid (gs.length = k + 1) ∧ Hid (OGrs wx w.heap.size (.slice (some ⟨g, 0, none⟩) gs.length c) gs) ∧ Hid (Below w.heap.size w wx)) (fun _ i _ => es.length - (intOf i).toNat)
          case atStart => exact ⟨0, [xs], _, _, Nat.zero_le _, rfl, rfl, Lib.hid rfl, Lib.hid rfl, KOG, KBZ⟩
          case round =>
            obtain ⟨k, gs, g, c, hk, rfl, rfl, HF, HGL, HOG, HB⟩ := hrel
            by_cases hlt : k < es.length
            · obtain ⟨_, _, hAE, _, _, hrow⟩ := HE.out.up HB.out
              injection hAE with hA1 hA2 hA3
              subst hA1 hA3
              obtain ⟨b, o, rfl, hbl, hcell⟩ := hrow.edit (fun _ h => h) hlt
              obtain ⟨e, he⟩ : ∃ e, es[k]? = some e := ⟨_, List.getElem?_eq_getElem hlt⟩
              obtain ⟨vR, hec, hR⟩ := hcell k e he
              have heok := List.all_eq_true.1 HAA.out e (List.mem_of_getElem? he)
              have hse := HS.out e (List.mem_of_getElem? he)
              obtain ⟨x, hx⟩ : ∃ x, gs[k]? = some x := ⟨_, List.getElem?_eq_getElem (by have := HGL.out; omega)⟩
              have hxo := undFold_ok HGG.out HF.out x (List.mem_of_getElem? hx)
              have htop := undTop_at HGL.out hx
              obtain ⟨g', c', u, hv, hg1, hg2, hg3, hg4, hcu, hsu⟩ := HOG.out.at_ hx
              injection hv with hv1 hv2 hv3
              injection hv1 with hv1
              injection hv1 with hv1
              subst hv1 hv3
              have HFT := Lib.hid (undFold_take (xs := xs) he)
              rw [HF.out] at HFT
              have HTP := Lib.hid htop
              have HEC := Lib.hid hec
              have HRR := Lib.hid hR
              have HEO := Lib.hid heok
              have HXO := Lib.hid hxo
              have HCU := Lib.hid (show C1 wr ⟨g, k, none⟩ u from ⟨hcu, hg2⟩)
              have HSU := Lib.hid hsu
              have hbz := HB.out.size
              have hi : (k : Int) < (es.length : Int) := by omega
              have hk1 : (k : Int) < (gs.length : Int) := by have := HGL.out; omega
              unfold maxLen at hg4
              clear hcell he hec hR heok hx hxo htop hcu hsu
              obtain ⟨AR, cR, rfl, _⟩ := HRR.out
              obtain ⟨AU, cU, rfl, _⟩ := HSU.out
              have hx4 := gram_len400 HXO.out
              obtain ⟨x0, x1, x2, x3, x4, x5, xl⟩ := HEC.out
              go_upto_region 9 with fail
              clear x0 x1 x2 x3 x4 x5 xl
              have hbq := (Below.refl wr.heap.size wr).alloc (Nat.le_refl _) (Obj.cells #[.int .i64 e.kind, .int .i64 e.i, .int .i64 e.j, .int .i64 e.k, .slice AR e.part.length cR, .string e.map] 36)
              have KEB := Blk.new wr #[.int .i64 e.kind, .int .i64 e.i, .int .i64 e.j, .int .i64 e.k, .slice AR e.part.length cR, .string e.map] 36
              generalize (wr.alloc (Obj.cells #[.int .i64 e.kind, .int .i64 e.i, .int .i64 e.j, .int .i64 e.k, .slice AR e.part.length cR, .string e.map] 36)) = wq at *
              replace HCU := Lib.hid (HCU.out.up hbq)
              replace HSU := Lib.hid (HSU.out.up hbq)
              replace HRR := Lib.hid (HRR.out.up hbq)
              replace HOG := Lib.hid (HOG.out.up hbq)
              replace HB := Lib.hid (Below.tr HB.out hbq)
              have hbz2 := hbq.size
              have HKE := Lib.hid KEB
              clear hbq KEB
              go_cut [11, 12] (fun p q wx => ∃ (Z : Nat) (A9 : Option Addr) (c9 : Nat), p = .pointer (some ⟨Z, 0, none⟩) ∧ q = .int .i64 (applyCode x e) ∧ wq.heap.size ≤ Z ∧ Below wq.heap.size wq wx ∧ Blk wx Z #[.slice A9 (applyOut x e).length c9] 31 ∧ OwnRules wx wq.heap.size (.slice A9 (applyOut x e).length c9) (applyOut x e))
              case first =>
                have B0 := Below.drew (Below.refl wq.heap.size wq)
                have BA := Lib.hid (fun (o : Obj) => Below.drew (Below.alloc (Below.refl wq.heap.size wq) (Nat.le_refl _) o))
                have lKE := Blk.lt HKE.out
                go_region_held3 (fun w' => Below wq.heap.size wq w' ∧ w'.cell? ⟨wr.heap.size, 0, none⟩ = some (.int .i64 e.kind) ∧ w'.cell? ⟨wr.heap.size, 1, none⟩ = some (.int .i64 e.i) ∧ w'.cell? ⟨wr.heap.size, 2, none⟩ = some (.int .i64 e.j) ∧ w'.cell? ⟨wr.heap.size, 3, none⟩ = some (.int .i64 e.k) ∧ w'.cell? ⟨wr.heap.size, 4, none⟩ = some (.slice AR e.part.length cR) ∧ w'.cell? ⟨wr.heap.size, 5, none⟩ = some (.string e.map))
                  (first | (with_reducible exact keep6 HKE.out B0) | (with_reducible exact keep6 HKE.out (BA.out _)) | (with_reducible exact keep6 HKE.out bt) | (with_reducible exact keep6 HKE.out (bt.alloc zt _)) | (with_reducible exact keep6 HKE.out b1) | (with_reducible exact keep6 HKE.out (b1.alloc z1 _)) | (with_reducible exact keep6 HKE.out ((b1.alloc z1 _).setCell z1 _)) | (with_reducible exact keep6 HKE.out (b1.setCell (Nat.le_refl _) _)) | (with_reducible exact keep6 HKE.out (b1.setCell zt _)))
                  (first
                    | (go_at_call 64; (refine (topGr_any g c k gs.length AU x.length cU _ HGL.out (HCU.out.up (by repeat (first | exact Below.refl _ _ | (refine Below.alloc ?_ (by first | omega | (simp; done) | (simp; omega)) _) | (refine Below.setCell ?_ (by first | exact Nat.le_refl _ | (show _ ≤ _; omega) | (simp; done) | (simp; omega)) _) | refine below_drewN ?_ _ | refine Below.drew ?_))).c (HCU.out.up (by repeat (first | exact Below.refl _ _ | (refine Below.alloc ?_ (by first | omega | (simp; done) | (simp; omega)) _) | (refine Below.setCell ?_ (by first | exact Nat.le_refl _ | (show _ ≤ _; omega) | (simp; done) | (simp; omega)) _) | refine below_drewN ?_ _ | refine Below.drew ?_))).lt (by omega)).mono ?_); rintro r ut ⟨rfl, hbt'⟩; have bt : Below wq.heap.size wq ut := (by first | exact Below.undrew hbt' | exact (Below.unalloc (Below.undrew hbt')).1); have zt := bt.size; (try (have KZ : Blk ut wq.heap.size #[.slice none 0 0] 31 := (Below.unalloc (Below.undrew hbt')).2; have lt1 := Blk.lt KZ)))
                    | (go_at_call 14; (refine (implApply_any _ _ x e _ (HSU.out.up (by repeat (first | exact bt | (refine Below.alloc ?_ (by first | omega | (simp; done) | (simp; omega)) _) | (refine Below.setCell ?_ (by first | exact Nat.le_refl _ | (show _ ≤ _; omega) | (simp; done) | (simp; omega)) _) | refine below_drewN ?_ _ | refine Below.drew ?_))) ⟨_, rfl, HRR.out.up (by repeat (first | exact bt | (refine Below.alloc ?_ (by first | omega | (simp; done) | (simp; omega)) _) | (refine Below.setCell ?_ (by first | exact Nat.le_refl _ | (show _ ≤ _; omega) | (simp; done) | (simp; omega)) _) | refine below_drewN ?_ _ | refine Below.drew ?_))⟩ (by omega) hse.1 hse.2 (tabB HT.out (by repeat (first | exact Below.tr HB.out bt | (refine Below.alloc ?_ (by first | omega | (simp; done) | (simp; omega)) _) | (refine Below.setCell ?_ (by first | exact Nat.le_refl _ | (show _ ≤ _; omega) | (simp; done) | (simp; omega)) _) | refine below_drewN ?_ _ | refine Below.drew ?_)))).mono ?_); rintro r u1 ⟨hb1, v1, own1, rfl⟩; obtain ⟨A9, c9, rfl, _⟩ := own_nil own1; have c1 : Below ut.heap.size ut u1 := (by first | exact hb1 | exact (Below.unalloc hb1).1); have b1 := Below.tr bt c1; have z1 := b1.size; have y1 := c1.size; (first | (have KZ := Blk.up KZ c1) | (have KZ : Blk u1 ut.heap.size #[.slice none 0 0] 31 := (Below.unalloc hb1).2) | skip); (try (have l1 := Blk.lt KZ; have kz := Blk.cell (i := 0) (v := .slice none 0 0) KZ rfl; have fz := Blk.frozen KZ 0))))
                all_goals
                  go_wp2_with fail
                  go_meet
                  have own5 : OwnRules u1 wq.heap.size _ _ := ownsRow_more own1 (base' := wq.heap.size) (by first | omega | (simp; omega) | simp)
                  first
                    | exact ⟨u1.heap.size, A9, c9, rfl, rfl, z1, b1.alloc z1 _, Blk.new _ _ _, World.ownsRow.alloc own5 _⟩
                    | exact ⟨ut.heap.size, A9, c9, rfl, rfl, zt, b1.setCell (show wq.heap.size ≤ (⟨ut.heap.size, 0, none⟩ : Addr).block from zt) _, KZ.set 0 _, ownsRow_more (ownsRow_setCell_below own1 (a := ⟨ut.heap.size, 0, none⟩) (by first | (show _ < _; omega) | (simp; done) | (simp; omega)) _) (by first | omega | (simp; omega) | simp)⟩
                    | exact ⟨wq.heap.size, A9, c9, rfl, rfl, Nat.le_refl _, b1.setCell (show wq.heap.size ≤ (⟨wq.heap.size, 0, none⟩ : Addr).block from Nat.le_refl _) _, KZ.set 0 _, ownsRow_more (ownsRow_setCell_below own1 (a := ⟨wq.heap.size, 0, none⟩) (by first | (show _ < _; omega) | (simp; done) | (simp; omega)) _) (by first | omega | (simp; omega) | simp)⟩
              case rest =>
                obtain ⟨Z, A4, c4, rfl, rfl, hZl, hbR, KZ, own4⟩ := hcut
                have HOG4 := Lib.hid (HOG.out.up hbR)
                have HB4 := Lib.hid (Below.tr HB.out hbR)
                have HO4 := Lib.hid own4
                have z4 := hbR.size
                have lZ := Blk.lt KZ
                have kz := Blk.cell (i := 0) (v := .slice A4 (applyOut x e).length c4) KZ rfl
                clear own4 hbR HOG KZ
                revert HOG4 HB4 HO4 z4 lZ kz
                generalize wc = w4
                intro HOG4 HB4 HO4 z4 lZ kz
                by_cases hc : applyCode x e = 0
                · have HFT2 := Lib.hid (show undFold xs (es.take (k + 1)) = some (gs ++ [applyOut x e]) by rw [HFT.out, undStep_yes (by rw [HTP.out]; exact hc), HTP.out])
                  rw [hc]
                  clear hc
                  have HGL2 := Lib.hid (show (gs ++ [applyOut x e]).length = k + 1 + 1 by simp [HGL.out])
                  have HSF := Lib.hid (sl_far (A := some ⟨g, 0, none⟩) (n := gs.length) (c := c) HO4.out (fun g' hg' => by simp [Value.ownBlock] at hg'; omega))
                  have hkl : k ≤ 60 := by have := HL.out; omega
                  go_wp2_with (first | (at_builtin; refine push_gr (W := w4) (N := w4.heap.size) (u := .slice A4 (applyOut x e).length c4) (y := applyOut x e) (lo := w.heap.size) (v := .slice (some ⟨g, 0, none⟩) gs.length c) (gs := gs) rfl _ _ rfl rfl rfl rfl HOG4.out (by have := HGL.out; omega) (by omega) (OwnRules.sl HO4.out) HSF.out ?_; intro g5 c5 w5 own5 hg5 hgr5 hb5))
                  go_roundw
                  case rel => exact ⟨k + 1, gs ++ [applyOut x e], g5, c5, by omega, by go_num, by simp, HFT2, HGL2, Lib.hid (by rw [List.length_append]; exact own5), Lib.hid (HB4.out.trans hb5)⟩
                  case measure => simp [intOf]; omega
                · have HFT2 := Lib.hid (undFold_stop (es := es) (k := k + 1) (show undFold xs (es.take (k + 1)) = none by rw [HFT.out, undStep_no (by rw [HTP.out]; exact hc)]))
                  have hcb : (applyCode x e != 0) = true := by simp [hc]
                  have HQ := Lib.hid (und_none (count := count) HGG.out HAA.out HL.out HCN.out.1 HCN.out.2 HFT2.out)
                  go_wp2_with fail
                  refine bodyPost_ret (v := .tuple #[.slice none 0 0, .int .i64 4]) (by simp [results, Tryz.results32, go_sem]) rfl ?_
                  rw [HQ.out.1, HQ.out.2]
                  exact ERes.mk1 (lo := w4.heap.size) HB4.out (oeds_zero (Nat.le_refl _)) (Below.size HB4.out)
            · have hkn : k = es.length := by omega
              subst hkn
              rw [List.take_length] at HF
              have HUS := Lib.hid (undS_of (count := count) HGG.out HAA.out HL.out HCN.out.1 HCN.out.2 HF.out)
              have HAT := Lib.hid (undFold_at HF.out)
              have HXO := Lib.hid (undFold_ok HGG.out HF.out)
              obtain ⟨wo, rfl⟩ : ∃ wo : World, wo = wr := ⟨_, rfl⟩
              have hbz := HB.out.size
              have KE := Lib.hid (oedp_empty (W := wo) (lo := wo.heap.size) rfl (Nat.le_refl _))
              have bo := (Below.refl wo.heap.size wo).alloc (Nat.le_refl _) (Obj.cells #[] 36)
              have HBO := Lib.hid bo
              clear bo
              obtain ⟨c0, c1⟩ := HCN.out
              have HCN2 := HCN
              clear HCN
              have wle : IntKind.i64.wrap ((es.length : Int) - 1) = (es.length : Int) - 1 := IntWalk.i64_in _ (by omega)
              go_wp2_with fail
              go_loopw [13, 14] (fun ot i wx => ∃ (n m : Nat) (l : List GEdit) (A : Option Addr) (c hp : Nat), n + m = es.length ∧ (n : Int) + count ≤ es.length ∧ i = .int .i64 ((m : Int) - 1) ∧ ot = .slice A l.length c ∧ Hid (undBack gs es n = some l) ∧ Hid (l.length ≤ 2 * n) ∧ Hid (OEdP wx wo.heap.size hp (.slice A l.length c) l) ∧ Hid (wo.heap.size ≤ hp ∧ hp ≤ wx.heap.size) ∧ Hid (Below wo.heap.size wo wx)) (fun _ i _ => (intOf i + 1).toNat)
              case atStart => exact ⟨0, es.length, [], _, _, wo.heap.size, by omega, by omega, rfl, rfl, Lib.hid rfl, Lib.hid (by simp), KE, Lib.hid ⟨Nat.le_refl _, by simp⟩, HBO⟩
              case round =>
                obtain ⟨n, m, l, A, c, hp, hnm, hnc, rfl, rfl, HU, HLL, HOE, HHP, HBX⟩ := hrel
                by_cases hcm : count ≤ (m : Int) - 1
                · obtain ⟨m, rfl⟩ : ∃ m', m = m' + 1 := ⟨m - 1, by omega⟩
                  have hm0 : ((m + 1 : Nat) : Int) - 1 = (m : Int) := by omega
                  rw [hm0] at hcm ⊢
                  clear hm0
                  have hlt : m < es.length := by omega
                  obtain ⟨_, _, hAE, _, _, hrow⟩ := HE.out.up (HB.out.trans (HBX.out.mono hbz))
                  injection hAE with hA1 hA2 hA3
                  subst hA1 hA3
                  obtain ⟨b, o, rfl, hbl, hcell⟩ := hrow.edit (fun _ h => h) hlt
                  obtain ⟨e, he⟩ : ∃ e, es[m]? = some e := ⟨_, List.getElem?_eq_getElem hlt⟩
                  obtain ⟨vR, hec, hR⟩ := hcell m e he
                  have heok := List.all_eq_true.1 HAA.out e (List.mem_of_getElem? he)
                  have hse := HS.out e (List.mem_of_getElem? he)
                  obtain ⟨x, hx⟩ : ∃ x, gs[m]? = some x := ⟨_, List.getElem?_eq_getElem (by have := HGL.out; omega)⟩
                  have hxo := HXO.out x (List.mem_of_getElem? hx)
                  obtain ⟨g', c', u, hv, hg1, hg2, hg3, hg4, hcu, hsu⟩ := (HOG.out.up HBX.out).at_ hx
                  injection hv with hv1 hv2 hv3
                  injection hv1 with hv1
                  injection hv1 with hv1
                  subst hv1 hv3
                  have hac := HAT.out m x e hx he
                  have HAC := Lib.hid hac
                  have HY := Lib.hid (fun h => undBackStep_yes (l := l) hx he h)
                  have HN := Lib.hid (fun h => undBackStep_no (l := l) hx he h)
                  have HEC := Lib.hid hec
                  have HRR := Lib.hid hR
                  have HEO := Lib.hid heok
                  have HXO2 := Lib.hid hxo
                  have HCU := Lib.hid (show C1 wr ⟨g, m, none⟩ u from ⟨hcu, hg2⟩)
                  have HSU := Lib.hid hsu
                  have hi : (m : Int) < (es.length : Int) := by omega
                  have hi2 : (m : Int) < (gs.length : Int) := by have := HGL.out; omega
                  have hbx := HBX.out.size
                  unfold maxLen at hg4
                  clear hcell he hec hR heok hx hxo hcu hsu hac
                  go_upto_region 18 with fail
                  obtain ⟨AR, cR, rfl, _⟩ := HRR.out
                  obtain ⟨AU, cU, rfl, _⟩ := HSU.out
                  have hx4 := gram_len400 HXO2.out
                  have HBT := Lib.hid (HB.out.trans (HBX.out.mono hbz))
                  have B0 := Below.drew (Below.refl wr.heap.size wr)
                  have lC := HCU.out.lt
                  have lE := HEC.out.lt
                  go_region_held3 (fun w' => Below wr.heap.size wr w' ∧ w'.cell? ⟨g, m, none⟩ = some (.slice AU x.length cU) ∧ w'.cell? ⟨b, o + m * 6, none⟩ = some (.int .i64 e.kind) ∧ w'.cell? ⟨b, o + m * 6 + 1, none⟩ = some (.int .i64 e.i) ∧ w'.cell? ⟨b, o + m * 6 + 2, none⟩ = some (.int .i64 e.j) ∧ w'.cell? ⟨b, o + m * 6 + 3, none⟩ = some (.int .i64 e.k) ∧ w'.cell? ⟨b, o + m * 6 + 4, none⟩ = some (.slice AR e.part.length cR) ∧ w'.cell? ⟨b, o + m * 6 + 5, none⟩ = some (.string e.map))
                    (first | (with_reducible exact keepCE HCU.out HEC.out B0) | (with_reducible exact keepCE HCU.out HEC.out b6))
                    (first | (go_at_call 27; (refine (implInverse_any _ _ x e _ (HSU.out.up (by repeat (first | exact Below.refl _ _ | (refine Below.alloc ?_ (by first | omega | (simp; done) | (simp; omega)) _) | (refine Below.setCell ?_ (by first | exact Nat.le_refl _ | (show _ ≤ _; omega) | (simp; done) | (simp; omega)) _) | refine below_drewN ?_ _ | refine Below.drew ?_))) ⟨_, rfl, HRR.out.up (by repeat (first | exact Below.refl _ _ | (refine Below.alloc ?_ (by first | omega | (simp; done) | (simp; omega)) _) | (refine Below.setCell ?_ (by first | exact Nat.le_refl _ | (show _ ≤ _; omega) | (simp; done) | (simp; omega)) _) | refine below_drewN ?_ _ | refine Below.drew ?_))⟩ (by omega) hse.1 hse.2 (tabB HT.out (by repeat (first | exact HBT.out | (refine Below.alloc ?_ (by first | omega | (simp; done) | (simp; omega)) _) | (refine Below.setCell ?_ (by first | exact Nat.le_refl _ | (show _ ≤ _; omega) | (simp; done) | (simp; omega)) _) | refine below_drewN ?_ _ | refine Below.drew ?_)))).mono ?_); rintro r w6 ⟨hb6', v6, rfl, own6'⟩; have b6 := Below.undrew hb6'))
                  have hb6 := b6
                  have own6 : OEds w6 wr.heap.size w6.heap.size v6 (invOut x e) := own6'
                  clear b6 hb6' own6' B0
                  obtain ⟨A6, c6, rfl, _⟩ := OEds.sl own6
                  have HOE6 := Lib.hid (HOE.out.keep hb6 HHP.out.2)
                  have HB6 := Lib.hid (HBX.out.trans (hb6.mono hbx))
                  have HO6 := Lib.hid own6
                  have z6 := hb6.size
                  have HFR := Lib.hid (fun g hg => (HOE.out.lt g hg).2)
                  clear hb6 own6
                  have hle : es.length - 1 - n = m := by omega
                  by_cases hc : invCode x e = 0
                  · have HU2 := Lib.hid (show undBack gs es (n + 1) = some (l ++ invOut x e) by rw [undBack_succ, HU.out, hle]; exact HY.out hc)
                    rw [hc]
                    clear hc
                    have hsm2 := (inv_len2 x e)
                    have HLL2 := Lib.hid (show (l ++ invOut x e).length ≤ 2 * (n + 1) by have := HLL.out; rw [List.length_append]; omega)
                    have HSM2 := Lib.hid hsm2
                    clear hsm2 hle
                    go_wp2_with (first | (at_builtin; refine append_edits (W := w6) (lo := wo.heap.size) (hp := hp) (lo2 := wr.heap.size) (hi2 := w6.heap.size) (v := .slice A l.length c) (v2 := .slice A6 (invOut x e).length c6) (es := l) (es2 := invOut x e) rfl _ _ rfl rfl rfl HOE6.out HO6.out (by have := HLL.out; have := HSM2.out; omega) (by omega) (by have := HHP.out; omega) HFR.out HHP.out.1 z6 (Nat.le_refl _) ?_; intro A7 c7 w7 own7 hg7 hgr7 hb7))
                    rw [← List.length_append] at own7 ⊢
                    have hw7 := hgr7.size
                    go_roundw
                    case rel => exact ⟨n + 1, m, l ++ invOut x e, A7, c7, w6.heap.size, by omega, by omega, by go_num, rfl, HU2, HLL2, Lib.hid own7, Lib.hid ⟨by omega, hw7⟩, Lib.hid (HB6.out.trans hb7)⟩
                    case measure => first | (simp [intOf]; done) | (simp [intOf]; omega)
                  · have hc3 : invCode x e = 3 := by rcases invCode_03 HAC.out with h | h; exact absurd h hc; exact h
                    have HU2 := Lib.hid (HUS.out.2 (undBack_stop (k := n + 1) (by rw [undBack_succ, HU.out, hle]; exact HN.out hc) _ (by omega)))
                    have hcb : (invCode x e != 0) = true := by simp [hc]
                    go_wp2_with fail
                    refine bodyPost_ret (v := .tuple #[.slice none 0 0, .int .i64 (invCode x e)]) (by simp [results, Tryz.results32, go_sem]) rfl ?_
                    rw [HU2.out.1, HU2.out.2, hc3]
                    have HB7 : Below w.heap.size w w6 := HB.out.trans (HB6.out.mono hbz)
                    exact ERes.mk1 (lo := w6.heap.size) HB7 (oeds_zero (Nat.le_refl _)) HB7.size
                · have hnn : es.length - count.toNat = n := by omega
                  have HQ := Lib.hid (HUS.out.1 l (by rw [hnn]; exact HU.out))
                  clear hnn
                  go_wp2_with fail
                  refine bodyPost_ret (v := .tuple #[.slice A l.length c, .int .i64 0]) (by simp [results, Tryz.results32, go_sem]) rfl ?_
                  rw [HQ.out.1, HQ.out.2]
                  exact ERes.mk1 (lo := wo.heap.size) (HB.out.trans (HBX.out.mono hbz)) (HOE.out.oeds HHP.out.2) hbz
        · have hd : (decide (0 ≤ count) && decide (count ≤ (es.length : Int))) = false := by rw [← Bool.not_eq_true]; simp; omega
          have HQ := Lib.hid (und_bad (xs := xs) (es := es) (count := count) (c := 2) (by unfold undCode; rw [HGG.out, HAA.out, if_pos (by rfl), if_pos (by omega)]) (by decide))
          clear hcn
          go_wp2_with fail
          refine (HIN.out _).mono ?_
          rintro r wz ⟨rfl, rfl⟩
          rw [hd]
          go_wp2_with fail
          refine bodyPost_ret (v := .tuple #[.slice none 0 0, .int .i64 2]) (by simp [results, Tryz.results32, go_sem]) rfl ?_
          rw [HQ.out.1, HQ.out.2]
          exact ERes.mk1 (lo := w2.heap.size) KB_7.out (oeds_zero (Nat.le_refl _)) (Below.size KB_7.out)
end Go.Proofs.YtfapnipmgmpgaaaGreatDoor

