import Derived.Test.YtfapnipmgmpgaaaGreatDoorM9
import Derived.Test.YtfapnipmgmpgaaaGreatDoorM12
import Derived.Test.YtfapnipmgmpgaaaGreatDoorM1
namespace Go.Proofs.YtfapnipmgmpgaaaGreatDoor
open Go.RowKit

set_option maxRecDepth 100000 in
set_option maxHeartbeats 4000000 in
theorem l07PlaceS_any (b : Nat) (vR : Value) (e : GEdit) (p : Int) (w : World) (h : EditAt w w.heap.size b e vR) (he : editOk e = true) (hsm : SmallL e.part) (hn : e.part.length ≤ 1099511627776) (hp : 0 ≤ p ∧ p ≤ 1000000000000000) (hk : e.kind = 1 ∨ e.kind = 2) :
    Calls Tryz.prog 107 #[.pointer (some ⟨b, 0, none⟩), .int .i64 p] w fun r w' => r = .returned (.int .i64 (placeP e p)) ∧ Below w.heap.size w w' := by
  obtain ⟨g1, g2, g3, g4, g5, g6, g7⟩ := editOk_get he
  clear he
  have HH := Lib.hid h
  have hless : ∀ q, 0 ≤ q ∧ q ≤ 1000000000000000 → ∀ W, EditAt W W.heap.size b e vR → Calls Tryz.prog 108 #[.pointer (some ⟨b, 0, none⟩), .int .i64 q] W fun r w' => r = .returned (.int .i64 (lessP e q)) ∧ Below W.heap.size W w' :=
    fun q hq W hW => l07Less_any b vR e q W hW hq g2 g3
  have HLs := Lib.hid hless
  clear hless
  have hbd : ∀ q, 0 ≤ q ∧ q ≤ 1000000000000000 → -1000000000000000 ≤ lessP e q ∧ lessP e q ≤ 2000000000000000 := by
    intro q hq; unfold lessP; split
    · omega
    · split <;> omega
  obtain ⟨k, i, j, kk, part, map⟩ := e
  obtain ⟨⟨x0, x1, x2, x3, x4, x5⟩, hlt, hR⟩ := h
  have HR := Lib.hid hR
  simp only at g1 g2 g3 g4 g5 g6 g7 hn hsm x0 x1 x2 x3 x4 x5
  have hlb := gramLen_bounds part
  obtain ⟨_, ls, hll⟩ := gram_lens g7
  have Hl := Lib.hid hll
  have hgl := gramLen_of hll
  have wji : IntKind.i64.wrap (j - i) = j - i := IntWalk.i64_in _ (by omega)
  have Hbd := Lib.hid hbd
  clear hll g7 hR hbd
  have go1 : ∀ (ins : Bool), (decide (i < p) && decide (p < j)) = ins → True := fun _ _ => trivial
  clear go1
  simp only at hk
  rcases hk with rfl | rfl
  · -- insert
    have hj0 : j = 0 := g6 rfl
    subst hj0
    have wng : IntKind.i64.wrap (-i) = -i := IntWalk.i64_in _ (by omega)
    have wn : IntKind.i64.wrap (p + lastI ls) = p + lastI ls := IntWalk.i64_in _ (by omega)
    have HG := Lib.hid hgl
    clear hgl
    by_cases c : i < p
    · have c1 : decide (i < p) = true := by simp [c]
      have c2 : decide (p < 0) = false := by simp; omega
      go_enter Tryz.func107, Tryz.ntmps107
      go_wp2_with fail
      go_quiet (fail)
      go_wp2_with fail
      refine (l02Length_any b 4 _ part ls _ Hl.out (by simpa using x4) (by simpa using hlt) (HR.out.up (below_drewN (Below.refl _ _) _)) hsm hn).mono ?_
      rintro r w1 ⟨rfl, hb1⟩
      go_wp2_with fail
      go_ret
      exact ⟨ret_int (by simp [placeP, HG.out, c]), (below_drewN (Below.refl _ _) _).trans hb1⟩
    · have c1 : decide (i < p) = false := by simp; omega
      go_enter Tryz.func107, Tryz.ntmps107
      go_wp2_with fail
      go_quiet (fail)
      go_wp2_with fail
      go_ret
      exact ⟨ret_int (by simp [placeP, of_decide_eq_false c1]), (by repeat (first | exact Below.refl _ _ | (refine Below.alloc ?_ (by first | omega | (simp; done) | (simp; omega)) _) | refine below_drewN ?_ _ | refine Below.drew ?_))⟩
  · -- kind 2
    by_cases cA : i < p
    · have a1 : decide (i < p) = true := by simp [cA]
      have HA := Lib.hid cA
      by_cases cB : p < j
      · have b1 : decide (p < j) = true := by simp [cB]
        have HB := Lib.hid cB
        clear cA cB
        go_enter Tryz.func107, Tryz.ntmps107
        go_wp2_with fail
        go_quiet (fail)
        go_wp2_with fail
        refine (HLs.out p (by omega) _ (HH.out.up (below_drewN (Below.refl _ _) _))).mono ?_
        rintro r w1 ⟨rfl, hb1⟩
        go_wp2_with fail
        go_ret
        exact ⟨ret_int (by simp [placeP]), (below_drewN (Below.refl _ _) _).trans hb1⟩
      · have b1 : decide (p < j) = false := by simp; omega
        have HB := Lib.hid cB
        clear cA cB
        go_enter Tryz.func107, Tryz.ntmps107
        go_wp2_with fail
        go_quiet (fail)
        go_wp2_with fail
        refine (HLs.out p (by omega) _ (HH.out.up (below_drewN (Below.refl _ _) _))).mono ?_
        rintro r w1 ⟨rfl, hb1⟩
        go_wp2_with fail
        go_ret
        exact ⟨ret_int (by simp [placeP]), (below_drewN (Below.refl _ _) _).trans hb1⟩
    · have a1 : decide (i < p) = false := by simp; omega
      have HA := Lib.hid cA
      clear cA
      go_enter Tryz.func107, Tryz.ntmps107
      go_wp2_with fail
      go_quiet (fail)
      go_wp2_with fail
      refine (HLs.out p (by omega) _ (HH.out.up (below_drewN (Below.refl _ _) _))).mono ?_
      rintro r w1 ⟨rfl, hb1⟩
      go_wp2_with fail
      go_ret
      exact ⟨ret_int (by simp [placeP]), (below_drewN (Below.refl _ _) _).trans hb1⟩

def simE (e : GEdit) : Bool := decide (e.kind = 1) || decide (e.kind = 2)
def remE (i j : Int) : List GEdit := if i < j then [delE i j] else []
def passI (e f : GEdit) (first : Bool) : Int := if f.kind = 1 then (if f.i < e.i ∨ (f.i = e.i ∧ first = false) then e.i + gramLen f.part else e.i) else lessP f e.i
/-- An edit as it stands behind another one. -/
def passE (e f : GEdit) (first : Bool) : List GEdit :=
  if e.kind = 1 then [insE (passI e f first) e.part]
  else if e.i = e.j then []
  else if f.kind = 1 then
    (if f.i ≤ e.i then [delE (e.i + gramLen f.part) (e.j + gramLen f.part)] else if e.j ≤ f.i then [delE e.i e.j] else [delE (f.i + gramLen f.part) (e.j + gramLen f.part), delE e.i f.i])
  else remE (lessP f e.i) (lessP f e.j)
set_option maxRecDepth 100000 in
theorem l07Simple_any (b : Nat) (vR : Value) (e : GEdit) (w : World) (h : EC w b 0 e vR) :
    Calls Tryz.prog 57 #[.pointer (some ⟨b, 0, none⟩)] w fun r w' => r = .returned (.bool (simE e)) ∧ Below w.heap.size w w' := by
  have x0 := h.c0
  have lb := h.lt
  by_cases h1 : e.kind = 1
  · rw [h1] at x0
    go_enter Tryz.func57, Tryz.ntmps57
    go_wp2_with fail
    all_goals
      go_ret
      exact ⟨ret_bool (by simp [simE, h1]), (by repeat (first | exact Below.refl _ _ | (refine Below.alloc ?_ (by first | omega | (simp; done) | (simp; omega)) _) | refine below_drewN ?_ _ | refine Below.drew ?_))⟩
  · by_cases h2 : e.kind = 2
    · rw [h2] at x0
      go_enter Tryz.func57, Tryz.ntmps57
      go_wp2_with fail
      all_goals
        go_ret
        exact ⟨ret_bool (by simp [simE, h2]), (by repeat (first | exact Below.refl _ _ | (refine Below.alloc ?_ (by first | omega | (simp; done) | (simp; omega)) _) | refine below_drewN ?_ _ | refine Below.drew ?_))⟩
    · have b1 : (e.kind == 1) = false := by simp [h1]
      have b2 : (e.kind == 2) = false := by simp [h2]
      go_enter Tryz.func57, Tryz.ntmps57
      go_wp2_with fail
      all_goals
        go_ret
        exact ⟨ret_bool (by simp [simE, h1, h2]), (by repeat (first | exact Below.refl _ _ | (refine Below.alloc ?_ (by first | omega | (simp; done) | (simp; omega)) _) | refine below_drewN ?_ _ | refine Below.drew ?_))⟩
set_option maxRecDepth 100000 in
theorem isSimple_any (e : GEdit) (vR : Value) (w : World) (hR : Sl RuleE w w.heap.size vR e.part) :
    Calls Tryz.prog 60 #[.agg #[.int .i64 e.kind, .int .i64 e.i, .int .i64 e.j, .int .i64 e.k, vR, .string e.map]] w fun r w' => r = .returned (.bool (simE e)) ∧ Below w.heap.size w w' := by
  obtain ⟨AR, cR, rfl, _⟩ := hR
  by_cases h1 : e.kind = 1
  · rw [h1]
    go_enter Tryz.func60, Tryz.ntmps60
    go_wp2_with fail
    all_goals
      go_ret
      exact ⟨ret_bool (by simp [simE, h1]), (by repeat (first | exact Below.refl _ _ | (refine Below.alloc ?_ (by first | omega | (simp; done) | (simp; omega)) _) | refine below_drewN ?_ _ | refine Below.drew ?_))⟩
  · by_cases h2 : e.kind = 2
    · rw [h2]
      go_enter Tryz.func60, Tryz.ntmps60
      go_wp2_with fail
      all_goals
        go_ret
        exact ⟨ret_bool (by simp [simE, h2]), (by repeat (first | exact Below.refl _ _ | (refine Below.alloc ?_ (by first | omega | (simp; done) | (simp; omega)) _) | refine below_drewN ?_ _ | refine Below.drew ?_))⟩
    · have b1 : (e.kind == 1) = false := by simp [h1]
      have b2 : (e.kind == 2) = false := by simp [h2]
      go_enter Tryz.func60, Tryz.ntmps60
      go_wp2_with fail
      all_goals
        go_ret
        exact ⟨ret_bool (by simp [simE, h1, h2]), (by repeat (first | exact Below.refl _ _ | (refine Below.alloc ?_ (by first | omega | (simp; done) | (simp; omega)) _) | refine below_drewN ?_ _ | refine Below.drew ?_))⟩
/-- A row of removals. -/
theorem oeds_del {W : World} {lo N : Nat} (i j : Int) (hN : N = W.heap.size) (h : lo ≤ W.heap.size) :
    OEds (W.alloc (Obj.cells #[.int .i64 2, .int .i64 i, .int .i64 j, .int .i64 0, .slice none 0 0, .string ⟨#[]⟩] 36)) lo (W.heap.size + 1) (.slice (some ⟨N, 0, none⟩) 1 1) [delE i j] :=
  oeds_one (e := delE i j) (u := .slice none 0 0) hN h (.inl ⟨rfl, none, 0, rfl, Nat.zero_le _⟩)
set_option maxRecDepth 100000 in
theorem removal_any (i j : Int) (w : World) :
    Calls Tryz.prog 139 #[.int .i64 i, .int .i64 j] w fun r w' => Below w.heap.size w w' ∧ ∃ v, r = .returned v ∧ OEds w' w.heap.size w'.heap.size v (remE i j) := by
  by_cases h : j ≤ i
  · go_enter Tryz.func139, Tryz.ntmps139
    go_wp2_with fail
    go_ret
    exact ⟨Below.refl _ _, _, rfl, by unfold remE; rw [if_neg (by omega)]; exact oeds_zero (Nat.le_refl _)⟩
  · have hd : decide (j ≤ i) = false := by simp; omega
    go_enter Tryz.func139, Tryz.ntmps139
    go_wp2_with fail
    go_ret
    refine ⟨(Below.refl _ _).alloc (Nat.le_refl _) _, _, rfl, ?_⟩
    unfold remE
    rw [if_pos (by omega)]
    have := oeds_del (W := w) (lo := w.heap.size) i j rfl (Nat.le_refl _)
    simpa using this
end Go.Proofs.YtfapnipmgmpgaaaGreatDoor

namespace Go.Proofs.YtfapnipmgmpgaaaGreatDoor
open Go.RowKit

/-- 'append(s, x, y)' of two removals in a region that draws its order. -/
theorem step_push_edit2 (W : World) {W' : World} {i1 j1 i2 j2 : Int} (hW : W' = W.alloc (.cells #[.int .i64 2, .int .i64 i1, .int .i64 j1, .int .i64 0, .slice none 0 0, .string ⟨#[]⟩, .int .i64 2, .int .i64 i2, .int .i64 j2, .int .i64 0, .slice none 0 0, .string ⟨#[]⟩] 36))
    {ops : Array Oper} {o : Oper} {a : Act} {K : Act → World → Prop} {Q : Exit → Act → World → Prop} {E : Prop} (hgd : o.guard = none) (s x : Operand)
    (ho : o.op = .call { callee := .builtin .append, args := #[s, x], argTypes := #[47, 47] }) {lo : Nat} {v : Value} {es : List GEdit}
    (hs : a.eval s = v) {N : Nat} (hx : a.eval x = .slice (some ⟨N, 0, none⟩) 2 2) (hN : N = W.heap.size) (hown : OEdP W lo lo v es) (hlen : es.length ≤ 1048576) (hbase : lo ≤ W.heap.size)
    (h : ∀ v' w', OEdP w' lo lo v' (es ++ [delE i1 j1, delE i2 j2]) → Below lo W w' → K (a.put o.dst v') w') :
    if Region.wanted o (yielded ops a.tmps) = true then Oper.wp Tryz.prog o a W' K Q else E := by
  subst hW
  subst hN
  have hw : Region.wanted o (yielded ops a.tmps) = true := by simp [Region.wanted, hgd]
  rw [if_pos hw]
  obtain ⟨ps, r, hm, hrow, hP⟩ := hown
  obtain ⟨i0, hi0, hz0, hz1, hz2⟩ := info_parts Tryz.infoEd
  obtain ⟨v', w', hrun, k1, k2, _, k3⟩ := run_append_own_at (P := Tryz.prog) (W.alloc (.cells #[.int .i64 2, .int .i64 i1, .int .i64 j1, .int .i64 0, .slice none 0 0, .string ⟨#[]⟩, .int .i64 2, .int .i64 i2, .int .i64 j2, .int .i64 0, .slice none 0 0, .string ⟨#[]⟩] 36)) lo 47 o.type 36 i0 _ 6 72 Tryz.underlying47 hi0 hz0 hz1 hz2 rfl (by decide) v es.length _ (World.ownsRow.alloc hrow _) ⟨W.heap.size, 0, none⟩ 2 2 (epCells (delE i1 j1, .slice none 0 0) ++ epCells (delE i2 j2, .slice none 0 0)) rfl
    (fun j y hy => by
      have : (W.alloc (.cells #[.int .i64 2, .int .i64 i1, .int .i64 j1, .int .i64 0, .slice none 0 0, .string ⟨#[]⟩, .int .i64 2, .int .i64 i2, .int .i64 j2, .int .i64 0, .slice none 0 0, .string ⟨#[]⟩] 36)).cell? ⟨W.heap.size, j, none⟩ = (#[Value.int .i64 2, .int .i64 i1, .int .i64 j1, .int .i64 0, .slice none 0 0, .string ⟨#[]⟩, .int .i64 2, .int .i64 i2, .int .i64 j2, .int .i64 0, .slice none 0 0, .string ⟨#[]⟩] : Array Value)[j]? := cell_of_row _ _ _ _ 36 (0, 0) (heap_alloc_new W _)
      have ha : (⟨W.heap.size, 0, none⟩ : Addr).add j = ⟨W.heap.size, j, none⟩ := by unfold Addr.add; split <;> simp_all
      rw [ha, this]; simpa [epCells, delE] using hy) (by simp [epCells, Value.oneCell']) (by simp only [maxLen]; omega) (by omega) (by simp; omega)
  unfold Oper.wp execOp
  simp only [ho, resolve, invoke, builtin, Sem.run_bind, Sem.run_pure, Result.andThen_ok, List.map_toArray, List.map_cons, List.map_nil, hs, hx, hrun]
  have hg : W.grownBy w' v.ownBlock := ⟨k2.os, k2.tape, k2.output, Nat.le_trans (by simp) k2.size, fun y hy hne => (k2.block y (by simp; omega) hne).trans (Below.heap_alloc W _ y hy)⟩
  have hb : Below lo W w' := (Below.refl lo W).grown hg hbase (fun y hy => (World.ownsRow.lt hrow y hy).1)
  refine h v' w' ?_ hb
  have hnil : ∀ (i j : Int), PartAt W v lo lo (delE i j, .slice none 0 0) := fun i j => ⟨.inl ⟨rfl, none, 0, rfl, Nat.zero_le _⟩, fun g _ => by omega⟩
  obtain ⟨r1, hr1⟩ := hP.snoc (hnil i1 j1) (Nat.le_refl _) (Nat.le_refl _)
  obtain ⟨r2, hr2⟩ := hr1.snoc (hnil i2 j2) (Nat.le_refl _) (Nat.le_refl _)
  refine ⟨(ps ++ [(delE i1 j1, .slice none 0 0)]) ++ [(delE i2 j2, .slice none 0 0)], r2, by rw [List.map_append, List.map_append, hm]; simp, by simpa [List.append_assoc] using k1, ?_⟩
  refine PartsR.reval (v := v) (N := W.heap.size + 1) (hr2.keep (fun y h1 h2 _ => by omega) hg.size) (by simpa using k3) (by omega)
theorem simE_kind {e : GEdit} (h : simE e = true) : e.kind = 1 ∨ e.kind = 2 := by simpa [simE] using h
/-- The result of passing. -/
def PRes (es : List GEdit) (w : World) (r : Ending) (w' : World) : Prop := Below w.heap.size w w' ∧ ∃ v, r = .returned v ∧ OEds w' w.heap.size w'.heap.size v es
theorem PRes.mk1 {w W : World} {es : List GEdit} {lo hi : Nat} {v : Value} (hb : Below w.heap.size w W) (h : OEds W lo hi v es) (hl : w.heap.size ≤ lo) : PRes es w (.returned v) W := by
  refine ⟨hb, v, rfl, ?_⟩
  obtain ⟨ps, r, h1, h2, h3, h4, h5⟩ := h
  exact ⟨ps, r, h1, ownsRow_more h2 hl, fun g hg => by have := h3 g hg; omega, Nat.le_refl _, h5.le hl h4⟩
theorem edit_nums {e : GEdit} (h : editOk e = true) : 0 ≤ e.i ∧ e.i ≤ 1000000000000000 ∧ 0 ≤ e.j ∧ e.j ≤ 1000000000000000 ∧ (e.kind = 2 → e.i ≤ e.j) := by
  have h1 := (kind_ok h).2.2.2
  obtain ⟨k, i, j, kk, part, map⟩ := e
  simp only [editOk, Bool.and_eq_true, inR, decide_eq_true_eq] at h
  obtain ⟨⟨⟨⟨⟨⟨⟨⟨_, _⟩, h2⟩, h3⟩, _⟩, _⟩, _⟩, _⟩, _⟩ := h
  have h4 := numOk_get h3
  simp only at h1 h2 h4 ⊢
  omega
-- GEN
set_option maxRecDepth 100000 in
set_option maxHeartbeats 4000000 in
theorem l07Pass_any (E F : Nat) (vE vF : Value) (e f : GEdit) (first : Bool) (w : World) (hE : EC w E 0 e vE) (hF : EC w F 0 f vF) (sE : Sl RuleE w w.heap.size vE e.part) (sF : Sl RuleE w w.heap.size vF f.part) (he : editOk e = true) (hf : editOk f = true) (se : simE e = true) (sf : simE f = true) :
    Calls Tryz.prog 59 #[.pointer (some ⟨E, 0, none⟩), .pointer (some ⟨F, 0, none⟩), .bool first] w (PRes (passE e f first) w) := by
  have HE := Lib.hid hE
  have HF := Lib.hid hF
  have SE := Lib.hid sE
  have SF := Lib.hid sF
  have HOF := Lib.hid hf
  have HNE := Lib.hid (edit_nums he)
  have HNF := Lib.hid (edit_nums hf)
  have HEL := Lib.hid hE.lt
  have HFL := Lib.hid hF.lt
  obtain ⟨_, lsF, hlF⟩ := gram_lens (kind_ok hf).2.1
  have hgF := gramLen_of hlF
  have hgb := gramLen_bounds f.part
  rw [hgF] at hgb
  have HLF := Lib.hid hlF
  have HGF := Lib.hid hgF
  have smF := Lib.hid (okAll_smallL (okAll_lens hlF))
  have hnF : f.part.length ≤ 1099511627776 := by have := gram_len400 (kind_ok hf).2.1; omega
  have hnE : e.part.length ≤ 1099511627776 := by have := gram_len400 (kind_ok he).2.1; omega
  have HGB := Lib.hid hgb
  have hkf := simE_kind sf
  have HKF := Lib.hid hkf
  obtain ⟨AE, cE, rfl, _⟩ := sE
  obtain ⟨AF, cF, rfl, _⟩ := sF
  have nE := HNE.out
  have nF := HNF.out
  clear hE hF he hf sf hlF hgF
  rcases simE_kind se with hk | hk
  · skip
    have x0 := HE.out.c0
    have x1 : w.cell? ⟨E, 1, none⟩ = some (.int .i64 e.i) := by simpa using HE.out.c1
    have x2 : w.cell? ⟨E, 2, none⟩ = some (.int .i64 e.j) := by simpa using HE.out.c2
    have xl := HE.out.lt
    have y0 := HF.out.c0
    have y1 : w.cell? ⟨F, 1, none⟩ = some (.int .i64 f.i) := by simpa using HF.out.c1
    have yl := HF.out.lt
    rw [hk] at x0
    have HKE := Lib.hid hk
    go_enter Tryz.func59, Tryz.ntmps59
    go_wp2_with fail
    refine (l07PlaceS_any F _ f e.i _ (EC.at_ HF.out SF.out) HOF.out smF.out hnF (by omega) hkf).mono ?_
    rintro r w1 ⟨rfl, hb1⟩
    clear x0 x1 x2 xl y0 y1 yl
    have HE1 := Lib.hid (HE.out.up hb1)
    have HF1 := Lib.hid (HF.out.up hb1)
    have HB1 := Lib.hid (hb1)
    have hz1 := hb1.size
    clear hb1 hkf
    rcases HKF.out with hkf | hkf
    · have HKF1 := Lib.hid hkf
      by_cases hii : f.i = e.i
      · have HII := Lib.hid hii
        have hbq : (f.i == e.i) = true := by simp [hii]
        cases first with
        | true =>
          have x0 := HE1.out.c0
          have x1 : w1.cell? ⟨E, 1, none⟩ = some (.int .i64 e.i) := by simpa using HE1.out.c1
          have x2 : w1.cell? ⟨E, 2, none⟩ = some (.int .i64 e.j) := by simpa using HE1.out.c2
          have xl := HE1.out.lt
          have y0 := HF1.out.c0
          have y1 : w1.cell? ⟨F, 1, none⟩ = some (.int .i64 f.i) := by simpa using HF1.out.c1
          have yl := HF1.out.lt
          rw [hkf] at y0
          clear hkf hii
          go_wp2_with fail
          go_quiet (fail)
          clear x0 x1 x2 xl y0 y1 yl
          have HE2 := Lib.hid (HE1.out.up (below_drewN (Below.refl w1.heap.size w1) nq))
          have HF2 := Lib.hid (HF1.out.up (below_drewN (Below.refl w1.heap.size w1) nq))
          have HB2 := Lib.hid (below_drewN HB1.out nq)
          clear HE1 HF1 HB1
          generalize w1.drewN nq = w2 at *
          have hpl : placeP f e.i = e.i := by unfold placeP; rw [if_pos HKF1.out, if_neg (by have := HII.out; omega)]
          rw [hpl]
          clear hpl
          have HP := Lib.hid (show passE e f true = [insE (e.i) e.part] by unfold passE; rw [if_pos HKE.out]; congr 1; unfold passI; rw [if_pos HKF1.out, if_neg (by have := HII.out; simp; omega)])
          have x4 : w2.cell? ⟨E, 4, none⟩ = some (.slice AE e.part.length cE) := by simpa using HE2.out.c4
          have xl4 := HE2.out.lt
          go_wp2_with fail
          refine (l02Own_any E 4 _ e.part _ x4 xl4 (SE.out.up HB2.out) hnE).mono ?_
          rintro r9 w9 ⟨v9, rfl, own9, hb9⟩
          obtain ⟨A9, c9, rfl, _⟩ := own_nil own9
          have HB9 := Lib.hid (Below.tr HB2.out hb9)
          have hs9 := HB9.out.size
          have OR := OwnR.of own9
          have OR2 : OwnR w9 w.heap.size w9.heap.size (.slice A9 e.part.length c9) e.part := ⟨ownsRow_more OR.1 (by have := HB2.out.size; omega), OR.2⟩
          clear x4
          go_wp2_with fail
          go_ret
          rw [HP.out]
          exact PRes.mk1 (lo := w.heap.size) (HB9.out.alloc hs9 _) (oeds_one (e := insE (e.i) e.part) (u := .slice A9 e.part.length c9) rfl hs9 (.inr OR2)) (Nat.le_refl _)
        | false =>
          have x0 := HE1.out.c0
          have x1 : w1.cell? ⟨E, 1, none⟩ = some (.int .i64 e.i) := by simpa using HE1.out.c1
          have x2 : w1.cell? ⟨E, 2, none⟩ = some (.int .i64 e.j) := by simpa using HE1.out.c2
          have xl := HE1.out.lt
          have y0 := HF1.out.c0
          have y1 : w1.cell? ⟨F, 1, none⟩ = some (.int .i64 f.i) := by simpa using HF1.out.c1
          have yl := HF1.out.lt
          rw [hkf] at y0
          clear hkf hii
          go_wp2_with fail
          go_quiet (fail)
          clear x0 x1 x2 xl y0 y1 yl
          have HE2 := Lib.hid (HE1.out.up (below_drewN (Below.refl w1.heap.size w1) nq))
          have HF2 := Lib.hid (HF1.out.up (below_drewN (Below.refl w1.heap.size w1) nq))
          have HB2 := Lib.hid (below_drewN HB1.out nq)
          clear HE1 HF1 HB1
          generalize w1.drewN nq = w2 at *
          have x0 := HE2.out.c0
          have x1 : w2.cell? ⟨E, 1, none⟩ = some (.int .i64 e.i) := by simpa using HE2.out.c1
          have x2 : w2.cell? ⟨E, 2, none⟩ = some (.int .i64 e.j) := by simpa using HE2.out.c2
          have xl := HE2.out.lt
          have y0 := HF2.out.c0
          have y1 : w2.cell? ⟨F, 1, none⟩ = some (.int .i64 f.i) := by simpa using HF2.out.c1
          have yl := HF2.out.lt
          have ws : IntKind.i64.wrap (e.i + lastI lsF) = e.i + lastI lsF := IntWalk.i64_in _ (by have := HGB.out; omega)
          have KI : C1 w2 ⟨E, 1, none⟩ (.int .i64 e.i) := ⟨x1, xl⟩
          have y4 : w2.drew.cell? ⟨F, 4, none⟩ = some (.slice AF f.part.length cF) := by simpa using (HF2.out.up (Below.drew (Below.refl _ _))).c4
          have Y4 := Lib.hid y4
          clear y4
          go_wp2_with fail
          have KD := And.intro (Below.drew (Below.refl w2.heap.size w2)) (KI.up (Below.drew (Below.refl _ _))).c
          go_region_held3 (fun w' => Below w2.heap.size w2 w' ∧ w'.cell? ⟨E, 1, none⟩ = some (.int .i64 e.i))
            (first | (with_reducible exact KD) | (with_reducible exact And.intro b3 (KI.up b3).c))
            (first | (go_at_call 56; (refine (l02Length_any F 4 _ f.part lsF _ HLF.out Y4.out yl (SF.out.up (Below.drew HB2.out)) smF.out hnF).mono ?_); rintro r3 w3 ⟨rfl, hb3⟩; have b3 := Below.undrew hb3))
          clear KD x0 x1 x2 xl y0 y1 yl KI
          have HE3 := Lib.hid (HE2.out.up b3)
          have HF3 := Lib.hid (HF2.out.up b3)
          have HB3 := Lib.hid (Below.tr HB2.out b3)
          have HP := Lib.hid (show passE e f false = [insE (e.i + lastI lsF) e.part] by unfold passE; rw [if_pos HKE.out]; congr 1; unfold passI; rw [if_pos HKF1.out, if_pos (.inr ⟨HII.out, rfl⟩), HGF.out])
          have x4 : w3.cell? ⟨E, 4, none⟩ = some (.slice AE e.part.length cE) := by simpa using HE3.out.c4
          have xl4 := HE3.out.lt
          go_wp2_with fail
          refine (l02Own_any E 4 _ e.part _ x4 xl4 (SE.out.up HB3.out) hnE).mono ?_
          rintro r9 w9 ⟨v9, rfl, own9, hb9⟩
          obtain ⟨A9, c9, rfl, _⟩ := own_nil own9
          have HB9 := Lib.hid (Below.tr HB3.out hb9)
          have hs9 := HB9.out.size
          have OR := OwnR.of own9
          have OR2 : OwnR w9 w.heap.size w9.heap.size (.slice A9 e.part.length c9) e.part := ⟨ownsRow_more OR.1 (by have := HB3.out.size; omega), OR.2⟩
          clear x4
          go_wp2_with fail
          go_ret
          rw [HP.out]
          exact PRes.mk1 (lo := w.heap.size) (HB9.out.alloc hs9 _) (oeds_one (e := insE (e.i + lastI lsF) e.part) (u := .slice A9 e.part.length c9) rfl hs9 (.inr OR2)) (Nat.le_refl _)
      · have HII := Lib.hid hii
        have hbq : (f.i == e.i) = false := by simp [hii]
        have x0 := HE1.out.c0
        have x1 : w1.cell? ⟨E, 1, none⟩ = some (.int .i64 e.i) := by simpa using HE1.out.c1
        have x2 : w1.cell? ⟨E, 2, none⟩ = some (.int .i64 e.j) := by simpa using HE1.out.c2
        have xl := HE1.out.lt
        have y0 := HF1.out.c0
        have y1 : w1.cell? ⟨F, 1, none⟩ = some (.int .i64 f.i) := by simpa using HF1.out.c1
        have yl := HF1.out.lt
        rw [hkf] at y0
        clear hkf hii
        go_wp2_with fail
        go_quiet (fail)
        clear x0 x1 x2 xl y0 y1 yl
        have HE2 := Lib.hid (HE1.out.up (below_drewN (Below.refl w1.heap.size w1) nq))
        have HF2 := Lib.hid (HF1.out.up (below_drewN (Below.refl w1.heap.size w1) nq))
        have HB2 := Lib.hid (below_drewN HB1.out nq)
        clear HE1 HF1 HB1
        generalize w1.drewN nq = w2 at *
        by_cases c0 : f.i < e.i
        · have hpl : placeP f e.i = e.i + lastI lsF := by unfold placeP; rw [if_pos HKF1.out, if_pos c0, HGF.out]
          have HC0 := Lib.hid c0
          rw [hpl]
          clear hpl c0
          have HP := Lib.hid (show passE e f first = [insE (e.i + lastI lsF) e.part] by unfold passE; rw [if_pos HKE.out]; congr 1; unfold passI; rw [if_pos HKF1.out, if_pos (.inl HC0.out), HGF.out])
          have x4 : w2.cell? ⟨E, 4, none⟩ = some (.slice AE e.part.length cE) := by simpa using HE2.out.c4
          have xl4 := HE2.out.lt
          go_wp2_with fail
          refine (l02Own_any E 4 _ e.part _ x4 xl4 (SE.out.up HB2.out) hnE).mono ?_
          rintro r9 w9 ⟨v9, rfl, own9, hb9⟩
          obtain ⟨A9, c9, rfl, _⟩ := own_nil own9
          have HB9 := Lib.hid (Below.tr HB2.out hb9)
          have hs9 := HB9.out.size
          have OR := OwnR.of own9
          have OR2 : OwnR w9 w.heap.size w9.heap.size (.slice A9 e.part.length c9) e.part := ⟨ownsRow_more OR.1 (by have := HB2.out.size; omega), OR.2⟩
          clear x4
          go_wp2_with fail
          go_ret
          rw [HP.out]
          exact PRes.mk1 (lo := w.heap.size) (HB9.out.alloc hs9 _) (oeds_one (e := insE (e.i + lastI lsF) e.part) (u := .slice A9 e.part.length c9) rfl hs9 (.inr OR2)) (Nat.le_refl _)
        · have hpl : placeP f e.i = e.i := by unfold placeP; rw [if_pos HKF1.out, if_neg c0]
          have HC0 := Lib.hid c0
          rw [hpl]
          clear hpl c0
          have HP := Lib.hid (show passE e f first = [insE (e.i) e.part] by unfold passE; rw [if_pos HKE.out]; congr 1; unfold passI; rw [if_pos HKF1.out, if_neg (by have h1 := HII.out; have h2 := HC0.out; simp [h1]; omega)])
          have x4 : w2.cell? ⟨E, 4, none⟩ = some (.slice AE e.part.length cE) := by simpa using HE2.out.c4
          have xl4 := HE2.out.lt
          go_wp2_with fail
          refine (l02Own_any E 4 _ e.part _ x4 xl4 (SE.out.up HB2.out) hnE).mono ?_
          rintro r9 w9 ⟨v9, rfl, own9, hb9⟩
          obtain ⟨A9, c9, rfl, _⟩ := own_nil own9
          have HB9 := Lib.hid (Below.tr HB2.out hb9)
          have hs9 := HB9.out.size
          have OR := OwnR.of own9
          have OR2 : OwnR w9 w.heap.size w9.heap.size (.slice A9 e.part.length c9) e.part := ⟨ownsRow_more OR.1 (by have := HB2.out.size; omega), OR.2⟩
          clear x4
          go_wp2_with fail
          go_ret
          rw [HP.out]
          exact PRes.mk1 (lo := w.heap.size) (HB9.out.alloc hs9 _) (oeds_one (e := insE (e.i) e.part) (u := .slice A9 e.part.length c9) rfl hs9 (.inr OR2)) (Nat.le_refl _)
    · have HKF1 := Lib.hid hkf
      have x0 := HE1.out.c0
      have x1 : w1.cell? ⟨E, 1, none⟩ = some (.int .i64 e.i) := by simpa using HE1.out.c1
      have x2 : w1.cell? ⟨E, 2, none⟩ = some (.int .i64 e.j) := by simpa using HE1.out.c2
      have xl := HE1.out.lt
      have y0 := HF1.out.c0
      have y1 : w1.cell? ⟨F, 1, none⟩ = some (.int .i64 f.i) := by simpa using HF1.out.c1
      have yl := HF1.out.lt
      rw [hkf] at y0
      clear hkf
      go_wp2_with fail
      go_quiet (fail)
      clear x0 x1 x2 xl y0 y1 yl
      have HE2 := Lib.hid (HE1.out.up (below_drewN (Below.refl w1.heap.size w1) nq))
      have HF2 := Lib.hid (HF1.out.up (below_drewN (Below.refl w1.heap.size w1) nq))
      have HB2 := Lib.hid (below_drewN HB1.out nq)
      clear HE1 HF1 HB1
      generalize w1.drewN nq = w2 at *
      have hpl : placeP f e.i = lessP f e.i := by unfold placeP; rw [if_neg (by rw [HKF1.out]; decide), if_pos HKF1.out]
      rw [hpl]
      clear hpl
      have HP := Lib.hid (show passE e f first = [insE (lessP f e.i) e.part] by unfold passE; rw [if_pos HKE.out]; congr 1; unfold passI; rw [if_neg (by rw [HKF1.out]; decide)])
      have x4 : w2.cell? ⟨E, 4, none⟩ = some (.slice AE e.part.length cE) := by simpa using HE2.out.c4
      have xl4 := HE2.out.lt
      go_wp2_with fail
      refine (l02Own_any E 4 _ e.part _ x4 xl4 (SE.out.up HB2.out) hnE).mono ?_
      rintro r9 w9 ⟨v9, rfl, own9, hb9⟩
      obtain ⟨A9, c9, rfl, _⟩ := own_nil own9
      have HB9 := Lib.hid (Below.tr HB2.out hb9)
      have hs9 := HB9.out.size
      have OR := OwnR.of own9
      have OR2 : OwnR w9 w.heap.size w9.heap.size (.slice A9 e.part.length c9) e.part := ⟨ownsRow_more OR.1 (by have := HB2.out.size; omega), OR.2⟩
      clear x4
      go_wp2_with fail
      go_ret
      rw [HP.out]
      exact PRes.mk1 (lo := w.heap.size) (HB9.out.alloc hs9 _) (oeds_one (e := insE (lessP f e.i) e.part) (u := .slice A9 e.part.length c9) rfl hs9 (.inr OR2)) (Nat.le_refl _)
  · skip
    have x0 := HE.out.c0
    have x1 : w.cell? ⟨E, 1, none⟩ = some (.int .i64 e.i) := by simpa using HE.out.c1
    have x2 : w.cell? ⟨E, 2, none⟩ = some (.int .i64 e.j) := by simpa using HE.out.c2
    have xl := HE.out.lt
    have y0 := HF.out.c0
    have y1 : w.cell? ⟨F, 1, none⟩ = some (.int .i64 f.i) := by simpa using HF.out.c1
    have yl := HF.out.lt
    rw [hk] at x0
    have HKE := Lib.hid hk
    have HK1 := Lib.hid (show ¬ e.kind = 1 by omega)
    go_enter Tryz.func59, Tryz.ntmps59
    go_upto_region 7 with fail
    have bA := (Below.refl w.heap.size w).alloc (Nat.le_refl _) (Obj.cells #[] 36)
    have hKO := oedp_empty (W := w) (lo := w.heap.size) rfl (Nat.le_refl _)
    have HE1 := Lib.hid (HE.out.up bA)
    have HF1 := Lib.hid (HF.out.up bA)
    have HB1 := Lib.hid bA
    have HKO1 := Lib.hid hKO
    have hs1 : w.heap.size < (w.alloc (Obj.cells #[] 36)).heap.size := by simp
    clear bA hKO x0 x1 x2 xl y0 y1 yl HE HF
    generalize w.alloc (Obj.cells #[] 36) = w1 at *
    by_cases hij : e.i = e.j
    · have hbq : (e.i == e.j) = true := by simp [hij]
      have HP := Lib.hid (show passE e f first = [] by unfold passE; rw [if_neg HK1.out, if_pos hij])
      have x0 := HE1.out.c0
      have x1 : w1.cell? ⟨E, 1, none⟩ = some (.int .i64 e.i) := by simpa using HE1.out.c1
      have x2 : w1.cell? ⟨E, 2, none⟩ = some (.int .i64 e.j) := by simpa using HE1.out.c2
      have xl := HE1.out.lt
      have y0 := HF1.out.c0
      have y1 : w1.cell? ⟨F, 1, none⟩ = some (.int .i64 f.i) := by simpa using HF1.out.c1
      have yl := HF1.out.lt
      clear hij
      go_wp2_with fail
      go_quiet (fail)
      clear x0 x1 x2 xl y0 y1 yl
      have HE2 := Lib.hid (HE1.out.up (below_drewN (Below.refl w1.heap.size w1) nq))
      have HF2 := Lib.hid (HF1.out.up (below_drewN (Below.refl w1.heap.size w1) nq))
      have HB2 := Lib.hid (below_drewN HB1.out nq)
      have HKO2 := Lib.hid (HKO1.out.keep (below_drewN (Below.refl w1.heap.size w1) nq) (by omega))
      have hs2 : w.heap.size < (w1.drewN nq).heap.size := hs1
      clear HE1 HF1 HB1 HKO1
      generalize w1.drewN nq = w2 at *
      go_wp2_with fail
      go_ret
      rw [HP.out]
      exact PRes.mk1 (lo := w.heap.size) HB2.out (OEdP.oeds HKO2.out (by omega)) (Nat.le_refl _)
    · have hbq : (e.i == e.j) = false := by simp [hij]
      have HIJ := Lib.hid hij
      have x0 := HE1.out.c0
      have x1 : w1.cell? ⟨E, 1, none⟩ = some (.int .i64 e.i) := by simpa using HE1.out.c1
      have x2 : w1.cell? ⟨E, 2, none⟩ = some (.int .i64 e.j) := by simpa using HE1.out.c2
      have xl := HE1.out.lt
      have y0 := HF1.out.c0
      have y1 : w1.cell? ⟨F, 1, none⟩ = some (.int .i64 f.i) := by simpa using HF1.out.c1
      have yl := HF1.out.lt
      clear hij
      go_wp2_with fail
      go_quiet (fail)
      clear x0 x1 x2 xl y0 y1 yl
      have HE2 := Lib.hid (HE1.out.up (below_drewN (Below.refl w1.heap.size w1) nq))
      have HF2 := Lib.hid (HF1.out.up (below_drewN (Below.refl w1.heap.size w1) nq))
      have HB2 := Lib.hid (below_drewN HB1.out nq)
      have HKO2 := Lib.hid (HKO1.out.keep (below_drewN (Below.refl w1.heap.size w1) nq) (by omega))
      have hs2 : w.heap.size < (w1.drewN nq).heap.size := hs1
      clear HE1 HF1 HB1 HKO1
      generalize w1.drewN nq = w2 at *
      rcases HKF.out with hkf | hkf
      · have HKF1 := Lib.hid hkf
        have x0 := HE2.out.c0
        have x1 : w2.cell? ⟨E, 1, none⟩ = some (.int .i64 e.i) := by simpa using HE2.out.c1
        have x2 : w2.cell? ⟨E, 2, none⟩ = some (.int .i64 e.j) := by simpa using HE2.out.c2
        have xl := HE2.out.lt
        have y0 := HF2.out.c0
        have y1 : w2.cell? ⟨F, 1, none⟩ = some (.int .i64 f.i) := by simpa using HF2.out.c1
        have yl := HF2.out.lt
        rw [hkf] at y0
        clear hkf
        have y4 : w2.cell? ⟨F, 4, none⟩ = some (.slice AF f.part.length cF) := by simpa using HF2.out.c4
        go_wp2_with fail
        refine (l02Length_any F 4 _ f.part lsF _ HLF.out y4 yl (SF.out.up HB2.out) smF.out hnF).mono ?_
        rintro r3 w3 ⟨rfl, hb3⟩
        clear x0 x1 x2 xl y0 y1 yl y4
        have HE3 := Lib.hid (HE2.out.up hb3)
        have HF3 := Lib.hid (HF2.out.up hb3)
        have HB3 := Lib.hid (Below.tr HB2.out hb3)
        have HKO3 := Lib.hid (HKO2.out.keep hb3 (by omega))
        have hs3 : w.heap.size < w3.heap.size := Nat.lt_of_lt_of_le hs2 hb3.size
        have hG := HGB.out
        have w1a : IntKind.i64.wrap (e.i + lastI lsF) = e.i + lastI lsF := IntWalk.i64_in _ (by omega)
        have w2a : IntKind.i64.wrap (e.j + lastI lsF) = e.j + lastI lsF := IntWalk.i64_in _ (by omega)
        have w3a : IntKind.i64.wrap (f.i + lastI lsF) = f.i + lastI lsF := IntWalk.i64_in _ (by omega)
        clear hb3 HE2 HF2 HB2 HKO2 hG
        by_cases c1 : f.i ≤ e.i
        · have HP := Lib.hid (show passE e f first = [delE (e.i + lastI lsF) (e.j + lastI lsF)] by unfold passE; rw [if_neg HK1.out, if_neg HIJ.out, if_pos HKF1.out, if_pos c1, HGF.out])
          have x0 := HE3.out.c0
          have x1 : w3.cell? ⟨E, 1, none⟩ = some (.int .i64 e.i) := by simpa using HE3.out.c1
          have x2 : w3.cell? ⟨E, 2, none⟩ = some (.int .i64 e.j) := by simpa using HE3.out.c2
          have xl := HE3.out.lt
          have y0 := HF3.out.c0
          have y1 : w3.cell? ⟨F, 1, none⟩ = some (.int .i64 f.i) := by simpa using HF3.out.c1
          have yl := HF3.out.lt
          go_wp2_with fail
          go_quiet (fail)
          clear x0 x1 x2 xl y0 y1 yl
          have HE4 := Lib.hid (HE3.out.up (below_drewN (Below.refl w3.heap.size w3) nq))
          have HF4 := Lib.hid (HF3.out.up (below_drewN (Below.refl w3.heap.size w3) nq))
          have HB4 := Lib.hid (below_drewN HB3.out nq)
          have HKO4 := Lib.hid (HKO3.out.keep (below_drewN (Below.refl w3.heap.size w3) nq) (by omega))
          have hs4 : w.heap.size < (w3.drewN nq).heap.size := hs3
          clear HE3 HF3 HB3 HKO3
          generalize w3.drewN nq = w4 at *
          have x0 := HE4.out.c0
          have x1 : w4.cell? ⟨E, 1, none⟩ = some (.int .i64 e.i) := by simpa using HE4.out.c1
          have x2 : w4.cell? ⟨E, 2, none⟩ = some (.int .i64 e.j) := by simpa using HE4.out.c2
          have xl := HE4.out.lt
          have y0 := HF4.out.c0
          have y1 : w4.cell? ⟨F, 1, none⟩ = some (.int .i64 f.i) := by simpa using HF4.out.c1
          have yl := HF4.out.lt
          have KS : ∀ W : World, (∀ x, x < w.heap.size → W.heap[x]? = w4.heap[x]?) → W.cell? ⟨E, 1, none⟩ = some (.int .i64 e.i) ∧ W.cell? ⟨E, 2, none⟩ = some (.int .i64 e.j) := fun W hW => ⟨(by simpa using (HE4.out.same (hW E HEL.out)).c1), (by simpa using (HE4.out.same (hW E HEL.out)).c2)⟩
          have KD := KS w4.drew (fun _ _ => rfl)
          have KA := fun (o : Obj) => KS (w4.alloc o).drew (fun x hx => Below.heap_alloc w4 o x (by omega))
          go_wp2_with fail
          go_region_held3 (fun w' => w'.cell? ⟨E, 1, none⟩ = some (.int .i64 e.i) ∧ w'.cell? ⟨E, 2, none⟩ = some (.int .i64 e.j))
            (first | (with_reducible exact KD) | (with_reducible exact KA _) | (with_reducible exact KS _ k9))
            (first
              | (refine step_push_edit w4.drew (e := delE (e.i + lastI lsF) (e.j + lastI lsF)) (u := .slice none 0 0) (by rfl) (by rfl) _ _ (by rfl) (lo := w.heap.size) (hp := w.heap.size) (pa := w.heap.size) (pb := w.heap.size) (v := .slice (some ⟨w.heap.size, 0, none⟩) 0 0) (es := []) (by rfl) (by first | rfl | simp) rfl (HKO4.out.keep (Below.drew (Below.refl _ _)) (by omega)) (by simp) (show w.heap.size ≤ w4.heap.size by omega) (by simp [Value.oneCell']) ⟨.inl ⟨rfl, none, 0, rfl, Nat.zero_le _⟩, fun g hg => by omega⟩ (Nat.le_refl _) (Nat.le_refl _) (show w.heap.size ≤ w4.heap.size by omega) (Nat.le_refl _) ?_; intro g9 c9' w9 own9 hg9 hgr9 hb9; have k9 : ∀ x, x < w.heap.size → w9.heap[x]? = w4.heap[x]? := (fun x hx => hb9.block x hx)))
          go_wp2_with fail
          go_ret
          rw [HP.out]
          exact PRes.mk1 (lo := w.heap.size) (Below.trans (Below.drew HB4.out) hb9) (OEdP.oeds own9 (by have h : w4.heap.size ≤ w9.heap.size := hb9.size; omega)) (Nat.le_refl _)
        · have d1 : decide (f.i ≤ e.i) = false := by simp; omega
          have HC1 := Lib.hid c1
          clear c1
          have x0 := HE3.out.c0
          have x1 : w3.cell? ⟨E, 1, none⟩ = some (.int .i64 e.i) := by simpa using HE3.out.c1
          have x2 : w3.cell? ⟨E, 2, none⟩ = some (.int .i64 e.j) := by simpa using HE3.out.c2
          have xl := HE3.out.lt
          have y0 := HF3.out.c0
          have y1 : w3.cell? ⟨F, 1, none⟩ = some (.int .i64 f.i) := by simpa using HF3.out.c1
          have yl := HF3.out.lt
          go_wp2_with fail
          go_quiet (fail)
          clear x0 x1 x2 xl y0 y1 yl
          have HE4 := Lib.hid (HE3.out.up (below_drewN (Below.refl w3.heap.size w3) nq))
          have HF4 := Lib.hid (HF3.out.up (below_drewN (Below.refl w3.heap.size w3) nq))
          have HB4 := Lib.hid (below_drewN HB3.out nq)
          have HKO4 := Lib.hid (HKO3.out.keep (below_drewN (Below.refl w3.heap.size w3) nq) (by omega))
          have hs4 : w.heap.size < (w3.drewN nq).heap.size := hs3
          clear HE3 HF3 HB3 HKO3
          generalize w3.drewN nq = w4 at *
          by_cases c2 : e.j ≤ f.i
          · have HP := Lib.hid (show passE e f first = [delE e.i e.j] by unfold passE; rw [if_neg HK1.out, if_neg HIJ.out, if_pos HKF1.out, if_neg (by have := HC1.out; omega), if_pos c2])
            have x0 := HE4.out.c0
            have x1 : w4.cell? ⟨E, 1, none⟩ = some (.int .i64 e.i) := by simpa using HE4.out.c1
            have x2 : w4.cell? ⟨E, 2, none⟩ = some (.int .i64 e.j) := by simpa using HE4.out.c2
            have xl := HE4.out.lt
            have y0 := HF4.out.c0
            have y1 : w4.cell? ⟨F, 1, none⟩ = some (.int .i64 f.i) := by simpa using HF4.out.c1
            have yl := HF4.out.lt
            go_wp2_with fail
            go_quiet (fail)
            clear x0 x1 x2 xl y0 y1 yl
            have HE5 := Lib.hid (HE4.out.up (below_drewN (Below.refl w4.heap.size w4) nq))
            have HF5 := Lib.hid (HF4.out.up (below_drewN (Below.refl w4.heap.size w4) nq))
            have HB5 := Lib.hid (below_drewN HB4.out nq)
            have HKO5 := Lib.hid (HKO4.out.keep (below_drewN (Below.refl w4.heap.size w4) nq) (by omega))
            have hs5 : w.heap.size < (w4.drewN nq).heap.size := hs4
            clear HE4 HF4 HB4 HKO4
            generalize w4.drewN nq = w5 at *
            have x0 := HE5.out.c0
            have x1 : w5.cell? ⟨E, 1, none⟩ = some (.int .i64 e.i) := by simpa using HE5.out.c1
            have x2 : w5.cell? ⟨E, 2, none⟩ = some (.int .i64 e.j) := by simpa using HE5.out.c2
            have xl := HE5.out.lt
            have y0 := HF5.out.c0
            have y1 : w5.cell? ⟨F, 1, none⟩ = some (.int .i64 f.i) := by simpa using HF5.out.c1
            have yl := HF5.out.lt
            have KS : ∀ W : World, (∀ x, x < w.heap.size → W.heap[x]? = w5.heap[x]?) → W.cell? ⟨E, 1, none⟩ = some (.int .i64 e.i) ∧ W.cell? ⟨E, 2, none⟩ = some (.int .i64 e.j) := fun W hW => ⟨(by simpa using (HE5.out.same (hW E HEL.out)).c1), (by simpa using (HE5.out.same (hW E HEL.out)).c2)⟩
            have KD := KS w5.drew (fun _ _ => rfl)
            have KA := fun (o : Obj) => KS (w5.alloc o).drew (fun x hx => Below.heap_alloc w5 o x (by omega))
            go_wp2_with fail
            go_region_held3 (fun w' => w'.cell? ⟨E, 1, none⟩ = some (.int .i64 e.i) ∧ w'.cell? ⟨E, 2, none⟩ = some (.int .i64 e.j))
              (first | (with_reducible exact KD) | (with_reducible exact KA _) | (with_reducible exact KS _ k9))
              (first
                | (refine step_push_edit w5.drew (e := delE (e.i) (e.j)) (u := .slice none 0 0) (by rfl) (by rfl) _ _ (by rfl) (lo := w.heap.size) (hp := w.heap.size) (pa := w.heap.size) (pb := w.heap.size) (v := .slice (some ⟨w.heap.size, 0, none⟩) 0 0) (es := []) (by rfl) (by first | rfl | simp) rfl (HKO5.out.keep (Below.drew (Below.refl _ _)) (by omega)) (by simp) (show w.heap.size ≤ w5.heap.size by omega) (by simp [Value.oneCell']) ⟨.inl ⟨rfl, none, 0, rfl, Nat.zero_le _⟩, fun g hg => by omega⟩ (Nat.le_refl _) (Nat.le_refl _) (show w.heap.size ≤ w5.heap.size by omega) (Nat.le_refl _) ?_; intro g9 c9' w9 own9 hg9 hgr9 hb9; have k9 : ∀ x, x < w.heap.size → w9.heap[x]? = w5.heap[x]? := (fun x hx => hb9.block x hx)))
            go_wp2_with fail
            go_ret
            rw [HP.out]
            exact PRes.mk1 (lo := w.heap.size) (Below.trans (Below.drew HB5.out) hb9) (OEdP.oeds own9 (by have h : w5.heap.size ≤ w9.heap.size := hb9.size; omega)) (Nat.le_refl _)
          · have d2 : decide (e.j ≤ f.i) = false := by simp; omega
            have HP := Lib.hid (show passE e f first = [delE (f.i + lastI lsF) (e.j + lastI lsF), delE e.i f.i] by unfold passE; rw [if_neg HK1.out, if_neg HIJ.out, if_pos HKF1.out, if_neg (by have := HC1.out; omega), if_neg (by omega), HGF.out])
            have x0 := HE4.out.c0
            have x1 : w4.cell? ⟨E, 1, none⟩ = some (.int .i64 e.i) := by simpa using HE4.out.c1
            have x2 : w4.cell? ⟨E, 2, none⟩ = some (.int .i64 e.j) := by simpa using HE4.out.c2
            have xl := HE4.out.lt
            have y0 := HF4.out.c0
            have y1 : w4.cell? ⟨F, 1, none⟩ = some (.int .i64 f.i) := by simpa using HF4.out.c1
            have yl := HF4.out.lt
            go_wp2_with fail
            go_quiet (fail)
            clear x0 x1 x2 xl y0 y1 yl
            have HE5 := Lib.hid (HE4.out.up (below_drewN (Below.refl w4.heap.size w4) nq))
            have HF5 := Lib.hid (HF4.out.up (below_drewN (Below.refl w4.heap.size w4) nq))
            have HB5 := Lib.hid (below_drewN HB4.out nq)
            have HKO5 := Lib.hid (HKO4.out.keep (below_drewN (Below.refl w4.heap.size w4) nq) (by omega))
            have hs5 : w.heap.size < (w4.drewN nq).heap.size := hs4
            clear HE4 HF4 HB4 HKO4
            generalize w4.drewN nq = w5 at *
            have x0 := HE5.out.c0
            have x1 : w5.cell? ⟨E, 1, none⟩ = some (.int .i64 e.i) := by simpa using HE5.out.c1
            have x2 : w5.cell? ⟨E, 2, none⟩ = some (.int .i64 e.j) := by simpa using HE5.out.c2
            have xl := HE5.out.lt
            have y0 := HF5.out.c0
            have y1 : w5.cell? ⟨F, 1, none⟩ = some (.int .i64 f.i) := by simpa using HF5.out.c1
            have yl := HF5.out.lt
            have KS : ∀ W : World, (∀ x, x < w.heap.size → W.heap[x]? = w5.heap[x]?) → W.cell? ⟨E, 1, none⟩ = some (.int .i64 e.i) ∧ W.cell? ⟨E, 2, none⟩ = some (.int .i64 e.j) ∧ W.cell? ⟨F, 1, none⟩ = some (.int .i64 f.i) := fun W hW => ⟨(by simpa using (HE5.out.same (hW E HEL.out)).c1), (by simpa using (HE5.out.same (hW E HEL.out)).c2), (by simpa using (HF5.out.same (hW F HFL.out)).c1)⟩
            have KD := KS w5.drew (fun _ _ => rfl)
            have KA := fun (o : Obj) => KS (w5.alloc o).drew (fun x hx => Below.heap_alloc w5 o x (by omega))
            go_wp2_with fail
            go_region_held3 (fun w' => w'.cell? ⟨E, 1, none⟩ = some (.int .i64 e.i) ∧ w'.cell? ⟨E, 2, none⟩ = some (.int .i64 e.j) ∧ w'.cell? ⟨F, 1, none⟩ = some (.int .i64 f.i))
              (first | (with_reducible exact KD) | (with_reducible exact KA _) | (with_reducible exact KS _ k9))
              (first
                | (refine step_push_edit2 w5.drew (i1 := f.i + lastI lsF) (j1 := e.j + lastI lsF) (i2 := e.i) (j2 := f.i) (by rfl) (by rfl) _ _ (by rfl) (lo := w.heap.size) (v := .slice (some ⟨w.heap.size, 0, none⟩) 0 0) (es := []) (by rfl) (by first | rfl | simp) rfl (HKO5.out.keep (Below.drew (Below.refl _ _)) (by omega)) (by simp) (show w.heap.size ≤ w5.heap.size by omega) ?_; intro v9 w9 own9 hb9; have k9 : ∀ x, x < w.heap.size → w9.heap[x]? = w5.heap[x]? := (fun x hx => hb9.block x hx)))
            go_wp2_with fail
            go_ret
            rw [HP.out]
            exact PRes.mk1 (lo := w.heap.size) (Below.trans (Below.drew HB5.out) hb9) (OEdP.oeds own9 (by have h : w5.heap.size ≤ w9.heap.size := hb9.size; omega)) (Nat.le_refl _)
      · have HKF1 := Lib.hid hkf
        have x0 := HE2.out.c0
        have x1 : w2.cell? ⟨E, 1, none⟩ = some (.int .i64 e.i) := by simpa using HE2.out.c1
        have x2 : w2.cell? ⟨E, 2, none⟩ = some (.int .i64 e.j) := by simpa using HE2.out.c2
        have xl := HE2.out.lt
        have y0 := HF2.out.c0
        have y1 : w2.cell? ⟨F, 1, none⟩ = some (.int .i64 f.i) := by simpa using HF2.out.c1
        have yl := HF2.out.lt
        rw [hkf] at y0
        clear hkf
        go_wp2_with fail
        refine (l07Less_any F _ f e.i _ (EC.at_ HF2.out (SF.out.up HB2.out)) (by omega) (by omega) (by omega)).mono ?_
        rintro r3 w3 ⟨rfl, hb3⟩
        clear x0 x1 x2 xl y0 y1 yl
        have HE3 := Lib.hid (HE2.out.up hb3)
        have HF3 := Lib.hid (HF2.out.up hb3)
        have HB3 := Lib.hid (Below.tr HB2.out hb3)
        have HKO3 := Lib.hid (HKO2.out.keep hb3 (by omega))
        have hs3 : w.heap.size < w3.heap.size := Nat.lt_of_lt_of_le hs2 hb3.size
        clear hb3 HE2 HF2 HB2 HKO2
        have x0 := HE3.out.c0
        have x1 : w3.cell? ⟨E, 1, none⟩ = some (.int .i64 e.i) := by simpa using HE3.out.c1
        have x2 : w3.cell? ⟨E, 2, none⟩ = some (.int .i64 e.j) := by simpa using HE3.out.c2
        have xl := HE3.out.lt
        have y0 := HF3.out.c0
        have y1 : w3.cell? ⟨F, 1, none⟩ = some (.int .i64 f.i) := by simpa using HF3.out.c1
        have yl := HF3.out.lt
        go_wp2_with fail
        refine (l07Less_any F _ f e.j _ (EC.at_ HF3.out (SF.out.up HB3.out)) (by omega) (by omega) (by omega)).mono ?_
        rintro r4 w4 ⟨rfl, hb4⟩
        clear x0 x1 x2 xl y0 y1 yl
        have HB4 := Lib.hid (Below.tr HB3.out hb4)
        have HKO4 := Lib.hid (HKO3.out.keep hb4 (by omega))
        have hs4 : w.heap.size < w4.heap.size := Nat.lt_of_lt_of_le hs3 hb4.size
        clear hb4 HB3 HKO3
        have hPP := show passE e f first = remE (lessP f e.i) (lessP f e.j) by unfold passE; rw [if_neg HK1.out, if_neg HIJ.out, if_neg (by rw [HKF1.out]; decide)]
        obtain ⟨a, ha⟩ : ∃ a, lessP f e.i = a := ⟨_, rfl⟩
        obtain ⟨b, hb⟩ : ∃ b, lessP f e.j = b := ⟨_, rfl⟩
        rw [ha, hb] at hPP ⊢
        have HPP := Lib.hid hPP
        clear hPP ha hb
        by_cases hab : a < b
        · have HP := Lib.hid (show passE e f first = [delE a b] by rw [HPP.out]; unfold remE; rw [if_pos hab])
          go_wp2_with (first
            | (at_builtin; refine push_edit (W := w4) (N := w4.heap.size) (e := delE a b) (u := .slice none 0 0) (lo := w.heap.size) (hp := w.heap.size) (pa := w.heap.size) (pb := w.heap.size) (v := .slice (some ⟨w.heap.size, 0, none⟩) 0 0) (es := []) rfl _ _ rfl rfl rfl rfl HKO4.out (by simp) (by omega) (by simp [Value.oneCell']) ⟨.inl ⟨rfl, none, 0, rfl, Nat.zero_le _⟩, fun g hg => by omega⟩ (Nat.le_refl _) (Nat.le_refl _) (by omega) (Nat.le_refl _) ?_; intro g9 c9' w9 own9 hg9 hgr9 hb9))
          go_ret
          rw [HP.out]
          exact PRes.mk1 (lo := w.heap.size) (Below.trans HB4.out hb9) (OEdP.oeds own9 (by have h : w4.heap.size ≤ w9.heap.size := hb9.size; omega)) (Nat.le_refl _)
        · have HP := Lib.hid (show passE e f first = [] by rw [HPP.out]; unfold remE; rw [if_neg hab])
          have hd : decide (a < b) = false := by simp; omega
          go_wp2_with fail
          go_ret
          rw [HP.out]
          exact PRes.mk1 (lo := w.heap.size) HB4.out (OEdP.oeds HKO4.out (by omega)) (Nat.le_refl _)
end Go.Proofs.YtfapnipmgmpgaaaGreatDoor

namespace Go.Proofs.YtfapnipmgmpgaaaGreatDoor

/-- Edits of a list done one behind another. -/
def mrgF (now : List GRule) : List GEdit → Option (List GRule)
  | [] => some now
  | x :: r => if applyCode now x = 0 then mrgF (applyOut now x) r else none
/-- All edits of a list are right and fit where they come to be done. -/
def RestOk (now : List GRule) : List GEdit → Prop
  | [] => True
  | x :: r => editOk x = true ∧ editFits x (gramLen now) = true ∧ (applyCode now x = 0 → RestOk (applyOut now x) r)
def mrgS (xs : List GRule) (e f : GEdit) : Option (List GRule) := if applyCode xs e = 0 then mrgF (applyOut xs e) (passE f e false) else none
def mrgCode (xs : List GRule) (e f : GEdit) : Int :=
  if gramOk xs && editOk e && editOk f then (if simE e && simE f && editFits e (gramLen xs) && editFits f (gramLen xs) then (match mrgS xs e f with | some _ => 0 | none => 3) else 2) else 1
def mrgOut (xs : List GRule) (e f : GEdit) : List GRule :=
  if gramOk xs && editOk e && editOk f then (if simE e && simE f && editFits e (gramLen xs) && editFits f (gramLen xs) then (match mrgS xs e f with | some o => o | none => []) else []) else []
theorem insE_ok {i : Int} {p : List GRule} (hi : 0 ≤ i ∧ i ≤ 1000000000000000) (hp : 0 < p.length) (hg : gramOk p = true) : editOk (insE i p) = true := by
  simp [editOk, insE, inR, numOk, usesJ, usesK, hi, hp, hg]
  rfl
theorem delE_ok {i j : Int} (hi : 0 ≤ i ∧ i ≤ j ∧ j ≤ 1000000000000000) : editOk (delE i j) = true := by
  have h : ¬ j < i := by omega
  have h1 : i ≤ 1000000000000000 := by omega
  have h2 : 0 ≤ j := by omega
  simp [editOk, delE, inR, numOk, usesJ, usesK, hi, h1, h2, gramOk_nil]
  exact ⟨decide_eq_false h, rfl⟩
theorem fits_ins {i n : Int} {p : List GRule} (h : i ≤ n) : editFits (insE i p) n = true := by simp [editFits, insE, h]
theorem fits_del {i j n : Int} (h : j ≤ n) : editFits (delE i j) n = true := by simp [editFits, delE, h]
theorem part_pos {e : GEdit} (h : editOk e = true) (hk : e.kind = 1) : 0 < e.part.length ∧ gramOk e.part = true := by
  refine ⟨?_, (kind_ok h).2.1⟩
  obtain ⟨k, i, j, kk, part, map⟩ := e
  simp only at hk
  subst hk
  simp only [editOk, Bool.and_eq_true] at h
  obtain ⟨⟨⟨_, h6⟩, _⟩, _⟩ := h
  simpa using h6
theorem merge_rest {xs : List GRule} {e f : GEdit} (ha : applyCode xs e = 0) (se : simE e = true) (sf : simE f = true) (hf : editOk f = true) (ff : editFits f (gramLen xs) = true) : RestOk (applyOut xs e) (passE f e false) := by
  obtain ⟨g1, g2, g3⟩ := applyCode_ok ha
  obtain ⟨hlen, hok⟩ := apply_len ha (simE_kind se)
  have hb := gramLen_bounds (applyOut xs e)
  rw [hlen] at hb
  have hE := fits_nums g2 g3
  have hF := fits_nums hf ff
  have hm := gramLen_bounds e.part
  have hn := gramLen_bounds xs
  rcases simE_kind sf with kf | kf
  · obtain ⟨pp, pg⟩ := part_pos hf kf
    have hfi := hF.2.1 kf
    have : passE f e false = [insE (passI f e false) f.part] := by unfold passE; rw [if_pos kf]
    rw [this]
    have hat : 0 ≤ passI f e false ∧ passI f e false ≤ editLen e (gramLen xs) := by
      unfold passI editLen at *
      rcases simE_kind se with ke | ke
      · rw [if_pos ke] at hb ⊢
        rw [if_pos ke]
        split <;> omega
      · have hj := hE.2.2.1 (by omega)
        rw [if_neg (by omega), if_neg (by omega), if_pos ke]
        unfold lessP
        split
        · omega
        · split <;> omega
    refine ⟨insE_ok (by omega) pp pg, fits_ins (by rw [hlen]; exact hat.2), fun _ => trivial⟩
  · have hfj := hF.2.2.1 (by omega)
    by_cases hij : f.i = f.j
    · have : passE f e false = [] := by unfold passE; rw [if_neg (by omega), if_pos hij]
      rw [this]; trivial
    · rcases simE_kind se with ke | ke
      · have hl2 : editLen e (gramLen xs) = gramLen xs + gramLen e.part := by unfold editLen; rw [if_pos ke]
        rw [hl2] at hb hlen
        have hei := hE.2.1 ke
        by_cases c1 : e.i ≤ f.i
        · have : passE f e false = [delE (f.i + gramLen e.part) (f.j + gramLen e.part)] := by unfold passE; rw [if_neg (by omega), if_neg hij, if_pos ke, if_pos c1]
          rw [this]
          exact ⟨delE_ok (by omega), fits_del (by omega), fun _ => trivial⟩
        · by_cases c2 : f.j ≤ e.i
          · have : passE f e false = [delE f.i f.j] := by unfold passE; rw [if_neg (by omega), if_neg hij, if_pos ke, if_neg c1, if_pos c2]
            rw [this]
            exact ⟨delE_ok (by omega), fits_del (by omega), fun _ => trivial⟩
          · have : passE f e false = [delE (e.i + gramLen e.part) (f.j + gramLen e.part), delE f.i e.i] := by unfold passE; rw [if_neg (by omega), if_neg hij, if_pos ke, if_neg c1, if_neg c2]
            rw [this]
            refine ⟨delE_ok (by omega), fits_del (by omega), fun h2 => ⟨delE_ok (by omega), ?_, fun _ => trivial⟩⟩
            have h3 := (apply_len h2 (.inr rfl)).1
            apply fits_del
            rw [h3]
            show e.i ≤ editLen (delE (e.i + gramLen e.part) (f.j + gramLen e.part)) _
            have : editLen (delE (e.i + gramLen e.part) (f.j + gramLen e.part)) (gramLen (applyOut xs e)) = gramLen (applyOut xs e) - ((f.j + gramLen e.part) - (e.i + gramLen e.part)) := rfl
            rw [this, hlen]; omega
      · have hl2 : editLen e (gramLen xs) = gramLen xs - (e.j - e.i) := by unfold editLen; rw [if_neg (by omega), if_pos ke]
        rw [hl2] at hb hlen
        have hej := hE.2.2.1 (by omega)
        have : passE f e false = remE (lessP e f.i) (lessP e f.j) := by unfold passE; rw [if_neg (by omega), if_neg hij, if_neg (by omega)]
        rw [this]
        unfold remE
        split
        · rename_i hlt
          have b1 : 0 ≤ lessP e f.i := by unfold lessP; split; omega; split <;> omega
          have b2 : lessP e f.j ≤ gramLen xs - (e.j - e.i) := by unfold lessP; split; omega; split <;> omega
          exact ⟨delE_ok (by omega), fits_del (by omega), fun _ => trivial⟩
        · trivial
theorem pass_all {xs : List GRule} {e f : GEdit} (ha : applyCode xs e = 0) (se : simE e = true) (sf : simE f = true) (hf : editOk f = true) (ff : editFits f (gramLen xs) = true) : (passE f e false).all editOk = true := by
  obtain ⟨g1, g2, g3⟩ := applyCode_ok ha
  obtain ⟨hlen, hok⟩ := apply_len ha (simE_kind se)
  have hb := gramLen_bounds (applyOut xs e)
  rw [hlen] at hb
  have hr := merge_rest ha se sf hf ff
  have hE := fits_nums g2 g3
  have hF := fits_nums hf ff
  cases hp : passE f e false with
  | nil => rfl
  | cons x r =>
    rw [hp] at hr
    obtain ⟨h1, h2, h3⟩ := hr
    cases r with
    | nil => simp [h1]
    | cons y r2 =>
      have ht : y = delE f.i e.i ∧ r2 = [] ∧ f.kind = 2 ∧ e.kind = 1 ∧ f.i < e.i := by
        unfold passE at hp
        split at hp
        · cases hp
        · rename_i hk1
          split at hp
          · cases hp
          · split at hp
            · rename_i ke
              split at hp
              · cases hp
              · split at hp
                · cases hp
                · rename_i c1 c2
                  simp at hp
                  refine ⟨hp.2.1.symm, hp.2.2, ?_, ke, by omega⟩
                  rcases simE_kind sf with h | h
                  · exact absurd h hk1
                  · exact h
            · unfold remE at hp
              split at hp
              · cases hp
              · cases hp
      obtain ⟨rfl, rfl, kf, ke, hlt⟩ := ht
      have h4 : editOk (delE f.i e.i) = true := delE_ok (by have := hE.2.1 ke; have := hF.1; have := gramLen_bounds xs; omega)
      simp [h1, h4]
end Go.Proofs.YtfapnipmgmpgaaaGreatDoor

namespace Go.Proofs.YtfapnipmgmpgaaaGreatDoor
open Go.RowKit

theorem OEds.setOther {w : World} {lo hi : Nat} {v u : Value} {es : List GEdit} {a : Addr} (h : OEds w lo hi v es) (ha : a.block < lo) : OEds (w.setCell a u) lo hi v es :=
  h.keep (fun g h1 _ => Below.heap_setCell w a u g (by omega)) (by simp [World.setCell])
theorem mrg_bad {xs : List GRule} {e f : GEdit} {c : Int} (h : mrgCode xs e f = c) (hc : c ≠ 0) : mrgOut xs e f = [] ∧ mrgCode xs e f = c := by
  refine ⟨?_, h⟩
  unfold mrgCode at h
  unfold mrgOut
  split
  · rename_i h1
    rw [if_pos h1] at h
    split
    · rename_i h2
      rw [if_pos h2] at h
      cases hm : mrgS xs e f with
      | none => rfl
      | some o => rw [hm] at h; exact absurd h.symm hc
    · rfl
  · rfl
theorem code_03 {xs : List GRule} {e : GEdit} (hg : gramOk xs = true) (he : editOk e = true) (hf : editFits e (gramLen xs) = true) : applyCode xs e = 0 ∨ applyCode xs e = 3 := by
  unfold applyCode
  rw [hg, he, hf]
  show editC _ = 0 ∨ editC _ = 3
  unfold editC
  split
  · exact .inl rfl
  · exact .inr rfl
set_option maxRecDepth 100000 in
set_option maxHeartbeats 4000000 in
theorem specMerge_any (vG vE vF : Value) (xs : List GRule) (e f : GEdit) (w : World) (hG : Sl RuleE w w.heap.size vG xs) (hE : EditV w w.heap.size vE e) (hF : EditV w w.heap.size vF f) (hn : e.part.length ≤ 1048576) (hn2 : f.part.length ≤ 1048576)
    (hsm : SmallL xs) (hsmE : SmallL e.part) (hsmF : SmallL f.part) (hm : e.map.size ≤ maxLen) (hm2 : f.map.size ≤ maxLen) :
    Calls Tryz.prog 29 #[.agg #[vG], vE, vF] w (GRes (mrgOut xs e f) (mrgCode xs e f) w) := by
  obtain ⟨vR, rfl, hR⟩ := hE
  obtain ⟨vQ, rfl, hQ⟩ := hF
  have HG := Lib.hid hG
  have HSE := Lib.hid hR
  have HSF := Lib.hid hQ
  obtain ⟨AG, cG, rfl, _⟩ := hG
  obtain ⟨AE, cE, rfl, _⟩ := hR
  obtain ⟨AF, cF, rfl, _⟩ := hQ
  have b1 := (Below.refl w.heap.size w).alloc (Nat.le_refl _) (.cells #[.slice AG xs.length cG] 31)
  have b2 := b1.alloc b1.size (.cells (editCells e (.slice AE e.part.length cE)) 36)
  have b3 := b2.alloc b2.size (.cells (editCells f (.slice AF f.part.length cF)) 36)
  have b4 := b3.alloc b3.size (.cells #[.slice none 0 0] 31)
  have KP : Blk ((((w.alloc (.cells #[.slice AG xs.length cG] 31)).alloc (.cells (editCells e (.slice AE e.part.length cE)) 36)).alloc (.cells (editCells f (.slice AF f.part.length cF)) 36)).alloc (.cells #[.slice none 0 0] 31)) w.heap.size #[.slice AG xs.length cG] 31 := (((Blk.new w _ _).alloc _).alloc _).alloc _
  have KE : Blk ((((w.alloc (.cells #[.slice AG xs.length cG] 31)).alloc (.cells (editCells e (.slice AE e.part.length cE)) 36)).alloc (.cells (editCells f (.slice AF f.part.length cF)) 36)).alloc (.cells #[.slice none 0 0] 31)) (w.heap.size + 1) (editCells e (.slice AE e.part.length cE)) 36 := by
    have := ((Blk.new (w.alloc (.cells #[.slice AG xs.length cG] 31)) (editCells e (.slice AE e.part.length cE)) 36).alloc (.cells (editCells f (.slice AF f.part.length cF)) 36)).alloc (.cells #[.slice none 0 0] 31)
    simpa [Blk] using this
  have KF : Blk ((((w.alloc (.cells #[.slice AG xs.length cG] 31)).alloc (.cells (editCells e (.slice AE e.part.length cE)) 36)).alloc (.cells (editCells f (.slice AF f.part.length cF)) 36)).alloc (.cells #[.slice none 0 0] 31)) (w.heap.size + 2) (editCells f (.slice AF f.part.length cF)) 36 := by
    have := (Blk.new ((w.alloc (.cells #[.slice AG xs.length cG] 31)).alloc (.cells (editCells e (.slice AE e.part.length cE)) 36)) (editCells f (.slice AF f.part.length cF)) 36).alloc (.cells #[.slice none 0 0] 31)
    simpa [Blk] using this
  have KR : Blk ((((w.alloc (.cells #[.slice AG xs.length cG] 31)).alloc (.cells (editCells e (.slice AE e.part.length cE)) 36)).alloc (.cells (editCells f (.slice AF f.part.length cF)) 36)).alloc (.cells #[.slice none 0 0] 31)) (w.heap.size + 3) #[.slice none 0 0] 31 := by
    have := (Blk.new (((w.alloc (.cells #[.slice AG xs.length cG] 31)).alloc (.cells (editCells e (.slice AE e.part.length cE)) 36)).alloc (.cells (editCells f (.slice AF f.part.length cF)) 36)) #[.slice none 0 0] 31)
    simpa [Blk] using this
  go_enter Tryz.func29, Tryz.ntmps29
  unfold editCells at b2 b3 b4 KP KE KF KR
  go_upto_region 1 with fail
  generalize ((((w.alloc (.cells #[.slice AG xs.length cG] 31)).alloc (.cells #[.int .i64 e.kind, .int .i64 e.i, .int .i64 e.j, .int .i64 e.k, .slice AE e.part.length cE, .string e.map] 36)).alloc (.cells #[.int .i64 f.kind, .int .i64 f.i, .int .i64 f.j, .int .i64 f.k, .slice AF f.part.length cF, .string f.map] 36)).alloc (.cells #[.slice none 0 0] 31)) = w0 at *
  have KB := Lib.hid b4
  clear b1 b2 b3 b4
  have cP0_1 := Blk.cell (i := 0) (v := .slice AG xs.length cG) KP rfl
  have lP_2 := Blk.lt KP
  go_wp2_with fail
  refine (l02Ok_any w.heap.size 0 _ xs _ cP0_1 (Blk.lt KP) (HG.out.up KB.out) hsm).mono ?_
  rintro e w1 ⟨rfl, hb_3⟩
  have z_w1 : w0.heap.size ≤ w1.heap.size := hb_3.size
  have KB_4 := Lib.hid (Below.tr KB.out hb_3)
  have KP_5 := Blk.up KP hb_3
  have KE_6 := Blk.up KE hb_3
  have KF_7 := Blk.up KF hb_3
  have KR_8 := Blk.up KR hb_3
  clear cP0_1 lP_2 KB KP KE KF KR
  cases hg : gramOk xs with
  | false =>
    have HX := Lib.hid (mrg_bad (xs := xs) (e := e) (f := f) (c := 1) (by simp [mrgCode, hg]) (by decide))
    clear hg
    have cR0_9 := Blk.cell (i := 0) (v := .slice none 0 0) KR_8 rfl
    have zR0_10 := Blk.frozen KR_8 0
    have lR_11 := Blk.lt KR_8
    go_wp2_with fail
    refine bodyPost_ret (v := .tuple #[.agg #[.slice none 0 0], .int .i64 1]) (by simp [results, Tryz.results29, go_sem, cR0_9]) rfl ⟨Below.setCell KB_4.out (show w.heap.size ≤ w.heap.size + 3 by omega) _, .slice none 0 0, by rw [HX.out.1]; exact World.ownsRow_nil _ _ _ _, by rw [HX.out.2]⟩
  | true =>
    have HGG := Lib.hid hg
    clear hg
    have cR0_12 := Blk.cell (i := 0) (v := .slice none 0 0) KR_8 rfl
    have lR_13 := Blk.lt KR_8
    go_wp2_with fail
    refine (l07Ok_any (w.heap.size + 1) _ e _ (EC.at_ (EC.of KE_6) (HSE.out.up KB_4.out)) hsmE (by omega) hm).mono ?_
    rintro e w2 ⟨rfl, hb_14⟩
    have z_w2 : w1.heap.size ≤ w2.heap.size := hb_14.size
    have KB_15 := Lib.hid (Below.tr KB_4.out hb_14)
    have KP_16 := Blk.up KP_5 hb_14
    have KE_17 := Blk.up KE_6 hb_14
    have KF_18 := Blk.up KF_7 hb_14
    have KR_19 := Blk.up KR_8 hb_14
    clear hb_3 cR0_12 lR_13 KB_4 KP_5 KE_6 KF_7 KR_8
    cases he : editOk e with
    | false =>
      have HX := Lib.hid (mrg_bad (xs := xs) (e := e) (f := f) (c := 1) (by simp [mrgCode, he]) (by decide))
      clear he
      have cR0_20 := Blk.cell (i := 0) (v := .slice none 0 0) KR_19 rfl
      have zR0_21 := Blk.frozen KR_19 0
      have lR_22 := Blk.lt KR_19
      go_wp2_with fail
      refine bodyPost_ret (v := .tuple #[.agg #[.slice none 0 0], .int .i64 1]) (by simp [results, Tryz.results29, go_sem, cR0_20]) rfl ⟨Below.setCell KB_15.out (show w.heap.size ≤ w.heap.size + 3 by omega) _, .slice none 0 0, by rw [HX.out.1]; exact World.ownsRow_nil _ _ _ _, by rw [HX.out.2]⟩
    | true =>
      have HEO := Lib.hid he
      clear he
      have cR0_23 := Blk.cell (i := 0) (v := .slice none 0 0) KR_19 rfl
      have lR_24 := Blk.lt KR_19
      go_wp2_with fail
      refine (l07Ok_any (w.heap.size + 2) _ f _ (EC.at_ (EC.of KF_18) (HSF.out.up KB_15.out)) hsmF (by omega) hm2).mono ?_
      rintro e w3 ⟨rfl, hb_25⟩
      have z_w3 : w2.heap.size ≤ w3.heap.size := hb_25.size
      have KB_26 := Lib.hid (Below.tr KB_15.out hb_25)
      have KP_27 := Blk.up KP_16 hb_25
      have KE_28 := Blk.up KE_17 hb_25
      have KF_29 := Blk.up KF_18 hb_25
      have KR_30 := Blk.up KR_19 hb_25
      clear hb_14 cR0_23 lR_24 KB_15 KP_16 KE_17 KF_18 KR_19
      cases hf : editOk f with
      | false =>
        have HX := Lib.hid (mrg_bad (xs := xs) (e := e) (f := f) (c := 1) (by simp [mrgCode, hf]) (by decide))
        clear hf
        have cR0_31 := Blk.cell (i := 0) (v := .slice none 0 0) KR_30 rfl
        have zR0_32 := Blk.frozen KR_30 0
        have lR_33 := Blk.lt KR_30
        go_wp2_with fail
        refine bodyPost_ret (v := .tuple #[.agg #[.slice none 0 0], .int .i64 1]) (by simp [results, Tryz.results29, go_sem, cR0_31]) rfl ⟨Below.setCell KB_26.out (show w.heap.size ≤ w.heap.size + 3 by omega) _, .slice none 0 0, by rw [HX.out.1]; exact World.ownsRow_nil _ _ _ _, by rw [HX.out.2]⟩
      | true =>
        have HFO := Lib.hid hf
        clear hf
        obtain ⟨_, ls, hll⟩ := gram_lens HGG.out
        have hgl := Lib.hid (gramLen_of hll)
        have Hll := Lib.hid hll
        have hx4 := gram_len400 HGG.out
        clear hll
        have cP0_34 := Blk.cell (i := 0) (v := .slice AG xs.length cG) KP_27 rfl
        have lP_35 := Blk.lt KP_27
        have cR0_36 := Blk.cell (i := 0) (v := .slice none 0 0) KR_30 rfl
        have lR_37 := Blk.lt KR_30
        go_wp2_with fail
        refine (l02Length_any w.heap.size 0 _ xs ls _ Hll.out cP0_34 (Blk.lt KP_27) (HG.out.up KB_26.out) hsm (by omega)).mono ?_
        rintro e w4 ⟨rfl, hb_38⟩
        have z_w4 : w3.heap.size ≤ w4.heap.size := hb_38.size
        have KB_39 := Lib.hid (Below.tr KB_26.out hb_38)
        have KP_40 := Blk.up KP_27 hb_38
        have KE_41 := Blk.up KE_28 hb_38
        have KF_42 := Blk.up KF_29 hb_38
        have KR_43 := Blk.up KR_30 hb_38
        clear hb_25 cP0_34 lP_35 cR0_36 lR_37 KB_26 KP_27 KE_28 KF_29 KR_30
        rw [← hgl.out]
        have cR0_44 := Blk.cell (i := 0) (v := .slice none 0 0) KR_43 rfl
        have lR_45 := Blk.lt KR_43
        go_wp2_with fail
        refine (l07Simple_any (w.heap.size + 1) _ e _ (EC.of KE_41)).mono ?_
        rintro e w5 ⟨rfl, hb_46⟩
        have z_w5 : w4.heap.size ≤ w5.heap.size := hb_46.size
        have KB_47 := Lib.hid (Below.tr KB_39.out hb_46)
        have KP_48 := Blk.up KP_40 hb_46
        have KE_49 := Blk.up KE_41 hb_46
        have KF_50 := Blk.up KF_42 hb_46
        have KR_51 := Blk.up KR_43 hb_46
        clear hb_38 cR0_44 lR_45 KB_39 KP_40 KE_41 KF_42 KR_43
        cases se : simE e with
        | false =>
          have HX := Lib.hid (mrg_bad (xs := xs) (e := e) (f := f) (c := 2) (by simp [mrgCode, se, HGG.out, HEO.out, HFO.out]) (by decide))
          clear se
          have cR0_52 := Blk.cell (i := 0) (v := .slice none 0 0) KR_51 rfl
          have zR0_53 := Blk.frozen KR_51 0
          have lR_54 := Blk.lt KR_51
          go_wp2_with fail
          refine bodyPost_ret (v := .tuple #[.agg #[.slice none 0 0], .int .i64 2]) (by simp [results, Tryz.results29, go_sem, cR0_52]) rfl ⟨Below.setCell KB_47.out (show w.heap.size ≤ w.heap.size + 3 by omega) _, .slice none 0 0, by rw [HX.out.1]; exact World.ownsRow_nil _ _ _ _, by rw [HX.out.2]⟩
        | true =>
          have HSIE := Lib.hid se
          clear se
          have cR0_55 := Blk.cell (i := 0) (v := .slice none 0 0) KR_51 rfl
          have lR_56 := Blk.lt KR_51
          go_wp2_with fail
          refine (l07Simple_any (w.heap.size + 2) _ f _ (EC.of KF_50)).mono ?_
          rintro e w6 ⟨rfl, hb_57⟩
          have z_w6 : w5.heap.size ≤ w6.heap.size := hb_57.size
          have KB_58 := Lib.hid (Below.tr KB_47.out hb_57)
          have KP_59 := Blk.up KP_48 hb_57
          have KE_60 := Blk.up KE_49 hb_57
          have KF_61 := Blk.up KF_50 hb_57
          have KR_62 := Blk.up KR_51 hb_57
          clear hb_46 cR0_55 lR_56 KB_47 KP_48 KE_49 KF_50 KR_51
          cases sf : simE f with
          | false =>
            have HX := Lib.hid (mrg_bad (xs := xs) (e := e) (f := f) (c := 2) (by simp [mrgCode, sf, HGG.out, HEO.out, HFO.out]) (by decide))
            clear sf
            have cR0_63 := Blk.cell (i := 0) (v := .slice none 0 0) KR_62 rfl
            have zR0_64 := Blk.frozen KR_62 0
            have lR_65 := Blk.lt KR_62
            go_wp2_with fail
            refine bodyPost_ret (v := .tuple #[.agg #[.slice none 0 0], .int .i64 2]) (by simp [results, Tryz.results29, go_sem, cR0_63]) rfl ⟨Below.setCell KB_58.out (show w.heap.size ≤ w.heap.size + 3 by omega) _, .slice none 0 0, by rw [HX.out.1]; exact World.ownsRow_nil _ _ _ _, by rw [HX.out.2]⟩
          | true =>
            have HSIF := Lib.hid sf
            clear sf
            have cR0_66 := Blk.cell (i := 0) (v := .slice none 0 0) KR_62 rfl
            have lR_67 := Blk.lt KR_62
            go_wp2_with fail
            refine (l07RangeO_any (w.heap.size + 1) 0 _ e (gramLen xs) _ (EC.of KE_60) (kind_ok HEO.out).2.2.1).mono ?_
            rintro e w7 ⟨rfl, hb_68⟩
            have z_w7 : w6.heap.size ≤ w7.heap.size := hb_68.size
            have KB_69 := Lib.hid (Below.tr KB_58.out hb_68)
            have KP_70 := Blk.up KP_59 hb_68
            have KE_71 := Blk.up KE_60 hb_68
            have KF_72 := Blk.up KF_61 hb_68
            have KR_73 := Blk.up KR_62 hb_68
            clear hb_57 cR0_66 lR_67 KB_58 KP_59 KE_60 KF_61 KR_62
            cases fe : editFits e (gramLen xs) with
            | false =>
              have HX := Lib.hid (mrg_bad (xs := xs) (e := e) (f := f) (c := 2) (by simp [mrgCode, fe, HGG.out, HEO.out, HFO.out]) (by decide))
              clear fe
              have cR0_74 := Blk.cell (i := 0) (v := .slice none 0 0) KR_73 rfl
              have zR0_75 := Blk.frozen KR_73 0
              have lR_76 := Blk.lt KR_73
              go_wp2_with fail
              refine bodyPost_ret (v := .tuple #[.agg #[.slice none 0 0], .int .i64 2]) (by simp [results, Tryz.results29, go_sem, cR0_74]) rfl ⟨Below.setCell KB_69.out (show w.heap.size ≤ w.heap.size + 3 by omega) _, .slice none 0 0, by rw [HX.out.1]; exact World.ownsRow_nil _ _ _ _, by rw [HX.out.2]⟩
            | true =>
              have HFE := Lib.hid fe
              clear fe
              have cR0_77 := Blk.cell (i := 0) (v := .slice none 0 0) KR_73 rfl
              have lR_78 := Blk.lt KR_73
              go_wp2_with fail
              refine (l07RangeO_any (w.heap.size + 2) 0 _ f (gramLen xs) _ (EC.of KF_72) (kind_ok HFO.out).2.2.1).mono ?_
              rintro e w8 ⟨rfl, hb_79⟩
              have z_w8 : w7.heap.size ≤ w8.heap.size := hb_79.size
              have KB_80 := Lib.hid (Below.tr KB_69.out hb_79)
              have KP_81 := Blk.up KP_70 hb_79
              have KE_82 := Blk.up KE_71 hb_79
              have KF_83 := Blk.up KF_72 hb_79
              have KR_84 := Blk.up KR_73 hb_79
              clear hb_68 cR0_77 lR_78 KB_69 KP_70 KE_71 KF_72 KR_73
              cases ff : editFits f (gramLen xs) with
              | false =>
                have HX := Lib.hid (mrg_bad (xs := xs) (e := e) (f := f) (c := 2) (by simp [mrgCode, ff, HGG.out, HEO.out, HFO.out]) (by decide))
                clear ff
                have cR0_85 := Blk.cell (i := 0) (v := .slice none 0 0) KR_84 rfl
                have zR0_86 := Blk.frozen KR_84 0
                have lR_87 := Blk.lt KR_84
                go_wp2_with fail
                refine bodyPost_ret (v := .tuple #[.agg #[.slice none 0 0], .int .i64 2]) (by simp [results, Tryz.results29, go_sem, cR0_85]) rfl ⟨Below.setCell KB_80.out (show w.heap.size ≤ w.heap.size + 3 by omega) _, .slice none 0 0, by rw [HX.out.1]; exact World.ownsRow_nil _ _ _ _, by rw [HX.out.2]⟩
              | true =>
                have HFF := Lib.hid ff
                clear ff
                have HMC := Lib.hid (show mrgOut xs e f = (match mrgS xs e f with | some o => o | none => []) ∧ mrgCode xs e f = (match mrgS xs e f with | some _ => 0 | none => 3) by
                  unfold mrgOut mrgCode; rw [HGG.out, HEO.out, HFO.out, HSIE.out, HSIF.out, HFE.out, HFF.out]; exact ⟨rfl, rfl⟩)
                have hsz8 : w.heap.size + 4 ≤ w8.heap.size := Blk.lt KR_84
                have cR0_88 := Blk.cell (i := 0) (v := .slice none 0 0) KR_84 rfl
                have lR_89 := Blk.lt KR_84
                go_wp2_with fail
                refine (l07Apply_any w.heap.size 0 (w.heap.size + 1) 0 _ _ xs e _ ⟨Blk.cell KP_81 rfl, Blk.lt KP_81⟩ (EC.of KE_82) (HG.out.up KB_80.out) (HSE.out.up KB_80.out) HGG.out HEO.out).mono ?_
                rintro e w9 ⟨hb_90, v9, own9, rfl⟩
                have z_w9 : w8.heap.size ≤ w9.heap.size := hb_90.size
                have KB_91 := Lib.hid (Below.tr KB_80.out hb_90)
                have KP_92 := Blk.up KP_81 hb_90
                have KE_93 := Blk.up KE_82 hb_90
                have KF_94 := Blk.up KF_83 hb_90
                have KR_95 := Blk.up KR_84 hb_90
                clear hb_79 cR0_88 lR_89 KB_80 KP_81 KE_82 KF_83 KR_84
                obtain ⟨AN, cN, rfl, _⟩ := own_nil own9
                have KO9 := Lib.hid own9
                clear own9
                rcases code_03 HGG.out HEO.out HFE.out with hc | hc
                · have HAC := Lib.hid hc
                  rw [hc]
                  clear hc
                  have cR0_96 := Blk.cell (i := 0) (v := .slice none 0 0) KR_95 rfl
                  have lR_97 := Blk.lt KR_95
                  go_wp2_with fail
                  refine (l07Pass_any (w.heap.size + 2) (w.heap.size + 1) _ _ f e false _ (EC.of (KF_94.alloc _)) (EC.of (KE_93.alloc _)) (HSF.out.up (Below.alloc KB_91.out (Below.size KB_91.out) _)) (HSE.out.up (Below.alloc KB_91.out (Below.size KB_91.out) _)) HFO.out HEO.out HSIF.out HSIE.out).mono ?_
                  rintro e w10 ⟨hb_98, v10, rfl, own10⟩
                  have KN_99 : Blk w10 (w9.heap.size) #[.slice AN (applyOut xs e).length cN] 31 := by have := (Below.unalloc hb_98).2; simpa [Blk] using this
                  replace hb_98 := (Below.unalloc hb_98).1
                  have z_w10 : w9.heap.size ≤ w10.heap.size := hb_98.size
                  have KB_100 := Lib.hid (Below.tr KB_91.out hb_98)
                  have KP_101 := Blk.up KP_92 hb_98
                  have KE_102 := Blk.up KE_93 hb_98
                  have KF_103 := Blk.up KF_94 hb_98
                  have KR_104 := Blk.up KR_95 hb_98
                  have KO_105 := Lib.hid (OwnRules.below KO9.out hb_98)
                  clear hb_90 cR0_96 lR_97 KB_91 KP_92 KE_93 KF_94 KR_95 KO9
                  have hsz10 : w9.heap.size + 1 ≤ w10.heap.size := Blk.lt KN_99
                  obtain ⟨es, hes⟩ : ∃ es, passE f e false = es := ⟨_, rfl⟩
                  have HRS := Lib.hid (show RestOk (applyOut xs e) es ∧ mrgF (applyOut xs e) es = mrgS xs e f by rw [← hes]; exact ⟨merge_rest HAC.out HSIE.out HSIF.out HFO.out HFF.out, by unfold mrgS; rw [if_pos HAC.out]⟩)
                  rw [hes] at own10
                  clear hes
                  obtain ⟨A1, c1, rfl, hc1, hm1, _⟩ := OEds.sl own10
                  unfold maxLen at hm1
                  have HOE := Lib.hid (show OEds w10 (w9.heap.size + 1) w10.heap.size (.slice A1 es.length c1) es by simpa using own10)
                  clear own10
                  go_wp2_with fail
                  go_loopw [10, 12] (fun d i wx => ∃ (k : Nat) (A : Option Addr) (c : Nat) (now : List GRule), k ≤ es.length ∧ d = .int .i64 0 ∧ i = .int .i64 k ∧ Hid (Blk wx w9.heap.size #[.slice A now.length c] 31) ∧ Hid (Blk wx (w.heap.size + 3) #[.slice none 0 0] 31) ∧ Hid (OwnRules wx (w.heap.size + 4) (.slice A now.length c) now) ∧ Hid (Below w.heap.size w wx) ∧ Hid (OEds wx (w9.heap.size + 1) w10.heap.size (.slice A1 es.length c1) es) ∧ Hid (gramOk now = true ∧ RestOk now (es.drop k) ∧ mrgF now (es.drop k) = mrgS xs e f)) (fun _ i _ => es.length - (intOf i).toNat)
                  case atStart => exact ⟨0, AN, cN, applyOut xs e, Nat.zero_le _, rfl, rfl, Lib.hid KN_99, Lib.hid KR_104, Lib.hid (ownsRow_more KO_105.out (by omega)), Lib.hid KB_100.out, HOE, Lib.hid ⟨applyOut_ok _ _, HRS.out.1, HRS.out.2⟩⟩
                  case round =>
                    obtain ⟨k, A, c, now, hk, rfl, rfl, HN, HR, HO, HB, HP, HF⟩ := hrel
                    by_cases hlt : k < es.length
                    · obtain ⟨_, _, hAE, _, _, hrow⟩ := OEds.sl HP.out
                      injection hAE with hA1 hA2 hA3
                      subst hA1 hA3
                      obtain ⟨b, o, rfl, hbl, hcell⟩ := hrow.edit (fun _ h => h) hlt
                      obtain ⟨x, hx⟩ : ∃ x, es[k]? = some x := ⟨_, List.getElem?_eq_getElem hlt⟩
                      obtain ⟨vX, hec, hRX⟩ := hcell k x hx
                      have hdr : es.drop k = x :: es.drop (k + 1) := by
                        rw [List.drop_eq_getElem_cons hlt]; rw [List.getElem?_eq_getElem hlt] at hx; injection hx with hx; rw [hx]
                      obtain ⟨hgo, hre, hmf⟩ := HF.out
                      rw [hdr] at hre hmf
                      obtain ⟨hxo, hxf, hnx⟩ := hre
                      have HMF := Lib.hid (show (if applyCode now x = 0 then mrgF (applyOut now x) (es.drop (k + 1)) else none) = mrgS xs e f from hmf)
                      have HNX := Lib.hid hnx
                      have HEC := Lib.hid hec
                      have HRR := Lib.hid hRX
                      have HXO := Lib.hid hxo
                      have HGO := Lib.hid hgo
                      have hc03 := code_03 hgo hxo hxf
                      have lN := HN.out.lt
                      have lR2 := HR.out.lt
                      have hbz := HB.out.size
                      have hi : (k : Int) < (es.length : Int) := by omega
                      clear hcell hx hec hRX hxo hxf hgo hdr hnx hmf HF
                      go_wp2_with fail
                      refine (l07Apply_any w9.heap.size 0 b (o + k * 6) _ _ now x _ ⟨HN.out.cell rfl, lN⟩ HEC.out HO.out.sl HRR.out HGO.out HXO.out).mono ?_
                      rintro r w4 ⟨hb4, v4, own4, rfl⟩
                      obtain ⟨A4, c4, rfl, _⟩ := own_nil own4
                      have HN4 := Lib.hid (HN.out.up hb4)
                      have HR4 := Lib.hid (HR.out.up hb4)
                      have HB4 := Lib.hid (Below.tr HB.out hb4)
                      have HP4 := Lib.hid (OEds.up HP.out hb4)
                      have HO4 := Lib.hid own4
                      have z4 := hb4.size
                      clear hb4 own4 HN HR HO HP
                      have xN := HN4.out.cell (i := 0) (v := .slice A now.length c) rfl
                      have fN := HN4.out.frozen 0
                      have lN4 := HN4.out.lt
                      rcases hc03 with hc | hc
                      · have HMF2 := Lib.hid (show mrgF (applyOut now x) (es.drop (k + 1)) = mrgS xs e f by have := HMF.out; rw [if_pos hc] at this; exact this)
                        have HNX2 := Lib.hid (HNX.out hc)
                        rw [hc]
                        clear hc
                        go_wp2_with fail
                        go_roundw
                        case rel =>
                          refine ⟨k + 1, A4, c4, applyOut now x, by omega, rfl, by go_num, ?_, ?_, ?_, ?_, ?_, Lib.hid ⟨applyOut_ok _ _, HNX2.out, HMF2.out⟩⟩
                          · exact Lib.hid (HN4.out.set 0 _)
                          · exact Lib.hid (HR4.out.other (p := ⟨w9.heap.size, 0, none⟩) (by show w.heap.size + 3 ≠ w9.heap.size; omega) _)
                          · exact Lib.hid (ownsRow_more (ownsRow_setCell_below HO4.out (a := ⟨w9.heap.size, 0, none⟩) lN _) (by omega))
                          · exact Lib.hid (Below.setCell HB4.out (by show w.heap.size ≤ w9.heap.size; omega) _)
                          · exact Lib.hid (OEds.setOther HP4.out (a := ⟨w9.heap.size, 0, none⟩) (by show w9.heap.size < w9.heap.size + 1; omega))
                        case measure => simp [intOf]; omega
                      · have hno : mrgS xs e f = none := by have := HMF.out; rw [if_neg (by omega)] at this; exact this.symm
                        have HX := Lib.hid (mrg_bad (xs := xs) (e := e) (f := f) (c := 3) (by rw [HMC.out.2, hno]) (by decide))
                        clear hno
                        rw [hc]
                        clear hc
                        have xR := HR4.out.cell (i := 0) (v := .slice none 0 0) rfl
                        have fR := HR4.out.frozen 0
                        have lR4 := HR4.out.lt
                        go_wp2_with fail
                        refine bodyPost_ret (v := .tuple #[.agg #[.slice none 0 0], .int .i64 3]) (by simp [results, Tryz.results29, go_sem, xR]) rfl ⟨Below.setCell (Below.setCell HB4.out (by show w.heap.size ≤ w9.heap.size; omega) _) (by show w.heap.size ≤ w.heap.size + 3; omega) _, .slice none 0 0, by rw [HX.out.1]; exact World.ownsRow_nil _ _ _ _, by rw [HX.out.2]⟩
                    · have hkn : k = es.length := by omega
                      subst hkn
                      have hss : mrgS xs e f = some now := by have := HF.out.2.2; rw [List.drop_length] at this; exact this.symm
                      have HX := Lib.hid (show mrgOut xs e f = now ∧ mrgCode xs e f = 0 by rw [HMC.out.1, HMC.out.2, hss]; exact ⟨rfl, rfl⟩)
                      clear hss HF
                      have xN := HN.out.cell (i := 0) (v := .slice A now.length c) rfl
                      have lN := HN.out.lt
                      have xR := HR.out.cell (i := 0) (v := .slice none 0 0) rfl
                      have fR := HR.out.frozen 0
                      have lR2 := HR.out.lt
                      go_wp2_with fail
                      refine bodyPost_ret (v := .tuple #[.agg #[.slice A now.length c], .int .i64 0]) (by simp [results, Tryz.results29, go_sem, xR]) rfl ⟨Below.setCell HB.out (by show w.heap.size ≤ w.heap.size + 3; omega) _, .slice A now.length c, ?_, by rw [HX.out.2]⟩
                      rw [HX.out.1]
                      exact ownsRow_more (ownsRow_setCell_below HO.out (a := ⟨w.heap.size + 3, 0, none⟩) (by show w.heap.size + 3 < w.heap.size + 4; omega) _) (by omega)
                · have HX := Lib.hid (mrg_bad (xs := xs) (e := e) (f := f) (c := 3) (by rw [HMC.out.2]; unfold mrgS; rw [if_neg (by omega)]) (by decide))
                  rw [hc]
                  clear hc
                  have cR0_106 := Blk.cell (i := 0) (v := .slice none 0 0) KR_95 rfl
                  have zR0_107 := Blk.frozen KR_95 0
                  have lR_108 := Blk.lt KR_95
                  go_wp2_with fail
                  have xR : ((w9.setCell ⟨w.heap.size + 1 + 1 + 1, 0, none⟩ (.slice none 0 0)).alloc (Obj.cells #[.slice AN (applyOut xs e).length cN] 31)).cell? ⟨w.heap.size + 1 + 1 + 1, 0, none⟩ = some (.slice none 0 0) := ((Blk.set KR_95 0 (.slice none 0 0)).alloc _).cell rfl
                  refine bodyPost_ret (v := .tuple #[.agg #[.slice none 0 0], .int .i64 3]) (by simp [results, Tryz.results29, go_sem, xR]) rfl ⟨Below.alloc (Below.setCell KB_91.out (show w.heap.size ≤ w.heap.size + 3 by omega) _) (by have := Below.size KB_91.out; simp [World.setCell]; omega) _, .slice none 0 0, by rw [HX.out.1]; exact World.ownsRow_nil _ _ _ _, by rw [HX.out.2]⟩
end Go.Proofs.YtfapnipmgmpgaaaGreatDoor

