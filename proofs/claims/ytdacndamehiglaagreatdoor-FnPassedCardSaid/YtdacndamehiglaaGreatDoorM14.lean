import Derived.Test.YtdacndamehiglaaGreatDoorM13
import Derived.Test.YtdacndamehiglaaGreatDoorM12
import Derived.Test.YtdacndamehiglaaGreatDoorM2
import Derived.Test.YtdacndamehiglaaGreatDoorM11
import Derived.Test.YtdacndamehiglaaGreatDoorM7
import Derived.Test.YtdacndamehiglaaGreatDoorM1
import Derived.Test.YtdacndamehiglaaGreatDoorM3
import Derived.BigQuiet
import Derived.Lib.Builder
import Derived.Laws.Bits64b
namespace Go.Proofs.YtdacndamehiglaaGreatDoor
open Go.RowKit
set_option maxRecDepth 100000 in
set_option maxHeartbeats 1000000 in
theorem IndexEds_any (v : Value) (xs : List GEdit) (F : FuncId) (cap : Array Value) (p : GEdit → Bool) (w : World) (h : Sl EditE w w.heap.size v xs)
    (eg : ∀ args w, (callFunc F args).run Tryz.prog w = .ok (.enter F args) w) (hf : ∀ (W : World) x vR, Below w.heap.size w W → x ∈ xs → Sl RuleE W W.heap.size vR x.part → Calls Tryz.prog F (#[.agg #[.int .i64 x.kind, .int .i64 x.i, .int .i64 x.j, .int .i64 x.k, vR, .string x.map]] ++ cap) W fun e w' => e = .returned (.bool (p x)) ∧ Below W.heap.size W w') :
    Calls Tryz.prog 153 #[v, .func (.func F) #[] cap] w fun e w' => e = .returned (.int .i64 (idxOf p xs)) ∧ Below w.heap.size w w' := by
  obtain ⟨A, c, rfl, hc, hm, hrow⟩ := h
  unfold maxLen at hm
  have Hf := Lib.hid hf
  clear hf
  go_enter Tryz.func153, Tryz.ntmps153
  go_wp2_with fail
  go_loopw [8] (fun i wr => ∃ k : Nat, k ≤ xs.length ∧ i = .int .i64 k ∧ Below w.heap.size w wr ∧ ∀ (j : Nat) y, j < k → xs[j]? = some y → p y = false) (fun i _ => xs.length - (intOf i).toNat)
  case atStart => exact ⟨0, Nat.zero_le _, rfl, Below.refl _ _, fun j y hj => absurd hj (by omega)⟩
  case round =>
    obtain ⟨k, hk, rfl, hb, hno⟩ := hrel
    have Hno := Lib.hid hno
    clear hno
    by_cases hlt : k < xs.length
    · obtain ⟨b, o, rfl, hbl, hcell⟩ := hrow.edit (fun _ h => h) hlt
      obtain ⟨x, hx⟩ : ∃ x, xs[k]? = some x := ⟨_, List.getElem?_eq_getElem hlt⟩
      obtain ⟨vR, hec, hR⟩ := hcell k x hx
      have hec2 := hec.up hb
      have HR2 := Lib.hid (hR.up hb)
      obtain ⟨c0, c1, c2, c3, c4, c5, cl⟩ := hec2
      have hi : (k : Int) < (xs.length : Int) := by omega
      have Hx := Lib.hid hx
      clear hcell hx hec hR
      go_wp2_with fail
      refine (Hf.out _ x _ hb (List.mem_of_getElem? Hx.out) HR2.out).mono ?_
      rintro e w2 ⟨rfl, hb2⟩
      by_cases hp : p x = true
      · have Hp := Lib.hid hp
        go_wp2
        go_ret
        exact ⟨ret_int (by rw [idxOf_some Hno.out Hx.out Hp.out]), hb.trans (hb2.mono hb.size)⟩
      · have hp2 : p x = false := by simpa using hp
        have Hp := Lib.hid hp2
        clear hp
        go_wp2
        go_roundw
        case rel =>
          refine ⟨k + 1, by omega, by go_num, hb.trans (hb2.mono hb.size), fun j y hj hy => ?_⟩
          by_cases e : j = k
          · subst e
            have := Hx.out
            rw [hy] at this
            injection this with this
            rw [this]; exact Hp.out
          · exact Hno.out j y (by omega) hy
        case measure => simp [intOf]; omega
    · go_wp2
      go_ret
      exact ⟨ret_int (by
        rw [idxOf_none]
        intro x hx
        obtain ⟨j, hj, rfl⟩ := List.getElem_of_mem hx
        exact Hno.out j _ (by omega) (List.getElem?_eq_getElem hj)), hb⟩
theorem ContainsEds_any (v : Value) (xs : List GEdit) (F : FuncId) (cap : Array Value) (p : GEdit → Bool) (w : World) (h : Sl EditE w w.heap.size v xs)
    (eg : ∀ args w, (callFunc F args).run Tryz.prog w = .ok (.enter F args) w) (hf : ∀ (W : World) x vR, Below w.heap.size w W → x ∈ xs → Sl RuleE W W.heap.size vR x.part → Calls Tryz.prog F (#[.agg #[.int .i64 x.kind, .int .i64 x.i, .int .i64 x.j, .int .i64 x.k, vR, .string x.map]] ++ cap) W fun e w' => e = .returned (.bool (p x)) ∧ Below W.heap.size W w') :
    Calls Tryz.prog 117 #[v, .func (.func F) #[] cap] w fun e w' => e = .returned (.bool (xs.any p)) ∧ Below w.heap.size w w' := by
  have H := Lib.hid (IndexEds_any v xs F cap p w h eg hf)
  clear hf eg
  obtain ⟨A, c, rfl, _⟩ := h
  go_enter Tryz.func117, Tryz.ntmps117
  go_wp2_with fail
  refine H.out.mono ?_
  rintro e w2 ⟨rfl, hb2⟩
  go_wp2
  go_ret
  exact ⟨ret_bool (idxOf_any p xs), hb2⟩
set_option maxRecDepth 100000 in
theorem badEdit_any (e : GEdit) (vR : Value) (w : World) (hR : Sl RuleE w w.heap.size vR e.part) (hn : e.part.length ≤ 1048576) (hm : e.map.size ≤ maxLen) : Calls Tryz.prog 118 #[.agg #[.int .i64 e.kind, .int .i64 e.i, .int .i64 e.j, .int .i64 e.k, vR, .string e.map]] w fun r w' => r = .returned (.bool (!editOk e)) ∧ Below w.heap.size w w' := by
  have HR := Lib.hid hR
  obtain ⟨AR, cR, rfl, _⟩ := hR
  go_enter Tryz.func118, Tryz.ntmps118
  go_wp2_with fail
  refine (implValidEdit_any _ e _ ⟨_, rfl, HR.out.up (by repeat (first | exact Below.refl _ _ | (refine Below.alloc ?_ (by first | omega | (simp; done) | (simp; omega)) _) | (refine Below.setCell ?_ (by first | exact Nat.le_refl _ | (show _ ≤ _; omega) | (simp; done) | (simp; omega)) _) | refine below_drewN ?_ _ | refine Below.drew ?_))⟩ (by omega) hm).mono ?_
  rintro r w1 ⟨rfl, hb1⟩
  go_wp2
  go_ret
  exact ⟨rfl, (Below.unalloc hb1).1⟩
theorem not_any_bad (l : List GEdit) : (!l.any fun e => !editOk e) = l.all editOk := by
  induction l with
  | nil => rfl
  | cons x xs ih => simp only [List.any_cons, List.all_cons, Bool.not_or, Bool.not_not, ih]
set_option maxRecDepth 100000 in
theorem areEdits_any (v : Value) (es : List GEdit) (w : World) (h : Sl EditE w w.heap.size v es) (hs : ∀ e ∈ es, e.part.length ≤ 1048576 ∧ e.map.size ≤ maxLen) :
    Calls Tryz.prog 60 #[v] w fun r w' => r = .returned (.bool (es.all editOk)) ∧ Below w.heap.size w w' := by
  have H := Lib.hid (ContainsEds_any v es 118 #[] (fun e => !editOk e) w h (enters_of Tryz.func118 (by kernel_rfl) rfl) (fun W x vR _ hx hR => badEdit_any x vR W hR (hs x hx).1 (hs x hx).2))
  obtain ⟨A, c, rfl, _⟩ := h
  go_enter Tryz.func60, Tryz.ntmps60
  go_wp2_with fail
  refine H.out.mono ?_
  rintro r w1 ⟨rfl, hb1⟩
  go_wp2
  go_ret
  refine ⟨ret_bool ?_, hb1⟩
  exact not_any_bad es
def stepE (p : List GRule × Int) (e : GEdit) : List GRule × Int := if applyCode p.1 e = 0 then (applyOut p.1 e, p.2 + 1) else p
def foldE (xs : List GRule) (es : List GEdit) : List GRule × Int := es.foldl stepE (xs, 0)
def aesCode (xs : List GRule) (es : List GEdit) : Int := if gramOk xs && es.all editOk then (if 60 < es.length then 2 else 0) else 1
def aesOut (xs : List GRule) (es : List GEdit) : List GRule := if aesCode xs es = 0 then (foldE xs es).1 else []
def aesN (xs : List GRule) (es : List GEdit) : Int := if aesCode xs es = 0 then (foldE xs es).2 else 0
theorem stepE_ok {p : List GRule × Int} {e : GEdit} (h : gramOk p.1 = true) : gramOk (stepE p e).1 = true := by
  unfold stepE
  split
  · exact applyOut_ok _ _
  · exact h
theorem foldE_take {xs : List GRule} {es : List GEdit} {k : Nat} {e : GEdit} (h : es[k]? = some e) : foldE xs (es.take (k + 1)) = stepE (foldE xs (es.take k)) e := by
  unfold foldE
  rw [List.take_add_one, h]; simp
theorem foldE_ok {xs : List GRule} (es : List GEdit) (h : gramOk xs = true) : gramOk (foldE xs es).1 = true := by
  unfold foldE
  suffices H : ∀ (l : List GEdit) (p : List GRule × Int), gramOk p.1 = true → gramOk (l.foldl stepE p).1 = true from H es _ h
  intro l
  induction l with
  | nil => intro p h; exact h
  | cons x xs ih => intro p h; exact ih _ (stepE_ok h)
theorem foldE_num (xs : List GRule) (es : List GEdit) : 0 ≤ (foldE xs es).2 ∧ (foldE xs es).2 ≤ es.length := by
  unfold foldE
  suffices H : ∀ (l : List GEdit) (p : List GRule × Int), p.2 ≤ (l.foldl stepE p).2 ∧ (l.foldl stepE p).2 ≤ p.2 + l.length by simpa using H es (xs, 0)
  intro l
  induction l with
  | nil => intro p; simp
  | cons x xs ih =>
    intro p
    have h1 := ih (stepE p x)
    have h2 : p.2 ≤ (stepE p x).2 ∧ (stepE p x).2 ≤ p.2 + 1 := by unfold stepE; split <;> simp <;> omega
    rw [List.foldl_cons, List.length_cons]
    omega
def ARes (out : List GRule) (n c : Int) (w : World) (r : Ending) (w' : World) : Prop :=
  Below w.heap.size w w' ∧ ∃ v, OwnRules w' w.heap.size v out ∧ r = .returned (.tuple #[.agg #[v], .int .i64 n, .int .i64 c])
def simE (e : GEdit) : Bool := decide (e.kind = 1) || decide (e.kind = 2)
def remE (i j : Int) : List GEdit := if i < j then [delE i j] else []
def passI (e f : GEdit) (first : Bool) : Int := if f.kind = 1 then (if f.i < e.i ∨ (f.i = e.i ∧ first = false) then e.i + gramLen f.part else e.i) else lessP f e.i
def passE (e f : GEdit) (first : Bool) : List GEdit :=
  if e.kind = 1 then [insE (passI e f first) e.part]
  else if e.i = e.j then []
  else if f.kind = 1 then
    (if f.i ≤ e.i then [delE (e.i + gramLen f.part) (e.j + gramLen f.part)] else if e.j ≤ f.i then [delE e.i e.j] else [delE (f.i + gramLen f.part) (e.j + gramLen f.part), delE e.i f.i])
  else remE (lessP f e.i) (lessP f e.j)
set_option maxRecDepth 100000 in
theorem isSimple_any (e : GEdit) (vR : Value) (w : World) (hR : Sl RuleE w w.heap.size vR e.part) :
    Calls Tryz.prog 80 #[.agg #[.int .i64 e.kind, .int .i64 e.i, .int .i64 e.j, .int .i64 e.k, vR, .string e.map]] w fun r w' => r = .returned (.bool (simE e)) ∧ Below w.heap.size w w' := by
  obtain ⟨AR, cR, rfl, _⟩ := hR
  by_cases h1 : e.kind = 1
  · rw [h1]
    go_enter Tryz.func80, Tryz.ntmps80
    go_wp2_with fail
    all_goals
      go_ret
      exact ⟨ret_bool (by simp [simE, h1]), (by repeat (first | exact Below.refl _ _ | (refine Below.alloc ?_ (by first | omega | (simp; done) | (simp; omega)) _) | refine below_drewN ?_ _ | refine Below.drew ?_))⟩
  · by_cases h2 : e.kind = 2
    · rw [h2]
      go_enter Tryz.func80, Tryz.ntmps80
      go_wp2_with fail
      all_goals
        go_ret
        exact ⟨ret_bool (by simp [simE, h2]), (by repeat (first | exact Below.refl _ _ | (refine Below.alloc ?_ (by first | omega | (simp; done) | (simp; omega)) _) | refine below_drewN ?_ _ | refine Below.drew ?_))⟩
    · have b1 : (e.kind == 1) = false := by simp [h1]
      have b2 : (e.kind == 2) = false := by simp [h2]
      go_enter Tryz.func80, Tryz.ntmps80
      go_wp2_with fail
      all_goals
        go_ret
        exact ⟨ret_bool (by simp [simE, h1, h2]), (by repeat (first | exact Below.refl _ _ | (refine Below.alloc ?_ (by first | omega | (simp; done) | (simp; omega)) _) | refine below_drewN ?_ _ | refine Below.drew ?_))⟩
theorem oeds_del {W : World} {lo N : Nat} (i j : Int) (hN : N = W.heap.size) (h : lo ≤ W.heap.size) :
    OEds (W.alloc (Obj.cells #[.int .i64 2, .int .i64 i, .int .i64 j, .int .i64 0, .slice none 0 0, .string ⟨#[]⟩] 30)) lo (W.heap.size + 1) (.slice (some ⟨N, 0, none⟩) 1 1) [delE i j] :=
  oeds_one (e := delE i j) (u := .slice none 0 0) hN h (.inl ⟨rfl, none, 0, rfl, Nat.zero_le _⟩)
set_option maxRecDepth 100000 in
theorem removal_any (i j : Int) (w : World) :
    Calls Tryz.prog 130 #[.int .i64 i, .int .i64 j] w fun r w' => Below w.heap.size w w' ∧ ∃ v, r = .returned v ∧ OEds w' w.heap.size w'.heap.size v (remE i j) := by
  by_cases h : j ≤ i
  · go_enter Tryz.func130, Tryz.ntmps130
    go_wp2_with fail
    go_ret
    exact ⟨Below.refl _ _, _, rfl, by unfold remE; rw [if_neg (by omega)]; exact oeds_zero (Nat.le_refl _)⟩
  · have hd : decide (j ≤ i) = false := by simp; omega
    go_enter Tryz.func130, Tryz.ntmps130
    go_wp2_with fail
    go_ret
    refine ⟨(Below.refl _ _).alloc (Nat.le_refl _) _, _, rfl, ?_⟩
    unfold remE
    rw [if_pos (by omega)]
    have := oeds_del (W := w) (lo := w.heap.size) i j rfl (Nat.le_refl _)
    simpa using this
theorem simE_kind {e : GEdit} (h : simE e = true) : e.kind = 1 ∨ e.kind = 2 := by simpa [simE] using h
def PRes (es : List GEdit) (w : World) (r : Ending) (w' : World) : Prop := Below w.heap.size w w' ∧ ∃ v, r = .returned v ∧ OEds w' w.heap.size w'.heap.size v es
theorem PRes.mk1 {w W : World} {es : List GEdit} {lo hi : Nat} {v : Value} (hb : Below w.heap.size w W) (h : OEds W lo hi v es) (hl : w.heap.size ≤ lo) : PRes es w (.returned v) W := by
  refine ⟨hb, v, rfl, ?_⟩
  obtain ⟨ps, r, h1, h2, h3, h4, h5⟩ := h
  exact ⟨ps, r, h1, ownsRow_more h2 hl, fun g hg => by have := h3 g hg; omega, Nat.le_refl _, h5.le hl h4⟩
theorem edit_nums {e : GEdit} (h : editOk e = true) : 0 ≤ e.i ∧ e.i ≤ 1000000000000000 ∧ 0 ≤ e.j ∧ e.j ≤ 1000000000000000 ∧ (e.kind = 2 → e.i ≤ e.j) := by
  have h1 := (kind_ok h).2.2.2
  obtain ⟨k, i, j, kk, part, map⟩ := e
  simp only [editOk, Bool.and_eq_true, inR, decide_eq_true_eq] at h
  obtain ⟨⟨⟨⟨⟨⟨⟨⟨_, _⟩, h2⟩, h3⟩, _⟩, _⟩, _⟩, _⟩, _⟩ := h
  have h4 := numOk_get h3
  simp only at h1 h2 h4 ⊢
  omega
-- GEN
def mrgF (now : List GRule) : List GEdit → Option (List GRule)
  | [] => some now
  | x :: r => if applyCode now x = 0 then mrgF (applyOut now x) r else none
def RestOk (now : List GRule) : List GEdit → Prop
  | [] => True
  | x :: r => editOk x = true ∧ editFits x (gramLen now) = true ∧ (applyCode now x = 0 → RestOk (applyOut now x) r)
def mrgS (xs : List GRule) (e f : GEdit) : Option (List GRule) := if applyCode xs e = 0 then mrgF (applyOut xs e) (passE f e false) else none
def mrgCode (xs : List GRule) (e f : GEdit) : Int :=
  if gramOk xs && editOk e && editOk f then (if simE e && simE f && editFits e (gramLen xs) && editFits f (gramLen xs) then (match mrgS xs e f with | some _ => 0 | none => 3) else 2) else 1
def mrgOut (xs : List GRule) (e f : GEdit) : List GRule :=
  if gramOk xs && editOk e && editOk f then (if simE e && simE f && editFits e (gramLen xs) && editFits f (gramLen xs) then (match mrgS xs e f with | some o => o | none => []) else []) else []
theorem insE_ok {i : Int} {p : List GRule} (hi : 0 ≤ i ∧ i ≤ 1000000000000000) (hp : 0 < p.length) (hg : gramOk p = true) : editOk (insE i p) = true := by
  simp [editOk, insE, inR, numOk, usesJ, usesK, hi, hp, hg]
  rfl
theorem delE_ok {i j : Int} (hi : 0 ≤ i ∧ i ≤ j ∧ j ≤ 1000000000000000) : editOk (delE i j) = true := by
  have h : ¬ j < i := by omega
  have h1 : i ≤ 1000000000000000 := by omega
  have h2 : 0 ≤ j := by omega
  simp [editOk, delE, inR, numOk, usesJ, usesK, hi, h1, h2, gramOk_nil]
  exact ⟨decide_eq_false h, rfl⟩
theorem fits_ins {i n : Int} {p : List GRule} (h : i ≤ n) : editFits (insE i p) n = true := by simp [editFits, insE, h]
theorem fits_del {i j n : Int} (h : j ≤ n) : editFits (delE i j) n = true := by simp [editFits, delE, h]
theorem part_pos {e : GEdit} (h : editOk e = true) (hk : e.kind = 1) : 0 < e.part.length ∧ gramOk e.part = true := by
  refine ⟨?_, (kind_ok h).2.1⟩
  obtain ⟨k, i, j, kk, part, map⟩ := e
  simp only at hk
  subst hk
  simp only [editOk, Bool.and_eq_true] at h
  obtain ⟨⟨⟨_, h6⟩, _⟩, _⟩ := h
  simpa using h6
theorem merge_rest {xs : List GRule} {e f : GEdit} (ha : applyCode xs e = 0) (se : simE e = true) (sf : simE f = true) (hf : editOk f = true) (ff : editFits f (gramLen xs) = true) : RestOk (applyOut xs e) (passE f e false) := by
  obtain ⟨g1, g2, g3⟩ := applyCode_ok ha
  obtain ⟨hlen, hok⟩ := apply_len ha (simE_kind se)
  have hb := gramLen_bounds (applyOut xs e)
  rw [hlen] at hb
  have hE := fits_nums g2 g3
  have hF := fits_nums hf ff
  have hm := gramLen_bounds e.part
  have hn := gramLen_bounds xs
  rcases simE_kind sf with kf | kf
  · obtain ⟨pp, pg⟩ := part_pos hf kf
    have hfi := hF.2.1 kf
    have : passE f e false = [insE (passI f e false) f.part] := by unfold passE; rw [if_pos kf]
    rw [this]
    have hat : 0 ≤ passI f e false ∧ passI f e false ≤ editLen e (gramLen xs) := by
      unfold passI editLen at *
      rcases simE_kind se with ke | ke
      · rw [if_pos ke] at hb ⊢
        rw [if_pos ke]
        split <;> omega
      · have hj := hE.2.2.1 (by omega)
        rw [if_neg (by omega), if_neg (by omega), if_pos ke]
        unfold lessP
        split
        · omega
        · split <;> omega
    refine ⟨insE_ok (by omega) pp pg, fits_ins (by rw [hlen]; exact hat.2), fun _ => trivial⟩
  · have hfj := hF.2.2.1 (by omega)
    by_cases hij : f.i = f.j
    · have : passE f e false = [] := by unfold passE; rw [if_neg (by omega), if_pos hij]
      rw [this]; trivial
    · rcases simE_kind se with ke | ke
      · have hl2 : editLen e (gramLen xs) = gramLen xs + gramLen e.part := by unfold editLen; rw [if_pos ke]
        rw [hl2] at hb hlen
        have hei := hE.2.1 ke
        by_cases c1 : e.i ≤ f.i
        · have : passE f e false = [delE (f.i + gramLen e.part) (f.j + gramLen e.part)] := by unfold passE; rw [if_neg (by omega), if_neg hij, if_pos ke, if_pos c1]
          rw [this]
          exact ⟨delE_ok (by omega), fits_del (by omega), fun _ => trivial⟩
        · by_cases c2 : f.j ≤ e.i
          · have : passE f e false = [delE f.i f.j] := by unfold passE; rw [if_neg (by omega), if_neg hij, if_pos ke, if_neg c1, if_pos c2]
            rw [this]
            exact ⟨delE_ok (by omega), fits_del (by omega), fun _ => trivial⟩
          · have : passE f e false = [delE (e.i + gramLen e.part) (f.j + gramLen e.part), delE f.i e.i] := by unfold passE; rw [if_neg (by omega), if_neg hij, if_pos ke, if_neg c1, if_neg c2]
            rw [this]
            refine ⟨delE_ok (by omega), fits_del (by omega), fun h2 => ⟨delE_ok (by omega), ?_, fun _ => trivial⟩⟩
            have h3 := (apply_len h2 (.inr rfl)).1
            apply fits_del
            rw [h3]
            show e.i ≤ editLen (delE (e.i + gramLen e.part) (f.j + gramLen e.part)) _
            have : editLen (delE (e.i + gramLen e.part) (f.j + gramLen e.part)) (gramLen (applyOut xs e)) = gramLen (applyOut xs e) - ((f.j + gramLen e.part) - (e.i + gramLen e.part)) := rfl
            rw [this, hlen]; omega
      · have hl2 : editLen e (gramLen xs) = gramLen xs - (e.j - e.i) := by unfold editLen; rw [if_neg (by omega), if_pos ke]
        rw [hl2] at hb hlen
        have hej := hE.2.2.1 (by omega)
        have : passE f e false = remE (lessP e f.i) (lessP e f.j) := by unfold passE; rw [if_neg (by omega), if_neg hij, if_neg (by omega)]
        rw [this]
        unfold remE
        split
        · rename_i hlt
          have b1 : 0 ≤ lessP e f.i := by unfold lessP; split; omega; split <;> omega
          have b2 : lessP e f.j ≤ gramLen xs - (e.j - e.i) := by unfold lessP; split; omega; split <;> omega
          exact ⟨delE_ok (by omega), fits_del (by omega), fun _ => trivial⟩
        · trivial
theorem pass_all {xs : List GRule} {e f : GEdit} (ha : applyCode xs e = 0) (se : simE e = true) (sf : simE f = true) (hf : editOk f = true) (ff : editFits f (gramLen xs) = true) : (passE f e false).all editOk = true := by
  obtain ⟨g1, g2, g3⟩ := applyCode_ok ha
  obtain ⟨hlen, hok⟩ := apply_len ha (simE_kind se)
  have hb := gramLen_bounds (applyOut xs e)
  rw [hlen] at hb
  have hr := merge_rest ha se sf hf ff
  have hE := fits_nums g2 g3
  have hF := fits_nums hf ff
  cases hp : passE f e false with
  | nil => rfl
  | cons x r =>
    rw [hp] at hr
    obtain ⟨h1, h2, h3⟩ := hr
    cases r with
    | nil => simp [h1]
    | cons y r2 =>
      have ht : y = delE f.i e.i ∧ r2 = [] ∧ f.kind = 2 ∧ e.kind = 1 ∧ f.i < e.i := by
        unfold passE at hp
        split at hp
        · cases hp
        · rename_i hk1
          split at hp
          · cases hp
          · split at hp
            · rename_i ke
              split at hp
              · cases hp
              · split at hp
                · cases hp
                · rename_i c1 c2
                  simp at hp
                  refine ⟨hp.2.1.symm, hp.2.2, ?_, ke, by omega⟩
                  rcases simE_kind sf with h | h
                  · exact absurd h hk1
                  · exact h
            · unfold remE at hp
              split at hp
              · cases hp
              · cases hp
      obtain ⟨rfl, rfl, kf, ke, hlt⟩ := ht
      have h4 : editOk (delE f.i e.i) = true := delE_ok (by have := hE.2.1 ke; have := hF.1; have := gramLen_bounds xs; omega)
      simp [h1, h4]
def ByteE : Enc UInt8 where
  size := 1
  pos := by decide
  cells := fun _ _ x cs => cs = [.int .u8 (x.toNat : Int)]
  len := by rintro _ _ _ _ rfl; rfl
  keep := fun h _ => h
  more := fun h _ => h
  one := by rintro _ _ _ _ rfl; simp [Value.oneCell']
def Src (w : World) (b N : Nat) : Prop :=
  ∃ (AC : Option Addr) (l : List UInt8) (cC a d : Nat), w.heap[b]? = some (.cells #[.slice AC l.length cC, .int .i64 (a : Int), .int .u64 (d : Int)] 115 (0, 0)) ∧ a ≤ N ∧ d < 18446744073709551616 ∧ Sl ByteE w b (.slice AC l.length cC) l
theorem Src.lt {w : World} {b N : Nat} (h : Src w b N) : b < w.heap.size := by
  obtain ⟨AC, l, cC, a, d, h, _⟩ := h
  exact (Array.getElem?_eq_some_iff.1 h).1
theorem Src.more {w : World} {b N M : Nat} (h : Src w b N) (hM : N ≤ M) : Src w b M := by
  obtain ⟨AC, l, cC, a, d, h, h1, h2⟩ := h
  exact ⟨AC, l, cC, a, d, h, Nat.le_trans h1 hM, h2⟩
theorem Src.keep {w w' : World} {b N : Nat} (h : Src w b N) (hb : Below w.heap.size w w') : Src w' b N := by
  have hlt := h.lt
  obtain ⟨AC, l, cC, a, d, h, h1, h2, h3⟩ := h
  exact ⟨AC, l, cC, a, d, (hb.block b hlt).trans h, h1, h2, h3.below (hb.mono (Nat.le_of_lt hlt))⟩
theorem u64_nat (n : Int) : ∃ d : Nat, IntKind.u64.wrap n = (d : Int) ∧ d < 18446744073709551616 := by
  rw [IntKind.wrap_u64]
  refine ⟨(n % 18446744073709551616).toNat, ?_, ?_⟩ <;> omega
theorem Src.stored {w w' : World} {b N a d : Nat} {AC : Option Addr} {l : List UInt8} {cC : Nat} {a' d' : Nat} (hbk : w.heap[b]? = some (.cells #[.slice AC l.length cC, .int .i64 (a : Int), .int .u64 (d : Int)] 115 (0, 0))) (hl : Sl ByteE w b (.slice AC l.length cC) l) (ha : a' ≤ N) (hd : d' < 18446744073709551616)
    (hw : ∃ n m, w' = (((w.drewN n).setCell ⟨b, 1, none⟩ (.int .i64 (a' : Int))).setCell ⟨b, 2, none⟩ (.int .u64 (d' : Int))).drewN m) : Src w' b N ∧ But b w w' := by
  obtain ⟨n, m, rfl⟩ := hw
  have hB : But b w ((((w.drewN n).setCell ⟨b, 1, none⟩ (.int .i64 (a' : Int))).setCell ⟨b, 2, none⟩ (.int .u64 (d' : Int))).drewN m) := ((((But.refl b w).drewN n).setCell _).setCell _).drewN m
  refine ⟨⟨AC, l, cC, a', d', ?_, ha, hd, hl.keep fun k hk => hB.block k (Nat.lt_trans hk (Array.getElem?_eq_some_iff.1 hbk).1) (Nat.ne_of_lt hk)⟩, hB⟩
  simp [World.setCell, World.drewN, Array.getElem?_modify, hbk]
theorem and255 (d : Nat) (hd : d < 18446744073709551616) : ∃ x : Nat, bits .and .u64 ((d : Int) / 1099511627776) 255 = (x : Int) ∧ x ≤ 255 := by
  refine ⟨(d / 1099511627776) &&& 255, ?_, Nat.and_le_right⟩
  have e : (d : Int) / 1099511627776 = ((d / 1099511627776 : Nat) : Int) := by rw [Int.natCast_ediv]; rfl
  rw [e]
  exact bits_and_u64_nat _ 255 (by omega) (by decide)
theorem from_any (v : Value) (l : List UInt8) (w : World) (h : Sl ByteE w w.heap.size v l) :
    Calls Tryz.prog 32 #[v] w fun r w' => ∃ b, r = .returned (.pointer (some ⟨b, 0, none⟩)) ∧ b = w.heap.size ∧ Src w' b 0 ∧ Below w.heap.size w w' := by
  have HS := Lib.hid h
  obtain ⟨A, c, rfl, hc1, hc2, _⟩ := h
  go_enter Tryz.func32, Tryz.ntmps32
  go_wp2
  go_ret
  have hb : Below w.heap.size w (w.alloc (.cells #[.slice A l.length c, .int .i64 0, .int .u64 0] 115)) := (Below.refl _ w).alloc (Nat.le_refl _) _
  exact ⟨_, rfl, rfl, ⟨A, l, c, 0, 0, heap_alloc_new w _, Nat.le_refl _, by decide, HS.out.below hb⟩, hb⟩
set_option maxRecDepth 100000 in
set_option maxHeartbeats 1000000 in
theorem next_any (b N : Nat) (w : World) (h : Src w b N) (hN : N ≤ 1000000) :
    Calls Tryz.prog 131 #[.pointer (some ⟨b, 0, none⟩)] w fun r w' => ∃ x : Nat, r = .returned (.int .i64 (x : Int)) ∧ x ≤ 255 ∧ Src w' b (N + 1) ∧ But b w w' := by
  obtain ⟨AC, l, cC, a, d, hbk, ha, hd, hl⟩ := h
  have c0 : w.cell? ⟨b, 0, none⟩ = some (.slice AC l.length cC) := by rw [Lib.cell_of_heap hbk]; rfl
  have c1 : w.cell? ⟨b, 1, none⟩ = some (.int .i64 (a : Int)) := by rw [Lib.cell_of_heap hbk]; rfl
  have c2 : w.cell? ⟨b, 2, none⟩ = some (.int .u64 (d : Int)) := by rw [Lib.cell_of_heap hbk]; rfl
  have f1 : w.frozen? ⟨b, 1, none⟩ = false := Lib.frozen_of_heap hbk 1
  have f2 : w.frozen? ⟨b, 2, none⟩ = false := Lib.frozen_of_heap hbk 2
  have HB := Lib.hid hbk
  have HL := Lib.hid hl
  obtain ⟨_, _, ev, hc1, hc2, hrow⟩ := hl
  clear hbk
  go_enter Tryz.func131, Tryz.ntmps131
  go_wp2_with fail
  go_quiet (fail)
  by_cases hlt : a < l.length
  · obtain ⟨bc, oc, rfl, hbc, hcs⟩ := hrow (by omega)
    obtain ⟨cs, hcs1, hcs2⟩ := hcs a l[a] (List.getElem?_eq_getElem hlt)
    have hcs1' : cs = [.int .u8 (l[a].toNat : Int)] := hcs1
    subst hcs1'
    have hcx := hcs2 0 _ rfl
    have e1 : oc + (a * ByteE.size + 0) = oc + a := by show oc + (a * 1 + 0) = oc + a; omega
    rw [e1] at hcx
    have hx := l[a].toNat_lt
    obtain ⟨x, hxe⟩ : ∃ x, l[a].toNat = x := ⟨_, rfl⟩
    rw [hxe] at hcx hx
    clear hcs hcs1 hcs2 hrow e1 hxe
    have hlI : (a : Int) < (l.length : Int) := by omega
    go_wp2_with fail
    go_quiet (fail)
    go_wp2_with fail
    obtain ⟨d2, hd2, hd2b⟩ := u64_nat (IntKind.u64.wrap (IntKind.u64.wrap ((d : Int) * 6364136223846793005) + (x : Int)) + 1442695040888963407)
    rw [hd2]
    have hle : ((a : Int) + 1) ≤ (l.length : Int) := by omega
    go_wp2_with fail
    go_quiet (fail)
    go_wp2_with fail
    go_ret
    refine ⟨x, rfl, by omega, ?_, ?_⟩
    · exact (Src.stored (N := N + 1) (a' := a + 1) HB.out HL.out (by omega) hd2b ⟨_, _, rfl⟩).1
    · exact (Src.stored (N := N + 1) (a' := a + 1) HB.out HL.out (by omega) hd2b ⟨_, _, rfl⟩).2
  · have hlI : ¬ (a : Int) < (l.length : Int) := by omega
    go_wp2_with fail
    obtain ⟨d2, hd2, hd2b⟩ := u64_nat (IntKind.u64.wrap (IntKind.u64.wrap ((d : Int) * 6364136223846793005)) + 1442695040888963407)
    rw [hd2]
    have hle : ¬ ((a : Int) + 1) ≤ (l.length : Int) := by omega
    obtain ⟨x, hx, hx2⟩ := and255 d2 hd2b
    go_wp2_with fail
    go_quiet (fail)
    go_wp2_with fail
    go_ret
    refine ⟨x, rfl, by omega, ?_, ?_⟩
    · exact (Src.stored (N := N + 1) (a' := a + 1) HB.out HL.out (by omega) hd2b ⟨_, _, rfl⟩).1
    · exact (Src.stored (N := N + 1) (a' := a + 1) HB.out HL.out (by omega) hd2b ⟨_, _, rfl⟩).2
def PickPost (b N : Nat) (n : Int) (w : World) (r : Ending) (w' : World) : Prop := ∃ x : Nat, r = .returned (.int .i64 (x : Int)) ∧ (x = 0 ∨ (x : Int) < n) ∧ x ≤ 65535 ∧ Src w' b (N + 2) ∧ But b w w'
set_option maxRecDepth 100000 in
theorem pick_any (b N : Nat) (n : Int) (w : World) (h : Src w b N) (hN : N ≤ 900000) :
    Calls Tryz.prog 82 #[.pointer (some ⟨b, 0, none⟩), .int .i64 n] w (PickPost b N n w) := by
  have HS := Lib.hid h
  clear h
  go_enter Tryz.func82, Tryz.ntmps82
  by_cases h1 : n ≤ 1
  · go_wp2_with fail
    go_ret
    exact ⟨0, rfl, .inl rfl, by omega, HS.out.more (by omega), But.refl b w⟩
  · go_wp2_with fail
    refine (next_any b N w HS.out (by omega)).mono ?_
    rintro r w1 ⟨x, rfl, hx, hs1, hb1⟩
    have H1 := Lib.hid hs1
    have B1 := Lib.hid hb1
    clear hs1 hb1
    obtain ⟨m, rfl⟩ := Int.eq_ofNat_of_zero_le (show 0 ≤ n by omega)
    have hm : ¬ (m : Int) = 0 := by omega
    by_cases h2 : (200 : Int) < m
    · go_wp2_with fail
      refine (next_any b (N + 1) w1 H1.out (by omega)).mono ?_
      rintro r w2 ⟨y, rfl, hy, hs2, hb2⟩
      have H2 := Lib.hid hs2
      have B2 := Lib.hid hb2
      clear hs2 hb2
      go_wp2_with fail
      go_ret
      refine ⟨(x * 256 + y) % m, ?_, .inr ?_, ?_, H2.out.more (by omega), B1.out.trans B2.out⟩
      · rfl
      · have := Nat.mod_lt (x * 256 + y) (show 0 < m by omega)
        omega
      · have := Nat.mod_le (x * 256 + y) m
        omega
    · go_wp2_with fail
      go_ret
      refine ⟨x % m, ?_, .inr ?_, ?_, H1.out.more (by omega), B1.out⟩
      · rfl
      · have := Nat.mod_lt x (show 0 < m by omega)
        omega
      · have := Nat.mod_le x m
        omega
theorem one_any (b N : Nat) (n : Int) (w : World) (h : Src w b N) (hN : N ≤ 900000) :
    Calls Tryz.prog 83 #[.pointer (some ⟨b, 0, none⟩), .int .i64 n] w fun r w' => ∃ t : Bool, r = .returned (.bool t) ∧ Src w' b (N + 2) ∧ But b w w' := by
  have HS := Lib.hid h
  clear h
  go_enter Tryz.func83, Tryz.ntmps83
  go_wp2_with fail
  refine (pick_any b N n w HS.out hN).mono ?_
  rintro r w1 ⟨x, rfl, _, _, hs1, hb1⟩
  have H1 := Lib.hid hs1
  have B1 := Lib.hid hb1
  clear hs1 hb1
  go_wp2_with fail
  go_ret
  exact ⟨_, rfl, H1.out, B1.out⟩
theorem But.keep {b : Nat} {w w' : World} (h : But b w w') : Keep (fun k => k ≠ b ∧ k < w.heap.size) w w' := fun k hk => h.block k hk.2 hk.1
end Go.Proofs.YtdacndamehiglaaGreatDoor
