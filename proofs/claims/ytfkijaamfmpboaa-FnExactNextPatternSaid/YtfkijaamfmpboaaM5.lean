import Derived.Test.YtfkijaamfmpboaaM4
import Derived.Test.YtfkijaamfmpboaaM3
import Derived.Test.YtfkijaamfmpboaaM1
import Derived.Test.YtfkijaamfmpboaaM2
import Derived.BigQuiet
import Derived.WalkSmall
import Derived.Lib.OthersKept
import Derived.Deep.CutRange
import Derived.Deep.DeepCutAuto
namespace Go.Proofs.Ytfkijaamfmpboaa
open Go.RowKit
theorem pieces_few {xs : List GRule} {ls : List Int} (hl : lens xs = some ls) (i j : Int) : (piecesL xs ls i j).length ≤ 1000000000000000 := by
  have h1 : ∀ (L : List Nat), (∀ r ∈ L, r < xs.length) → L.length ≤ (L.flatMap (W1 xs)).length := by
    intro L
    induction L with
    | nil => intro _; simp
    | cons r L ih =>
      intro h
      have h2 := ih fun x hx => h x (by simp [hx])
      have h3 := W1_len hl r (h r (by simp))
      have h4 := (lens_pos' hl (h r (by simp))).1
      rw [List.length_cons, List.flatMap_cons, List.length_append]; omega
  have h2 := h1 _ (pieces_mem hl i j)
  rw [pieces_word hl] at h2
  have h3 := wordG_len hl
  have h4 : lastI ls ≤ 1000000000000000 := by
    by_cases h0 : 0 < xs.length
    · rw [lastI_at hl h0]; exact (lens_pos' hl (by omega)).2
    · have e : ls = [] := List.eq_nil_of_length_eq_zero (by rw [lens_length hl]; omega)
      subst e; simp [lastI]
  have h5 : (cutL (wordG xs) i j).length ≤ (wordG xs).length := by unfold cutL; rw [List.length_drop, List.length_take]; omega
  omega
theorem vok_runs (maps : List (List Int)) (m n s : Nat) (L : List Nat) (hL : L.length ≤ 1000000000000000) : Runs (visStepP maps) VOk (s, List.replicate m (List.replicate n 0)) L := by
  intro l1 r l2 e
  rw [visStepP_fold]
  show ((visPut maps l1 (List.replicate m (List.replicate n 0)) s).getD r []).getD (l1.foldl (stepM maps) s) 0 ≤ _
  have h := visPut_le maps l1 (List.replicate m (List.replicate n 0)) s 0 (fun r t => by
    rw [List.getD_eq_getElem?_getD, List.getD_eq_getElem?_getD, List.getElem?_replicate]
    split
    · show ((List.replicate n 0)[t]?).getD 0 ≤ 0
      rw [List.getElem?_replicate]; split <;> simp
    · simp) r (l1.foldl (stepM maps) s)
  have : l1.length ≤ L.length := by rw [e]; simp
  omega
theorem alloc3 (w : World) (x y z : Obj) : (((w.alloc x).alloc y).alloc z).drew.heap[w.heap.size]? = some x ∧ (((w.alloc x).alloc y).alloc z).drew.heap[w.heap.size + 1]? = some y ∧ (((w.alloc x).alloc y).alloc z).drew.heap[w.heap.size + 1 + 1]? = some z ∧ Below w.heap.size w (((w.alloc x).alloc y).alloc z).drew := by
  have e1 : (w.alloc x).heap.size = w.heap.size + 1 := by simp
  have e2 : ((w.alloc x).alloc y).heap.size = w.heap.size + 1 + 1 := by simp
  refine ⟨?_, ?_, ?_, Below.drew ((((Below.refl _ _).alloc (Nat.le_refl _) _).alloc (by simp) _).alloc (by simp; omega) _)⟩
  · exact (Below.heap_alloc _ z _ (by omega)).trans ((Below.heap_alloc _ y _ (by omega)).trans (heap_alloc_new w x))
  · exact (Below.heap_alloc _ z _ (by omega)).trans (e1 ▸ heap_alloc_new (w.alloc x) y)
  · exact e2 ▸ heap_alloc_new ((w.alloc x).alloc y) z
structure VS0 (w1 wx : World) (n S bo B bO : Nat) : Prop where
  o : w1.heap.size ≤ bo ∧ w1.heap.size ≤ B ∧ w1.heap.size ≤ bO ∧ bo ≠ B ∧ bo ≠ bO ∧ B ≠ bO
  box : Boxed wx bo 54 (.slice (some ⟨B, 0, none⟩) n n)
  top : wx.rowIs B 34 n (fun _ => .slice none 0 0)
  out : RowN wx bO (List.replicate S 0)
  bel : Below w1.heap.size w1 wx
def VS0P (w1 : World) (n S : Nat) (p q : Value) (wx : World) : Prop := ∃ bo B bO : Nat, p = .pointer (some ⟨bo, 0, none⟩) ∧ q = .slice (some ⟨bO, 0, none⟩) S S ∧ VS0 w1 wx n S bo B bO
theorem VS0.mk' {w1 wx : World} {n S bo B bO : Nat} (o : w1.heap.size ≤ bo ∧ w1.heap.size ≤ B ∧ w1.heap.size ≤ bO ∧ bo ≠ B ∧ bo ≠ bO ∧ B ≠ bO) (h1 : wx.heap[bo]? = some (.cells #[.slice (some ⟨B, 0, none⟩) n n] 54))
    (h2 : wx.heap[B]? = some (.cells (madeCells #[.slice none 0 0] n) 34)) (h3 : wx.heap[bO]? = some (.cells (madeCells #[.int .i64 0] S) 2)) (hb : Below w1.heap.size w1 wx) : VS0 w1 wx n S bo B bO := by
  have g2 := World.rowIs_made w1 (.slice none 0 0) n 34
  have g3 := RowN.made w1 S
  obtain ⟨c, e1, e2, e3⟩ := g2
  rw [heap_alloc_new] at e1
  obtain ⟨c', f1, f2, f3⟩ := g3
  rw [heap_alloc_new] at f1
  exact ⟨o, h1, ⟨c, h2.trans e1, e2, e3⟩, ⟨c', h3.trans f1, f2, f3⟩, hb⟩
structure VS1 (w1 wx : World) (n k S bo B bO : Nat) (R : Nat → Nat) : Prop where
  o : w1.heap.size ≤ bo ∧ w1.heap.size ≤ B ∧ w1.heap.size ≤ bO ∧ bo ≠ B ∧ bo ≠ bO ∧ B ≠ bO
  box : Boxed wx bo 54 (.slice (some ⟨B, 0, none⟩) n n)
  tk : TabK wx w1.heap.size B R n k S
  out : RowN wx bO (List.replicate S 0)
  bel : Below w1.heap.size w1 wx
  ro : ∀ i, i < k → R i ≠ bo ∧ R i ≠ bO
theorem VS0.vs1 {w1 wx : World} {n S bo B bO : Nat} (h : VS0 w1 wx n S bo B bO) : VS1 w1 wx n 0 S bo B bO (fun _ => 0) :=
  ⟨h.o, h.box, TabK.start _ h.top h.o.2.1, h.out, h.bel, fun i hi => absurd hi (by omega)⟩
theorem modify_push {α : Type} (a : Array α) (o : α) (i : Nat) (f : α → α) (h : i < a.size) : (a.push o).modify i f = (a.modify i f).push o := by
  apply Array.ext
  · simp
  · intro j h1 h2
    rw [Array.getElem_modify, Array.getElem_push, Array.getElem_push]
    simp only [Array.size_modify, Array.getElem_modify]
    by_cases e : j < a.size
    · rw [dif_pos e, dif_pos e]
    · rw [dif_neg e, dif_neg e, if_neg (by omega)]
theorem set_alloc (w : World) (p : Addr) (v : Value) (o : Obj) (h : p.block < w.heap.size) : (w.alloc o).setCell p v = (w.setCell p v).alloc o := by
  unfold World.setCell World.alloc
  simp only [modify_push _ _ _ _ h]
theorem VS1.next {w1 wx : World} {n k S bo B bO : Nat} {R : Nat → Nat} (h : VS1 w1 wx n k S bo B bO R) (hk : k < n) :
    VS1 w1 (((wx.setCell ⟨B, k, none⟩ (.slice (some ⟨wx.heap.size, 0, none⟩) S S)).alloc (.cells (madeCells #[.int .i64 0] S) 2)).drew) n (k + 1) S bo B bO (fun i => if i = k then wx.heap.size else R i) := by
  rw [← set_alloc _ _ _ _ (show (⟨B, k, none⟩ : Addr).block < wx.heap.size from World.rowIs.lt h.tk.top)]
  have hb : Below wx.heap.size wx (wx.alloc (.cells (madeCells #[.int .i64 0] S) 2)) := (Below.refl _ _).alloc (Nat.le_refl _) _
  have h1 := h.bel.size
  have h2 := h.box.lt
  have h3 := h.out.lt
  obtain ⟨o1, o2, o3, o4, o5, o6⟩ := h.o
  refine ⟨h.o, (boxed_other (Boxed.up h.box hb h2) o4 _), (h.tk.next hk hb (RowN.made _ _) (Nat.le_refl _) h1).below ((Below.refl _ _).drew), ?_, ?_, fun i hi => ?_⟩
  · exact ((h.out.same (hb.block _ h3)).other (fun e => o6 e.symm) _).same rfl
  · exact Below.drew ((h.bel.trans (hb.mono h1)).setCell o2 _)
  · show (if i = k then wx.heap.size else R i) ≠ bo ∧ (if i = k then wx.heap.size else R i) ≠ bO
    by_cases e : i = k
    · rw [if_pos e]; omega
    · rw [if_neg e]; exact h.ro i (by omega)
structure VS2 (w1 wx : World) (n S bo B bO : Nat) (R : Nat → Nat) (st : List (List Nat) × List Nat) : Prop where
  o : w1.heap.size ≤ bo ∧ w1.heap.size ≤ B ∧ w1.heap.size ≤ bO ∧ bo ≠ B ∧ bo ≠ bO ∧ B ≠ bO
  box : Boxed wx bo 54 (.slice (some ⟨B, 0, none⟩) n n)
  tab : TabN wx w1.heap.size B R n S st.1
  out : RowN wx bO st.2
  bel : Below w1.heap.size w1 wx
  ro : ∀ i, i < n → R i ≠ bo ∧ R i ≠ bO
section
variable {w1 wx w' : World} {n S bo B bO : Nat} {R : Nat → Nat} {st : List (List Nat) × List Nat}
theorem VS2.up (h : VS2 w1 wx n S bo B bO R st) (hb : Below wx.heap.size wx w') : VS2 w1 w' n S bo B bO R st :=
  ⟨h.o, Boxed.up h.box hb h.box.lt, h.tab.below hb, h.out.same (hb.block _ h.out.lt), h.bel.trans (hb.mono h.bel.size), h.ro⟩
theorem VS2.drew (h : VS2 w1 wx n S bo B bO R st) : VS2 w1 wx.drew n S bo B bO R st := h.up (Below.drew (Below.refl _ _))
theorem VS2.addT (h : VS2 w1 wx n S bo B bO R st) {r s : Nat} (hr : r < n) (hs : s < S) (x : Nat) :
    VS2 w1 (wx.setCell ⟨R r, s, none⟩ (.int .i64 ((((st.1.getD r []).getD s 0 + x : Nat)) : Int))) n S bo B bO R (addM st.1 r s x, st.2) :=
  ⟨h.o, boxed_other h.box (fun e => (h.ro r hr).1 e.symm) _, h.tab.add hr hs x, h.out.other (fun e => (h.ro r hr).2 e.symm) _, h.bel.setCell (h.tab.low r hr) _, h.ro⟩
theorem VS2.addO (h : VS2 w1 wx n S bo B bO R st) {s : Nat} (hs : s < st.2.length) (x : Nat) :
    VS2 w1 (wx.setCell ⟨bO, s, none⟩ (.int .i64 (((st.2.getD s 0 + x : Nat)) : Int))) n S bo B bO R (st.1, addR st.2 s x) :=
  ⟨h.o, boxed_other h.box h.o.2.2.2.2.1 _, h.tab.other h.o.2.2.2.2.2 (fun i hi => (h.ro i hi).2) _, h.out.set hs _, h.bel.setCell h.o.2.2.1 _, h.ro⟩
end
theorem VS2.addT' {w1 wx : World} {n S bo B bO : Nat} {R : Nat → Nat} {st : List (List Nat) × List Nat} (h : VS2 w1 wx n S bo B bO R st) {r s x y : Nat} {z : Int} (hr : r < n) (hs : s < S) (hy : (st.1.getD r []).getD s 0 = y) (hz : z = ((y + x : Nat) : Int)) :
    VS2 w1 (wx.setCell ⟨R r, s, none⟩ (.int .i64 z)) n S bo B bO R (addM st.1 r s x, st.2) := by
  subst hy hz; exact h.addT hr hs x
theorem VS2.addO' {w1 wx : World} {n S bo B bO : Nat} {R : Nat → Nat} {st : List (List Nat) × List Nat} (h : VS2 w1 wx n S bo B bO R st) {s x y : Nat} {z : Int} (hs : s < st.2.length) (hy : st.2.getD s 0 = y) (hz : z = ((y + x : Nat) : Int)) :
    VS2 w1 (wx.setCell ⟨bO, s, none⟩ (.int .i64 z)) n S bo B bO R (st.1, addR st.2 s x) := by
  subst hy hz; exact h.addO hs x
theorem addM_le (M : List (List Nat)) (r s x r' t' : Nat) : ((addM M r s x).getD r' []).getD t' 0 ≤ (M.getD r' []).getD t' 0 + x := by
  by_cases hr : r < M.length
  · rw [addM_get _ _ _ _ _ hr]
    by_cases e : r' = r
    · subst e
      rw [if_pos rfl]
      by_cases hs : s < (M.getD r' []).length
      · by_cases e2 : t' = s
        · subst e2
          unfold addR
          rw [List.getD_eq_getElem?_getD, List.getElem?_set_self hs]
          exact Nat.le_refl _
        · unfold addR
          rw [List.getD_eq_getElem?_getD, List.getElem?_set_ne (by omega), ← List.getD_eq_getElem?_getD]; omega
      · unfold addR
        rw [List.set_eq_of_length_le (by omega)]; omega
    · rw [if_neg e]; omega
  · unfold addM
    rw [List.set_eq_of_length_le (by omega)]; omega
theorem vis_pot0 {a : GAuto} (ha : autoOk a = true) {xs : List GRule} {ls : List Int} (hl : lens xs = some ls) (j : Int) {S s0 : Nat} (hS : a.next.length = S) (h0 : s0 < S) :
    VisS xs S (visPut (mapsOf a.next xs) (piecesL xs ls 0 j) (List.replicate xs.length (List.replicate S 0)) s0, List.replicate S 0) ∧
    pot (fun r _ => (W1 xs r).length) (fun _ => 1) (visPut (mapsOf a.next xs) (piecesL xs ls 0 j) (List.replicate xs.length (List.replicate S 0)) s0, List.replicate S 0) xs.length ≤ 1000000000000000 := by
  subst hS
  have hok := mapsOf_ok ha hl xs.length (Nat.le_refl _)
  rw [List.take_length] at hok
  have hm := mapsOf_len a.next xs
  have hR : RowsN a.next.length (List.replicate xs.length (List.replicate a.next.length 0)) := fun t ht => by
    rw [List.length_replicate] at ht
    rw [List.getD_eq_getElem?_getD, List.getElem?_replicate_of_lt ht]; simp
  obtain ⟨g1, g2, t, g3, g4⟩ := visPut_pot (xs := xs) (fun r _ => (W1 xs r).length) hok hm (piecesL xs ls 0 j) (List.replicate xs.length (List.replicate a.next.length 0)) s0 (pieces_mem hl 0 j) (by simp) hR h0
  refine ⟨⟨g2, g1, by simp⟩, ?_⟩
  unfold pot
  simp only []
  rw [g3, dotM_zero _ _ _ _ (Nat.le_refl _), dotR_zero, g4 (fun _ L => (L.flatMap (W1 xs)).length) (fun s => rfl) (fun s r L hr hs => by
    show ((r :: L).flatMap (W1 xs)).length = _
    rw [List.flatMap_cons, List.length_append]), pieces_word hl]
  have h3 := wordG_len hl
  have h4 : lastI ls ≤ 1000000000000000 := by
    by_cases h0 : 0 < xs.length
    · rw [lastI_at hl h0]; exact (lens_pos' hl (by omega)).2
    · have e : ls = [] := List.eq_nil_of_length_eq_zero (by rw [lens_length hl]; omega)
      subst e; simp [lastI]
  have h5 : (cutL (wordG xs) 0 j).length ≤ (wordG xs).length := by unfold cutL; rw [List.length_drop, List.length_take]; omega
  omega
structure VNum (xs : List GRule) (maps : List (List Int)) (S k : Nat) (st F : List (List Nat) × List Nat) : Prop where
  vs : VisS xs S st
  pt : pot (fun r _ => (W1 xs r).length) (fun _ => 1) st k ≤ 1000000000000000
  fin : visAll xs maps S k st = F
theorem VNum.row {a : GAuto} (ha : autoOk a = true) {xs : List GRule} {ls : List Int} (hl : lens xs = some ls) {S k : Nat} {st F : List (List Nat) × List Nat} (hS : a.next.length = S) (h : VNum xs (mapsOf a.next xs) S (k + 1) st F) (hk : k < xs.length) : VNum xs (mapsOf a.next xs) S k (visRow xs (mapsOf a.next xs) k st S) F := by
  subst hS
  have hok := mapsOf_ok ha hl xs.length (Nat.le_refl _)
  rw [List.take_length] at hok
  have hm := mapsOf_len a.next xs
  have e := visRow_pot hl h.vs (wts_len (a := a) hl) hok hm hk a.next.length (Nat.le_refl _)
  have h1 := h.pt
  exact ⟨h.vs.row hl hk _, by omega, by have := h.fin; rwa [visAll] at this⟩
theorem VNum.le {a : GAuto} (ha : autoOk a = true) {xs : List GRule} {ls : List Int} (hl : lens xs = some ls) {S k t : Nat} {st F : List (List Nat) × List Nat} (hS : a.next.length = S) (h : VNum xs (mapsOf a.next xs) S (k + 1) st F) (hk : k < xs.length) (ht : t < S) :
    VisS xs S (visRow xs (mapsOf a.next xs) k st t) ∧ ((visRow xs (mapsOf a.next xs) k st t).1.getD k []) = st.1.getD k [] ∧ (st.1.getD k []).getD t 0 ≤ 1000000000000000 ∧
    (∀ r s, r < k → s < S → ((visRow xs (mapsOf a.next xs) k st t).1.getD r []).getD s 0 ≤ 1000000000000000) ∧ ∀ s, s < S → (visRow xs (mapsOf a.next xs) k st t).2.getD s 0 ≤ 1000000000000000 := by
  subst hS
  have hok := mapsOf_ok ha hl xs.length (Nat.le_refl _)
  rw [List.take_length] at hok
  have hm := mapsOf_len a.next xs
  have e := visRow_pot hl h.vs (wts_len (a := a) hl) hok hm hk t (Nat.le_of_lt ht)
  have h1 := h.pt
  have hv := h.vs.row (maps := mapsOf a.next xs) hl hk t
  refine ⟨hv, visRow_get hl h.vs hk t, ?_, fun r s hr hs => ?_, fun s hs => ?_⟩
  · have := vis_bound (a := a) hl h.vs (k := k + 1) (r := k) (s := t) (by omega) (by omega) ht; omega
  · have := vis_bound (a := a) hl hv (k := k) (r := r) (s := s) (by omega) hr hs; omega
  · have e2 := dotR_le (fun _ => 1) (visRow xs (mapsOf a.next xs) k st t).2 0 s (by rw [hv.out]; exact hs)
    unfold pot at e h1; omega
set_option maxRecDepth 100000 in
set_option maxHeartbeats 4000000 in
theorem visits_any (v : Value) (a : GAuto) (xs : List GRule) (ls : List Int) (j : Int) (w : World) (h : RideV w w.heap.size v a xs ls) (ha : autoOk a = true) (hl : lens xs = some ls) (hn : xs.length ≤ 4194304) :
    Calls Try.prog 101 #[v, .int .i64 j] w fun e w' => ∃ v', e = .returned v' ∧ Sl IntE w' w'.heap.size v' ((visOut a xs ls j).map Int.ofNat) ∧ Below w.heap.size w w' := by
  obtain ⟨vF, vN, vR, vL, vM, rfl, h1, h2, h3, h4, h5⟩ := h
  have H3 := Lib.hid h3
  have H4 := Lib.hid h4
  have H5 := Lib.hid h5
  have Ha := Lib.hid ha
  have Hl := Lib.hid hl
  obtain ⟨n1, n2, n3, n4⟩ := autoOk_get ha
  obtain ⟨p0, p1⟩ := autoOk_start ha
  obtain ⟨S, hS⟩ : ∃ S, a.next.length = S := ⟨_, rfl⟩
  have hst : a.states = (S : Int) := by omega
  have hsta : a.start = (a.start.toNat : Int) := by omega
  have hS24 : S ≤ 24 := by omega
  have HS := Lib.hid hS
  have Hsta := Lib.hid (show a.start.toNat < S by omega)
  have hok := mapsOf_ok ha hl xs.length (Nat.le_refl _)
  rw [List.take_length, hS] at hok
  have Hok := Lib.hid hok
  clear ha hl n1 n2 n3 n4 p0 p1 hok
  obtain ⟨s0, hs0⟩ : ∃ s0, a.start.toNat = s0 := ⟨_, rfl⟩
  rw [hs0] at hsta Hsta
  have Hs0 := Lib.hid hs0
  obtain ⟨AF, cF, rfl, _⟩ := h1
  obtain ⟨AN, cN, rfl, _⟩ := h2
  obtain ⟨AR, cR, rfl, _⟩ := h3
  obtain ⟨AL, cL, rfl, _⟩ := h4
  obtain ⟨AM, cM, rfl, _⟩ := h5
  rw [hst, hsta]
  clear hst hsta hs0 hS
  have hmkT : ∀ W : World, (Instr.makeSlice 54 (.int .i64 (xs.length : Int)) (.int .i64 (xs.length : Int))).run Try.prog W = .ok (.slice (some ⟨W.heap.size, 0, none⟩) xs.length xs.length) (W.alloc (.cells (madeCells #[.slice none 0 0] xs.length) 34)) :=
    fun W => run_make_row' _ _ _ 24 Try.underlying54 Try.infoII rfl .i64 .i64 xs.length (by omega) (by omega) W
  have hmkI : ∀ W : World, (Instr.makeSlice 34 (.int .i64 (S : Int)) (.int .i64 (S : Int))).run Try.prog W = .ok (.slice (some ⟨W.heap.size, 0, none⟩) S S) (W.alloc (.cells (madeCells #[.int .i64 0] S) 2)) :=
    fun W => run_make_row' _ _ _ 8 Try.underlying34 Try.infoI rfl .i64 .i64 S (by omega) (by omega) W
  go_enter Try.func101, Try.ntmps101
  go_upto_region 1 with fail
  have R7 := Lib.hid (Box7.new (w := w) (c0 := .int .i64 (S : Int)) (c1 := .int .i64 (s0 : Int)) (c2 := .slice AF a.finals.length cF) (c3 := .slice AN a.next.length cN) (c4 := .slice AR xs.length cR) (c5 := .slice AL ls.length cL) (c6 := .slice AM (mapsOf a.next xs).length cM) (t := 68) (Below.refl _ _))
  have B0 := Lib.hid ((Below.refl w.heap.size w).alloc (Nat.le_refl _) (Obj.cells #[.int .i64 (S : Int), .int .i64 (s0 : Int), .slice AF a.finals.length cF, .slice AN a.next.length cN, .slice AR xs.length cR, .slice AL ls.length cL, .slice AM (mapsOf a.next xs).length cM] 68))
  have z0 : (w.alloc (Obj.cells #[.int .i64 (S : Int), .int .i64 (s0 : Int), .slice AF a.finals.length cF, .slice AN a.next.length cN, .slice AR xs.length cR, .slice AL ls.length cL, .slice AM (mapsOf a.next xs).length cM] 68)).heap.size = w.heap.size + 1 := by simp
  generalize w.alloc (Obj.cells #[.int .i64 (S : Int), .int .i64 (s0 : Int), .slice AF a.finals.length cF, .slice AN a.next.length cN, .slice AR xs.length cR, .slice AL ls.length cL, .slice AM (mapsOf a.next xs).length cM] 68) = w1 at *
  obtain ⟨r0, r1, r2, r3, r4, r5, r6⟩ := R7.out
  have zz : w.heap.size < w1.heap.size := by omega
  go_cut [5, 6] (fun p q wx => VS0P w1 xs.length S p q wx)
  case first =>
    go_region
    all_goals
      go_wp2_with fail
      go_meet
      have hA := fun x y z => alloc3 w1 x y z
      rw [z0] at hA
      first
        | exact ⟨w.heap.size + 1, w.heap.size + 1 + 1, w.heap.size + 1 + 1 + 1, rfl, rfl, VS0.mk' (by omega) (hA _ _ _).1 (hA _ _ _).2.1 (hA _ _ _).2.2.1 (z0 ▸ (hA _ _ _).2.2.2)⟩
        | exact ⟨w.heap.size + 1, w.heap.size + 1 + 1 + 1, w.heap.size + 1 + 1, rfl, rfl, VS0.mk' (by omega) (hA _ _ _).1 (hA _ _ _).2.2.1 (hA _ _ _).2.1 (z0 ▸ (hA _ _ _).2.2.2)⟩
        | exact ⟨w.heap.size + 1 + 1, w.heap.size + 1, w.heap.size + 1 + 1 + 1, rfl, rfl, VS0.mk' (by omega) (hA _ _ _).2.1 (hA _ _ _).1 (hA _ _ _).2.2.1 (z0 ▸ (hA _ _ _).2.2.2)⟩
        | exact ⟨w.heap.size + 1 + 1, w.heap.size + 1 + 1 + 1, w.heap.size + 1, rfl, rfl, VS0.mk' (by omega) (hA _ _ _).2.1 (hA _ _ _).2.2.1 (hA _ _ _).1 (z0 ▸ (hA _ _ _).2.2.2)⟩
        | exact ⟨w.heap.size + 1 + 1 + 1, w.heap.size + 1, w.heap.size + 1 + 1, rfl, rfl, VS0.mk' (by omega) (hA _ _ _).2.2.1 (hA _ _ _).1 (hA _ _ _).2.1 (z0 ▸ (hA _ _ _).2.2.2)⟩
        | exact ⟨w.heap.size + 1 + 1 + 1, w.heap.size + 1 + 1, w.heap.size + 1, rfl, rfl, VS0.mk' (by omega) (hA _ _ _).2.2.1 (hA _ _ _).2.1 (hA _ _ _).1 (z0 ▸ (hA _ _ _).2.2.2)⟩
  case rest =>
    revert hcut
    generalize wc = w2
    intro hcut
    obtain ⟨bo, B, bO, rfl, rfl, hV⟩ := hcut
    obtain ⟨o1, o2, o3, o4, o5, o6⟩ := hV.o
    have HV := Lib.hid hV
    have hbox := hV.box
    have hb2 := hV.bel
    have z2 : w1.heap.size ≤ w2.heap.size := hb2.size
    have R72 := Lib.hid (R7.out.up hb2 zz)
    have B2 := Lib.hid (B0.out.trans (hb2.mono (by omega)))
    have hbx2 := hbox.cell
    have zbo := hbox.lt
    clear hV hb2 r0 r1 r2 r3 r4 r5 r6 hmkT
    go_wp2_with fail
    go_loopw [24] (fun i wx => ∃ (k : Nat) (R : Nat → Nat), k ≤ xs.length ∧ i = .int .i64 k ∧ VS1 w1 wx xs.length k S bo B bO R) (fun i _ => xs.length - (intOf i).toNat)
    case atStart => exact ⟨0, _, Nat.zero_le _, rfl, HV.out.vs1⟩
    case round =>
      obtain ⟨k, R, hk, rfl, hV1⟩ := hrel
      have HV1 := Lib.hid hV1
      have hbx := hV1.box.cell
      have zb := hV1.box.lt
      have zw := hV1.bel.size
      obtain ⟨r0, r1, r2, r3, r4, r5, r6⟩ := R7.out.up hV1.bel zz
      have zB := World.rowIs.lt hV1.tk.top
      have fB := World.rowIs.frozen hV1.tk.top k
      have z7 : w.heap.size < wr.heap.size := by omega
      by_cases hlt : k < xs.length
      · have hlt2 : (k : Int) < (xs.length : Int) := by omega
        have cB : ∃ u, wr.cell? ⟨B, k, none⟩ = some u := ⟨_, World.rowIs.cell hV1.tk.top hlt⟩
        obtain ⟨u, cB⟩ := cB
        clear hV1 hbx2 zbo
        go_wp2_with fail
        go_region
        all_goals
          go_wp2_with fail
          go_roundw
          case rel => exact ⟨k + 1, _, by omega, rfl, HV1.out.next hlt⟩
          case measure => simp [intOf]; omega
      · have hkn : k = xs.length := by omega
        subst hkn
        have hT := hV1.tk.done
        have hR := fun i hi => hV1.ro i hi
        have hRl : ∀ i, i < xs.length → R i < wr.heap.size := fun i hi => (hT.row i hi).lt
        have hRw : ∀ i, i < xs.length → w1.heap.size ≤ R i := hT.low
        have hO := hV1.out
        have zO := hO.lt
        have B1 := Lib.hid (B0.out.trans (hV1.bel.mono (by omega)))
        have HT := Lib.hid hT
        have HO := Lib.hid hO
        have HBx := Lib.hid hV1.box
        clear hV1 hbx2 zbo hlt hk
        go_wp2_with fail
        have k0 := (Below.refl wr.heap.size wr).alloc (Nat.le_refl _) (Obj.cells #[Value.int IntKind.i64 (s0 : Int)] 2)
        have kz : (wr.alloc (Obj.cells #[Value.int IntKind.i64 (s0 : Int)] 2)).heap.size = wr.heap.size + 1 := by simp
        have kb : Boxed (wr.alloc (Obj.cells #[Value.int IntKind.i64 (s0 : Int)] 2)) wr.heap.size 2 (.int .i64 (s0 : Int)) := heap_alloc_new _ _
        generalize wr.alloc (Obj.cells #[Value.int IntKind.i64 (s0 : Int)] 2) = w3 at *
        have HT3 := Lib.hid (HT.out.below k0)
        have HO3 := Lib.hid (HO.out.same (k0.block bO zO))
        have HBx3 := Lib.hid (Boxed.up HBx.out k0 zb)
        have B3 := Lib.hid (B1.out.trans (k0.mono (by omega)))
        have HV3 := Lib.hid (HV1.out.bel.trans (k0.mono (by omega)))
        have c6 := (R7.out.up HV3.out zz).2.2.2.2.2.2
        have Kz := Lib.hid kz
        refine (pieces_any (VJ w3 w1.heap.size wr.heap.size B R xs.length S) (visStepP (mapsOf a.next xs)) VOk 112 #[.pointer (some ⟨bo, 0, none⟩), .pointer (some ⟨wr.heap.size, 0, none⟩), .pointer (some ⟨w.heap.size, 0, none⟩)] xs ls 0 j Hl.out (by omega) (enters_of Try.func112 (by kernel_rfl) rfl)
          (fun C s w w' hJ hb _ hC => VJ.ext (by omega) (fun i hi => by have := hRl i hi; omega) C s w w' hJ hb hC) ?_ _ _ (s0, List.replicate xs.length (List.replicate S 0)) (fun b => b < w.heap.size) w3 ?_ (vok_runs _ _ _ _ _ (pieces_few Hl.out 0 j)) ?_ ?_ ?_).mono ?_
        · intro C st r w' hJ hO hr hC
          exact visCl_any w3 w.heap.size bo wr.heap.size B w1.heap.size R xs.length S _ (mapsOf a.next xs) ⟨by omega, by omega, fun i hi e => by have := hRw i hi; omega⟩ ⟨by omega, by omega, fun i hi e => (hR i hi).1 e.symm⟩ (by omega)
            (fun i hi => ⟨by have := hRl i hi; omega, by have := hRl i hi; omega⟩) (by omega) (by omega) c6 (Boxed.cell HBx3.out)
            ((H5.out.keep (Keep.of_below B3.out)).more fun b hb => ⟨by omega, by omega, fun i hi e => by have := hRw i hi; omega⟩) Hok.out (mapsOf_len _ _) C st r w' hJ hO hr hC
        · exact ⟨Wk.refl _ _, Boxed.cell kb, (by have e : w3.heap[wr.heap.size]? = _ := kb; simp [World.frozen?, e]), HT3.out, by omega, fun i hi => by have := hRw i hi; omega, Hsta.out⟩
        · intro b hb
          omega
        · exact (H4.out.keep (Keep.of_below B3.out))
        · exact (H3.out.keep (Keep.of_below B3.out))
        · rintro e w4 ⟨rfl, C2, g1, g2, g3, g4⟩
          rw [visStepP_fold] at g3
          have hbel4 : Below w1.heap.size w3 w4 := g3.wk.below fun k hk => ⟨by omega, by omega, fun i hi e => by have := hRw i hi; omega⟩
          have HV2 : Hid (VS2 w1 w4 xs.length S bo B bO R (visPut (mapsOf a.next xs) (piecesL xs ls 0 j) (List.replicate xs.length (List.replicate S 0)) s0, List.replicate S 0)) :=
            ⟨by omega, (g3.wk.block bo ⟨by omega, by omega, fun i hi e => (hR i hi).1 e.symm⟩).trans HBx3.out, g3.tab, HO3.out.same (g3.wk.block bO ⟨by omega, by omega, fun i hi e => (hR i hi).2 e.symm⟩), HV3.out.trans hbel4, hR⟩
          obtain ⟨p1, p2⟩ := vis_pot0 Ha.out Hl.out j HS.out Hsta.out
          have HN0 : Hid (VNum xs (mapsOf a.next xs) S xs.length (visPut (mapsOf a.next xs) (piecesL xs ls 0 j) (List.replicate xs.length (List.replicate S 0)) s0, List.replicate S 0) (visAll xs (mapsOf a.next xs) S xs.length (visPut (mapsOf a.next xs) (piecesL xs ls 0 j) (List.replicate xs.length (List.replicate S 0)) s0, List.replicate S 0))) := ⟨p1, p2, rfl⟩
          have HF : Hid ((visAll xs (mapsOf a.next xs) S xs.length (visPut (mapsOf a.next xs) (piecesL xs ls 0 j) (List.replicate xs.length (List.replicate S 0)) s0, List.replicate S 0)).2 = visOut a xs ls j) := by
            rw [Hid, visOut, HS.out, Hs0.out]
          clear p1 p2 g1 g2 g3 g4 hbel4 hR hRl hRw hT hO zO k0 kz kb c6
          generalize visAll xs (mapsOf a.next xs) S xs.length (visPut (mapsOf a.next xs) (piecesL xs ls 0 j) (List.replicate xs.length (List.replicate S 0)) s0, List.replicate S 0) = F at *
          generalize (visPut (mapsOf a.next xs) (piecesL xs ls 0 j) (List.replicate xs.length (List.replicate S 0)) s0, List.replicate S 0) = st0 at *
          have cbo := Boxed.cell HV2.out.box
          clear hbx zb zw r0 r1 r2 r3 r4 r5 r6 zB fB z7
          go_wp2_with fail
          go_loopw [9] (fun i wx => ∃ (k : Nat) (st : List (List Nat) × List Nat), k ≤ xs.length ∧ i = .int .i64 ((k : Int) - 1) ∧ VS2 w1 wx xs.length S bo B bO R st ∧ Hid (VNum xs (mapsOf a.next xs) S k st F)) (fun i _ => (intOf i + 1).toNat)
          case atStart => exact ⟨xs.length, _, Nat.le_refl _, rfl, HV2.out, HN0⟩
          case round =>
            obtain ⟨k, st, hk, rfl, hV2, HN⟩ := hrel
            have HV := Lib.hid hV2
            clear hV2
            cases k with
            | zero =>
              have hz : ((0 : Nat) : Int) - 1 = -1 := by omega
              rw [hz]
              have e1 : st = F := HN.out.fin
              have e2 : st.2.length = S := HN.out.vs.out
              have hO2 := HV.out.out
              have HO2 := Lib.hid hO2
              have E1 := Lib.hid e1
              have E2 := Lib.hid e2
              clear e1 e2 hO2
              go_wp2_with fail
              go_ret
              have h1 := HO2.out.sl
              rw [E2.out] at h1
              rw [← HF.out, ← E1.out]
              refine ⟨_, rfl, ?_, B0.out.trans (HV.out.bel.mono (by omega))⟩
              rcases h1 with h1 | h1
              · exact h1
              · unfold maxLen at h1; omega
            | succ k =>
              have hz : ((k + 1 : Nat) : Int) - 1 = (k : Int) := by omega
              rw [hz]
              have hkx : k < xs.length := by omega
              have hV := HV.out
              have cbo := hV.box.cell
              have zb := hV.box.lt
              have zw := hV.bel.size
              obtain ⟨r0, r1, r2, r3, r4, r5, r6⟩ := R7.out.up hV.bel zz
              obtain ⟨t1, z1⟩ := hV.tab.top_at hkx
              obtain ⟨AR', cR', eR, _, _, hrowR⟩ := (H3.out.keep (Keep.of_below B0.out))
              have eA : AR = AR' := by injection eR
              subst eA
              clear eR
              obtain ⟨b2, o2, rfl, hb2, hcellR⟩ := hrowR.rule (k := k) hkx
              obtain ⟨k0, k1, k2⟩ := hcellR k _ (getR_at hkx)
              have d0 := (hV.bel.cell (p := ⟨b2, o2 + k * 3, none⟩) (by show b2 < _; omega)).trans k0
              have d1 := (hV.bel.cell (p := ⟨b2, o2 + k * 3 + 1, none⟩) (by show b2 < _; omega)).trans k1
              have d2 := (hV.bel.cell (p := ⟨b2, o2 + k * 3 + 2, none⟩) (by show b2 < _; omega)).trans k2
              have z7 : w.heap.size < wr.heap.size := by omega
              have zb2 : b2 < wr.heap.size := by omega
              have i1 : (k : Int) < (xs.length : Int) := by omega
              obtain ⟨lt, hlt⟩ : ∃ x, (getR xs k).letter = x := ⟨_, rfl⟩
              obtain ⟨rl, hrl⟩ : ∃ x, (getR xs k).left = x := ⟨_, rfl⟩
              obtain ⟨rr, hrr⟩ : ∃ x, (getR xs k).right = x := ⟨_, rfl⟩
              rw [hlt] at d0
              rw [hrl] at d1
              rw [hrr] at d2
              have Hlt := Lib.hid hlt
              have Hrl := Lib.hid hrl
              have Hrr := Lib.hid hrr
              have Hkx := Lib.hid hkx
              clear hlt hrl hrr hrowR hcellR k0 k1 k2 hV hz
              obtain ⟨wo, rfl⟩ : ∃ wo : World, wo = wr := ⟨_, rfl⟩
              go_wp2_with fail
              have ka := (Below.refl wo.heap.size wo).alloc (Nat.le_refl _) (Obj.cells #[.string lt, .int .i64 rl, .int .i64 rr] 111)
              have hbx : (wo.alloc (Obj.cells #[.string lt, .int .i64 rl, .int .i64 rr] 111)).heap[wo.heap.size]? = some (.cells #[.string lt, .int .i64 rl, .int .i64 rr] 111 (0, 0)) := heap_alloc_new _ _
              have HV5 := Lib.hid (HV.out.up ka)
              have Hbx := Lib.hid hbx
              have Hzb := Lib.hid (show bO < wo.heap.size from HV.out.out.lt)
              have HzR := Lib.hid (show ∀ i, i < xs.length → R i < wo.heap.size from fun i hi => (HV.out.tab.row i hi).lt)
              generalize wo.alloc (Obj.cells #[.string lt, .int .i64 rl, .int .i64 rr] 111) = w5 at *
              clear cbo zb r0 r1 r2 r3 r4 r5 r6 t1 z1 ka hbx d0 d1 d2 zb2 z7
              go_loopw [63] (fun i wi => ∃ t : Nat, t ≤ S ∧ i = .int .i64 t ∧ VS2 w1 wi xs.length S bo B bO R (visRow xs (mapsOf a.next xs) k st t) ∧ Hid (wi.heap[wo.heap.size]? = some (.cells #[.string lt, .int .i64 rl, .int .i64 rr] 111 (0, 0)))) (fun i _ => S - (intOf i).toNat)
              case atStart => exact ⟨0, Nat.zero_le _, rfl, HV5.out, Hbx⟩
              case round =>
                obtain ⟨t, ht, rfl, hV6, hbx⟩ := hrel
                have HV6 := Lib.hid hV6
                by_cases htl : t < S
                · obtain ⟨q1, q2, q3, q4, q5⟩ := HN.out.le Ha.out Hl.out HS.out hkx htl
                  obtain ⟨M, O, hMO⟩ : ∃ M O, visRow xs (mapsOf a.next xs) k st t = (M, O) := ⟨_, _, rfl⟩
                  rw [hMO] at hV6 q1 q2 q4 q5
                  simp only at q2 q4 q5
                  obtain ⟨nn, hnn⟩ : ∃ nn, (st.1.getD k []).getD t 0 = nn := ⟨_, rfl⟩
                  rw [hnn] at q3
                  have htl2 : (t : Int) < (S : Int) := by omega
                  have cbo := hV6.box.cell
                  have zb := hV6.box.lt
                  have zw := hV6.bel.size
                  obtain ⟨r0, r1, r2, r3, r4, r5, r6⟩ := R7.out.up hV6.bel zz
                  obtain ⟨t1, t2, _, z1, z2⟩ := hV6.tab.at_ hkx htl
                  simp only at t2
                  rw [q2, hnn] at t2
                  have zbx : wo.heap.size < wr.heap.size := (Array.getElem?_eq_some_iff.1 hbx.out).1
                  have x0 : wr.cell? ⟨wo.heap.size, 0, none⟩ = some (.string lt) := by rw [cell_of_row wr _ 0 _ _ (0, 0) hbx.out]; rfl
                  have x1 : wr.cell? ⟨wo.heap.size, 1, none⟩ = some (.int .i64 rl) := by rw [cell_of_row wr _ 1 _ _ (0, 0) hbx.out]; rfl
                  have x2 : wr.cell? ⟨wo.heap.size, 2, none⟩ = some (.int .i64 rr) := by rw [cell_of_row wr _ 2 _ _ (0, 0) hbx.out]; rfl
                  have z7 : w.heap.size < wr.heap.size := by omega
                  have Q1 := Lib.hid q1
                  have Q2 := Lib.hid q2
                  have Q4 := Lib.hid q4
                  have Q5 := Lib.hid q5
                  have Hnn := Lib.hid hnn
                  have HMO := Lib.hid hMO
                  have HV7 := Lib.hid hV6
                  have Hbx6 := hbx
                  clear q1 q2 q4 q5 hnn hMO hV6 hbx HV6
                  by_cases hp : (getR xs k).pair = true
                  · have hemp : lt.toList.isEmpty = true := by rw [isEmpty_size, ← Hlt.out]; exact hp
                    have Hp := Lib.hid hp
                    clear hp
                    go_wp2_with fail
                    refine (isPair_any _ _ _ _).mono ?_
                    rintro e w6 ⟨rfl, rfl⟩
                    have ka := (Below.refl wr.heap.size wr).alloc (Nat.le_refl _) (Obj.cells #[.string lt, .int .i64 rl, .int .i64 rr] 111)
                    have HV8 := Lib.hid (HV7.out.up ka)
                    have Hb8 : Hid ((wr.alloc (Obj.cells #[.string lt, .int .i64 rl, .int .i64 rr] 111)).heap[wo.heap.size]? = some (.cells #[.string lt, .int .i64 rl, .int .i64 rr] 111 (0, 0))) := (ka.block _ zbx).trans Hbx6.out
                    clear cbo zb r0 r1 r2 r3 r4 r5 r6 t1 t2 z1 z2 x0 x1 x2 zbx z7 ka zw
                    generalize wr.alloc (Obj.cells #[.string lt, .int .i64 rl, .int .i64 rr] 111) = w7 at *
                    obtain ⟨l1, l2, l3, l4, _⟩ := lens_pair Hl.out hkx Hp.out
                    rw [Hrl.out] at l1 l2
                    rw [Hrr.out] at l3 l4
                    obtain ⟨la, hla⟩ := Int.eq_ofNat_of_zero_le l1
                    obtain ⟨ra, hra⟩ := Int.eq_ofNat_of_zero_le l3
                    subst hla hra
                    rw [Int.toNat_natCast] at l2 l4
                    obtain ⟨AM', cM', eM, _, hmM, hrowM⟩ := (H5.out.keep (Keep.of_below B0.out))
                    have eA : AM = AM' := by injection eM
                    subst eA
                    clear eM
                    obtain ⟨b, o, rfl, hbb, hcells⟩ := cells2 hrowM (by rw [mapsOf_len]; omega)
                    have hml := mapsOf_len a.next xs
                    have hbw : b < w.heap.size := hbb
                    obtain ⟨m1, m2⟩ := Hok.out la (by rw [hml]; omega)
                    obtain ⟨b', o', c', d1, d2, d3⟩ := hcells la t (by rw [hml]; omega) (by rw [m1]; exact htl)
                    have hb'w : b' < w.heap.size := d2
                    rw [m1] at d1
                    obtain ⟨m, hm⟩ : ∃ m : Nat, ((mapsOf a.next xs).getD la []).getD t 0 = m := ⟨(((mapsOf a.next xs).getD la []).getD t 0).toNat, by have := (m2 t htl).1; omega⟩
                    have hmS : m < S := by have := (m2 t htl).2; omega
                    rw [hm] at d3
                    have hst : stepM (mapsOf a.next xs) t la = m := by rw [stepM, hm]; rfl
                    obtain ⟨y1, hy1⟩ : ∃ y, (M.getD la []).getD t 0 = y := ⟨_, rfl⟩
                    have q1 := Q4.out la t (by omega) htl
                    rw [hy1] at q1
                    obtain ⟨y2, hy2⟩ : ∃ y, ((addM M la t nn).getD ra []).getD m 0 = y := ⟨_, rfl⟩
                    have q2 : y2 ≤ 2000000000000000 := by
                      have e1 := addM_le M la t nn ra m
                      have e2 := Q4.out ra m (by omega) hmS
                      omega
                    have hstep : visRow xs (mapsOf a.next xs) k st (t + 1) = (addM (addM M la t nn) ra m nn, O) := by
                      rw [visRow, HMO.out]
                      unfold visStep
                      simp only [Hp.out, if_true, Hrl.out, Hrr.out, Int.toNat_natCast, Q2.out, Hnn.out, hst]
                    have Hstep := Lib.hid hstep
                    have zla : la < xs.length := by omega
                    have zra : ra < xs.length := by omega
                    obtain ⟨t1, t2, t3, z1, z2⟩ := HV8.out.tab.at_ zla htl
                    simp only at t2
                    rw [hy1] at t2
                    have HA : Hid (VS2 w1 (w7.setCell ⟨R la, t, none⟩ (.int .i64 ((y1 : Int) + (nn : Int)))) xs.length S bo B bO R (addM M la t nn, O)) := HV8.out.addT' zla htl hy1 rfl
                    have HbA : Hid ((w7.setCell ⟨R la, t, none⟩ (.int .i64 ((y1 : Int) + (nn : Int)))).heap[wo.heap.size]? = some (.cells #[.string lt, .int .i64 (la : Int), .int .i64 (ra : Int)] 111 (0, 0))) := (Below.heap_setCell w7 ⟨R la, t, none⟩ _ _ (by have := HzR.out la zla; show wo.heap.size ≠ R la; omega)).trans Hb8.out
                    have cbo := HV8.out.box.cell
                    have zb := HV8.out.box.lt
                    have zbx : wo.heap.size < w7.heap.size := (Array.getElem?_eq_some_iff.1 Hb8.out).1
                    have x1 : w7.cell? ⟨wo.heap.size, 1, none⟩ = some (.int .i64 (la : Int)) := by rw [cell_of_row w7 _ 1 _ _ (0, 0) Hb8.out]; rfl
                    have i1 : (la : Int) < (xs.length : Int) := by omega
                    have i2 : (ra : Int) < (xs.length : Int) := by omega
                    have i3 : (la : Int) < ((mapsOf a.next xs).length : Int) := by omega
                    have i4 : (m : Int) < (S : Int) := by omega
                    have hw1 : IntKind.i64.wrap ((y1 : Int) + (nn : Int)) = (y1 : Int) + (nn : Int) := IntWalk.i64_in _ (by omega)
                    have hw2 : IntKind.i64.wrap ((y2 : Int) + (nn : Int)) = (y2 : Int) + (nn : Int) := IntWalk.i64_in _ (by omega)
                    have Hd1 := Lib.hid d1
                    have Hd3 := Lib.hid d3
                    have Hy2 := Lib.hid hy2
                    have Hml := Lib.hid hml
                    clear hcells hrowM m1 m2 hm hst hy1 hy2 hstep l1 l2 l3 l4 d1 d3 d2 hbb hml
                    go_wp2_with fail
                    clear cbo zb zbx x1 t1 t2 t3 z1 z2 HV8 Hb8
                    generalize w7.setCell ⟨R la, t, none⟩ (.int .i64 ((y1 : Int) + (nn : Int))) = wA at *
                    have zw := HA.out.bel.size
                    obtain ⟨t1, t2, t3, z1, z2⟩ := HA.out.tab.at_ zra hmS
                    simp only at t2
                    rw [Hy2.out] at t2
                    have cbo := HA.out.box.cell
                    have zb := HA.out.box.lt
                    obtain ⟨r0, r1, r2, r3, r4, r5, r6⟩ := R7.out.up HA.out.bel zz
                    have zbx : wo.heap.size < wA.heap.size := (Array.getElem?_eq_some_iff.1 HbA.out).1
                    have x1 : wA.cell? ⟨wo.heap.size, 1, none⟩ = some (.int .i64 (la : Int)) := by rw [cell_of_row wA _ 1 _ _ (0, 0) HbA.out]; rfl
                    have x2 : wA.cell? ⟨wo.heap.size, 2, none⟩ = some (.int .i64 (ra : Int)) := by rw [cell_of_row wA _ 2 _ _ (0, 0) HbA.out]; rfl
                    have d1 := (HA.out.bel.cell (p := ⟨b, o + la, none⟩) (by show b < _; omega)).trans Hd1.out
                    have d3 := (HA.out.bel.cell (p := ⟨b', o' + t, none⟩) (by show b' < _; omega)).trans Hd3.out
                    have z7 : w.heap.size < wA.heap.size := by omega
                    have v1 : b < wA.heap.size := by omega
                    have v2 : b' < wA.heap.size := by omega
                    clear r0 r1 r2 r3 r4 r5 hw1
                    go_still_tail 19, (by kernel_rfl)
                    change wpList _ _ _ _ _ wA.drew
                    go_wp2_with fail
                    go_roundw
                    case rel =>
                      refine ⟨t + 1, by omega, rfl, ?_, ?_⟩
                      · rw [Hstep.out]
                        exact (HA.out.drew).addT' zra hmS Hy2.out rfl
                      · exact (Below.heap_setCell wA ⟨R ra, m, none⟩ _ _ (by have := HzR.out ra zra; show wo.heap.size ≠ R ra; omega)).trans HbA.out
                    case measure => simp [intOf]; omega
                  · have hemp : lt.toList.isEmpty = false := by
                      have hp' : (getR xs k).pair = false := by simpa using hp
                      rw [isEmpty_size, ← Hlt.out]; exact hp'
                    have Hp : Hid ((getR xs k).pair = false) := by simpa [Hid] using hp
                    clear hp
                    go_wp2_with fail
                    refine (isPair_any _ _ _ _).mono ?_
                    rintro e w6 ⟨rfl, rfl⟩
                    have ka := (Below.refl wr.heap.size wr).alloc (Nat.le_refl _) (Obj.cells #[.string lt, .int .i64 rl, .int .i64 rr] 111)
                    have HV8 := Lib.hid (HV7.out.up ka)
                    have Hb8 : Hid ((wr.alloc (Obj.cells #[.string lt, .int .i64 rl, .int .i64 rr] 111)).heap[wo.heap.size]? = some (.cells #[.string lt, .int .i64 rl, .int .i64 rr] 111 (0, 0))) := (ka.block _ zbx).trans Hbx6.out
                    clear cbo zb r0 r1 r2 r3 r4 r5 r6 t1 t2 z1 z2 x0 x1 x2 zbx z7 ka zw
                    generalize wr.alloc (Obj.cells #[.string lt, .int .i64 rl, .int .i64 rr] 111) = w7 at *
                    have l1 := Hok.out k (by rw [mapsOf_len]; exact hkx)
                    obtain ⟨AM', cM', eM, _, hmM, hrowM⟩ := (H5.out.keep (Keep.of_below B0.out))
                    have eA : AM = AM' := by injection eM
                    subst eA
                    clear eM
                    obtain ⟨b, o, rfl, hbb, hcells⟩ := cells2 hrowM (by rw [mapsOf_len]; omega)
                    have hml := mapsOf_len a.next xs
                    have hbw : b < w.heap.size := hbb
                    obtain ⟨m1, m2⟩ := l1
                    obtain ⟨b', o', c', d1, d2, d3⟩ := hcells k t (by rw [hml]; omega) (by rw [m1]; exact htl)
                    have hb'w : b' < w.heap.size := d2
                    rw [m1] at d1
                    obtain ⟨m, hm⟩ : ∃ m : Nat, ((mapsOf a.next xs).getD k []).getD t 0 = m := ⟨(((mapsOf a.next xs).getD k []).getD t 0).toNat, by have := (m2 t htl).1; omega⟩
                    have hmS : m < S := by have := (m2 t htl).2; omega
                    rw [hm] at d3
                    have hst : stepM (mapsOf a.next xs) t k = m := by rw [stepM, hm]; rfl
                    obtain ⟨y1, hy1⟩ : ∃ y, O.getD m 0 = y := ⟨_, rfl⟩
                    have q1 := Q5.out m hmS
                    rw [hy1] at q1
                    have hstep : visRow xs (mapsOf a.next xs) k st (t + 1) = (M, addR O m nn) := by
                      rw [visRow, HMO.out]
                      unfold visStep
                      simp only [Hp.out, Bool.false_eq_true, if_false, Q2.out, Hnn.out, hst]
                    have Hstep := Lib.hid hstep
                    have hOl : m < O.length := by have := Q1.out.out; simp only at this; omega
                    have HA : Hid (VS2 w1 (w7.setCell ⟨bO, m, none⟩ (.int .i64 ((y1 : Int) + (nn : Int)))) xs.length S bo B bO R (M, addR O m nn)) := HV8.out.addO' hOl hy1 rfl
                    have HbA : Hid ((w7.setCell ⟨bO, m, none⟩ (.int .i64 ((y1 : Int) + (nn : Int)))).heap[wo.heap.size]? = some (.cells #[.string lt, .int .i64 rl, .int .i64 rr] 111 (0, 0))) := (Below.heap_setCell w7 ⟨bO, m, none⟩ _ _ (by have := Hzb.out; show wo.heap.size ≠ bO; omega)).trans Hb8.out
                    have zw := HV8.out.bel.size
                    obtain ⟨r0, r1, r2, r3, r4, r5, r6⟩ := R7.out.up HV8.out.bel zz
                    have tO := HV8.out.out.cell hOl
                    simp only at tO
                    rw [hy1] at tO
                    have fO := HV8.out.out.frozen m
                    have zO := HV8.out.out.lt
                    have d1' := (HV8.out.bel.cell (p := ⟨b, o + k, none⟩) (by show b < _; omega)).trans d1
                    have d3' := (HV8.out.bel.cell (p := ⟨b', o' + t, none⟩) (by show b' < _; omega)).trans d3
                    have z7 : w.heap.size < w7.heap.size := by omega
                    have i3 : (k : Int) < ((mapsOf a.next xs).length : Int) := by omega
                    have i4 : (m : Int) < (S : Int) := by omega
                    have hw1 : IntKind.i64.wrap ((y1 : Int) + (nn : Int)) = (y1 : Int) + (nn : Int) := IntWalk.i64_in _ (by omega)
                    clear hcells hrowM m1 m2 hm hst hy1 hstep d1 d3 d2 hbb hml r0 r1 r2 r3 r4 r5
                    go_wp2_with fail
                    go_roundw
                    case rel =>
                      refine ⟨t + 1, by omega, rfl, ?_, ?_⟩
                      · rw [Hstep.out]; exact HA.out
                      · exact HbA
                    case measure => simp [intOf]; omega
                · have hts : t = S := by omega
                  subst hts
                  have hnx := HN.out.row Ha.out Hl.out HS.out hkx
                  have HNX := Lib.hid hnx
                  clear hnx hV6
                  go_wp2_with fail
                  go_roundw
                  case rel => exact ⟨k, _, by omega, rfl, HV6.out, HNX⟩
                  case measure => simp [intOf]
def nowA (next : List (List Int)) (s : Nat) (w : List UInt8) (n : Nat) : Nat := readW next s (w.take n)
theorem nowA_succ (next : List (List Int)) (s : Nat) {w : List UInt8} {n : Nat} (h : n < w.length) : nowA next s w (n + 1) = stepW next (nowA next s w n) ((w.getD n 0).toNat - 97) := by
  unfold nowA
  rw [List.take_add_one, List.getElem?_eq_getElem h, Option.toList_some, readW_app, List.getD_eq_getElem?_getD, List.getElem?_eq_getElem h]; rfl
theorem visV_succ (next : List (List Int)) (x s : Nat) {w : List UInt8} {n : Nat} (h : n < w.length) : visV next x s (w.take (n + 1)) = visV next x s (w.take n) + if nowA next s w (n + 1) = x then 1 else 0 := by
  rw [nowA_succ next s h, List.take_add_one, List.getElem?_eq_getElem h, Option.toList_some, visV_app, List.getD_eq_getElem?_getD, List.getElem?_eq_getElem h]
  rfl
theorem visV_mono (next : List (List Int)) (x s : Nat) (w : List UInt8) : ∀ (d n : Nat), visV next x s (w.take n) ≤ visV next x s (w.take (n + d)) := by
  intro d
  induction d with
  | zero => intro n; exact Nat.le_refl _
  | succ d ih =>
    intro n
    refine Nat.le_trans (ih n) ?_
    by_cases h : n + d < w.length
    · rw [show n + (d + 1) = n + d + 1 by omega, visV_succ next x s h]; omega
    · rw [List.take_of_length_le (l := w) (i := n + d) (by omega), List.take_of_length_le (l := w) (i := n + (d + 1)) (by omega)]; exact Nat.le_refl _
def leastB (of : Nat → Nat) (c : Nat) : Nat → Nat → Nat → Nat
  | 0, low, _ => low
  | f + 1, low, high => if low < high then (if c ≤ of ((low + high) / 2) then leastB of c f low ((low + high) / 2) else leastB of c f ((low + high) / 2 + 1) high) else low
theorem leastB_spec (of : Nat → Nat) (c : Nat) (hm : ∀ i j, i ≤ j → of i ≤ of j) : ∀ (f low high : Nat), high - low ≤ f → low ≤ high → c ≤ of high → (∀ k, k < low → of k < c) →
    c ≤ of (leastB of c f low high) ∧ leastB of c f low high ≤ high ∧ ∀ k, k < leastB of c f low high → of k < c := by
  intro f
  induction f with
  | zero => intro low high h1 h2 h3 h4; rw [leastB, show low = high by omega]; exact ⟨h3, Nat.le_refl _, fun k hk => h4 k (by omega)⟩
  | succ f ih =>
    intro low high h1 h2 h3 h4
    rw [leastB]
    by_cases g : low < high
    · rw [if_pos g]
      by_cases e : c ≤ of ((low + high) / 2)
      · rw [if_pos e]
        obtain ⟨g1, g2, g3⟩ := ih low ((low + high) / 2) (by omega) (by omega) e h4
        exact ⟨g1, by omega, g3⟩
      · rw [if_neg e]
        refine ih ((low + high) / 2 + 1) high (by omega) (by omega) h3 fun k hk => ?_
        have := hm k ((low + high) / 2) (by omega); omega
    · rw [if_neg g, show low = high by omega]; exact ⟨h3, Nat.le_refl _, fun k hk => h4 k (by omega)⟩
def fstV (next : List (List Int)) (goal : Nat) : Nat → List UInt8 → Int
  | _, [] => -1
  | s, c :: w => if stepW next s (c.toNat - 97) = goal then 1 else if fstV next goal (stepW next s (c.toNat - 97)) w < 0 then -1 else fstV next goal (stepW next s (c.toNat - 97)) w + 1
def behind (a m : Int) : Int := if m < 0 then -1 else a + m
theorem fstV_vis (next : List (List Int)) (goal : Nat) : ∀ (v : List UInt8) (s : Nat), (fstV next goal s v = -1 ∧ ∀ m, visV next goal s (v.take m) = 0) ∨ ∃ m : Nat, fstV next goal s v = m ∧ 1 ≤ m ∧ m ≤ v.length ∧ ∀ m', 1 ≤ visV next goal s (v.take m') ↔ m ≤ m' := by
  intro v
  induction v with
  | nil => intro s; exact Or.inl ⟨rfl, fun m => by simp [visV]⟩
  | cons c v ih =>
    intro s
    rw [fstV]
    have e : ∀ m, visV next goal s ((c :: v).take (m + 1)) = (if stepW next s (c.toNat - 97) = goal then 1 else 0) + visV next goal (stepW next s (c.toNat - 97)) (v.take m) := fun m => rfl
    have e0 : visV next goal s ((c :: v).take 0) = 0 := rfl
    generalize stepW next s (c.toNat - 97) = t at e ⊢
    by_cases g : t = goal
    · rw [if_pos g]
      refine Or.inr ⟨1, rfl, Nat.le_refl _, by simp, fun m' => ?_⟩
      match m' with
      | 0 => rw [e0]
      | m' + 1 => rw [e, if_pos g]; omega
    · rw [if_neg g]
      rcases ih t with ⟨h1, h2⟩ | ⟨m, h1, h2, h3, h4⟩
      · rw [h1, if_pos (by omega)]
        refine Or.inl ⟨rfl, fun m => ?_⟩
        match m with
        | 0 => exact e0
        | m + 1 => rw [e, if_neg g, h2]
      · rw [h1, if_neg (by omega)]
        refine Or.inr ⟨m + 1, by omega, by omega, by simp; omega, fun m' => ?_⟩
        match m' with
        | 0 => rw [e0]; omega
        | m' + 1 => rw [e, if_neg g, Nat.zero_add, h4]; omega
theorem fstV_app (next : List (List Int)) (goal : Nat) (v : List UInt8) : ∀ (u : List UInt8) (s : Nat), fstV next goal s (u ++ v) = if fstV next goal s u < 0 then behind u.length (fstV next goal (readW next s u) v) else fstV next goal s u := by
  intro u
  induction u with
  | nil =>
    intro s
    have e : fstV next goal s [] = -1 := rfl
    rw [List.nil_append, e, if_pos (by omega)]
    show fstV next goal s v = behind 0 (fstV next goal s v)
    unfold behind
    rcases fstV_vis next goal v s with ⟨h, _⟩ | ⟨m, h, _⟩
    · rw [h]; rfl
    · rw [h, if_neg (by omega)]; omega
  | cons c u ih =>
    intro s
    rw [List.cons_append, fstV, fstV, ih]
    have e : readW next s (c :: u) = readW next (stepW next s (c.toNat - 97)) u := rfl
    rw [e]
    generalize stepW next s (c.toNat - 97) = t
    by_cases g : t = goal
    · rw [if_pos g, if_pos g, if_neg (by omega)]
    · rw [if_neg g, if_neg g]
      generalize fstV next goal t u = x
      generalize fstV next goal (readW next t u) v = y
      unfold behind
      rw [List.length_cons]
      by_cases hx : x < 0
      · by_cases hy : y < 0
        · simp [hx, hy]
        · simp only [hx, hy, if_true, if_false]
          rw [if_neg (show ¬ (((u.length : Nat) : Int) + y < 0) by omega), if_pos (show (-1 : Int) < 0 by omega)]; omega
      · simp only [hx, if_false]
        rw [if_neg (show ¬ (x + 1 < 0) by omega)]
def ffrV (next : List (List Int)) (goal s : Nat) (w : List UInt8) (k : Nat) : Int := behind k (fstV next goal (readW next s (w.take k)) (w.drop k))
theorem ffrV_zero (next : List (List Int)) (goal s : Nat) (w : List UInt8) : ffrV next goal s w 0 = fstV next goal s w := by
  unfold ffrV behind readW
  simp only [List.take_zero, List.foldl_nil, List.drop_zero]
  rcases fstV_vis next goal w s with ⟨h, _⟩ | ⟨m, h, _⟩
  · rw [h]; rfl
  · rw [h, if_neg (by omega)]; omega
theorem ffrV_out (next : List (List Int)) (goal s : Nat) (w : List UInt8) {k : Nat} (h : w.length ≤ k) : ffrV next goal s w k = -1 := by
  unfold ffrV behind
  rw [List.drop_of_length_le h]; rfl
theorem ffrV_right (next : List (List Int)) (goal s : Nat) (u v : List UInt8) {k : Nat} (h : u.length ≤ k) : ffrV next goal s (u ++ v) k = behind u.length (ffrV next goal (readW next s u) v (k - u.length)) := by
  unfold ffrV
  rw [List.take_append, List.drop_append, List.take_of_length_le h, List.drop_of_length_le h, List.nil_append, readW_app]
  generalize fstV next goal _ _ = x
  unfold behind
  by_cases hx : x < 0
  · simp [hx]
  · rw [if_neg hx, if_neg hx, if_neg (by omega)]; omega
theorem ffrV_left (next : List (List Int)) (goal s : Nat) (u v : List UInt8) {k : Nat} (h : k ≤ u.length) : ffrV next goal s (u ++ v) k = if ffrV next goal s u k < 0 then behind u.length (fstV next goal (readW next s u) v) else ffrV next goal s u k := by
  unfold ffrV
  rw [List.take_append_of_le_length h, List.drop_append_of_le_length h, fstV_app, ← readW_app, List.take_append_drop, List.length_drop]
  generalize fstV next goal (readW next s (u.take k)) (u.drop k) = x
  generalize fstV next goal (readW next s u) v = y
  unfold behind
  by_cases hx : x < 0
  · simp only [hx, if_true]
    rw [if_pos (show (-1 : Int) < 0 by omega)]
    by_cases hy : y < 0
    · simp [hy]
    · rw [if_neg hy, if_neg (by omega), if_neg hy]; omega
  · simp only [hx, if_false]
    rw [if_neg (show ¬ ((k : Int) + x < 0) by omega)]
def findD (xs : List GRule) (ls : List Int) (maps : List (List Int)) (first : Nat → Nat → Int) : Nat → Nat → Nat → Int → Int → Int → Int
  | 0, _, _, _, _, best => best
  | f + 1, r, s, frm, base, best =>
    if frm ≤ 0 then (if 0 ≤ first r s then base + first r s else best)
    else if ls.getD r 0 ≤ frm then best
    else if ls.getD (getR xs r).left.toNat 0 ≤ frm then findD xs ls maps first f (getR xs r).right.toNat (stepM maps s (getR xs r).left.toNat) (frm - ls.getD (getR xs r).left.toNat 0) (base + ls.getD (getR xs r).left.toNat 0) best
    else findD xs ls maps first f (getR xs r).left.toNat s frm base (if 0 ≤ first (getR xs r).right.toNat (stepM maps s (getR xs r).left.toNat) then base + ls.getD (getR xs r).left.toNat 0 + first (getR xs r).right.toNat (stepM maps s (getR xs r).left.toNat) else best)
theorem findD_word {a : GAuto} (ha : autoOk a = true) {xs : List GRule} {ls : List Int} (hl : lens xs = some ls) (goal : Nat) : ∀ (f r s : Nat) (frm base best : Int), r < f → r < xs.length → s < a.next.length →
    findD xs ls (mapsOf a.next xs) (fun r s => fstV a.next goal s (W1 xs r)) f r s frm base best = if ffrV a.next goal s (W1 xs r) frm.toNat < 0 then best else base + ffrV a.next goal s (W1 xs r) frm.toNat := by
  have hok := mapsOf_ok ha hl xs.length (Nat.le_refl _)
  rw [List.take_length] at hok
  intro f
  induction f with
  | zero => intro r s frm base best h; exact absurd h (by omega)
  | succ f ih =>
    intro r s frm base best hf hr hs
    rw [findD]
    have hlen := W1_len hl r hr
    by_cases c1 : frm ≤ 0
    · rw [if_pos c1, show frm.toNat = 0 by omega, ffrV_zero]
      by_cases q : fstV a.next goal s (W1 xs r) < 0
      · rw [if_neg (by omega), if_pos q]
      · rw [if_pos (by omega), if_neg q]
    · rw [if_neg c1]
      by_cases c2 : ls.getD r 0 ≤ frm
      · rw [if_pos c2, ffrV_out _ _ _ _ (by omega), if_pos (by omega)]
      · rw [if_neg c2]
        cases hp : (getR xs r).pair with
        | false => rw [lens_letter hl hr hp] at c2; omega
        | true =>
          obtain ⟨q1, q2, q3, q4, q5⟩ := lens_pair hl hr hp
          have eL := W1_len hl (getR xs r).left.toNat (by omega)
          have hst := stepM_word ha hl (getR xs r).left.toNat s (by omega) hs
          have hlt : stepM (mapsOf a.next xs) s (getR xs r).left.toNat < a.next.length := by
            have := (hok (getR xs r).left.toNat (by rw [mapsOf_len]; omega)).2 s hs
            unfold stepM; omega
          rw [W1_pair hl hr hp]
          by_cases c3 : ls.getD (getR xs r).left.toNat 0 ≤ frm
          · rw [if_pos c3, ih _ _ _ _ _ (by omega) (by omega) hlt, ffrV_right _ _ _ _ _ (by omega), hst, show (frm - ls.getD (getR xs r).left.toNat 0).toNat = frm.toNat - (W1 xs (getR xs r).left.toNat).length by omega]
            generalize ffrV a.next goal _ _ _ = x
            unfold behind
            by_cases hx : x < 0
            · rw [if_pos hx, if_pos hx, if_pos (by omega)]
            · rw [if_neg hx, if_neg hx, if_neg (by omega)]; omega
          · rw [if_neg c3, ih _ _ _ _ _ (by omega) (by omega) hs, ffrV_left _ _ _ _ _ (by omega), hst]
            generalize ffrV a.next goal s (W1 xs (getR xs r).left.toNat) frm.toNat = x
            generalize fstV a.next goal _ _ = y
            unfold behind
            by_cases hx : x < 0
            · rw [if_pos hx, if_pos hx]
              by_cases hy : y < 0
              · rw [if_neg (by omega), if_pos hy, if_pos (by omega)]
              · rw [if_pos (by omega), if_neg hy, if_neg (by omega)]; omega
            · rw [if_neg hx, if_neg hx, if_neg hx]
theorem least_ffr (next : List (List Int)) (goal s : Nat) (w : List UInt8) {k f : Nat} (hk : k ≤ w.length) (hf : w.length ≤ f) :
    (visV next goal s (w.take w.length) < visV next goal s (w.take k) + 1 → ffrV next goal s w k = -1) ∧
    (visV next goal s (w.take k) + 1 ≤ visV next goal s (w.take w.length) → ffrV next goal s w k = (leastB (fun j => visV next goal s (w.take j)) (visV next goal s (w.take k) + 1) f 0 w.length : Nat)) := by
  have hmono : ∀ i j, i ≤ j → visV next goal s (w.take i) ≤ visV next goal s (w.take j) := fun i j hij => by
    have := visV_mono next goal s w (j - i) i
    rw [show i + (j - i) = j by omega] at this; exact this
  have hsp : ∀ m, visV next goal s (w.take (k + m)) = visV next goal s (w.take k) + visV next goal (readW next s (w.take k)) ((w.drop k).take m) := fun m => by
    rw [List.take_add, visV_app]
  have h9 := hsp (w.length - k)
  rw [show k + (w.length - k) = w.length by omega] at h9
  have hd : (w.drop k).length = w.length - k := by rw [List.length_drop]
  refine ⟨fun h => ?_, fun h => ?_⟩
  · rcases fstV_vis next goal (w.drop k) (readW next s (w.take k)) with ⟨h1, _⟩ | ⟨m, h1, h2, h3, h4⟩
    · unfold ffrV; rw [h1]; rfl
    · have := (h4 (w.length - k)).2 (by omega)
      omega
  · obtain ⟨g1, g2, g3⟩ := leastB_spec (fun j => visV next goal s (w.take j)) (visV next goal s (w.take k) + 1) hmono f 0 w.length (by omega) (by omega) h (fun k hk => absurd hk (by omega))
    generalize leastB (fun j => visV next goal s (w.take j)) (visV next goal s (w.take k) + 1) f 0 w.length = n at g1 g2 g3 ⊢
    have g1 : visV next goal s (w.take k) + 1 ≤ visV next goal s (w.take n) := g1
    have g3 : ∀ j, j < n → visV next goal s (w.take j) < visV next goal s (w.take k) + 1 := g3
    have hkn : k ≤ n := by
      rcases Nat.lt_or_ge n k with q | q
      · have := hmono n k (by omega); omega
      · exact q
    obtain ⟨m, rfl⟩ : ∃ m, n = k + m := ⟨n - k, by omega⟩
    rw [hsp] at g1
    rcases fstV_vis next goal (w.drop k) (readW next s (w.take k)) with ⟨h1, h2⟩ | ⟨m2, h1, h2, h3, h4⟩
    · rw [h2] at g1; omega
    · have a1 := (h4 m).1 (by omega)
      have a2 : ¬ m2 < m := fun q => by
        have b1 := g3 (k + m2) (by omega)
        rw [hsp] at b1
        have b2 := (h4 m2).2 (Nat.le_refl _)
        omega
      unfold ffrV behind
      rw [h1, if_neg (by omega)]; omega
theorem Row.take {α : Type} {E : Enc α} {w : World} {S : Nat → Prop} {A : Option Addr} {xs : List α} (h : Row E w S A xs) (m : Nat) : Row E w S A (xs.take m) := fun hn => by
  obtain ⟨b, o, rfl, hlt, hc⟩ := h (by simp at hn; omega)
  refine ⟨b, o, rfl, hlt, fun k x hx => hc k x ?_⟩
  rw [List.getElem?_take] at hx
  split at hx
  · exact hx
  · cases hx
theorem cut_take {α : Type} (l : List α) (i : Int) : cutL l 0 i = l.take i.toNat := by unfold cutL; simp
def timesV (F : List Int) (V : List Nat) : Nat := (F.map (fun x => V.getD x.toNat 0)).sum
theorem timesV_succ (F : List Int) (V : List Nat) {k : Nat} (h : k < F.length) : timesV (F.take (k + 1)) V = timesV (F.take k) V + V.getD (F.getD k 0).toNat 0 := by
  unfold timesV
  rw [List.take_add_one, List.getElem?_eq_getElem h, Option.toList_some, List.map_append, List.sum_append, List.getD_eq_getElem?_getD (l := F), List.getElem?_eq_getElem h]
  simp
theorem visV_le (next : List (List Int)) (x : Nat) : ∀ (w : List UInt8) (s : Nat), visV next x s w ≤ w.length := by
  intro w
  induction w with
  | nil => intro s; simp [visV]
  | cons c w ih => intro s; rw [visV, List.length_cons]; have := ih (stepW next s (c.toNat - 97)); split <;> omega
theorem visOut_le {a : GAuto} (ha : autoOk a = true) {xs : List GRule} {ls : List Int} (hl : lens xs = some ls) (j : Int) (x : Nat) : (visOut a xs ls j).getD x 0 ≤ 1000000000000000 := by
  obtain ⟨p0, p1⟩ := autoOk_start ha
  rw [(visOut_word ha (by omega) hl (j := j) (pieces_mem hl 0 j)).2 x]
  have h1 := visV_le a.next x (cutL (wordG xs) 0 j) a.start.toNat
  have h3 := wordG_len hl
  have h4 := (lastI_bounds hl).2
  have h5 : (cutL (wordG xs) 0 j).length ≤ (wordG xs).length := by unfold cutL; rw [List.length_drop, List.length_take]; omega
  omega
theorem timesV_le {F : List Int} {V : List Nat} (hV : ∀ x, V.getD x 0 ≤ 1000000000000000) : timesV F V ≤ F.length * 1000000000000000 := by
  unfold timesV
  induction F with
  | nil => simp
  | cons x F ih => rw [List.map_cons, List.sum_cons, List.length_cons, Nat.succ_mul]; have := hV x.toNat; omega
set_option maxRecDepth 100000 in
set_option maxHeartbeats 2000000 in
theorem times_vis (v vS : Value) (a : GAuto) (xs : List GRule) (ls F : List Int) (j : Int) (w : World) (h : RideV w w.heap.size v a xs ls) (hF : Sl IntE w w.heap.size vS F) (hlt : ∀ k, k < F.length → 0 ≤ F.getD k 0 ∧ F.getD k 0 < a.next.length) (hFl : F.length ≤ 24) (ha : autoOk a = true) (hl : lens xs = some ls) (hn : xs.length ≤ 4194304) :
    Calls Try.prog 77 #[v, vS, .int .i64 j] w fun e w' => e = .returned (.int .i64 (timesV F (visOut a xs ls j) : Nat)) ∧ Below w.heap.size w w' := by
  have Hr := Lib.hid h
  have HF := Lib.hid hF
  have Ha := Lib.hid ha
  have Hl := Lib.hid hl
  have Hlt := Lib.hid hlt
  clear ha hl hlt
  obtain ⟨vF, vN, vR, vL, vM, rfl, h1, h2, h3, h4, h5⟩ := h
  obtain ⟨B0, e0, rfl, _⟩ := h1
  obtain ⟨B1', e1, rfl, _⟩ := h2
  obtain ⟨B2', e2, rfl, _⟩ := h3
  obtain ⟨B3, e3, rfl, _⟩ := h4
  obtain ⟨B4, e4, rfl, _⟩ := h5
  obtain ⟨AF, cF, rfl, _⟩ := hF
  go_enter Try.func77, Try.ntmps77
  go_wp2_with fail
  have ba := (Below.refl w.heap.size w).alloc (Nat.le_refl _) (Obj.cells #[.int .i64 a.states, .int .i64 a.start, .slice B0 a.finals.length e0, .slice B1' a.next.length e1, .slice B2' xs.length e2, .slice B3 ls.length e3, .slice B4 (mapsOf a.next xs).length e4] 68)
  refine (visits_any _ a xs ls j _ (Hr.out.up ba) Ha.out Hl.out hn).mono ?_
  rintro e w3 ⟨u, rfl, hu, hb3⟩
  have B3' := Lib.hid (ba.trans (hb3.mono ba.size))
  have HF3 := Lib.hid ((HF.out.up ba).up hb3)
  have hvl := visOut_word Ha.out (by have := autoOk_start Ha.out; omega) Hl.out (j := j) (pieces_mem Hl.out 0 j)
  have hVl : ((visOut a xs ls j).map Int.ofNat).length = a.next.length := by rw [List.length_map]; exact hvl.1
  have hVb := visOut_le Ha.out Hl.out j
  have HVb := Lib.hid hVb
  have HVl := Lib.hid hVl
  have HU := Lib.hid hu
  obtain ⟨V, hV⟩ : ∃ V, visOut a xs ls j = V := ⟨_, rfl⟩
  rw [hV] at HU HVl HVb hu
  have HV := Lib.hid hV
  obtain ⟨AU, cU, rfl, _⟩ := hu
  rw [HVl.out]
  clear hb3 ba hvl hVl hVb hV
  go_wp2_with fail
  go_loopw [7, 16] (fun s i wx => ∃ k : Nat, k ≤ F.length ∧ i = .int .i64 k ∧ s = .int .i64 (timesV (F.take k) V : Nat) ∧ wx = w3) (fun _ i _ => F.length - (intOf i).toNat)
  case atStart => exact ⟨0, Nat.zero_le _, rfl, rfl, rfl⟩
  case round =>
    obtain ⟨k, hk, rfl, rfl, rfl⟩ := hrel
    by_cases hlt : k < F.length
    · have i1 : (k : Int) < (F.length : Int) := by omega
      obtain ⟨x0, x1⟩ := Hlt.out k hlt
      obtain ⟨_, _, eF, _, _, hrF⟩ := HF3.out
      obtain ⟨bF, oF, qF, zF, gF⟩ := hrF.int hlt
      injection eF with eF _ ecF
      subst ecF
      rw [qF] at eF
      subst eF
      have dF := gF k hlt
      obtain ⟨x, hx⟩ := Int.eq_ofNat_of_zero_le x0
      rw [hx] at dF x1
      have hxS : x < a.next.length := by omega
      obtain ⟨_, _, eU, _, _, hrU⟩ := HU.out
      obtain ⟨bU, oU, qU, zU, gU⟩ := hrU.int (k := x) (by rw [HVl.out]; exact hxS)
      injection eU with eU _ ecU
      subst ecU
      rw [qU] at eU
      subst eU
      have dU := gU x (by rw [HVl.out]; exact hxS)
      rw [show (V.map Int.ofNat).getD x 0 = ((V.getD x 0 : Nat) : Int) by rw [List.getD_eq_getElem?_getD, List.getElem?_map, List.getD_eq_getElem?_getD]; cases V[x]? <;> rfl] at dU
      have i2 : (x : Int) < (a.next.length : Int) := x1
      have hs := timesV_succ F V hlt
      rw [hx, Int.toNat_natCast] at hs
      have h1 := timesV_le (F := F.take k) HVb.out
      have h2 := HVb.out x
      have h3 : (F.take k).length ≤ 24 := by rw [List.length_take]; omega
      have h4 : timesV (F.take k) V ≤ 24 * 1000000000000000 := Nat.le_trans h1 (Nat.mul_le_mul_right _ h3)
      have Hs := Lib.hid hs
      generalize timesV (F.take k) V = T at *
      generalize V.getD x 0 = Z at *
      have hw1 : IntKind.i64.wrap ((T : Int) + (Z : Int)) = (T : Int) + (Z : Int) := IntWalk.i64_in _ (by omega)
      clear gF gU hs h1 h2 h3 h4 x0 x1 hrF hrU qF qU hx
      go_wp2_with fail
      go_roundw
      case rel => exact ⟨k + 1, by omega, by go_num, by rw [Hs.out]; go_num, trivial⟩
      case measure => simp [intOf]; omega
    · have hkk : k = F.length := by omega
      subst hkk
      go_wp2_with fail
      go_ret
      exact ⟨ret_int (by rw [HV.out, List.take_length]), B3'.out⟩
def leastR (of : Nat → Nat) (c n : Nat) : Value := if of n < c then .tuple #[.int .i64 0, .bool false] else .tuple #[.int .i64 (leastB of c n 0 n : Nat), .bool true]
theorem fin_lt {a : GAuto} (ha : autoOk a = true) : ∀ k, k < a.finals.length → 0 ≤ a.finals.getD k 0 ∧ a.finals.getD k 0 < a.next.length := by
  have h3 := (autoOk_get ha).2.2.1
  unfold autoOk at ha
  simp only [Bool.and_eq_true] at ha
  have h1 := ha.1.2
  intro k hk
  unfold risesOk allB at h1
  rw [List.all_eq_true] at h1
  have h2 := h1 k (by simpa using hk)
  simp only [inR, Bool.and_eq_true, decide_eq_true_eq] at h2
  omega
theorem fin_rise {a : GAuto} (ha : autoOk a = true) : ∀ k, k + 1 < a.finals.length → a.finals.getD k 0 < a.finals.getD (k + 1) 0 := by
  unfold autoOk at ha
  simp only [Bool.and_eq_true] at ha
  have h1 := ha.1.2
  intro k hk
  unfold risesOk allB at h1
  rw [List.all_eq_true] at h1
  have h2 := h1 (k + 1) (by simpa using hk)
  simp only [Bool.and_eq_true, Bool.or_eq_true, decide_eq_true_eq] at h2
  rcases h2.2 with h | h
  · simp at h
  · simpa using h
theorem fin_few {a : GAuto} (ha : autoOk a = true) : a.finals.length ≤ 24 := by
  have h3 := (autoOk_get ha).2.2.1
  have h4 := (autoOk_get ha).2.1
  have h1 : ∀ k, k < a.finals.length → (k : Int) ≤ a.finals.getD k 0 := by
    intro k
    induction k with
    | zero => intro hk; exact (fin_lt ha 0 hk).1
    | succ k ih => intro hk; have := ih (by omega); have := fin_rise ha k hk; omega
  by_cases h0 : a.finals.length = 0
  · omega
  · have h5 := h1 (a.finals.length - 1) (by omega)
    have h6 := (fin_lt ha (a.finals.length - 1) (by omega)).2
    omega
def patC (p : ByteArray) : Int := if p.size = 0 then 4 else if 20 < p.size then 3 else 0
theorem patternCode_any (p : ByteArray) (w : World) (hp : p.size ≤ maxLen) : Calls Try.prog 74 #[.string p] w fun e w' => e = .returned (.int .i64 (patC p)) ∧ w = w' := by
  unfold maxLen at hp
  go_enter Try.func74, Try.ntmps74
  by_cases h0 : p.size = 0
  · have e : p = ⟨#[]⟩ := by
      apply ByteArray.ext
      exact Array.eq_empty_of_size_eq_zero h0
    subst e
    go_wp2
    go_ret
    exact ⟨rfl, rfl⟩
  · have hne2 : ¬ p.toList = [] := by
      rw [ByteArray.toList_eq]
      intro h
      apply h0
      show p.data.size = 0
      rw [← Array.length_toList, h]; rfl
    have hne3 : p.toList.isEmpty = false := by
      cases h : p.toList with
      | nil => exact absurd h hne2
      | cons => rfl
    clear hne2
    by_cases h2 : 20 < p.size
    · have h2I : (20 : Int) < (p.size : Int) := by omega
      go_wp2_with fail
      go_ret
      exact ⟨by rw [patC, if_neg h0, if_pos h2]; rfl, rfl⟩
    · have h2I : ¬ (20 : Int) < (p.size : Int) := by omega
      go_wp2_with fail
      go_ret
      exact ⟨by rw [patC, if_neg h0, if_neg h2]; rfl, rfl⟩
set_option maxRecDepth 100000 in
set_option maxHeartbeats 2000000 in
theorem rideEnds_any (v : Value) (a : GAuto) (xs : List GRule) (ls : List Int) (j : Int) (w : World) (h : RideV w w.heap.size v a xs ls) (ha : autoOk a = true) (hl : lens xs = some ls) (hn : xs.length ≤ 4194304) :
    Calls Try.prog 39 #[v, .int .i64 j] w fun e w' => e = .returned (.int .i64 (timesV a.finals (visOut a xs ls j) : Nat)) ∧ Below w.heap.size w w' := by
  have Hr := Lib.hid h
  have Ha := Lib.hid ha
  have Hl := Lib.hid hl
  have h24 : a.finals.length ≤ 24 := fin_few ha
  clear ha hl
  obtain ⟨vF, vN, vR, vL, vM, rfl, h1, h2, h3, h4, h5⟩ := h
  have HF2 := Lib.hid h1
  obtain ⟨B0, e0, rfl, _⟩ := h1
  obtain ⟨B1', e1, rfl, _⟩ := h2
  obtain ⟨B2', e2, rfl, _⟩ := h3
  obtain ⟨B3, e3, rfl, _⟩ := h4
  obtain ⟨B4, e4, rfl, _⟩ := h5
  go_enter Try.func39, Try.ntmps39
  go_wp2_with fail
  have ba := (Below.refl w.heap.size w).alloc (Nat.le_refl _) (Obj.cells #[.int .i64 a.states, .int .i64 a.start, .slice B0 a.finals.length e0, .slice B1' a.next.length e1, .slice B2' xs.length e2, .slice B3 ls.length e3, .slice B4 (mapsOf a.next xs).length e4] 68)
  refine (times_vis _ _ a xs ls a.finals j _ (Hr.out.up ba) (HF2.out.up ba) (fin_lt Ha.out) h24 Ha.out Hl.out hn).mono ?_
  rintro e w3 ⟨rfl, hb3⟩
  have B3' := Lib.hid (ba.trans (hb3.mono ba.size))
  clear ba hb3
  go_wp2_with fail
  go_ret
  exact ⟨rfl, B3'.out⟩
def RideS (w : World) (S : Nat → Prop) (v : Value) (a : GAuto) (xs : List GRule) (ls : List Int) : Prop :=
  ∃ vF vN vR vL vM, v = .agg #[.int .i64 a.states, .int .i64 a.start, vF, vN, vR, vL, vM] ∧ SlS IntE w S vF a.finals ∧ SlS (SliceE IntE) w S vN a.next ∧ SlS RuleE w S vR xs ∧ SlS IntE w S vL ls ∧ SlS (SliceE IntE) w S vM (mapsOf a.next xs)
theorem RideS.keep {w w' : World} {S : Nat → Prop} {v : Value} {a : GAuto} {xs : List GRule} {ls : List Int} (h : RideS w S v a xs ls) (hk : Keep S w w') : RideS w' S v a xs ls := by
  obtain ⟨vF, vN, vR, vL, vM, rfl, h1, h2, h3, h4, h5⟩ := h
  exact ⟨vF, vN, vR, vL, vM, rfl, h1.keep hk, h2.keep hk, h3.keep hk, h4.keep hk, h5.keep hk⟩
theorem RideS.more {w : World} {S S' : Nat → Prop} {v : Value} {a : GAuto} {xs : List GRule} {ls : List Int} (h : RideS w S v a xs ls) (hk : ∀ b, S b → S' b) : RideS w S' v a xs ls := by
  obtain ⟨vF, vN, vR, vL, vM, rfl, h1, h2, h3, h4, h5⟩ := h
  exact ⟨vF, vN, vR, vL, vM, rfl, h1.more hk, h2.more hk, h3.more hk, h4.more hk, h5.more hk⟩
theorem RideS.v {w : World} {B : Nat} {v : Value} {a : GAuto} {xs : List GRule} {ls : List Int} (h : RideS w (· < B) v a xs ls) : RideV w B v a xs ls := h
def RidePostS (S0 : Nat → Prop) (a : GAuto) (xs : List GRule) (w : World) (e : Ending) (w' : World) : Prop :=
  Below w.heap.size w w' ∧ ((∃ ls v, lens xs = some ls ∧ gramOk xs = true ∧ autoOk a = true ∧ e = .returned (.tuple #[v, .bool true]) ∧ RideS w' (fun b => S0 b ∨ (w.heap.size < b ∧ b < w'.heap.size)) v a xs ls) ∨
    ((autoOk a && gramOk xs) = false ∧ e = .returned (.tuple #[.agg #[.int .i64 0, .int .i64 0, .slice none 0 0, .slice none 0 0, .slice none 0 0, .slice none 0 0, .slice none 0 0], .bool false])))
set_option maxRecDepth 100000 in
set_option maxHeartbeats 4000000 in
theorem newRideS_any (S0 : Nat → Prop) (v vR : Value) (a : GAuto) (xs : List GRule) (w : World) (hAS : AutoS w S0 v a) (hRS : SlS RuleE w S0 vR xs) (hS : ∀ b, S0 b → b < w.heap.size) (hn : xs.length ≤ 1099511627776) :
    Calls Try.prog 75 #[v, .agg #[vR]] w (RidePostS S0 a xs w) := by
  have h : AutoV w w.heap.size v a := hAS.more hS
  have hR : Sl RuleE w w.heap.size vR xs := hRS.more hS
  have HAS := Lib.hid hAS
  have HRS := Lib.hid hRS
  have HS := Lib.hid hS
  clear hAS hRS hS
  have hB := fun o o' o'' => (((Below.refl w.heap.size w).alloc (Nat.le_refl _) o).alloc (by simp) o').alloc (by simp; omega) o''
  have HB := Lib.hid hB
  have HA := Lib.hid h
  have HR := Lib.hid hR
  clear hB
  obtain ⟨vF, vN, rfl, hF, hN⟩ := h
  have HF := Lib.hid hF
  have HN := Lib.hid hN
  obtain ⟨AF, cF, rfl, _⟩ := hF
  obtain ⟨AN, cN, rfl, _⟩ := hN
  obtain ⟨AR, cR, rfl, _⟩ := hR
  go_enter Try.func75, Try.ntmps75
  go_wp2_with fail
  refine (lengths_any _ xs _ ((HR.out.below (HB.out _ _ _)).le (by first | omega | (simp; done) | (simp; omega))) hn).mono ?_
  rintro e w1 ⟨hb1, hpost⟩
  have z1 : w.heap.size + 2 < w1.heap.size := Nat.lt_of_lt_of_le (by simp) hb1.size
  have z2 : w.heap.size + 1 + 1 < w1.heap.size := z1
  have z3 : w.heap.size + 1 < w1.heap.size := by omega
  have z4 : w.heap.size < w1.heap.size := by omega
  have x0 : w1.cell? ⟨w.heap.size, 0, none⟩ = some (.int .i64 a.states) := (hb1.cell (p := ⟨w.heap.size, 0, none⟩) (by simp; omega)).trans (by simp [go_sem])
  have x1 : w1.cell? ⟨w.heap.size, 1, none⟩ = some (.int .i64 a.start) := (hb1.cell (p := ⟨w.heap.size, 1, none⟩) (by simp; omega)).trans (by simp [go_sem])
  have x2 : w1.cell? ⟨w.heap.size, 2, none⟩ = some (.slice AF a.finals.length cF) := (hb1.cell (p := ⟨w.heap.size, 2, none⟩) (by simp; omega)).trans (by simp [go_sem])
  have x3 : w1.cell? ⟨w.heap.size, 3, none⟩ = some (.slice AN a.next.length cN) := (hb1.cell (p := ⟨w.heap.size, 3, none⟩) (by simp; omega)).trans (by simp [go_sem])
  have y0 : w1.cell? ⟨w.heap.size + 1, 0, none⟩ = some (.slice AR xs.length cR) := (hb1.cell (p := ⟨w.heap.size + 1, 0, none⟩) (by simp)).trans (by simp [go_sem])
  obtain ⟨hc1, hf1⟩ := bcell hb1
  have rz : ∀ j, j < 7 → ∃ u, w1.cell? ⟨w.heap.size + 1 + 1, j, none⟩ = some u := fun j hj => by
    rw [hc1 _ _ (by simp)]
    match j, hj with
    | 0, _ => exact ⟨.int .i64 0, by simp [go_sem]⟩
    | 1, _ => exact ⟨.int .i64 0, by simp [go_sem]⟩
    | 2, _ => exact ⟨.slice none 0 0, by simp [go_sem]⟩
    | 3, _ => exact ⟨.slice none 0 0, by simp [go_sem]⟩
    | 4, _ => exact ⟨.slice none 0 0, by simp [go_sem]⟩
    | 5, _ => exact ⟨.slice none 0 0, by simp [go_sem]⟩
    | 6, _ => exact ⟨.slice none 0 0, by simp [go_sem]⟩
  have fz : ∀ j, w1.frozen? ⟨w.heap.size + 1 + 1, j, none⟩ = false := fun j => by rw [hf1 _ _ (by simp)]; simp [go_sem]
  have HA1 := Lib.hid ((HA.out.below ((HB.out _ _ _).trans (hb1.mono (by simp; omega)))).le (B' := w1.heap.size) (by omega))
  have HR1 := Lib.hid ((HR.out.below ((HB.out _ _ _).trans (hb1.mono (by simp; omega)))).le (B' := w1.heap.size) (by omega))
  have B1 := Lib.hid ((HB.out _ _ _).trans (hb1.mono (by simp; omega)))
  have RZ := Lib.hid rz
  have FZ := Lib.hid fz
  clear hb1 hc1 hf1 rz fz
  rcases hpost with ⟨ls, vL, hl, rfl, hown⟩ | ⟨hl, rfl⟩
  · by_cases h4 : xs.length ≤ 400
    · have g4 : decide (xs.length ≤ 400) = true := by simpa using h4
      have H4 := Lib.hid h4
      have Hl := Lib.hid hl
      have Hgr : Hid (gramOk xs = true) := by simp [Hid, gramOk, hl, h4]
      have Hown := Lib.hid hown
      obtain ⟨AL, cL, rfl, _⟩ := own_nil hown
      clear hl hown
      go_wp2_with fail
      refine (ValidAuto_any _ a _ HA1.out).mono ?_
      rintro e w2 ⟨rfl, hb2⟩
      have u0 := (hb2.cell (p := ⟨w.heap.size, 0, none⟩) z4).trans x0
      have u1 := (hb2.cell (p := ⟨w.heap.size, 1, none⟩) z4).trans x1
      have u2 := (hb2.cell (p := ⟨w.heap.size, 2, none⟩) z4).trans x2
      have u3 := (hb2.cell (p := ⟨w.heap.size, 3, none⟩) z4).trans x3
      have t0 := (hb2.cell (p := ⟨w.heap.size + 1, 0, none⟩) z3).trans y0
      have q4 : w.heap.size < w2.heap.size := by have := hb2.size; omega
      have q3 : w.heap.size + 1 < w2.heap.size := by have := hb2.size; omega
      have q2 : w.heap.size + 1 + 1 < w2.heap.size := by have := hb2.size; omega
      have RZ2 := Lib.hid (fun j (hj : j < 7) => (RZ.out j hj).imp fun u hu => (hb2.cell (p := ⟨w.heap.size + 1 + 1, j, none⟩) z2).trans hu)
      have FZ2 := Lib.hid (fun j => (hb2.frozen (p := ⟨w.heap.size + 1 + 1, j, none⟩) z2).trans (FZ.out j))
      have HA2 := Lib.hid (HA1.out.up hb2)
      have HR2 := Lib.hid (HR1.out.up hb2)
      have HN2 : Hid (Sl (SliceE IntE) w2 w2.heap.size (.slice AN a.next.length cN) a.next) := by
        obtain ⟨vF', vN', hv', hF', hN'⟩ := HA2.out
        injection hv' with hv'
        simp at hv'
        obtain ⟨_, rfl⟩ := hv'
        exact hN'
      have B2 := Lib.hid (B1.out.trans (hb2.mono (by omega)))
      have Hown2 := Lib.hid (ownsRow_below Hown.out hb2)
      clear hb2 x0 x1 x2 x3 y0
      by_cases c1 : autoOk a = true
      · have C1 := Lib.hid c1
        have g1 : (!autoOk a) = false := by simp [c1]
        clear c1
        go_wp2_with fail
        have e1 : w.heap.size + 1 + 1 ≤ w2.heap.size := by omega
        have e2 : w.heap.size < w.heap.size + 1 + 1 := by omega
        have e3 : w.heap.size + 1 < w.heap.size + 1 + 1 := by omega
        have e4 : w.heap.size + 1 + 1 ≤ w.heap.size + 1 + 1 := by omega
        go_region_held3 (fun w' => Below (w.heap.size + 1 + 1) w2 w' ∧ w'.cell? ⟨w.heap.size, 0, none⟩ = some (.int .i64 a.states) ∧ w'.cell? ⟨w.heap.size, 1, none⟩ = some (.int .i64 a.start) ∧ w'.cell? ⟨w.heap.size, 2, none⟩ = some (.slice AF a.finals.length cF) ∧ w'.cell? ⟨w.heap.size, 3, none⟩ = some (.slice AN a.next.length cN) ∧ w'.cell? ⟨w.heap.size + 1, 0, none⟩ = some (.slice AR xs.length cR))
          (first | (with_reducible exact keepRD u0 u1 u2 u3 t0) | (with_reducible exact keepR (keepRD u0 u1 u2 u3 t0) hb3 e1 e2 e3) | (with_reducible exact keepRS (keepRS (keepRS (keepRS (keepRS (keepRS (keepRS (keepR (keepRD u0 u1 u2 u3 t0) hb3 e1 e2 e3) e4 e2 e3) e4 e2 e3) e4 e2 e3) e4 e2 e3) e4 e2 e3) e4 e2 e3) e4 e2 e3))
          (first
            | (go_at_call 99; refine (stateMaps_any _ _ a xs ls _ (HN2.out.up (Below.drew (Below.refl _ _))) (HR2.out.up (Below.drew (Below.refl _ _))) C1.out Hl.out hn).mono ?_; rintro e w3 ⟨vM, rfl, hM, hb3⟩; have HM := Lib.hid hM; obtain ⟨AM, cM, rfl, _⟩ := hM; have b3 : Below w2.heap.size w2 w3 := (Below.drew (Below.refl _ _)).trans hb3; have hfz := (fun j => (b3.frozen (p := ⟨w.heap.size + 1 + 1, j, none⟩) q2).trans (FZ2.out j)); have hz3 : w.heap.size + 1 + 1 < w3.heap.size := Nat.lt_of_lt_of_le q2 b3.size; obtain ⟨l0, k0⟩ := RZ2.out 0 (by omega); obtain ⟨l1, k1⟩ := RZ2.out 1 (by omega); obtain ⟨l2, k2⟩ := RZ2.out 2 (by omega); obtain ⟨l3, k3⟩ := RZ2.out 3 (by omega); obtain ⟨l4, k4⟩ := RZ2.out 4 (by omega); obtain ⟨l5, k5⟩ := RZ2.out 5 (by omega); obtain ⟨l6, k6⟩ := RZ2.out 6 (by omega); have m0 := (b3.cell (p := ⟨w.heap.size + 1 + 1, 0, none⟩) q2).trans k0; have m1 := (b3.cell (p := ⟨w.heap.size + 1 + 1, 1, none⟩) q2).trans k1; have m2 := (b3.cell (p := ⟨w.heap.size + 1 + 1, 2, none⟩) q2).trans k2; have m3 := (b3.cell (p := ⟨w.heap.size + 1 + 1, 3, none⟩) q2).trans k3; have m4 := (b3.cell (p := ⟨w.heap.size + 1 + 1, 4, none⟩) q2).trans k4; have m5 := (b3.cell (p := ⟨w.heap.size + 1 + 1, 5, none⟩) q2).trans k5; have m6 := (b3.cell (p := ⟨w.heap.size + 1 + 1, 6, none⟩) q2).trans k6))
        have B3 := Lib.hid b3
        have hz23 : w.heap.size + 3 ≤ w2.heap.size := by omega
        clear u0 u1 u2 u3 t0 b3 hb3 k0 k1 k2 k3 k4 k5 k6
        go_wp2_with fail
        refine bodyPost_ret (v := .tuple #[.agg #[.int .i64 a.states, .int .i64 a.start, .slice AF a.finals.length cF, .slice AN a.next.length cN, .slice AR xs.length cR, .slice AL ls.length cL, .slice AM (mapsOf a.next xs).length cM], .bool true]) (by simp [results, Try.results75, go_sem, m0, m1, m2, m3, m4, m5, m6]) rfl ?_
        have hW : Below w.heap.size w (((((((w3.setCell ⟨w.heap.size + 1 + 1, 0, none⟩ (.int .i64 a.states)).setCell ⟨w.heap.size + 1 + 1, 1, none⟩ (.int .i64 a.start)).setCell ⟨w.heap.size + 1 + 1, 2, none⟩ (.slice AF a.finals.length cF)).setCell ⟨w.heap.size + 1 + 1, 3, none⟩ (.slice AN a.next.length cN)).setCell ⟨w.heap.size + 1 + 1, 4, none⟩ (.slice AR xs.length cR)).setCell ⟨w.heap.size + 1 + 1, 5, none⟩ (.slice AL ls.length cL)).setCell ⟨w.heap.size + 1 + 1, 6, none⟩ (.slice AM (mapsOf a.next xs).length cM)) := by
          have h1 := B2.out.trans (B3.out.mono (by omega))
          have hle : w.heap.size ≤ w.heap.size + 1 + 1 := by omega
          exact ((((((h1.setCell hle _).setCell hle _).setCell hle _).setCell hle _).setCell hle _).setCell hle _).setCell hle _
        have hKp := (Keep.of_below hW).mono HS.out
        have hFS : SlS IntE w S0 (.slice AF a.finals.length cF) a.finals ∧ SlS (SliceE IntE) w S0 (.slice AN a.next.length cN) a.next := by
          obtain ⟨vF', vN', e, q1, q2⟩ := HAS.out
          injection e with e
          simp at e
          obtain ⟨rfl, rfl⟩ := e
          exact ⟨q1, q2⟩
        refine ⟨hW, .inl ⟨ls, _, Hl.out, Hgr.out, C1.out, rfl, _, _, _, _, _, rfl, (hFS.1.keep hKp).more fun _ h => Or.inl h, (hFS.2.keep hKp).more fun _ h => Or.inl h, (HRS.out.keep hKp).more fun _ h => Or.inl h, ?_, ?_⟩⟩
        · have h1 : SlS IntE w2 (fun b => w.heap.size + 3 ≤ b ∧ b < w2.heap.size) (.slice AL ls.length cL) ls := OwnInts.slS Hown2.out fun g hg => by have := World.ownsRow.lt Hown2.out g hg; simp at this; omega
          have h2 := (h1.keep ((Keep.of_below B3.out).mono fun b h => h.2)).more (S' := fun b => w.heap.size + 3 ≤ b ∧ b < w3.heap.size) fun b h => ⟨h.1, Nat.lt_of_lt_of_le h.2 B3.out.size⟩
          exact (((((((h2.keep (Keep.of_set2 (by omega) _)).keep (Keep.of_set2 (by omega) _)).keep (Keep.of_set2 (by omega) _)).keep (Keep.of_set2 (by omega) _)).keep (Keep.of_set2 (by omega) _)).keep (Keep.of_set2 (by omega) _)).keep (Keep.of_set2 (by omega) _)).more fun b h => Or.inr ⟨by omega, by simp [World.setCell]; exact h.2⟩
        · have h2 := HM.out.more (S' := fun b => w.heap.size + 3 ≤ b ∧ b < w3.heap.size) fun b h => ⟨Nat.le_trans hz23 h.1, h.2⟩
          exact (((((((h2.keep (Keep.of_set2 (by omega) _)).keep (Keep.of_set2 (by omega) _)).keep (Keep.of_set2 (by omega) _)).keep (Keep.of_set2 (by omega) _)).keep (Keep.of_set2 (by omega) _)).keep (Keep.of_set2 (by omega) _)).keep (Keep.of_set2 (by omega) _)).more fun b h => Or.inr ⟨by omega, by simp [World.setCell]; exact h.2⟩
      · have c1' : autoOk a = false := by simpa using c1
        have C1 := Lib.hid c1'
        have g1 : (!autoOk a) = true := by simp [c1]
        have hno : (autoOk a && gramOk xs) = false := by simp [c1']
        have Hno := Lib.hid hno
        clear c1 c1' hno
        obtain ⟨l0, m0⟩ := RZ2.out 0 (by omega)
        obtain ⟨l1, m1⟩ := RZ2.out 1 (by omega)
        obtain ⟨l2, m2⟩ := RZ2.out 2 (by omega)
        obtain ⟨l3, m3⟩ := RZ2.out 3 (by omega)
        obtain ⟨l4, m4⟩ := RZ2.out 4 (by omega)
        obtain ⟨l5, m5⟩ := RZ2.out 5 (by omega)
        obtain ⟨l6, m6⟩ := RZ2.out 6 (by omega)
        have hfz := FZ2.out
        go_wp2_with fail
        refine bodyPost_ret (v := .tuple #[.agg #[.int .i64 0, .int .i64 0, .slice none 0 0, .slice none 0 0, .slice none 0 0, .slice none 0 0, .slice none 0 0], .bool false]) (by simp [results, Try.results75, go_sem, m0, m1, m2, m3, m4, m5, m6]) rfl ⟨?_, .inr ⟨Hno.out, rfl⟩⟩
        have hle : w.heap.size ≤ w.heap.size + 1 + 1 := by omega
        exact ((((((B2.out.setCell hle _).setCell hle _).setCell hle _).setCell hle _).setCell hle _).setCell hle _).setCell hle _
    · have g4 : decide (xs.length ≤ 400) = false := by simpa using h4
      have hno : (autoOk a && gramOk xs) = false := by simp [gramOk, h4]
      have Hno := Lib.hid hno
      obtain ⟨AL, cL, rfl, _⟩ := own_nil hown
      clear hl hown hno
      obtain ⟨l0, m0⟩ := RZ.out 0 (by omega)
      obtain ⟨l1, m1⟩ := RZ.out 1 (by omega)
      obtain ⟨l2, m2⟩ := RZ.out 2 (by omega)
      obtain ⟨l3, m3⟩ := RZ.out 3 (by omega)
      obtain ⟨l4, m4⟩ := RZ.out 4 (by omega)
      obtain ⟨l5, m5⟩ := RZ.out 5 (by omega)
      obtain ⟨l6, m6⟩ := RZ.out 6 (by omega)
      have hfz := FZ.out
      go_wp2_with fail
      refine bodyPost_ret (v := .tuple #[.agg #[.int .i64 0, .int .i64 0, .slice none 0 0, .slice none 0 0, .slice none 0 0, .slice none 0 0, .slice none 0 0], .bool false]) (by simp [results, Try.results75, go_sem, m0, m1, m2, m3, m4, m5, m6]) rfl ⟨?_, .inr ⟨Hno.out, rfl⟩⟩
      have hle : w.heap.size ≤ w.heap.size + 1 + 1 := by omega
      exact ((((((B1.out.setCell hle _).setCell hle _).setCell hle _).setCell hle _).setCell hle _).setCell hle _).setCell hle _
  · have hno : (autoOk a && gramOk xs) = false := by simp [gramOk, hl]
    have Hno := Lib.hid hno
    clear hl hno
    obtain ⟨l0, m0⟩ := RZ.out 0 (by omega)
    obtain ⟨l1, m1⟩ := RZ.out 1 (by omega)
    obtain ⟨l2, m2⟩ := RZ.out 2 (by omega)
    obtain ⟨l3, m3⟩ := RZ.out 3 (by omega)
    obtain ⟨l4, m4⟩ := RZ.out 4 (by omega)
    obtain ⟨l5, m5⟩ := RZ.out 5 (by omega)
    obtain ⟨l6, m6⟩ := RZ.out 6 (by omega)
    have hfz := FZ.out
    go_wp2_with fail
    refine bodyPost_ret (v := .tuple #[.agg #[.int .i64 0, .int .i64 0, .slice none 0 0, .slice none 0 0, .slice none 0 0, .slice none 0 0, .slice none 0 0], .bool false]) (by simp [results, Try.results75, go_sem, m0, m1, m2, m3, m4, m5, m6]) rfl ⟨?_, .inr ⟨Hno.out, rfl⟩⟩
    have hle : w.heap.size ≤ w.heap.size + 1 + 1 := by omega
    exact ((((((B1.out.setCell hle _).setCell hle _).setCell hle _).setCell hle _).setCell hle _).setCell hle _).setCell hle _
end Go.Proofs.Ytfkijaamfmpboaa
