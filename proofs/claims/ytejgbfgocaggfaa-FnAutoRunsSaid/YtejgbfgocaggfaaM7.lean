import Derived.Test.YtejgbfgocaggfaaM6
import Derived.Test.YtejgbfgocaggfaaM5
import Derived.Deep.DeepCutAuto
import Derived.Deep.CutBlock
import Derived.Test.YtejgbfgocaggfaaM2
import Derived.Test.YtejgbfgocaggfaaM3
namespace Go.Proofs.Ytejgbfgocaggfaa
open Go.RowKit
theorem Src.keepB {w w' : World} {b N B : Nat} (h : Src w b N) (hb : Below B w w') (hB : b < B) : Src w' b N := by
  have hlt := h.lt
  obtain ⟨AC, l, cC, a, d, h, h1, h2, h3⟩ := h
  exact ⟨AC, l, cC, a, d, (hb.block b hB).trans h, h1, h2, h3.below (hb.mono (Nat.le_of_lt hB))⟩
theorem But.up {b B : Nat} {w w1 w2 : World} (h : But b w w1) (hb : Below B w1 w2) (hB : w.heap.size ≤ B) : But b w w2 :=
  ⟨hb.os.trans h.os, hb.tape.trans h.tape, hb.output.trans h.output, Nat.le_trans h.size hb.size, fun k hk hne => (hb.block k (Nat.lt_of_lt_of_le hk hB)).trans (h.block k hk hne)⟩
theorem Boxed.but {b B : Nat} {w w' : World} {t : TypeId} {v : Value} (h : Boxed w B t v) (hb : But b w w') (hne : B ≠ b) : Boxed w' B t v := (hb.block B (Array.getElem?_eq_some_iff.1 h).1 hne).trans h
theorem OwnRules.but {b base : Nat} {w w' : World} {v : Value} {l : List GRule} (h : OwnRules w base v l) (hb : But b w w') (hne : b < base) : OwnRules w' base v l := by
  unfold OwnRules at *
  obtain ⟨h1, h2⟩ := h
  refine ⟨h1, ?_⟩
  rcases h2 with h2 | ⟨g, cap, cur, h3, h4, h5, r⟩
  · exact .inl h2
  · exact .inr ⟨g, cap, cur, h3, h4, (hb.block g (Array.getElem?_eq_some_iff.1 h5).1 (by omega)).trans h5, r⟩
def letG (k : Nat) : List GRule := (List.range k).map fun j => ⟨⟨#[UInt8.ofNat (97 + j)]⟩, 0, 0⟩
theorem letG_len (k : Nat) : (letG k).length = k := by simp [letG]
theorem letG_succ (k : Nat) : letG (k + 1) = letG k ++ [⟨⟨#[UInt8.ofNat (97 + k)]⟩, 0, 0⟩] := by simp [letG, List.range_succ]
def DrawnOk (most : Int) (xs : List GRule) : Prop := gramOk xs = true ∧ 0 < xs.length ∧ (1 ≤ most → gramLen xs ≤ most) ∧ SmallL xs
def DrawnPost (b N : Nat) (most : Int) (w : World) (r : Ending) (w' : World) : Prop :=
  ∃ v xs, r = .returned (.agg #[v]) ∧ SlS RuleE w' (fun k => w.heap.size ≤ k ∧ k < w'.heap.size) v xs ∧ DrawnOk most xs ∧ xs.length ≤ 14 ∧ Src w' b (N + 200) ∧ But b w w'
theorem letG_own {w : World} {base : Nat} {A : Option Addr} {n c k : Nat} {t : ByteArray} (own : OwnRules w base (.slice A (letG k ++ ([⟨t, 0, 0⟩] : List GRule)).length c) (letG k ++ [⟨t, 0, 0⟩])) (ht : t = ⟨#[UInt8.ofNat (97 + k)]⟩) (hn : n = (letG k).length + 1 := by rfl) : OwnRules w base (.slice A n c) (letG (k + 1)) := by
  subst ht; subst hn
  rw [letG_succ]
  have e : (letG k ++ [(⟨⟨#[UInt8.ofNat (97 + k)]⟩, 0, 0⟩ : GRule)]).length = (letG k).length + 1 := by simp
  rw [← e]; exact own
theorem letG_ok (most : Int) (x : Nat) (hx : x ≤ 2) : DrawnOk most (letG (x + 1)) := by
  have h3 : x = 0 ∨ x = 1 ∨ x = 2 := by omega
  rcases h3 with rfl | rfl | rfl
  · refine ⟨by decide, by decide, fun h => ?_, ?_⟩
    · rw [show gramLen (letG (0 + 1)) = 1 by decide]; exact h
    · intro r hr; simp [letG, List.range_succ] at hr; subst hr; decide
  · refine ⟨by decide, by decide, fun h => ?_, ?_⟩
    · rw [show gramLen (letG (1 + 1)) = 1 by decide]; exact h
    · intro r hr; simp [letG, List.range_succ] at hr; rcases hr with rfl | rfl <;> decide
  · refine ⟨by decide, by decide, fun h => ?_, ?_⟩
    · rw [show gramLen (letG (2 + 1)) = 1 by decide]; exact h
    · intro r hr; simp [letG, List.range_succ] at hr; rcases hr with rfl | rfl | rfl <;> decide
structure DrSt (w : World) (b M : Nat) (wx : World) (v : Value) (xs : List GRule) : Prop where
  src : Src wx b M
  but : But b w wx
  b0 : Boxed wx w.heap.size 31 (.slice none 0 0)
  b1 : Boxed wx (w.heap.size + 1) 31 v
  own : OwnRules wx (w.heap.size + 2) v xs
theorem DrSt.pick {w wx w' : World} {b M M' : Nat} {v : Value} {xs : List GRule} (h : DrSt w b M wx v xs) (hb : But b wx w') (hs : Src w' b M') (hlt : b < w.heap.size) : DrSt w b M' w' v xs :=
  ⟨hs, h.but.trans hb, Boxed.but h.b0 hb (by omega), Boxed.but h.b1 hb (by omega), h.own.but hb (by omega)⟩
theorem DrSt.up {w wx w' : World} {b M : Nat} {v : Value} {xs : List GRule} (h : DrSt w b M wx v xs) (hb : Below wx.heap.size wx w') : DrSt w b M w' v xs :=
  ⟨h.src.keep hb, h.but.trans (But.of hb), Boxed.up h.b0 hb (Array.getElem?_eq_some_iff.1 h.b0).1, Boxed.up h.b1 hb (Array.getElem?_eq_some_iff.1 h.b1).1, h.own.below hb⟩
theorem DrSt.lt {w wx : World} {b M : Nat} {v : Value} {xs : List GRule} (h : DrSt w b M wx v xs) : w.heap.size + 1 < wx.heap.size := (Array.getElem?_eq_some_iff.1 h.b1).1
theorem DrSt.put {w wx w' : World} {b M : Nat} {v v' : Value} {xs ys : List GRule} (h : DrSt w b M wx v xs) (hlt : b < w.heap.size) (hb : Below (w.heap.size + 2) wx w') (own : OwnRules w' (w.heap.size + 2) v' ys) : DrSt w b M (w'.setCell ⟨w.heap.size + 1, 0, none⟩ v') v' ys := by
  have h0 : Boxed w' w.heap.size 31 (.slice none 0 0) := Boxed.up h.b0 hb (by omega)
  have h1 : Boxed w' (w.heap.size + 1) 31 v := Boxed.up h.b1 hb (by omega)
  have hb2 : Below (w.heap.size + 1) wx (w'.setCell ⟨w.heap.size + 1, 0, none⟩ v') := (hb.mono (Nat.le_succ _)).setCell (p := ⟨w.heap.size + 1, 0, none⟩) (Nat.le_refl _) _
  exact ⟨h.src.keepB hb2 (by omega), h.but.up hb2 (by omega), Boxed.up h.b0 hb2 (by omega), Boxed.set _ h1, ownsRow_setCell_other (a := ⟨w.heap.size + 1, 0, none⟩) own (Boxed.not_row h1 (by decide) own).symm _⟩
theorem heap_new' {w : World} {o : Obj} {k : Nat} (hk : k = w.heap.size) : (w.alloc o).heap[k]? = some o := by subst hk; exact heap_alloc_new w o
theorem heap_newD {w : World} {o : Obj} {k : Nat} (hk : k = w.heap.size) : (w.alloc o).drew.heap[k]? = some o := by subst hk; exact heap_alloc_new w o
theorem heap_drew {w : World} {o' : Obj} {k : Nat} (h : w.heap[k]? = some o') : w.drew.heap[k]? = some o' := h
theorem heap_up {w : World} {o o' : Obj} {k : Nat} (h : w.heap[k]? = some o') : (w.alloc o).heap[k]? = some o' := by
  have := (Array.getElem?_eq_some_iff.1 h).1
  rw [← h]; simp only [World.alloc]; rw [Array.getElem?_push_lt this, Array.getElem?_eq_getElem this]
theorem grown_at {w w' : World} {row : Option Nat} {k : Nat} {o : Obj} (hg : w.grownBy w' row) (h : w.heap[k]? = some o) (hne : some k ≠ row) : w'.heap[k]? = some o :=
  (Keep.of_grown hg k ⟨(Array.getElem?_eq_some_iff.1 h).1, hne⟩).trans h
theorem one_sl {w : World} {N : Nat} {t : ByteArray} {p q : Int} (h : w.heap[N]? = some (.cells #[.string t, .int .i64 p, .int .i64 q] 138 (0, 0))) : SlS RuleE w (fun _ => True) (.slice (some ⟨N, 0, none⟩) 1 1) [⟨t, p, q⟩] := by
  refine ⟨_, 1, rfl, Nat.le_refl _, by simp [maxLen], fun _ => ⟨N, 0, rfl, trivial, fun k r hk => ⟨r.cells, rfl, fun j u hu => ?_⟩⟩⟩
  have hk0 : k = 0 := by
    have := (List.getElem?_eq_some_iff.1 hk).1
    simp at this; exact this
  subst hk0
  simp at hk
  subst hk
  have hc := Lib.cell_of_heap h (0 + (0 * RuleE.size + j))
  rw [hc]
  simpa [GRule.cells] using hu
structure Boxed3 (w : World) (R : Nat) (t : ByteArray) (p q : Nat) : Prop where
  box : w.heap[R]? = some (.cells #[.string t, .int .i64 (p : Int), .int .i64 (q : Int)] 138 (0, 0))
theorem Boxed3.new (w : World) (t : ByteArray) (p q : Nat) : Boxed3 (w.alloc (.cells #[.string t, .int .i64 (p : Int), .int .i64 (q : Int)] 138)) w.heap.size t p q := ⟨heap_alloc_new w _⟩
theorem Boxed3.but {w w' : World} {R b : Nat} {t : ByteArray} {p q : Nat} (h : Boxed3 w R t p q) (hb : But b w w') (hne : R ≠ b) : Boxed3 w' R t p q := ⟨(hb.block R (Array.getElem?_eq_some_iff.1 h.box).1 hne).trans h.box⟩
theorem Boxed3.up {w w' : World} {R B : Nat} {t : ByteArray} {p q : Nat} (h : Boxed3 w R t p q) (hb : Below B w w') (hlt : R < B) : Boxed3 w' R t p q := ⟨(hb.block R hlt).trans h.box⟩
theorem Boxed3.c0 {w : World} {R : Nat} {t : ByteArray} {p q : Nat} (h : Boxed3 w R t p q) : w.cell? ⟨R, 0, none⟩ = some (.string t) := by rw [Lib.cell_of_heap h.box]; rfl
theorem Boxed3.c1 {w : World} {R : Nat} {t : ByteArray} {p q : Nat} (h : Boxed3 w R t p q) : w.cell? ⟨R, 1, none⟩ = some (.int .i64 (p : Int)) := by rw [Lib.cell_of_heap h.box]; rfl
theorem Boxed3.c2 {w : World} {R : Nat} {t : ByteArray} {p q : Nat} (h : Boxed3 w R t p q) : w.cell? ⟨R, 2, none⟩ = some (.int .i64 (q : Int)) := by rw [Lib.cell_of_heap h.box]; rfl
theorem Boxed3.f1 {w : World} {R : Nat} {t : ByteArray} {p q : Nat} (h : Boxed3 w R t p q) : w.frozen? ⟨R, 1, none⟩ = false := Lib.frozen_of_heap h.box 1
theorem Boxed3.f2 {w : World} {R : Nat} {t : ByteArray} {p q : Nat} (h : Boxed3 w R t p q) : w.frozen? ⟨R, 2, none⟩ = false := Lib.frozen_of_heap h.box 2
theorem Boxed3.set1 {w : World} {R : Nat} {t : ByteArray} {p q : Nat} (h : Boxed3 w R t p q) (n : Nat) : Boxed3 (w.setCell ⟨R, 1, none⟩ (.int .i64 (n : Int))) R t n q := ⟨by simp [World.setCell, Array.getElem?_modify, h.box]⟩
theorem Boxed3.set2 {w : World} {R : Nat} {t : ByteArray} {p q : Nat} (h : Boxed3 w R t p q) (n : Nat) : Boxed3 (w.setCell ⟨R, 2, none⟩ (.int .i64 (n : Int))) R t p n := ⟨by simp [World.setCell, Array.getElem?_modify, h.box]⟩
theorem keepDr {wc W : World} {p R : Nat} {v u0 u1 u2 : Value} (c : wc.cell? ⟨p, 0, none⟩ = some v) (hp : p < wc.heap.size) (r0 : wc.cell? ⟨R, 0, none⟩ = some u0) (r1 : wc.cell? ⟨R, 1, none⟩ = some u1) (r2 : wc.cell? ⟨R, 2, none⟩ = some u2) (hR : R < wc.heap.size) (h : Below wc.heap.size wc W) :
    Below wc.heap.size wc W ∧ W.cell? ⟨p, 0, none⟩ = some v ∧ W.cell? ⟨R, 0, none⟩ = some u0 ∧ W.cell? ⟨R, 1, none⟩ = some u1 ∧ W.cell? ⟨R, 2, none⟩ = some u2 := ⟨h, (h.cell hp).trans c, (h.cell hR).trans r0, (h.cell hR).trans r1, (h.cell hR).trans r2⟩
theorem DrSt.far {w wx : World} {b M R o : Nat} {v : Value} {xs : List GRule} (h : DrSt w b M wx v xs) (hlt : b < w.heap.size) (hR : w.heap.size + 2 ≤ R) (hne : ∀ g, v.ownBlock = some g → g ≠ R) (u : Value) : DrSt w b M (wx.setCell ⟨R, o, none⟩ u) v xs := by
  have hb : Below R wx (wx.setCell ⟨R, o, none⟩ u) := (Below.refl _ _).setCell (p := ⟨R, o, none⟩) (Nat.le_refl _) _
  refine ⟨h.src.keepB hb (by omega), h.but.up hb (by omega), Boxed.up h.b0 hb (by omega), Boxed.up h.b1 hb (by omega), ?_⟩
  exact ownsRow_setCell_other (a := ⟨R, o, none⟩) h.own (fun e => hne _ e rfl) _
theorem hkk {w w9 : World} {k g : Nat} {o : Obj} (hk : ∀ k o, w.heap[k]? = some o → k ≠ g → w9.heap[k]? = some o) (hne : k ≠ g) (h : w.heap[k]? = some o) : w9.heap[k]? = some o := hk k o h hne
theorem withL {P A B : Prop} (h : A → B) (ha : A) (k : B → P) : P := k (h ha)
theorem step_app0 {W : World} {ops : Array Oper} {o : Oper} {a : Act} {K : Act → World → Prop} {Q : Exit → Act → World → Prop} {E : Prop} (hgd : o.guard = none) (s x : Operand)
    (ho : o.op = .call { callee := .builtin .append, args := #[s, x], argTypes := #[29, 29] }) {ys : List GRule} {base g c2 : Nat} {A2 : Option Addr} {S : Nat → Prop}
    (hs : a.eval s = .slice (some ⟨g, 0, none⟩) 0 0) (hx : a.eval x = .slice A2 ys.length c2) (hg : W.heap[g]? = some (.cells #[] 138 (0, 0))) (hb : base ≤ g) (hsl : SlS RuleE W S (.slice A2 ys.length c2) ys) (hlen : ys.length ≤ 1099511627776)
    (h : ∀ A9 c9 w9, OwnRules w9 base (.slice A9 ys.length c9) ys → (∀ k o, W.heap[k]? = some o → k ≠ g → w9.heap[k]? = some o) → Below base W w9 → K (a.put o.dst (.slice A9 ys.length c9)) w9) :
    if Region.wanted o (yielded ops a.tmps) = true then Oper.wp Try.prog o a W K Q else E := by
  refine step_append_rules hgd s x ho (base := base) (l := []) hs hx ⟨rfl, .inr ⟨g, 0, #[], rfl, hb, hg, Nat.le_refl _, Nat.zero_le _, rfl, rfl⟩⟩ hsl (by simpa using hlen) (by have := (Array.getElem?_eq_some_iff.1 hg).1; omega) ?_
  intro v' w' own hgr hbl
  obtain ⟨A9, c9, rfl, _⟩ := own_nil own
  exact h A9 c9 w' own (fun k o hk hne => grown_at hgr hk (by simpa [Value.ownBlock] using hne)) hbl
theorem step_app1 {W : World} {ops : Array Oper} {o : Oper} {a : Act} {K : Act → World → Prop} {Q : Exit → Act → World → Prop} {E : Prop} (hgd : o.guard = none) (s x : Operand)
    (ho : o.op = .call { callee := .builtin .append, args := #[s, x], argTypes := #[29, 29] }) {l : List GRule} {t : ByteArray} {p q : Int} {base B c9 : Nat} {A9 : Option Addr}
    (hs : a.eval s = .slice A9 l.length c9) (hx : a.eval x = .slice (some ⟨B, 0, none⟩) 1 1) (hown : OwnRules W base (.slice A9 l.length c9) l) (hB : W.heap[B]? = some (.cells #[.string t, .int .i64 p, .int .i64 q] 138 (0, 0))) (hlen : l.length ≤ 1099511627775) (hbase : base ≤ W.heap.size)
    (h : ∀ A10 c10 w10, OwnRules w10 base (.slice A10 (l.length + 1) c10) (l ++ [⟨t, p, q⟩]) → (∀ k v, W.heap[k]? = some (.cells #[v] 31 (0, 0)) → Boxed w10 k 31 v) → Below base W w10 → K (a.put o.dst (.slice A10 (l.length + 1) c10)) w10) :
    if Region.wanted o (yielded ops a.tmps) = true then Oper.wp Try.prog o a W K Q else E := by
  refine step_append_rules hgd s x ho (base := base) (l := l) (ys := [⟨t, p, q⟩]) (S := fun _ => True) hs hx hown (one_sl hB) (by simp; omega) hbase ?_
  intro v' w' own hgr hbl
  obtain ⟨A9, c9, rfl, _⟩ := own_nil own
  have e : (l ++ [(⟨t, p, q⟩ : GRule)]).length = l.length + 1 := by simp
  rw [e] at own ⊢
  exact h A9 c9 w' own (fun k v hk => Boxed.kept hk hgr (Boxed.not_row hk (by decide) hown)) hbl
theorem drawn_post {w wx : World} {b N M : Nat} {most : Int} {v : Value} {xs : List GRule} (h : DrSt w b M wx v xs) (hlt : b < w.heap.size) (hM : M ≤ N + 200) (hok : DrawnOk most xs) (hl : xs.length ≤ 14) (u : Value) :
    DrawnPost b N most w (.returned (.agg #[v])) (wx.setCell ⟨w.heap.size, 0, none⟩ u) := by
  have hb2 : Below w.heap.size wx (wx.setCell ⟨w.heap.size, 0, none⟩ u) := (Below.refl _ _).setCell (p := ⟨w.heap.size, 0, none⟩) (Nat.le_refl _) _
  have own : OwnRules (wx.setCell ⟨w.heap.size, 0, none⟩ u) (w.heap.size + 2) v xs := ownsRow_setCell_other (a := ⟨w.heap.size, 0, none⟩) h.own (Boxed.not_row h.b0 (by decide) h.own).symm _
  refine ⟨v, xs, rfl, own.slS (fun g hg => ?_), hok, hl, (h.src.keepB hb2 hlt).more hM, h.but.up hb2 (Nat.le_refl _)⟩
  have := World.ownsRow.lt own g hg
  exact ⟨by omega, this.2⟩
set_option maxRecDepth 100000 in
set_option maxHeartbeats 40000000 in
theorem l02Drawn_any (b N : Nat) (most : Int) (w : World) (h : Src w b N) (hN : N ≤ 800000) :
    Calls Try.prog 77 #[.pointer (some ⟨b, 0, none⟩), .int .i64 most] w (DrawnPost b N most w) := by
  have hlt := h.lt
  have HS := Lib.hid h
  clear h
  go_enter Try.func77, Try.ntmps77
  go_wp2_with fail
  have hW0 : DrSt w b N ((w.alloc (.cells #[.slice none 0 0] 31)).alloc (.cells #[.slice none 0 0] 31)) (.slice none 0 0) [] := by
    have hb : Below w.heap.size w ((w.alloc (.cells #[.slice none 0 0] 31)).alloc (.cells #[.slice none 0 0] 31)) := ((Below.refl _ w).alloc (Nat.le_refl _) _).alloc (by simp) _
    refine ⟨HS.out.keep hb, But.of hb, ?_, ?_, World.ownsRow_nil _ _ _ _⟩
    · have h0 : Boxed (w.alloc (.cells #[.slice none 0 0] 31)) w.heap.size 31 (.slice none 0 0) := heap_alloc_new w _
      exact Boxed.up h0 ((Below.refl (w.heap.size + 1) _).alloc (by rw [World.size_alloc]; exact Nat.le_refl _) _) (Nat.lt_succ_self _)
    · have := heap_alloc_new (w.alloc (.cells #[.slice none 0 0] 31)) (.cells #[.slice none 0 0] 31)
      rw [World.size_alloc] at this
      exact this
  refine (pick_any b N 3 _ hW0.src (by omega)).mono ?_
  rintro r w1 ⟨x, rfl, hx, _, hs1, hb1⟩
  have H1 := Lib.hid (hW0.pick hb1 hs1 hlt)
  have hx3 : x ≤ 2 := by omega
  clear hW0 hs1 hb1 hx
  go_wp2_with fail
  go_loopw [7] (fun i wx => ∃ (k : Nat) (v : Value), k ≤ x + 1 ∧ i = .int .i64 (k : Int) ∧ DrSt w b (N + 2) wx v (letG k)) (fun i _ => x + 1 - (intOf i).toNat)
  case atStart => exact ⟨0, _, Nat.zero_le _, rfl, H1.out⟩
  case round =>
    obtain ⟨k, v, hk, rfl, hst⟩ := hrel
    have Hst := Lib.hid hst
    obtain ⟨A, c, rfl, _⟩ := own_nil hst.own
    have hcb := Boxed.cell hst.b1
    have hfb := Boxed.frozen hst.b1
    have hzr := hst.lt
    by_cases hlt1 : k < x + 1
    · have hlI : (k : Int) < 1 + (x : Int) := by omega
      have Hlen : Hid ((letG k).length ≤ 1099511627775) := by rw [Hid, letG_len]; omega
      clear hst
      have HA := Lib.hid (fun (o1 o2 : Obj) => ((Below.refl (w.heap.size + 2) wr).alloc (show w.heap.size + 2 ≤ wr.heap.size by omega) o1).alloc (by rw [World.size_alloc]; omega) o2)
      have hk3 : k = 0 ∨ k = 1 ∨ k = 2 := by omega
      rcases hk3 with rfl | rfl | rfl
      · have hcv := convB [97] wr.heap.size 0 1 1 (wr.alloc (.cells #[.int .u8 97] 5)) rfl (by
          intro t ht
          have : t = 0 := by simpa using ht
          subst this
          simp [go_sem])
        go_wp2_with (first
          | (at_builtin; refine list_push_rule (base := w.heap.size + 2) (t := ⟨#[97]⟩) (p := 0) (q := 0) rfl _ _ rfl rfl rfl (by simp) (Hst.out.own.alloc _) Hlen.out (by first | omega | (simp; done) | (simp; omega)) ?_; intro v3 w3 own3 hg3 hb3; obtain ⟨A3, c3, rfl, _⟩ := own_nil own3; have hb9 := (HA.out _ _).trans hb3; have bx3 := Boxed.up Hst.out.b1 hb9 (Nat.lt_succ_self _); have hcb3 := Boxed.cell bx3; have hfb3 := Boxed.frozen bx3))
        refine ⟨⟨1, _, by omega, rfl, Hst.out.put hlt hb9 (letG_own own3 rfl)⟩, by first | (simp [intOf]; done) | (simp [intOf]; omega)⟩
      · have hcv := convB [98] wr.heap.size 0 1 1 (wr.alloc (.cells #[.int .u8 98] 5)) rfl (by
          intro t ht
          have : t = 0 := by simpa using ht
          subst this
          simp [go_sem])
        go_wp2_with (first
          | (at_builtin; refine list_push_rule (base := w.heap.size + 2) (t := ⟨#[98]⟩) (p := 0) (q := 0) rfl _ _ rfl rfl rfl (by simp) (Hst.out.own.alloc _) Hlen.out (by first | omega | (simp; done) | (simp; omega)) ?_; intro v3 w3 own3 hg3 hb3; obtain ⟨A3, c3, rfl, _⟩ := own_nil own3; have hb9 := (HA.out _ _).trans hb3; have bx3 := Boxed.up Hst.out.b1 hb9 (Nat.lt_succ_self _); have hcb3 := Boxed.cell bx3; have hfb3 := Boxed.frozen bx3))
        refine ⟨⟨2, _, by omega, rfl, Hst.out.put hlt hb9 (letG_own own3 rfl)⟩, by first | (simp [intOf]; done) | (simp [intOf]; omega)⟩
      · have hcv := convB [99] wr.heap.size 0 1 1 (wr.alloc (.cells #[.int .u8 99] 5)) rfl (by
          intro t ht
          have : t = 0 := by simpa using ht
          subst this
          simp [go_sem])
        go_wp2_with (first
          | (at_builtin; refine list_push_rule (base := w.heap.size + 2) (t := ⟨#[99]⟩) (p := 0) (q := 0) rfl _ _ rfl rfl rfl (by simp) (Hst.out.own.alloc _) Hlen.out (by first | omega | (simp; done) | (simp; omega)) ?_; intro v3 w3 own3 hg3 hb3; obtain ⟨A3, c3, rfl, _⟩ := own_nil own3; have hb9 := (HA.out _ _).trans hb3; have bx3 := Boxed.up Hst.out.b1 hb9 (Nat.lt_succ_self _); have hcb3 := Boxed.cell bx3; have hfb3 := Boxed.frozen bx3))
        refine ⟨⟨3, _, by omega, rfl, Hst.out.put hlt hb9 (letG_own own3 rfl)⟩, by first | (simp [intOf]; done) | (simp [intOf]; omega)⟩
    · have hkx : k = x + 1 := by omega
      subst hkx
      have hlI : ¬ ((x + 1 : Nat) : Int) < 1 + (x : Int) := by omega
      have Hok := Lib.hid (letG_ok most x hx3)
      have Hl14 : Hid ((letG (x + 1)).length ≤ 3) := by rw [Hid, letG_len]; omega
      obtain ⟨X, hX⟩ : ∃ X, letG (x + 1) = X := ⟨_, rfl⟩
      rw [hX] at Hok Hl14 Hst
      have hXl : (letG (x + 1)).length = X.length := by rw [hX]
      clear hst hX hcb hfb hlI hzr H1
      go_wp2_with fail
      refine (pick_any b (N + 2) 12 _ Hst.out.src (by omega)).mono ?_
      rintro r w2 ⟨y, rfl, hy, _, hs2, hb2⟩
      have H2 := Lib.hid (Hst.out.pick hb2 hs2 hlt)
      have hy11 : y ≤ 11 := by omega
      clear Hst hs2 hb2 hy
      go_wp2_with fail
      go_loopw [8] (fun i wx => ∃ (k : Nat) (v : Value) (xs : List GRule), k ≤ y ∧ i = .int .i64 (k : Int) ∧ DrawnOk most xs ∧ xs.length + k ≤ 14 ∧ DrSt w b (N + 100 - 8 * k) wx v xs) (fun i _ => (intOf i).toNat)
      case atStart => exact ⟨y, _, X, Nat.le_refl _, rfl, Hok.out, by have := Hl14.out; omega, ⟨H2.out.src.more (by omega), H2.out.but, H2.out.b0, H2.out.b1, H2.out.own⟩⟩
      case round =>
        obtain ⟨k, v, xs, hk, rfl, hok, hlk, hst⟩ := hrel
        have Hst := Lib.hid hst
        have Hok := Lib.hid hok
        obtain ⟨A2, c2, rfl, _⟩ := own_nil hst.own
        have hcb := Boxed.cell hst.b1
        have hfb := Boxed.frozen hst.b1
        have hcb0 := Boxed.cell hst.b0
        have hfb0 := Boxed.frozen hst.b0
        have hzr := hst.lt
        by_cases hk0 : k = 0
        · subst hk0
          clear hst hok
          go_wp2_with fail
          refine bodyPost_ret (v := .agg #[.slice A2 xs.length c2]) (by simp [results, Try.results77, go_sem, hcb0]) rfl (drawn_post Hst.out hlt (by omega) Hok.out (by omega) _)
        · have hkI : (0 : Int) < (k : Int) := by omega
          have hn0 := hok.2.1
          clear hst hok
          go_upto_if 49 with (first
            | (go_at_call 78; refine (pick_any b _ xs.length _ Hst.out.src (by omega)).mono ?_; rintro r w3 ⟨p, rfl, hp, _, hs3, hb3⟩)
            | (go_at_call 78; refine (pick_any b _ xs.length _ hs3 (by omega)).mono ?_; rintro r w4 ⟨q, rfl, hq, _, hs4, hb4⟩)
            | (go_at_call 96; refine (one_any b _ 2 _ (hs4.keep ((Below.refl _ _).alloc (Nat.le_refl _) _)) (by omega)).mono ?_; rintro r w5 ⟨t5, rfl, hs5, hb5⟩))
          have hb4' := Boxed3.new w4 ⟨#[]⟩ p q
          have R5 : Boxed3 w5 w4.heap.size ⟨#[]⟩ p q := hb4'.but hb5 (by have := hb3.size; have := hb4.size; omega)
          have hst4 := (Hst.out.pick hb3 hs3 hlt).pick hb4 hs4 hlt
          have hst5 := (hst4.up ((Below.refl w4.heap.size w4).alloc (Nat.le_refl _) (.cells #[.string ⟨#[]⟩, .int .i64 (p : Int), .int .i64 (q : Int)] 138))).pick hb5 hs5 hlt
          have H5 := Lib.hid hst5
          have HR5 := Lib.hid R5
          have z4 : w.heap.size + 2 ≤ w4.heap.size := by have := hst4.lt; omega
          have hp2 : p < xs.length := by omega
          have hq2 : q < xs.length := by omega
          have hAR : ∀ g, (Value.slice A2 xs.length c2).ownBlock = some g → g ≠ w4.heap.size := fun g hg => by
            have h1 := (World.ownsRow.lt Hst.out.own g hg).2
            have h2 := hb3.size
            have h3 := hb4.size
            omega
          obtain ⟨R, hR⟩ : ∃ R, w4.heap.size = R := ⟨_, rfl⟩
          rw [hR] at HR5 z4 hAR
          rw [hR]
          have hrc := HR5.out.c1
          have hrf := HR5.out.f1
          have hnI : IntKind.i64.wrap ((xs.length : Int) - 1) = (xs.length : Int) - 1 := IntWalk.i64_in _ (by omega)
          clear hst4 hst5 R5 hb4' hs3 hs4 hs5 hb3 hb4 hb5 hR hcb hfb hcb0 hfb0 hp hq
          go_cut [] (fun wx => ∃ p2 : Nat, p2 < xs.length ∧ DrSt w b (N + 100 - 8 * k + 6) wx (.slice A2 xs.length c2) xs ∧ Boxed3 wx R ⟨#[]⟩ p2 q)
          case first =>
            cases t5 with
            | true =>
              go_wp2
              go_meet
              refine ⟨xs.length - 1, by omega, H5.out.far hlt z4 hAR _, ?_⟩
              have := HR5.out.set1 (xs.length - 1)
              rw [show ((xs.length - 1 : Nat) : Int) = (xs.length : Int) - 1 by omega] at this
              exact this
            | false =>
              go_wp2
              go_meet
              exact ⟨p, hp2, H5.out, HR5.out⟩
          case rest =>
            obtain ⟨p2, hpp, hst6, hbx6⟩ := hcut
            have H6 := Lib.hid hst6
            have HR6 := Lib.hid hbx6
            clear hst6 hbx6 hrc hrf H5 HR5 hp2
            go_upto_if 54 with (first
              | (go_at_call 96; refine (one_any b _ 3 _ H6.out.src (by omega)).mono ?_; rintro r w7 ⟨t7, rfl, hs7, hb7⟩))
            have hst7 := H6.out.pick hb7 hs7 hlt
            have hR7 := HR6.out.but hb7 (by omega)
            have H7 := Lib.hid hst7
            have HR7 := Lib.hid hR7
            have hrc := HR7.out.c2
            have hrf := HR7.out.f2
            clear hst7 hR7 hs7 hb7 H6 HR6
            go_cut [] (fun wx => ∃ q2 : Nat, q2 < xs.length ∧ DrSt w b (N + 100 - 8 * k + 8) wx (.slice A2 xs.length c2) xs ∧ Boxed3 wx R ⟨#[]⟩ p2 q2)
            case first =>
              cases t7 with
              | true =>
                go_wp2
                go_meet
                refine ⟨xs.length - 1, by omega, H7.out.far hlt z4 hAR _, ?_⟩
                have := HR7.out.set2 (xs.length - 1)
                rw [show ((xs.length - 1 : Nat) : Int) = (xs.length : Int) - 1 by omega] at this
                exact this
              | false =>
                go_wp2
                go_meet
                exact ⟨q, hq2, H7.out, HR7.out⟩
            case rest =>
              obtain ⟨q2, hqq, hst8, hbx8⟩ := hcut
              have H8 := Lib.hid hst8
              have HR8 := Lib.hid hbx8
              have hrc0 := hbx8.c0
              have hrc1 := hbx8.c1
              have hrc2 := hbx8.c2
              have hcb := Boxed.cell hst8.b1
              have hfb := Boxed.frozen hst8.b1
              clear hst8 hbx8 hrc hrf H7 HR7 hq2
              go_upto_region 16 with fail
              have HSl := Lib.hid H8.out.own.sl
              have hlt8 := H8.out.lt
              go_cut [11] (fun u11 wx => ∃ (L : Nat) (A3 : Option Addr) (c3 : Nat), u11 = .pointer (some ⟨L, 0, none⟩) ∧ w.heap.size + 2 ≤ L ∧ DrSt w b (N + 100 - 8 * k + 8) wx (.slice A2 xs.length c2) xs ∧ Boxed wx L 31 (.slice A3 (xs.length + 1) c3) ∧ OwnRules wx (w.heap.size + 2) (.slice A3 (xs.length + 1) c3) (xs ++ [⟨⟨#[]⟩, p2, q2⟩]))
              case first =>
                have hRlt : R < wc.heap.size := (Array.getElem?_eq_some_iff.1 HR8.out.box).1
                have HRlt := Lib.hid hRlt
                have hb1lt : w.heap.size + 1 < wc.heap.size := by omega
                have HX := Lib.hid (show xs.length ≤ 1099511627775 by omega)
                have HCB := Lib.hid hcb
                have HRC0 := Lib.hid hrc0
                have HRC1 := Lib.hid hrc1
                have HRC2 := Lib.hid hrc2
                go_region_held3 (fun w' => Below wc.heap.size wc w' ∧ w'.cell? ⟨w.heap.size + 1, 0, none⟩ = some (.slice A2 xs.length c2) ∧ w'.cell? ⟨R, 0, none⟩ = some (.string ⟨#[]⟩) ∧ w'.cell? ⟨R, 1, none⟩ = some (.int .i64 (p2 : Int)) ∧ w'.cell? ⟨R, 2, none⟩ = some (.int .i64 (q2 : Int)))
                  (first | (with_reducible refine keepDr HCB.out hb1lt HRC0.out HRC1.out HRC2.out HRlt.out ?_; (repeat (first | exact B10 | exact B9 | exact Below.refl _ _ | refine Below.drew ?_ | (refine Below.setCell ?_ (by first | exact Nat.le_refl _ | (show _ ≤ _; omega) | (simp; done) | (simp; omega)) _) | (refine Below.alloc ?_ (by first | omega | (simp; done) | (simp; omega)) _)))))
                  (first
                    | ((fail_if_success (have hx9 := B9)); refine step_app0 (base := wc.heap.size) (ys := xs) (S := fun k => k < wc.heap.size) (by rfl) _ _ (by rfl) (by rfl) (by rfl) (by ((repeat (first | (with_reducible assumption) | ((with_reducible refine heap_newD ?_); (focus (first | (exact (World.size_alloc _ _).symm) | (simp; done) | (simp; omega)))) | ((with_reducible refine heap_new' ?_); (focus (first | (exact (World.size_alloc _ _).symm) | (simp; done) | (simp; omega)))) | (with_reducible apply heap_drew) | (with_reducible apply heap_up) | ((with_reducible refine hkk hk9 ?_ ?_); (focus (first | (simp; done) | (simp; omega) | omega))))); all_goals fail "left")) (by first | omega | (simp; done)) (HSl.out.keep (Keep.of_below (by (repeat (first | (with_reducible exact B9) | (with_reducible exact Below.refl _ _) | with_reducible refine Below.drew ?_ | (with_reducible refine Below.alloc ?_ (by first | omega | (simp; done) | (simp; omega)) _)))))) (Nat.le_succ_of_le HX.out) ?_; intro A9 c9 w9 own9 hk9 hb9; have B9 : Below wc.heap.size wc w9 := Below.trans (by (repeat (first | (with_reducible exact B9) | (with_reducible exact Below.refl _ _) | with_reducible refine Below.drew ?_ | (with_reducible refine Below.alloc ?_ (by first | omega | (simp; done) | (simp; omega)) _)))) hb9; have hs9 := B9.size)
                    | ((fail_if_success (have hx10 := B10)); refine step_app1 (base := wc.heap.size) (l := xs) (by rfl) _ _ (by rfl) (by rfl) (by rfl) (by (repeat (first | (with_reducible exact own9) | with_reducible apply OwnRules.drew | with_reducible apply OwnRules.alloc))) (by ((repeat (first | (with_reducible assumption) | ((with_reducible refine heap_newD ?_); (focus (first | (exact (World.size_alloc _ _).symm) | (simp; done) | (simp; omega)))) | ((with_reducible refine heap_new' ?_); (focus (first | (exact (World.size_alloc _ _).symm) | (simp; done) | (simp; omega)))) | (with_reducible apply heap_drew) | (with_reducible apply heap_up) | ((with_reducible refine hkk hk9 ?_ ?_); (focus (first | (simp; done) | (simp; omega) | omega))))); all_goals fail "left")) HX.out (by first | exact hs9 | (simp; omega)) ?_; intro A10 c10 w10 own10 hk10 hb10; have B10 : Below wc.heap.size wc w10 := Below.trans (by (repeat (first | (with_reducible exact B9) | (with_reducible exact Below.refl _ _) | with_reducible refine Below.drew ?_ | (with_reducible refine Below.alloc ?_ (by first | omega | (simp; done) | (simp; omega)) _)))) hb10; have hs10 := B10.size; (try (refine withL (hk10 (wc.heap.size) (.slice none 0 0)) ?_ ?_; (focus ((repeat (first | (with_reducible assumption) | ((with_reducible refine heap_newD ?_); (focus (first | (exact (World.size_alloc _ _).symm) | (simp; done) | (simp; omega)))) | ((with_reducible refine heap_new' ?_); (focus (first | (exact (World.size_alloc _ _).symm) | (simp; done) | (simp; omega)))) | (with_reducible apply heap_drew) | (with_reducible apply heap_up) | ((with_reducible refine hkk hk9 ?_ ?_); (focus (first | (simp; done) | (simp; omega) | omega))))); all_goals fail "left")); intro bL10; have hcL := Boxed.cell bL10; have hfL := Boxed.frozen bL10; have hlL := (Array.getElem?_eq_some_iff.1 bL10).1)); (try (refine withL (hk10 (wc.heap.size + 1) (.slice none 0 0)) ?_ ?_; (focus ((repeat (first | (with_reducible assumption) | ((with_reducible refine heap_newD ?_); (focus (first | (exact (World.size_alloc _ _).symm) | (simp; done) | (simp; omega)))) | ((with_reducible refine heap_new' ?_); (focus (first | (exact (World.size_alloc _ _).symm) | (simp; done) | (simp; omega)))) | (with_reducible apply heap_drew) | (with_reducible apply heap_up) | ((with_reducible refine hkk hk9 ?_ ?_); (focus (first | (simp; done) | (simp; omega) | omega))))); all_goals fail "left")); intro bL10; have hcL := Boxed.cell bL10; have hfL := Boxed.frozen bL10; have hlL := (Array.getElem?_eq_some_iff.1 bL10).1)); (try (refine withL (hk10 (wc.heap.size + 1 + 1) (.slice none 0 0)) ?_ ?_; (focus ((repeat (first | (with_reducible assumption) | ((with_reducible refine heap_newD ?_); (focus (first | (exact (World.size_alloc _ _).symm) | (simp; done) | (simp; omega)))) | ((with_reducible refine heap_new' ?_); (focus (first | (exact (World.size_alloc _ _).symm) | (simp; done) | (simp; omega)))) | (with_reducible apply heap_drew) | (with_reducible apply heap_up) | ((with_reducible refine hkk hk9 ?_ ?_); (focus (first | (simp; done) | (simp; omega) | omega))))); all_goals fail "left")); intro bL10; have hcL := Boxed.cell bL10; have hfL := Boxed.frozen bL10; have hlL := (Array.getElem?_eq_some_iff.1 bL10).1)); (try (refine withL (hk10 (w9.heap.size) (.slice none 0 0)) ?_ ?_; (focus ((repeat (first | (with_reducible assumption) | ((with_reducible refine heap_newD ?_); (focus (first | (exact (World.size_alloc _ _).symm) | (simp; done) | (simp; omega)))) | ((with_reducible refine heap_new' ?_); (focus (first | (exact (World.size_alloc _ _).symm) | (simp; done) | (simp; omega)))) | (with_reducible apply heap_drew) | (with_reducible apply heap_up) | ((with_reducible refine hkk hk9 ?_ ?_); (focus (first | (simp; done) | (simp; omega) | omega))))); all_goals fail "left")); intro bL10; have hcL := Boxed.cell bL10; have hfL := Boxed.frozen bL10; have hlL := (Array.getElem?_eq_some_iff.1 bL10).1)); (try (refine withL (hk10 (w9.heap.size + 1) (.slice none 0 0)) ?_ ?_; (focus ((repeat (first | (with_reducible assumption) | ((with_reducible refine heap_newD ?_); (focus (first | (exact (World.size_alloc _ _).symm) | (simp; done) | (simp; omega)))) | ((with_reducible refine heap_new' ?_); (focus (first | (exact (World.size_alloc _ _).symm) | (simp; done) | (simp; omega)))) | (with_reducible apply heap_drew) | (with_reducible apply heap_up) | ((with_reducible refine hkk hk9 ?_ ?_); (focus (first | (simp; done) | (simp; omega) | omega))))); all_goals fail "left")); intro bL10; have hcL := Boxed.cell bL10; have hfL := Boxed.frozen bL10; have hlL := (Array.getElem?_eq_some_iff.1 bL10).1))))
                all_goals
                  go_wp2_with fail
                  go_meet
                  have o10 := ownsRow_more own10 (base' := w.heap.size + 2) (by omega)
                  first
                    | exact ⟨w10.heap.size, A10, c10, rfl, by omega, H8.out.up (B10.alloc hs10 _), heap_alloc_new _ _, World.ownsRow.alloc o10 _⟩
                    | exact ⟨_, A10, c10, rfl, by omega, H8.out.up (B10.setCell (by (try dsimp only); omega) _), Boxed.set _ bL10, ownsRow_setCell_other o10 (Boxed.not_row bL10 (by decide) own10).symm _⟩
              case rest =>
                obtain ⟨L, A3, c3, rfl, hL, hst9, hbx9, own9⟩ := hcut
                have hsmY : SmallL (xs ++ [(⟨⟨#[]⟩, (p2 : Int), (q2 : Int)⟩ : GRule)]) := by
                  intro r hr
                  rcases List.mem_append.1 hr with hr | hr
                  · exact Hok.out.2.2.2 r hr
                  · rw [List.mem_singleton] at hr; subst hr; show (0 : Nat) ≤ _; decide
                obtain ⟨Y, hY⟩ : ∃ Y, xs ++ [(⟨⟨#[]⟩, (p2 : Int), (q2 : Int)⟩ : GRule)] = Y := ⟨_, rfl⟩
                have hYl : Y.length = xs.length + 1 := by rw [← hY]; simp
                rw [hY] at own9 hsmY
                rw [← hYl] at own9 hbx9
                have H9 := Lib.hid hst9
                have HB9 := Lib.hid hbx9
                have HO9 := Lib.hid own9
                have HSY := Lib.hid (OwnRules.sl own9)
                have HsmY := Lib.hid hsmY
                have hcY := Boxed.cell hbx9
                have hLlt := (Array.getElem?_eq_some_iff.1 hbx9).1
                clear hst9 hbx9 own9 H8 HR8 HSl hrc0 hrc1 hrc2 hcb hfb hlt8 hsmY hY
                cases hg : gramOk Y with
                | false =>
                  go_wp2_with (first
                    | (go_at_call 45; (refine (l02Ok_any L 0 _ Y _ hcY hLlt HSY.out HsmY.out).mono ?_); rintro r w11 ⟨hr, hb11⟩; rw [hg] at hr; subst hr; have H11 := Lib.hid (H9.out.up hb11); have hcb1 := Boxed.cell H11.out.b1; have hfb1 := Boxed.frozen H11.out.b1; have hcb0 := Boxed.cell H11.out.b0; have hfb0 := Boxed.frozen H11.out.b0))
                  refine bodyPost_ret (v := .agg #[.slice A2 xs.length c2]) (by simp [results, Try.results77, go_sem, hcb0]) rfl (drawn_post H11.out hlt (by omega) Hok.out (by omega) _)
                | true =>
                  obtain ⟨_, ls, hls⟩ := gram_lens hg
                  have hgl := gramLen_of hls
                  by_cases hmo : lastI ls ≤ most
                  · have hmI : ¬ most < lastI ls := by omega
                    go_wp2_with (first
                      | (go_at_call 45; (refine (l02Ok_any L 0 _ Y _ hcY hLlt HSY.out HsmY.out).mono ?_); rintro r w11 ⟨hr, hb11⟩; rw [hg] at hr; subst hr; have H11 := Lib.hid (H9.out.up hb11); have hcY1 := (hb11.cell (p := ⟨L, 0, none⟩) hLlt).trans hcY; have hLlt1 := Nat.lt_of_lt_of_le hLlt hb11.size; have HSY1 := Lib.hid (HSY.out.up hb11))
                      | (go_at_call 49; (refine (l02Length_any L 0 _ Y ls _ hls hcY1 hLlt1 HSY1.out HsmY.out (by omega)).mono ?_); rintro r w12 ⟨rfl, hb12⟩; have H12 := Lib.hid (H11.out.up hb12); have hcY2 := (hb12.cell (p := ⟨L, 0, none⟩) hLlt1).trans hcY1; have hcb1 := Boxed.cell H12.out.b1; have hfb1 := Boxed.frozen H12.out.b1))
                    have o12 := (HO9.out.below hb11).below hb12
                    rw [hYl] at o12
                    have s12 := H12.out.put hlt (Below.refl _ _) o12
                    rw [show N + 100 - 8 * k + 8 = N + 100 - 8 * (k - 1) by omega] at s12
                    exact ⟨⟨k - 1, _, Y, by omega, by rw [show ((k - 1 : Nat) : Int) = (k : Int) - 1 by omega], ⟨hg, by omega, fun _ => by rw [hgl]; exact hmo, HsmY.out⟩, by omega, s12⟩, by first | (simp [intOf]; done) | (simp [intOf]; omega)⟩
                  · have hmI : most < lastI ls := by omega
                    go_wp2_with (first
                      | (go_at_call 45; (refine (l02Ok_any L 0 _ Y _ hcY hLlt HSY.out HsmY.out).mono ?_); rintro r w11 ⟨hr, hb11⟩; rw [hg] at hr; subst hr; have H11 := Lib.hid (H9.out.up hb11); have hcY1 := (hb11.cell (p := ⟨L, 0, none⟩) hLlt).trans hcY; have hLlt1 := Nat.lt_of_lt_of_le hLlt hb11.size; have HSY1 := Lib.hid (HSY.out.up hb11))
                      | (go_at_call 49; (refine (l02Length_any L 0 _ Y ls _ hls hcY1 hLlt1 HSY1.out HsmY.out (by omega)).mono ?_); rintro r w12 ⟨rfl, hb12⟩; have H12 := Lib.hid (H11.out.up hb12); have hcb1 := Boxed.cell H12.out.b1; have hfb1 := Boxed.frozen H12.out.b1; have hcb0 := Boxed.cell H12.out.b0; have hfb0 := Boxed.frozen H12.out.b0))
                    refine bodyPost_ret (v := .agg #[.slice A2 xs.length c2]) (by simp [results, Try.results77, go_sem, hcb0]) rfl (drawn_post H12.out hlt (by omega) Hok.out (by omega) _)
def Blk (w : World) (b : Nat) (a : Array Value) (t : TypeId) : Prop := w.heap[b]? = some (.cells a t (0, 0))
section
variable {w w' : World} {b N : Nat} {a : Array Value} {t : TypeId}
theorem Blk.lt (h : Blk w b a t) : b < w.heap.size := (Array.getElem?_eq_some_iff.1 h).1
theorem Blk.up (h : Blk w b a t) (hb : Below w.heap.size w w') : Blk w' b a t := (hb.block b h.lt).trans h
theorem Blk.cell (h : Blk w b a t) {i : Nat} {v : Value} (hi : a[i]? = some v) : w.cell? ⟨b, i, none⟩ = some v := by
  rw [cell_of_row w b i a t (0, 0) h, hi]
theorem Blk.frozen (h : Blk w b a t) (i : Nat) : w.frozen? ⟨b, i, none⟩ = false := by
  simp [World.frozen?, show w.heap[b]? = _ from h]
theorem Blk.set (h : Blk w b a t) (i : Nat) (v : Value) : Blk (w.setCell ⟨b, i, none⟩ v) b (a.setIfInBounds i v) t := by
  obtain ⟨hlt, hk⟩ := Array.getElem?_eq_some_iff.1 h
  show (w.heap.modify b _)[b]? = _
  rw [Array.getElem?_eq_getElem (by rw [Array.size_modify]; exact hlt), Array.getElem_modify_self, hk]
  rfl
theorem Blk.other (h : Blk w b a t) {p : Addr} (hne : b ≠ p.block) (v : Value) : Blk (w.setCell p v) b a t := (Below.heap_setCell w p v b hne).trans h
theorem Blk.alloc (h : Blk w b a t) (o : Obj) : Blk (w.alloc o) b a t := (Below.heap_alloc w o b h.lt).trans h
theorem Blk.drew (h : Blk w b a t) : Blk w.drew b a t := h
theorem Blk.new (w : World) (a : Array Value) (t : TypeId) : Blk (w.alloc (.cells a t)) w.heap.size a t := heap_alloc_new w _
end
theorem Blk.but {w w' : World} {b c : Nat} {a : Array Value} {t : TypeId} (h : Blk w c a t) (hb : But b w w') (hne : c ≠ b) : Blk w' c a t := (hb.block c h.lt hne).trans h
theorem Below.up {w0 w w' : World} {N : Nat} (h : Below N w0 w) (hb : Below w.heap.size w w') (hN : N ≤ w0.heap.size) : Below N w0 w' := h.trans (hb.mono (Nat.le_trans hN h.size))
theorem Below.tr {w0 w w' : World} (h : Below w0.heap.size w0 w) (hb : Below w.heap.size w w') : Below w0.heap.size w0 w' := h.trans (hb.mono h.size)
theorem own_butB {b base e s n : Nat} {w w' : World} {v : Value} {xs : List Value} (h : w.ownsRow base e s v n xs) (hb : But b w w') (hne : b < base) : w'.ownsRow base e s v n xs := by
  obtain ⟨h1, h2⟩ := h
  refine ⟨h1, ?_⟩
  rcases h2 with h2 | ⟨g, cap, cur, h3, h4, h5, r⟩
  · exact .inl h2
  · exact .inr ⟨g, cap, cur, h3, h4, (hb.block g (Array.getElem?_eq_some_iff.1 h5).1 (by omega)).trans h5, r⟩
theorem own_same {base e s n : Nat} {w w' : World} {v : Value} {xs : List Value} (h : w.ownsRow base e s v n xs) (hb : ∀ g, v.ownBlock = some g → w'.heap[g]? = w.heap[g]?) : w'.ownsRow base e s v n xs := by
  obtain ⟨h1, h2⟩ := h
  refine ⟨h1, ?_⟩
  rcases h2 with h2 | ⟨g, cap, cur, h3, h4, h5, r⟩
  · exact .inl h2
  · exact .inr ⟨g, cap, cur, h3, h4, (hb g (by rw [h3]; rfl)).trans h5, r⟩
theorem push_int2 {W : World} {ops : Array Oper} {rest : List Oper} {o : Oper} {a : Act} {Q : Exit → Act → World → Prop} (hgd : o.guard = none) (s x : Operand)
    (ho : o.op = .call { callee := .builtin .append, args := #[s, x], argTypes := #[26, 26] }) {y : Int} {base : Nat} {v : Value} {l : List Int}
    (hs : a.eval s = v) {N : Nat} (hx : a.eval x = .slice (some ⟨N, 0, none⟩) 1 1) (hN : N = W.heap.size) (hown : OwnInts W base v l) (hlen : l.length ≤ 1099511627776) (hbase : base ≤ W.heap.size)
    (h : ∀ v' w', OwnInts w' base v' (l ++ [y]) → (W.alloc (.cells #[.int .i64 y] 2)).grownBy w' v.ownBlock → (v'.ownBlock = v.ownBlock ∨ v'.ownBlock = some (W.heap.size + 1)) → wpList Try.prog ops Q rest (a.put o.dst v') w') :
    wpList Try.prog ops Q (o :: rest) a (W.alloc (.cells #[.int .i64 y] 2)) := by
  subst hN
  obtain ⟨i0, hi0, hz0, hz1, hz2⟩ := info_parts Try.infoI
  refine wpList_push2 hgd s x 26 ho i0 (.int .i64 0) 1 8 Try.underlying26 hi0 hz0 hz1 hz2 rfl (by decide) hs hx rfl (by simp [Value.oneCell']) hown (by omega) (by omega) hbase ?_
  intro v' w' h1 h2 h3
  exact h v' w' (by unfold OwnInts; simpa using h1) h2 h3
structure AuSt (w : World) (b M : Nat) (wx : World) (P : Nat) (S st : Int) (vF : Value) (F : List Int) (vN : Value) (k : Nat) (vs : List Value) (N : List (List Int)) : Prop where
  src : Src wx b M
  but : But b w wx
  b0 : Blk wx w.heap.size #[.int .i64 0, .int .i64 0, .slice none 0 0, .slice none 0 0] 45
  hP : w.heap.size < P
  box : Blk wx P #[.int .i64 S, .int .i64 st, vF, vN] 45
  fin : OwnInts wx (P + 1) vF F
  nx : wx.ownsRow (P + 1) 26 1 vN k vs
  ea : Each IntE wx (fun b => P + 1 ≤ b ∧ b < wx.heap.size ∧ some b ≠ vN.ownBlock ∧ some b ≠ vF.ownBlock) vs N
section
variable {w wx w' : World} {b M M' P : Nat} {S st : Int} {vF : Value} {F : List Int} {vN : Value} {k : Nat} {vs : List Value} {N : List (List Int)}
theorem AuSt.pick (h : AuSt w b M wx P S st vF F vN k vs N) (hb : But b wx w') (hs : Src w' b M') (hlt : b < w.heap.size) : AuSt w b M' w' P S st vF F vN k vs N :=
  have hP := h.hP
  ⟨hs, h.but.trans hb, h.b0.but hb (by omega), h.hP, h.box.but hb (by omega), own_butB h.fin hb (by omega), own_butB h.nx hb (by omega),
    (h.ea.keep fun j hj => hb.block j hj.2.1 (by omega)).more fun _ hj => ⟨hj.1, Nat.lt_of_lt_of_le hj.2.1 hb.size, hj.2.2⟩⟩
theorem AuSt.up (h : AuSt w b M wx P S st vF F vN k vs N) (hb : Below wx.heap.size wx w') : AuSt w b M w' P S st vF F vN k vs N :=
  ⟨h.src.keep hb, h.but.trans (But.of hb), h.b0.up hb, h.hP, h.box.up hb, ownsRow_below h.fin hb, ownsRow_below h.nx hb,
    (h.ea.keep fun j hj => hb.block j hj.2.1).more fun _ hj => ⟨hj.1, Nat.lt_of_lt_of_le hj.2.1 hb.size, hj.2.2⟩⟩
theorem AuSt.more (h : AuSt w b M wx P S st vF F vN k vs N) (hM : M ≤ M') : AuSt w b M' wx P S st vF F vN k vs N := ⟨h.src.more hM, h.but, h.b0, h.hP, h.box, h.fin, h.nx, h.ea⟩
theorem AuSt.apart (h : AuSt w b M wx P S st vF F vN k vs N) : ∀ g, vF.ownBlock = some g → some g ≠ vN.ownBlock := own_apart h.fin h.nx (by decide)
theorem AuSt.grN (h : AuSt w b M wx P S st vF F vN k vs N) {o : Obj} (hg : (wx.alloc o).grownBy w' vN.ownBlock) : Blk w' P #[.int .i64 S, .int .i64 st, vF, vN] 45 :=
  (hg.block P (Nat.lt_of_lt_of_le h.box.lt (by simp)) (fun e => by have := (World.ownsRow.lt h.nx P e.symm).1; omega)).trans ((Below.heap_alloc wx o P h.box.lt).trans h.box)
theorem AuSt.grF (h : AuSt w b M wx P S st vF F vN k vs N) {o : Obj} (hg : (wx.alloc o).grownBy w' vF.ownBlock) : Blk w' P #[.int .i64 S, .int .i64 st, vF, vN] 45 :=
  (hg.block P (Nat.lt_of_lt_of_le h.box.lt (by simp)) (fun e => by have := (World.ownsRow.lt h.fin P e.symm).1; omega)).trans ((Below.heap_alloc wx o P h.box.lt).trans h.box)
theorem AuSt.pushN (h : AuSt w b M wx P S st vF F vN k vs N) (hlt : b < w.heap.size) {B : Nat} {rowv v' : Value} {L : List Int} (hrow : OwnInts wx B rowv L) (hB : P + 1 ≤ B) (hBF : ∀ g, vF.ownBlock = some g → g < B) (hBN : ∀ g, vN.ownBlock = some g → g < B)
    {o : Obj} (hg : (wx.alloc o).grownBy w' vN.ownBlock) (hv : v'.ownBlock = vN.ownBlock ∨ v'.ownBlock = some (wx.heap.size + 1)) (own : w'.ownsRow (P + 1) 26 1 v' (k + 1) (vs ++ [rowv])) :
    AuSt w b M (w'.setCell ⟨P, 3, none⟩ v') P S st vF F v' (k + 1) (vs ++ [rowv]) (N ++ [L]) := by
  have hP := h.hP
  have hz : wx.heap.size < w'.heap.size := Nat.lt_of_lt_of_le (by simp) hg.size
  have hNlow : ∀ g, vN.ownBlock = some g → P + 1 ≤ g := fun g hg => (World.ownsRow.lt h.nx g hg).1
  have hk1 : ∀ j, j < wx.heap.size → some j ≠ vN.ownBlock → w'.heap[j]? = wx.heap[j]? := fun j hj hne => (hg.block j (Nat.lt_of_lt_of_le hj (by simp)) hne).trans (Below.heap_alloc wx o j hj)
  have hk2 : ∀ j, j ≠ P → (w'.setCell ⟨P, 3, none⟩ v').heap[j]? = w'.heap[j]? := fun j hj => Below.heap_setCell w' ⟨P, 3, none⟩ v' j hj
  have hb2 : Below w.heap.size wx (w'.setCell ⟨P, 3, none⟩ v') := by
    have h1 : Below w.heap.size wx w' := ((Below.refl w.heap.size wx).alloc (by have := h.box.lt; omega) o).grown hg (by have := h.box.lt; simp; omega) (fun g hgg => by have := hNlow g hgg; omega)
    exact h1.setCell (p := ⟨P, 3, none⟩) (by show w.heap.size ≤ P; omega) _
  have hsz : (w'.setCell ⟨P, 3, none⟩ v').heap.size = w'.heap.size := by simp
  have hne0 : ∀ j, j < wx.heap.size → some j ≠ vN.ownBlock → some j ≠ v'.ownBlock := fun j hj hne e => by
    rcases hv with hv | hv
    · exact hne (e.trans hv)
    · rw [hv] at e; have := Option.some.inj e; omega
  refine ⟨h.src.keepB hb2 hlt, h.but.up hb2 (Nat.le_refl _), (hk2 _ (by omega)).trans ((hk1 _ h.b0.lt (fun e => by have := hNlow _ e.symm; omega)).trans h.b0), hP, ?_, ?_, ?_, ?_⟩
  · have hbx : Blk w' P #[.int .i64 S, .int .i64 st, vF, vN] 45 := (hk1 P h.box.lt (fun e => by have := hNlow _ e.symm; omega)).trans h.box
    exact hbx.set 3 v'
  · exact own_same h.fin fun g hgg => (hk2 g (by have := (World.ownsRow.lt h.fin g hgg).1; omega)).trans (hk1 g (World.ownsRow.lt h.fin g hgg).2 (h.apart g hgg))
  · exact own_same own fun g hgg => hk2 g (by have := (World.ownsRow.lt own g hgg).1; omega)
  · refine Each.snoc ?_ ?_
    · exact (h.ea.keep fun j hj => (hk2 j (by omega)).trans (hk1 j hj.2.1 hj.2.2.1)).more fun j hj => ⟨hj.1, by rw [hsz]; omega, hne0 j hj.2.1 hj.2.2.1, hj.2.2.2⟩
    · have h1 : OwnInts (w'.setCell ⟨P, 3, none⟩ v') B rowv L := own_same hrow fun g hgg => (hk2 g (by have := (World.ownsRow.lt hrow g hgg).1; omega)).trans (hk1 g (World.ownsRow.lt hrow g hgg).2 (fun e => by
        have h1 := hBN g e.symm; have h2 := (World.ownsRow.lt hrow g hgg).1; omega))
      refine h1.slS fun g hgg => ?_
      have h2 := World.ownsRow.lt hrow g hgg
      exact ⟨by omega, by rw [hsz]; omega, hne0 g h2.2 (fun e => by have h1 := hBN g e.symm; omega), fun e => by have h1 := hBF g e.symm; omega⟩
theorem AuSt.pushF (h : AuSt w b M wx P S st vF F vN k vs N) (hlt : b < w.heap.size) {v' : Value} {L : List Int} {o : Obj} (hg : (wx.alloc o).grownBy w' vF.ownBlock) (hv : v'.ownBlock = vF.ownBlock ∨ v'.ownBlock = some (wx.heap.size + 1)) (own : OwnInts w' (P + 1) v' L) :
    AuSt w b M (w'.setCell ⟨P, 2, none⟩ v') P S st v' L vN k vs N := by
  have hP := h.hP
  have hz : wx.heap.size < w'.heap.size := Nat.lt_of_lt_of_le (by simp) hg.size
  have hFlow : ∀ g, vF.ownBlock = some g → P + 1 ≤ g := fun g hg => (World.ownsRow.lt h.fin g hg).1
  have hk1 : ∀ j, j < wx.heap.size → some j ≠ vF.ownBlock → w'.heap[j]? = wx.heap[j]? := fun j hj hne => (hg.block j (Nat.lt_of_lt_of_le hj (by simp)) hne).trans (Below.heap_alloc wx o j hj)
  have hk2 : ∀ j, j ≠ P → (w'.setCell ⟨P, 2, none⟩ v').heap[j]? = w'.heap[j]? := fun j hj => Below.heap_setCell w' ⟨P, 2, none⟩ v' j hj
  have hb2 : Below w.heap.size wx (w'.setCell ⟨P, 2, none⟩ v') := by
    have h1 : Below w.heap.size wx w' := ((Below.refl w.heap.size wx).alloc (by have := h.box.lt; omega) o).grown hg (by have := h.box.lt; simp; omega) (fun g hgg => by have := hFlow g hgg; omega)
    exact h1.setCell (p := ⟨P, 2, none⟩) (by show w.heap.size ≤ P; omega) _
  have hsz : (w'.setCell ⟨P, 2, none⟩ v').heap.size = w'.heap.size := by simp
  have hne0 : ∀ j, j < wx.heap.size → some j ≠ vF.ownBlock → some j ≠ v'.ownBlock := fun j hj hne e => by
    rcases hv with hv | hv
    · exact hne (e.trans hv)
    · rw [hv] at e; have := Option.some.inj e; omega
  have hap : ∀ g, vN.ownBlock = some g → some g ≠ vF.ownBlock := own_apart h.nx h.fin (by decide)
  refine ⟨h.src.keepB hb2 hlt, h.but.up hb2 (Nat.le_refl _), (hk2 _ (by omega)).trans ((hk1 _ h.b0.lt (fun e => by have := hFlow _ e.symm; omega)).trans h.b0), hP, ?_, ?_, ?_, ?_⟩
  · have hbx : Blk w' P #[.int .i64 S, .int .i64 st, vF, vN] 45 := (hk1 P h.box.lt (fun e => by have := hFlow _ e.symm; omega)).trans h.box
    exact hbx.set 2 v'
  · exact own_same own fun g hgg => hk2 g (by have := (World.ownsRow.lt own g hgg).1; omega)
  · exact own_same h.nx fun g hgg => (hk2 g (by have := (World.ownsRow.lt h.nx g hgg).1; omega)).trans (hk1 g (World.ownsRow.lt h.nx g hgg).2 (hap g hgg))
  · exact (h.ea.keep fun j hj => (hk2 j (by omega)).trans (hk1 j hj.2.1 hj.2.2.2)).more fun j hj => ⟨hj.1, by rw [hsz]; omega, hj.2.2.1, hne0 j hj.2.1 hj.2.2.2⟩
theorem AuSt.setStart (h : AuSt w b M wx P S st vF F vN k vs N) (hlt : b < w.heap.size) (y : Int) : AuSt w b M (wx.setCell ⟨P, 1, none⟩ (.int .i64 y)) P S y vF F vN k vs N := by
  have hP := h.hP
  have hk2 : ∀ j, j ≠ P → (wx.setCell ⟨P, 1, none⟩ (.int .i64 y)).heap[j]? = wx.heap[j]? := fun j hj => Below.heap_setCell wx ⟨P, 1, none⟩ _ j hj
  have hb2 : Below w.heap.size wx (wx.setCell ⟨P, 1, none⟩ (.int .i64 y)) := (Below.refl _ _).setCell (p := ⟨P, 1, none⟩) (by show w.heap.size ≤ P; omega) _
  have hsz : (wx.setCell ⟨P, 1, none⟩ (.int .i64 y)).heap.size = wx.heap.size := by simp
  exact ⟨h.src.keepB hb2 hlt, h.but.up hb2 (Nat.le_refl _), (hk2 _ (by omega)).trans h.b0, hP, h.box.set 1 _, own_same h.fin fun g hgg => hk2 g (by have := (World.ownsRow.lt h.fin g hgg).1; omega),
    own_same h.nx fun g hgg => hk2 g (by have := (World.ownsRow.lt h.nx g hgg).1; omega), (h.ea.keep fun j hj => hk2 j (by omega)).more fun j hj => ⟨hj.1, by rw [hsz]; exact hj.2.1, hj.2.2⟩⟩
theorem AuSt.cells (h : AuSt w b M wx P S st vF F vN k vs N) : wx.cell? ⟨P, 0, none⟩ = some (.int .i64 S) ∧ wx.cell? ⟨P, 1, none⟩ = some (.int .i64 st) ∧ wx.cell? ⟨P, 2, none⟩ = some vF ∧ wx.cell? ⟨P, 3, none⟩ = some vN ∧ P < wx.heap.size ∧ ∀ i, wx.frozen? ⟨P, i, none⟩ = false :=
  ⟨h.box.cell rfl, h.box.cell rfl, h.box.cell rfl, h.box.cell rfl, h.box.lt, h.box.frozen⟩
end
end Go.Proofs.Ytejgbfgocaggfaa
