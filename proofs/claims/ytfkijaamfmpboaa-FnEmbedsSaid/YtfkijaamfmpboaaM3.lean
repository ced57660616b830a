import Derived.Test.YtfkijaamfmpboaaM2
import Derived.Deep.DeepCutAuto
import Derived.Deep.CutBlock
import Derived.Test.YtfkijaamfmpboaaM1
import Derived.Maps.Keyed
import Derived.DeepKeys4
import Derived.Deep.CutRange
import Derived.WalkArith
import Derived.Deep.OwnRows
import Derived.IntWalk
import Derived.Shelf.SlicesE.Reverse
import Derived.Lib.ConvBytes
import Derived.Lib.RowBridge
import Derived.Laws.IdiomCopy
import Derived.Lib.LazyBuf
import Derived.Shelf.Strings.BuilderK
import Derived.Shelf.Bits.Mul64
import Derived.Shelf.Strings.BuilderF
import Derived.Shelf.Strings.Builder2
import Derived.Lib.RepeatB
import Derived.Deep.LoopGhost
import Derived.Deep.DeepFit
import Derived.Laws.EntriesVeiled
import Derived.Shelf.Strconv.Itoa0
import Derived.Shelf.Strconv.Itoa1
import Derived.Shelf.LaysM
import Derived.Shelf.Strconv.Itoa2
import Derived.Shelf.Strconv.Itoa3
import Derived.Shelf.Strconv.Itoa4
import Derived.Test.YtfkijaamfmpboaaProg
import Derived.Lib.LaidTab
namespace Go.Proofs.Ytfkijaamfmpboaa
open Go.RowKit
theorem Src.keepB {w w' : World} {b N B : Nat} (h : Src w b N) (hb : Below B w w') (hB : b < B) : Src w' b N := by
  have hlt := h.lt
  obtain ⟨AC, l, cC, a, d, h, h1, h2, h3⟩ := h
  exact ⟨AC, l, cC, a, d, (hb.block b hB).trans h, h1, h2, h3.below (hb.mono (Nat.le_of_lt hB))⟩
theorem But.up {b B : Nat} {w w1 w2 : World} (h : But b w w1) (hb : Below B w1 w2) (hB : w.heap.size ≤ B) : But b w w2 :=
  ⟨hb.os.trans h.os, hb.tape.trans h.tape, hb.output.trans h.output, Nat.le_trans h.size hb.size, fun k hk hne => (hb.block k (Nat.lt_of_lt_of_le hk hB)).trans (h.block k hk hne)⟩
theorem Boxed.but {b B : Nat} {w w' : World} {t : TypeId} {v : Value} (h : Boxed w B t v) (hb : But b w w') (hne : B ≠ b) : Boxed w' B t v := (hb.block B (Array.getElem?_eq_some_iff.1 h).1 hne).trans h
theorem OwnRules.but {b base : Nat} {w w' : World} {v : Value} {l : List GRule} (h : OwnRules w base v l) (hb : But b w w') (hne : b < base) : OwnRules w' base v l := by
  unfold OwnRules at *
  obtain ⟨h1, h2⟩ := h
  refine ⟨h1, ?_⟩
  rcases h2 with h2 | ⟨g, cap, cur, h3, h4, h5, r⟩
  · exact .inl h2
  · exact .inr ⟨g, cap, cur, h3, h4, (hb.block g (Array.getElem?_eq_some_iff.1 h5).1 (by omega)).trans h5, r⟩
def letG (k : Nat) : List GRule := (List.range k).map fun j => ⟨⟨#[UInt8.ofNat (97 + j)]⟩, 0, 0⟩
theorem letG_len (k : Nat) : (letG k).length = k := by simp [letG]
theorem letG_succ (k : Nat) : letG (k + 1) = letG k ++ [⟨⟨#[UInt8.ofNat (97 + k)]⟩, 0, 0⟩] := by simp [letG, List.range_succ]
def DrawnOk (most : Int) (xs : List GRule) : Prop := gramOk xs = true ∧ 0 < xs.length ∧ (1 ≤ most → gramLen xs ≤ most) ∧ SmallL xs
def DrawnPost (b N : Nat) (most : Int) (w : World) (r : Ending) (w' : World) : Prop :=
  ∃ v xs, r = .returned (.agg #[v]) ∧ SlS RuleE w' (fun k => w.heap.size ≤ k ∧ k < w'.heap.size) v xs ∧ DrawnOk most xs ∧ xs.length ≤ 14 ∧ Src w' b (N + 200) ∧ But b w w'
theorem letG_own {w : World} {base : Nat} {A : Option Addr} {n c k : Nat} {t : ByteArray} (own : OwnRules w base (.slice A (letG k ++ ([⟨t, 0, 0⟩] : List GRule)).length c) (letG k ++ [⟨t, 0, 0⟩])) (ht : t = ⟨#[UInt8.ofNat (97 + k)]⟩) (hn : n = (letG k).length + 1 := by rfl) : OwnRules w base (.slice A n c) (letG (k + 1)) := by
  subst ht; subst hn
  rw [letG_succ]
  have e : (letG k ++ [(⟨⟨#[UInt8.ofNat (97 + k)]⟩, 0, 0⟩ : GRule)]).length = (letG k).length + 1 := by simp
  rw [← e]; exact own
theorem letG_ok (most : Int) (x : Nat) (hx : x ≤ 2) : DrawnOk most (letG (x + 1)) := by
  have h3 : x = 0 ∨ x = 1 ∨ x = 2 := by omega
  rcases h3 with rfl | rfl | rfl
  · refine ⟨by decide, by decide, fun h => ?_, ?_⟩
    · rw [show gramLen (letG (0 + 1)) = 1 by decide]; exact h
    · intro r hr; simp [letG, List.range_succ] at hr; subst hr; decide
  · refine ⟨by decide, by decide, fun h => ?_, ?_⟩
    · rw [show gramLen (letG (1 + 1)) = 1 by decide]; exact h
    · intro r hr; simp [letG, List.range_succ] at hr; rcases hr with rfl | rfl <;> decide
  · refine ⟨by decide, by decide, fun h => ?_, ?_⟩
    · rw [show gramLen (letG (2 + 1)) = 1 by decide]; exact h
    · intro r hr; simp [letG, List.range_succ] at hr; rcases hr with rfl | rfl | rfl <;> decide
structure DrSt (w : World) (b M : Nat) (wx : World) (v : Value) (xs : List GRule) : Prop where
  src : Src wx b M
  but : But b w wx
  b0 : Boxed wx w.heap.size 30 (.slice none 0 0)
  b1 : Boxed wx (w.heap.size + 1) 30 v
  own : OwnRules wx (w.heap.size + 2) v xs
theorem DrSt.pick {w wx w' : World} {b M M' : Nat} {v : Value} {xs : List GRule} (h : DrSt w b M wx v xs) (hb : But b wx w') (hs : Src w' b M') (hlt : b < w.heap.size) : DrSt w b M' w' v xs :=
  ⟨hs, h.but.trans hb, Boxed.but h.b0 hb (by omega), Boxed.but h.b1 hb (by omega), h.own.but hb (by omega)⟩
theorem DrSt.up {w wx w' : World} {b M : Nat} {v : Value} {xs : List GRule} (h : DrSt w b M wx v xs) (hb : Below wx.heap.size wx w') : DrSt w b M w' v xs :=
  ⟨h.src.keep hb, h.but.trans (But.of hb), Boxed.up h.b0 hb (Array.getElem?_eq_some_iff.1 h.b0).1, Boxed.up h.b1 hb (Array.getElem?_eq_some_iff.1 h.b1).1, h.own.below hb⟩
theorem DrSt.lt {w wx : World} {b M : Nat} {v : Value} {xs : List GRule} (h : DrSt w b M wx v xs) : w.heap.size + 1 < wx.heap.size := (Array.getElem?_eq_some_iff.1 h.b1).1
theorem DrSt.put {w wx w' : World} {b M : Nat} {v v' : Value} {xs ys : List GRule} (h : DrSt w b M wx v xs) (hlt : b < w.heap.size) (hb : Below (w.heap.size + 2) wx w') (own : OwnRules w' (w.heap.size + 2) v' ys) : DrSt w b M (w'.setCell ⟨w.heap.size + 1, 0, none⟩ v') v' ys := by
  have h0 : Boxed w' w.heap.size 30 (.slice none 0 0) := Boxed.up h.b0 hb (by omega)
  have h1 : Boxed w' (w.heap.size + 1) 30 v := Boxed.up h.b1 hb (by omega)
  have hb2 : Below (w.heap.size + 1) wx (w'.setCell ⟨w.heap.size + 1, 0, none⟩ v') := (hb.mono (Nat.le_succ _)).setCell (p := ⟨w.heap.size + 1, 0, none⟩) (Nat.le_refl _) _
  exact ⟨h.src.keepB hb2 (by omega), h.but.up hb2 (by omega), Boxed.up h.b0 hb2 (by omega), Boxed.set _ h1, ownsRow_setCell_other (a := ⟨w.heap.size + 1, 0, none⟩) own (Boxed.not_row h1 (by decide) own).symm _⟩
theorem heap_new' {w : World} {o : Obj} {k : Nat} (hk : k = w.heap.size) : (w.alloc o).heap[k]? = some o := by subst hk; exact heap_alloc_new w o
theorem heap_newD {w : World} {o : Obj} {k : Nat} (hk : k = w.heap.size) : (w.alloc o).drew.heap[k]? = some o := by subst hk; exact heap_alloc_new w o
theorem heap_drew {w : World} {o' : Obj} {k : Nat} (h : w.heap[k]? = some o') : w.drew.heap[k]? = some o' := h
theorem heap_up {w : World} {o o' : Obj} {k : Nat} (h : w.heap[k]? = some o') : (w.alloc o).heap[k]? = some o' := by
  have := (Array.getElem?_eq_some_iff.1 h).1
  rw [← h]; simp only [World.alloc]; rw [Array.getElem?_push_lt this, Array.getElem?_eq_getElem this]
theorem grown_at {w w' : World} {row : Option Nat} {k : Nat} {o : Obj} (hg : w.grownBy w' row) (h : w.heap[k]? = some o) (hne : some k ≠ row) : w'.heap[k]? = some o :=
  (Keep.of_grown hg k ⟨(Array.getElem?_eq_some_iff.1 h).1, hne⟩).trans h
theorem one_sl {w : World} {N : Nat} {t : ByteArray} {p q : Int} (h : w.heap[N]? = some (.cells #[.string t, .int .i64 p, .int .i64 q] 111 (0, 0))) : SlS RuleE w (fun _ => True) (.slice (some ⟨N, 0, none⟩) 1 1) [⟨t, p, q⟩] := by
  refine ⟨_, 1, rfl, Nat.le_refl _, by simp [maxLen], fun _ => ⟨N, 0, rfl, trivial, fun k r hk => ⟨r.cells, rfl, fun j u hu => ?_⟩⟩⟩
  have hk0 : k = 0 := by
    have := (List.getElem?_eq_some_iff.1 hk).1
    simp at this; exact this
  subst hk0
  simp at hk
  subst hk
  have hc := Lib.cell_of_heap h (0 + (0 * RuleE.size + j))
  rw [hc]
  simpa [GRule.cells] using hu
structure Boxed3 (w : World) (R : Nat) (t : ByteArray) (p q : Nat) : Prop where
  box : w.heap[R]? = some (.cells #[.string t, .int .i64 (p : Int), .int .i64 (q : Int)] 111 (0, 0))
theorem Boxed3.new (w : World) (t : ByteArray) (p q : Nat) : Boxed3 (w.alloc (.cells #[.string t, .int .i64 (p : Int), .int .i64 (q : Int)] 111)) w.heap.size t p q := ⟨heap_alloc_new w _⟩
theorem Boxed3.but {w w' : World} {R b : Nat} {t : ByteArray} {p q : Nat} (h : Boxed3 w R t p q) (hb : But b w w') (hne : R ≠ b) : Boxed3 w' R t p q := ⟨(hb.block R (Array.getElem?_eq_some_iff.1 h.box).1 hne).trans h.box⟩
theorem Boxed3.up {w w' : World} {R B : Nat} {t : ByteArray} {p q : Nat} (h : Boxed3 w R t p q) (hb : Below B w w') (hlt : R < B) : Boxed3 w' R t p q := ⟨(hb.block R hlt).trans h.box⟩
theorem Boxed3.c0 {w : World} {R : Nat} {t : ByteArray} {p q : Nat} (h : Boxed3 w R t p q) : w.cell? ⟨R, 0, none⟩ = some (.string t) := by rw [Lib.cell_of_heap h.box]; rfl
theorem Boxed3.c1 {w : World} {R : Nat} {t : ByteArray} {p q : Nat} (h : Boxed3 w R t p q) : w.cell? ⟨R, 1, none⟩ = some (.int .i64 (p : Int)) := by rw [Lib.cell_of_heap h.box]; rfl
theorem Boxed3.c2 {w : World} {R : Nat} {t : ByteArray} {p q : Nat} (h : Boxed3 w R t p q) : w.cell? ⟨R, 2, none⟩ = some (.int .i64 (q : Int)) := by rw [Lib.cell_of_heap h.box]; rfl
theorem Boxed3.f1 {w : World} {R : Nat} {t : ByteArray} {p q : Nat} (h : Boxed3 w R t p q) : w.frozen? ⟨R, 1, none⟩ = false := Lib.frozen_of_heap h.box 1
theorem Boxed3.f2 {w : World} {R : Nat} {t : ByteArray} {p q : Nat} (h : Boxed3 w R t p q) : w.frozen? ⟨R, 2, none⟩ = false := Lib.frozen_of_heap h.box 2
theorem Boxed3.set1 {w : World} {R : Nat} {t : ByteArray} {p q : Nat} (h : Boxed3 w R t p q) (n : Nat) : Boxed3 (w.setCell ⟨R, 1, none⟩ (.int .i64 (n : Int))) R t n q := ⟨by simp [World.setCell, Array.getElem?_modify, h.box]⟩
theorem Boxed3.set2 {w : World} {R : Nat} {t : ByteArray} {p q : Nat} (h : Boxed3 w R t p q) (n : Nat) : Boxed3 (w.setCell ⟨R, 2, none⟩ (.int .i64 (n : Int))) R t p n := ⟨by simp [World.setCell, Array.getElem?_modify, h.box]⟩
theorem keepDr {wc W : World} {p R : Nat} {v u0 u1 u2 : Value} (c : wc.cell? ⟨p, 0, none⟩ = some v) (hp : p < wc.heap.size) (r0 : wc.cell? ⟨R, 0, none⟩ = some u0) (r1 : wc.cell? ⟨R, 1, none⟩ = some u1) (r2 : wc.cell? ⟨R, 2, none⟩ = some u2) (hR : R < wc.heap.size) (h : Below wc.heap.size wc W) :
    Below wc.heap.size wc W ∧ W.cell? ⟨p, 0, none⟩ = some v ∧ W.cell? ⟨R, 0, none⟩ = some u0 ∧ W.cell? ⟨R, 1, none⟩ = some u1 ∧ W.cell? ⟨R, 2, none⟩ = some u2 := ⟨h, (h.cell hp).trans c, (h.cell hR).trans r0, (h.cell hR).trans r1, (h.cell hR).trans r2⟩
theorem DrSt.far {w wx : World} {b M R o : Nat} {v : Value} {xs : List GRule} (h : DrSt w b M wx v xs) (hlt : b < w.heap.size) (hR : w.heap.size + 2 ≤ R) (hne : ∀ g, v.ownBlock = some g → g ≠ R) (u : Value) : DrSt w b M (wx.setCell ⟨R, o, none⟩ u) v xs := by
  have hb : Below R wx (wx.setCell ⟨R, o, none⟩ u) := (Below.refl _ _).setCell (p := ⟨R, o, none⟩) (Nat.le_refl _) _
  refine ⟨h.src.keepB hb (by omega), h.but.up hb (by omega), Boxed.up h.b0 hb (by omega), Boxed.up h.b1 hb (by omega), ?_⟩
  exact ownsRow_setCell_other (a := ⟨R, o, none⟩) h.own (fun e => hne _ e rfl) _
theorem hkk {w w9 : World} {k g : Nat} {o : Obj} (hk : ∀ k o, w.heap[k]? = some o → k ≠ g → w9.heap[k]? = some o) (hne : k ≠ g) (h : w.heap[k]? = some o) : w9.heap[k]? = some o := hk k o h hne
theorem withL {P A B : Prop} (h : A → B) (ha : A) (k : B → P) : P := k (h ha)
theorem step_app0 {W : World} {ops : Array Oper} {o : Oper} {a : Act} {K : Act → World → Prop} {Q : Exit → Act → World → Prop} {E : Prop} (hgd : o.guard = none) (s x : Operand)
    (ho : o.op = .call { callee := .builtin .append, args := #[s, x], argTypes := #[28, 28] }) {ys : List GRule} {base g c2 : Nat} {A2 : Option Addr} {S : Nat → Prop}
    (hs : a.eval s = .slice (some ⟨g, 0, none⟩) 0 0) (hx : a.eval x = .slice A2 ys.length c2) (hg : W.heap[g]? = some (.cells #[] 111 (0, 0))) (hb : base ≤ g) (hsl : SlS RuleE W S (.slice A2 ys.length c2) ys) (hlen : ys.length ≤ 1099511627776)
    (h : ∀ A9 c9 w9, OwnRules w9 base (.slice A9 ys.length c9) ys → (∀ k o, W.heap[k]? = some o → k ≠ g → w9.heap[k]? = some o) → Below base W w9 → K (a.put o.dst (.slice A9 ys.length c9)) w9) :
    if Region.wanted o (yielded ops a.tmps) = true then Oper.wp Try.prog o a W K Q else E := by
  refine step_append_rules hgd s x ho (base := base) (l := []) hs hx ⟨rfl, .inr ⟨g, 0, #[], rfl, hb, hg, Nat.le_refl _, Nat.zero_le _, rfl, rfl⟩⟩ hsl (by simpa using hlen) (by have := (Array.getElem?_eq_some_iff.1 hg).1; omega) ?_
  intro v' w' own hgr hbl
  obtain ⟨A9, c9, rfl, _⟩ := own_nil own
  exact h A9 c9 w' own (fun k o hk hne => grown_at hgr hk (by simpa [Value.ownBlock] using hne)) hbl
theorem step_app1 {W : World} {ops : Array Oper} {o : Oper} {a : Act} {K : Act → World → Prop} {Q : Exit → Act → World → Prop} {E : Prop} (hgd : o.guard = none) (s x : Operand)
    (ho : o.op = .call { callee := .builtin .append, args := #[s, x], argTypes := #[28, 28] }) {l : List GRule} {t : ByteArray} {p q : Int} {base B c9 : Nat} {A9 : Option Addr}
    (hs : a.eval s = .slice A9 l.length c9) (hx : a.eval x = .slice (some ⟨B, 0, none⟩) 1 1) (hown : OwnRules W base (.slice A9 l.length c9) l) (hB : W.heap[B]? = some (.cells #[.string t, .int .i64 p, .int .i64 q] 111 (0, 0))) (hlen : l.length ≤ 1099511627775) (hbase : base ≤ W.heap.size)
    (h : ∀ A10 c10 w10, OwnRules w10 base (.slice A10 (l.length + 1) c10) (l ++ [⟨t, p, q⟩]) → (∀ k v, W.heap[k]? = some (.cells #[v] 30 (0, 0)) → Boxed w10 k 30 v) → Below base W w10 → K (a.put o.dst (.slice A10 (l.length + 1) c10)) w10) :
    if Region.wanted o (yielded ops a.tmps) = true then Oper.wp Try.prog o a W K Q else E := by
  refine step_append_rules hgd s x ho (base := base) (l := l) (ys := [⟨t, p, q⟩]) (S := fun _ => True) hs hx hown (one_sl hB) (by simp; omega) hbase ?_
  intro v' w' own hgr hbl
  obtain ⟨A9, c9, rfl, _⟩ := own_nil own
  have e : (l ++ [(⟨t, p, q⟩ : GRule)]).length = l.length + 1 := by simp
  rw [e] at own ⊢
  exact h A9 c9 w' own (fun k v hk => Boxed.kept hk hgr (Boxed.not_row hk (by decide) hown)) hbl
theorem drawn_post {w wx : World} {b N M : Nat} {most : Int} {v : Value} {xs : List GRule} (h : DrSt w b M wx v xs) (hlt : b < w.heap.size) (hM : M ≤ N + 200) (hok : DrawnOk most xs) (hl : xs.length ≤ 14) (u : Value) :
    DrawnPost b N most w (.returned (.agg #[v])) (wx.setCell ⟨w.heap.size, 0, none⟩ u) := by
  have hb2 : Below w.heap.size wx (wx.setCell ⟨w.heap.size, 0, none⟩ u) := (Below.refl _ _).setCell (p := ⟨w.heap.size, 0, none⟩) (Nat.le_refl _) _
  have own : OwnRules (wx.setCell ⟨w.heap.size, 0, none⟩ u) (w.heap.size + 2) v xs := ownsRow_setCell_other (a := ⟨w.heap.size, 0, none⟩) h.own (Boxed.not_row h.b0 (by decide) h.own).symm _
  refine ⟨v, xs, rfl, own.slS (fun g hg => ?_), hok, hl, (h.src.keepB hb2 hlt).more hM, h.but.up hb2 (Nat.le_refl _)⟩
  have := World.ownsRow.lt own g hg
  exact ⟨by omega, this.2⟩
set_option maxRecDepth 100000 in
set_option maxHeartbeats 40000000 in
theorem l02Drawn_any (b N : Nat) (most : Int) (w : World) (h : Src w b N) (hN : N ≤ 800000) :
    Calls Try.prog 58 #[.pointer (some ⟨b, 0, none⟩), .int .i64 most] w (DrawnPost b N most w) := by
  have hlt := h.lt
  have HS := Lib.hid h
  clear h
  go_enter Try.func58, Try.ntmps58
  go_wp2_with fail
  have hW0 : DrSt w b N ((w.alloc (.cells #[.slice none 0 0] 30)).alloc (.cells #[.slice none 0 0] 30)) (.slice none 0 0) [] := by
    have hb : Below w.heap.size w ((w.alloc (.cells #[.slice none 0 0] 30)).alloc (.cells #[.slice none 0 0] 30)) := ((Below.refl _ w).alloc (Nat.le_refl _) _).alloc (by simp) _
    refine ⟨HS.out.keep hb, But.of hb, ?_, ?_, World.ownsRow_nil _ _ _ _⟩
    · have h0 : Boxed (w.alloc (.cells #[.slice none 0 0] 30)) w.heap.size 30 (.slice none 0 0) := heap_alloc_new w _
      exact Boxed.up h0 ((Below.refl (w.heap.size + 1) _).alloc (by rw [World.size_alloc]; exact Nat.le_refl _) _) (Nat.lt_succ_self _)
    · have := heap_alloc_new (w.alloc (.cells #[.slice none 0 0] 30)) (.cells #[.slice none 0 0] 30)
      rw [World.size_alloc] at this
      exact this
  refine (pick_any b N 3 _ hW0.src (by omega)).mono ?_
  rintro r w1 ⟨x, rfl, hx, _, hs1, hb1⟩
  have H1 := Lib.hid (hW0.pick hb1 hs1 hlt)
  have hx3 : x ≤ 2 := by omega
  clear hW0 hs1 hb1 hx
  go_wp2_with fail
  go_loopw [7] (fun i wx => ∃ (k : Nat) (v : Value), k ≤ x + 1 ∧ i = .int .i64 (k : Int) ∧ DrSt w b (N + 2) wx v (letG k)) (fun i _ => x + 1 - (intOf i).toNat)
  case atStart => exact ⟨0, _, Nat.zero_le _, rfl, H1.out⟩
  case round =>
    obtain ⟨k, v, hk, rfl, hst⟩ := hrel
    have Hst := Lib.hid hst
    obtain ⟨A, c, rfl, _⟩ := own_nil hst.own
    have hcb := Boxed.cell hst.b1
    have hfb := Boxed.frozen hst.b1
    have hzr := hst.lt
    by_cases hlt1 : k < x + 1
    · have hlI : (k : Int) < 1 + (x : Int) := by omega
      have Hlen : Hid ((letG k).length ≤ 1099511627775) := by rw [Hid, letG_len]; omega
      clear hst
      have HA := Lib.hid (fun (o1 o2 : Obj) => ((Below.refl (w.heap.size + 2) wr).alloc (show w.heap.size + 2 ≤ wr.heap.size by omega) o1).alloc (by rw [World.size_alloc]; omega) o2)
      have hk3 : k = 0 ∨ k = 1 ∨ k = 2 := by omega
      rcases hk3 with rfl | rfl | rfl
      · have hcv := convB [97] wr.heap.size 0 1 1 (wr.alloc (.cells #[.int .u8 97] 5)) rfl (by
          intro t ht
          have : t = 0 := by simpa using ht
          subst this
          simp [go_sem])
        go_wp2_with (first
          | (at_builtin; refine list_push_rule (base := w.heap.size + 2) (t := ⟨#[97]⟩) (p := 0) (q := 0) rfl _ _ rfl rfl rfl (by simp) (Hst.out.own.alloc _) Hlen.out (by first | omega | (simp; done) | (simp; omega)) ?_; intro v3 w3 own3 hg3 hb3; obtain ⟨A3, c3, rfl, _⟩ := own_nil own3; have hb9 := (HA.out _ _).trans hb3; have bx3 := Boxed.up Hst.out.b1 hb9 (Nat.lt_succ_self _); have hcb3 := Boxed.cell bx3; have hfb3 := Boxed.frozen bx3))
        refine ⟨⟨1, _, by omega, rfl, Hst.out.put hlt hb9 (letG_own own3 rfl)⟩, by first | (simp [intOf]; done) | (simp [intOf]; omega)⟩
      · have hcv := convB [98] wr.heap.size 0 1 1 (wr.alloc (.cells #[.int .u8 98] 5)) rfl (by
          intro t ht
          have : t = 0 := by simpa using ht
          subst this
          simp [go_sem])
        go_wp2_with (first
          | (at_builtin; refine list_push_rule (base := w.heap.size + 2) (t := ⟨#[98]⟩) (p := 0) (q := 0) rfl _ _ rfl rfl rfl (by simp) (Hst.out.own.alloc _) Hlen.out (by first | omega | (simp; done) | (simp; omega)) ?_; intro v3 w3 own3 hg3 hb3; obtain ⟨A3, c3, rfl, _⟩ := own_nil own3; have hb9 := (HA.out _ _).trans hb3; have bx3 := Boxed.up Hst.out.b1 hb9 (Nat.lt_succ_self _); have hcb3 := Boxed.cell bx3; have hfb3 := Boxed.frozen bx3))
        refine ⟨⟨2, _, by omega, rfl, Hst.out.put hlt hb9 (letG_own own3 rfl)⟩, by first | (simp [intOf]; done) | (simp [intOf]; omega)⟩
      · have hcv := convB [99] wr.heap.size 0 1 1 (wr.alloc (.cells #[.int .u8 99] 5)) rfl (by
          intro t ht
          have : t = 0 := by simpa using ht
          subst this
          simp [go_sem])
        go_wp2_with (first
          | (at_builtin; refine list_push_rule (base := w.heap.size + 2) (t := ⟨#[99]⟩) (p := 0) (q := 0) rfl _ _ rfl rfl rfl (by simp) (Hst.out.own.alloc _) Hlen.out (by first | omega | (simp; done) | (simp; omega)) ?_; intro v3 w3 own3 hg3 hb3; obtain ⟨A3, c3, rfl, _⟩ := own_nil own3; have hb9 := (HA.out _ _).trans hb3; have bx3 := Boxed.up Hst.out.b1 hb9 (Nat.lt_succ_self _); have hcb3 := Boxed.cell bx3; have hfb3 := Boxed.frozen bx3))
        refine ⟨⟨3, _, by omega, rfl, Hst.out.put hlt hb9 (letG_own own3 rfl)⟩, by first | (simp [intOf]; done) | (simp [intOf]; omega)⟩
    · have hkx : k = x + 1 := by omega
      subst hkx
      have hlI : ¬ ((x + 1 : Nat) : Int) < 1 + (x : Int) := by omega
      have Hok := Lib.hid (letG_ok most x hx3)
      have Hl14 : Hid ((letG (x + 1)).length ≤ 3) := by rw [Hid, letG_len]; omega
      obtain ⟨X, hX⟩ : ∃ X, letG (x + 1) = X := ⟨_, rfl⟩
      rw [hX] at Hok Hl14 Hst
      have hXl : (letG (x + 1)).length = X.length := by rw [hX]
      clear hst hX hcb hfb hlI hzr H1
      go_wp2_with fail
      refine (pick_any b (N + 2) 12 _ Hst.out.src (by omega)).mono ?_
      rintro r w2 ⟨y, rfl, hy, _, hs2, hb2⟩
      have H2 := Lib.hid (Hst.out.pick hb2 hs2 hlt)
      have hy11 : y ≤ 11 := by omega
      clear Hst hs2 hb2 hy
      go_wp2_with fail
      go_loopw [8] (fun i wx => ∃ (k : Nat) (v : Value) (xs : List GRule), k ≤ y ∧ i = .int .i64 (k : Int) ∧ DrawnOk most xs ∧ xs.length + k ≤ 14 ∧ DrSt w b (N + 100 - 8 * k) wx v xs) (fun i _ => (intOf i).toNat)
      case atStart => exact ⟨y, _, X, Nat.le_refl _, rfl, Hok.out, by have := Hl14.out; omega, ⟨H2.out.src.more (by omega), H2.out.but, H2.out.b0, H2.out.b1, H2.out.own⟩⟩
      case round =>
        obtain ⟨k, v, xs, hk, rfl, hok, hlk, hst⟩ := hrel
        have Hst := Lib.hid hst
        have Hok := Lib.hid hok
        obtain ⟨A2, c2, rfl, _⟩ := own_nil hst.own
        have hcb := Boxed.cell hst.b1
        have hfb := Boxed.frozen hst.b1
        have hcb0 := Boxed.cell hst.b0
        have hfb0 := Boxed.frozen hst.b0
        have hzr := hst.lt
        by_cases hk0 : k = 0
        · subst hk0
          clear hst hok
          go_wp2_with fail
          refine bodyPost_ret (v := .agg #[.slice A2 xs.length c2]) (by simp [results, Try.results58, go_sem, hcb0]) rfl (drawn_post Hst.out hlt (by omega) Hok.out (by omega) _)
        · have hkI : (0 : Int) < (k : Int) := by omega
          have hn0 := hok.2.1
          clear hst hok
          go_upto_if 49 with (first
            | (go_at_call 59; refine (pick_any b _ xs.length _ Hst.out.src (by omega)).mono ?_; rintro r w3 ⟨p, rfl, hp, _, hs3, hb3⟩)
            | (go_at_call 59; refine (pick_any b _ xs.length _ hs3 (by omega)).mono ?_; rintro r w4 ⟨q, rfl, hq, _, hs4, hb4⟩)
            | (go_at_call 62; refine (one_any b _ 2 _ (hs4.keep ((Below.refl _ _).alloc (Nat.le_refl _) _)) (by omega)).mono ?_; rintro r w5 ⟨t5, rfl, hs5, hb5⟩))
          have hb4' := Boxed3.new w4 ⟨#[]⟩ p q
          have R5 : Boxed3 w5 w4.heap.size ⟨#[]⟩ p q := hb4'.but hb5 (by have := hb3.size; have := hb4.size; omega)
          have hst4 := (Hst.out.pick hb3 hs3 hlt).pick hb4 hs4 hlt
          have hst5 := (hst4.up ((Below.refl w4.heap.size w4).alloc (Nat.le_refl _) (.cells #[.string ⟨#[]⟩, .int .i64 (p : Int), .int .i64 (q : Int)] 111))).pick hb5 hs5 hlt
          have H5 := Lib.hid hst5
          have HR5 := Lib.hid R5
          have z4 : w.heap.size + 2 ≤ w4.heap.size := by have := hst4.lt; omega
          have hp2 : p < xs.length := by omega
          have hq2 : q < xs.length := by omega
          have hAR : ∀ g, (Value.slice A2 xs.length c2).ownBlock = some g → g ≠ w4.heap.size := fun g hg => by
            have h1 := (World.ownsRow.lt Hst.out.own g hg).2
            have h2 := hb3.size
            have h3 := hb4.size
            omega
          obtain ⟨R, hR⟩ : ∃ R, w4.heap.size = R := ⟨_, rfl⟩
          rw [hR] at HR5 z4 hAR
          rw [hR]
          have hrc := HR5.out.c1
          have hrf := HR5.out.f1
          have hnI : IntKind.i64.wrap ((xs.length : Int) - 1) = (xs.length : Int) - 1 := IntWalk.i64_in _ (by omega)
          clear hst4 hst5 R5 hb4' hs3 hs4 hs5 hb3 hb4 hb5 hR hcb hfb hcb0 hfb0 hp hq
          go_cut [] (fun wx => ∃ p2 : Nat, p2 < xs.length ∧ DrSt w b (N + 100 - 8 * k + 6) wx (.slice A2 xs.length c2) xs ∧ Boxed3 wx R ⟨#[]⟩ p2 q)
          case first =>
            cases t5 with
            | true =>
              go_wp2
              go_meet
              refine ⟨xs.length - 1, by omega, H5.out.far hlt z4 hAR _, ?_⟩
              have := HR5.out.set1 (xs.length - 1)
              rw [show ((xs.length - 1 : Nat) : Int) = (xs.length : Int) - 1 by omega] at this
              exact this
            | false =>
              go_wp2
              go_meet
              exact ⟨p, hp2, H5.out, HR5.out⟩
          case rest =>
            obtain ⟨p2, hpp, hst6, hbx6⟩ := hcut
            have H6 := Lib.hid hst6
            have HR6 := Lib.hid hbx6
            clear hst6 hbx6 hrc hrf H5 HR5 hp2
            go_upto_if 54 with (first
              | (go_at_call 62; refine (one_any b _ 3 _ H6.out.src (by omega)).mono ?_; rintro r w7 ⟨t7, rfl, hs7, hb7⟩))
            have hst7 := H6.out.pick hb7 hs7 hlt
            have hR7 := HR6.out.but hb7 (by omega)
            have H7 := Lib.hid hst7
            have HR7 := Lib.hid hR7
            have hrc := HR7.out.c2
            have hrf := HR7.out.f2
            clear hst7 hR7 hs7 hb7 H6 HR6
            go_cut [] (fun wx => ∃ q2 : Nat, q2 < xs.length ∧ DrSt w b (N + 100 - 8 * k + 8) wx (.slice A2 xs.length c2) xs ∧ Boxed3 wx R ⟨#[]⟩ p2 q2)
            case first =>
              cases t7 with
              | true =>
                go_wp2
                go_meet
                refine ⟨xs.length - 1, by omega, H7.out.far hlt z4 hAR _, ?_⟩
                have := HR7.out.set2 (xs.length - 1)
                rw [show ((xs.length - 1 : Nat) : Int) = (xs.length : Int) - 1 by omega] at this
                exact this
              | false =>
                go_wp2
                go_meet
                exact ⟨q, hq2, H7.out, HR7.out⟩
            case rest =>
              obtain ⟨q2, hqq, hst8, hbx8⟩ := hcut
              have H8 := Lib.hid hst8
              have HR8 := Lib.hid hbx8
              have hrc0 := hbx8.c0
              have hrc1 := hbx8.c1
              have hrc2 := hbx8.c2
              have hcb := Boxed.cell hst8.b1
              have hfb := Boxed.frozen hst8.b1
              clear hst8 hbx8 hrc hrf H7 HR7 hq2
              go_upto_region 16 with fail
              have HSl := Lib.hid H8.out.own.sl
              have hlt8 := H8.out.lt
              go_cut [11] (fun u11 wx => ∃ (L : Nat) (A3 : Option Addr) (c3 : Nat), u11 = .pointer (some ⟨L, 0, none⟩) ∧ w.heap.size + 2 ≤ L ∧ DrSt w b (N + 100 - 8 * k + 8) wx (.slice A2 xs.length c2) xs ∧ Boxed wx L 30 (.slice A3 (xs.length + 1) c3) ∧ OwnRules wx (w.heap.size + 2) (.slice A3 (xs.length + 1) c3) (xs ++ [⟨⟨#[]⟩, p2, q2⟩]))
              case first =>
                have hRlt : R < wc.heap.size := (Array.getElem?_eq_some_iff.1 HR8.out.box).1
                have HRlt := Lib.hid hRlt
                have hb1lt : w.heap.size + 1 < wc.heap.size := by omega
                have HX := Lib.hid (show xs.length ≤ 1099511627775 by omega)
                have HCB := Lib.hid hcb
                have HRC0 := Lib.hid hrc0
                have HRC1 := Lib.hid hrc1
                have HRC2 := Lib.hid hrc2
                go_region_held3 (fun w' => Below wc.heap.size wc w' ∧ w'.cell? ⟨w.heap.size + 1, 0, none⟩ = some (.slice A2 xs.length c2) ∧ w'.cell? ⟨R, 0, none⟩ = some (.string ⟨#[]⟩) ∧ w'.cell? ⟨R, 1, none⟩ = some (.int .i64 (p2 : Int)) ∧ w'.cell? ⟨R, 2, none⟩ = some (.int .i64 (q2 : Int)))
                  (first | (with_reducible refine keepDr HCB.out hb1lt HRC0.out HRC1.out HRC2.out HRlt.out ?_; (repeat (first | exact B10 | exact B9 | exact Below.refl _ _ | refine Below.drew ?_ | (refine Below.setCell ?_ (by first | exact Nat.le_refl _ | (show _ ≤ _; omega) | (simp; done) | (simp; omega)) _) | (refine Below.alloc ?_ (by first | omega | (simp; done) | (simp; omega)) _)))))
                  (first
                    | ((fail_if_success (have hx9 := B9)); refine step_app0 (base := wc.heap.size) (ys := xs) (S := fun k => k < wc.heap.size) (by rfl) _ _ (by rfl) (by rfl) (by rfl) (by ((repeat (first | (with_reducible assumption) | ((with_reducible refine heap_newD ?_); (focus (first | (exact (World.size_alloc _ _).symm) | (simp; done) | (simp; omega)))) | ((with_reducible refine heap_new' ?_); (focus (first | (exact (World.size_alloc _ _).symm) | (simp; done) | (simp; omega)))) | (with_reducible apply heap_drew) | (with_reducible apply heap_up) | ((with_reducible refine hkk hk9 ?_ ?_); (focus (first | (simp; done) | (simp; omega) | omega))))); all_goals fail "left")) (by first | omega | (simp; done)) (HSl.out.keep (Keep.of_below (by (repeat (first | (with_reducible exact B9) | (with_reducible exact Below.refl _ _) | with_reducible refine Below.drew ?_ | (with_reducible refine Below.alloc ?_ (by first | omega | (simp; done) | (simp; omega)) _)))))) (Nat.le_succ_of_le HX.out) ?_; intro A9 c9 w9 own9 hk9 hb9; have B9 : Below wc.heap.size wc w9 := Below.trans (by (repeat (first | (with_reducible exact B9) | (with_reducible exact Below.refl _ _) | with_reducible refine Below.drew ?_ | (with_reducible refine Below.alloc ?_ (by first | omega | (simp; done) | (simp; omega)) _)))) hb9; have hs9 := B9.size)
                    | ((fail_if_success (have hx10 := B10)); refine step_app1 (base := wc.heap.size) (l := xs) (by rfl) _ _ (by rfl) (by rfl) (by rfl) (by (repeat (first | (with_reducible exact own9) | with_reducible apply OwnRules.drew | with_reducible apply OwnRules.alloc))) (by ((repeat (first | (with_reducible assumption) | ((with_reducible refine heap_newD ?_); (focus (first | (exact (World.size_alloc _ _).symm) | (simp; done) | (simp; omega)))) | ((with_reducible refine heap_new' ?_); (focus (first | (exact (World.size_alloc _ _).symm) | (simp; done) | (simp; omega)))) | (with_reducible apply heap_drew) | (with_reducible apply heap_up) | ((with_reducible refine hkk hk9 ?_ ?_); (focus (first | (simp; done) | (simp; omega) | omega))))); all_goals fail "left")) HX.out (by first | exact hs9 | (simp; omega)) ?_; intro A10 c10 w10 own10 hk10 hb10; have B10 : Below wc.heap.size wc w10 := Below.trans (by (repeat (first | (with_reducible exact B9) | (with_reducible exact Below.refl _ _) | with_reducible refine Below.drew ?_ | (with_reducible refine Below.alloc ?_ (by first | omega | (simp; done) | (simp; omega)) _)))) hb10; have hs10 := B10.size; (try (refine withL (hk10 (wc.heap.size) (.slice none 0 0)) ?_ ?_; (focus ((repeat (first | (with_reducible assumption) | ((with_reducible refine heap_newD ?_); (focus (first | (exact (World.size_alloc _ _).symm) | (simp; done) | (simp; omega)))) | ((with_reducible refine heap_new' ?_); (focus (first | (exact (World.size_alloc _ _).symm) | (simp; done) | (simp; omega)))) | (with_reducible apply heap_drew) | (with_reducible apply heap_up) | ((with_reducible refine hkk hk9 ?_ ?_); (focus (first | (simp; done) | (simp; omega) | omega))))); all_goals fail "left")); intro bL10; have hcL := Boxed.cell bL10; have hfL := Boxed.frozen bL10; have hlL := (Array.getElem?_eq_some_iff.1 bL10).1)); (try (refine withL (hk10 (wc.heap.size + 1) (.slice none 0 0)) ?_ ?_; (focus ((repeat (first | (with_reducible assumption) | ((with_reducible refine heap_newD ?_); (focus (first | (exact (World.size_alloc _ _).symm) | (simp; done) | (simp; omega)))) | ((with_reducible refine heap_new' ?_); (focus (first | (exact (World.size_alloc _ _).symm) | (simp; done) | (simp; omega)))) | (with_reducible apply heap_drew) | (with_reducible apply heap_up) | ((with_reducible refine hkk hk9 ?_ ?_); (focus (first | (simp; done) | (simp; omega) | omega))))); all_goals fail "left")); intro bL10; have hcL := Boxed.cell bL10; have hfL := Boxed.frozen bL10; have hlL := (Array.getElem?_eq_some_iff.1 bL10).1)); (try (refine withL (hk10 (wc.heap.size + 1 + 1) (.slice none 0 0)) ?_ ?_; (focus ((repeat (first | (with_reducible assumption) | ((with_reducible refine heap_newD ?_); (focus (first | (exact (World.size_alloc _ _).symm) | (simp; done) | (simp; omega)))) | ((with_reducible refine heap_new' ?_); (focus (first | (exact (World.size_alloc _ _).symm) | (simp; done) | (simp; omega)))) | (with_reducible apply heap_drew) | (with_reducible apply heap_up) | ((with_reducible refine hkk hk9 ?_ ?_); (focus (first | (simp; done) | (simp; omega) | omega))))); all_goals fail "left")); intro bL10; have hcL := Boxed.cell bL10; have hfL := Boxed.frozen bL10; have hlL := (Array.getElem?_eq_some_iff.1 bL10).1)); (try (refine withL (hk10 (w9.heap.size) (.slice none 0 0)) ?_ ?_; (focus ((repeat (first | (with_reducible assumption) | ((with_reducible refine heap_newD ?_); (focus (first | (exact (World.size_alloc _ _).symm) | (simp; done) | (simp; omega)))) | ((with_reducible refine heap_new' ?_); (focus (first | (exact (World.size_alloc _ _).symm) | (simp; done) | (simp; omega)))) | (with_reducible apply heap_drew) | (with_reducible apply heap_up) | ((with_reducible refine hkk hk9 ?_ ?_); (focus (first | (simp; done) | (simp; omega) | omega))))); all_goals fail "left")); intro bL10; have hcL := Boxed.cell bL10; have hfL := Boxed.frozen bL10; have hlL := (Array.getElem?_eq_some_iff.1 bL10).1)); (try (refine withL (hk10 (w9.heap.size + 1) (.slice none 0 0)) ?_ ?_; (focus ((repeat (first | (with_reducible assumption) | ((with_reducible refine heap_newD ?_); (focus (first | (exact (World.size_alloc _ _).symm) | (simp; done) | (simp; omega)))) | ((with_reducible refine heap_new' ?_); (focus (first | (exact (World.size_alloc _ _).symm) | (simp; done) | (simp; omega)))) | (with_reducible apply heap_drew) | (with_reducible apply heap_up) | ((with_reducible refine hkk hk9 ?_ ?_); (focus (first | (simp; done) | (simp; omega) | omega))))); all_goals fail "left")); intro bL10; have hcL := Boxed.cell bL10; have hfL := Boxed.frozen bL10; have hlL := (Array.getElem?_eq_some_iff.1 bL10).1))))
                all_goals
                  go_wp2_with fail
                  go_meet
                  have o10 := ownsRow_more own10 (base' := w.heap.size + 2) (by omega)
                  first
                    | exact ⟨w10.heap.size, A10, c10, rfl, by omega, H8.out.up (B10.alloc hs10 _), heap_alloc_new _ _, World.ownsRow.alloc o10 _⟩
                    | exact ⟨_, A10, c10, rfl, by omega, H8.out.up (B10.setCell (by (try dsimp only); omega) _), Boxed.set _ bL10, ownsRow_setCell_other o10 (Boxed.not_row bL10 (by decide) own10).symm _⟩
              case rest =>
                obtain ⟨L, A3, c3, rfl, hL, hst9, hbx9, own9⟩ := hcut
                have hsmY : SmallL (xs ++ [(⟨⟨#[]⟩, (p2 : Int), (q2 : Int)⟩ : GRule)]) := by
                  intro r hr
                  rcases List.mem_append.1 hr with hr | hr
                  · exact Hok.out.2.2.2 r hr
                  · rw [List.mem_singleton] at hr; subst hr; show (0 : Nat) ≤ _; decide
                obtain ⟨Y, hY⟩ : ∃ Y, xs ++ [(⟨⟨#[]⟩, (p2 : Int), (q2 : Int)⟩ : GRule)] = Y := ⟨_, rfl⟩
                have hYl : Y.length = xs.length + 1 := by rw [← hY]; simp
                rw [hY] at own9 hsmY
                rw [← hYl] at own9 hbx9
                have H9 := Lib.hid hst9
                have HB9 := Lib.hid hbx9
                have HO9 := Lib.hid own9
                have HSY := Lib.hid (OwnRules.sl own9)
                have HsmY := Lib.hid hsmY
                have hcY := Boxed.cell hbx9
                have hLlt := (Array.getElem?_eq_some_iff.1 hbx9).1
                clear hst9 hbx9 own9 H8 HR8 HSl hrc0 hrc1 hrc2 hcb hfb hlt8 hsmY hY
                cases hg : gramOk Y with
                | false =>
                  go_wp2_with (first
                    | (go_at_call 43; (refine (l02Ok_any L 0 _ Y _ hcY hLlt HSY.out HsmY.out).mono ?_); rintro r w11 ⟨hr, hb11⟩; rw [hg] at hr; subst hr; have H11 := Lib.hid (H9.out.up hb11); have hcb1 := Boxed.cell H11.out.b1; have hfb1 := Boxed.frozen H11.out.b1; have hcb0 := Boxed.cell H11.out.b0; have hfb0 := Boxed.frozen H11.out.b0))
                  refine bodyPost_ret (v := .agg #[.slice A2 xs.length c2]) (by simp [results, Try.results58, go_sem, hcb0]) rfl (drawn_post H11.out hlt (by omega) Hok.out (by omega) _)
                | true =>
                  obtain ⟨_, ls, hls⟩ := gram_lens hg
                  have hgl := gramLen_of hls
                  by_cases hmo : lastI ls ≤ most
                  · have hmI : ¬ most < lastI ls := by omega
                    go_wp2_with (first
                      | (go_at_call 43; (refine (l02Ok_any L 0 _ Y _ hcY hLlt HSY.out HsmY.out).mono ?_); rintro r w11 ⟨hr, hb11⟩; rw [hg] at hr; subst hr; have H11 := Lib.hid (H9.out.up hb11); have hcY1 := (hb11.cell (p := ⟨L, 0, none⟩) hLlt).trans hcY; have hLlt1 := Nat.lt_of_lt_of_le hLlt hb11.size; have HSY1 := Lib.hid (HSY.out.up hb11))
                      | (go_at_call 29; (refine (l02Length_any L 0 _ Y ls _ hls hcY1 hLlt1 HSY1.out HsmY.out (by omega)).mono ?_); rintro r w12 ⟨rfl, hb12⟩; have H12 := Lib.hid (H11.out.up hb12); have hcY2 := (hb12.cell (p := ⟨L, 0, none⟩) hLlt1).trans hcY1; have hcb1 := Boxed.cell H12.out.b1; have hfb1 := Boxed.frozen H12.out.b1))
                    have o12 := (HO9.out.below hb11).below hb12
                    rw [hYl] at o12
                    have s12 := H12.out.put hlt (Below.refl _ _) o12
                    rw [show N + 100 - 8 * k + 8 = N + 100 - 8 * (k - 1) by omega] at s12
                    exact ⟨⟨k - 1, _, Y, by omega, by rw [show ((k - 1 : Nat) : Int) = (k : Int) - 1 by omega], ⟨hg, by omega, fun _ => by rw [hgl]; exact hmo, HsmY.out⟩, by omega, s12⟩, by first | (simp [intOf]; done) | (simp [intOf]; omega)⟩
                  · have hmI : most < lastI ls := by omega
                    go_wp2_with (first
                      | (go_at_call 43; (refine (l02Ok_any L 0 _ Y _ hcY hLlt HSY.out HsmY.out).mono ?_); rintro r w11 ⟨hr, hb11⟩; rw [hg] at hr; subst hr; have H11 := Lib.hid (H9.out.up hb11); have hcY1 := (hb11.cell (p := ⟨L, 0, none⟩) hLlt).trans hcY; have hLlt1 := Nat.lt_of_lt_of_le hLlt hb11.size; have HSY1 := Lib.hid (HSY.out.up hb11))
                      | (go_at_call 29; (refine (l02Length_any L 0 _ Y ls _ hls hcY1 hLlt1 HSY1.out HsmY.out (by omega)).mono ?_); rintro r w12 ⟨rfl, hb12⟩; have H12 := Lib.hid (H11.out.up hb12); have hcb1 := Boxed.cell H12.out.b1; have hfb1 := Boxed.frozen H12.out.b1; have hcb0 := Boxed.cell H12.out.b0; have hfb0 := Boxed.frozen H12.out.b0))
                    refine bodyPost_ret (v := .agg #[.slice A2 xs.length c2]) (by simp [results, Try.results58, go_sem, hcb0]) rfl (drawn_post H12.out hlt (by omega) Hok.out (by omega) _)
def Blk (w : World) (b : Nat) (a : Array Value) (t : TypeId) : Prop := w.heap[b]? = some (.cells a t (0, 0))
section
variable {w w' : World} {b N : Nat} {a : Array Value} {t : TypeId}
theorem Blk.lt (h : Blk w b a t) : b < w.heap.size := (Array.getElem?_eq_some_iff.1 h).1
theorem Blk.up (h : Blk w b a t) (hb : Below w.heap.size w w') : Blk w' b a t := (hb.block b h.lt).trans h
theorem Blk.upB (h : Blk w b a t) (hb : Below N w w') (hlt : b < N) : Blk w' b a t := (hb.block b hlt).trans h
theorem Blk.cell (h : Blk w b a t) {i : Nat} {v : Value} (hi : a[i]? = some v) : w.cell? ⟨b, i, none⟩ = some v := by
  rw [cell_of_row w b i a t (0, 0) h, hi]
theorem Blk.frozen (h : Blk w b a t) (i : Nat) : w.frozen? ⟨b, i, none⟩ = false := by
  simp [World.frozen?, show w.heap[b]? = _ from h]
theorem Blk.set (h : Blk w b a t) (i : Nat) (v : Value) : Blk (w.setCell ⟨b, i, none⟩ v) b (a.setIfInBounds i v) t := by
  obtain ⟨hlt, hk⟩ := Array.getElem?_eq_some_iff.1 h
  show (w.heap.modify b _)[b]? = _
  rw [Array.getElem?_eq_getElem (by rw [Array.size_modify]; exact hlt), Array.getElem_modify_self, hk]
  rfl
theorem Blk.other (h : Blk w b a t) {p : Addr} (hne : b ≠ p.block) (v : Value) : Blk (w.setCell p v) b a t := (Below.heap_setCell w p v b hne).trans h
theorem Blk.alloc (h : Blk w b a t) (o : Obj) : Blk (w.alloc o) b a t := (Below.heap_alloc w o b h.lt).trans h
theorem Blk.drew (h : Blk w b a t) : Blk w.drew b a t := h
theorem Blk.new (w : World) (a : Array Value) (t : TypeId) : Blk (w.alloc (.cells a t)) w.heap.size a t := heap_alloc_new w _
end
theorem Blk.but {w w' : World} {b c : Nat} {a : Array Value} {t : TypeId} (h : Blk w c a t) (hb : But b w w') (hne : c ≠ b) : Blk w' c a t := (hb.block c h.lt hne).trans h
theorem Below.up {w0 w w' : World} {N : Nat} (h : Below N w0 w) (hb : Below w.heap.size w w') (hN : N ≤ w0.heap.size) : Below N w0 w' := h.trans (hb.mono (Nat.le_trans hN h.size))
theorem Below.tr {w0 w w' : World} (h : Below w0.heap.size w0 w) (hb : Below w.heap.size w w') : Below w0.heap.size w0 w' := h.trans (hb.mono h.size)
section
variable {w w' : World} {b : Nat} {ks : List GRule} {r : GRule}
end
section
variable {w0 W : World} {base bm bx : Nat} {X : GRule} {ks K : List GRule} {v4 v6 : Value} {S : List Int}
end
section
variable {w w' : World} {b : Nat} {N : List Bool} {l : List Int}
end
theorem boxed_other {W : World} {B B' o : Nat} {t : TypeId} {v : Value} (h : Boxed W B t v) (hne : B ≠ B') (u : Value) : Boxed (W.setCell ⟨B', o, none⟩ u) B t v := (Below.heap_setCell _ _ _ _ hne).trans h
theorem push_int2 {W : World} {ops : Array Oper} {rest : List Oper} {o : Oper} {a : Act} {Q : Exit → Act → World → Prop} (hgd : o.guard = none) (s x : Operand)
    (ho : o.op = .call { callee := .builtin .append, args := #[s, x], argTypes := #[34, 34] }) {y : Int} {base : Nat} {v : Value} {l : List Int}
    (hs : a.eval s = v) {N : Nat} (hx : a.eval x = .slice (some ⟨N, 0, none⟩) 1 1) (hN : N = W.heap.size) (hown : OwnInts W base v l) (hlen : l.length ≤ 1099511627776) (hbase : base ≤ W.heap.size)
    (h : ∀ v' w', OwnInts w' base v' (l ++ [y]) → (W.alloc (.cells #[.int .i64 y] 2)).grownBy w' v.ownBlock → (v'.ownBlock = v.ownBlock ∨ v'.ownBlock = some (W.heap.size + 1)) → wpList Try.prog ops Q rest (a.put o.dst v') w') :
    wpList Try.prog ops Q (o :: rest) a (W.alloc (.cells #[.int .i64 y] 2)) := by
  subst hN
  obtain ⟨i0, hi0, hz0, hz1, hz2⟩ := info_parts Try.infoI
  refine wpList_push2 hgd s x 34 ho i0 (.int .i64 0) 1 8 Try.underlying34 hi0 hz0 hz1 hz2 rfl (by decide) hs hx rfl (by simp [Value.oneCell']) hown (by omega) (by omega) hbase ?_
  intro v' w' h1 h2 h3
  exact h v' w' (by unfold OwnInts; simpa using h1) h2 h3
section
variable {w wx w' : World} {b M M' P : Nat} {S st : Int} {vF : Value} {F : List Int} {vN : Value} {k : Nat} {vs : List Value} {N : List (List Int)}
end
theorem l00Min_any (a b : Int) (w : World) : Calls Try.prog 60 #[.int .i64 a, .int .i64 b] w fun e w' => e = .returned (.int .i64 (min a b)) ∧ w = w' := by
  by_cases h : a < b
  · have e : min a b = a := by omega
    rw [e]
    go_enter Try.func60, Try.ntmps60
    go_wp2
    go_ret
    exact ⟨rfl, rfl⟩
  · have e : min a b = b := by omega
    rw [e]
    go_enter Try.func60, Try.ntmps60
    go_wp2
    go_ret
    exact ⟨rfl, rfl⟩
section
variable {w wx w' : World} {F P n : Nat} {vN : Value} {k : Nat} {vs : List Value} {N : List (List Int)}
end
end Go.Proofs.Ytfkijaamfmpboaa
namespace Go.Proofs
open Go.Shelf
def Ytfkijaamfmpboaa.laysR_ren : Go.Shelf.Ren := ⟨fun | 35 => 81 | n => n, fun | 0 => 0 | 3 => 3 | 4 => 4 | 22 => 41 | 23 => 5 | n => n, fun | n => n⟩
theorem Ytfkijaamfmpboaa.laysR : SlLaysE.n35 Try.prog Ytfkijaamfmpboaa.laysR_ren := {
  mixed := by kernel_rfl
  f35 := ⟨"slices.Reverse[[]byte,byte]", by decide, Try.func81.trans (congrArg some (by kernel_rfl))⟩
  t0 := Try.underlying0
  a0 := Try.isAgg0
  z0 := Try.sizeOf0
  v0 := Try.zeroValue0
  t3 := Try.underlying3
  a3 := Try.isAgg3
  z3 := Try.sizeOf3
  v3 := Try.zeroValue3
  t4 := Try.underlying4
  a4 := Try.isAgg4
  z4 := Try.sizeOf4
  v4 := Try.zeroValue4
  t22 := Try.underlying41
  a22 := Try.isAgg41
  z22 := Try.sizeOf41
  v22 := Try.zeroValue41
  a23 := Try.isAgg5
  z23 := Try.sizeOf5 }
end Go.Proofs
namespace Go.Proofs.Ytfkijaamfmpboaa
open Go.RowKit
def encB (x : UInt8) : Value := .int .u8 (x.toNat : Int)
theorem reverse_bytes (b n c : Nat) (l : List UInt8) (w : World) (hn : n = l.length) (hl : l.length ≤ 1000000) (h : ∀ t (ht : t < l.length), w.cell? ⟨b, t, none⟩ = some (.int .u8 (l[t].toNat : Int)) ∧ w.frozen? ⟨b, t, none⟩ = false) :
    Calls Try.prog 81 #[.slice (some ⟨b, 0, none⟩) n c] w fun e w' => e = .returned (.tuple #[]) ∧ (∀ B, B ≤ b → Below B w w') ∧ ∀ t (ht : t < l.reverse.length), w'.cell? ⟨b, 0 + t, none⟩ = some (.int .u8 (l.reverse[t].toNat : Int)) := by
  subst hn
  have hH : Sort.Holds encB w b 0 l.toArray := by
    intro j hj
    have hj' : j < l.length := by simpa using hj
    have := h j hj'
    rw [Nat.zero_add]
    refine ⟨this.1.trans ?_, this.2⟩
    rw [getElem!_pos _ j hj]; simp [encB]
  refine (AnyE.slices_Reverse Ytfkijaamfmpboaa.laysR encB (fun _ => rfl) b 0 c l w hH (by omega)).mono ?_
  rintro e w' ⟨rfl, q, rfl⟩
  rw [Lib.putRow_eq_setCells _ w b 0 _ _ q hH (by simp)]
  refine ⟨rfl, fun B hB => ?_, fun t ht => ?_⟩
  · exact Go.below_setCells hB _ 0 _ ⟨rfl, rfl, rfl, Nat.le_refl _, fun _ _ => rfl⟩
  · have := World.cell?_setCells_in b (l.reverse.map encB) 0 (w.drewN q) (fun j hj => by
      have hj' : j < l.length := by simpa using hj
      rw [Nat.zero_add]
      show (w.cell? ⟨b, j, none⟩).isSome = true
      rw [(h j hj').1]; rfl) t (by simpa using ht)
    rw [this]; simp [encB]
set_option maxRecDepth 100000 in
set_option maxHeartbeats 2000000 in
theorem turned_any (s : ByteArray) (w : World) (hs : s.size ≤ 1000000) :
    Calls Try.prog 52 #[.string s] w fun e w' => e = .returned (.string ⟨s.data.toList.reverse.toArray⟩) ∧ Below w.heap.size w w' := by
  go_enter Try.func52, Try.ntmps52
  go_wp2_with fail
  rw [Lib.run_convert_string_bytes w _ _ 5 s Try.underlying9 Try.underlying41 Try.underlying5]
  simp only [Result.andThen]
  rw [Oper.upon_value]
  have hb1 : Below w.heap.size w (Lib.bytesWorld w 5 s) := ⟨rfl, rfl, rfl, by rw [Lib.bytesWorld_size]; omega, fun j hj => Lib.bytesWorld_at_old w 5 s j hj⟩
  have hc1 : ∀ t (ht : t < s.data.toList.length), (Lib.bytesWorld w 5 s).cell? ⟨w.heap.size, t, none⟩ = some (.int .u8 (s.data.toList[t].toNat : Int)) ∧ (Lib.bytesWorld w 5 s).frozen? ⟨w.heap.size, t, none⟩ = false := by
    intro t ht
    have ht' : t < s.size := by simpa using ht
    refine ⟨?_, ?_⟩
    · rw [Lib.bytesWorld_cell w _ s t ht', List.getD_eq_getElem?_getD, List.getElem?_eq_getElem ht]; rfl
    · have hz : t < (Lib.bytesCells w 5 s).size := by simp [Lib.bytesCells]; omega
      simp [World.frozen?, Lib.bytesWorld_at_new]
      omega
  have Rev := Lib.hid (reverse_bytes w.heap.size s.size (grownCap w s.size 0 5) s.data.toList (Lib.bytesWorld w 5 s) (by simp) (by simp; omega) hc1)
  have HB1 := Lib.hid hb1
  clear hb1 hc1
  revert Rev HB1
  generalize Lib.bytesWorld w 5 s = w1
  generalize grownCap w s.size 0 5 = cp
  intro Rev HB1
  go_wp2_with fail
  refine Rev.out.mono ?_
  rintro e w2 ⟨rfl, hb2, hc2⟩
  have hcv := convB s.data.toList.reverse w.heap.size 0 s.size cp w2 (by simp) hc2
  have B2 := Lib.hid (HB1.out.trans (hb2 _ (Nat.le_refl _)))
  clear hb2 hc2
  go_wp2_with fail
  go_ret
  exact ⟨rfl, B2.out⟩
set_option maxRecDepth 100000 in
set_option maxHeartbeats 2000000 in
theorem l02Letter_any (b o : Nat) (vR vL : Value) (xs : List GRule) (ls : List Int) (i : Int) (c : UInt8) (w : World) (hp : w.cell? ⟨b, o, none⟩ = some vR) (hR : Sl RuleE w w.heap.size vR xs) (hL : Sl IntE w w.heap.size vL ls)
    (hl : lens xs = some ls) (hn : xs.length ≤ 1099511627776) (hi : 0 ≤ i) (hc : (wordG xs)[i.toNat]? = some c) :
    Calls Try.prog 61 #[.pointer (some ⟨b, o, none⟩), vL, .int .i64 i] w fun e w' => e = .returned (.int .u8 c.toNat) ∧ w = w' := by
  have h0 : 0 < xs.length := by
    refine Nat.pos_of_ne_zero fun e => ?_
    have hx : xs = [] := List.eq_nil_of_length_eq_zero e
    subst hx
    simp [wordG] at hc
  have hll := lens_length hl
  rw [wordG_pos h0] at hc
  have hlt := (List.getElem?_eq_some_iff.1 hc).1
  have hWl := W1_len hl (xs.length - 1) (by omega)
  obtain ⟨AR, cR, rfl, _, hmR, hrowR⟩ := hR
  obtain ⟨AL, cL, rfl, _, hmL, hrowL⟩ := hL
  unfold maxLen at hmR hmL
  obtain ⟨bR, oR, rfl, hbR, hcR⟩ := hrowR.rule h0
  obtain ⟨bL, oL, rfl, hbL, hcL⟩ := hrowL.int (k := 0) (by omega)
  have HcR := Lib.hid hcR
  have HcL := Lib.hid hcL
  have Hll := Lib.hid hll
  have Hl := Lib.hid hl
  have hm1 : (xs.length : Int) - 1 = ((xs.length - 1 : Nat) : Int) := by omega
  obtain ⟨m, hm⟩ : ∃ m, xs.length - 1 = m := ⟨_, rfl⟩
  rw [hm] at hm1 hc hlt hWl
  have hmx : m < xs.length := by omega
  have Hc := Lib.hid hc
  have hq0 : i < ls.getD m 0 := by omega
  have Hq0 := Lib.hid hq0
  have Hm1 := Lib.hid hm1
  clear hrowR hrowL hcR hcL hll hl hc hlt hWl hm hq0
  go_enter Try.func61, Try.ntmps61
  go_wp2_with fail
  go_loopw [2, 7] (fun q a wx => ∃ (r : Nat) (z : Int), r < xs.length ∧ a = .int .i64 (r : Int) ∧ q = .int .i64 z ∧ 0 ≤ z ∧ z < ls.getD r 0 ∧ (W1 xs r)[z.toNat]? = some c ∧ wx = w) (fun _ a _ => (intOf a).toNat)
  case atStart => exact ⟨m, i, hmx, rfl, rfl, hi, Hq0.out, Hc.out, rfl⟩
  case round =>
    obtain ⟨r, z, hr, rfl, rfl, hz, hzl, hw, rfl⟩ := hrel
    obtain ⟨k0, k1, k2⟩ := HcR.out r _ (getR_at hr)
    have hri : (r : Int) < (xs.length : Int) := by omega
    have Hw := Lib.hid hw
    have Hzl := Lib.hid hzl
    obtain ⟨R, hR⟩ : ∃ R, getR xs r = R := ⟨_, rfl⟩
    rw [hR] at k0 k1 k2
    have HR := Lib.hid hR
    clear hw hzl hR hm1
    by_cases hp2 : R.letter.toList.isEmpty = true
    · have hpr : (getR xs r).pair = true := by rw [HR.out]; rw [isEmpty_size] at hp2; exact hp2
      obtain ⟨q1, q2, q3, q4, q5⟩ := lens_pair Hl.out hr hpr
      have hW := W1_pair Hl.out hr hpr
      rw [HR.out] at q1 q2 q3 q4 q5 hW
      obtain ⟨la, hla⟩ := Int.eq_ofNat_of_zero_le q1
      obtain ⟨ra, hra⟩ := Int.eq_ofNat_of_zero_le q3
      rw [hla] at q2 k1
      rw [hra] at q4 k2
      rw [hla, hra] at hW q5
      simp only [Int.toNat_natCast] at q2 q4 q5 hW
      have hlw := W1_len Hl.out la (by omega)
      have cl := HcL.out la (by have := Hll.out; omega)
      have hli : (la : Int) < (ls.length : Int) := by have := Hll.out; omega
      have hpl := lens_pos' Hl.out (r := la) (by omega)
      have hpr2 := lens_pos' Hl.out (r := r) hr
      obtain ⟨LA, hLA⟩ : ∃ x, ls.getD la 0 = x := ⟨_, rfl⟩
      rw [hLA] at cl hlw hpl q5
      have HLA := Lib.hid hLA
      have Hq5 := Lib.hid q5
      have Hlw := Lib.hid hlw
      have HW := Lib.hid hW
      have hzb : z ≤ 1000000000000000 := by have := Hzl.out; omega
      clear hpr q1 q3 hla hra hLA q5 hlw hW hpr2
      by_cases hc1 : z < LA
      · go_wp2_with fail
        refine ⟨⟨la, z, by omega, rfl, rfl, hz, by rw [HLA.out]; exact hc1, ?_, trivial⟩, by simp [intOf]; omega⟩
        have := Hw.out
        rwa [HW.out, List.getElem?_append_left (by have := Hlw.out; omega)] at this
      · go_wp2_with fail
        refine ⟨⟨ra, z - LA, by omega, rfl, rfl, by omega, by have := Hq5.out; have := Hzl.out; omega, ?_, trivial⟩, by simp [intOf]; omega⟩
        have := Hw.out
        rw [HW.out, List.getElem?_append_right (by have := Hlw.out; omega)] at this
        rwa [show z.toNat - (W1 xs la).length = (z - LA).toNat by have := Hlw.out; omega] at this
    · have hp3 : R.letter.toList.isEmpty = false := by simpa using hp2
      have hpr : (getR xs r).pair = false := by rw [HR.out]; rw [isEmpty_size] at hp3; exact hp3
      have hsz := isLet_size (lens_isLet Hl.out hr hpr)
      have hone := lens_letter Hl.out hr hpr
      have hW := W1_let hpr
      rw [HR.out] at hsz hW
      have hz0 : z = 0 := by have := Hzl.out; omega
      have hcc : R.letter.data.toList[0]? = some c := by
        have := Hw.out
        rw [hW, hz0] at this; exact this
      have hs0 : 0 < R.letter.size := by omega
      have hget : R.letter[0]'hs0 = c := by
        rw [toList_getElem? _ _ hs0] at hcc
        exact Option.some.inj hcc
      have Hget := Lib.hid hget
      clear hp2 hpr hone hW hz0 hcc hget
      go_wp2_with fail
      go_ret
      exact ⟨by rw [← Hget.out]; rfl, rfl⟩
theorem raiseR_letter (n : Nat) (r : GRule) : (raiseR n r).letter = r.letter := by unfold raiseR; split <;> rfl
theorem joinG_small {xs ys : List GRule} (h : SmallL xs) (h' : SmallL ys) : SmallL (joinG xs ys) := by
  unfold joinG
  split
  · exact h'
  split
  · exact h
  rename_i h0 h0'
  intro r hr
  rcases List.mem_append.1 hr with hr | hr
  · rcases List.mem_append.1 hr with hr | hr
    · exact h r hr
    · obtain ⟨a, ha, rfl⟩ := List.mem_map.1 hr
      rw [raiseR_letter]; exact h' a ha
  · rw [List.mem_singleton] at hr; subst hr; exact (by decide : (0 : Nat) ≤ 9223372036854775807)
set_option maxHeartbeats 1000000 in
theorem specJoin_any (v u : Value) (xs ys : List GRule) (w : World) (h : Sl RuleE w w.heap.size v xs) (h' : Sl RuleE w w.heap.size u ys) (hn : xs.length ≤ 1048576) (hn' : ys.length ≤ 1048576) (hs : SmallL xs) (hs' : SmallL ys) :
    Calls Try.prog 84 #[.agg #[v], .agg #[u]] w (GRes (joinOut xs ys) (joinCode xs ys) w) := by
  have h1 := fun o o' o'' => (h.below ((((Below.refl w.heap.size w).alloc (Nat.le_refl _) o).alloc (by simp) o').alloc (by first | omega | (simp; done) | (simp; omega)) o'')).le (B' := (((w.alloc o).alloc o').alloc o'').heap.size) (by simp; omega)
  have h2 := fun o o' o'' => (h'.below ((((Below.refl w.heap.size w).alloc (Nat.le_refl _) o).alloc (by simp) o').alloc (by first | omega | (simp; done) | (simp; omega)) o'')).le (B' := (((w.alloc o).alloc o').alloc o'').heap.size) (by simp; omega)
  have H1 := Lib.hid h1
  have H2 := Lib.hid h2
  have Hs := Lib.hid hs
  have Hs' := Lib.hid hs'
  clear h1 h2 hs hs'
  obtain ⟨A, c, rfl, hc, hm, hrow⟩ := h
  obtain ⟨A', c', rfl, hc', hm', hrow'⟩ := h'
  clear hm hm' hrow hrow'
  go_enter Try.func84, Try.ntmps84
  go_wp2_with fail
  refine (l02Ok_any _ _ _ _ _ (by simp [go_sem]) (by first | omega | (simp; done) | (simp; omega)) (H1.out _ _ _) Hs.out).mono ?_
  rintro e w1 ⟨rfl, hb1⟩
  obtain ⟨hc1, hf1⟩ := bcell hb1
  have hz1 : w.heap.size + 2 < w1.heap.size := by have := hb1.size; simp at this; omega
  have a1 : w1.cell? ⟨w.heap.size, 0, none⟩ = some (.slice A xs.length c) := by rw [hc1 _ _ (by first | omega | (simp; done) | (simp; omega))]; simp [go_sem]
  have b1 : w1.cell? ⟨w.heap.size + 1, 0, none⟩ = some (.slice A' ys.length c') := by rw [hc1 _ _ (by first | omega | (simp; done) | (simp; omega))]; simp [go_sem]
  have c1 : w1.cell? ⟨w.heap.size + 2, 0, none⟩ = some (.slice none 0 0) := by rw [hc1 _ _ (by first | omega | (simp; done) | (simp; omega))]; simp [go_sem]
  have f1 : w1.frozen? ⟨w.heap.size + 2, 0, none⟩ = false := by rw [hf1 _ _ (by first | omega | (simp; done) | (simp; omega))]; simp [go_sem]
  have S1 := Lib.hid ((H1.out (Obj.cells #[Value.slice A xs.length c] 30) (Obj.cells #[Value.slice A' ys.length c'] 30) (Obj.cells #[Value.slice none 0 0] 30)).up hb1)
  have T1 := Lib.hid ((H2.out (Obj.cells #[Value.slice A xs.length c] 30) (Obj.cells #[Value.slice A' ys.length c'] 30) (Obj.cells #[Value.slice none 0 0] 30)).up hb1)
  have B1 := Lib.hid ((((Below.refl w.heap.size w).alloc (Nat.le_refl _) (Obj.cells #[Value.slice A xs.length c] 30)).alloc (by simp) (Obj.cells #[Value.slice A' ys.length c'] 30)).alloc (by simp; omega) (Obj.cells #[Value.slice none 0 0] 30) |>.trans (hb1.mono (by simp; omega)))
  clear hc1 hf1 hb1
  by_cases hok : gramOk xs = true
  · have hok2 : (!gramOk xs) = false := by simp [hok]
    have Hok := Lib.hid hok
    clear hok
    go_wp2_with fail
    refine (l02Ok_any _ _ _ _ _ b1 (by omega) T1.out Hs'.out).mono ?_
    rintro e w2 ⟨rfl, hb2⟩
    have z2 : w1.heap.size ≤ w2.heap.size := hb2.size
    have hz2 : w.heap.size + 2 < w2.heap.size := by omega
    have a2 := cell_up a1 hb2 (by omega)
    have b2 := cell_up b1 hb2 (by omega)
    have c2 := cell_up c1 hb2 (by omega)
    have f2 : w2.frozen? ⟨w.heap.size + 2, 0, none⟩ = false := by rw [hb2.frozen hz1, f1]
    have S2 := Lib.hid (S1.out.up hb2)
    have T2 := Lib.hid (T1.out.up hb2)
    have B2 := Lib.hid (B1.out.trans (hb2.mono (by omega)))
    clear a1 b1 c1 f1 hb2
    by_cases hoky : gramOk ys = true
    · have hoky2 : (!gramOk ys) = false := by simp [hoky]
      have Hoky := Lib.hid hoky
      clear hoky
      go_wp2_with fail
      refine (l02Join_any _ _ _ _ _ _ _ _ _ a2 b2 (by omega) (by omega) S2.out T2.out hn hn' (gram_smallP Hoky.out)).mono ?_
      rintro e w3 ⟨hb3, v3, own3, rfl⟩
      have z3 : w2.heap.size ≤ w3.heap.size := hb3.size
      have hz3 : w.heap.size + 2 < w3.heap.size := by omega
      have c3 := cell_up c2 hb3 (by omega)
      have f3 : w3.frozen? ⟨w.heap.size + 2, 0, none⟩ = false := by rw [hb3.frozen hz2, f2]
      have B3 := Lib.hid (B2.out.trans (hb3.mono (by omega)))
      have O3 := Lib.hid own3
      clear a2 b2 c2 f2 hb3 own3
      go_wp2_with fail
      refine (l02Told_any _ _ _ _ O3.out (joinG_small Hs.out Hs'.out)).mono ?_
      rintro e w4 ⟨hb4, v4, own4, rfl⟩
      obtain ⟨A4, k4, rfl, _⟩ := own_nil own4
      have c4 := cell_up c3 hb4 (by omega)
      have f4 : w4.frozen? ⟨w.heap.size + 2, 0, none⟩ = false := by rw [hb4.frozen hz3, f3]
      have B4 := Lib.hid (B3.out.trans (hb4.mono (by omega)))
      have O4 := Lib.hid own4
      clear c3 f3 hb4 own4
      have e1 : joinOut xs ys = limOut (joinG xs ys) := by rw [joinOut, Hok.out, Hoky.out]; rfl
      have e2 : joinCode xs ys = limCode (joinG xs ys) := by rw [joinCode, Hok.out, Hoky.out]; rfl
      have E1 := Lib.hid e1
      have E2 := Lib.hid e2
      clear e1 e2
      go_wp2
      refine bodyPost_ret (v := .tuple #[.agg #[.slice A4 (limOut (joinG xs ys)).length k4], .int .i64 (limCode (joinG xs ys))]) (by simp [results, Try.results84, go_sem, c4]) rfl ⟨?_, _, ?_, by rw [E2.out]⟩
      · exact B4.out.setCell (by show w.heap.size ≤ w.heap.size + 2; omega) _
      · rw [E1.out]
        exact ownsRow_more (ownsRow_setCell_below O4.out (a := ⟨w.heap.size + 2, 0, none⟩) (by show w.heap.size + 2 < w2.heap.size; omega) _) (by omega)
    · have hoky2 : (!gramOk ys) = true := by simp [hoky]
      have Hoky := Lib.hid hoky
      clear hoky
      go_wp2
      refine bodyPost_ret (v := .tuple #[.agg #[.slice none 0 0], .int .i64 1]) (by simp [results, Try.results84, go_sem, c2]) rfl ⟨?_, _, ?_, by rw [joinCode, if_neg (by simp [Hoky.out])]⟩
      · exact B2.out.setCell (by show w.heap.size ≤ w.heap.size + 2; omega) _
      · rw [joinOut, if_neg (by simp [Hoky.out])]; exact World.ownsRow_nil _ _ _ _
  · have hok2 : (!gramOk xs) = true := by simp [hok]
    have Hok := Lib.hid hok
    clear hok
    go_wp2
    refine bodyPost_ret (v := .tuple #[.agg #[.slice none 0 0], .int .i64 1]) (by simp [results, Try.results84, go_sem, c1]) rfl ⟨?_, _, ?_, by rw [joinCode, if_neg (by simp [Hok.out])]⟩
    · exact B1.out.setCell (by show w.heap.size ≤ w.heap.size + 2; omega) _
    · rw [joinOut, if_neg (by simp [Hok.out])]; exact World.ownsRow_nil _ _ _ _
section
variable {α : Type} {E : Enc α} {w w1 w2 : World} {o : Obj} {v : Value} {xs : List α}
end
end Go.Proofs.Ytfkijaamfmpboaa
namespace Go.Proofs
open Go.Shelf
def Ytfkijaamfmpboaa.lays169_ren : Go.Shelf.Ren := ⟨fun | 169 => 96 | n => n, fun | 70 => 135 | 9 => 9 | 0 => 0 | 72 => 137 | 37 => 41 | 127 => 157 | 3 => 3 | 5 => 5 | n => n, fun | n => n⟩
theorem Ytfkijaamfmpboaa.lays169 : Go.Proofs.Lays.n169 Try.prog Ytfkijaamfmpboaa.lays169_ren := {
  mixed := by kernel_rfl
  f169 := Try.func96.trans (congrArg some (by kernel_rfl))
  t0 := Try.underlying0
  a0 := Try.isAgg0
  z0 := Try.sizeOf0
  v0 := Try.zeroValue0
  t3 := Try.underlying3
  a3 := Try.isAgg3
  z3 := Try.sizeOf3
  v3 := Try.zeroValue3
  t9 := Try.underlying9
  a9 := Try.isAgg9
  z9 := Try.sizeOf9
  v9 := Try.zeroValue9
  t37 := Try.underlying41
  a37 := Try.isAgg41
  z37 := Try.sizeOf41
  v37 := Try.zeroValue41
  t70 := Try.underlying135
  a70 := Try.isAgg135
  z70 := Try.sizeOf135
  v70 := Try.zeroValue135
  t72 := Try.underlying137
  a72 := Try.isAgg137
  z72 := Try.sizeOf137
  v72 := Try.zeroValue137
  t127 := Try.underlying157
  a127 := Try.isAgg157
  z127 := Try.sizeOf157
  v127 := Try.zeroValue157 }
theorem Ytfkijaamfmpboaa.Builder_Extra_169 : Builder.Extra Try.prog Ytfkijaamfmpboaa.lays169_ren := {
  sizeBuilder := by kernel_rfl
  liesBuilder := by kernel_rfl
  t5 := Try.underlying5
  a5 := Try.isAgg5
  z5 := Try.sizeOf5
  v5 := Try.zeroValue5
  infoByte := by kernel_rfl
  cellsByte := by kernel_rfl
  sizeByte := by kernel_rfl
  neB5 := by decide }
end Go.Proofs
namespace Go.Proofs.Ytfkijaamfmpboaa
open Go.RowKit
def BuiltB (B b : Nat) (l : List UInt8) (w : World) : Prop := Lib.IsBuilder 137 5 B b (Lib.byteCells l) w
theorem BuiltB.string {B b : Nat} {l : List UInt8} {w : World} (h : BuiltB B b l w) (hBw : B ≤ w.heap.size) :
    Calls Try.prog 96 #[.pointer (some ⟨b, 0, none⟩)] w fun e w' => e = .returned (.string ⟨l.toArray⟩) ∧ Below B w w' := Any.Builder_String_any Ytfkijaamfmpboaa.lays169 Ytfkijaamfmpboaa.Builder_Extra_169 B b l w h hBw
theorem Try.infoBu : (Try.prog.info? 137).map (·.size) = some 2 := by kernel_rfl
theorem Try.liesBu : liesAt Try.prog Try.prog.depth 137 (2 / Try.prog.cellsOf 137) 0 137 1 = true := by kernel_rfl
theorem Try.infoU8 : (Try.prog.info? 5).map (fun i => (i.zero, i.size, i.bytes)) = some (some (.int .u8 0), 1, 1) := by kernel_rfl
set_option maxRecDepth 100000 in
set_option maxHeartbeats 1000000 in
theorem copyCheck_used (b : Nat) (w : World) (h0 : w.cell? ⟨b, 0, none⟩ = some (.pointer (some ⟨b, 0, none⟩))) :
    Calls Try.prog 108 #[.pointer (some ⟨b, 0, none⟩)] w fun e w' => e = .returned (.tuple #[]) ∧ w' = w := by
  obtain ⟨j, hj, _⟩ := Option.map_eq_some_iff.1 Try.infoBu
  go_enter Try.func108, Try.ntmps108
  go_wp2
  rw [Lib.run_neq_ptr_same w _ Try.underlying135 hj]
  go_wp2
  go_end0
  exact ⟨rfl, rfl⟩
set_option maxRecDepth 100000 in
set_option maxHeartbeats 1000000 in
theorem copyCheck_fresh (b : Nat) (w : World) (h0 : w.cell? ⟨b, 0, none⟩ = some (.pointer none)) (hsh : w.shape? b = some (137, 2)) (hfz : w.frozen? ⟨b, 0, none⟩ = false) :
    Calls Try.prog 108 #[.pointer (some ⟨b, 0, none⟩)] w fun e w' => e = .returned (.tuple #[]) ∧ w' = w.setCell ⟨b, 0, none⟩ (.pointer (some ⟨b, 0, none⟩)) := by
  obtain ⟨j, hj, hjs⟩ := Option.map_eq_some_iff.1 Try.infoBu
  go_enter Try.func108, Try.ntmps108
  go_wp2
  rw [Lib.run_to_unsafe w ⟨b, 0, none⟩ Try.underlying135 Try.underlying160 hj (by rw [hjs]; decide) hsh (Nat.zero_lt_succ 1)]
  simp only [Result.andThen]
  rw [Oper.upon_value]
  go_wp2
  rw [run_callFunc_extern Try.func114 (by kernel_rfl) (by kernel_rfl) (by kernel_rfl) (e := Extern.AbiNoEscape.same) (by kernel_rfl)]
  rw [Lib.run_noEscape]
  simp only [Result.andThen]
  rw [Oper.upon_value]
  go_wp2
  rw [Lib.run_from_unsafe w ⟨b, 0, none⟩ Try.underlying160 Try.underlying135 hj hsh Try.liesBu]
  simp only [Result.andThen]
  rw [Oper.upon_value]
  go_wp2
  go_end0
  exact ⟨rfl, rfl⟩
theorem copyCheck_k (B b : Nat) (l : List UInt8) (w : World) (h : BuiltB B b l w) :
    Calls Try.prog 108 #[.pointer (some ⟨b, 0, none⟩)] w fun e w' => e = .returned (.tuple #[]) ∧ Lib.BuilderAt 137 5 B b (.pointer (some ⟨b, 0, none⟩)) (Lib.byteCells l) w' ∧ Below B w w' ∧ Lib.OthersKept 5 (some b) w w' := by
  rcases h with h | h
  · refine (copyCheck_fresh b w h.cell0 h.shape h.frozen0).mono ?_
    rintro e w' ⟨rfl, rfl⟩
    exact ⟨rfl, h.used _, (Below.refl B w).setCell (p := ⟨b, 0, none⟩) h.1 _, (Lib.OthersKept.refl _ _ w).setCell ⟨b, 0, none⟩ rfl _⟩
  · refine (copyCheck_used b w h.cell0).mono ?_
    rintro e w' ⟨rfl, rfl⟩
    exact ⟨rfl, h, Below.refl B _, Lib.OthersKept.refl _ _ _⟩
set_option maxRecDepth 100000 in
set_option maxHeartbeats 2000000 in
theorem writeString_any (B b : Nat) (l : List UInt8) (s : ByteArray) (w : World) (h : BuiltB B b l w) (hlen : l.length + s.size ≤ 140737488355328) (hBw : B ≤ w.heap.size) :
    Calls Try.prog 94 #[.pointer (some ⟨b, 0, none⟩), .string s] w fun e w' => e = .returned (.tuple #[.int .i64 s.size, .nilIface]) ∧ BuiltB B b (l ++ s.data.toList) w' ∧ Below B w w' ∧ Lib.OthersKept 5 (some b) w w' := by
  obtain ⟨i0, hi, hz0, hz1, hz2⟩ := info_parts Try.infoU8
  have hbl : (Lib.byteCells l).length = l.length := by simp [Lib.byteCells]
  go_enter Try.func94, Try.ntmps94
  go_wp2_with fail
  refine (copyCheck_k B b l _ h).mono ?_
  rintro e w1 ⟨rfl, h1, hb1, hk1⟩
  obtain ⟨hB, v, hbk, hown, hne⟩ := h1
  rw [hbl] at hown
  have c0 : w1.cell? ⟨b, 0, none⟩ = some (.pointer (some ⟨b, 0, none⟩)) := by simp [World.cell?, hbk]
  have c1 : w1.cell? ⟨b, 1, none⟩ = some v := by simp [World.cell?, hbk]
  go_wp2_with (at_builtin; refine Lib.wpList_append_own_string _ rfl _ _ 41 9 rfl B 5 i0 Try.underlying41 Try.underlying9 hi hz0 hz1 hz2 v l.length (Lib.byteCells l) rfl hown s rfl ?c3 ?c4 ?c5 ?_)
  case c3 => unfold maxLen; omega
  case c4 => omega
  case c5 => have := hb1.size; omega
  intro v' w2 hown' hgrow _
  have hlt : b < w1.heap.size := (Array.getElem?_eq_some_iff.1 hbk).1
  have hb2 : w2.heap[b]? = some (.cells #[.pointer (some ⟨b, 0, none⟩), v] 137 (0, 0)) := by
    rw [hgrow.block b hlt (fun e => hne e.symm)]
    exact hbk
  have d0 : w2.cell? ⟨b, 0, none⟩ = some (.pointer (some ⟨b, 0, none⟩)) := by simp [World.cell?, hb2]
  have d1 : w2.cell? ⟨b, 1, none⟩ = some v := by simp [World.cell?, hb2]
  have f1 : w2.frozen? ⟨b, 1, none⟩ = false := by simp [World.frozen?, hb2]
  obtain ⟨ao, cap, rfl, _⟩ := own_nil hown'
  go_wp2
  go_ret2
  refine ⟨rfl, .inr ?_, ?_, (hk1.grown hgrow ?_).setCell ⟨b, 1, none⟩ rfl _⟩
  · have e : Lib.byteCells (l ++ s.data.toList) = Lib.byteCells l ++ Lib.strCells s := by simp [Lib.byteCells, Lib.strCells]
    rw [e]
    exact Lib.BuilderAt.put hB hb2 (bs' := Lib.byteCells l ++ Lib.strCells s) (by rw [show (Lib.byteCells l ++ Lib.strCells s).length = l.length + s.size by rw [List.length_append, hbl, Lib.strCells_length]]; exact hown') (by decide)
  · exact (hb1.grown hgrow (by have := hb1.size; omega) (fun k hk => (World.ownsRow.lt hown k hk).1)).setCell (p := ⟨b, 1, none⟩) hB _
  · intro g hg
    rcases hown.2 with ⟨rfl, _⟩ | ⟨g', cap', cur, rfl, _, hb', _⟩
    · cases hg
    · have : g' = g := by simpa [Value.ownBlock] using hg
      subst this; exact ⟨cur, _, hb'⟩
end Go.Proofs.Ytfkijaamfmpboaa
namespace Go.Proofs
open Go.Shelf
end Go.Proofs
namespace Go.Proofs.Ytfkijaamfmpboaa
open Go.RowKit
structure BJ (xs : List GRule) (vR : Value) (bg bs b B : Nat) (C : Nat → Prop) (s : List UInt8) (w : World) : Prop where
  bld : BuiltB B b s w
  hB : B ≤ w.heap.size
  nb : ¬ C b
  no : ∀ k, C k → B ≤ k → ∀ c fz, w.heap[k]? ≠ some (.cells c 5 fz)
  mg : C bg
  ms : C bs
  cg : w.cell? ⟨bg, 0, none⟩ = some vR
  cs : w.cell? ⟨bs, 0, none⟩ = some (.func (.func 93) #[] #[.pointer (some ⟨bg, 0, none⟩), .pointer (some ⟨bs, 0, none⟩), .pointer (some ⟨b, 0, none⟩)])
  sl : SlS RuleE w C vR xs
theorem BuiltB.lt {B b : Nat} {l : List UInt8} {w : World} (h : BuiltB B b l w) : b < w.heap.size := by
  rcases h with h | h
  · exact h.lt
  · exact h.lt
theorem built_keep {B b : Nat} {l : List UInt8} {w w' : World} (h : BuiltB B b l w) (hb : Below w.heap.size w w') : BuiltB B b l w' := by
  rcases h with ⟨h1, v, h2, h3, h4⟩ | ⟨h1, v, h2, h3, h4⟩
  · exact .inl ⟨h1, v, (hb.block b (Array.getElem?_eq_some_iff.1 h2).1).trans h2, ownsRow_below h3 hb, h4⟩
  · exact .inr ⟨h1, v, (hb.block b (Array.getElem?_eq_some_iff.1 h2).1).trans h2, ownsRow_below h3 hb, h4⟩
section
variable {xs : List GRule} {vR : Value} {bg bs b B : Nat}
theorem BJ.ext : ∀ (C : Nat → Prop) (s : List UInt8) (w w' : World), BJ xs vR bg bs b B C s w → Below w.heap.size w w' → NewNoB w.heap.size w' → (∀ k, C k → k < w.heap.size) → BJ xs vR bg bs b B (ext C w.heap.size w'.heap.size) s w' := by
  intro C s w w' h hb hn hC
  refine ⟨built_keep h.bld hb, Nat.le_trans h.hB hb.size, ?_, ?_, .inl h.mg, .inl h.ms, (hb.cell (p := ⟨bg, 0, none⟩) (hC _ h.mg)).trans h.cg, (hb.cell (p := ⟨bs, 0, none⟩) (hC _ h.ms)).trans h.cs, (h.sl.keep fun k hk => hb.block k (hC k hk)).more fun k hk => .inl hk⟩
  · rintro (h1 | h1)
    · exact h.nb h1
    · have := h.bld.lt; omega
  · rintro k (h1 | h1) hk c fz
    · rw [hb.block k (hC k h1)]; exact h.no k h1 hk c fz
    · exact hn k h1.1 c fz
theorem BJ.written {C : Nat → Prop} {s s' : List UInt8} {w w' : World} (h : BJ xs vR bg bs b B C s w) (hbl : BuiltB B b s' w') (hb : Below B w w') (hk : Lib.OthersKept 5 (some b) w w') (hC : ∀ k, C k → k < w.heap.size) : BJ xs vR bg bs b B C s' w' ∧ Wk C w w' := by
  have hblk : ∀ k, C k → w'.heap[k]? = w.heap[k]? := fun k hk' => by
    rcases Nat.lt_or_ge k B with hkB | hkB
    · exact hb.block k hkB
    obtain ⟨o, ho⟩ : ∃ o, w.heap[k]? = some o := ⟨_, Array.getElem?_eq_getElem (hC k hk')⟩
    rw [ho]
    exact hk k o ho (fun e => h.nb (by have : k = b := Option.some.inj e; rw [← this]; exact hk')) (fun c fz e => h.no k hk' hkB c fz (by rw [ho, e]))
  have hw : Wk C w w' := ⟨hb.os, hb.tape, hb.output, hb.size, hblk⟩
  exact ⟨⟨hbl, Nat.le_trans h.hB hb.size, h.nb, fun k hk' hkB c fz => by rw [hblk k hk']; exact h.no k hk' hkB c fz, h.mg, h.ms, hw.cell h.mg h.cg, hw.cell h.ms h.cs, h.sl.keep hw.keep⟩, hw⟩
set_option maxRecDepth 100000 in
set_option maxHeartbeats 4000000 in
theorem spell_any (ls : List Int) (hl : lens xs = some ls) : ∀ (r : Nat) (s : List UInt8) (C : Nat → Prop) (w : World), r < xs.length → BJ xs vR bg bs b B C s w → (∀ k, C k → k < w.heap.size) → s.length + (W1 xs r).length ≤ 1099511627776 →
    Calls Try.prog 93 #[.int .i64 r, .pointer (some ⟨bg, 0, none⟩), .pointer (some ⟨bs, 0, none⟩), .pointer (some ⟨b, 0, none⟩)] w (TakePost (BJ xs vR bg bs b B) C (s ++ W1 xs r) w) := by
  intro r
  induction r using Nat.strongRecOn with
  | _ r ih =>
    intro s C w hr hJ hC hlen
    have HJ := Lib.hid hJ
    have HC := Lib.hid hC
    have Ih := Lib.hid ih
    have hcg := hJ.cg
    have hcs := hJ.cs
    obtain ⟨AR, cR, rfl, _, _, hrowR⟩ := hJ.sl
    obtain ⟨b2, o2, rfl, hb2, hcellR⟩ := hrowR.rule hr
    obtain ⟨k0, k1, k2⟩ := hcellR r _ (getR_at hr)
    have hrx : (r : Int) < (xs.length : Int) := by omega
    have lbg : bg < w.heap.size := hC _ hJ.mg
    have lbs : bs < w.heap.size := hC _ hJ.ms
    have lb2 : b2 < w.heap.size := hC _ hb2
    have eg : ∀ args w, (callFunc 93 args).run Try.prog w = .ok (.enter 93 args) w := enters_of Try.func93 (by kernel_rfl) rfl
    obtain ⟨R, hR⟩ : ∃ R, getR xs r = R := ⟨_, rfl⟩
    rw [hR] at k0 k1 k2
    have HR := Lib.hid hR
    have Hlen := Lib.hid hlen
    clear ih hJ hC hrowR hcellR hb2 hR hlen
    have hBA : ∀ o o', Below w.heap.size w ((w.alloc o).alloc o') := fun o o' => ((Below.refl _ _).alloc (Nat.le_refl _) _).alloc (by simp) _
    have HBA := Lib.hid hBA
    clear hBA
    go_enter Try.func93, Try.ntmps93
    go_wp2_with fail
    refine (isPair_any _ _ _ _).mono ?_
    rintro e w1 ⟨rfl, rfl⟩
    have hN : NewNoB w.heap.size ((w.alloc (Obj.cells #[Value.string R.letter, Value.int IntKind.i64 R.left, Value.int IntKind.i64 R.right] 111)).alloc (Obj.cells #[Value.string R.letter, Value.int IntKind.i64 R.left, Value.int IntKind.i64 R.right] 111)) := ((NewNoB.same w).alloc (NoB.cells (by decide))).alloc (NoB.cells (by decide))
    have hB2 := HBA.out (Obj.cells #[Value.string R.letter, Value.int IntKind.i64 R.left, Value.int IntKind.i64 R.right] 111) (Obj.cells #[Value.string R.letter, Value.int IntKind.i64 R.left, Value.int IntKind.i64 R.right] 111)
    have e0 : ((w.alloc (Obj.cells #[Value.string R.letter, Value.int IntKind.i64 R.left, Value.int IntKind.i64 R.right] 111)).alloc (Obj.cells #[Value.string R.letter, Value.int IntKind.i64 R.left, Value.int IntKind.i64 R.right] 111)).heap[w.heap.size]? = some (Obj.cells #[Value.string R.letter, Value.int IntKind.i64 R.left, Value.int IntKind.i64 R.right] 111 (0, 0)) := ((Below.refl _ _).alloc (Nat.le_refl _) _).block w.heap.size (by simp) |>.trans (heap_alloc_new _ _)
    generalize (w.alloc (Obj.cells #[Value.string R.letter, Value.int IntKind.i64 R.left, Value.int IntKind.i64 R.right] 111)).alloc (Obj.cells #[Value.string R.letter, Value.int IntKind.i64 R.left, Value.int IntKind.i64 R.right] 111) = W2 at *
    have l0 : w.heap.size < W2.heap.size := (Array.getElem?_eq_some_iff.1 e0).1
    have d0 : W2.cell? ⟨w.heap.size, 0, none⟩ = some (.string R.letter) := by simp [World.cell?, e0]
    have d1 : W2.cell? ⟨w.heap.size, 1, none⟩ = some (.int .i64 R.left) := by simp [World.cell?, e0]
    have d2 : W2.cell? ⟨w.heap.size, 2, none⟩ = some (.int .i64 R.right) := by simp [World.cell?, e0]
    have J2 := BJ.ext C s w W2 HJ.out hB2 hN HC.out
    have hCx : ∀ k, ext C w.heap.size W2.heap.size k → k < W2.heap.size := fun k hk => by
      rcases hk with hk | hk
      · have := HC.out k hk; omega
      · exact hk.2
    have HJ2 := Lib.hid J2
    have HCx := Lib.hid hCx
    have HB2 := Lib.hid hB2
    have hcg2 := J2.cg
    have hcs2 := J2.cs
    clear hN hB2 e0 J2 hCx hcg hcs k0 k1 k2
    by_cases hp : R.letter.toList.isEmpty = true
    · rw [hp]
      have hpr : (getR xs r).pair = true := by rw [HR.out]; rw [isEmpty_size] at hp; exact hp
      obtain ⟨q1, q2, q3, q4, q5⟩ := lens_pair hl hr hpr
      have hW := W1_pair hl hr hpr
      rw [HR.out] at q1 q2 q3 q4 hW
      obtain ⟨la, hla⟩ := Int.eq_ofNat_of_zero_le q1
      obtain ⟨ra, hra⟩ := Int.eq_ofNat_of_zero_le q3
      rw [hla] at q2 d1
      rw [hra] at q4 d2
      rw [hla, hra] at hW
      simp only [Int.toNat_natCast] at q2 q4 hW
      have HW := Lib.hid hW
      have hlenA : s.length + (W1 xs la).length ≤ 1099511627776 := by have := Hlen.out; rw [hW, List.length_append] at this; omega
      have hlenB : (s ++ W1 xs la).length + (W1 xs ra).length ≤ 1099511627776 := by have := Hlen.out; rw [hW, List.length_append] at this; rw [List.length_append]; omega
      have HlA := Lib.hid hlenA
      have HlB := Lib.hid hlenB
      clear hpr hp q5 hW q1 q3 hla hra hlenA hlenB
      go_wp2_with fail
      refine (Ih.out la q2 s _ W2 (by omega) HJ2.out HCx.out HlA.out).mono ?_
      rintro e w3 ⟨rfl, C3, g1, g2, g3, g4⟩
      have d2' : w3.cell? ⟨w.heap.size, 2, none⟩ = some (.int .i64 ra) := g4.cell (Or.inr ⟨Nat.le_refl _, l0⟩) d2
      have hcs3 := g3.cs
      have HJ3 := Lib.hid g3
      have G1 := Lib.hid g1
      have G2 := Lib.hid g2
      have G4 := Lib.hid g4
      clear g1 g2 g3 g4 hcs2 hcg2 d1 d2 d0
      go_wp2_with fail
      refine (Ih.out ra q4 (s ++ W1 xs la) _ w3 (by omega) HJ3.out G2.out HlB.out).mono ?_
      rintro e w4 ⟨rfl, C4, k1, k2, k3, k4⟩
      go_wp2_with fail
      go_end0
      refine ⟨rfl, C4, fun k hk => k1 _ (G1.out _ (.inl hk)), k2, ?_, ?_⟩
      · rw [HW.out, ← List.append_assoc]; exact k3
      · exact ((Wk.of_below HB2.out HC.out).trans (G4.out.mono fun k hk => .inl hk)).trans (k4.mono fun k hk => G1.out _ (.inl hk))
    · have hp2 : R.letter.toList.isEmpty = false := by simpa using hp
      have hpr : (getR xs r).pair = false := by rw [HR.out]; rw [isEmpty_size] at hp2; exact hp2
      have hW := W1_let hpr
      have hsz := isLet_size (lens_isLet hl hr hpr)
      rw [HR.out] at hW hsz
      have HW := Lib.hid hW
      have hlenA : s.length + R.letter.size ≤ 140737488355328 := by
        have := Hlen.out
        omega
      rw [hp2]
      clear hp hpr hW hp2 hcs2 hcg2
      have W := Lib.hid (writeString_any B b s R.letter W2 HJ2.out.bld hlenA HJ2.out.hB)
      go_wp2_with fail
      refine W.out.mono ?_
      rintro e w3 ⟨rfl, hb3, hbl3, ho3⟩
      obtain ⟨J3, hw3⟩ := HJ2.out.written hb3 hbl3 ho3 HCx.out
      go_wp2_with fail
      go_end0
      refine ⟨rfl, _, fun k hk => .inl hk, fun k hk => Nat.lt_of_lt_of_le (HCx.out k hk) hw3.size, ?_, (Wk.of_below HB2.out HC.out).trans (hw3.mono fun k hk => .inl hk)⟩
      rw [HW.out]; exact J3
end
theorem foldl_word (f : Nat → List UInt8) (l : List Nat) (s : List UInt8) : l.foldl (fun s r => s ++ f r) s = s ++ l.flatMap f := by
  induction l generalizing s with
  | nil => simp
  | cons a l ih => rw [List.foldl_cons, ih]; simp
set_option maxRecDepth 100000 in
set_option maxHeartbeats 2000000 in
theorem unpack_any (vR vL : Value) (xs : List GRule) (ls : List Int) (i j : Int) (w : World) (hR : Sl RuleE w w.heap.size vR xs) (hL : Sl IntE w w.heap.size vL ls) (hl : lens xs = some ls) (hn : xs.length ≤ 1099511627776)
    (hlen : (cutL (wordG xs) i j).length ≤ 1099511627776) :
    Calls Try.prog 69 #[.agg #[vR], vL, .int .i64 i, .int .i64 j] w fun e w' => e = .returned (.string ⟨(cutL (wordG xs) i j).toArray⟩) ∧ Below w.heap.size w w' := by
  have HR := Lib.hid hR
  have HL := Lib.hid hL
  obtain ⟨AR, cR, rfl, _⟩ := hR
  obtain ⟨AL, cL, rfl, _⟩ := hL
  have hword := pieces_word hl (i := i) (j := j)
  have Hword := Lib.hid hword
  have Hl := Lib.hid hl
  clear hword hl
  go_enter Try.func69, Try.ntmps69
  go_wp2_with fail
  have hz0 : (((w.alloc (Obj.cells #[Value.slice AR xs.length cR] 30)).alloc (Obj.cells #[Value.pointer none, Value.slice none 0 0] 137)).alloc (Obj.cells #[Value.func (Fn.func 93) #[] #[Value.pointer (some ⟨w.heap.size, 0, none⟩), Value.pointer (some ⟨w.heap.size + 1 + 1, 0, none⟩), Value.pointer (some ⟨w.heap.size + 1, 0, none⟩)]] 138)).heap.size = w.heap.size + 3 := by simp
  have hB0 : Below w.heap.size w (((w.alloc (Obj.cells #[Value.slice AR xs.length cR] 30)).alloc (Obj.cells #[Value.pointer none, Value.slice none 0 0] 137)).alloc (Obj.cells #[Value.func (Fn.func 93) #[] #[Value.pointer (some ⟨w.heap.size, 0, none⟩), Value.pointer (some ⟨w.heap.size + 1 + 1, 0, none⟩), Value.pointer (some ⟨w.heap.size + 1, 0, none⟩)]] 138)) := (by repeat (first | exact Below.refl _ _ | (refine Below.alloc ?_ (by first | omega | (simp; done) | (simp; omega)) _) | refine below_drewN ?_ _ | refine Below.drew ?_))
  have hx0 : (((w.alloc (Obj.cells #[Value.slice AR xs.length cR] 30)).alloc (Obj.cells #[Value.pointer none, Value.slice none 0 0] 137)).alloc (Obj.cells #[Value.func (Fn.func 93) #[] #[Value.pointer (some ⟨w.heap.size, 0, none⟩), Value.pointer (some ⟨w.heap.size + 1 + 1, 0, none⟩), Value.pointer (some ⟨w.heap.size + 1, 0, none⟩)]] 138)).cell? ⟨w.heap.size, 0, none⟩ = some (.slice AR xs.length cR) := by simp [go_sem]
  have hx2 : (((w.alloc (Obj.cells #[Value.slice AR xs.length cR] 30)).alloc (Obj.cells #[Value.pointer none, Value.slice none 0 0] 137)).alloc (Obj.cells #[Value.func (Fn.func 93) #[] #[Value.pointer (some ⟨w.heap.size, 0, none⟩), Value.pointer (some ⟨w.heap.size + 1 + 1, 0, none⟩), Value.pointer (some ⟨w.heap.size + 1, 0, none⟩)]] 138)).cell? ⟨w.heap.size + 2, 0, none⟩ = some (.func (.func 93) #[] #[.pointer (some ⟨w.heap.size, 0, none⟩), .pointer (some ⟨w.heap.size + 2, 0, none⟩), .pointer (some ⟨w.heap.size + 1, 0, none⟩)]) := by simp [go_sem]
  have hx1 : (((w.alloc (Obj.cells #[Value.slice AR xs.length cR] 30)).alloc (Obj.cells #[Value.pointer none, Value.slice none 0 0] 137)).alloc (Obj.cells #[Value.func (Fn.func 93) #[] #[Value.pointer (some ⟨w.heap.size, 0, none⟩), Value.pointer (some ⟨w.heap.size + 1 + 1, 0, none⟩), Value.pointer (some ⟨w.heap.size + 1, 0, none⟩)]] 138)).heap[w.heap.size + 1]? = some (.cells #[.pointer none, .slice none 0 0] 137 (0, 0)) := by
    have h1 : ((w.alloc (Obj.cells #[Value.slice AR xs.length cR] 30)).alloc (Obj.cells #[Value.pointer none, Value.slice none 0 0] 137)).heap[w.heap.size + 1]? = some (.cells #[.pointer none, .slice none 0 0] 137 (0, 0)) := by
      have := heap_alloc_new (w.alloc (Obj.cells #[Value.slice AR xs.length cR] 30)) (Obj.cells #[Value.pointer none, Value.slice none 0 0] 137)
      rwa [show (w.alloc (Obj.cells #[Value.slice AR xs.length cR] 30)).heap.size = w.heap.size + 1 by simp] at this
    exact (Below.heap_alloc _ _ _ (by simp)).trans h1
  have hnb : ∀ c fz, (((w.alloc (Obj.cells #[Value.slice AR xs.length cR] 30)).alloc (Obj.cells #[Value.pointer none, Value.slice none 0 0] 137)).alloc (Obj.cells #[Value.func (Fn.func 93) #[] #[Value.pointer (some ⟨w.heap.size, 0, none⟩), Value.pointer (some ⟨w.heap.size + 1 + 1, 0, none⟩), Value.pointer (some ⟨w.heap.size + 1, 0, none⟩)]] 138)).heap[w.heap.size + 2]? ≠ some (.cells c 5 fz) := fun c fz => (((((NewNoB.same w).alloc (NoB.cells (by decide))).alloc (NoB.cells (by decide))).alloc (NoB.cells (by decide)))) (w.heap.size + 2) (by omega) c fz
  generalize ((w.alloc (Obj.cells #[Value.slice AR xs.length cR] 30)).alloc (Obj.cells #[Value.pointer none, Value.slice none 0 0] 137)).alloc (Obj.cells #[Value.func (Fn.func 93) #[] #[Value.pointer (some ⟨w.heap.size, 0, none⟩), Value.pointer (some ⟨w.heap.size + 1 + 1, 0, none⟩), Value.pointer (some ⟨w.heap.size + 1, 0, none⟩)]] 138) = w0 at *
  have hJ : BJ xs (.slice AR xs.length cR) w.heap.size (w.heap.size + 2) (w.heap.size + 1) (w.heap.size + 1) (fun k => k < w.heap.size + 1 ∨ k = w.heap.size + 2) [] w0 := by
    refine ⟨.inl ⟨Nat.le_refl _, _, hx1, World.ownsRow_nil _ _ _ _, by simp [Value.ownBlock]⟩, by omega, by omega, ?_, .inl (by omega), .inr rfl, hx0, hx2, ?_⟩
    · rintro k (h | h) hk c fz
      · omega
      · subst h; exact hnb c fz
    · exact (HR.out.below hB0).more fun k hk => .inl (by omega)
  have HB0 := Lib.hid hB0
  have HJ := Lib.hid hJ
  have HZ0 := Lib.hid hz0
  clear hz0 hB0 hx0 hx1 hx2 hnb hJ
  have hcnt : ∀ l : List Nat, (l.foldl (fun s r => s ++ W1 xs r) []).length = (l.flatMap (W1 xs)).length := fun l => by rw [foldl_word]; simp
  refine (pieces_any (BJ xs (.slice AR xs.length cR) w.heap.size (w.heap.size + 2) (w.heap.size + 1) (w.heap.size + 1)) (fun s r => s ++ W1 xs r) (fun s r => s.length + (W1 xs r).length ≤ 1099511627776) 93 #[.pointer (some ⟨w.heap.size, 0, none⟩), .pointer (some ⟨w.heap.size + 2, 0, none⟩), .pointer (some ⟨w.heap.size + 1, 0, none⟩)] xs ls i j Hl.out hn (enters_of Try.func93 (by kernel_rfl) rfl) BJ.ext
    (fun C s r w' hJ hok hr hC => spell_any ls Hl.out r s C w' hr hJ hC hok) (.slice AL ls.length cL) (.slice AR xs.length cR) [] (fun k => k < w.heap.size + 1 ∨ k = w.heap.size + 2) w0 HJ.out ?_ ?_ ?_ HJ.out.sl).mono ?_
  · intro l1 r l2 e
    rw [hcnt]
    have := congrArg (fun l => (l.flatMap (W1 xs)).length) e
    simp only [Hword.out, List.flatMap_append, List.flatMap_cons, List.length_append] at this
    omega
  · intro k hk
    have := HZ0.out
    omega
  · exact (HL.out.below HB0.out).more fun k hk => .inl (by omega)
  rintro e w2 ⟨rfl, C2, g1, g2, g3, g4⟩
  rw [foldl_word, List.nil_append, Hword.out] at g3
  have hb2 : Below (w.heap.size + 1) w0 w2 := g4.below fun k hk => .inl hk
  have HB2 := Lib.hid (HB0.out.trans (hb2.mono (by omega)))
  have S := Lib.hid (g3.bld.string g3.hB)
  have hs2 : w.heap.size ≤ w2.heap.size := by have := g3.hB; omega
  clear g1 g2 g3 g4 hb2 hcnt
  go_wp2_with fail
  refine S.out.mono ?_
  rintro e w3 ⟨rfl, hb3⟩
  go_wp2_with fail
  go_ret
  exact ⟨rfl, HB2.out.trans (hb3.mono (by omega))⟩
end Go.Proofs.Ytfkijaamfmpboaa
namespace Go.Proofs
open Go.Shelf Go.RowKit
end Go.Proofs
namespace Go.Proofs.Ytfkijaamfmpboaa
open Go.RowKit
section
variable {w w' : World} {b M : Nat} {l : List Nat}
end
section
variable {w w' : World} {N0 B : Nat} {R : Nat → Nat} {n S : Nat} {M : List (List Nat)}
end
end Go.Proofs.Ytfkijaamfmpboaa
