import Derived.Test.YtdacndamehiglaaGreatDoorM20
set_option maxRecDepth 100000
set_option maxHeartbeats 8000000
namespace Go.Proofs.YtdacndamehiglaaGreatDoor
open Go.RowKit
theorem Src.keepB {w w' : World} {b N B : Nat} (h : Src w b N) (hb : Below B w w') (hB : b < B) : Src w' b N := by
 have hlt := h.lt; obtain ⟨AC, l, cC, a, d, h, h1, h2, h3⟩ := h; exact ⟨AC, l, cC, a, d, (hb.block b hB).trans h, h1, h2, h3.below (hb.mono (Nat.le_of_lt hB))⟩
theorem But.up {b B : Nat} {w w1 w2 : World} (h : But b w w1) (hb : Below B w1 w2) (hB : w.heap.size <= B) : But b w w2 :=
 ⟨hb.os.trans h.os, hb.tape.trans h.tape, hb.output.trans h.output, Nat.le_trans h.size hb.size, fun k hk hne => (hb.block k (Nat.lt_of_lt_of_le hk hB)).trans (h.block k hk hne)⟩
theorem Boxed.but {b B : Nat} {w w' : World} {t : TypeId} {v : Value} (h : Boxed w B t v) (hb : But b w w') (hne : B ≠ b) : Boxed w' B t v := (hb.block B (Array.getElem?_eq_some_iff.1 h).1 hne).trans h
theorem zab.but {b base : Nat} {w w' : World} {v : Value} {l : List zaa} (h : zab w base v l) (hb : But b w w') (hne : b < base) : zab w' base v l := by
 unfold zab at *; obtain ⟨h1, h2⟩ := h; refine ⟨h1, ?_⟩
 rcases h2 with h2 | ⟨g, cap, cur, h3, h4, h5, r⟩
 · exact .inl h2
 · exact .inr ⟨g, cap, cur, h3, h4, (hb.block g (Array.getElem?_eq_some_iff.1 h5).1 yO).trans h5, r⟩
def zgJ (k : Nat) : List zaa := (List.range k).map fun j => ⟨⟨#[UInt8.ofNat (97 + j)]⟩, 0, 0⟩
theorem zkm (k : Nat) : (zgJ k).length = k := by simp [zgJ]
theorem zmo (k : Nat) : zgJ (k + 1) = zgJ k ++ [⟨⟨#[UInt8.ofNat (97 + k)]⟩, 0, 0⟩] := by simp [zgJ, List.range_succ]
def zfC (most : Int) (xs : List zaa) : Prop := zaf xs = true /\ 0 < xs.length /\ (1 <= most -> zao xs <= most) /\ za5 xs
def ziU (b N : Nat) (most : Int) (w : World) (r : Ending) (w' : World) : Prop :=
 ∃ v xs, r = .returned (.agg #[v]) /\ SlS zas w' (fun k => w.heap.size <= k /\ k < w'.heap.size) v xs /\ zfC most xs /\ xs.length <= 14 /\ Src w' b (N + 200) /\ But b w w'
theorem zhX {w : World} {base : Nat} {A : Option Addr} {n c k : Nat} {t : ByteArray} (own : zab w base (.slice A (zgJ k ++ ([⟨t, 0, 0⟩] : List zaa)).length c) (zgJ k ++ [⟨t, 0, 0⟩])) (ht : t = ⟨#[UInt8.ofNat (97 + k)]⟩) (hn : n = (zgJ k).length + 1 := by rfl) : zab w base (.slice A n c) (zgJ (k + 1)) := by
 subst ht; subst hn; rw [zmo]; have e : (zgJ k ++ [(⟨⟨#[UInt8.ofNat (97 + k)]⟩, 0, 0⟩ : zaa)]).length = (zgJ k).length + 1 := by simp
 rw [<- e]; exact own
theorem zol (most : Int) (x : Nat) (hx : x <= 2) : zfC most (zgJ (x + 1)) := by
 have h3 : x = 0 \/ x = 1 \/ x = 2 := by omega
 rcases h3 with rfl | rfl | rfl
 · refine ⟨by decide, by decide, fun h => ?_, ?_⟩
   · rw [show zao (zgJ (0 + 1)) = 1 by decide]; exact h
   · intro r hr; simp [zgJ, List.range_succ] at hr; subst hr; decide
 · refine ⟨by decide, by decide, fun h => ?_, ?_⟩
   · rw [show zao (zgJ (1 + 1)) = 1 by decide]; exact h
   · intro r hr; simp [zgJ, List.range_succ] at hr; rcases hr with rfl | rfl <;> decide
 · refine ⟨by decide, by decide, fun h => ?_, ?_⟩
   · rw [show zao (zgJ (2 + 1)) = 1 by decide]; exact h
   · intro r hr; simp [zgJ, List.range_succ] at hr; rcases hr with rfl | rfl | rfl <;> decide
structure zgZ (w : World) (b M : Nat) (wx : World) (v : Value) (xs : List zaa) : Prop where
 src : Src wx b M
 but : But b w wx
 b0 : Boxed wx w.heap.size 26 (.slice none 0 0)
 b1 : Boxed wx (w.heap.size + 1) 26 v
 own : zab wx (w.heap.size + 2) v xs
theorem zgZ.pick {w wx w' : World} {b M M' : Nat} {v : Value} {xs : List zaa} (h : zgZ w b M wx v xs) (hb : But b wx w') (hs : Src w' b M') (hlt : b < w.heap.size) : zgZ w b M' w' v xs :=
 ⟨hs, h.but.trans hb, Boxed.but h.b0 hb yO, Boxed.but h.b1 hb yO, h.own.but hb yO⟩
theorem zgZ.up {w wx w' : World} {b M : Nat} {v : Value} {xs : List zaa} (h : zgZ w b M wx v xs) (hb : Below wx.heap.size wx w') : zgZ w b M w' v xs :=
 ⟨h.src.keep hb, h.but.trans (But.of hb), Boxed.up h.b0 hb (Array.getElem?_eq_some_iff.1 h.b0).1, Boxed.up h.b1 hb (Array.getElem?_eq_some_iff.1 h.b1).1, h.own.below hb⟩
theorem zgZ.lt {w wx : World} {b M : Nat} {v : Value} {xs : List zaa} (h : zgZ w b M wx v xs) : w.heap.size + 1 < wx.heap.size := (Array.getElem?_eq_some_iff.1 h.b1).1
theorem zgZ.put {w wx w' : World} {b M : Nat} {v v' : Value} {xs ys : List zaa} (h : zgZ w b M wx v xs) (hlt : b < w.heap.size) (hb : Below (w.heap.size + 2) wx w') (own : zab w' (w.heap.size + 2) v' ys) : zgZ w b M (w'.setCell ⟨w.heap.size + 1, 0, none⟩ v') v' ys := by
 have h0 : Boxed w' w.heap.size 26 (.slice none 0 0) := Boxed.up h.b0 hb yO; have h1 : Boxed w' (w.heap.size + 1) 26 v := Boxed.up h.b1 hb yO; have hb2 : Below (w.heap.size + 1) wx (w'.setCell ⟨w.heap.size + 1, 0, none⟩ v') := (hb.mono (Nat.le_succ _)).setCell (p := ⟨w.heap.size + 1, 0, none⟩) yL _; exact ⟨h.src.keepB hb2 yO, h.but.up hb2 yO, Boxed.up h.b0 hb2 yO, Boxed.set _ h1, ownsRow_setCell_other (a := ⟨w.heap.size + 1, 0, none⟩) own (Boxed.not_row h1 (by decide) own).symm _⟩
theorem zc0 {w : World} {o : Obj} {k : Nat} (hk : k = w.heap.size) : (w.alloc o).heap[k]? = some o := by subst hk; exact heap_alloc_new w o
theorem zc1 {w : World} {o : Obj} {k : Nat} (hk : k = w.heap.size) : (w.alloc o).drew.heap[k]? = some o := by subst hk; exact heap_alloc_new w o
theorem zc2 {w : World} {o' : Obj} {k : Nat} (h : w.heap[k]? = some o') : w.drew.heap[k]? = some o' := h
theorem zeM {w : World} {o o' : Obj} {k : Nat} (h : w.heap[k]? = some o') : (w.alloc o).heap[k]? = some o' := by
 have := (Array.getElem?_eq_some_iff.1 h).1
 rw [<- h]; simp only [World.alloc]; rw [Array.getElem?_push_lt this, Array.getElem?_eq_getElem this]
theorem znz {w w' : World} {row : Option Nat} {k : Nat} {o : Obj} (hg : w.grownBy w' row) (h : w.heap[k]? = some o) (hne : some k ≠ row) : w'.heap[k]? = some o :=
 (zeu.of_grown hg k ⟨(Array.getElem?_eq_some_iff.1 h).1, hne⟩).trans h
theorem zoY {w : World} {N : Nat} {t : ByteArray} {p q : Int} (h : w.heap[N]? = some (.cells #[.string t, .int .i64 p, .int .i64 q] 112 (0, 0))) : SlS zas w (fun _ => True) (.slice (some ⟨N, 0, none⟩) 1 1) [⟨t, p, q⟩] := by
 refine ⟨_, 1, rfl, Nat.le_refl _, by simp [maxLen], fun _ => ⟨N, 0, rfl, trivial, fun k r hk => ⟨r.cells, rfl, fun j u hu => ?_⟩⟩⟩
 have hk0 : k = 0 := by
  have := (List.getElem?_eq_some_iff.1 hk).1
  simp at this; exact this
 subst hk0; simp at hk
 subst hk; have hc := Lib.cell_of_heap h (0 + (0 * zas.size + j)); rw [hc]; simpa [zaa.cells] using hu
structure zbF (w : World) (R : Nat) (t : ByteArray) (p q : Nat) : Prop where
 box : w.heap[R]? = some (.cells #[.string t, .int .i64 (p : Int), .int .i64 (q : Int)] 112 (0, 0))
theorem zbF.new (w : World) (t : ByteArray) (p q : Nat) : zbF (w.alloc (.cells #[.string t, .int .i64 (p : Int), .int .i64 (q : Int)] 112)) w.heap.size t p q := ⟨heap_alloc_new w _⟩
theorem zbF.but {w w' : World} {R b : Nat} {t : ByteArray} {p q : Nat} (h : zbF w R t p q) (hb : But b w w') (hne : R ≠ b) : zbF w' R t p q := ⟨(hb.block R (Array.getElem?_eq_some_iff.1 h.box).1 hne).trans h.box⟩
theorem zbF.up {w w' : World} {R B : Nat} {t : ByteArray} {p q : Nat} (h : zbF w R t p q) (hb : Below B w w') (hlt : R < B) : zbF w' R t p q := ⟨(hb.block R hlt).trans h.box⟩
theorem zbF.c0 {w : World} {R : Nat} {t : ByteArray} {p q : Nat} (h : zbF w R t p q) : w.cell? ⟨R, 0, none⟩ = some (.string t) := by rw [Lib.cell_of_heap h.box]; rfl
theorem zbF.c1 {w : World} {R : Nat} {t : ByteArray} {p q : Nat} (h : zbF w R t p q) : w.cell? ⟨R, 1, none⟩ = some (.int .i64 (p : Int)) := by rw [Lib.cell_of_heap h.box]; rfl
theorem zbF.c2 {w : World} {R : Nat} {t : ByteArray} {p q : Nat} (h : zbF w R t p q) : w.cell? ⟨R, 2, none⟩ = some (.int .i64 (q : Int)) := by rw [Lib.cell_of_heap h.box]; rfl
theorem zbF.f1 {w : World} {R : Nat} {t : ByteArray} {p q : Nat} (h : zbF w R t p q) : w.frozen? ⟨R, 1, none⟩ = false := Lib.frozen_of_heap h.box 1
theorem zbF.f2 {w : World} {R : Nat} {t : ByteArray} {p q : Nat} (h : zbF w R t p q) : w.frozen? ⟨R, 2, none⟩ = false := Lib.frozen_of_heap h.box 2
theorem zbF.set1 {w : World} {R : Nat} {t : ByteArray} {p q : Nat} (h : zbF w R t p q) (n : Nat) : zbF (w.setCell ⟨R, 1, none⟩ (.int .i64 (n : Int))) R t n q := ⟨by simp [World.setCell, Array.getElem?_modify, h.box]⟩
theorem zbF.set2 {w : World} {R : Nat} {t : ByteArray} {p q : Nat} (h : zbF w R t p q) (n : Nat) : zbF (w.setCell ⟨R, 2, none⟩ (.int .i64 (n : Int))) R t p n := ⟨by simp [World.setCell, Array.getElem?_modify, h.box]⟩
theorem zoZ {wc W : World} {p R : Nat} {v u0 u1 u2 : Value} (c : wc.cell? ⟨p, 0, none⟩ = some v) (hp : p < wc.heap.size) (r0 : wc.cell? ⟨R, 0, none⟩ = some u0) (r1 : wc.cell? ⟨R, 1, none⟩ = some u1) (r2 : wc.cell? ⟨R, 2, none⟩ = some u2) (hR : R < wc.heap.size) (h : Below wc.heap.size wc W) :
  Below wc.heap.size wc W /\ W.cell? ⟨p, 0, none⟩ = some v /\ W.cell? ⟨R, 0, none⟩ = some u0 /\ W.cell? ⟨R, 1, none⟩ = some u1 /\ W.cell? ⟨R, 2, none⟩ = some u2 := ⟨h, (h.cell hp).trans c, (h.cell hR).trans r0, (h.cell hR).trans r1, (h.cell hR).trans r2⟩
theorem zgZ.far {w wx : World} {b M R o : Nat} {v : Value} {xs : List zaa} (h : zgZ w b M wx v xs) (hlt : b < w.heap.size) (hR : w.heap.size + 2 <= R) (hne : ∀ g, v.ownBlock = some g -> g ≠ R) (u : Value) : zgZ w b M (wx.setCell ⟨R, o, none⟩ u) v xs := by
 have hb : Below R wx (wx.setCell ⟨R, o, none⟩ u) := (Below.refl _ _).setCell (p := ⟨R, o, none⟩) yL _; refine ⟨h.src.keepB hb yO, h.but.up hb yO, Boxed.up h.b0 hb yO, Boxed.up h.b1 hb yO, ?_⟩
 exact ownsRow_setCell_other (a := ⟨R, o, none⟩) h.own (fun e => hne _ e rfl) _
theorem hkk {w w9 : World} {k g : Nat} {o : Obj} (hk : ∀ k o, w.heap[k]? = some o -> k ≠ g -> w9.heap[k]? = some o) (hne : k ≠ g) (h : w.heap[k]? = some o) : w9.heap[k]? = some o := hk k o h hne
theorem zmp {P A B : Prop} (h : A -> B) (ha : A) (k : B -> P) : P := k (h ha)
theorem zmq {W : World} {ops : Array Oper} {o : Oper} {a : Act} {K : Act -> World -> Prop} {Q : Exit -> Act -> World -> Prop} {E : Prop} (hgd : o.guard = none) (s x : Operand)
  (ho : o.op = .call { callee := .builtin .append, args := #[s, x], argTypes := #[24, 24] }) {ys : List zaa} {base g c2 : Nat} {A2 : Option Addr} {S : Nat -> Prop}
  (hs : a.eval s = .slice (some ⟨g, 0, none⟩) 0 0) (hx : a.eval x = .slice A2 ys.length c2) (hg : W.heap[g]? = some (.cells #[] 112 (0, 0))) (hb : base <= g) (hsl : SlS zas W S (.slice A2 ys.length c2) ys) (hlen : ys.length <= 1099511627776)
  (h : ∀ A9 c9 w9, zab w9 base (.slice A9 ys.length c9) ys -> (∀ k o, W.heap[k]? = some o -> k ≠ g -> w9.heap[k]? = some o) -> Below base W w9 -> K (a.put o.dst (.slice A9 ys.length c9)) w9) :
  if Region.wanted o (yielded ops a.tmps) = true then Oper.wp Tryz.prog o a W K Q else E := by
 refine zbr hgd s x ho (base := base) (l := []) hs hx ⟨rfl, .inr ⟨g, 0, #[], rfl, hb, hg, Nat.le_refl _, Nat.zero_le _, rfl, rfl⟩⟩ hsl (by simpa using hlen) (by have := (Array.getElem?_eq_some_iff.1 hg).1; omega) ?_
 intro v' w' own hgr hbl; obtain ⟨A9, c9, rfl, _⟩ := zae own; exact h A9 c9 w' own (fun k o hk hne => znz hgr hk (by simpa [Value.ownBlock] using hne)) hbl
theorem zmr {W : World} {ops : Array Oper} {o : Oper} {a : Act} {K : Act -> World -> Prop} {Q : Exit -> Act -> World -> Prop} {E : Prop} (hgd : o.guard = none) (s x : Operand)
  (ho : o.op = .call { callee := .builtin .append, args := #[s, x], argTypes := #[24, 24] }) {l : List zaa} {t : ByteArray} {p q : Int} {base B c9 : Nat} {A9 : Option Addr}
  (hs : a.eval s = .slice A9 l.length c9) (hx : a.eval x = .slice (some ⟨B, 0, none⟩) 1 1) (hown : zab W base (.slice A9 l.length c9) l) (hB : W.heap[B]? = some (.cells #[.string t, .int .i64 p, .int .i64 q] 112 (0, 0))) (hlen : l.length <= 1099511627775) (hbase : base <= W.heap.size)
  (h : ∀ A10 c10 w10, zab w10 base (.slice A10 (l.length + 1) c10) (l ++ [⟨t, p, q⟩]) -> (∀ k v, W.heap[k]? = some (.cells #[v] 26 (0, 0)) -> Boxed w10 k 26 v) -> Below base W w10 -> K (a.put o.dst (.slice A10 (l.length + 1) c10)) w10) :
  if Region.wanted o (yielded ops a.tmps) = true then Oper.wp Tryz.prog o a W K Q else E := by
 refine zbr hgd s x ho (base := base) (l := l) (ys := [⟨t, p, q⟩]) (S := fun _ => True) hs hx hown (zoY hB) (by simp; omega) hbase ?_
 intro v' w' own hgr hbl; obtain ⟨A9, c9, rfl, _⟩ := zae own; have e : (l ++ [(⟨t, p, q⟩ : zaa)]).length = l.length + 1 := by simp
 rw [e] at own |-
 exact h A9 c9 w' own (fun k v hk => Boxed.kept hk hgr (Boxed.not_row hk (by decide) hown)) hbl
theorem zfD {w wx : World} {b N M : Nat} {most : Int} {v : Value} {xs : List zaa} (h : zgZ w b M wx v xs) (hlt : b < w.heap.size) (hM : M <= N + 200) (hok : zfC most xs) (hl : xs.length <= 14) (u : Value) :
  ziU b N most w (.returned (.agg #[v])) (wx.setCell ⟨w.heap.size, 0, none⟩ u) := by
 have hb2 : Below w.heap.size wx (wx.setCell ⟨w.heap.size, 0, none⟩ u) := (Below.refl _ _).setCell (p := ⟨w.heap.size, 0, none⟩) yL _; have own : zab (wx.setCell ⟨w.heap.size, 0, none⟩ u) (w.heap.size + 2) v xs := ownsRow_setCell_other (a := ⟨w.heap.size, 0, none⟩) h.own (Boxed.not_row h.b0 (by decide) h.own).symm _; refine ⟨v, xs, rfl, own.slS (fun g hg => ?_), hok, hl, (h.src.keepB hb2 hlt).more hM, h.but.up hb2 yL⟩
 have := World.ownsRow.lt own g hg; exact ⟨by omega, this.2⟩
theorem zfU (b N : Nat) (most : Int) (w : World) (h : Src w b N) (hN : N <= 800000) :
  Calls Tryz.prog 31 #[.pointer (some ⟨b, 0, none⟩), .int .i64 most] w (ziU b N most w) := by
 have hlt := h.lt; have HS := yq h; clear h; go_enter Tryz.func31, Tryz.ntmps31
 go_wp2_with fail
 have hW0 : zgZ w b N ((w.alloc (.cells #[.slice none 0 0] 26)).alloc (.cells #[.slice none 0 0] 26)) (.slice none 0 0) [] := by
  have hb : Below w.heap.size w ((w.alloc (.cells #[.slice none 0 0] 26)).alloc (.cells #[.slice none 0 0] 26)) := ((Below.refl _ w).alloc yL _).alloc yS _; refine ⟨HS.o.keep hb, But.of hb, ?_, ?_, World.ownsRow_nil _ _ _ _⟩
  · have h0 : Boxed (w.alloc (.cells #[.slice none 0 0] 26)) w.heap.size 26 (.slice none 0 0) := heap_alloc_new w _
    exact Boxed.up h0 ((Below.refl (w.heap.size + 1) _).alloc (by rw [World.size_alloc]; exact Nat.le_refl _) _) (Nat.lt_succ_self _)
  · have := heap_alloc_new (w.alloc (.cells #[.slice none 0 0] 26)) (.cells #[.slice none 0 0] 26)
    rw [World.size_alloc] at this; exact this
 refine (zbZ b N 3 _ hW0.src yO).mono ?_
 rintro r w1 ⟨x, rfl, hx, _, hs1, hb1⟩; have H1 := yq (hW0.pick hb1 hs1 hlt); have hx3 : x <= 2 := by omega
 clear hW0 hs1 hb1 hx; go_wp2_with fail
 go_loopw [7] (fun i wx => ∃ (k : Nat) (v : Value), k <= x + 1 /\ i = .int .i64 (k : Int) /\ zgZ w b (N + 2) wx v (zgJ k)) (fun i _ => x + 1 - (intOf i).toNat)
 case atStart => exact ⟨0, _, Nat.zero_le _, rfl, H1.o⟩
 case round =>
  obtain ⟨k, v, hk, rfl, hst⟩ := hrel; have Hst := yq hst; obtain ⟨A, c, rfl, _⟩ := zae hst.own; have hcb := Boxed.cell hst.b1; have hfb := Boxed.frozen hst.b1; have hzr := hst.lt; by_cases hlt1 : k < x + 1
  · have hlI : (k : Int) < 1 + (x : Int) := by omega
    have Hlen : yh ((zgJ k).length <= 1099511627775) := by rw [yh, zkm]; omega
    clear hst; have HA := yq (fun (o1 o2 : Obj) => ((Below.refl (w.heap.size + 2) wr).alloc (show w.heap.size + 2 <= wr.heap.size by omega) o1).alloc (by rw [World.size_alloc]; omega) o2); have hk3 : k = 0 \/ k = 1 \/ k = 2 := by omega
    rcases hk3 with rfl | rfl | rfl
    · have hcv := zkI [97] wr.heap.size 0 1 1 (wr.alloc (.cells #[.int .u8 97] 5)) rfl (by
       intro t ht; have : t = 0 := by simpa using ht
       subst this
       simp [go_sem])
      go_wp2_with (first
       | (at_builtin; refine za6 (base := w.heap.size + 2) (t := ⟨#[97]⟩) (p := 0) (q := 0) rfl _ _ rfl rfl rfl yS (Hst.o.own.alloc _) Hlen.o yo ?_; intro v3 w3 own3 hg3 hb3; obtain ⟨A3, c3, rfl, _⟩ := zae own3; have hb9 := (HA.o _ _).trans hb3; have bx3 := Boxed.up Hst.o.b1 hb9 (Nat.lt_succ_self _); have hcb3 := Boxed.cell bx3; have hfb3 := Boxed.frozen bx3))
      refine ⟨⟨1, _, by omega, rfl, Hst.o.put hlt hb9 (zhX own3 rfl)⟩, by first | (simp [intOf]; done) | (simp [intOf]; omega)⟩
    · have hcv := zkI [98] wr.heap.size 0 1 1 (wr.alloc (.cells #[.int .u8 98] 5)) rfl (by
       intro t ht; have : t = 0 := by simpa using ht
       subst this
       simp [go_sem])
      go_wp2_with (first
       | (at_builtin; refine za6 (base := w.heap.size + 2) (t := ⟨#[98]⟩) (p := 0) (q := 0) rfl _ _ rfl rfl rfl yS (Hst.o.own.alloc _) Hlen.o yo ?_; intro v3 w3 own3 hg3 hb3; obtain ⟨A3, c3, rfl, _⟩ := zae own3; have hb9 := (HA.o _ _).trans hb3; have bx3 := Boxed.up Hst.o.b1 hb9 (Nat.lt_succ_self _); have hcb3 := Boxed.cell bx3; have hfb3 := Boxed.frozen bx3))
      refine ⟨⟨2, _, by omega, rfl, Hst.o.put hlt hb9 (zhX own3 rfl)⟩, by first | (simp [intOf]; done) | (simp [intOf]; omega)⟩
    · have hcv := zkI [99] wr.heap.size 0 1 1 (wr.alloc (.cells #[.int .u8 99] 5)) rfl (by
       intro t ht; have : t = 0 := by simpa using ht
       subst this
       simp [go_sem])
      go_wp2_with (first
       | (at_builtin; refine za6 (base := w.heap.size + 2) (t := ⟨#[99]⟩) (p := 0) (q := 0) rfl _ _ rfl rfl rfl yS (Hst.o.own.alloc _) Hlen.o yo ?_; intro v3 w3 own3 hg3 hb3; obtain ⟨A3, c3, rfl, _⟩ := zae own3; have hb9 := (HA.o _ _).trans hb3; have bx3 := Boxed.up Hst.o.b1 hb9 (Nat.lt_succ_self _); have hcb3 := Boxed.cell bx3; have hfb3 := Boxed.frozen bx3))
      refine ⟨⟨3, _, by omega, rfl, Hst.o.put hlt hb9 (zhX own3 rfl)⟩, by first | (simp [intOf]; done) | (simp [intOf]; omega)⟩
  · have hkx : k = x + 1 := by omega
    subst hkx; have hlI : ¬ ((x + 1 : Nat) : Int) < 1 + (x : Int) := by omega
    have Hok := yq (zol most x hx3); have Hl14 : yh ((zgJ (x + 1)).length <= 3) := by rw [yh, zkm]; omega
    obtain ⟨X, hX⟩ : ∃ X, zgJ (x + 1) = X := ⟨_, rfl⟩
    rw [hX] at Hok Hl14 Hst; have hXl : (zgJ (x + 1)).length = X.length := by rw [hX]
    clear hst hX hcb hfb hlI hzr H1; go_wp2_with fail
    refine (zbZ b (N + 2) 12 _ Hst.o.src yO).mono ?_
    rintro r w2 ⟨y, rfl, hy, _, hs2, hb2⟩; have H2 := yq (Hst.o.pick hb2 hs2 hlt); have hy11 : y <= 11 := by omega
    clear Hst hs2 hb2 hy; go_wp2_with fail
    go_loopw [8] (fun i wx => ∃ (k : Nat) (v : Value) (xs : List zaa), k <= y /\ i = .int .i64 (k : Int) /\ zfC most xs /\ xs.length + k <= 14 /\ zgZ w b (N + 100 - 8 * k) wx v xs) (fun i _ => (intOf i).toNat)
    case atStart => exact ⟨y, _, X, Nat.le_refl _, rfl, Hok.o, by have := Hl14.o; omega, ⟨H2.o.src.more yO, H2.o.but, H2.o.b0, H2.o.b1, H2.o.own⟩⟩
    case round =>
     obtain ⟨k, v, xs, hk, rfl, hok, hlk, hst⟩ := hrel; have Hst := yq hst; have Hok := yq hok; obtain ⟨A2, c2, rfl, _⟩ := zae hst.own; have hcb := Boxed.cell hst.b1; have hfb := Boxed.frozen hst.b1; have hcb0 := Boxed.cell hst.b0; have hfb0 := Boxed.frozen hst.b0; have hzr := hst.lt; by_cases hk0 : k = 0
     · subst hk0
       clear hst hok; go_wp2_with fail
       refine bodyPost_ret (v := .agg #[.slice A2 xs.length c2]) (by simp [results, Tryz.results31, go_sem, hcb0]) rfl (zfD Hst.o hlt yO Hok.o yO _)
     · have hkI : (0 : Int) < (k : Int) := by omega
       have hn0 := hok.2.1; clear hst hok
       go_upto_if 49 with (first
        | (go_at_call 82; refine (zbZ b _ xs.length _ Hst.o.src yO).mono ?_; rintro r w3 ⟨p, rfl, hp, _, hs3, hb3⟩)
        | (go_at_call 82; refine (zbZ b _ xs.length _ hs3 yO).mono ?_; rintro r w4 ⟨q, rfl, hq, _, hs4, hb4⟩)
        | (go_at_call 83; refine (zhW b _ 2 _ (hs4.keep ((Below.refl _ _).alloc yL _)) yO).mono ?_; rintro r w5 ⟨t5, rfl, hs5, hb5⟩))
       have hb4' := zbF.new w4 ⟨#[]⟩ p q; have R5 : zbF w5 w4.heap.size ⟨#[]⟩ p q := hb4'.but hb5 (by have := hb3.size; have := hb4.size; omega); have hst4 := (Hst.o.pick hb3 hs3 hlt).pick hb4 hs4 hlt; have hst5 := (hst4.up ((Below.refl w4.heap.size w4).alloc yL (.cells #[.string ⟨#[]⟩, .int .i64 (p : Int), .int .i64 (q : Int)] 112))).pick hb5 hs5 hlt; have H5 := yq hst5; have HR5 := yq R5; have z4 : w.heap.size + 2 <= w4.heap.size := by have := hst4.lt; omega
       have hp2 : p < xs.length := by omega
       have hq2 : q < xs.length := by omega
       have hAR : ∀ g, (Value.slice A2 xs.length c2).ownBlock = some g -> g ≠ w4.heap.size := fun g hg => by
        have h1 := (World.ownsRow.lt Hst.o.own g hg).2; have h2 := hb3.size; have h3 := hb4.size; omega
       obtain ⟨R, hR⟩ : ∃ R, w4.heap.size = R := ⟨_, rfl⟩
       rw [hR] at HR5 z4 hAR; rw [hR]; have hrc := HR5.o.c1; have hrf := HR5.o.f1; have hnI : IntKind.i64.wrap ((xs.length : Int) - 1) = (xs.length : Int) - 1 := IntWalk.i64_in _ yO; clear hst4 hst5 R5 hb4' hs3 hs4 hs5 hb3 hb4 hb5 hR hcb hfb hcb0 hfb0 hp hq; go_cut [] (fun wx => ∃ p2 : Nat, p2 < xs.length /\ zgZ w b (N + 100 - 8 * k + 6) wx (.slice A2 xs.length c2) xs /\ zbF wx R ⟨#[]⟩ p2 q)
       case first =>
        cases t5 with
        | true =>
          go_wp2
          go_meet
          refine ⟨xs.length - 1, by omega, H5.o.far hlt z4 hAR _, ?_⟩
          have := HR5.o.set1 (xs.length - 1); rw [show ((xs.length - 1 : Nat) : Int) = (xs.length : Int) - 1 by omega] at this; exact this
        | false =>
          go_wp2
          go_meet
          exact ⟨p, hp2, H5.o, HR5.o⟩
       case rest =>
        obtain ⟨p2, hpp, hst6, hbx6⟩ := hcut; have H6 := yq hst6; have HR6 := yq hbx6; clear hst6 hbx6 hrc hrf H5 HR5 hp2
        go_upto_if 54 with (first
         | (go_at_call 83; refine (zhW b _ 3 _ H6.o.src yO).mono ?_; rintro r w7 ⟨t7, rfl, hs7, hb7⟩))
        have hst7 := H6.o.pick hb7 hs7 hlt; have hR7 := HR6.o.but hb7 yO; have H7 := yq hst7; have HR7 := yq hR7; have hrc := HR7.o.c2; have hrf := HR7.o.f2; clear hst7 hR7 hs7 hb7 H6 HR6; go_cut [] (fun wx => ∃ q2 : Nat, q2 < xs.length /\ zgZ w b (N + 100 - 8 * k + 8) wx (.slice A2 xs.length c2) xs /\ zbF wx R ⟨#[]⟩ p2 q2)
        case first =>
         cases t7 with
         | true =>
           go_wp2
           go_meet
           refine ⟨xs.length - 1, by omega, H7.o.far hlt z4 hAR _, ?_⟩
           have := HR7.o.set2 (xs.length - 1); rw [show ((xs.length - 1 : Nat) : Int) = (xs.length : Int) - 1 by omega] at this; exact this
         | false =>
           go_wp2
           go_meet
           exact ⟨q, hq2, H7.o, HR7.o⟩
        case rest =>
         obtain ⟨q2, hqq, hst8, hbx8⟩ := hcut; have H8 := yq hst8; have HR8 := yq hbx8; have hrc0 := hbx8.c0; have hrc1 := hbx8.c1; have hrc2 := hbx8.c2; have hcb := Boxed.cell hst8.b1; have hfb := Boxed.frozen hst8.b1; clear hst8 hbx8 hrc hrf H7 HR7 hq2; go_upto_region 16 with fail
         have HSl := yq H8.o.own.sl; have hlt8 := H8.o.lt; go_cut [11] (fun u11 wx => ∃ (L : Nat) (A3 : Option Addr) (c3 : Nat), u11 = .pointer (some ⟨L, 0, none⟩) /\ w.heap.size + 2 <= L /\ zgZ w b (N + 100 - 8 * k + 8) wx (.slice A2 xs.length c2) xs /\ Boxed wx L 26 (.slice A3 (xs.length + 1) c3) /\ zab wx (w.heap.size + 2) (.slice A3 (xs.length + 1) c3) (xs ++ [⟨⟨#[]⟩, p2, q2⟩]))
         case first =>
          have hRlt : R < wc.heap.size := (Array.getElem?_eq_some_iff.1 HR8.o.box).1
          have HRlt := yq hRlt; have hb1lt : w.heap.size + 1 < wc.heap.size := by omega
          have HX := yq (show xs.length <= 1099511627775 by omega); have HCB := yq hcb; have HRC0 := yq hrc0; have HRC1 := yq hrc1; have HRC2 := yq hrc2
          go_region_held3 (fun w' => Below wc.heap.size wc w' /\ w'.cell? ⟨w.heap.size + 1, 0, none⟩ = some (.slice A2 xs.length c2) /\ w'.cell? ⟨R, 0, none⟩ = some (.string ⟨#[]⟩) /\ w'.cell? ⟨R, 1, none⟩ = some (.int .i64 (p2 : Int)) /\ w'.cell? ⟨R, 2, none⟩ = some (.int .i64 (q2 : Int)))
           (first | (with_reducible refine zoZ HCB.o hb1lt HRC0.o HRC1.o HRC2.o HRlt.o ?_; (repeat (first | exact B10 | exact B9 | exact Below.refl _ _ | refine Below.drew ?_ | (refine Below.setCell ?_ (by first | exact Nat.le_refl _ | (show _ <= _; omega) | (simp; done) | (simp; omega)) _) | (refine Below.alloc ?_ yo _)))))
           (first
             | ((fail_if_success (have hx9 := B9)); refine zmq (base := wc.heap.size) (ys := xs) (S := fun k => k < wc.heap.size) yR _ _ yR yR yR (by ((repeat (first | (with_reducible assumption) | ((with_reducible refine zc1 ?_); (focus (first | (exact (World.size_alloc _ _).symm) | (simp; done) | (simp; omega)))) | ((with_reducible refine zc0 ?_); (focus (first | (exact (World.size_alloc _ _).symm) | (simp; done) | (simp; omega)))) | (with_reducible apply zc2) | (with_reducible apply zeM) | ((with_reducible refine hkk hk9 ?_ ?_); (focus (first | (simp; done) | (simp; omega) | omega))))); all_goals fail "left")) (by first | omega | (simp; done)) (HSl.o.keep (zeu.of_below (by (repeat (first | (with_reducible exact B9) | (with_reducible exact Below.refl _ _) | with_reducible refine Below.drew ?_ | (with_reducible refine Below.alloc ?_ yo _)))))) (Nat.le_succ_of_le HX.o) ?_; intro A9 c9 w9 own9 hk9 hb9; have B9 : Below wc.heap.size wc w9 := Below.trans (by (repeat (first | (with_reducible exact B9) | (with_reducible exact Below.refl _ _) | with_reducible refine Below.drew ?_ | (with_reducible refine Below.alloc ?_ yo _)))) hb9; have hs9 := B9.size)
             | ((fail_if_success (have hx10 := B10)); refine zmr (base := wc.heap.size) (l := xs) yR _ _ yR yR yR (by (repeat (first | (with_reducible exact own9) | with_reducible apply zab.drew | with_reducible apply zab.alloc))) (by ((repeat (first | (with_reducible assumption) | ((with_reducible refine zc1 ?_); (focus (first | (exact (World.size_alloc _ _).symm) | (simp; done) | (simp; omega)))) | ((with_reducible refine zc0 ?_); (focus (first | (exact (World.size_alloc _ _).symm) | (simp; done) | (simp; omega)))) | (with_reducible apply zc2) | (with_reducible apply zeM) | ((with_reducible refine hkk hk9 ?_ ?_); (focus (first | (simp; done) | (simp; omega) | omega))))); all_goals fail "left")) HX.o (by first | exact hs9 | (simp; omega)) ?_; intro A10 c10 w10 own10 hk10 hb10; have B10 : Below wc.heap.size wc w10 := Below.trans (by (repeat (first | (with_reducible exact B9) | (with_reducible exact Below.refl _ _) | with_reducible refine Below.drew ?_ | (with_reducible refine Below.alloc ?_ yo _)))) hb10; have hs10 := B10.size; (try (refine zmp (hk10 (wc.heap.size) (.slice none 0 0)) ?_ ?_; (focus ((repeat (first | (with_reducible assumption) | ((with_reducible refine zc1 ?_); (focus (first | (exact (World.size_alloc _ _).symm) | (simp; done) | (simp; omega)))) | ((with_reducible refine zc0 ?_); (focus (first | (exact (World.size_alloc _ _).symm) | (simp; done) | (simp; omega)))) | (with_reducible apply zc2) | (with_reducible apply zeM) | ((with_reducible refine hkk hk9 ?_ ?_); (focus (first | (simp; done) | (simp; omega) | omega))))); all_goals fail "left")); intro bL10; have hcL := Boxed.cell bL10; have hfL := Boxed.frozen bL10; have hlL := (Array.getElem?_eq_some_iff.1 bL10).1)); (try (refine zmp (hk10 (wc.heap.size + 1) (.slice none 0 0)) ?_ ?_; (focus ((repeat (first | (with_reducible assumption) | ((with_reducible refine zc1 ?_); (focus (first | (exact (World.size_alloc _ _).symm) | (simp; done) | (simp; omega)))) | ((with_reducible refine zc0 ?_); (focus (first | (exact (World.size_alloc _ _).symm) | (simp; done) | (simp; omega)))) | (with_reducible apply zc2) | (with_reducible apply zeM) | ((with_reducible refine hkk hk9 ?_ ?_); (focus (first | (simp; done) | (simp; omega) | omega))))); all_goals fail "left")); intro bL10; have hcL := Boxed.cell bL10; have hfL := Boxed.frozen bL10; have hlL := (Array.getElem?_eq_some_iff.1 bL10).1)); (try (refine zmp (hk10 (wc.heap.size + 1 + 1) (.slice none 0 0)) ?_ ?_; (focus ((repeat (first | (with_reducible assumption) | ((with_reducible refine zc1 ?_); (focus (first | (exact (World.size_alloc _ _).symm) | (simp; done) | (simp; omega)))) | ((with_reducible refine zc0 ?_); (focus (first | (exact (World.size_alloc _ _).symm) | (simp; done) | (simp; omega)))) | (with_reducible apply zc2) | (with_reducible apply zeM) | ((with_reducible refine hkk hk9 ?_ ?_); (focus (first | (simp; done) | (simp; omega) | omega))))); all_goals fail "left")); intro bL10; have hcL := Boxed.cell bL10; have hfL := Boxed.frozen bL10; have hlL := (Array.getElem?_eq_some_iff.1 bL10).1)); (try (refine zmp (hk10 (w9.heap.size) (.slice none 0 0)) ?_ ?_; (focus ((repeat (first | (with_reducible assumption) | ((with_reducible refine zc1 ?_); (focus (first | (exact (World.size_alloc _ _).symm) | (simp; done) | (simp; omega)))) | ((with_reducible refine zc0 ?_); (focus (first | (exact (World.size_alloc _ _).symm) | (simp; done) | (simp; omega)))) | (with_reducible apply zc2) | (with_reducible apply zeM) | ((with_reducible refine hkk hk9 ?_ ?_); (focus (first | (simp; done) | (simp; omega) | omega))))); all_goals fail "left")); intro bL10; have hcL := Boxed.cell bL10; have hfL := Boxed.frozen bL10; have hlL := (Array.getElem?_eq_some_iff.1 bL10).1)); (try (refine zmp (hk10 (w9.heap.size + 1) (.slice none 0 0)) ?_ ?_; (focus ((repeat (first | (with_reducible assumption) | ((with_reducible refine zc1 ?_); (focus (first | (exact (World.size_alloc _ _).symm) | (simp; done) | (simp; omega)))) | ((with_reducible refine zc0 ?_); (focus (first | (exact (World.size_alloc _ _).symm) | (simp; done) | (simp; omega)))) | (with_reducible apply zc2) | (with_reducible apply zeM) | ((with_reducible refine hkk hk9 ?_ ?_); (focus (first | (simp; done) | (simp; omega) | omega))))); all_goals fail "left")); intro bL10; have hcL := Boxed.cell bL10; have hfL := Boxed.frozen bL10; have hlL := (Array.getElem?_eq_some_iff.1 bL10).1))))
          all_goals
           go_wp2_with fail
           go_meet
           have o10 := zac own10 (base' := w.heap.size + 2) yO
           first
            | exact ⟨w10.heap.size, A10, c10, rfl, by omega, H8.o.up (B10.alloc hs10 _), heap_alloc_new _ _, World.ownsRow.alloc o10 _⟩
            | exact ⟨_, A10, c10, rfl, by omega, H8.o.up (B10.setCell (by (try dsimp only); omega) _), Boxed.set _ bL10, ownsRow_setCell_other o10 (Boxed.not_row bL10 (by decide) own10).symm _⟩
         case rest =>
          obtain ⟨L, A3, c3, rfl, hL, hst9, hbx9, own9⟩ := hcut
          have hsmY : za5 (xs ++ [(⟨⟨#[]⟩, (p2 : Int), (q2 : Int)⟩ : zaa)]) := by
           intro r hr; rcases List.mem_append.1 hr with hr | hr
           · exact Hok.o.2.2.2 r hr
           · rw [List.mem_singleton] at hr; subst hr; show (0 : Nat) <= _; decide
          obtain ⟨Y, hY⟩ : ∃ Y, xs ++ [(⟨⟨#[]⟩, (p2 : Int), (q2 : Int)⟩ : zaa)] = Y := ⟨_, rfl⟩
          have hYl : Y.length = xs.length + 1 := by rw [<- hY]; simp
          rw [hY] at own9 hsmY; rw [<- hYl] at own9 hbx9; have H9 := yq hst9; have HB9 := yq hbx9; have HO9 := yq own9; have HSY := yq (zab.sl own9); have HsmY := yq hsmY; have hcY := Boxed.cell hbx9; have hLlt := (Array.getElem?_eq_some_iff.1 hbx9).1
          clear hst9 hbx9 own9 H8 HR8 HSl hrc0 hrc1 hrc2 hcb hfb hlt8 hsmY hY; cases hg : zaf Y with
          | false =>
            go_wp2_with (first
             | (go_at_call 35; (refine (zbf L 0 _ Y _ hcY hLlt HSY.o HsmY.o).mono ?_); rintro r w11 ⟨hr, hb11⟩; rw [hg] at hr; subst hr; have H11 := yq (H9.o.up hb11); have hcb1 := Boxed.cell H11.o.b1; have hfb1 := Boxed.frozen H11.o.b1; have hcb0 := Boxed.cell H11.o.b0; have hfb0 := Boxed.frozen H11.o.b0))
            refine bodyPost_ret (v := .agg #[.slice A2 xs.length c2]) (by simp [results, Tryz.results31, go_sem, hcb0]) rfl (zfD H11.o hlt yO Hok.o yO _)
          | true =>
            obtain ⟨_, ls, hls⟩ := zag hg; have hgl := zaq hls; by_cases hmo : zai ls <= most
            · have hmI : ¬ most < zai ls := by omega
              go_wp2_with (first
               | (go_at_call 35; (refine (zbf L 0 _ Y _ hcY hLlt HSY.o HsmY.o).mono ?_); rintro r w11 ⟨hr, hb11⟩; rw [hg] at hr; subst hr; have H11 := yq (H9.o.up hb11); have hcY1 := (hb11.cell (p := ⟨L, 0, none⟩) hLlt).trans hcY; have hLlt1 := Nat.lt_of_lt_of_le hLlt hb11.size; have HSY1 := yq (HSY.o.up hb11))
               | (go_at_call 45; (refine (zbn L 0 _ Y ls _ hls hcY1 hLlt1 HSY1.o HsmY.o yO).mono ?_); rintro r w12 ⟨rfl, hb12⟩; have H12 := yq (H11.o.up hb12); have hcY2 := (hb12.cell (p := ⟨L, 0, none⟩) hLlt1).trans hcY1; have hcb1 := Boxed.cell H12.o.b1; have hfb1 := Boxed.frozen H12.o.b1))
              have o12 := (HO9.o.below hb11).below hb12; rw [hYl] at o12; have s12 := H12.o.put hlt (Below.refl _ _) o12; rw [show N + 100 - 8 * k + 8 = N + 100 - 8 * (k - 1) by omega] at s12; exact ⟨⟨k - 1, _, Y, by omega, by rw [show ((k - 1 : Nat) : Int) = (k : Int) - 1 by omega], ⟨hg, by omega, fun _ => by rw [hgl]; exact hmo, HsmY.o⟩, by omega, s12⟩, by first | (simp [intOf]; done) | (simp [intOf]; omega)⟩
            · have hmI : most < zai ls := by omega
              go_wp2_with (first
               | (go_at_call 35; (refine (zbf L 0 _ Y _ hcY hLlt HSY.o HsmY.o).mono ?_); rintro r w11 ⟨hr, hb11⟩; rw [hg] at hr; subst hr; have H11 := yq (H9.o.up hb11); have hcY1 := (hb11.cell (p := ⟨L, 0, none⟩) hLlt).trans hcY; have hLlt1 := Nat.lt_of_lt_of_le hLlt hb11.size; have HSY1 := yq (HSY.o.up hb11))
               | (go_at_call 45; (refine (zbn L 0 _ Y ls _ hls hcY1 hLlt1 HSY1.o HsmY.o yO).mono ?_); rintro r w12 ⟨rfl, hb12⟩; have H12 := yq (H11.o.up hb12); have hcb1 := Boxed.cell H12.o.b1; have hfb1 := Boxed.frozen H12.o.b1; have hcb0 := Boxed.cell H12.o.b0; have hfb0 := Boxed.frozen H12.o.b0))
              refine bodyPost_ret (v := .agg #[.slice A2 xs.length c2]) (by simp [results, Tryz.results31, go_sem, hcb0]) rfl (zfD H12.o hlt yO Hok.o yO _)
def zom (b N : Nat) (w : World) (r : Ending) (w' : World) : Prop :=
 ∃ v vR e, r = .returned v /\ v = .agg #[.int .i64 e.kind, .int .i64 e.i, .int .i64 e.j, .int .i64 e.k, vR, .string e.map] /\ SlS zas w' (fun k => k ≠ b /\ w.heap.size < k /\ k < w'.heap.size) vR e.part /\ (e.part.length <= 14 /\ zao e.part <= 5) /\ za5 e.part /\ zaA e = true /\ e.map.size <= 4 /\ Src w' b (N + 240) /\ But b w w'
theorem znA {i : Int} {xs : List zaa} (h : 0 <= i /\ i <= 1000000000000000) (hg : zaf xs = true) (hl : 0 < xs.length) : zaA ⟨1, i, 0, 0, xs, ⟨#[]⟩⟩ = true := by
 have : (⟨#[]⟩ : ByteArray).size = 0 := rfl; simp [zaA, inR, za3, zcd, zcm, hg, hl, h.1, h.2, this]
theorem ziV {k i j : Int} (hk : k = 2 \/ k = 5) (h : 0 <= i /\ i <= j /\ j <= 1000000000000000) : zaA ⟨k, i, j, 0, [], ⟨#[]⟩⟩ = true := by
 have : (⟨#[]⟩ : ByteArray).size = 0 := rfl; have g0 : zaf [] = true := rfl; rcases hk with rfl | rfl <;> simp [zaA, inR, za3, zcd, zcm, g0, this] <;> omega
theorem zla {k i j q : Int} (hk : k = 3 \/ k = 4 \/ k = 6) (h : 0 <= i /\ i <= j /\ j <= 1000000000000000) (hq : 0 <= q /\ q <= 1000000000000000) : zaA ⟨k, i, j, q, [], ⟨#[]⟩⟩ = true := by
 have : (⟨#[]⟩ : ByteArray).size = 0 := rfl; have g0 : zaf [] = true := rfl; rcases hk with rfl | rfl | rfl <;> simp [zaA, inR, za3, zcd, zcm, g0, this] <;> omega
theorem zpl {i j : Int} {m : ByteArray} (h : 0 <= i /\ i <= j /\ j <= 1000000000000000) (hm : m.size = 4) (hw : zay m = true) : zaA ⟨7, i, j, 0, [], m⟩ = true := by
 have g0 : zaf [] = true := rfl; simp [zaA, inR, za3, zcd, zcm, g0, hm, hw] <;> omega
theorem znB {W : World} {b N : Nat} (l : List Int) (hb : b < W.heap.size) (hN : N = W.heap.size) (hl : l.length <= 1000) :
  SlS zfZ (W.alloc (.cells (l.map (Value.int .i64)).toArray 2)) (fun k => k ≠ b /\ k < (W.alloc (.cells (l.map (Value.int .i64)).toArray 2)).heap.size) (.slice (some ⟨N, 0, none⟩) l.length l.length) l := by
 subst hN
 have h : zal (W.alloc (.cells (l.map (Value.int .i64)).toArray 2)) W.heap.size (.slice (some ⟨W.heap.size, 0, none⟩) l.length l.length) l := by
  have := World.ownsRow_lit W (l.map (Value.int .i64)).toArray l.length yL (by simp only [maxLen]; omega) (e := 2) (size := 1) yS; simpa [zal] using this
 exact h.slS fun g hg => by simp [Value.ownBlock] at hg; subst hg; exact ⟨by omega, by simp⟩
theorem znC {W : World} {b N : Nat} (l : List ByteArray) (hb : b < W.heap.size) (hN : N = W.heap.size) (hl : l.length <= 1000) :
  SlS zhs (W.alloc (.cells (l.map Value.string).toArray 9)) (fun k => k ≠ b /\ k < (W.alloc (.cells (l.map Value.string).toArray 9)).heap.size) (.slice (some ⟨N, 0, none⟩) l.length l.length) l := by
 subst hN; have h := World.ownsRow_lit W (l.map Value.string).toArray l.length yL (by simp only [maxLen]; omega) (e := 9) (size := 1) yS; refine ⟨_, _, rfl, Nat.le_refl _, by simp only [maxLen]; omega, Row.of_own (E := zhs) h rfl (fun g hg => by simp [Value.ownBlock] at hg; subst hg; exact ⟨by omega, by simp⟩) fun k x hx => ⟨[.string x], rfl, fun j u hu => ?_⟩⟩
 cases j with
 | zero => simp at hu; subst hu; simp [zhs, hx]
 | succ j => simp at hu
def zfc : List ByteArray := [⟨#[98, 97, 99, 100]⟩, ⟨#[97, 97, 97, 97]⟩, ⟨#[98, 99, 100, 97]⟩, ⟨#[97, 98, 99, 100]⟩, ⟨#[100, 99, 98, 97]⟩]
theorem zjI : ∀ m ∈ zfc, m.size = 4 /\ zay m = true := by decide
structure zhY (w : World) (b M E : Nat) (wx : World) (k i j q : Int) (vP : Value) (xs : List zaa) (m : ByteArray) : Prop where
 src : Src wx b M
 but : But b w wx
 box : Blk wx w.heap.size (#[.int .i64 0, .int .i64 0, .int .i64 0, .int .i64 0, .slice none 0 0, .string ⟨#[]⟩] : Array Value) 30
 blk : Blk wx E #[.int .i64 k, .int .i64 i, .int .i64 j, .int .i64 q, vP, .string m] 30
 part : SlS zas wx (fun k => k ≠ b /\ k ≠ E /\ w.heap.size < k /\ k < wx.heap.size) vP xs
section
variable {w wx w' : World} {b M M' E : Nat} {k i j q : Int} {vP : Value} {xs : List zaa} {m : ByteArray}
theorem zhY.pick (h : zhY w b M E wx k i j q vP xs m) (hb : But b wx w') (hs : Src w' b M') (hlt : b < w.heap.size) (hE : w.heap.size < E) : zhY w b M' E w' k i j q vP xs m :=
 ⟨hs, h.but.trans hb, h.box.but hb yO, h.blk.but hb yO, (h.part.keep fun k hk => hb.block k hk.2.2.2 hk.1).more fun k hk => ⟨hk.1, hk.2.1, hk.2.2.1, Nat.lt_of_lt_of_le hk.2.2.2 hb.size⟩⟩
theorem zhY.up (h : zhY w b M E wx k i j q vP xs m) (hb : Below wx.heap.size wx w') (hlt : b < w.heap.size) (hE : w.heap.size < E) : zhY w b M E w' k i j q vP xs m := h.pick (But.of hb) (h.src.keep hb) hlt hE
theorem zhY.more (h : zhY w b M E wx k i j q vP xs m) (hM : M <= M') : zhY w b M' E wx k i j q vP xs m := ⟨h.src.more hM, h.but, h.box, h.blk, h.part⟩
theorem zhY.put (h : zhY w b M E wx k i j q vP xs m) (hlt : b < w.heap.size) (hE : w.heap.size < E) (o : Nat) (v : Value) {k' i' j' q' : Int} {vP' : Value} {xs' : List zaa} {m' : ByteArray}
  (hp : SlS zas wx (fun k => k ≠ b /\ k ≠ E /\ w.heap.size < k /\ k < wx.heap.size) vP' xs')
  (ha : (#[.int .i64 k, .int .i64 i, .int .i64 j, .int .i64 q, vP, .string m] : Array Value).setIfInBounds o v = #[.int .i64 k', .int .i64 i', .int .i64 j', .int .i64 q', vP', .string m']) : zhY w b M E (wx.setCell ⟨E, o, none⟩ v) k' i' j' q' vP' xs' m' := by
 have hb : Below E wx (wx.setCell ⟨E, o, none⟩ v) := (Below.refl _ _).setCell (p := ⟨E, o, none⟩) yL _; refine ⟨h.src.keepB hb yO, h.but.up hb yO, h.box.other (p := ⟨E, o, none⟩) (by show w.heap.size ≠ E; omega) v, ?_, ?_⟩
 · have := h.blk.set o v
   rw [ha] at this; exact this
 · exact (hp.keep fun k hk => Below.heap_setCell wx ⟨E, o, none⟩ v k hk.2.1).more fun k hk => ⟨hk.1, hk.2.1, hk.2.2.1, Nat.lt_of_lt_of_le hk.2.2.2 hb.size⟩
theorem zhY.fin (h : zhY w b M E wx k i j q vP xs m) (hlt : b < w.heap.size) (v0 v1 v2 v3 v4 v5 : Value) :
  let W := (((((wx.setCell ⟨w.heap.size, 0, none⟩ v0).setCell ⟨w.heap.size, 1, none⟩ v1).setCell ⟨w.heap.size, 2, none⟩ v2).setCell ⟨w.heap.size, 3, none⟩ v3).setCell ⟨w.heap.size, 4, none⟩ v4).setCell ⟨w.heap.size, 5, none⟩ v5
  SlS zas W (fun k => k ≠ b /\ w.heap.size < k /\ k < W.heap.size) vP xs /\ Src W b M /\ But b w W /\ Blk W w.heap.size #[v0, v1, v2, v3, v4, v5] 30 := by
 intro W; have hb : Below w.heap.size wx W := ((((((Below.refl _ wx).setCell (p := ⟨w.heap.size, 0, none⟩) yL v0).setCell (p := ⟨w.heap.size, 1, none⟩) yL v1).setCell (p := ⟨w.heap.size, 2, none⟩) yL v2).setCell (p := ⟨w.heap.size, 3, none⟩) yL v3).setCell (p := ⟨w.heap.size, 4, none⟩) yL v4).setCell (p := ⟨w.heap.size, 5, none⟩) yL v5
 have hk : ∀ k, k ≠ w.heap.size -> W.heap[k]? = wx.heap[k]? := fun k hk =>
  (Below.heap_setCell _ ⟨w.heap.size, 5, none⟩ v5 k hk).trans ((Below.heap_setCell _ ⟨w.heap.size, 4, none⟩ v4 k hk).trans ((Below.heap_setCell _ ⟨w.heap.size, 3, none⟩ v3 k hk).trans ((Below.heap_setCell _ ⟨w.heap.size, 2, none⟩ v2 k hk).trans ((Below.heap_setCell _ ⟨w.heap.size, 1, none⟩ v1 k hk).trans (Below.heap_setCell _ ⟨w.heap.size, 0, none⟩ v0 k hk)))))
 exact ⟨(h.part.keep fun k hx => hk k (Nat.ne_of_gt hx.2.2.1)).more fun k hx => ⟨hx.1, hx.2.2.1, Nat.lt_of_lt_of_le hx.2.2.2 hb.size⟩, h.src.keepB hb hlt, h.but.up hb yL, (((((h.box.set 0 v0).set 1 v1).set 2 v2).set 3 v3).set 4 v4).set 5 v5⟩
end
def JOk (k : Int) (y j n : Nat) : Prop := (zcd k = false /\ j = 0) \/ (zcd k = true /\ y <= j /\ j <= n /\ j <= 131070)
def KOk (k q : Int) : Prop := (zcm k = false /\ q = 0) \/ (zcm k = true /\ 0 <= q /\ q <= 1000000000000000)
def POk (k : Int) (xs : List zaa) : Prop := (k ≠ 1 /\ xs = []) \/ (k = 1 /\ zaf xs = true /\ 0 < xs.length /\ za5 xs /\ (xs.length <= 14 /\ zao xs <= 5))
def MOk (k : Int) (m : ByteArray) : Prop := (k ≠ 7 /\ m = ⟨#[]⟩) \/ (k = 7 /\ m ∈ zfc)
theorem zpm {k q : Int} {y j n : Nat} {xs : List zaa} {m : ByteArray} (hk7 : inR k 1 7 = true) (hy : y <= 65535) (hj : JOk k y j n) (hq : KOk k q) (hx : POk k xs) (hm : MOk k m) :
  zaA ⟨k, y, j, q, xs, m⟩ = true /\ m.size <= 4 /\ (xs.length <= 14 /\ zao xs <= 5) /\ za5 xs := by
 have nS : za5 [] := fun r hr => absurd hr yS; have s0 : (⟨#[]⟩ : ByteArray).size <= 4 := by decide
 rcases zdl hk7 with rfl | rfl | rfl | rfl | rfl | rfl | rfl <;> simp [JOk, KOk, POk, MOk, zcd, zcm] at hj hq hx hm
 · subst hj hq hm
   exact ⟨znA ⟨by omega, by omega⟩ hx.1 hx.2.1, s0, hx.2.2.2, hx.2.2.1⟩
 · subst hq hm hx
   exact ⟨ziV (.inl rfl) ⟨by omega, by omega, by omega⟩, s0, ⟨by simp, by decide⟩, nS⟩
 · subst hm hx
   exact ⟨zla (.inl rfl) ⟨by omega, by omega, by omega⟩ hq, s0, ⟨by simp, by decide⟩, nS⟩
 · subst hm hx
   exact ⟨zla (.inr (.inl rfl)) ⟨by omega, by omega, by omega⟩ hq, s0, ⟨by simp, by decide⟩, nS⟩
 · subst hq hm hx
   exact ⟨ziV (.inr rfl) ⟨by omega, by omega, by omega⟩, s0, ⟨by simp, by decide⟩, nS⟩
 · subst hm hx
   exact ⟨zla (.inr (.inr rfl)) ⟨by omega, by omega, by omega⟩ hq, s0, ⟨by simp, by decide⟩, nS⟩
 · subst hq hx
   have h4 := zjI _ hm; exact ⟨zpl ⟨by omega, by omega, by omega⟩ h4.1 h4.2, by omega, ⟨by simp, by decide⟩, nS⟩
theorem ziW (b N : Nat) (n : Int) (w : World) (h : Src w b N) (hN : N <= 700000) (hn : 0 <= n /\ n <= 2000000000000000) :
  Calls Tryz.prog 34 #[.pointer (some ⟨b, 0, none⟩), .int .i64 n] w (zom b N w) := by
 have hlt := h.lt; have HS := yq h; clear h; obtain ⟨n, rfl⟩ := Int.eq_ofNat_of_zero_le hn.1; have hn9 : n <= 2000000000000000 := by omega
 clear hn; have wn : IntKind.i64.wrap ((n : Int) + 1) = (n : Int) + 1 := IntWalk.i64_in _ yO; have HS0 := yq (HS.o.keep ((Below.refl _ w).alloc yL (.cells #[.int .i64 0, .int .i64 0, .int .i64 0, .int .i64 0, .slice none 0 0, .string ⟨#[]⟩] 30))); go_enter Tryz.func34, Tryz.ntmps34
 go_wp2_with fail
 refine (zbZ b N 7 _ HS0.o yO).mono ?_
 rintro r w1 ⟨x, rfl, hx, _, hs1, hb1⟩; have HR1 := yq (Blk.but (Blk.new w (#[.int .i64 0, .int .i64 0, .int .i64 0, .int .i64 0, .slice none 0 0, .string ⟨#[]⟩] : Array Value) 30) hb1 yO); have HB1 := yq ((But.of ((Below.refl _ w).alloc yL (.cells #[.int .i64 0, .int .i64 0, .int .i64 0, .int .i64 0, .slice none 0 0, .string ⟨#[]⟩] 30))).trans hb1); have z1 : w.heap.size < w1.heap.size := HR1.o.lt; have hx6 : x <= 6 := by omega
 have wk : IntKind.i64.wrap (1 + (x : Int)) = 1 + (x : Int) := IntWalk.i64_in _ yO; have HS1 := yq hs1; clear hs1 hb1 hx HS0 HS; go_wp2_with fail
 have ba := (Below.refl _ w1).alloc yL (.cells #[.int .i64 (1 + (x : Int)), .int .i64 0, .int .i64 0, .int .i64 0, .slice none 0 0, .string ⟨#[]⟩] 30)
 have st0 : zhY w b (N + 2) w1.heap.size (w1.alloc (.cells #[.int .i64 (1 + (x : Int)), .int .i64 0, .int .i64 0, .int .i64 0, .slice none 0 0, .string ⟨#[]⟩] 30)) (1 + (x : Int)) 0 0 0 (.slice none 0 0) [] ⟨#[]⟩ :=
  ⟨HS1.o.keep ba, HB1.o.tr ba, HR1.o.alloc _, Blk.new _ _ _, SlS.nil _ _⟩
 refine (zbZ b (N + 2) ((n : Int) + 1) _ st0.src yO).mono ?_
 rintro r w2 ⟨y, rfl, hy, hy6, hs2, hb2⟩; have st2 := st0.pick hb2 hs2 hlt z1; have hyn : y <= n := by omega
 obtain ⟨k, hk⟩ : ∃ k : Int, 1 + (x : Int) = k := ⟨_, rfl⟩
 obtain ⟨E, hE⟩ : ∃ E, w1.heap.size = E := ⟨_, rfl⟩
 have hk7 : inR k 1 7 = true := by rw [<- hk]; simp [inR]; omega
 rw [hk, hE] at st2; rw [hE] at z1; rw [hk, hE]; clear st0 ba HS1 HR1 HB1 hs2 hb2 hy wk; have fz := Blk.frozen st2.blk 1; have ce := Blk.cell (i := 1) (v := .int .i64 0) st2.blk rfl; have cK := Blk.cell (i := 0) (v := .int .i64 k) st2.blk rfl; have St2 := yq st2; clear st2; go_wp2_with fail
 have st3 := St2.o.put hlt z1 1 (.int .i64 (y : Int)) St2.o.part rfl; refine (zgy k _ hk7).mono ?_
 rintro r w3 ⟨rfl, hb3⟩; have st4 := st3.up hb3 hlt z1; clear st3 St2 hb3 fz ce cK; obtain ⟨uJ, uK, uP, uM, uS⟩ := zj6 hk7; obtain ⟨S, hS⟩ : ∃ S, zip k = S := ⟨_, rfl⟩
 rw [hS] at uJ uK uP uM uS; rw [hS]; have hSm : S.size <= maxLen := by simp only [maxLen]; omega
 have CJ := zaW S 74 74 _ hSm rfl uJ; have CK := zaW S 75 75 _ hSm rfl uK; have CP := zaW S 80 80 _ hSm rfl uP; have CM := zaW S 77 77 _ hSm rfl uM; clear hS uJ uK uP uM uS hk hE; have St4 := yq st4; clear st4
 go_upto_if 20 with (first
  | (go_at_call 73; refine (CJ.o _).mono ?_; rintro r wh ⟨rfl, rfl⟩))
 go_cut [] (fun wx => ∃ j : Nat, JOk k y j n /\ zhY w b (N + 14) E wx k y j 0 (.slice none 0 0) [] ⟨#[]⟩)
 case first =>
  cases hJ : zcd k with
  | false =>
    go_wp2
    go_meet
    exact ⟨0, .inl ⟨hJ, rfl⟩, St4.o.more yO⟩
  | true =>
    have wj1 : IntKind.i64.wrap ((n : Int) - y) = ((n - y : Nat) : Int) := by rw [IntWalk.i64_in _ yO]; omega
    have wj2 : IntKind.i64.wrap (((n - y : Nat) : Int) + 1) = ((n - y : Nat) : Int) + 1 := IntWalk.i64_in _ yO; have ce := Blk.cell (i := 1) (v := .int .i64 (y : Int)) St4.o.blk rfl; have ced : w3.drew.cell? ⟨E, 1, none⟩ = some (.int .i64 (y : Int)) := ce; have St5 := yq (fun (w5 : World) (M : Nat) (hb : But b w3 w5) (hs : Src w5 b M) => St4.o.pick hb hs hlt z1); go_upto_region 5 with fail
    go_region_held3 (fun w' => w'.cell? ⟨E, 1, none⟩ = some (.int .i64 (y : Int)))
     (first | (with_reducible exact ced) | (with_reducible exact ce) | (with_reducible exact ce5) | (with_reducible exact (ce6 _)))
     (first
       | (go_at_call 82; refine (zbZ b (N + 4) (((n - y : Nat) : Int) + 1) _ (St4.o.src.keep yb) yO).mono ?_; rintro r w5 ⟨z, rfl, hz, _, hs5, hb5⟩; have st5 := St5.o _ _ (But.trans (But.of yb) hb5) hs5; have ce5 := Blk.cell (i := 1) (v := .int .i64 (y : Int)) st5.blk rfl; have fz5 := Blk.frozen st5.blk 2; have cj5 := Blk.cell (i := 2) (v := .int .i64 0) st5.blk rfl; have ce6 := fun v => Blk.cell (i := 1) (v := .int .i64 (y : Int)) (st5.blk.set 2 v) rfl; have wj3 : IntKind.i64.wrap ((y : Int) + z) = ((y + z : Nat) : Int) := (by rw [IntWalk.i64_in _ yO]; omega)))
    go_wp2_with fail
    have St6 := yq (st5.put hlt z1 2 (.int .i64 ((y + z : Nat) : Int)) st5.part rfl); have wj4 : IntKind.i64.wrap (((y + z : Nat) : Int) - y) = (z : Int) := by rw [IntWalk.i64_in _ yO]; omega
    refine (zhW b _ 3 _ St6.o.src yO).mono ?_
    rintro r w7 ⟨t, rfl, hs7, hb7⟩; have st7 := St6.o.pick hb7 hs7 hlt z1; clear hs7 hb7 St6 st5 ce5 fz5 cj5 ce6 St5 ce ced hs5 hb5; have c1 := Blk.cell (i := 1) (v := .int .i64 (y : Int)) st7.blk rfl; have c2 := Blk.cell (i := 2) (v := .int .i64 ((y + z : Nat) : Int)) st7.blk rfl; have f2 := Blk.frozen st7.blk 2; have St7 := yq st7; clear st7; cases t with
    | false =>
      go_wp2_with fail
      go_meet
      exact ⟨y + z, .inr ⟨hJ, by omega, by omega, by omega⟩, St7.o.more yO⟩
    | true =>
      by_cases h5 : (5 : Int) < (z : Int)
      · have c1d : w7.drew.cell? ⟨E, 1, none⟩ = some (.int .i64 (y : Int)) := c1
        have St8 := yq (fun (w5 : World) (M : Nat) (hb : But b w7 w5) (hs : Src w5 b M) => St7.o.pick hb hs hlt z1); go_upto_region 7 with fail
        go_region_held3 (fun w' => w'.cell? ⟨E, 1, none⟩ = some (.int .i64 (y : Int)))
         (first | (with_reducible exact c1d) | (with_reducible exact c1) | (with_reducible exact ce5) | (with_reducible exact (ce6 _)))
         (first
           | (go_at_call 82; refine (zbZ b (N + 8) 6 _ (St7.o.src.keep yb) yO).mono ?_; rintro r w8 ⟨u, rfl, hu, _, hs5, hb5⟩; have st5 := St8.o _ _ (But.trans (But.of yb) hb5) hs5; have ce5 := Blk.cell (i := 1) (v := .int .i64 (y : Int)) st5.blk rfl; have fz5 := Blk.frozen st5.blk 2; have cj5 := Blk.cell (i := 2) (v := .int .i64 ((y + z : Nat) : Int)) st5.blk rfl; have ce6 := fun v => Blk.cell (i := 1) (v := .int .i64 (y : Int)) (st5.blk.set 2 v) rfl; have wj3 : IntKind.i64.wrap ((y : Int) + u) = ((y + u : Nat) : Int) := (by rw [IntWalk.i64_in _ yO]; omega)))
        go_wp2_with fail
        go_meet
        exact ⟨y + u, .inr ⟨hJ, by omega, by omega, by omega⟩, (st5.put hlt z1 2 (.int .i64 ((y + u : Nat) : Int)) st5.part rfl).more yO⟩
      · go_wp2_with fail
        go_meet
        exact ⟨y + z, .inr ⟨hJ, by omega, by omega, by omega⟩, St7.o.more yO⟩
 case rest =>
  obtain ⟨j, hj, st8⟩ := hcut; have St8 := yq st8; clear st8 St4 CJ
  go_upto_if 49 with (first
   | (go_at_call 73; refine (CK.o _).mono ?_; rintro r wh ⟨rfl, rfl⟩))
  go_cut [] (fun wx => ∃ q : Int, KOk k q /\ zhY w b (N + 28) E wx k y j q (.slice none 0 0) [] ⟨#[]⟩)
  case first =>
   cases hK : zcm k with
   | false =>
     go_wp2_with fail
     go_meet
     exact ⟨0, .inl ⟨hK, rfl⟩, St8.o.more yO⟩
   | true =>
     go_wp2_with fail
     refine (zbZ b _ ((n : Int) + 1) _ St8.o.src yO).mono ?_
     rintro r w9 ⟨κ, rfl, hκ, _, hs9, hb9⟩; have st9 := St8.o.pick hb9 hs9 hlt z1; have hκn : κ <= n := by omega
     have hjn : j <= n := by rcases hj with hj | hj <;> omega
     have hj13 : j <= 131070 := by rcases hj with hj | hj <;> omega
     clear hs9 hb9 St8 hκ; have c3 := Blk.cell (i := 3) (v := .int .i64 0) st9.blk rfl; have f3 := Blk.frozen st9.blk 3; have c0 := Blk.cell (i := 0) (v := .int .i64 k) st9.blk rfl; have St9 := yq (st9.put hlt z1 3 (.int .i64 (κ : Int)) st9.part rfl); have d0 := Blk.cell (i := 0) (v := .int .i64 k) St9.o.blk rfl; have d1 := Blk.cell (i := 1) (v := .int .i64 (y : Int)) St9.o.blk rfl; have d2 := Blk.cell (i := 2) (v := .int .i64 (j : Int)) St9.o.blk rfl; have d3 := Blk.cell (i := 3) (v := .int .i64 (κ : Int)) St9.o.blk rfl; have e3 := Blk.frozen St9.o.blk 3; clear st9
     have hk3 : k = 3 \/ k = 4 \/ k = 6 := by
      simp only [zcm, Bool.or_eq_true, beq_iff_eq] at hK
      omega
     rcases hk3 with rfl | rfl | rfl
     · go_wp2_with fail
       go_meet
       exact ⟨κ, .inr ⟨hK, by omega, by omega⟩, St9.o.more yO⟩
     · by_cases k1 : (y : Int) < (κ : Int)
       · by_cases k2 : (κ : Int) < (j : Int)
         · go_wp2_with fail
           go_meet
           exact ⟨j, .inr ⟨hK, by omega, by omega⟩, (St9.o.put hlt z1 3 (.int .i64 (j : Int)) St9.o.part rfl).more yO⟩
         · go_wp2_with fail
           go_meet
           exact ⟨κ, .inr ⟨hK, by omega, by omega⟩, St9.o.more yO⟩
       · go_wp2_with fail
         go_meet
         exact ⟨κ, .inr ⟨hK, by omega, by omega⟩, St9.o.more yO⟩
     · go_wp2_with fail
       refine (zbZ b _ 4 _ St9.o.src yO).mono ?_
       rintro r w10 ⟨ρ, rfl, hρ, _, hs10, hb10⟩; have st10 := St9.o.pick hb10 hs10 hlt z1; have hρn : ρ <= 3 := by omega
       clear hs10 hb10 St9 hρ d0 d1 d2 d3 e3; have c3 := Blk.cell (i := 3) (v := .int .i64 (κ : Int)) st10.blk rfl; have f3 := Blk.frozen st10.blk 3; have St10 := yq (st10.put hlt z1 3 (.int .i64 (ρ : Int)) st10.part rfl); clear st10; go_wp2_with fail
       refine (zhW b _ 12 _ St10.o.src yO).mono ?_
       rintro r w11 ⟨t2, rfl, hs11, hb11⟩; have St11 := yq (St10.o.pick hb11 hs11 hlt z1); clear hs11 hb11 St10 c3 f3; cases t2 with
       | false =>
         go_wp2_with fail
         go_meet
         exact ⟨ρ, .inr ⟨hK, by omega, by omega⟩, St11.o.more yO⟩
       | true =>
         go_wp2_with fail
         have ba := (Below.refl _ w11).alloc yL (.cells #[.int .i64 1000, .int .i64 1000000000000000, .int .i64 100000] 2); refine (zmn b _ _ [1000, 1000000000000000, 100000] _ (St11.o.src.keep ba) yO (znB [1000, 1000000000000000, 100000] St11.o.src.lt rfl (by decide)) (by decide) (by decide)).mono ?_
         rintro r w12 ⟨q, hq, rfl, hs12, hb12⟩; have st12 := (St11.o.up ba hlt z1).pick hb12 hs12 hlt z1; have hq2 : 0 <= q /\ q <= 1000000000000000 := by simp at hq; omega
         have c3 := Blk.cell (i := 3) (v := .int .i64 (ρ : Int)) st12.blk rfl; have f3 := Blk.frozen st12.blk 3; have St12 := yq st12; clear hs12 hb12 St11 ba st12; go_wp2_with fail
         go_meet
         exact ⟨q, .inr ⟨hK, hq2⟩, (St12.o.put hlt z1 3 (.int .i64 q) St12.o.part rfl).more yO⟩
  case rest =>
   obtain ⟨q, hq, st9⟩ := hcut; have St9 := yq st9; clear st9 St8 CK
   go_upto_if 88 with (first
    | (go_at_call 73; refine (CP.o _).mono ?_; rintro r wh ⟨rfl, rfl⟩))
   go_cut [] (fun wx => ∃ (A : Option Addr) (c : Nat) (xs : List zaa), POk k xs /\ zhY w b (N + 228) E wx k y j q (.slice A xs.length c) xs ⟨#[]⟩)
   case first =>
    cases hP : (k == 1) with
    | false =>
      go_wp2_with fail
      go_meet
      exact ⟨none, 0, [], .inl ⟨by simpa using hP, rfl⟩, St9.o.more yO⟩
    | true =>
      go_wp2_with fail
      refine (zfU b _ 5 _ St9.o.src yO).mono ?_
      rintro r w10 ⟨v9, xs, rfl, hsl9, hok9, hl9, hs9, hb9⟩; have st10 := St9.o.pick hb9 hs9 hlt z1; have zE := St9.o.blk.lt; have hsl : SlS zas w10 (fun k => k ≠ b /\ k ≠ E /\ w.heap.size < k /\ k < w10.heap.size) v9 xs := hsl9.more fun k hk => ⟨by omega, by omega, by omega, hk.2⟩
      obtain ⟨A9, c9, rfl, _⟩ := hsl9; have c4 := Blk.cell (i := 4) (v := .slice none 0 0) st10.blk rfl; have f4 := Blk.frozen st10.blk 4; have St10 := yq (st10.put hlt z1 4 (.slice A9 xs.length c9) hsl rfl); clear hs9 hb9 St9 st10 hsl; go_wp2_with fail
      go_meet
      exact ⟨A9, c9, xs, .inr ⟨by simpa using hP, hok9.1, hok9.2.1, hok9.2.2.2, hl9, hok9.2.2.1 (by decide)⟩, St10.o.more yO⟩
   case rest =>
    obtain ⟨A, c, xs, hx, st10⟩ := hcut; have St10 := yq st10; clear st10 St9 CP
    go_upto_if 93 with (first
     | (go_at_call 73; refine (CM.o _).mono ?_; rintro r wh ⟨rfl, rfl⟩))
    go_cut [] (fun wx => ∃ m : ByteArray, MOk k m /\ zhY w b (N + 240) E wx k y j q (.slice A xs.length c) xs m)
    case first =>
     cases hM : (k == 7) with
     | false =>
       go_wp2_with fail
       go_meet
       exact ⟨_, .inl ⟨by simpa using hM, rfl⟩, St10.o.more yO⟩
     | true =>
       go_wp2_with fail
       have ba := (Below.refl _ wc).alloc yL (.cells (zfc.map Value.string).toArray 9); refine (zny b _ _ zfc _ (St10.o.src.keep ba) yO (znC zfc St10.o.src.lt rfl (by decide)) (by decide) (by decide)).mono ?_
       rintro r w12 ⟨m, hm, rfl, hs12, hb12⟩; have st12 := (St10.o.up ba hlt z1).pick hb12 hs12 hlt z1; have c5 := Blk.cell (i := 5) (v := .string ⟨#[]⟩) st12.blk rfl; have f5 := Blk.frozen st12.blk 5; have St12 := yq st12; clear hs12 hb12 St10 ba st12; go_wp2_with fail
       go_meet
       exact ⟨m, .inr ⟨by simpa using hM, hm⟩, (St12.o.put hlt z1 5 (.string m) St12.o.part rfl).more yO⟩
    case rest =>
     obtain ⟨m, hm, st11⟩ := hcut; have St11 := yq st11; have g0 := Blk.cell (i := 0) (v := .int .i64 k) st11.blk rfl; have g1 := Blk.cell (i := 1) (v := .int .i64 (y : Int)) st11.blk rfl; have g2 := Blk.cell (i := 2) (v := .int .i64 (j : Int)) st11.blk rfl; have g3 := Blk.cell (i := 3) (v := .int .i64 q) st11.blk rfl; have g4 := Blk.cell (i := 4) (v := .slice A xs.length c) st11.blk rfl; have g5 := Blk.cell (i := 5) (v := .string m) st11.blk rfl; have r0 := Blk.cell (i := 0) (v := .int .i64 0) st11.box rfl; have r1 := Blk.cell (i := 1) (v := .int .i64 0) st11.box rfl; have r2 := Blk.cell (i := 2) (v := .int .i64 0) st11.box rfl; have r3 := Blk.cell (i := 3) (v := .int .i64 0) st11.box rfl; have r4 := Blk.cell (i := 4) (v := .slice none 0 0) st11.box rfl; have r5 := Blk.cell (i := 5) (v := .string ⟨#[]⟩) st11.box rfl; have q0 := Blk.frozen st11.box 0; have q1 := Blk.frozen st11.box 1; have q2 := Blk.frozen st11.box 2; have q3 := Blk.frozen st11.box 3; have q4 := Blk.frozen st11.box 4; have q5 := Blk.frozen st11.box 5; clear st11 St10 CM; go_wp2_with fail
     obtain ⟨hsl, hsr, hbt, hbk⟩ := St11.o.fin hlt (.int .i64 k) (.int .i64 (y : Int)) (.int .i64 (j : Int)) (.int .i64 q) (.slice A xs.length c) (.string m); obtain ⟨ho, hms, hxl, hxs⟩ := zpm hk7 hy6 hj hq hx hm; clear g0 g1 g2 g3 g4 g5 r0 r1 r2 r3 r4 r5 q0 q1 q2 q3 q4 q5 St11; revert hsl hsr hbt hbk; generalize (((((wc.setCell ⟨w.heap.size, 0, none⟩ (.int .i64 k)).setCell ⟨w.heap.size, 1, none⟩ (.int .i64 (y : Int))).setCell ⟨w.heap.size, 2, none⟩ (.int .i64 (j : Int))).setCell ⟨w.heap.size, 3, none⟩ (.int .i64 q)).setCell ⟨w.heap.size, 4, none⟩ (.slice A xs.length c)).setCell ⟨w.heap.size, 5, none⟩ (.string m) = W; intro hsl hsr hbt hbk; have x0 := Blk.cell (i := 0) (v := .int .i64 k) hbk rfl; have x1 := Blk.cell (i := 1) (v := .int .i64 (y : Int)) hbk rfl; have x2 := Blk.cell (i := 2) (v := .int .i64 (j : Int)) hbk rfl; have x3 := Blk.cell (i := 3) (v := .int .i64 q) hbk rfl; have x4 := Blk.cell (i := 4) (v := .slice A xs.length c) hbk rfl; have x5 := Blk.cell (i := 5) (v := .string m) hbk rfl; exact bodyPost_ret (v := .agg #[.int .i64 k, .int .i64 (y : Int), .int .i64 (j : Int), .int .i64 q, .slice A xs.length c, .string m]) (by simp [results, Tryz.results34, go_sem, x0, x1, x2, x3, x4, x5]) rfl ⟨_, _, ⟨k, y, j, q, xs, m⟩, rfl, rfl, hsl, hxl, hxs, ho, hms, hsr, hbt⟩
end Go.Proofs.YtdacndamehiglaaGreatDoor
