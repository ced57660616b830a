import Derived.Test.YtejgbfgocaggfaaGreatDoorM25
set_option maxRecDepth 100000
set_option maxHeartbeats 8000000
namespace Go.Proofs.YtejgbfgocaggfaaGreatDoor
open Go.RowKit
def zor (b N : Nat) (n : Int) (w : World) (r : Ending) (w' : World) : Prop := ∃ x : Nat, r = .returned (.int .i64 (x : Int)) /\ (x = 0 \/ (x : Int) < n) /\ x <= 65535 /\ Src w' b (N + 2) /\ But b w w'
theorem zb2 (b N : Nat) (n : Int) (w : World) (h : Src w b N) (hN : N <= 900000) :
  Calls Tryz.prog 49 #[.pointer (some ⟨b, 0, none⟩), .int .i64 n] w (zor b N n w) := by
 have HS := yq h; clear h; go_enter Tryz.func49, Tryz.ntmps49
 by_cases h1 : n <= 1
 · go_wp2_with fail
   go_ret
   exact ⟨0, rfl, .inl rfl, by omega, HS.o.more yO, But.refl b w⟩
 · go_wp2_with fail
   refine (zla b N w HS.o yO).mono ?_
   rintro r w1 ⟨x, rfl, hx, hs1, hb1⟩; have H1 := yq hs1; have B1 := yq hb1; clear hs1 hb1; obtain ⟨m, rfl⟩ := Int.eq_ofNat_of_zero_le (show 0 <= n by omega); have hm : ¬ (m : Int) = 0 := by omega
   by_cases h2 : (200 : Int) < m
   · go_wp2_with fail
     refine (zla b (N + 1) w1 H1.o yO).mono ?_
     rintro r w2 ⟨y, rfl, hy, hs2, hb2⟩; have H2 := yq hs2; have B2 := yq hb2; clear hs2 hb2; go_wp2_with fail
     go_ret
     refine ⟨(x * 256 + y) % m, ?_, .inr ?_, ?_, H2.o.more yO, B1.o.trans B2.o⟩
     · rfl
     · have := Nat.mod_lt (x * 256 + y) (show 0 < m by omega)
       omega
     · have := Nat.mod_le (x * 256 + y) m
       omega
   · go_wp2_with fail
     go_ret
     refine ⟨x % m, ?_, .inr ?_, ?_, H1.o.more yO, B1.o⟩
     · rfl
     · have := Nat.mod_lt x (show 0 < m by omega)
       omega
     · have := Nat.mod_le x m
       omega
theorem zhn (b N : Nat) (n : Int) (w : World) (h : Src w b N) (hN : N <= 900000) :
  Calls Tryz.prog 50 #[.pointer (some ⟨b, 0, none⟩), .int .i64 n] w fun r w' => ∃ t : Bool, r = .returned (.bool t) /\ Src w' b (N + 2) /\ But b w w' := by
 have HS := yq h; clear h; go_enter Tryz.func50, Tryz.ntmps50
 go_wp2_with fail
 refine (zb2 b N n w HS.o hN).mono ?_
 rintro r w1 ⟨x, rfl, _, _, hs1, hb1⟩; have H1 := yq hs1; have B1 := yq hb1; clear hs1 hb1; go_wp2_with fail
 go_ret
 exact ⟨_, rfl, H1.o, B1.o⟩
theorem But.keep {b : Nat} {w w' : World} (h : But b w w') : zgy (fun k => k ≠ b /\ k < w.heap.size) w w' := fun k hk => h.block k hk.2 hk.1
theorem znv (b N : Nat) (v : Value) (l : List Int) (w : World) (h : Src w b N) (hN : N <= 900000) (hl : SlS zgt w (fun k => k ≠ b /\ k < w.heap.size) v l) (h0 : 0 < l.length) (hl2 : l.length <= 1000) :
  Calls Tryz.prog 84 #[.pointer (some ⟨b, 0, none⟩), v] w fun r w' => ∃ x ∈ l, r = .returned (.int .i64 x) /\ Src w' b (N + 2) /\ But b w w' := by
 have HS := yq h; have HL := yq hl; obtain ⟨A, c, rfl, _, _, _⟩ := hl; clear h; go_enter Tryz.func84, Tryz.ntmps84
 go_wp2_with fail
 refine (zb2 b N l.length w HS.o hN).mono ?_
 rintro r w1 ⟨x, rfl, hx, _, hs1, hb1⟩; have H1 := yq hs1; have B1 := yq hb1; have hlt : x < l.length := by omega
 obtain ⟨_, _, ev, _, _, hrow⟩ := HL.o.keep hb1.keep; injection ev with ev1 ev2 ev3; subst ev1; obtain ⟨bc, oc, rfl, hbc, hcs⟩ := hrow yO; obtain ⟨cs, hcs1, hcs2⟩ := hcs x l[x] (ye hlt); have hcs1' : cs = [.int .i64 l[x]] := hcs1; subst hcs1'; have hcx := hcs2 0 _ rfl; have e1 : oc + (x * zgt.size + 0) = oc + x := by show oc + (x * 1 + 0) = oc + x; omega
 rw [e1] at hcx; have hxI : (x : Int) < (l.length : Int) := by omega
 clear hs1 hb1 hcs hcs1 hcs2 hrow e1 hx; go_wp2_with fail
 go_ret
 exact ⟨l[x], List.getElem_mem hlt, rfl, H1.o, B1.o⟩
theorem zos (b N : Nat) (v : Value) (l : List ByteArray) (w : World) (h : Src w b N) (hN : N <= 900000) (hl : SlS zic w (fun k => k ≠ b /\ k < w.heap.size) v l) (h0 : 0 < l.length) (hl2 : l.length <= 1000) :
  Calls Tryz.prog 85 #[.pointer (some ⟨b, 0, none⟩), v] w fun r w' => ∃ x ∈ l, r = .returned (.string x) /\ Src w' b (N + 2) /\ But b w w' := by
 have HS := yq h; have HL := yq hl; obtain ⟨A, c, rfl, _, _, _⟩ := hl; clear h; go_enter Tryz.func85, Tryz.ntmps85
 go_wp2_with fail
 refine (zb2 b N l.length w HS.o hN).mono ?_
 rintro r w1 ⟨x, rfl, hx, _, hs1, hb1⟩; have H1 := yq hs1; have B1 := yq hb1; have hlt : x < l.length := by omega
 obtain ⟨_, _, ev, _, _, hrow⟩ := HL.o.keep hb1.keep; injection ev with ev1 ev2 ev3; subst ev1; obtain ⟨bc, oc, rfl, hbc, hcs⟩ := hrow yO; obtain ⟨cs, hcs1, hcs2⟩ := hcs x l[x] (ye hlt); have hcs1' : cs = [.string l[x]] := hcs1; subst hcs1'; have hcx := hcs2 0 _ rfl; have e1 : oc + (x * zic.size + 0) = oc + x := by show oc + (x * 1 + 0) = oc + x; omega
 rw [e1] at hcx; have hxI : (x : Int) < (l.length : Int) := by omega
 clear hs1 hb1 hcs hcs1 hcs2 hrow e1 hx; go_wp2_with fail
 go_ret
 exact ⟨l[x], List.getElem_mem hlt, rfl, H1.o, B1.o⟩
theorem Src.keepB {w w' : World} {b N B : Nat} (h : Src w b N) (hb : Below B w w') (hB : b < B) : Src w' b N := by
 have hlt := h.lt; obtain ⟨AC, l, cC, a, d, h, h1, h2, h3⟩ := h; exact ⟨AC, l, cC, a, d, (hb.block b hB).trans h, h1, h2, h3.below (hb.mono (Nat.le_of_lt hB))⟩
theorem But.up {b B : Nat} {w w1 w2 : World} (h : But b w w1) (hb : Below B w1 w2) (hB : w.heap.size <= B) : But b w w2 :=
 ⟨hb.os.trans h.os, hb.tape.trans h.tape, hb.output.trans h.output, Nat.le_trans h.size hb.size, fun k hk hne => (hb.block k (Nat.lt_of_lt_of_le hk hB)).trans (h.block k hk hne)⟩
theorem Boxed.but {b B : Nat} {w w' : World} {t : TypeId} {v : Value} (h : Boxed w B t v) (hb : But b w w') (hne : B ≠ b) : Boxed w' B t v := (hb.block B (Array.getElem?_eq_some_iff.1 h).1 hne).trans h
theorem zac.but {b base : Nat} {w w' : World} {v : Value} {l : List zaa} (h : zac w base v l) (hb : But b w w') (hne : b < base) : zac w' base v l := by
 unfold zac at *; obtain ⟨h1, h2⟩ := h; refine ⟨h1, ?_⟩
 rcases h2 with h2 | ⟨g, cap, cur, h3, h4, h5, r⟩
 · exact .inl h2
 · exact .inr ⟨g, cap, cur, h3, h4, (hb.block g (Array.getElem?_eq_some_iff.1 h5).1 yO).trans h5, r⟩
def zho (k : Nat) : List zaa := (List.range k).map fun j => ⟨⟨#[UInt8.ofNat (97 + j)]⟩, 0, 0⟩
theorem zlb (k : Nat) : (zho k).length = k := by simp [zho]
theorem znw (k : Nat) : zho (k + 1) = zho k ++ [⟨⟨#[UInt8.ofNat (97 + k)]⟩, 0, 0⟩] := by simp [zho, List.range_succ]
def zhp (most : Int) (xs : List zaa) : Prop := zag xs = true /\ 0 < xs.length /\ (1 <= most -> zaF xs <= most) /\ zaY xs
def zjM (b N : Nat) (most : Int) (w : World) (r : Ending) (w' : World) : Prop :=
 ∃ v xs, r = .returned (.agg #[v]) /\ SlS zar w' (fun k => w.heap.size <= k /\ k < w'.heap.size) v xs /\ zhp most xs /\ xs.length <= 14 /\ Src w' b (N + 200) /\ But b w w'
theorem ziV {w : World} {base : Nat} {A : Option Addr} {n c k : Nat} {t : ByteArray} (own : zac w base (.slice A (zho k ++ ([⟨t, 0, 0⟩] : List zaa)).length c) (zho k ++ [⟨t, 0, 0⟩])) (ht : t = ⟨#[UInt8.ofNat (97 + k)]⟩) (hn : n = (zho k).length + 1 := by rfl) : zac w base (.slice A n c) (zho (k + 1)) := by
 subst ht; subst hn; rw [znw]; have e : (zho k ++ [(⟨⟨#[UInt8.ofNat (97 + k)]⟩, 0, 0⟩ : zaa)]).length = (zho k).length + 1 := by simp
 rw [<- e]; exact own
theorem zpk (most : Int) (x : Nat) (hx : x <= 2) : zhp most (zho (x + 1)) := by
 have h3 : x = 0 \/ x = 1 \/ x = 2 := by omega
 rcases h3 with rfl | rfl | rfl
 · refine ⟨by decide, by decide, fun h => ?_, ?_⟩
   · rw [show zaF (zho (0 + 1)) = 1 by decide]; exact h
   · intro r hr; simp [zho, List.range_succ] at hr; subst hr; decide
 · refine ⟨by decide, by decide, fun h => ?_, ?_⟩
   · rw [show zaF (zho (1 + 1)) = 1 by decide]; exact h
   · intro r hr; simp [zho, List.range_succ] at hr; rcases hr with rfl | rfl <;> decide
 · refine ⟨by decide, by decide, fun h => ?_, ?_⟩
   · rw [show zaF (zho (2 + 1)) = 1 by decide]; exact h
   · intro r hr; simp [zho, List.range_succ] at hr; rcases hr with rfl | rfl | rfl <;> decide
structure zhK (w : World) (b M : Nat) (wx : World) (v : Value) (xs : List zaa) : Prop where
 src : Src wx b M
 but : But b w wx
 b0 : Boxed wx w.heap.size 26 (.slice none 0 0)
 b1 : Boxed wx (w.heap.size + 1) 26 v
 own : zac wx (w.heap.size + 2) v xs
theorem zhK.pick {w wx w' : World} {b M M' : Nat} {v : Value} {xs : List zaa} (h : zhK w b M wx v xs) (hb : But b wx w') (hs : Src w' b M') (hlt : b < w.heap.size) : zhK w b M' w' v xs :=
 ⟨hs, h.but.trans hb, Boxed.but h.b0 hb yO, Boxed.but h.b1 hb yO, h.own.but hb yO⟩
theorem zhK.up {w wx w' : World} {b M : Nat} {v : Value} {xs : List zaa} (h : zhK w b M wx v xs) (hb : Below wx.heap.size wx w') : zhK w b M w' v xs :=
 ⟨h.src.keep hb, h.but.trans (But.of hb), Boxed.up h.b0 hb (Array.getElem?_eq_some_iff.1 h.b0).1, Boxed.up h.b1 hb (Array.getElem?_eq_some_iff.1 h.b1).1, h.own.below hb⟩
theorem zhK.lt {w wx : World} {b M : Nat} {v : Value} {xs : List zaa} (h : zhK w b M wx v xs) : w.heap.size + 1 < wx.heap.size := (Array.getElem?_eq_some_iff.1 h.b1).1
theorem zhK.put {w wx w' : World} {b M : Nat} {v v' : Value} {xs ys : List zaa} (h : zhK w b M wx v xs) (hlt : b < w.heap.size) (hb : Below (w.heap.size + 2) wx w') (own : zac w' (w.heap.size + 2) v' ys) : zhK w b M (w'.setCell ⟨w.heap.size + 1, 0, none⟩ v') v' ys := by
 have h0 : Boxed w' w.heap.size 26 (.slice none 0 0) := Boxed.up h.b0 hb yO; have h1 : Boxed w' (w.heap.size + 1) 26 v := Boxed.up h.b1 hb yO; have hb2 : Below (w.heap.size + 1) wx (w'.setCell ⟨w.heap.size + 1, 0, none⟩ v') := (hb.mono (Nat.le_succ _)).setCell (p := ⟨w.heap.size + 1, 0, none⟩) yL _; exact ⟨h.src.keepB hb2 yO, h.but.up hb2 yO, Boxed.up h.b0 hb2 yO, Boxed.set _ h1, ownsRow_setCell_other (a := ⟨w.heap.size + 1, 0, none⟩) own (Boxed.not_row h1 (by decide) own).symm _⟩
theorem zdk {w : World} {o : Obj} {k : Nat} (hk : k = w.heap.size) : (w.alloc o).heap[k]? = some o := by subst hk; exact heap_alloc_new w o
theorem zdl {w : World} {o : Obj} {k : Nat} (hk : k = w.heap.size) : (w.alloc o).drew.heap[k]? = some o := by subst hk; exact heap_alloc_new w o
theorem zdm {w : World} {o' : Obj} {k : Nat} (h : w.heap[k]? = some o') : w.drew.heap[k]? = some o' := h
theorem zfm {w : World} {o o' : Obj} {k : Nat} (h : w.heap[k]? = some o') : (w.alloc o).heap[k]? = some o' := by
 have := (Array.getElem?_eq_some_iff.1 h).1
 rw [<- h]; simp only [World.alloc]; rw [Array.getElem?_push_lt this, Array.getElem?_eq_getElem this]
theorem zot {w w' : World} {row : Option Nat} {k : Nat} {o : Obj} (hg : w.grownBy w' row) (h : w.heap[k]? = some o) (hne : some k ≠ row) : w'.heap[k]? = some o :=
 (zgy.of_grown hg k ⟨(Array.getElem?_eq_some_iff.1 h).1, hne⟩).trans h
theorem zpU {w : World} {N : Nat} {t : ByteArray} {p q : Int} (h : w.heap[N]? = some (.cells #[.string t, .int .i64 p, .int .i64 q] 88 (0, 0))) : SlS zar w (fun _ => True) (.slice (some ⟨N, 0, none⟩) 1 1) [⟨t, p, q⟩] := by
 refine ⟨_, 1, rfl, Nat.le_refl _, by simp [maxLen], fun _ => ⟨N, 0, rfl, trivial, fun k r hk => ⟨r.cells, rfl, fun j u hu => ?_⟩⟩⟩
 have hk0 : k = 0 := by
  have := (List.getElem?_eq_some_iff.1 hk).1
  simp at this; exact this
 subst hk0; simp at hk
 subst hk; have hc := Lib.cell_of_heap h (0 + (0 * zar.size + j)); rw [hc]; simpa [zaa.cells] using hu
structure zbX (w : World) (R : Nat) (t : ByteArray) (p q : Nat) : Prop where
 box : w.heap[R]? = some (.cells #[.string t, .int .i64 (p : Int), .int .i64 (q : Int)] 88 (0, 0))
theorem zbX.new (w : World) (t : ByteArray) (p q : Nat) : zbX (w.alloc (.cells #[.string t, .int .i64 (p : Int), .int .i64 (q : Int)] 88)) w.heap.size t p q := ⟨heap_alloc_new w _⟩
theorem zbX.but {w w' : World} {R b : Nat} {t : ByteArray} {p q : Nat} (h : zbX w R t p q) (hb : But b w w') (hne : R ≠ b) : zbX w' R t p q := ⟨(hb.block R (Array.getElem?_eq_some_iff.1 h.box).1 hne).trans h.box⟩
theorem zbX.c0 {w : World} {R : Nat} {t : ByteArray} {p q : Nat} (h : zbX w R t p q) : w.cell? ⟨R, 0, none⟩ = some (.string t) := by rw [Lib.cell_of_heap h.box]; rfl
theorem zbX.c1 {w : World} {R : Nat} {t : ByteArray} {p q : Nat} (h : zbX w R t p q) : w.cell? ⟨R, 1, none⟩ = some (.int .i64 (p : Int)) := by rw [Lib.cell_of_heap h.box]; rfl
theorem zbX.c2 {w : World} {R : Nat} {t : ByteArray} {p q : Nat} (h : zbX w R t p q) : w.cell? ⟨R, 2, none⟩ = some (.int .i64 (q : Int)) := by rw [Lib.cell_of_heap h.box]; rfl
theorem zbX.f1 {w : World} {R : Nat} {t : ByteArray} {p q : Nat} (h : zbX w R t p q) : w.frozen? ⟨R, 1, none⟩ = false := Lib.frozen_of_heap h.box 1
theorem zbX.f2 {w : World} {R : Nat} {t : ByteArray} {p q : Nat} (h : zbX w R t p q) : w.frozen? ⟨R, 2, none⟩ = false := Lib.frozen_of_heap h.box 2
theorem zbX.set1 {w : World} {R : Nat} {t : ByteArray} {p q : Nat} (h : zbX w R t p q) (n : Nat) : zbX (w.setCell ⟨R, 1, none⟩ (.int .i64 (n : Int))) R t n q := ⟨by simp [World.setCell, Array.getElem?_modify, h.box]⟩
theorem zbX.set2 {w : World} {R : Nat} {t : ByteArray} {p q : Nat} (h : zbX w R t p q) (n : Nat) : zbX (w.setCell ⟨R, 2, none⟩ (.int .i64 (n : Int))) R t p n := ⟨by simp [World.setCell, Array.getElem?_modify, h.box]⟩
theorem zpV {wc W : World} {p R : Nat} {v u0 u1 u2 : Value} (c : wc.cell? ⟨p, 0, none⟩ = some v) (hp : p < wc.heap.size) (r0 : wc.cell? ⟨R, 0, none⟩ = some u0) (r1 : wc.cell? ⟨R, 1, none⟩ = some u1) (r2 : wc.cell? ⟨R, 2, none⟩ = some u2) (hR : R < wc.heap.size) (h : Below wc.heap.size wc W) :
  Below wc.heap.size wc W /\ W.cell? ⟨p, 0, none⟩ = some v /\ W.cell? ⟨R, 0, none⟩ = some u0 /\ W.cell? ⟨R, 1, none⟩ = some u1 /\ W.cell? ⟨R, 2, none⟩ = some u2 := ⟨h, (h.cell hp).trans c, (h.cell hR).trans r0, (h.cell hR).trans r1, (h.cell hR).trans r2⟩
theorem zhK.far {w wx : World} {b M R o : Nat} {v : Value} {xs : List zaa} (h : zhK w b M wx v xs) (hlt : b < w.heap.size) (hR : w.heap.size + 2 <= R) (hne : ∀ g, v.ownBlock = some g -> g ≠ R) (u : Value) : zhK w b M (wx.setCell ⟨R, o, none⟩ u) v xs := by
 have hb : Below R wx (wx.setCell ⟨R, o, none⟩ u) := (Below.refl _ _).setCell (p := ⟨R, o, none⟩) yL _; refine ⟨h.src.keepB hb yO, h.but.up hb yO, Boxed.up h.b0 hb yO, Boxed.up h.b1 hb yO, ?_⟩
 exact ownsRow_setCell_other (a := ⟨R, o, none⟩) h.own (fun e => hne _ e rfl) _
theorem hkk {w w9 : World} {k g : Nat} {o : Obj} (hk : ∀ k o, w.heap[k]? = some o -> k ≠ g -> w9.heap[k]? = some o) (hne : k ≠ g) (h : w.heap[k]? = some o) : w9.heap[k]? = some o := hk k o h hne
theorem znx {P A B : Prop} (h : A -> B) (ha : A) (k : B -> P) : P := k (h ha)
theorem zny {W : World} {ops : Array Oper} {o : Oper} {a : Act} {K : Act -> World -> Prop} {Q : Exit -> Act -> World -> Prop} {E : Prop} (hgd : o.guard = none) (s x : Operand)
  (ho : o.op = .call { callee := .builtin .append, args := #[s, x], argTypes := #[24, 24] }) {ys : List zaa} {base g c2 : Nat} {A2 : Option Addr} {S : Nat -> Prop}
  (hs : a.eval s = .slice (some ⟨g, 0, none⟩) 0 0) (hx : a.eval x = .slice A2 ys.length c2) (hg : W.heap[g]? = some (.cells #[] 88 (0, 0))) (hb : base <= g) (hsl : SlS zar W S (.slice A2 ys.length c2) ys) (hlen : ys.length <= 1099511627776)
  (h : ∀ A9 c9 w9, zac w9 base (.slice A9 ys.length c9) ys -> (∀ k o, W.heap[k]? = some o -> k ≠ g -> w9.heap[k]? = some o) -> Below base W w9 -> K (a.put o.dst (.slice A9 ys.length c9)) w9) :
  if Region.wanted o (yielded ops a.tmps) = true then Oper.wp Tryz.prog o a W K Q else E := by
 refine zbx hgd s x ho (base := base) (l := []) hs hx ⟨rfl, .inr ⟨g, 0, #[], rfl, hb, hg, Nat.le_refl _, Nat.zero_le _, rfl, rfl⟩⟩ hsl (by simpa using hlen) (by have := (Array.getElem?_eq_some_iff.1 hg).1; omega) ?_
 intro v' w' own hgr hbl; obtain ⟨A9, c9, rfl, _⟩ := zae own; exact h A9 c9 w' own (fun k o hk hne => zot hgr hk (by simpa [Value.ownBlock] using hne)) hbl
theorem znz {W : World} {ops : Array Oper} {o : Oper} {a : Act} {K : Act -> World -> Prop} {Q : Exit -> Act -> World -> Prop} {E : Prop} (hgd : o.guard = none) (s x : Operand)
  (ho : o.op = .call { callee := .builtin .append, args := #[s, x], argTypes := #[24, 24] }) {l : List zaa} {t : ByteArray} {p q : Int} {base B c9 : Nat} {A9 : Option Addr}
  (hs : a.eval s = .slice A9 l.length c9) (hx : a.eval x = .slice (some ⟨B, 0, none⟩) 1 1) (hown : zac W base (.slice A9 l.length c9) l) (hB : W.heap[B]? = some (.cells #[.string t, .int .i64 p, .int .i64 q] 88 (0, 0))) (hlen : l.length <= 1099511627775) (hbase : base <= W.heap.size)
  (h : ∀ A10 c10 w10, zac w10 base (.slice A10 (l.length + 1) c10) (l ++ [⟨t, p, q⟩]) -> (∀ k v, W.heap[k]? = some (.cells #[v] 26 (0, 0)) -> Boxed w10 k 26 v) -> Below base W w10 -> K (a.put o.dst (.slice A10 (l.length + 1) c10)) w10) :
  if Region.wanted o (yielded ops a.tmps) = true then Oper.wp Tryz.prog o a W K Q else E := by
 refine zbx hgd s x ho (base := base) (l := l) (ys := [⟨t, p, q⟩]) (S := fun _ => True) hs hx hown (zpU hB) (by simp; omega) hbase ?_
 intro v' w' own hgr hbl; obtain ⟨A9, c9, rfl, _⟩ := zae own; have e : (l ++ [(⟨t, p, q⟩ : zaa)]).length = l.length + 1 := by simp
 rw [e] at own |-
 exact h A9 c9 w' own (fun k v hk => Boxed.kept hk hgr (Boxed.not_row hk (by decide) hown)) hbl
theorem zf5 {w wx : World} {b N M : Nat} {most : Int} {v : Value} {xs : List zaa} (h : zhK w b M wx v xs) (hlt : b < w.heap.size) (hM : M <= N + 200) (hok : zhp most xs) (hl : xs.length <= 14) (u : Value) :
  zjM b N most w (.returned (.agg #[v])) (wx.setCell ⟨w.heap.size, 0, none⟩ u) := by
 have hb2 : Below w.heap.size wx (wx.setCell ⟨w.heap.size, 0, none⟩ u) := (Below.refl _ _).setCell (p := ⟨w.heap.size, 0, none⟩) yL _; have own : zac (wx.setCell ⟨w.heap.size, 0, none⟩ u) (w.heap.size + 2) v xs := ownsRow_setCell_other (a := ⟨w.heap.size, 0, none⟩) h.own (Boxed.not_row h.b0 (by decide) h.own).symm _; refine ⟨v, xs, rfl, own.slS (fun g hg => ?_), hok, hl, (h.src.keepB hb2 hlt).more hM, h.but.up hb2 yL⟩
 have := World.ownsRow.lt own g hg; exact ⟨by omega, this.2⟩
theorem zgr (b N : Nat) (most : Int) (w : World) (h : Src w b N) (hN : N <= 800000) :
  Calls Tryz.prog 16 #[.pointer (some ⟨b, 0, none⟩), .int .i64 most] w (zjM b N most w) := by
 have hlt := h.lt; have HS := yq h; clear h; go_enter Tryz.func16, Tryz.ntmps16
 go_wp2_with fail
 have hW0 : zhK w b N ((w.alloc (.cells #[.slice none 0 0] 26)).alloc (.cells #[.slice none 0 0] 26)) (.slice none 0 0) [] := by
  have hb : Below w.heap.size w ((w.alloc (.cells #[.slice none 0 0] 26)).alloc (.cells #[.slice none 0 0] 26)) := ((Below.refl _ w).alloc yL _).alloc yS _; refine ⟨HS.o.keep hb, But.of hb, ?_, ?_, World.ownsRow_nil _ _ _ _⟩
  · have h0 : Boxed (w.alloc (.cells #[.slice none 0 0] 26)) w.heap.size 26 (.slice none 0 0) := heap_alloc_new w _
    exact Boxed.up h0 ((Below.refl (w.heap.size + 1) _).alloc (by rw [World.size_alloc]; exact Nat.le_refl _) _) (Nat.lt_succ_self _)
  · have := heap_alloc_new (w.alloc (.cells #[.slice none 0 0] 26)) (.cells #[.slice none 0 0] 26)
    rw [World.size_alloc] at this; exact this
 refine (zb2 b N 3 _ hW0.src yO).mono ?_
 rintro r w1 ⟨x, rfl, hx, _, hs1, hb1⟩; have H1 := yq (hW0.pick hb1 hs1 hlt); have hx3 : x <= 2 := by omega
 clear hW0 hs1 hb1 hx; go_wp2_with fail
 go_loopw [7] (fun i wx => ∃ (k : Nat) (v : Value), k <= x + 1 /\ i = .int .i64 (k : Int) /\ zhK w b (N + 2) wx v (zho k)) (fun i _ => x + 1 - (intOf i).toNat)
 case atStart => exact ⟨0, _, Nat.zero_le _, rfl, H1.o⟩
 case round =>
  obtain ⟨k, v, hk, rfl, hst⟩ := hrel; have Hst := yq hst; obtain ⟨A, c, rfl, _⟩ := zae hst.own; have hcb := Boxed.cell hst.b1; have hfb := Boxed.frozen hst.b1; have hzr := hst.lt; by_cases hlt1 : k < x + 1
  · have hlI : (k : Int) < 1 + (x : Int) := by omega
    have Hlen : yh ((zho k).length <= 1099511627775) := by rw [yh, zlb]; omega
    clear hst; have HA := yq (fun (o1 o2 : Obj) => ((Below.refl (w.heap.size + 2) wr).alloc (show w.heap.size + 2 <= wr.heap.size by omega) o1).alloc (by rw [World.size_alloc]; omega) o2); have hk3 : k = 0 \/ k = 1 \/ k = 2 := by omega
    rcases hk3 with rfl | rfl | rfl
    · have hcv := znY [97] wr.heap.size 0 1 1 (wr.alloc (.cells #[.int .u8 97] 5)) rfl (by
       intro t ht; have : t = 0 := by simpa using ht
       subst this
       simp [go_sem])
      go_wp2_with (first
       | (at_builtin; refine za5 (base := w.heap.size + 2) (t := ⟨#[97]⟩) (p := 0) (q := 0) rfl _ _ rfl rfl rfl yS (Hst.o.own.alloc _) Hlen.o yo ?_; intro v3 w3 own3 hg3 hb3; obtain ⟨A3, c3, rfl, _⟩ := zae own3; have hb9 := (HA.o _ _).trans hb3; have bx3 := Boxed.up Hst.o.b1 hb9 (Nat.lt_succ_self _); have hcb3 := Boxed.cell bx3; have hfb3 := Boxed.frozen bx3))
      refine ⟨⟨1, _, by omega, rfl, Hst.o.put hlt hb9 (ziV own3 rfl)⟩, by first | (simp [intOf]; done) | (simp [intOf]; omega)⟩
    · have hcv := znY [98] wr.heap.size 0 1 1 (wr.alloc (.cells #[.int .u8 98] 5)) rfl (by
       intro t ht; have : t = 0 := by simpa using ht
       subst this
       simp [go_sem])
      go_wp2_with (first
       | (at_builtin; refine za5 (base := w.heap.size + 2) (t := ⟨#[98]⟩) (p := 0) (q := 0) rfl _ _ rfl rfl rfl yS (Hst.o.own.alloc _) Hlen.o yo ?_; intro v3 w3 own3 hg3 hb3; obtain ⟨A3, c3, rfl, _⟩ := zae own3; have hb9 := (HA.o _ _).trans hb3; have bx3 := Boxed.up Hst.o.b1 hb9 (Nat.lt_succ_self _); have hcb3 := Boxed.cell bx3; have hfb3 := Boxed.frozen bx3))
      refine ⟨⟨2, _, by omega, rfl, Hst.o.put hlt hb9 (ziV own3 rfl)⟩, by first | (simp [intOf]; done) | (simp [intOf]; omega)⟩
    · have hcv := znY [99] wr.heap.size 0 1 1 (wr.alloc (.cells #[.int .u8 99] 5)) rfl (by
       intro t ht; have : t = 0 := by simpa using ht
       subst this
       simp [go_sem])
      go_wp2_with (first
       | (at_builtin; refine za5 (base := w.heap.size + 2) (t := ⟨#[99]⟩) (p := 0) (q := 0) rfl _ _ rfl rfl rfl yS (Hst.o.own.alloc _) Hlen.o yo ?_; intro v3 w3 own3 hg3 hb3; obtain ⟨A3, c3, rfl, _⟩ := zae own3; have hb9 := (HA.o _ _).trans hb3; have bx3 := Boxed.up Hst.o.b1 hb9 (Nat.lt_succ_self _); have hcb3 := Boxed.cell bx3; have hfb3 := Boxed.frozen bx3))
      refine ⟨⟨3, _, by omega, rfl, Hst.o.put hlt hb9 (ziV own3 rfl)⟩, by first | (simp [intOf]; done) | (simp [intOf]; omega)⟩
  · have hkx : k = x + 1 := by omega
    subst hkx; have hlI : ¬ ((x + 1 : Nat) : Int) < 1 + (x : Int) := by omega
    have Hok := yq (zpk most x hx3); have Hl14 : yh ((zho (x + 1)).length <= 3) := by rw [yh, zlb]; omega
    obtain ⟨X, hX⟩ : ∃ X, zho (x + 1) = X := ⟨_, rfl⟩
    rw [hX] at Hok Hl14 Hst; have hXl : (zho (x + 1)).length = X.length := by rw [hX]
    clear hst hX hcb hfb hlI hzr H1; go_wp2_with fail
    refine (zb2 b (N + 2) 12 _ Hst.o.src yO).mono ?_
    rintro r w2 ⟨y, rfl, hy, _, hs2, hb2⟩; have H2 := yq (Hst.o.pick hb2 hs2 hlt); have hy11 : y <= 11 := by omega
    clear Hst hs2 hb2 hy; go_wp2_with fail
    go_loopw [8] (fun i wx => ∃ (k : Nat) (v : Value) (xs : List zaa), k <= y /\ i = .int .i64 (k : Int) /\ zhp most xs /\ xs.length + k <= 14 /\ zhK w b (N + 100 - 8 * k) wx v xs) (fun i _ => (intOf i).toNat)
    case atStart => exact ⟨y, _, X, Nat.le_refl _, rfl, Hok.o, by have := Hl14.o; omega, ⟨H2.o.src.more yO, H2.o.but, H2.o.b0, H2.o.b1, H2.o.own⟩⟩
    case round =>
     obtain ⟨k, v, xs, hk, rfl, hok, hlk, hst⟩ := hrel; have Hst := yq hst; have Hok := yq hok; obtain ⟨A2, c2, rfl, _⟩ := zae hst.own; have hcb := Boxed.cell hst.b1; have hfb := Boxed.frozen hst.b1; have hcb0 := Boxed.cell hst.b0; have hfb0 := Boxed.frozen hst.b0; have hzr := hst.lt; by_cases hk0 : k = 0
     · subst hk0
       clear hst hok; go_wp2_with fail
       refine bodyPost_ret (v := .agg #[.slice A2 xs.length c2]) (by simp [results, Tryz.results16, go_sem, hcb0]) rfl (zf5 Hst.o hlt yO Hok.o yO _)
     · have hkI : (0 : Int) < (k : Int) := by omega
       have hn0 := hok.2.1; clear hst hok
       go_upto_if 49 with (first
        | (go_at_call 49; refine (zb2 b _ xs.length _ Hst.o.src yO).mono ?_; rintro r w3 ⟨p, rfl, hp, _, hs3, hb3⟩)
        | (go_at_call 49; refine (zb2 b _ xs.length _ hs3 yO).mono ?_; rintro r w4 ⟨q, rfl, hq, _, hs4, hb4⟩)
        | (go_at_call 50; refine (zhn b _ 2 _ (hs4.keep ((Below.refl _ _).alloc yL _)) yO).mono ?_; rintro r w5 ⟨t5, rfl, hs5, hb5⟩))
       have hb4' := zbX.new w4 ⟨#[]⟩ p q; have R5 : zbX w5 w4.heap.size ⟨#[]⟩ p q := hb4'.but hb5 (by have := hb3.size; have := hb4.size; omega); have hst4 := (Hst.o.pick hb3 hs3 hlt).pick hb4 hs4 hlt; have hst5 := (hst4.up ((Below.refl w4.heap.size w4).alloc yL (.cells #[.string ⟨#[]⟩, .int .i64 (p : Int), .int .i64 (q : Int)] 88))).pick hb5 hs5 hlt; have H5 := yq hst5; have HR5 := yq R5; have z4 : w.heap.size + 2 <= w4.heap.size := by have := hst4.lt; omega
       have hp2 : p < xs.length := by omega
       have hq2 : q < xs.length := by omega
       have hAR : ∀ g, (Value.slice A2 xs.length c2).ownBlock = some g -> g ≠ w4.heap.size := fun g hg => by
        have h1 := (World.ownsRow.lt Hst.o.own g hg).2; have h2 := hb3.size; have h3 := hb4.size; omega
       obtain ⟨R, hR⟩ : ∃ R, w4.heap.size = R := ⟨_, rfl⟩
       rw [hR] at HR5 z4 hAR; rw [hR]; have hrc := HR5.o.c1; have hrf := HR5.o.f1; have hnI : IntKind.i64.wrap ((xs.length : Int) - 1) = (xs.length : Int) - 1 := IntWalk.i64_in _ yO; clear hst4 hst5 R5 hb4' hs3 hs4 hs5 hb3 hb4 hb5 hR hcb hfb hcb0 hfb0 hp hq; go_cut [] (fun wx => ∃ p2 : Nat, p2 < xs.length /\ zhK w b (N + 100 - 8 * k + 6) wx (.slice A2 xs.length c2) xs /\ zbX wx R ⟨#[]⟩ p2 q)
       case first =>
        cases t5 with
        | true =>
          go_wp2
          go_meet
          refine ⟨xs.length - 1, by omega, H5.o.far hlt z4 hAR _, ?_⟩
          have := HR5.o.set1 (xs.length - 1); rw [show ((xs.length - 1 : Nat) : Int) = (xs.length : Int) - 1 by omega] at this; exact this
        | false =>
          go_wp2
          go_meet
          exact ⟨p, hp2, H5.o, HR5.o⟩
       case rest =>
        obtain ⟨p2, hpp, hst6, hbx6⟩ := hcut; have H6 := yq hst6; have HR6 := yq hbx6; clear hst6 hbx6 hrc hrf H5 HR5 hp2
        go_upto_if 54 with (first
         | (go_at_call 50; refine (zhn b _ 3 _ H6.o.src yO).mono ?_; rintro r w7 ⟨t7, rfl, hs7, hb7⟩))
        have hst7 := H6.o.pick hb7 hs7 hlt; have hR7 := HR6.o.but hb7 yO; have H7 := yq hst7; have HR7 := yq hR7; have hrc := HR7.o.c2; have hrf := HR7.o.f2; clear hst7 hR7 hs7 hb7 H6 HR6; go_cut [] (fun wx => ∃ q2 : Nat, q2 < xs.length /\ zhK w b (N + 100 - 8 * k + 8) wx (.slice A2 xs.length c2) xs /\ zbX wx R ⟨#[]⟩ p2 q2)
        case first =>
         cases t7 with
         | true =>
           go_wp2
           go_meet
           refine ⟨xs.length - 1, by omega, H7.o.far hlt z4 hAR _, ?_⟩
           have := HR7.o.set2 (xs.length - 1); rw [show ((xs.length - 1 : Nat) : Int) = (xs.length : Int) - 1 by omega] at this; exact this
         | false =>
           go_wp2
           go_meet
           exact ⟨q, hq2, H7.o, HR7.o⟩
        case rest =>
         obtain ⟨q2, hqq, hst8, hbx8⟩ := hcut; have H8 := yq hst8; have HR8 := yq hbx8; have hrc0 := hbx8.c0; have hrc1 := hbx8.c1; have hrc2 := hbx8.c2; have hcb := Boxed.cell hst8.b1; have hfb := Boxed.frozen hst8.b1; clear hst8 hbx8 hrc hrf H7 HR7 hq2; go_upto_region 16 with fail
         have HSl := yq H8.o.own.sl; have hlt8 := H8.o.lt; go_cut [11] (fun u11 wx => ∃ (L : Nat) (A3 : Option Addr) (c3 : Nat), u11 = .pointer (some ⟨L, 0, none⟩) /\ w.heap.size + 2 <= L /\ zhK w b (N + 100 - 8 * k + 8) wx (.slice A2 xs.length c2) xs /\ Boxed wx L 26 (.slice A3 (xs.length + 1) c3) /\ zac wx (w.heap.size + 2) (.slice A3 (xs.length + 1) c3) (xs ++ [⟨⟨#[]⟩, p2, q2⟩]))
         case first =>
          have hRlt : R < wc.heap.size := (Array.getElem?_eq_some_iff.1 HR8.o.box).1
          have HRlt := yq hRlt; have hb1lt : w.heap.size + 1 < wc.heap.size := by omega
          have HX := yq (show xs.length <= 1099511627775 by omega); have HCB := yq hcb; have HRC0 := yq hrc0; have HRC1 := yq hrc1; have HRC2 := yq hrc2
          go_region_held3 (fun w' => Below wc.heap.size wc w' /\ w'.cell? ⟨w.heap.size + 1, 0, none⟩ = some (.slice A2 xs.length c2) /\ w'.cell? ⟨R, 0, none⟩ = some (.string ⟨#[]⟩) /\ w'.cell? ⟨R, 1, none⟩ = some (.int .i64 (p2 : Int)) /\ w'.cell? ⟨R, 2, none⟩ = some (.int .i64 (q2 : Int)))
           (first | (with_reducible refine zpV HCB.o hb1lt HRC0.o HRC1.o HRC2.o HRlt.o ?_; (repeat (first | exact B10 | exact B9 | exact Below.refl _ _ | refine Below.drew ?_ | (refine Below.setCell ?_ (by first | exact Nat.le_refl _ | (show _ <= _; omega) | (simp; done) | (simp; omega)) _) | (refine Below.alloc ?_ yo _)))))
           (first
             | ((fail_if_success (have hx9 := B9)); refine zny (base := wc.heap.size) (ys := xs) (S := fun k => k < wc.heap.size) yR _ _ yR yR yR (by ((repeat (first | (with_reducible assumption) | ((with_reducible refine zdl ?_); (focus (first | (exact (World.size_alloc _ _).symm) | (simp; done) | (simp; omega)))) | ((with_reducible refine zdk ?_); (focus (first | (exact (World.size_alloc _ _).symm) | (simp; done) | (simp; omega)))) | (with_reducible apply zdm) | (with_reducible apply zfm) | ((with_reducible refine hkk hk9 ?_ ?_); (focus (first | (simp; done) | (simp; omega) | omega))))); all_goals fail "left")) (by first | omega | (simp; done)) (HSl.o.keep (zgy.of_below (by (repeat (first | (with_reducible exact B9) | (with_reducible exact Below.refl _ _) | with_reducible refine Below.drew ?_ | (with_reducible refine Below.alloc ?_ yo _)))))) (Nat.le_succ_of_le HX.o) ?_; intro A9 c9 w9 own9 hk9 hb9; have B9 : Below wc.heap.size wc w9 := Below.trans (by (repeat (first | (with_reducible exact B9) | (with_reducible exact Below.refl _ _) | with_reducible refine Below.drew ?_ | (with_reducible refine Below.alloc ?_ yo _)))) hb9; have hs9 := B9.size)
             | ((fail_if_success (have hx10 := B10)); refine znz (base := wc.heap.size) (l := xs) yR _ _ yR yR yR (by (repeat (first | (with_reducible exact own9) | with_reducible apply zac.drew | with_reducible apply zac.alloc))) (by ((repeat (first | (with_reducible assumption) | ((with_reducible refine zdl ?_); (focus (first | (exact (World.size_alloc _ _).symm) | (simp; done) | (simp; omega)))) | ((with_reducible refine zdk ?_); (focus (first | (exact (World.size_alloc _ _).symm) | (simp; done) | (simp; omega)))) | (with_reducible apply zdm) | (with_reducible apply zfm) | ((with_reducible refine hkk hk9 ?_ ?_); (focus (first | (simp; done) | (simp; omega) | omega))))); all_goals fail "left")) HX.o (by first | exact hs9 | (simp; omega)) ?_; intro A10 c10 w10 own10 hk10 hb10; have B10 : Below wc.heap.size wc w10 := Below.trans (by (repeat (first | (with_reducible exact B9) | (with_reducible exact Below.refl _ _) | with_reducible refine Below.drew ?_ | (with_reducible refine Below.alloc ?_ yo _)))) hb10; have hs10 := B10.size; (try (refine znx (hk10 (wc.heap.size) (.slice none 0 0)) ?_ ?_; (focus ((repeat (first | (with_reducible assumption) | ((with_reducible refine zdl ?_); (focus (first | (exact (World.size_alloc _ _).symm) | (simp; done) | (simp; omega)))) | ((with_reducible refine zdk ?_); (focus (first | (exact (World.size_alloc _ _).symm) | (simp; done) | (simp; omega)))) | (with_reducible apply zdm) | (with_reducible apply zfm) | ((with_reducible refine hkk hk9 ?_ ?_); (focus (first | (simp; done) | (simp; omega) | omega))))); all_goals fail "left")); intro bL10; have hcL := Boxed.cell bL10; have hfL := Boxed.frozen bL10; have hlL := (Array.getElem?_eq_some_iff.1 bL10).1)); (try (refine znx (hk10 (wc.heap.size + 1) (.slice none 0 0)) ?_ ?_; (focus ((repeat (first | (with_reducible assumption) | ((with_reducible refine zdl ?_); (focus (first | (exact (World.size_alloc _ _).symm) | (simp; done) | (simp; omega)))) | ((with_reducible refine zdk ?_); (focus (first | (exact (World.size_alloc _ _).symm) | (simp; done) | (simp; omega)))) | (with_reducible apply zdm) | (with_reducible apply zfm) | ((with_reducible refine hkk hk9 ?_ ?_); (focus (first | (simp; done) | (simp; omega) | omega))))); all_goals fail "left")); intro bL10; have hcL := Boxed.cell bL10; have hfL := Boxed.frozen bL10; have hlL := (Array.getElem?_eq_some_iff.1 bL10).1)); (try (refine znx (hk10 (wc.heap.size + 1 + 1) (.slice none 0 0)) ?_ ?_; (focus ((repeat (first | (with_reducible assumption) | ((with_reducible refine zdl ?_); (focus (first | (exact (World.size_alloc _ _).symm) | (simp; done) | (simp; omega)))) | ((with_reducible refine zdk ?_); (focus (first | (exact (World.size_alloc _ _).symm) | (simp; done) | (simp; omega)))) | (with_reducible apply zdm) | (with_reducible apply zfm) | ((with_reducible refine hkk hk9 ?_ ?_); (focus (first | (simp; done) | (simp; omega) | omega))))); all_goals fail "left")); intro bL10; have hcL := Boxed.cell bL10; have hfL := Boxed.frozen bL10; have hlL := (Array.getElem?_eq_some_iff.1 bL10).1)); (try (refine znx (hk10 (w9.heap.size) (.slice none 0 0)) ?_ ?_; (focus ((repeat (first | (with_reducible assumption) | ((with_reducible refine zdl ?_); (focus (first | (exact (World.size_alloc _ _).symm) | (simp; done) | (simp; omega)))) | ((with_reducible refine zdk ?_); (focus (first | (exact (World.size_alloc _ _).symm) | (simp; done) | (simp; omega)))) | (with_reducible apply zdm) | (with_reducible apply zfm) | ((with_reducible refine hkk hk9 ?_ ?_); (focus (first | (simp; done) | (simp; omega) | omega))))); all_goals fail "left")); intro bL10; have hcL := Boxed.cell bL10; have hfL := Boxed.frozen bL10; have hlL := (Array.getElem?_eq_some_iff.1 bL10).1)); (try (refine znx (hk10 (w9.heap.size + 1) (.slice none 0 0)) ?_ ?_; (focus ((repeat (first | (with_reducible assumption) | ((with_reducible refine zdl ?_); (focus (first | (exact (World.size_alloc _ _).symm) | (simp; done) | (simp; omega)))) | ((with_reducible refine zdk ?_); (focus (first | (exact (World.size_alloc _ _).symm) | (simp; done) | (simp; omega)))) | (with_reducible apply zdm) | (with_reducible apply zfm) | ((with_reducible refine hkk hk9 ?_ ?_); (focus (first | (simp; done) | (simp; omega) | omega))))); all_goals fail "left")); intro bL10; have hcL := Boxed.cell bL10; have hfL := Boxed.frozen bL10; have hlL := (Array.getElem?_eq_some_iff.1 bL10).1))))
          all_goals
           go_wp2_with fail
           go_meet
           have o10 := zad own10 (base' := w.heap.size + 2) yO
           first
            | exact ⟨w10.heap.size, A10, c10, rfl, by omega, H8.o.up (B10.alloc hs10 _), heap_alloc_new _ _, World.ownsRow.alloc o10 _⟩
            | exact ⟨_, A10, c10, rfl, by omega, H8.o.up (B10.setCell (by (try dsimp only); omega) _), Boxed.set _ bL10, ownsRow_setCell_other o10 (Boxed.not_row bL10 (by decide) own10).symm _⟩
         case rest =>
          obtain ⟨L, A3, c3, rfl, hL, hst9, hbx9, own9⟩ := hcut
          have hsmY : zaY (xs ++ [(⟨⟨#[]⟩, (p2 : Int), (q2 : Int)⟩ : zaa)]) := by
           intro r hr; rcases List.mem_append.1 hr with hr | hr
           · exact Hok.o.2.2.2 r hr
           · rw [List.mem_singleton] at hr; subst hr; show (0 : Nat) <= _; decide
          obtain ⟨Y, hY⟩ : ∃ Y, xs ++ [(⟨⟨#[]⟩, (p2 : Int), (q2 : Int)⟩ : zaa)] = Y := ⟨_, rfl⟩
          have hYl : Y.length = xs.length + 1 := by rw [<- hY]; simp
          rw [hY] at own9 hsmY; rw [<- hYl] at own9 hbx9; have H9 := yq hst9; have HB9 := yq hbx9; have HO9 := yq own9; have HSY := yq (zac.sl own9); have HsmY := yq hsmY; have hcY := Boxed.cell hbx9; have hLlt := (Array.getElem?_eq_some_iff.1 hbx9).1
          clear hst9 hbx9 own9 H8 HR8 HSl hrc0 hrc1 hrc2 hcb hfb hlt8 hsmY hY; cases hg : zag Y with
          | false =>
            go_wp2_with (first
             | (go_at_call 19; (refine (zaZ L 0 _ Y _ hcY hLlt HSY.o HsmY.o).mono ?_); rintro r w11 ⟨hr, hb11⟩; rw [hg] at hr; subst hr; have H11 := yq (H9.o.up hb11); have hcb1 := Boxed.cell H11.o.b1; have hfb1 := Boxed.frozen H11.o.b1; have hcb0 := Boxed.cell H11.o.b0; have hfb0 := Boxed.frozen H11.o.b0))
            refine bodyPost_ret (v := .agg #[.slice A2 xs.length c2]) (by simp [results, Tryz.results16, go_sem, hcb0]) rfl (zf5 H11.o hlt yO Hok.o yO _)
          | true =>
            obtain ⟨_, ls, hls⟩ := zai hg; have hgl := zaD hls; by_cases hmo : zao ls <= most
            · have hmI : ¬ most < zao ls := by omega
              go_wp2_with (first
               | (go_at_call 19; (refine (zaZ L 0 _ Y _ hcY hLlt HSY.o HsmY.o).mono ?_); rintro r w11 ⟨hr, hb11⟩; rw [hg] at hr; subst hr; have H11 := yq (H9.o.up hb11); have hcY1 := (hb11.cell (p := ⟨L, 0, none⟩) hLlt).trans hcY; have hLlt1 := Nat.lt_of_lt_of_le hLlt hb11.size; have HSY1 := yq (HSY.o.up hb11))
               | (go_at_call 37; (refine (zbm L 0 _ Y ls _ hls hcY1 hLlt1 HSY1.o HsmY.o yO).mono ?_); rintro r w12 ⟨rfl, hb12⟩; have H12 := yq (H11.o.up hb12); have hcY2 := (hb12.cell (p := ⟨L, 0, none⟩) hLlt1).trans hcY1; have hcb1 := Boxed.cell H12.o.b1; have hfb1 := Boxed.frozen H12.o.b1))
              have o12 := (HO9.o.below hb11).below hb12; rw [hYl] at o12; have s12 := H12.o.put hlt (Below.refl _ _) o12; rw [show N + 100 - 8 * k + 8 = N + 100 - 8 * (k - 1) by omega] at s12; exact ⟨⟨k - 1, _, Y, by omega, by rw [show ((k - 1 : Nat) : Int) = (k : Int) - 1 by omega], ⟨hg, by omega, fun _ => by rw [hgl]; exact hmo, HsmY.o⟩, by omega, s12⟩, by first | (simp [intOf]; done) | (simp [intOf]; omega)⟩
            · have hmI : most < zao ls := by omega
              go_wp2_with (first
               | (go_at_call 19; (refine (zaZ L 0 _ Y _ hcY hLlt HSY.o HsmY.o).mono ?_); rintro r w11 ⟨hr, hb11⟩; rw [hg] at hr; subst hr; have H11 := yq (H9.o.up hb11); have hcY1 := (hb11.cell (p := ⟨L, 0, none⟩) hLlt).trans hcY; have hLlt1 := Nat.lt_of_lt_of_le hLlt hb11.size; have HSY1 := yq (HSY.o.up hb11))
               | (go_at_call 37; (refine (zbm L 0 _ Y ls _ hls hcY1 hLlt1 HSY1.o HsmY.o yO).mono ?_); rintro r w12 ⟨rfl, hb12⟩; have H12 := yq (H11.o.up hb12); have hcb1 := Boxed.cell H12.o.b1; have hfb1 := Boxed.frozen H12.o.b1; have hcb0 := Boxed.cell H12.o.b0; have hfb0 := Boxed.frozen H12.o.b0))
              refine bodyPost_ret (v := .agg #[.slice A2 xs.length c2]) (by simp [results, Tryz.results16, go_sem, hcb0]) rfl (zf5 H12.o hlt yO Hok.o yO _)
end Go.Proofs.YtejgbfgocaggfaaGreatDoor
