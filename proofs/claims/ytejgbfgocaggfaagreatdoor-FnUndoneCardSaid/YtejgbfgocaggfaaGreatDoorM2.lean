import Derived.Test.YtejgbfgocaggfaaGreatDoorM1
import Derived.Shelf.Abstract
import Derived.StillTailTactics
set_option maxRecDepth 100000
set_option maxHeartbeats 8000000
namespace Go.Proofs.YtejgbfgocaggfaaGreatDoor
open Go.RowKit
theorem zmf {α : Type} {E : Enc α} {w : World} {S : Nat -> Prop} {a : Addr} {xs : List α} (h : Row E w S (some a) xs) (cs : List Value) (hcs : cs.length = xs.length * E.size)
  (hc : ∀ k x us, xs[k]? = some x -> E.cells w S x us -> ∀ j u, us[j]? = some u -> cs[k * E.size + j]? = some u) : ∀ j u, cs[j]? = some u -> w.cell? (a.add j) = some u := by
 intro j u hu; have hj : j < xs.length * E.size := by rw [<- hcs]; exact (List.getElem?_eq_some_iff.1 hu).1
 have hpos : 0 < xs.length := by
  rcases Nat.eq_zero_or_pos xs.length with h0 | h0
  · rw [h0, Nat.zero_mul] at hj; omega
  · exact h0
 obtain ⟨b, o, he, hs, hr⟩ := h hpos; injection he with he; subst he; have hk : j / E.size < xs.length := (Nat.div_lt_iff_lt_mul E.pos).2 hj; obtain ⟨us, h1, h2⟩ := hr (j / E.size) xs[j / E.size] (ye hk); have hm : j % E.size < us.length := by rw [E.len h1]; exact Nat.mod_lt _ E.pos
 have h3 := h2 (j % E.size) us[j % E.size] (ye hm); have h4 := hc _ _ _ (ye hk) h1 (j % E.size) us[j % E.size] (ye hm); rw [Nat.mul_comm, Nat.div_add_mod] at h3 h4; rw [h4] at hu; injection hu with hu; subst hu; have : (⟨b, o, none⟩ : Addr).add j = ⟨b, o + j, none⟩ := by unfold Addr.add; split <;> simp_all
 rw [this]; exact h3
theorem zcU (xs : List zaa) : (xs.flatMap zaa.cells).length = xs.length * 3 := by
 induction xs with
 | nil => rfl
 | cons x xs ih =>
   rw [List.flatMap_cons, List.length_append, ih, List.length_cons]; show 3 + _ = _
   omega
theorem zcF {w : World} {S : Nat -> Prop} {a : Addr} {xs : List zaa} (h : Row zar w S (some a) xs) : ∀ j u, (xs.flatMap zaa.cells)[j]? = some u -> w.cell? (a.add j) = some u := by
 refine zmf h _ (zcU xs) ?_
 · intro k x us hk hus j u hu
   obtain ⟨c0, c1, c2⟩ := zhN xs k x hk; have e : us = x.cells := hus; subst e
   match j, hu with
   | 0, hu => simp [zaa.cells] at hu; subst hu; simpa [zar] using c0
   | 1, hu => simp [zaa.cells] at hu; subst hu; simpa [zar] using c1
   | 2, hu => simp [zaa.cells] at hu; subst hu; simpa [zar] using c2
   | j + 3, hu => simp [zaa.cells] at hu
theorem zej (xs : List zaa) : ∀ u ∈ xs.flatMap zaa.cells, u.oneCell' = true := by
 intro u hu; rw [List.mem_flatMap] at hu; obtain ⟨x, _, hx⟩ := hu; simp [zaa.cells] at hx
 rcases hx with rfl | rfl | rfl <;> rfl
theorem zcc {P : Program} (w : World) (base : Nat) (t ty e : TypeId) (i : TypeInfo) (size : Nat) (ht : P.underlying t = some (.slice e)) (hi : P.info? e = some i)
  (v : Value) (n : Nat) (xs : List Value) (hown : w.ownsRow base e size v n xs) (c : Nat) : (Builtin.append_ #[t, t] ty #[v, .slice none 0 c]).run P w = .ok v w := by
 rcases hown.2 with ⟨rfl, rfl⟩ | ⟨g, cap, cur, rfl, _, _, hnc, _⟩
 · simp [Builtin.append_, run_underlying ht, sizeOf, typeInfo, hi, Builtin.lenOf, Builtin.firstCells]
 · simp [Builtin.append_, run_underlying ht, sizeOf, typeInfo, hi, Builtin.lenOf, Builtin.firstCells, hnc, storeCells]
theorem zga {W : World} {ops : Array Oper} {rest : List Oper} {o : Oper} {a : Act} {Q : Exit -> Act -> World -> Prop} (hgd : o.guard = none) (s x : Operand)
  (ho : o.op = .call { callee := .builtin .append, args := #[s, x], argTypes := #[24, 24] }) {ys : List zaa} {base : Nat} {v sv : Value} {l : List zaa} {S : Nat -> Prop}
  (hs : a.eval s = v) (hx : a.eval x = sv) (hown : zac W base v l) (hsl : SlS zar W S sv ys) (hlen : l.length + ys.length <= 1099511627776) (hbase : base <= W.heap.size)
  (h : ∀ v' w', zac w' base v' (l ++ ys) -> W.grownBy w' v.ownBlock -> Below base W w' -> wpList Tryz.prog ops Q rest (a.put o.dst v') w') :
  wpList Tryz.prog ops Q (o :: rest) a W := by
 obtain ⟨i0, hi0, hz0, hz1, hz2⟩ := info_parts Tryz.infoR; obtain ⟨A, c, rfl, hc, hm, hrow⟩ := hsl; refine wpList_plain hgd fun _ hK => ?_
 have H : ∃ v' w', (Builtin.append_ #[24, 24] o.type #[v, .slice A ys.length c]).run Tryz.prog W = .ok v' w' /\ zac w' base v' (l ++ ys) /\ W.grownBy w' v.ownBlock := by
  rcases A with _ | ad
  · have h0 : ys = [] := by
     rcases Nat.eq_zero_or_pos ys.length with h0 | h0
     · exact yn h0
     · obtain ⟨b, o, h, _⟩ := hrow h0; cases h
    subst h0; exact ⟨v, W, zcc W base _ _ 88 i0 3 Tryz.underlying24 hi0 v _ _ hown c, by simpa using hown, World.grownBy.refl W _⟩
  · obtain ⟨v', w', hrun, h2, h3, _⟩ := run_append_own_at (P := Tryz.prog) W base 24 o.type 88 i0 _ 3 32 Tryz.underlying24 hi0 hz0 hz1 hz2 rfl (by decide) v _ _ hown ad ys.length c (ys.flatMap zaa.cells)
     (zcU ys) (zcF hrow) (zej ys) (by simp only [maxLen]; omega) yO hbase
    exact ⟨v', w', hrun, by unfold zac; simpa using h2, h3⟩
 obtain ⟨v', w', hrun, h2, h3⟩ := H; unfold Oper.wp execOp; simp only [ho, resolve, invoke, builtin, Sem.run_bind, Sem.run_pure, Result.andThen_ok, List.map_toArray, List.map_cons, List.map_nil, hs, hx, hrun]
 exact hK _ _ (h v' w' h2 h3 ((Below.refl base W).grown h3 hbase (fun k hk => (World.ownsRow.lt hown k hk).1)))
theorem zi1 (v : Value) (xs : List zaa) (w : World) (h : Sl zar w w.heap.size v xs) (hn : xs.length <= 1099511627776) :
  Calls Tryz.prog 66 #[v] w fun e w' => ∃ v', e = .returned v' /\ zac w' w.heap.size v' xs /\ Below w.heap.size w w' := by
 have h1 := fun o => (h.below ((Below.refl w.heap.size w).alloc yL o))
 have H1 := yq h1; clear h1; obtain ⟨A, c, rfl, hc, hm, hrow⟩ := h; rcases A with _ | ad
 · have h0 : xs = [] := by
    rcases Nat.eq_zero_or_pos xs.length with h0 | h0
    · exact yn h0
    · obtain ⟨b, o, h, _⟩ := hrow h0; cases h
   subst h0; clear hm hrow; have heq := fun W => Lib.run_eql_slice_nil (P := Tryz.prog) W 24 88 none 0 c 0 0 Tryz.underlying24; go_enter Tryz.func66, Tryz.ntmps66
   go_wp2
   go_ret
   exact ⟨_, rfl, World.ownsRow_nil _ _ _ _, Below.refl _ _⟩
 · clear hm hrow
   have heq := fun W => Lib.run_eql_slice_nil (P := Tryz.prog) W 24 88 (some ad) xs.length c 0 0 Tryz.underlying24; go_enter Tryz.func66, Tryz.ntmps66
   go_wp2_with (at_builtin; go_must (refine zga rfl _ _ rfl rfl rfl (zac.empty rfl yL) (H1.o _) (by simp; omega) yS ?_); intro v' w1 hown1 hg1 hb1)
   go_ret
   exact ⟨v', rfl, hown1, ((Below.refl _ _).alloc yL _).trans hb1⟩
theorem zcs (v : Value) (xs : List zaa) (w : World) (h : Sl zar w w.heap.size v xs) (hn : xs.length <= 1099511627776) :
  Calls Tryz.prog 31 #[.agg #[v]] w fun e w' => ∃ v', e = .returned (.agg #[v']) /\ zac w' w.heap.size v' xs /\ Below w.heap.size w w' := by
 have h1 := fun o o' => (h.below (((Below.refl w.heap.size w).alloc yL o).alloc yS o')).le (B' := ((w.alloc o).alloc o').heap.size) (by simp; omega); have H1 := yq h1; clear h1; obtain ⟨A, c, rfl, _⟩ := h; go_enter Tryz.func31, Tryz.ntmps31
 go_wp2_with fail
 refine (zi1 _ _ _ (H1.o _ _) hn).mono ?_
 rintro e w1 ⟨v1, rfl, hown, hb1⟩; obtain ⟨A1, c1, rfl, _⟩ := zae hown; obtain ⟨hc1, hf1⟩ := zdu hb1; have hz1 : w.heap.size + 2 <= w1.heap.size := by have := hb1.size; simp at this; omega
 have Hown := yq hown; have Hb1 := yq hb1; clear hown hb1; go_wp2
 refine bodyPost_ret (v := .agg #[.slice A1 xs.length c1]) (by simp [results, Tryz.results31, go_sem, hc1]) rfl ⟨_, rfl, ?_, ?_⟩
 · have h4 : w1.ownsRow (w.heap.size + 2) 88 3 (.slice A1 xs.length c1) xs.length (xs.flatMap zaa.cells) := zad Hown.o yS
   exact zad (ownsRow_setCell_below h4 (by show w.heap.size + 1 < w.heap.size + 2; omega) _) yO
 · exact ((((Below.refl _ _).alloc yL _).alloc yS _).trans (Hb1.o.mono (by simp; omega))).setCell (by show w.heap.size <= w.heap.size + 1; omega) _
theorem zcd (b o : Nat) (v : Value) (xs : List zaa) (w : World) (hp : w.cell? ⟨b, o, none⟩ = some v) (hbl : b < w.heap.size) (h : Sl zar w w.heap.size v xs) (hn : xs.length <= 1099511627776) :
  Calls Tryz.prog 22 #[.pointer (some ⟨b, o, none⟩)] w fun e w' => ∃ v', e = .returned (.agg #[v']) /\ zac w' w.heap.size v' xs /\ Below w.heap.size w w' := by
 have h1 := fun o o' => (h.below (((Below.refl w.heap.size w).alloc yL o).alloc yS o'))
 have H1 := yq h1; clear h1; obtain ⟨A, c, rfl, _⟩ := h; go_enter Tryz.func22, Tryz.ntmps22
 go_wp2_with (at_builtin; go_must (refine zga (base := w.heap.size + 1) rfl _ _ rfl rfl rfl (zac.empty yS yS) (H1.o _ _) yo yo ?_); intro v' w1 hown1 hg1 hb1; simp only [List.nil_append] at hown1; obtain ⟨A1, c1, rfl, _⟩ := zae hown1; obtain ⟨hc1, hf1⟩ := zdu hb1; have Hown := yq hown1; have hz1 : w.heap.size + 1 <= w1.heap.size := (by have := hb1.size; simp at this; omega); clear hg1 hown1)
 refine bodyPost_ret (v := .agg #[.slice A1 xs.length c1]) (by simp [results, Tryz.results22, go_sem, hc1]) rfl ⟨_, rfl, ?_, ?_⟩
 · have h4 := Hown.o
   exact zad (ownsRow_setCell_below h4 (by show w.heap.size < w.heap.size + 1; omega) _) yO
 · exact ((((Below.refl _ _).alloc yL _).alloc yS _).trans (hb1.mono yO)).setCell yL _
theorem zmg {wr W W2 : World} {p : Addr} {v : Value} (h : Below wr.heap.size wr W /\ W.cell? p = some v) (h2 : Below W.heap.size W W2) (hp : p.block < wr.heap.size) : Below wr.heap.size wr W2 /\ W2.cell? p = some v :=
 ⟨h.1.trans (h2.mono h.1.size), (h2.cell (Nat.lt_of_lt_of_le hp h.1.size)).trans h.2⟩
def zcu (r : zaa) : zaa := { letter := r.letter, left := r.right, right := r.left }
theorem zqk (rs : List zaa) (k : Nat) (r : zaa) (a b : Int) (h : rs[k]? = some r) :
  ((rs.flatMap zaa.cells).set (k * 3 + 1) (.int .i64 a)).set (k * 3 + 2) (.int .i64 b) = (rs.set k { letter := r.letter, left := a, right := b }).flatMap zaa.cells := by
 have hk : k < rs.length := (List.getElem?_eq_some_iff.1 h).1
 rw [<- zqj rs k { letter := r.letter, left := a, right := b } hk]; have h0 := (zhN rs k r h).1
 have e : (rs.flatMap zaa.cells).set (k * 3) (.string r.letter) = rs.flatMap zaa.cells := by
  apply List.ext_getElem?
  intro j; rw [List.getElem?_set]
  split
  · rename_i hj; subst hj
    rw [h0]; split
    · rfl
    · rename_i hlt; rw [List.getElem?_eq_none yO] at h0; cases h0
  · rfl
 rw [e]
theorem zac.stored2 {w : World} {base g n cap : Nat} {rs : List zaa} (h : w.ownsRow base 88 3 (.slice (some ⟨g, 0, none⟩) n cap) n (rs.flatMap zaa.cells)) (k : Nat) (r : zaa) (a b : Int) (hk : rs[k]? = some r) :
  ((w.setCell ⟨g, k * 3 + 1, none⟩ (.int .i64 a)).setCell ⟨g, k * 3 + 2, none⟩ (.int .i64 b)).ownsRow base 88 3 (.slice (some ⟨g, 0, none⟩) n cap) n ((rs.set k { letter := r.letter, left := a, right := b }).flatMap zaa.cells) /\
  w.grownBy ((w.setCell ⟨g, k * 3 + 1, none⟩ (.int .i64 a)).setCell ⟨g, k * 3 + 2, none⟩ (.int .i64 b)) (some g) := by
 obtain ⟨h2, g2⟩ := World.ownsRow.stored h (k * 3 + 1) (.int .i64 a); obtain ⟨h3, g3⟩ := World.ownsRow.stored h2 (k * 3 + 2) (.int .i64 b); rw [zqk rs k r a b hk] at h3; exact ⟨h3, ze9 g2 g3⟩
theorem zi2 {xs : List zaa} {n : Nat} {r : zaa} (h : xs[n]? = some r) : ((xs.take n).map zcu ++ xs.drop n).set n (zcu r) = (xs.take (n + 1)).map zcu ++ xs.drop (n + 1) := by
 obtain ⟨hn, rfl⟩ := List.getElem?_eq_some_iff.1 h
 rw [List.set_append, if_neg (by simp; omega), List.length_map, List.length_take, Nat.min_eq_left yO, Nat.sub_self, List.drop_eq_getElem_cons hn, List.set_cons_zero, List.take_add_one, h, List.map_append, List.append_assoc]; rfl
theorem zfR {xs : List zaa} {n : Nat} {r : zaa} (h : xs[n]? = some r) : ((xs.take n).map zcu ++ xs.drop n)[n]? = some r := by
 obtain ⟨hn, rfl⟩ := List.getElem?_eq_some_iff.1 h
 rw [List.getElem?_append_right (by simp; omega)]
 simp [Nat.min_eq_left (Nat.le_of_lt hn)]
theorem zjU {a w : World} {row : Option Nat} (h : a.grownBy w row) (o : Obj) : a.grownBy (w.alloc o) row :=
 ⟨h.os, h.tape, h.output, Nat.le_trans h.size yS, fun i hi hne => (Below.heap_alloc w o i (Nat.lt_of_lt_of_le hi h.size)).trans (h.block i hi hne)⟩
theorem zhO {a w : World} {row : Option Nat} (h : a.grownBy w row) : a.grownBy w.drew row := ⟨h.os, h.tape, h.output, h.size, h.block⟩
theorem zbe (w : World) (o : Obj) : (w.alloc o).heap[w.heap.size]? = some o := heap_alloc_new w o
theorem zht (v : Value) (xs : List zaa) (w : World) (h : Sl zar w w.heap.size v xs) (hn : xs.length <= 1099511627776) :
  Calls Tryz.prog 102 #[.agg #[v]] w fun e w' => ∃ v', e = .returned (.agg #[v']) /\ zac w' w.heap.size v' (xs.map zcu) /\ Below w.heap.size w w' := by
 have h1 := fun o o' => (h.below (((Below.refl w.heap.size w).alloc yL o).alloc yS o')).le (B' := ((w.alloc o).alloc o').heap.size) (by simp; omega); have H1 := yq h1; clear h1; obtain ⟨A, c, rfl, _⟩ := h; go_enter Tryz.func102, Tryz.ntmps102
 go_wp2_with fail
 refine (zcs _ _ _ (H1.o _ _) hn).mono ?_
 rintro e w1 ⟨v1, rfl, hown, hb1⟩; rcases Nat.eq_zero_or_pos xs.length with h0 | h0
 · have hx : xs = [] := yn h0
   subst hx; obtain ⟨A1, c1, rfl, _⟩ := zae hown; obtain ⟨hc1, hf1⟩ := zdu hb1; have hz1 : w.heap.size + 2 <= w1.heap.size := by have := hb1.size; simp at this; omega
   have hz3 : w.heap.size + 1 < w1.heap.size := by omega
   have hc2 : w1.cell? ⟨w.heap.size + 1, 0, none⟩ = some (.slice none 0 0) := by rw [hc1 _ _ yS]; simp [go_sem]
   have hf2 : w1.frozen? ⟨w.heap.size + 1, 0, none⟩ = false := by rw [hf1 _ _ yS]; simp [go_sem]
   have Hown := yq hown; have Hb1 := yq hb1; clear hown hb1 hc1 hf1 h0; go_wp2_with fail
   go_loopw [11] (fun i wr => i = .int .i64 0 /\ wr = w1.alloc (Obj.cells #[Value.slice A1 0 c1] 26)) (fun _ _ => 0)
   case atStart => exact ⟨rfl, rfl⟩
   case round =>
    obtain ⟨rfl, rfl⟩ := hrel; go_wp2
    refine bodyPost_ret (v := .agg #[.slice A1 0 c1]) (by simp [results, Tryz.results102, go_sem, hc2, hz3]) rfl ⟨_, rfl, ?_, ?_⟩
    · have h4 : w1.ownsRow (w.heap.size + 2) 88 3 (.slice A1 0 c1) 0 [] := zad Hown.o yS
      exact zad (World.ownsRow.alloc (ownsRow_setCell_below h4 (a := ⟨w.heap.size + 1, 0, none⟩) (by show w.heap.size + 1 < w.heap.size + 2; omega) _) _) yO
    · exact (((((Below.refl _ _).alloc yL _).alloc yS _).trans (Hb1.o.mono (by simp; omega))).setCell (by show w.heap.size <= w.heap.size + 1; omega) _).alloc (by simp [World.setCell]; omega) _
 · obtain ⟨g, cap, rfl, hgb, hgl, hcap, _⟩ := zbI hown h0
   simp at hgb
   obtain ⟨hc1, hf1⟩ := zdu hb1; have hz1 : w.heap.size + 2 <= w1.heap.size := by have := hb1.size; simp at this; omega
   have Hown := yq hown; have Hb1 := yq hb1; clear hown hb1 hcap; go_wp2_with fail
   have hgw : w1.alloc (Obj.cells #[Value.slice (some ⟨g, 0, none⟩) xs.length cap] 26) = w1.alloc (Obj.cells #[Value.slice (some ⟨g, 0, none⟩) xs.length cap] 26) := rfl
   go_loopw [11] (fun i wr => ∃ n : Nat, n <= xs.length /\ i = .int .i64 n /\ (w1.alloc (Obj.cells #[Value.slice (some ⟨g, 0, none⟩) xs.length cap] 26)).grownBy wr (some g) /\
    wr.ownsRow (w.heap.size + 2) 88 3 (.slice (some ⟨g, 0, none⟩) xs.length cap) xs.length (((xs.take n).map zcu ++ xs.drop n).flatMap zaa.cells)) (fun i _ => xs.length - (intOf i).toNat)
   case atStart => exact ⟨0, Nat.zero_le _, rfl, World.grownBy.refl _ _, by have := Hown.o; simp only [List.take_zero, List.map_nil, List.nil_append, List.drop_zero]; exact zad (World.ownsRow.alloc this _) yS⟩
   case round =>
    obtain ⟨n, hnl, rfl, hgr, hown⟩ := hrel
    have hbx : wr.heap[w1.heap.size]? = some (Obj.cells #[Value.slice (some ⟨g, 0, none⟩) xs.length cap] 26) := by
     rw [hgr.block w1.heap.size yS (by simp; omega)]; exact heap_alloc_new _ _
    have hcb : wr.cell? ⟨w1.heap.size, 0, none⟩ = some (.slice (some ⟨g, 0, none⟩) xs.length cap) := by simp [World.cell?, hbx]
    have hszr : w1.heap.size < wr.heap.size := by have := hgr.size; simp at this; omega
    clear hbx; by_cases hlt : n < xs.length
    · obtain ⟨r, hr⟩ : ∃ r, xs[n]? = some r := ⟨_, ye hlt⟩
      obtain ⟨c0, c1, c2⟩ := zhN _ _ _ (zfR hr); have hl3 : n * 3 + 2 < xs.length * 3 := by omega
      have hd0 : wr.cell? ⟨g, n * 3, none⟩ = some (.string r.letter) := (hown.cellAt (n * 3) yO).trans c0; have hd1 : wr.cell? ⟨g, n * 3 + 1, none⟩ = some (.int .i64 r.left) := (hown.cellAt (n * 3 + 1) yO).trans c1; have hd2 : wr.cell? ⟨g, n * 3 + 2, none⟩ = some (.int .i64 r.right) := (hown.cellAt (n * 3 + 2) yO).trans c2; have hf0 := hown.frozenAt (n * 3); have hfa := hown.frozenAt (n * 3 + 1); have hfb := hown.frozenAt (n * 3 + 2); have hi : (n : Int) < (xs.length : Int) := by omega
      have hg2 : g < wr.heap.size := by omega
      have Hr := yq hr; have Hown := yq hown; have Hgr := yq hgr; clear hown hgr hr c0 c1 c2 hc1 hf1 hgw; go_wp2_with fail
      go_region
      go_wp2
      go_roundw
      case rel =>
       refine ⟨n + 1, by omega, by go_num, ?_, ?_⟩
       · exact zhO (zjU (ze9 Hgr.o (zac.stored2 Hown.o n r r.right r.left (zfR Hr.o)).2) _)
       · rw [<- zi2 Hr.o]
         exact World.ownsRow.alloc (zac.stored2 Hown.o n r r.right r.left (zfR Hr.o)).1 _
      case measure => simp [intOf]; omega
    · have hkn : n = xs.length := by omega
      subst hkn
      have hrb : wr.heap[w.heap.size + 1]? = some (Obj.cells #[Value.slice none 0 0] 26) := by
       rw [hgr.block (w.heap.size + 1) (by simp; omega) (by simp; omega), Below.heap_alloc _ _ _ yO, Hb1.o.block _ yS]; have h9 := zbe (w.alloc (Obj.cells #[Value.slice A xs.length c] 26)) (Obj.cells #[Value.slice none 0 0] 26); rw [show (w.alloc (Obj.cells #[Value.slice A xs.length c] 26)).heap.size = w.heap.size + 1 by simp] at h9; exact h9
      have hcr : wr.cell? ⟨w.heap.size + 1, 0, none⟩ = some (.slice none 0 0) := by simp [World.cell?, hrb]
      have hfr : wr.frozen? ⟨w.heap.size + 1, 0, none⟩ = false := by simp [World.frozen?, hrb]
      have Hgr := yq hgr; have Hown := yq hown; clear hrb hown hgr hc1 hf1 hgw; go_wp2
      refine bodyPost_ret (v := .agg #[.slice (some ⟨g, 0, none⟩) xs.length cap]) (by simp [results, Tryz.results102, go_sem, hcr]) rfl ⟨_, rfl, ?_, ?_⟩
      · have h4 := Hown.o
        rw [List.take_length, List.drop_length, List.append_nil] at h4; have h5 := ownsRow_setCell_below h4 (a := ⟨w.heap.size + 1, 0, none⟩) (by show w.heap.size + 1 < w.heap.size + 2; omega) (.slice (some ⟨g, 0, none⟩) xs.length cap); unfold zac; rw [List.length_map]; exact zad h5 yO
      · refine Below.setCell ?_ (by show w.heap.size <= w.heap.size + 1; omega) _
        exact ((((((Below.refl _ _).alloc yL _).alloc yS _).trans (Hb1.o.mono (by simp; omega))).alloc yO _).grown Hgr.o (by simp; omega) (fun k hk => by injection hk with hk; omega))
def zfS (xs : List zaa) : List zaa := if zag xs then xs.map zcu else []
def zeJ (xs : List zaa) : Int := if zag xs then 0 else 1
def znM (xs : List zaa) (w : World) (e : Ending) (w' : World) : Prop :=
 Below w.heap.size w w' /\ ∃ v', zac w' w.heap.size v' (zfS xs) /\ e = .returned (.tuple #[.agg #[v'], .int .i64 (zeJ xs)])
theorem zi3 (v : Value) (xs : List zaa) (w : World) (h : Sl zar w w.heap.size v xs) (hsm : zaY xs) (hn : xs.length <= 1099511627776) :
  Calls Tryz.prog 87 #[.agg #[v]] w (znM xs w) := by
 have h1 := fun o o' => (h.below (((Below.refl w.heap.size w).alloc yL o).alloc yS o')).le (B' := ((w.alloc o).alloc o').heap.size) (by simp; omega); have H1 := yq h1; clear h1; obtain ⟨A, c, rfl, _⟩ := h; go_enter Tryz.func87, Tryz.ntmps87
 go_wp2_with fail
 refine (zaZ _ _ _ _ _ (by simp [go_sem]) yo (H1.o _ _) hsm).mono ?_
 rintro e w1 ⟨rfl, hb1⟩; obtain ⟨hc1, hf1⟩ := zdu hb1; have hz1 : w.heap.size + 2 <= w1.heap.size := by have := hb1.size; simp at this; omega
 have hsl := (H1.o (Obj.cells #[Value.slice A xs.length c] 26) (Obj.cells #[Value.slice none 0 0] 26)).up hb1; have Hsl := yq hsl; have Hb1 := yq (((Below.refl w.heap.size w).alloc yL (Obj.cells #[Value.slice A xs.length c] 26)).alloc yS (Obj.cells #[Value.slice none 0 0] 26) |>.trans (hb1.mono (by simp; omega))); clear hb1 hsl; have hz3 : w.heap.size + 1 < w1.heap.size := by omega
 have hz4 : w.heap.size < w1.heap.size := by omega
 have hc2 : w1.cell? ⟨w.heap.size + 1, 0, none⟩ = some (.slice none 0 0) := by rw [hc1 _ _ yS]; simp [go_sem]
 have hf2 : w1.frozen? ⟨w.heap.size + 1, 0, none⟩ = false := by rw [hf1 _ _ yS]; simp [go_sem]
 have hc3 : w1.cell? ⟨w.heap.size, 0, none⟩ = some (.slice A xs.length c) := by rw [hc1 _ _ (by simp; omega)]; simp [go_sem]
 clear hc1 hf1; by_cases hok : zag xs = true
 · have hok2 : (!zag xs) = false := by simp [hok]
   have Hok := yq hok; clear hok; go_wp2_with fail
   refine (zcd _ _ _ _ _ hc3 yO Hsl.o hn).mono ?_
   rintro e w2 ⟨v2, rfl, hown, hb2⟩; obtain ⟨hd1, hg1⟩ := zdu hb2; have hz5 : w.heap.size + 1 < w2.heap.size := by have := hb2.size; omega
   have hc4 : w2.cell? ⟨w.heap.size + 1, 0, none⟩ = some (.slice none 0 0) := by rw [hd1 _ _ hz3, hc2]
   have hf4 : w2.frozen? ⟨w.heap.size + 1, 0, none⟩ = false := by rw [hg1 _ _ hz3, hf2]
   have Hb2 := yq (Hb1.o.trans (hb2.mono yO)); have hw12 : w1.heap.size <= w2.heap.size := hb2.size; clear hd1 hg1 hb2 hc2 hf2 hc3; rcases Nat.eq_zero_or_pos xs.length with h0 | h0
   · have hx : xs = [] := yn h0
     subst hx; obtain ⟨A1, c1, rfl, _⟩ := zae hown; have Hown := yq hown; clear hown h0; go_wp2_with fail
     go_loopw [5, 6] (fun i _ wr => i = .int .i64 0 /\ wr = w2.alloc (Obj.cells #[Value.slice A1 0 c1] 26)) (fun _ _ _ => 0)
     case atStart => exact ⟨rfl, rfl⟩
     case round =>
      obtain ⟨rfl, rfl⟩ := hrel; go_wp2
      refine bodyPost_ret (v := .tuple #[.agg #[.slice A1 0 c1], .int .i64 0]) (by simp [results, Tryz.results87, go_sem, hc4, hz5]) rfl ⟨?_, _, ?_, by rw [zeJ, if_pos Hok.o]⟩
      · exact (Hb2.o.setCell (by show w.heap.size <= w.heap.size + 1; omega) _).alloc (by simp [World.setCell]; omega) _
      · rw [zfS, if_pos Hok.o]
        have h4 : w2.ownsRow w1.heap.size 88 3 (.slice A1 0 c1) 0 [] := Hown.o; exact zad (World.ownsRow.alloc (ownsRow_setCell_below h4 (a := ⟨w.heap.size + 1, 0, none⟩) (by show w.heap.size + 1 < w1.heap.size; omega) _) _) yO
   · obtain ⟨g, cap, rfl, hgb, hgl, hcap, _⟩ := zbI hown h0
     have Hown := yq hown; clear hown hcap; go_wp2_with fail
     go_loopw [5, 6] (fun i _ wr => ∃ n : Nat, n <= xs.length /\ i = .int .i64 n /\ (w2.alloc (Obj.cells #[Value.slice (some ⟨g, 0, none⟩) xs.length cap] 26)).grownBy wr (some g) /\
      wr.ownsRow w1.heap.size 88 3 (.slice (some ⟨g, 0, none⟩) xs.length cap) xs.length (((xs.take n).map zcu ++ xs.drop n).flatMap zaa.cells)) (fun i _ _ => xs.length - (intOf i).toNat)
     case atStart => exact ⟨0, Nat.zero_le _, rfl, World.grownBy.refl _ _, by have := Hown.o; simp only [List.take_zero, List.map_nil, List.nil_append, List.drop_zero]; exact World.ownsRow.alloc this _⟩
     case round =>
      obtain ⟨n, hnl, rfl, hgr, hown⟩ := hrel
      have hbx : wr.heap[w2.heap.size]? = some (Obj.cells #[Value.slice (some ⟨g, 0, none⟩) xs.length cap] 26) := by
       rw [hgr.block w2.heap.size yS (by simp; omega)]; exact heap_alloc_new _ _
      have hcb : wr.cell? ⟨w2.heap.size, 0, none⟩ = some (.slice (some ⟨g, 0, none⟩) xs.length cap) := by simp [World.cell?, hbx]
      have hszr : w2.heap.size < wr.heap.size := by have := hgr.size; simp at this; omega
      have hne : g ≠ w2.heap.size := by omega
      clear hbx; by_cases hlt : n < xs.length
      · obtain ⟨r, hr⟩ : ∃ r, xs[n]? = some r := ⟨_, ye hlt⟩
        obtain ⟨c0, c1, c2⟩ := zhN _ _ _ (zfR hr); have hl3 : n * 3 + 2 < xs.length * 3 := by omega
        have hd1 : wr.cell? ⟨g, n * 3 + 1, none⟩ = some (.int .i64 r.left) := (hown.cellAt (n * 3 + 1) yO).trans c1; have hd2 : wr.cell? ⟨g, n * 3 + 2, none⟩ = some (.int .i64 r.right) := (hown.cellAt (n * 3 + 2) yO).trans c2; have hfa := hown.frozenAt (n * 3 + 1); have hfb := hown.frozenAt (n * 3 + 2); have hi : (n : Int) < (xs.length : Int) := by omega
        have hg2 : g < wr.heap.size := by omega
        have Hr := yq hr; have Hown := yq hown; have Hgr := yq hgr; clear hown hgr hr c0 c1 c2 hc4 hf4; go_wp2_with fail
        go_region
        go_wp2
        go_roundw
        case rel =>
         refine ⟨n + 1, by omega, by go_num, ?_, ?_⟩
         · exact zhO (ze9 Hgr.o (zac.stored2 Hown.o n r r.right r.left (zfR Hr.o)).2)
         · rw [<- zi2 Hr.o]
           exact (zac.stored2 Hown.o n r r.right r.left (zfR Hr.o)).1
        case measure => simp [intOf]; omega
      · have hkn : n = xs.length := by omega
        subst hkn
        have hcr : wr.cell? ⟨w.heap.size + 1, 0, none⟩ = some (.slice none 0 0) := by
         rw [World.cell?_of_block (a := ⟨w.heap.size + 1, 0, none⟩) (hgr.block (w.heap.size + 1) (by simp; omega) (by simp; omega))]; simp [go_sem, hc4, hz5]
        have hfr : wr.frozen? ⟨w.heap.size + 1, 0, none⟩ = false := by
         rw [World.frozen?_of_block (a := ⟨w.heap.size + 1, 0, none⟩) (hgr.block (w.heap.size + 1) (by simp; omega) (by simp; omega))]; simp [go_sem, hf4, hz5]
        have Hgr := yq hgr; have Hown := yq hown; clear hown hgr hc4 hf4; go_wp2
        refine bodyPost_ret (v := .tuple #[.agg #[.slice (some ⟨g, 0, none⟩) xs.length cap], .int .i64 0]) (by simp [results, Tryz.results87, go_sem, hcr]) rfl ⟨?_, _, ?_, by rw [zeJ, if_pos Hok.o]⟩
        · refine Below.setCell ?_ (by show w.heap.size <= w.heap.size + 1; omega) _
          exact (Hb2.o.alloc yO _).grown Hgr.o (by simp; omega) (fun k hk => by injection hk with hk; omega)
        · rw [zfS, if_pos Hok.o]
          have h4 := Hown.o; rw [List.take_length, List.drop_length, List.append_nil] at h4; have h5 := ownsRow_setCell_below h4 (a := ⟨w.heap.size + 1, 0, none⟩) (by show w.heap.size + 1 < w1.heap.size; omega) (.slice (some ⟨g, 0, none⟩) xs.length cap); unfold zac; rw [List.length_map]; exact zad h5 yO
 · have hok2 : (!zag xs) = true := by simp [hok]
   have Hok := yq hok; clear hok; go_wp2
   refine bodyPost_ret (v := .tuple #[.agg #[.slice none 0 0], .int .i64 1]) (by simp [results, Tryz.results87, go_sem, hc2]) rfl ⟨?_, _, ?_, by rw [zeJ, if_neg Hok.o]⟩
   · exact Hb1.o.setCell (by show w.heap.size <= w.heap.size + 1; omega) _
   · rw [zfS, if_neg Hok.o]; exact World.ownsRow_nil _ _ _ _
theorem zb5 {w w' : World} {N b : Nat} {v : Value} (h : w.cell? ⟨b, 0, none⟩ = some v) (hb : Below N w w') (hlt : b < N) : w'.cell? ⟨b, 0, none⟩ = some v := (hb.cell (p := ⟨b, 0, none⟩) hlt).trans h
theorem za7 {w w' : World} {base e s : Nat} {v : Value} {n : Nat} {xs : List Value} (h : w.ownsRow base e s v n xs) (hk : ∀ g, v.ownBlock = some g -> w'.heap[g]? = w.heap[g]?) : w'.ownsRow base e s v n xs := by
 refine ⟨h.1, ?_⟩
 rcases h.2 with hn | ⟨g, cap, cur, rfl, hb, hgg, rest⟩
 · exact .inl hn
 · exact .inr ⟨g, cap, cur, rfl, hb, by rw [hk g rfl]; exact hgg, rest⟩
theorem zhu {w w' : World} {row : Option Nat} {N : Nat} (hg : w.grownBy w' row) (hN : N <= w.heap.size) (hr : ∀ g, row = some g -> N <= g) : Below N w w' :=
 ⟨hg.os, hg.tape, hg.output, hg.size, fun k hk => hg.block k yO (fun e => by have := hr k e.symm; omega)⟩
theorem zac.below {w w' : World} {base : Nat} {v : Value} {l : List zaa} (h : zac w base v l) (hb : Below w.heap.size w w') : zac w' base v l := zaI h hb
theorem zhv {wr W W2 : World} {p q : Addr} {v u : Value} (h : Below wr.heap.size wr W /\ W.cell? p = some v /\ W.cell? q = some u) (h2 : Below W.heap.size W W2) (hp : p.block < wr.heap.size) (hq : q.block < wr.heap.size) :
  Below wr.heap.size wr W2 /\ W2.cell? p = some v /\ W2.cell? q = some u :=
 ⟨h.1.trans (h2.mono h.1.size), (h2.cell (Nat.lt_of_lt_of_le hp h.1.size)).trans h.2.1, (h2.cell (Nat.lt_of_lt_of_le hq h.1.size)).trans h.2.2⟩
def zgG {α : Type} (p : α -> Bool) : List α -> Int
 | [] => -1
 | x :: xs => if p x then 0 else if zgG p xs < 0 then -1 else zgG p xs + 1
theorem zhP {α : Type} {p : α -> Bool} {xs : List α} (h : ∀ x ∈ xs, p x = false) : zgG p xs = -1 := by
 induction xs with
 | nil => rfl
 | cons x xs ih => rw [zgG, h x yS, ih (fun y hy => h y (by simp [hy]))]; rfl
theorem zhQ {α : Type} {p : α -> Bool} {xs : List α} {k : Nat} {x : α} (h : ∀ (i : Nat) y, i < k -> xs[i]? = some y -> p y = false) (hx : xs[k]? = some x) (hp : p x = true) : zgG p xs = k := by
 induction xs generalizing k with
 | nil => simp at hx
 | cons y ys ih =>
   cases k with
   | zero => simp at hx; subst hx; rw [zgG, if_pos hp]; rfl
   | succ k =>
     have h0 := h 0 y yO rfl; have := ih (k := k) (fun i z hi hz => h (i + 1) z yO (by simpa using hz)) (by simpa using hx); rw [zgG, if_neg (by simp [h0]), this, if_neg yO]; omega
theorem zi4 {α : Type} (p : α -> Bool) (xs : List α) : decide (0 <= zgG p xs) = xs.any p := by
 induction xs with
 | nil => rfl
 | cons x xs ih =>
   rw [zgG, List.any_cons, <- ih]; by_cases h : p x = true
   · simp [h]
   · rw [if_neg h]
     split <;> simp [h] <;> omega
def inR (n a b : Int) : Bool := decide (a <= n) && decide (n <= b)
theorem zi5 (n a b : Int) (w : World) (h : inR n a b = true) : Calls Tryz.prog 21 #[.int .i64 n, .int .i64 a, .int .i64 b] w fun e w' => e = .returned (.bool true) /\ w = w' :=
 (zdF n a b w).mono fun _ _ ⟨he, hw⟩ => ⟨by rw [he, <- h]; rfl, hw⟩
theorem zkK (n a b : Int) (w : World) (h : inR n a b = false) : Calls Tryz.prog 21 #[.int .i64 n, .int .i64 a, .int .i64 b] w fun e w' => e = .returned (.bool false) /\ w = w' :=
 (zdF n a b w).mono fun _ _ ⟨he, hw⟩ => ⟨by rw [he, <- h]; rfl, hw⟩
structure Wk (C : Nat -> Prop) (w w' : World) : Prop where
 os : w'.os = w.os
 tape : w'.tape = w.tape
 output : w'.output = w.output
 size : w.heap.size <= w'.heap.size
 block : ∀ k, C k -> w'.heap[k]? = w.heap[k]?
section
variable {C C' : Nat -> Prop} {a b c : World}
theorem Wk.refl (C : Nat -> Prop) (w : World) : Wk C w w := ⟨rfl, rfl, rfl, Nat.le_refl _, fun _ _ => rfl⟩
theorem Wk.trans (h : Wk C a b) (k : Wk C b c) : Wk C a c := ⟨k.os.trans h.os, k.tape.trans h.tape, k.output.trans h.output, Nat.le_trans h.size k.size, fun i hi => (k.block i hi).trans (h.block i hi)⟩
theorem Wk.mono (h : Wk C a b) (hs : ∀ k, C' k -> C k) : Wk C' a b := ⟨h.os, h.tape, h.output, h.size, fun i hi => h.block i (hs i hi)⟩
theorem Wk.of_below {B : Nat} (h : Below B a b) (hs : ∀ k, C k -> k < B) : Wk C a b := ⟨h.os, h.tape, h.output, h.size, fun i hi => h.block i (hs i hi)⟩
theorem Wk.below {B : Nat} (h : Wk C a b) (hs : ∀ k, k < B -> C k) : Below B a b := ⟨h.os, h.tape, h.output, h.size, fun i hi => h.block i (hs i hi)⟩
theorem Wk.keep (h : Wk C a b) : zgy C a b := fun i hi => h.block i hi
theorem Wk.cell {k o : Nat} {v : Value} (h : Wk C a b) (hk : C k) (hc : a.cell? ⟨k, o, none⟩ = some v) : b.cell? ⟨k, o, none⟩ = some v := (h.keep.cell hk).trans hc
end
def zaA (xs : List zaa) (r : Nat) : zaa := xs.getD r ⟨⟨#[]⟩, 0, 0⟩
def zbr (xs : List zaa) (ls : List Int) (i j : Int) : Nat -> Nat -> Int -> List Nat
 | 0, _, _ => []
 | f + 1, r, p =>
   if p + ls.getD r 0 <= i \/ j <= p then [] else if i <= p /\ p + ls.getD r 0 <= j then [r] else
    zbr xs ls i j f (zaA xs r).left.toNat p ++ zbr xs ls i j f (zaA xs r).right.toNat (p + ls.getD (zaA xs r).left.toNat 0)
def za3 (xs : List zaa) (ls : List Int) (i j : Int) : List Nat := if 0 < xs.length /\ i < j then zbr xs ls i j xs.length (xs.length - 1) 0 else []
theorem zeK {xs : List zaa} {ls : List Int} (h : zaW xs = some ls) : ∀ (k : Nat) r, xs[k]? = some r -> zaC k r = true /\ ls.getD k 0 = zaU ls r := by
 suffices H : ∀ (ys : List zaa) (a o : List Int), ys.foldl zaR (some a) = some o -> (∃ t, o = a ++ t) /\ ∀ (k : Nat) r, ys[k]? = some r -> zaC (a.length + k) r = true /\ o.getD (a.length + k) 0 = zaU o r by
  intro k r hr; have := (H xs [] ls h).2 k r hr; simpa using this
 intro ys
 induction ys with
 | nil => intro a o h; simp at h; subst h; exact ⟨⟨[], by simp⟩, fun k r hr => by simp at hr⟩
 | cons x ys ih =>
   intro a o h; simp only [List.foldl_cons, zaR, Option.bind_some] at h
   split at h
   · rename_i hc
     obtain ⟨⟨t, ht⟩, h2⟩ := ih _ _ h; subst ht; refine ⟨⟨zaU a x :: t, by simp⟩, fun k r hr => ?_⟩
     cases k with
     | zero =>
       simp at hr
       subst hr; refine ⟨by simpa using hc.1, ?_⟩
       have e : (a ++ [zaU a x] ++ t).getD (a.length + 0) 0 = zaU a x := by
        rw [yg, List.getElem?_append_left yS, List.getElem?_append_right yO]
        simp
       rw [e]; unfold zaU; split
       · rename_i hp
         have hok := hc.1; simp only [zaC, hp, if_true, Bool.and_eq_true, decide_eq_true_eq] at hok
         rw [List.append_assoc]; simp only [yg]
         rw [List.getElem?_append_left yO, List.getElem?_append_left yO]
       · rfl
     | succ k =>
       have := h2 k r (by simpa using hr); simp only [List.length_append, List.length_cons, List.length_nil] at this
       rw [show a.length + (k + 1) = a.length + (0 + 1) + k by omega]; exact this
   · rw [zcT] at h; cases h
theorem zcm {xs : List zaa} {r : Nat} (h : r < xs.length) : xs[r]? = some (zaA xs r) := by
 unfold zaA; rw [yg, ye h]; rfl
theorem zaO {xs : List zaa} {ls : List Int} (h : zaW xs = some ls) {r : Nat} (hr : r < xs.length) : 1 <= ls.getD r 0 /\ ls.getD r 0 <= 1000000000000000 := by
 have hl := zaG h; have := zgx h ls[r] (List.getElem_mem yO); rw [yg, ye yO]; exact this
theorem zbi {xs : List zaa} {ls : List Int} (h : zaW xs = some ls) {r : Nat} (hr : r < xs.length) (hp : (zaA xs r).pair = true) :
  0 <= (zaA xs r).left /\ (zaA xs r).left.toNat < r /\ 0 <= (zaA xs r).right /\ (zaA xs r).right.toNat < r /\ ls.getD r 0 = ls.getD (zaA xs r).left.toNat 0 + ls.getD (zaA xs r).right.toNat 0 := by
 obtain ⟨h1, h2⟩ := zeK h r _ (zcm hr); simp only [zaC, hp, if_true, Bool.and_eq_true, decide_eq_true_eq] at h1
 simp only [zaU, hp, if_true] at h2
 exact ⟨h1.1.1.1, by omega, h1.1.2, by omega, h2⟩
theorem zbL {xs : List zaa} {ls : List Int} (h : zaW xs = some ls) {r : Nat} (hr : r < xs.length) (hp : (zaA xs r).pair = false) : ls.getD r 0 = 1 := by
 obtain ⟨h1, h2⟩ := zeK h r _ (zcm hr); simpa [zaU, hp] using h2
section
variable {σ : Type}
def NoB (o : Obj) : Prop := ∀ c fz, o ≠ .cells c 5 fz
theorem NoB.cells {c : Array Value} {t : TypeId} {fz : Nat × Nat} (h : t ≠ 5) : NoB (.cells c t fz) := fun _ _ e => by
 injection e with _ h2 _; exact h h2
def zdo (a : Nat) (w : World) : Prop := ∀ k, a <= k -> ∀ c fz, w.heap[k]? ≠ some (.cells c 5 fz)
theorem zdo.same (w : World) : zdo w.heap.size w := fun k hk c fz e => by
 have := (Array.getElem?_eq_some_iff.1 e).1
 omega
theorem zdo.alloc {a : Nat} {w : World} (h : zdo a w) {o : Obj} (ho : NoB o) : zdo a (w.alloc o) := fun k hk c fz e => by
 have hl := (Array.getElem?_eq_some_iff.1 e).1
 rcases Nat.lt_or_ge k w.heap.size with h1 | h1
 · rw [Below.heap_alloc _ _ _ h1] at e
   exact h k hk c fz e
 · have : k = w.heap.size := by simp at hl; omega
   subst this; rw [heap_alloc_new] at e; exact ho c fz (Option.some.inj e)
def zlg (step : σ -> Nat -> σ) (Ok : σ -> Nat -> Prop) (s : σ) (l : List Nat) : Prop := ∀ l1 r l2, l = l1 ++ r :: l2 -> Ok (l1.foldl step s) r
theorem zlg.one {step : σ -> Nat -> σ} {Ok : σ -> Nat -> Prop} {s : σ} {r : Nat} (h : zlg step Ok s [r]) : Ok s r := h [] r [] rfl
theorem zlg.left {step : σ -> Nat -> σ} {Ok : σ -> Nat -> Prop} {s : σ} {a b : List Nat} (h : zlg step Ok s (a ++ b)) : zlg step Ok s a := fun l1 r l2 e => h l1 r (l2 ++ b) (by rw [e]; simp)
theorem zlg.right {step : σ -> Nat -> σ} {Ok : σ -> Nat -> Prop} {s : σ} {a b : List Nat} (h : zlg step Ok s (a ++ b)) : zlg step Ok (a.foldl step s) b := fun l1 r l2 e => by
 have := h (a ++ l1) r l2 (by rw [e]; simp); rwa [List.foldl_append] at this
theorem zlg.all {step : σ -> Nat -> σ} {Ok : σ -> Nat -> Prop} {s : σ} {l : List Nat} (h : ∀ s r, Ok s r) : zlg step Ok s l := fun _ _ _ _ => h _ _
def zdV (J : (Nat -> Prop) -> σ -> World -> Prop) (C : Nat -> Prop) (s' : σ) (w : World) (e : Ending) (w' : World) : Prop :=
 e = .returned (.tuple #[]) /\ ∃ C', (∀ b, C b -> C' b) /\ (∀ b, C' b -> b < w'.heap.size) /\ J C' s' w' /\ Wk C w w'
structure zpv (w : World) (C : Nat -> Prop) (bl bi bj bw bg bt : Nat) (vL vW vR : Value) (i j : Int) (ls : List Int) (xs : List zaa) : Prop where
 cl : w.cell? ⟨bl, 0, none⟩ = some vL
 ci : w.cell? ⟨bi, 0, none⟩ = some (.int .i64 i)
 cj : w.cell? ⟨bj, 0, none⟩ = some (.int .i64 j)
 cw : w.cell? ⟨bw, 0, none⟩ = some vW
 cg : w.cell? ⟨bg, 0, none⟩ = some vR
 ct : w.cell? ⟨bt, 0, none⟩ = some (.func (.func 166) #[] #[.pointer (some ⟨bl, 0, none⟩), .pointer (some ⟨bi, 0, none⟩), .pointer (some ⟨bj, 0, none⟩), .pointer (some ⟨bw, 0, none⟩), .pointer (some ⟨bg, 0, none⟩), .pointer (some ⟨bt, 0, none⟩)])
 ml : C bl
 mi : C bi
 mj : C bj
 mw : C bw
 mg : C bg
 mt : C bt
 sl : SlS zgt w C vL ls
 sr : SlS zar w C vR xs
 lt : ∀ b, C b -> b < w.heap.size
theorem zpv.up {w w' : World} {C C' : Nat -> Prop} {bl bi bj bw bg bt : Nat} {vL vW vR : Value} {i j : Int} {ls : List Int} {xs : List zaa} (h : zpv w C bl bi bj bw bg bt vL vW vR i j ls xs)
  (hw : Wk C w w') (hs : ∀ b, C b -> C' b) (hl : ∀ b, C' b -> b < w'.heap.size) : zpv w' C' bl bi bj bw bg bt vL vW vR i j ls xs :=
 ⟨hw.cell h.ml h.cl, hw.cell h.mi h.ci, hw.cell h.mj h.cj, hw.cell h.mw h.cw, hw.cell h.mg h.cg, hw.cell h.mt h.ct, hs _ h.ml, hs _ h.mi, hs _ h.mj, hs _ h.mw, hs _ h.mg, hs _ h.mt,
  (h.sl.keep hw.keep).more hs, (h.sr.keep hw.keep).more hs, hl⟩
def ext (C : Nat -> Prop) (a b : Nat) : Nat -> Prop := fun k => C k \/ (a <= k /\ k < b)
theorem znN (J : (Nat -> Prop) -> σ -> World -> Prop) (step : σ -> Nat -> σ) (Ok : σ -> Nat -> Prop) (F : FuncId) (cap : Array Value) (xs : List zaa) (ls : List Int) (i j : Int) (hlens : zaW xs = some ls)
  (eg : ∀ args w, (callFunc F args).run Tryz.prog w = .ok (.enter F args) w)
  (hext : ∀ C s w w', J C s w -> Below w.heap.size w w' -> zdo w.heap.size w' -> (∀ b, C b -> b < w.heap.size) -> J (ext C w.heap.size w'.heap.size) s w')
  (hwith : ∀ C s (r : Nat) (w : World), J C s w -> Ok s r -> r < xs.length -> (∀ b, C b -> b < w.heap.size) -> Calls Tryz.prog F (#[.int .i64 r] ++ cap) w (zdV J C (step s r) w))
  (bl bi bj bw bg bt : Nat) (vL vR : Value) (f : Nat) :
  ∀ (r : Nat) (p : Int) (s : σ) (C : Nat -> Prop) (w : World), r < f -> r < xs.length -> 0 <= p -> p + ls.getD r 0 <= 1000000000000000 -> J C s w -> zlg step Ok s (zbr xs ls i j f r p) ->
   zpv w C bl bi bj bw bg bt vL (.func (.func F) #[] cap) vR i j ls xs ->
   Calls Tryz.prog 166 #[.int .i64 r, .int .i64 p, .pointer (some ⟨bl, 0, none⟩), .pointer (some ⟨bi, 0, none⟩), .pointer (some ⟨bj, 0, none⟩), .pointer (some ⟨bw, 0, none⟩), .pointer (some ⟨bg, 0, none⟩), .pointer (some ⟨bt, 0, none⟩)] w
    (zdV J C ((zbr xs ls i j f r p).foldl step s) w) := by
 induction f with
 | zero => intro r p s C w h; omega
 | succ f ih =>
   intro r p s C w hf hr hp0 hp1 hJ hRu hS; have Ih := yq ih; have HRu := yq hRu; clear hRu; have Hw := yq hwith; have He := yq hext; have HJ := yq hJ; have HS := yq hS; clear ih hwith hext hJ; have hcl := hS.cl; have hci := hS.ci; have hcj := hS.cj; have hcw := hS.cw; have hll := zaG hlens; obtain ⟨AL, cL, rfl, _, _, hrowL⟩ := hS.sl; obtain ⟨b1, o1, rfl, hb1, hcellL⟩ := hrowL.int (k := r) yO; have hcr := hcellL r yO; have hri : (r : Int) < (ls.length : Int) := by omega
   have hpos := zaO hlens hr
   have Hxy : yh (∀ y, ls.getD r 0 = y -> zbr xs ls i j (f + 1) r p = if p + y <= i \/ j <= p then [] else if i <= p /\ p + y <= j then [r] else
    zbr xs ls i j f (zaA xs r).left.toNat p ++ zbr xs ls i j f (zaA xs r).right.toNat (p + ls.getD (zaA xs r).left.toNat 0)) := by rintro y rfl; rfl
   have Hll := yq hll; have HcL := yq hcellL; have Hb1 := yq hb1; clear hcellL hll; obtain ⟨n, hn⟩ : ∃ n, ls.getD r 0 = n := ⟨_, rfl⟩
   rw [hn] at hcr hpos hp1; have Hn := yq hn; have hcov := Hxy.o n hn; have Hcov := yq hcov; rw [hcov] at HRu; clear hn hcov; have e144 : ∀ args w, (callFunc 166 args).run Tryz.prog w = .ok (.enter 166 args) w := enters_of Tryz.func166 yk rfl; by_cases c1 : p + n <= i
   · rw [if_pos (Or.inl c1)] at Hcov HRu
     go_enter Tryz.func166, Tryz.ntmps166
     go_wp2_with fail
     go_end0
     exact ⟨rfl, C, fun _ h => h, HS.o.lt, by rw [Hcov.o]; exact HJ.o, Wk.refl _ _⟩
   · by_cases c2 : j <= p
     · rw [if_pos (Or.inr c2)] at Hcov HRu
       go_enter Tryz.func166, Tryz.ntmps166
       go_wp2_with fail
       go_end0
       exact ⟨rfl, C, fun _ h => h, HS.o.lt, by rw [Hcov.o]; exact HJ.o, Wk.refl _ _⟩
     · rw [if_neg yO] at Hcov HRu
       by_cases c34 : i <= p /\ p + n <= j
       · rw [if_pos c34] at Hcov HRu
         obtain ⟨c3, c4⟩ := c34; go_enter Tryz.func166, Tryz.ntmps166
         go_wp2_with fail
         refine (Hw.o C s r w HJ.o HRu.o.one hr HS.o.lt).mono ?_
         rintro e w2 ⟨rfl, C', h1, h2, h3, h4⟩; go_wp2_with fail
         go_end0
         exact ⟨rfl, C', h1, h2, by rw [Hcov.o]; exact h3, h4⟩
       · rw [if_neg c34] at Hcov HRu
         have hpair : (zaA xs r).pair = true := by
          by_cases hp : (zaA xs r).pair = true
          · exact hp
          · have := zbL hlens hr (by simpa using hp)
            have := Hn.o; omega
         obtain ⟨hl0, hlr, hr0, hrr, hsum⟩ := zbi hlens hr hpair; obtain ⟨AR, cR, rfl, _, _, hrowR⟩ := HS.o.sr; obtain ⟨b2, o2, rfl, hb2, hcellR⟩ := hrowR.rule (k := r) hr; obtain ⟨k0, k1, k2⟩ := hcellR r _ (zcm hr); generalize hR : zaA xs r = R at *; obtain ⟨rs, rl, rr⟩ := R; obtain ⟨l, rfl⟩ := Int.eq_ofNat_of_zero_le hl0; obtain ⟨q, rfl⟩ := Int.eq_ofNat_of_zero_le hr0; simp only [Int.toNat_natCast] at hlr hrr hsum Hcov HRu
         have hcg := HS.o.cg; have hct := HS.o.ct; have lbt : bt < w.heap.size := HS.o.lt _ HS.o.mt; have hpl := zaO hlens (r := l) yO; have hpq := zaO hlens (r := q) yO; have hrx : (r : Int) < (xs.length : Int) := by omega
         have hll := Hll.o; have hsn : n = ls.getD l 0 + ls.getD q 0 := by rw [<- Hn.o]; exact hsum
         obtain ⟨m, hm⟩ : ∃ m, ls.getD l 0 = m := ⟨_, rfl⟩
         obtain ⟨m', hm'⟩ : ∃ m', ls.getD q 0 = m' := ⟨_, rfl⟩
         rw [hm] at hsn hpl; rw [hm'] at hsn hpq; rw [hm] at Hcov HRu; have Hm := yq hm; have Hm' := yq hm'; have Hsn := yq hsn; have hl3 : p + m <= 1000000000000000 := by omega
         have hq3 : p + m + m' <= 1000000000000000 := by omega
         have hq0 : 0 <= p + m := by omega
         have Hq0 := yq hq0; have Hl3 := yq hl3; have Hq3 := yq hq3; have hBA : ∀ o, Below w.heap.size w (w.alloc o) := fun o => (Below.refl _ _).alloc yL _; have HBA := yq hBA
         have HS1 : ∀ o, zpv (w.alloc o) (ext C w.heap.size (w.alloc o).heap.size) bl bi bj bw bg bt (.slice (some ⟨b1, o1, none⟩) ls.length cL) (.func (.func F) #[] cap) (.slice (some ⟨b2, o2, none⟩) xs.length cR) i j ls xs := fun o =>
          HS.o.up (Wk.of_below (HBA.o o) HS.o.lt) (fun b h => Or.inl h) (fun b h => by rcases h with h | h; exact Nat.lt_of_lt_of_le (HS.o.lt b h) (HBA.o o).size; exact h.2)
         have HJ1 : ∀ o, NoB o -> J (ext C w.heap.size (w.alloc o).heap.size) s (w.alloc o) := fun o ho => He.o C s w _ HJ.o (HBA.o o) ((zdo.same w).alloc ho) HS.o.lt; have HSS1 := yq HS1; have HJJ1 := yq HJ1; have hlx : l < xs.length := by omega
         have hqx : q < xs.length := by omega
         have hlf : l < f := by omega
         have hqf : q < f := by omega
         have Hpair := yq hpair; have HR := yq hR; have hc34 : (i <= p /\ ¬ p + n <= j) \/ ¬ i <= p := by omega
         clear hm hm' hpair hcellR hsum hR hrowL hrowR hb1 hb2 hBA HS1 HJ1 hsn c34; rcases hc34 with ⟨c3, c4⟩ | c3
         all_goals
          go_enter Tryz.func166, Tryz.ntmps166
          go_wp2_with fail
          refine (Ih.o l p s _ _ hlf hlx hp0 (by rw [Hm.o]; exact Hl3.o) (HJJ1.o _ (NoB.cells (by decide))) HRu.o.left (HSS1.o _)).mono ?_
          rintro e w2 ⟨rfl, C2, g1, g2, g3, g4⟩; have hbx0 : w2.cell? ⟨w.heap.size, 0, none⟩ = some (.string rs) := g4.cell (Or.inr yS) (by simp [go_sem]); have hbx1 : w2.cell? ⟨w.heap.size, 1, none⟩ = some (.int .i64 l) := g4.cell (Or.inr yS) (by simp [go_sem]); have hbx2 : w2.cell? ⟨w.heap.size, 2, none⟩ = some (.int .i64 q) := g4.cell (Or.inr yS) (by simp [go_sem]); have S2 := yq ((HSS1.o _).up g4 g1 g2); have hcl2 := S2.o.cl; have hct2 := S2.o.ct; have hcq : w2.cell? ⟨b1, o1 + l, none⟩ = some (.int .i64 m) := g4.cell (Or.inl Hb1.o) (((HBA.o _).cell (p := ⟨b1, o1 + l, none⟩) (HS.o.lt _ Hb1.o)).trans (by rw [HcL.o l (by have := Hll.o; omega), Hm.o])); have hli : (l : Int) < (ls.length : Int) := by have := Hll.o; omega
          go_wp2_with fail
          go_still_tail 10, yk
          change wpList _ _ _ _ _ w2.drew
          have HB3 := yq (Below.drew (Below.refl w2.heap.size w2)); have HJ3 := yq (He.o C2 _ w2 _ g3 HB3.o (zdo.same w2) g2); have S3 := yq (S2.o.up (Wk.of_below HB3.o g2) (C' := ext C2 w2.heap.size w2.drew.heap.size) (fun b h => Or.inl h) (fun b h => by rcases h with h | h; exact g2 b h; exact h.2)); have W2 := yq (((Wk.of_below (HBA.o _) HS.o.lt).trans (g4.mono (C' := C) fun b h => Or.inl h)).trans (Wk.of_below HB3.o (fun b h => g2 _ (g1 _ (Or.inl h))))); generalize w2.drew = w3 at *; go_wp2_with fail
          refine (Ih.o q (p + m) _ _ _ hqf hqx Hq0.o (by rw [Hm'.o]; exact Hq3.o) HJ3.o HRu.o.right S3.o).mono ?_
          rintro e w4 ⟨rfl, C4, k1, k2, k3, k4⟩; go_wp2_with fail
          go_end0
          refine ⟨rfl, C4, fun b h => k1 _ (Or.inl (g1 _ (Or.inl h))), k2, ?_, ?_⟩
          · rw [Hcov.o, List.foldl_append]; exact k3
          · exact W2.o.trans (k4.mono fun b h => Or.inl (g1 _ (Or.inl h)))
end
end Go.Proofs.YtejgbfgocaggfaaGreatDoor
