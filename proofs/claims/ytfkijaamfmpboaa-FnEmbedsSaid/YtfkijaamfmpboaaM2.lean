import Derived.Test.YtfkijaamfmpboaaM1
import Derived.Lib.UnsafeStr
import Derived.Laws.IdiomStrings
import Derived.BigQuiet
import Derived.Lib.Builder
import Derived.Laws.Bits64b
import Derived.Deep.RegionLaw
import Derived.RangeFuncBox
namespace Go.Proofs.Ytfkijaamfmpboaa
open Go.RowKit
def turnR (r : GRule) : GRule := { letter := r.letter, left := r.right, right := r.left }
theorem set2 (rs : List GRule) (k : Nat) (r : GRule) (a b : Int) (h : rs[k]? = some r) :
    ((rs.flatMap GRule.cells).set (k * 3 + 1) (.int .i64 a)).set (k * 3 + 2) (.int .i64 b) = (rs.set k { letter := r.letter, left := a, right := b }).flatMap GRule.cells := by
  have hk : k < rs.length := (List.getElem?_eq_some_iff.1 h).1
  rw [← set3 rs k { letter := r.letter, left := a, right := b } hk]
  have h0 := (cells3 rs k r h).1
  have e : (rs.flatMap GRule.cells).set (k * 3) (.string r.letter) = rs.flatMap GRule.cells := by
    apply List.ext_getElem?
    intro j
    rw [List.getElem?_set]
    split
    · rename_i hj; subst hj
      rw [h0]; split
      · rfl
      · rename_i hlt; rw [List.getElem?_eq_none (by omega)] at h0; cases h0
    · rfl
  rw [e]
theorem OwnRules.stored2 {w : World} {base g n cap : Nat} {rs : List GRule} (h : w.ownsRow base 111 3 (.slice (some ⟨g, 0, none⟩) n cap) n (rs.flatMap GRule.cells)) (k : Nat) (r : GRule) (a b : Int) (hk : rs[k]? = some r) :
    ((w.setCell ⟨g, k * 3 + 1, none⟩ (.int .i64 a)).setCell ⟨g, k * 3 + 2, none⟩ (.int .i64 b)).ownsRow base 111 3 (.slice (some ⟨g, 0, none⟩) n cap) n ((rs.set k { letter := r.letter, left := a, right := b }).flatMap GRule.cells) ∧
    w.grownBy ((w.setCell ⟨g, k * 3 + 1, none⟩ (.int .i64 a)).setCell ⟨g, k * 3 + 2, none⟩ (.int .i64 b)) (some g) := by
  obtain ⟨h2, g2⟩ := World.ownsRow.stored h (k * 3 + 1) (.int .i64 a)
  obtain ⟨h3, g3⟩ := World.ownsRow.stored h2 (k * 3 + 2) (.int .i64 b)
  rw [set2 rs k r a b hk] at h3
  exact ⟨h3, grown_trans g2 g3⟩
theorem turn_step {xs : List GRule} {n : Nat} {r : GRule} (h : xs[n]? = some r) : ((xs.take n).map turnR ++ xs.drop n).set n (turnR r) = (xs.take (n + 1)).map turnR ++ xs.drop (n + 1) := by
  obtain ⟨hn, rfl⟩ := List.getElem?_eq_some_iff.1 h
  rw [List.set_append, if_neg (by simp; omega), List.length_map, List.length_take, Nat.min_eq_left (by omega), Nat.sub_self, List.drop_eq_getElem_cons hn, List.set_cons_zero, List.take_add_one, h, List.map_append, List.append_assoc]
  rfl
theorem turn_at {xs : List GRule} {n : Nat} {r : GRule} (h : xs[n]? = some r) : ((xs.take n).map turnR ++ xs.drop n)[n]? = some r := by
  obtain ⟨hn, rfl⟩ := List.getElem?_eq_some_iff.1 h
  rw [List.getElem?_append_right (by simp; omega)]
  simp [Nat.min_eq_left (Nat.le_of_lt hn)]
theorem grown_alloc {a w : World} {row : Option Nat} (h : a.grownBy w row) (o : Obj) : a.grownBy (w.alloc o) row :=
  ⟨h.os, h.tape, h.output, Nat.le_trans h.size (by simp), fun i hi hne => (Below.heap_alloc w o i (Nat.lt_of_lt_of_le hi h.size)).trans (h.block i hi hne)⟩
theorem grown_drew {a w : World} {row : Option Nat} (h : a.grownBy w row) : a.grownBy w.drew row := ⟨h.os, h.tape, h.output, h.size, h.block⟩
theorem alloc_heap_last (w : World) (o : Obj) : (w.alloc o).heap[w.heap.size]? = some o := heap_alloc_new w o
set_option maxRecDepth 100000 in
set_option maxHeartbeats 1000000 in
theorem turnedOver_any (v : Value) (xs : List GRule) (w : World) (h : Sl RuleE w w.heap.size v xs) (hn : xs.length ≤ 1099511627776) :
    Calls Try.prog 51 #[.agg #[v]] w fun e w' => ∃ v', e = .returned (.agg #[v']) ∧ OwnRules w' w.heap.size v' (xs.map turnR) ∧ Below w.heap.size w w' := by
  have h1 := fun o o' => (h.below (((Below.refl w.heap.size w).alloc (Nat.le_refl _) o).alloc (by simp) o')).le (B' := ((w.alloc o).alloc o').heap.size) (by simp; omega)
  have H1 := Lib.hid h1
  clear h1
  obtain ⟨A, c, rfl, _⟩ := h
  go_enter Try.func51, Try.ntmps51
  go_wp2_with fail
  refine (copied_any _ _ _ (H1.out _ _) hn).mono ?_
  rintro e w1 ⟨v1, rfl, hown, hb1⟩
  rcases Nat.eq_zero_or_pos xs.length with h0 | h0
  · have hx : xs = [] := List.eq_nil_of_length_eq_zero h0
    subst hx
    obtain ⟨A1, c1, rfl, _⟩ := own_nil hown
    obtain ⟨hc1, hf1⟩ := bcell hb1
    have hz1 : w.heap.size + 2 ≤ w1.heap.size := by have := hb1.size; simp at this; omega
    have hz3 : w.heap.size + 1 < w1.heap.size := by omega
    have hc2 : w1.cell? ⟨w.heap.size + 1, 0, none⟩ = some (.slice none 0 0) := by rw [hc1 _ _ (by simp)]; simp [go_sem]
    have hf2 : w1.frozen? ⟨w.heap.size + 1, 0, none⟩ = false := by rw [hf1 _ _ (by simp)]; simp [go_sem]
    have Hown := Lib.hid hown
    have Hb1 := Lib.hid hb1
    clear hown hb1 hc1 hf1 h0
    go_wp2_with fail
    go_loopw [11] (fun i wr => i = .int .i64 0 ∧ wr = w1.alloc (Obj.cells #[Value.slice A1 0 c1] 30)) (fun _ _ => 0)
    case atStart => exact ⟨rfl, rfl⟩
    case round =>
      obtain ⟨rfl, rfl⟩ := hrel
      go_wp2
      refine bodyPost_ret (v := .agg #[.slice A1 0 c1]) (by simp [results, Try.results51, go_sem, hc2, hz3]) rfl ⟨_, rfl, ?_, ?_⟩
      · have h4 : w1.ownsRow (w.heap.size + 2) 111 3 (.slice A1 0 c1) 0 [] := ownsRow_more Hown.out (by simp)
        exact ownsRow_more (World.ownsRow.alloc (ownsRow_setCell_below h4 (a := ⟨w.heap.size + 1, 0, none⟩) (by show w.heap.size + 1 < w.heap.size + 2; omega) _) _) (by omega)
      · exact (((((Below.refl _ _).alloc (Nat.le_refl _) _).alloc (by simp) _).trans (Hb1.out.mono (by simp; omega))).setCell (by show w.heap.size ≤ w.heap.size + 1; omega) _).alloc (by simp [World.setCell]; omega) _
  · obtain ⟨g, cap, rfl, hgb, hgl, hcap, _⟩ := own_form hown h0
    simp at hgb
    obtain ⟨hc1, hf1⟩ := bcell hb1
    have hz1 : w.heap.size + 2 ≤ w1.heap.size := by have := hb1.size; simp at this; omega
    have Hown := Lib.hid hown
    have Hb1 := Lib.hid hb1
    clear hown hb1 hcap
    go_wp2_with fail
    have hgw : w1.alloc (Obj.cells #[Value.slice (some ⟨g, 0, none⟩) xs.length cap] 30) = w1.alloc (Obj.cells #[Value.slice (some ⟨g, 0, none⟩) xs.length cap] 30) := rfl
    go_loopw [11] (fun i wr => ∃ n : Nat, n ≤ xs.length ∧ i = .int .i64 n ∧ (w1.alloc (Obj.cells #[Value.slice (some ⟨g, 0, none⟩) xs.length cap] 30)).grownBy wr (some g) ∧
      wr.ownsRow (w.heap.size + 2) 111 3 (.slice (some ⟨g, 0, none⟩) xs.length cap) xs.length (((xs.take n).map turnR ++ xs.drop n).flatMap GRule.cells)) (fun i _ => xs.length - (intOf i).toNat)
    case atStart => exact ⟨0, Nat.zero_le _, rfl, World.grownBy.refl _ _, by have := Hown.out; simp only [List.take_zero, List.map_nil, List.nil_append, List.drop_zero]; exact ownsRow_more (World.ownsRow.alloc this _) (by simp)⟩
    case round =>
      obtain ⟨n, hnl, rfl, hgr, hown⟩ := hrel
      have hbx : wr.heap[w1.heap.size]? = some (Obj.cells #[Value.slice (some ⟨g, 0, none⟩) xs.length cap] 30) := by
        rw [hgr.block w1.heap.size (by simp) (by simp; omega)]; exact heap_alloc_new _ _
      have hcb : wr.cell? ⟨w1.heap.size, 0, none⟩ = some (.slice (some ⟨g, 0, none⟩) xs.length cap) := by simp [World.cell?, hbx]
      have hszr : w1.heap.size < wr.heap.size := by have := hgr.size; simp at this; omega
      clear hbx
      by_cases hlt : n < xs.length
      · obtain ⟨r, hr⟩ : ∃ r, xs[n]? = some r := ⟨_, List.getElem?_eq_getElem hlt⟩
        obtain ⟨c0, c1, c2⟩ := cells3 _ _ _ (turn_at hr)
        have hl3 : n * 3 + 2 < xs.length * 3 := by omega
        have hd0 : wr.cell? ⟨g, n * 3, none⟩ = some (.string r.letter) := (hown.cellAt (n * 3) (by omega)).trans c0
        have hd1 : wr.cell? ⟨g, n * 3 + 1, none⟩ = some (.int .i64 r.left) := (hown.cellAt (n * 3 + 1) (by omega)).trans c1
        have hd2 : wr.cell? ⟨g, n * 3 + 2, none⟩ = some (.int .i64 r.right) := (hown.cellAt (n * 3 + 2) (by omega)).trans c2
        have hf0 := hown.frozenAt (n * 3)
        have hfa := hown.frozenAt (n * 3 + 1)
        have hfb := hown.frozenAt (n * 3 + 2)
        have hi : (n : Int) < (xs.length : Int) := by omega
        have hg2 : g < wr.heap.size := by omega
        have Hr := Lib.hid hr
        have Hown := Lib.hid hown
        have Hgr := Lib.hid hgr
        clear hown hgr hr c0 c1 c2 hc1 hf1 hgw
        go_wp2_with fail
        go_region
        go_wp2
        go_roundw
        case rel =>
          refine ⟨n + 1, by omega, by go_num, ?_, ?_⟩
          · exact grown_drew (grown_alloc (grown_trans Hgr.out (OwnRules.stored2 Hown.out n r r.right r.left (turn_at Hr.out)).2) _)
          · rw [← turn_step Hr.out]
            exact World.ownsRow.alloc (OwnRules.stored2 Hown.out n r r.right r.left (turn_at Hr.out)).1 _
        case measure => simp [intOf]; omega
      · have hkn : n = xs.length := by omega
        subst hkn
        have hrb : wr.heap[w.heap.size + 1]? = some (Obj.cells #[Value.slice none 0 0] 30) := by
          rw [hgr.block (w.heap.size + 1) (by simp; omega) (by simp; omega), Below.heap_alloc _ _ _ (by omega), Hb1.out.block _ (by simp)]
          have h9 := alloc_heap_last (w.alloc (Obj.cells #[Value.slice A xs.length c] 30)) (Obj.cells #[Value.slice none 0 0] 30)
          rw [show (w.alloc (Obj.cells #[Value.slice A xs.length c] 30)).heap.size = w.heap.size + 1 by simp] at h9
          exact h9
        have hcr : wr.cell? ⟨w.heap.size + 1, 0, none⟩ = some (.slice none 0 0) := by simp [World.cell?, hrb]
        have hfr : wr.frozen? ⟨w.heap.size + 1, 0, none⟩ = false := by simp [World.frozen?, hrb]
        have Hgr := Lib.hid hgr
        have Hown := Lib.hid hown
        clear hrb hown hgr hc1 hf1 hgw
        go_wp2
        refine bodyPost_ret (v := .agg #[.slice (some ⟨g, 0, none⟩) xs.length cap]) (by simp [results, Try.results51, go_sem, hcr]) rfl ⟨_, rfl, ?_, ?_⟩
        · have h4 := Hown.out
          rw [List.take_length, List.drop_length, List.append_nil] at h4
          have h5 := ownsRow_setCell_below h4 (a := ⟨w.heap.size + 1, 0, none⟩) (by show w.heap.size + 1 < w.heap.size + 2; omega) (.slice (some ⟨g, 0, none⟩) xs.length cap)
          unfold OwnRules
          rw [List.length_map]
          exact ownsRow_more h5 (by omega)
        · refine Below.setCell ?_ (by show w.heap.size ≤ w.heap.size + 1; omega) _
          exact ((((((Below.refl _ _).alloc (Nat.le_refl _) _).alloc (by simp) _).trans (Hb1.out.mono (by simp; omega))).alloc (by omega) _).grown Hgr.out (by simp; omega) (fun k hk => by injection hk with hk; omega))
theorem cell_up {w w' : World} {N b : Nat} {v : Value} (h : w.cell? ⟨b, 0, none⟩ = some v) (hb : Below N w w') (hlt : b < N) : w'.cell? ⟨b, 0, none⟩ = some v := (hb.cell (p := ⟨b, 0, none⟩) hlt).trans h
theorem own_keep {w w' : World} {base e s : Nat} {v : Value} {n : Nat} {xs : List Value} (h : w.ownsRow base e s v n xs) (hk : ∀ g, v.ownBlock = some g → w'.heap[g]? = w.heap[g]?) : w'.ownsRow base e s v n xs := by
  refine ⟨h.1, ?_⟩
  rcases h.2 with hn | ⟨g, cap, cur, rfl, hb, hgg, rest⟩
  · exact .inl hn
  · exact .inr ⟨g, cap, cur, rfl, hb, by rw [hk g rfl]; exact hgg, rest⟩
theorem OwnRules.below {w w' : World} {base : Nat} {v : Value} {l : List GRule} (h : OwnRules w base v l) (hb : Below w.heap.size w w') : OwnRules w' base v l := ownsRow_below h hb
theorem OwnRules.keep {w w' : World} {base : Nat} {v : Value} {l : List GRule} {row : Option Nat} (h : OwnRules w base v l) (hg : w.grownBy w' row) (hne : ∀ g, v.ownBlock = some g → some g ≠ row) : OwnRules w' base v l :=
  own_keep h fun g hgg => hg.block g (World.ownsRow.lt h g hgg).2 (hne g hgg)
theorem within_yes (n a b : Int) (w : World) (h : inR n a b = true) : Calls Try.prog 37 #[.int .i64 n, .int .i64 a, .int .i64 b] w fun e w' => e = .returned (.bool true) ∧ w = w' :=
  (within_any n a b w).mono fun _ _ ⟨he, hw⟩ => ⟨by rw [he, ← h]; rfl, hw⟩
theorem l04Letter_any (c : UInt8) (w : World) (h1 : 97 ≤ c.toNat) (h2 : c.toNat ≤ 100) :
    Calls Try.prog 46 #[.int .u8 c.toNat] w fun e w' => e = .returned (.int .i64 ((c.toNat - 97 : Nat) : Int)) ∧ w = w' := by
  obtain ⟨d, hd⟩ : ∃ d, c.toNat = 97 + d := ⟨c.toNat - 97, by omega⟩
  have hd3 : d ≤ 3 := by omega
  rw [hd]
  clear hd h1 h2
  go_enter Try.func46, Try.ntmps46
  go_wp2_with fail
  go_ret
  exact ⟨ret_int (by omega), rfl⟩
theorem wpList_push2 {P : Program} {W : World} {ops : Array Oper} {rest : List Oper} {o : Oper} {a : Act} {Q : Exit → Act → World → Prop} (hgd : o.guard = none) (s x : Operand) (t : TypeId)
    (ho : o.op = .call { callee := .builtin .append, args := #[s, x], argTypes := #[t, t] }) {cs : Array Value} {e : TypeId}
    (i : TypeInfo) (z : Value) (size bytes : Nat) (ht : P.underlying t = some (.slice e)) (hi : P.info? e = some i) (hz : i.zero = some z)
    (hsize : i.size = size) (hby : i.bytes = bytes) (hzs : z.cells.size = size) (hsz : 0 < size)
    {base : Nat} {v : Value} {n : Nat} {xs : List Value} (hs : a.eval s = v) (hx : a.eval x = .slice (some ⟨W.heap.size, 0, none⟩) 1 1)
    (hcs : cs.size = size) (h1 : ∀ u ∈ cs.toList, u.oneCell' = true) (hown : W.ownsRow base e size v n xs)
    (hlen : (n + 1) * bytes ≤ 140737488355328) (hn : n + 1 ≤ 140737488355328) (hbase : base ≤ W.heap.size)
    (h : ∀ v' w', w'.ownsRow base e size v' (n + 1) (xs ++ cs.toList) → (W.alloc (.cells cs e)).grownBy w' v.ownBlock → (v'.ownBlock = v.ownBlock ∨ v'.ownBlock = some (W.heap.size + 1)) → wpList P ops Q rest (a.put o.dst v') w') :
    wpList P ops Q (o :: rest) a (W.alloc (.cells cs e)) := by
  refine wpList_plain hgd fun _ hK => ?_
  obtain ⟨v', w', hrun, h2, h3, _, h5⟩ := run_append_own_at (P := P) (W.alloc (.cells cs e)) base t o.type e i z size bytes ht hi hz hsize hby hzs hsz v n xs (hown.alloc _) ⟨W.heap.size, 0, none⟩ 1 1 cs.toList (by simpa using hcs)
    (fun j u hu => by
      have : (W.alloc (.cells cs e)).cell? ⟨W.heap.size, j, none⟩ = cs[j]? := cell_of_row _ _ _ _ e (0, 0) (heap_alloc_new W _)
      have ha : (⟨W.heap.size, 0, none⟩ : Addr).add j = ⟨W.heap.size, j, none⟩ := by unfold Addr.add; split <;> simp_all
      rw [ha, this]; simpa using hu) h1 (by simp only [maxLen]; omega) hlen (by simp; omega)
  unfold Oper.wp execOp
  simp only [ho, resolve, invoke, builtin, Sem.run_bind, Sem.run_pure, Result.andThen_ok, List.map_toArray, List.map_cons, List.map_nil, hs, hx, hrun]
  exact hK _ _ (h v' w' h2 h3 (by simpa using h5))
theorem push_sl {W : World} {ops : Array Oper} {rest : List Oper} {o : Oper} {a : Act} {Q : Exit → Act → World → Prop} (hgd : o.guard = none) (s x : Operand)
    (ho : o.op = .call { callee := .builtin .append, args := #[s, x], argTypes := #[54, 54] }) {u : Value} {base n : Nat} {v : Value} {vs : List Value}
    (hs : a.eval s = v) {N : Nat} (hx : a.eval x = .slice (some ⟨N, 0, none⟩) 1 1) (hN : N = W.heap.size) (hu : u.oneCell' = true) (hown : W.ownsRow base 34 1 v n vs) (hlen : n ≤ 1099511627776) (hbase : base ≤ W.heap.size)
    (h : ∀ v' w', w'.ownsRow base 34 1 v' (n + 1) (vs ++ [u]) → (W.alloc (.cells #[u] 34)).grownBy w' v.ownBlock → (v'.ownBlock = v.ownBlock ∨ v'.ownBlock = some (W.heap.size + 1)) → wpList Try.prog ops Q rest (a.put o.dst v') w') :
    wpList Try.prog ops Q (o :: rest) a (W.alloc (.cells #[u] 34)) := by
  subst hN
  obtain ⟨i0, hi0, hz0, hz1, hz2⟩ := info_parts Try.infoII
  refine wpList_push2 hgd s x 54 ho i0 (.slice none 0 0) 1 24 Try.underlying54 hi0 hz0 hz1 hz2 rfl (by decide) hs hx rfl (by simpa using hu) hown (by omega) (by omega) hbase ?_
  intro v' w' h1 h2 h3
  exact h v' w' (by simpa using h1) h2 h3
theorem cells2 {w : World} {S : Nat → Prop} {A : Option Addr} {l : List (List Int)} (hrow : Row (SliceE IntE) w S A l) (hl : 0 < l.length) :
    ∃ b o, A = some ⟨b, o, none⟩ ∧ S b ∧ ∀ t d, t < l.length → d < (l.getD t []).length → ∃ b' o' c, w.cell? ⟨b, o + t, none⟩ = some (.slice (some ⟨b', o', none⟩) (l.getD t []).length c) ∧ S b' ∧ w.cell? ⟨b', o' + d, none⟩ = some (.int .i64 ((l.getD t []).getD d 0)) := by
  obtain ⟨b, o, rfl, hbl, hcell⟩ := hrow.sl hl
  refine ⟨b, o, rfl, hbl, fun t d ht hd => ?_⟩
  have hx : l[t]? = some (l.getD t []) := by rw [List.getD_eq_getElem?_getD, List.getElem?_eq_getElem ht]; rfl
  obtain ⟨u, hu, A2, c2, rfl, hc2, hm2, hrow2⟩ := hcell t _ hx
  obtain ⟨b2, o2, rfl, hb2, hcell2⟩ := hrow2.int (k := d) hd
  exact ⟨b2, o2, c2, hu, hb2, hcell2 d hd⟩
theorem own_grown {w w' : World} {base e s : Nat} {v : Value} {n : Nat} {xs : List Value} {row : Option Nat} (h : w.ownsRow base e s v n xs) (hg : w.grownBy w' row) (hne : ∀ g, v.ownBlock = some g → some g ≠ row) : w'.ownsRow base e s v n xs :=
  own_keep h fun g hgg => hg.block g (h.lt g hgg).2 (hne g hgg)
theorem ownSl_empty {w : World} {base N : Nat} (hN : N = w.heap.size) (hb : base ≤ w.heap.size) : (w.alloc (Obj.cells #[] 34)).ownsRow base 34 1 (Value.slice (some ⟨N, 0, none⟩) 0 0) 0 [] := by
  subst hN
  exact World.ownsRow_lit w #[] 0 hb (Nat.zero_le _) rfl
theorem isPair_b (l : ByteArray) (a b : Int) (w : World) :
    Calls Try.prog 92 #[.agg #[.string l, .int .i64 a, .int .i64 b]] w fun e w' => e = .returned (.bool (l.toList.isEmpty)) ∧ Below w.heap.size w w' :=
  (isPair_any l a b w).mono fun _ _ ⟨he, hw⟩ => ⟨he, hw ▸ (Below.refl _ _).alloc (Nat.le_refl _) _⟩
theorem maps_push {N B : Nat} {wo wr w2 : World} {outv v' rowv : Value} {k : Nat} {vs : List Value} {M : List (List Int)} {row : List Int} {o : Obj} (hN : N ≤ wo.heap.size) (hB : wo.heap.size ≤ B) (hown : wo.ownsRow N 34 1 outv k vs)
    (hea : Each IntE wo (fun b => N ≤ b ∧ b < wo.heap.size ∧ some b ≠ outv.ownBlock) vs M) (hb : Below wo.heap.size wo wr) (hrow : OwnInts wr B rowv row) (hg : (wr.alloc o).grownBy w2 outv.ownBlock) (hv : v'.ownBlock = outv.ownBlock ∨ v'.ownBlock = some (wr.heap.size + 1)) :
    Each IntE w2 (fun b => N ≤ b ∧ b < w2.heap.size ∧ some b ≠ v'.ownBlock) (vs ++ [rowv]) (M ++ [row]) := by
  have hs1 : wo.heap.size ≤ wr.heap.size := hb.size
  have hs2 : wr.heap.size < w2.heap.size := Nat.lt_of_lt_of_le (by simp) hg.size
  have hob := fun g hg => (hown.lt g hg).2
  have h1 := hea.keep ((Keep.of_below hb).mono fun b h => h.2.1)
  have h2 := h1.keep ((Keep.of_below ((Below.refl wr.heap.size wr).alloc (Nat.le_refl _) o)).mono fun b h => by have := h.2.1; omega)
  have h3 := h2.keep ((Keep.of_grown hg).mono fun b h => ⟨by have := h.2.1; simp; omega, h.2.2⟩)
  have h4 := h3.more (S' := fun b => N ≤ b ∧ b < w2.heap.size ∧ some b ≠ v'.ownBlock) fun b h => ⟨h.1, by have := h.2.1; omega, fun e => by
    rcases hv with hv | hv
    · exact h.2.2 (e.trans hv)
    · rw [hv] at e; injection e with e; have := h.2.1; omega⟩
  refine h4.snoc ?_
  have r1 := World.ownsRow.alloc hrow o
  have r2 : OwnInts w2 B rowv row := own_grown r1 hg fun g hgg e => by
    have := (World.ownsRow.lt hrow g hgg).1
    have := hob g e.symm
    omega
  refine r2.slS fun g hgg => ⟨?_, ?_, ?_⟩
  · have := (World.ownsRow.lt hrow g hgg).1; omega
  · have := (World.ownsRow.lt hrow g hgg).2; omega
  · intro e
    rcases hv with hv | hv
    · have := hob g (hv ▸ e.symm); have := (World.ownsRow.lt hrow g hgg).1; omega
    · rw [hv] at e; injection e with e; have := (World.ownsRow.lt hrow g hgg).2; omega
def MapsPost (w : World) (m : List (List Int)) (e : Ending) (w' : World) : Prop :=
  ∃ v, e = .returned v ∧ SlS (SliceE IntE) w' (fun b => w.heap.size ≤ b ∧ b < w'.heap.size) v m ∧ Below w.heap.size w w'
def lastI (l : List Int) : Int := l.getD (l.length - 1) 0
theorem last_any (v : Value) (l : List Int) (w : World) (h : Sl IntE w w.heap.size v l) :
    Calls Try.prog 68 #[v] w fun e w' => e = .returned (.int .i64 (lastI l)) ∧ w = w' := by
  obtain ⟨A, c, rfl, hc, hm, hrow⟩ := h
  unfold maxLen at hm
  by_cases h0 : l.length = 0
  · have hl : l = [] := List.eq_nil_of_length_eq_zero h0
    subst hl
    go_enter Try.func68, Try.ntmps68
    go_wp2_with fail
    go_ret
    exact ⟨rfl, rfl⟩
  · obtain ⟨b, o, rfl, hbl, hcell⟩ := hrow.int (k := 0) (by omega)
    have hc0 := hcell (l.length - 1) (by omega)
    have g0 : ((l.length : Int) == 0) = false := by rw [beq_eq_false_iff_ne]; omega
    have hk : ((l.length : Int) - 1).toNat = l.length - 1 := by omega
    have hl : 0 ≤ (l.length : Int) - 1 := by omega
    obtain ⟨x, hx⟩ : ∃ x, l.getD (l.length - 1) 0 = x := ⟨_, rfl⟩
    have Hx := Lib.hid hx
    rw [hx] at hc0
    clear hcell hx
    go_enter Try.func68, Try.ntmps68
    go_wp2_with fail
    go_ret
    exact ⟨ret_int (by rw [lastI, Hx.out]), rfl⟩
theorem Wk.set {C : Nat → Prop} {w : World} {b o : Nat} {v : Value} (h : ¬ C b) : Wk C w (w.setCell ⟨b, o, none⟩ v).drew :=
  ⟨rfl, rfl, rfl, by show w.heap.size ≤ (w.setCell ⟨b, o, none⟩ v).heap.size; simp, fun k hk => heap_setCell_other w ⟨b, o, none⟩ k v (fun e => h (by have e' : k = b := e; exact e' ▸ hk))⟩
def wordR (xs : List GRule) : Nat → Nat → List UInt8
  | 0, _ => []
  | f + 1, r => if (getR xs r).pair then wordR xs f (getR xs r).left.toNat ++ wordR xs f (getR xs r).right.toNat else (getR xs r).letter.data.toList
def W1 (xs : List GRule) (r : Nat) : List UInt8 := wordR xs (r + 1) r
def wordG (xs : List GRule) : List UInt8 := if xs = [] then [] else W1 xs (xs.length - 1)
def cutL {α : Type} (l : List α) (i j : Int) : List α := (l.take j.toNat).drop i.toNat
theorem wordR_fuel {xs : List GRule} {ls : List Int} (h : lens xs = some ls) : ∀ (f r : Nat), r < f → r < xs.length → wordR xs f r = W1 xs r := by
  intro f
  induction f using Nat.strongRecOn with
  | _ f ih =>
    intro r hr hx
    obtain ⟨g, rfl⟩ : ∃ g, f = g + 1 := ⟨f - 1, by omega⟩
    unfold W1
    rw [wordR, wordR]
    cases hp : (getR xs r).pair with
    | false => rfl
    | true =>
      obtain ⟨q1, q2, q3, q4, q5⟩ := lens_pair h hx hp
      rw [if_pos rfl, if_pos rfl, ih g (by omega) _ (by omega) (by omega), ih g (by omega) _ (by omega) (by omega)]
      by_cases e : r = g
      · subst e
        rw [ih r (by omega) _ (by omega) (by omega), ih r (by omega) _ (by omega) (by omega)]
      · rw [ih r (by omega) _ q2 (by omega), ih r (by omega) _ q4 (by omega)]
theorem W1_pair {xs : List GRule} {ls : List Int} (h : lens xs = some ls) {r : Nat} (hx : r < xs.length) (hp : (getR xs r).pair = true) : W1 xs r = W1 xs (getR xs r).left.toNat ++ W1 xs (getR xs r).right.toNat := by
  obtain ⟨q1, q2, q3, q4, q5⟩ := lens_pair h hx hp
  rw [W1, wordR, if_pos hp, wordR_fuel h r _ q2 (by omega), wordR_fuel h r _ q4 (by omega)]
theorem W1_let {xs : List GRule} {r : Nat} (hp : (getR xs r).pair = false) : W1 xs r = (getR xs r).letter.data.toList := by
  rw [W1, wordR, if_neg (by simp [hp])]
theorem lens_isLet {xs : List GRule} {ls : List Int} (h : lens xs = some ls) {r : Nat} (hx : r < xs.length) (hp : (getR xs r).pair = false) : isLet (getR xs r).letter = true := by
  have h1 := (lens_steps h r _ (getR_at hx)).1
  unfold okRule at h1
  rw [if_neg (by simp [hp])] at h1
  simp at h1; exact h1.1.1
theorem isLet_size {s : ByteArray} (h : isLet s = true) : s.size = 1 := by unfold isLet at h; simp at h; exact h.1.1
theorem W1_len {xs : List GRule} {ls : List Int} (h : lens xs = some ls) : ∀ (r : Nat), r < xs.length → ((W1 xs r).length : Int) = ls.getD r 0 := by
  intro r
  induction r using Nat.strongRecOn with
  | _ r ih =>
    intro hx
    cases hp : (getR xs r).pair with
    | false =>
      rw [W1_let hp, lens_letter h hx hp]
      have := isLet_size (lens_isLet h hx hp)
      show (((getR xs r).letter.data.toList.length : Nat) : Int) = 1
      rw [Array.length_toList]
      exact congrArg _ this
    | true =>
      obtain ⟨q1, q2, q3, q4, q5⟩ := lens_pair h hx hp
      rw [W1_pair h hx hp, List.length_append, q5, ← ih _ q2 (by omega), ← ih _ q4 (by omega)]
      omega
theorem cutL_append {α : Type} (a b : List α) (i j : Int) : cutL (a ++ b) i j = cutL a i j ++ cutL b (i - a.length) (j - a.length) := by
  unfold cutL
  rw [List.take_append, List.drop_append]
  have e1 : (j - (a.length : Int)).toNat = j.toNat - a.length := by omega
  have e2 : (i - (a.length : Int)).toNat = i.toNat - a.length := by omega
  rw [e1, e2, List.length_take]
  congr 1
  by_cases hj : j.toNat ≤ a.length
  · have : List.take (j.toNat - a.length) b = [] := by rw [show j.toNat - a.length = 0 by omega]; rfl
    rw [this]; simp
  · rw [show min j.toNat a.length = a.length by omega]
theorem cutL_nil {α : Type} {l : List α} {i j : Int} (h : (l.length : Int) ≤ i ∨ j ≤ 0 ∨ j ≤ i) : cutL l i j = [] := by
  unfold cutL
  apply List.drop_eq_nil_of_le
  rw [List.length_take]; omega
theorem cutL_all {α : Type} {l : List α} {i j : Int} (hi : i ≤ 0) (hj : (l.length : Int) ≤ j) : cutL l i j = l := by
  unfold cutL
  rw [show i.toNat = 0 by omega, List.drop_zero, List.take_of_length_le (by omega)]
theorem cover_word {xs : List GRule} {ls : List Int} (h : lens xs = some ls) {i j : Int} : ∀ (f r : Nat) (p : Int), r < f → r < xs.length →
    (coverR xs ls i j f r p).flatMap (W1 xs) = cutL (W1 xs r) (i - p) (j - p) := by
  intro f
  induction f with
  | zero => intro r p hr; omega
  | succ f ih =>
    intro r p hr hx
    have hw := W1_len h r hx
    have h1 := lens_pos' h hx
    rw [coverR]
    split
    · rename_i c; rw [cutL_nil (by omega)]; rfl
    split
    · rename_i c; rw [cutL_all (by omega) (by omega)]; simp
    rename_i c1 c2
    cases hp : (getR xs r).pair with
    | false => have := lens_letter h hx hp; omega
    | true =>
      obtain ⟨q1, q2, q3, q4, q5⟩ := lens_pair h hx hp
      rw [List.flatMap_append, ih _ _ (by omega) (by omega), ih _ _ (by omega) (by omega), W1_pair h hx hp, cutL_append, W1_len h _ (by omega)]
      congr 2 <;> omega
theorem wordG_pos {xs : List GRule} (h : 0 < xs.length) : wordG xs = W1 xs (xs.length - 1) := by
  rw [wordG, if_neg (by intro e; subst e; simp at h)]
theorem lastI_at {xs : List GRule} {ls : List Int} (h : lens xs = some ls) (_h0 : 0 < xs.length) : lastI ls = ls.getD (xs.length - 1) 0 := by
  rw [lastI, lens_length h]
theorem wordG_len {xs : List GRule} {ls : List Int} (h : lens xs = some ls) : ((wordG xs).length : Int) = lastI ls := by
  by_cases h0 : 0 < xs.length
  · rw [wordG_pos h0, W1_len h _ (by omega), lastI_at h h0]
  · have hx : xs = [] := List.eq_nil_of_length_eq_zero (by omega)
    subst hx
    have : ls = [] := List.eq_nil_of_length_eq_zero (by rw [lens_length h]; rfl)
    subst this; rfl
theorem pieces_word {xs : List GRule} {ls : List Int} (h : lens xs = some ls) {i j : Int} : (piecesL xs ls i j).flatMap (W1 xs) = cutL (wordG xs) i j := by
  unfold piecesL
  split
  · rename_i c
    rw [cover_word h _ _ _ (by omega) (by omega), wordG_pos c.1, Int.sub_zero, Int.sub_zero]
  · rename_i c
    by_cases h0 : 0 < xs.length
    · rw [cutL_nil (by omega)]; rfl
    · have hx : xs = [] := List.eq_nil_of_length_eq_zero (by omega)
      subst hx
      simp [wordG, cutL]
theorem W1_ok {xs : List GRule} {ls : List Int} (h : lens xs = some ls) : ∀ (r : Nat), r < xs.length → (W1 xs r).all letOk = true := by
  intro r
  induction r using Nat.strongRecOn with
  | _ r ih =>
    intro hx
    cases hp : (getR xs r).pair with
    | false =>
      have hl := lens_isLet h hx hp
      rw [W1_let hp]
      have := wordOk_one (isLet_size hl)
      rw [hl] at this
      unfold wordOk at this
      simp only [Bool.and_eq_true] at this
      exact this.2
    | true =>
      obtain ⟨q1, q2, q3, q4, q5⟩ := lens_pair h hx hp
      rw [W1_pair h hx hp, List.all_append, ih _ q2 (by omega), ih _ q4 (by omega)]; rfl
def selW (c : UInt8) : Nat → List UInt8 → Nat
  | _, [] => 0
  | k, x :: W => if x = c then (if k = 0 then 0 else selW c (k - 1) W + 1) else selW c k W + 1
def cntW (c : UInt8) : List UInt8 → Nat
  | [] => 0
  | x :: W => (if x = c then 1 else 0) + cntW c W
theorem cntW_app (c : UInt8) (A B : List UInt8) : cntW c (A ++ B) = cntW c A + cntW c B := by
  induction A with
  | nil => simp [cntW]
  | cons x A ih => simp only [List.cons_append, cntW, ih]; omega
theorem cntW_rev (c : UInt8) (A : List UInt8) : cntW c A.reverse = cntW c A := by
  induction A with
  | nil => rfl
  | cons x A ih => rw [List.reverse_cons, cntW_app, ih]; simp only [cntW]; omega
theorem cntW_le (c : UInt8) (A : List UInt8) : cntW c A ≤ A.length := by
  induction A with
  | nil => simp [cntW]
  | cons x A ih => simp only [cntW, List.length_cons]; split <;> omega
theorem selW_app (c : UInt8) (B : List UInt8) : ∀ (A : List UInt8) (k : Nat), (k < cntW c A → selW c k (A ++ B) = selW c k A) ∧ (cntW c A ≤ k → selW c k (A ++ B) = A.length + selW c (k - cntW c A) B) := by
  intro A
  induction A with
  | nil => intro k; refine ⟨fun h => absurd h (by simp [cntW]), fun _ => by simp [cntW]⟩
  | cons x A ih =>
    intro k
    by_cases e : x = c
    · refine ⟨fun h => ?_, fun h => ?_⟩
      · simp only [List.cons_append, selW, if_pos e]
        by_cases k0 : k = 0
        · simp [k0]
        · rw [if_neg k0, if_neg k0, (ih (k - 1)).1 (by simp only [cntW, if_pos e] at h; omega)]
      · simp only [cntW, if_pos e] at h ⊢
        simp only [List.cons_append, selW, if_pos e, List.length_cons]
        rw [if_neg (by omega), (ih (k - 1)).2 (by omega), show k - 1 - cntW c A = k - (1 + cntW c A) by omega]; omega
    · refine ⟨fun h => ?_, fun h => ?_⟩
      · simp only [List.cons_append, selW, if_neg e]
        rw [(ih k).1 (by simp only [cntW, if_neg e] at h; omega)]
      · simp only [cntW, if_neg e] at h ⊢
        simp only [List.cons_append, selW, if_neg e, List.length_cons]
        rw [(ih k).2 (by omega), show k - (0 + cntW c A) = k - cntW c A by omega]; omega
theorem selW_part (c : UInt8) : ∀ (W : List UInt8) (k : Nat), k < cntW c W → ∃ A B, W = A ++ c :: B ∧ cntW c A = k ∧ selW c k W = A.length := by
  intro W
  induction W with
  | nil => intro k h; exact absurd h (by simp [cntW])
  | cons x W ih =>
    intro k h
    by_cases e : x = c
    · by_cases k0 : k = 0
      · exact ⟨[], W, by rw [e]; rfl, by simp [cntW, k0], by simp [selW, e, k0]⟩
      · obtain ⟨A, B, h1, h2, h3⟩ := ih (k - 1) (by simp only [cntW, if_pos e] at h; omega)
        refine ⟨x :: A, B, by rw [h1]; rfl, ?_, ?_⟩
        · simp only [cntW, if_pos e, h2]; omega
        · simp only [selW, if_pos e, if_neg k0, h3, List.length_cons]
    · obtain ⟨A, B, h1, h2, h3⟩ := ih k (by simp only [cntW, if_neg e] at h; omega)
      refine ⟨x :: A, B, by rw [h1]; rfl, ?_, ?_⟩
      · simp only [cntW, if_neg e, h2]; omega
      · simp only [selW, if_neg e, h3, List.length_cons]
theorem selW_at (c : UInt8) (A B : List UInt8) : selW c (cntW c A) (A ++ c :: B) = A.length := by
  rw [(selW_app c _ A _).2 (Nat.le_refl _), Nat.sub_self]; simp [selW]
theorem selW_lt {c : UInt8} {W : List UInt8} {k : Nat} (h : k < cntW c W) : selW c k W < W.length := by
  obtain ⟨A, B, h1, _, h3⟩ := selW_part c W k h
  rw [h3, h1, List.length_append, List.length_cons]; omega
theorem selW_rev {c : UInt8} {W : List UInt8} {k : Nat} (h : k < cntW c W) : selW c k W.reverse = W.length - 1 - selW c (cntW c W - 1 - k) W := by
  obtain ⟨A, B, h1, h2, h3⟩ := selW_part c W (cntW c W - 1 - k) (by omega)
  have e : cntW c B = k := by rw [h1, cntW_app] at h2 h; simp only [cntW, if_true] at h h2; omega
  rw [h3]
  have e2 : W.reverse = B.reverse ++ c :: A.reverse := by rw [h1]; simp
  have e3 := selW_at c B.reverse A.reverse
  rw [cntW_rev, e, List.length_reverse] at e3
  rw [e2, e3, h1, List.length_append, List.length_cons]; omega
def embF (W : List UInt8) : List UInt8 → Nat → List Nat
  | [], _ => []
  | c :: p, i => if cntW c (W.take i) < cntW c W then selW c (cntW c (W.take i)) W :: embF W p (selW c (cntW c (W.take i)) W + 1) else []
def embL (W : List UInt8) : List UInt8 → Nat → Option (List Nat)
  | [], _ => some []
  | c :: q, t => if cntW c (W.take t) = 0 then none else (embL W q (selW c (cntW c (W.take t) - 1) W)).map (selW c (cntW c (W.take t) - 1) W :: ·)
theorem embF_le (W : List UInt8) : ∀ (p : List UInt8) (i : Nat), (embF W p i).length ≤ p.length := by
  intro p
  induction p with
  | nil => intro i; simp [embF]
  | cons c p ih => intro i; rw [embF]; split <;> simp [ih]
theorem cnt_take_rev (c : UInt8) (W : List UInt8) (t : Nat) (h : t ≤ W.length) : cntW c (W.reverse.take (W.length - t)) = cntW c W - cntW c (W.take t) := by
  have e := cntW_app c (W.take t) (W.drop t)
  rw [List.take_append_drop] at e
  have e2 : W.reverse.take (W.length - t) = (W.drop t).reverse := by
    have := List.take_reverse (xs := W) (i := W.length - t)
    rw [this, show W.length - (W.length - t) = t by omega]
  rw [e2, cntW_rev]; omega
theorem emb_last (W : List UInt8) : ∀ (q : List UInt8) (t : Nat), t ≤ W.length →
    embL W q t = if (embF W.reverse q (W.length - t)).length < q.length then none else some ((embF W.reverse q (W.length - t)).map (fun a => W.length - 1 - a)) := by
  intro q
  induction q with
  | nil => intro t _; simp [embL, embF]
  | cons c q ih =>
    intro t ht
    have e1 := cnt_take_rev c W t ht
    have e2 := cntW_app c (W.take t) (W.drop t)
    rw [List.take_append_drop] at e2
    have hr := cntW_rev c W
    rw [embL, embF, e1, hr]
    by_cases hk : cntW c (W.take t) = 0
    · rw [if_pos hk, hk, if_neg (show ¬ (cntW c W - 0 < cntW c W) by omega), if_pos (by simp)]
    · have hlt : cntW c W - cntW c (W.take t) < cntW c W := by omega
      rw [if_neg hk, if_pos hlt]
      have hs := selW_rev hlt
      rw [show cntW c W - 1 - (cntW c W - cntW c (W.take t)) = cntW c (W.take t) - 1 by omega] at hs
      have hb : selW c (cntW c (W.take t) - 1) W < W.length := selW_lt (by omega)
      rw [hs, show W.length - 1 - selW c (cntW c (W.take t) - 1) W + 1 = W.length - selW c (cntW c (W.take t) - 1) W by omega, ih _ (by omega)]
      simp only [List.length_cons]
      by_cases hx : (embF W.reverse q (W.length - selW c (cntW c (W.take t) - 1) W)).length < q.length
      · rw [if_pos hx, if_pos (by omega)]; rfl
      · rw [if_neg hx, if_neg (by omega)]
        simp only [Option.map_some, List.map_cons]
        rw [show W.length - 1 - (W.length - 1 - selW c (cntW c (W.take t) - 1) W) = selW c (cntW c (W.take t) - 1) W by omega]
theorem emb_last0 (W q : List UInt8) : embL W q W.length = if (embF W.reverse q 0).length < q.length then none else some ((embF W.reverse q 0).map (fun a => W.length - 1 - a)) := by
  have := emb_last W q W.length (Nat.le_refl _)
  rw [Nat.sub_self] at this; exact this
theorem cnt_pieces {c : UInt8} {xs : List GRule} {ls : List Int} (h : lens xs = some ls) {i j : Int} : ((piecesL xs ls i j).map (fun r => cntW c (W1 xs r))).sum = cntW c (cutL (wordG xs) i j) := by
  rw [← pieces_word h]
  generalize piecesL xs ls i j = L
  induction L with
  | nil => rfl
  | cons r L ih => rw [List.map_cons, List.sum_cons, List.flatMap_cons, cntW_app, ih]
def ltr (l : Nat) : UInt8 := UInt8.ofNat (97 + l)
def cntR (xs : List GRule) (r : Nat) : List Int := [(cntW (ltr 0) (W1 xs r) : Int), (cntW (ltr 1) (W1 xs r) : Int), (cntW (ltr 2) (W1 xs r) : Int), (cntW (ltr 3) (W1 xs r) : Int)]
def cntsL (xs : List GRule) (k : Nat) : List (List Int) := (List.range k).map (cntR xs)
theorem ltr_nat {l : Nat} (h : l < 4) : (ltr l).toNat = 97 + l := by
  unfold ltr; simp; omega
theorem ltr_of {c : UInt8} (h1 : 97 ≤ c.toNat) (h2 : c.toNat ≤ 100) : ltr (c.toNat - 97) = c := by
  unfold ltr
  rw [show 97 + (c.toNat - 97) = c.toNat by omega]; simp
theorem cntsL_len (xs : List GRule) (k : Nat) : (cntsL xs k).length = k := by simp [cntsL]
theorem cntsL_succ (xs : List GRule) (k : Nat) : cntsL xs (k + 1) = cntsL xs k ++ [cntR xs k] := by simp [cntsL, List.range_succ]
theorem cntsL_get (xs : List GRule) {k r : Nat} (h : r < k) : (cntsL xs k).getD r [] = cntR xs r := by
  unfold cntsL
  rw [List.getD_eq_getElem?_getD, List.getElem?_map, List.getElem?_range h]; rfl
theorem cntsL_at (xs : List GRule) {k r : Nat} (h : r < k) : (cntsL xs k)[r]? = some (cntR xs r) := by
  unfold cntsL
  rw [List.getElem?_map, List.getElem?_range h]; rfl
theorem cntR_len (xs : List GRule) (r : Nat) : (cntR xs r).length = 4 := rfl
theorem cntR_get (xs : List GRule) (r : Nat) {l : Nat} (h : l < 4) : (cntR xs r).getD l 0 = (cntW (ltr l) (W1 xs r) : Int) := by
  match l, h with
  | 0, _ => rfl
  | 1, _ => rfl
  | 2, _ => rfl
  | 3, _ => rfl
theorem cnt_pair {xs : List GRule} {ls : List Int} (h : lens xs = some ls) {r : Nat} (hx : r < xs.length) (hp : (getR xs r).pair = true) (c : UInt8) :
    cntW c (W1 xs r) = cntW c (W1 xs (getR xs r).left.toNat) + cntW c (W1 xs (getR xs r).right.toNat) := by rw [W1_pair h hx hp, cntW_app]
theorem let_one {xs : List GRule} {ls : List Int} (h : lens xs = some ls) {r : Nat} (hx : r < xs.length) (hp : (getR xs r).pair = false) : ∃ l, l < 4 ∧ (getR xs r).letter = ⟨#[ltr l]⟩ ∧ W1 xs r = [ltr l] := by
  have hL := lens_isLet h hx hp
  have h1 := isLet_size hL
  have hw := W1_let hp
  have h2 := hL
  unfold isLet at h2
  simp at h2
  generalize (getR xs r).letter = s at *
  obtain ⟨⟨L⟩⟩ := s
  have hl : L.length = 1 := h1
  obtain ⟨c, rfl⟩ := List.length_eq_one_iff.1 hl
  simp at h2
  refine ⟨c.toNat - 97, by omega, ?_, ?_⟩
  · rw [ltr_of (by omega) (by omega)]
  · rw [ltr_of (by omega) (by omega)]; exact hw
theorem cnt_let {l m : Nat} (hl : l < 4) (hm : m < 4) : cntW (ltr m) [ltr l] = if l = m then 1 else 0 := by
  simp only [cntW]
  by_cases e : l = m
  · subst e; simp
  · rw [if_neg e, if_neg]
    intro h
    have := congrArg UInt8.toNat h
    rw [ltr_nat hl, ltr_nat hm] at this; omega
theorem cnt_le {xs : List GRule} {ls : List Int} (h : lens xs = some ls) {r : Nat} (hx : r < xs.length) (c : UInt8) : (cntW c (W1 xs r) : Int) ≤ 1000000000000000 := by
  have h1 := cntW_le c (W1 xs r)
  have h2 := W1_len h r hx
  have h3 := lens_pos' h hx
  omega
theorem convB (L : List UInt8) (b p n c : Nat) (W : World) (hn : n = L.length) (h : ∀ t (ht : t < L.length), W.cell? ⟨b, p + t, none⟩ = some (.int .u8 (L[t].toNat : Int))) :
    (convert 41 9 (.slice (some ⟨b, p, none⟩) n c)).run Try.prog W = .ok (.string ⟨L.toArray⟩) W := by
  subst hn
  exact run_convert_bytes_back (P := Try.prog) W 41 9 5 ⟨b, p, none⟩ c L Try.underlying41 Try.underlying5 Try.underlying9 (fun j hj => by
    have e : (⟨b, p, none⟩ : Addr).add j = ⟨b, p + j, none⟩ := by unfold Addr.add; split <;> simp_all
    rw [e]; exact h j hj)
structure But (b : Nat) (w w' : World) : Prop where
  os : w'.os = w.os
  tape : w'.tape = w.tape
  output : w'.output = w.output
  size : w.heap.size ≤ w'.heap.size
  block : ∀ k, k < w.heap.size → k ≠ b → w'.heap[k]? = w.heap[k]?
theorem But.refl (b : Nat) (w : World) : But b w w := ⟨rfl, rfl, rfl, Nat.le_refl _, fun _ _ _ => rfl⟩
theorem But.trans {b : Nat} {x y z : World} (h : But b x y) (k : But b y z) : But b x z :=
  ⟨k.os.trans h.os, k.tape.trans h.tape, k.output.trans h.output, Nat.le_trans h.size k.size, fun i hi hne => (k.block i (Nat.lt_of_lt_of_le hi h.size) hne).trans (h.block i hi hne)⟩
theorem But.of {b : Nat} {w w' : World} (h : Below w.heap.size w w') : But b w w' := ⟨h.os, h.tape, h.output, h.size, fun k hk _ => h.block k hk⟩
theorem But.below {b B : Nat} {w w' : World} (h : But b w w') (hB : B ≤ b) (hw : B ≤ w.heap.size) : Below B w w' := ⟨h.os, h.tape, h.output, h.size, fun k hk => h.block k (Nat.lt_of_lt_of_le hk hw) (by omega)⟩
theorem But.cell {b : Nat} {w w' : World} (h : But b w w') {p : Addr} (hp : p.block < w.heap.size) (hne : p.block ≠ b) : w'.cell? p = w.cell? p := by
  simp only [World.cell?, h.block _ hp hne]
theorem But.drew {b : Nat} {w w' : World} (h : But b w w') : But b w w'.drew := ⟨h.os, h.tape, h.output, h.size, h.block⟩
theorem But.drewN {b : Nat} {w w' : World} (h : But b w w') (n : Nat) : But b w (w'.drewN n) := ⟨h.os, h.tape, h.output, h.size, h.block⟩
theorem But.setCell {b o : Nat} {w w' : World} (h : But b w w') (v : Value) : But b w (w'.setCell ⟨b, o, none⟩ v) :=
  ⟨h.os, h.tape, h.output, by simpa [World.setCell] using h.size, fun k hk hne => by
    rw [← h.block k hk hne]
    simp only [World.setCell, Array.getElem?_modify]
    rw [if_neg (fun e => hne e.symm)]⟩
theorem But.alloc {b : Nat} {w w' : World} (h : But b w w') (o : Obj) : But b w (w'.alloc o) :=
  ⟨h.os, h.tape, h.output, Nat.le_trans h.size (by simp), fun k hk hne => (Below.heap_alloc w' o k (Nat.lt_of_lt_of_le hk h.size)).trans (h.block k hk hne)⟩
theorem But.tr {b : Nat} {w w1 w2 : World} (h : But b w w1) (hb : Below w1.heap.size w1 w2) : But b w w2 := h.trans (But.of hb)
def ByteE : Enc UInt8 where
  size := 1
  pos := by decide
  cells := fun _ _ x cs => cs = [.int .u8 (x.toNat : Int)]
  len := by rintro _ _ _ _ rfl; rfl
  keep := fun h _ => h
  more := fun h _ => h
  one := by rintro _ _ _ _ rfl; simp [Value.oneCell']
def Src (w : World) (b N : Nat) : Prop :=
  ∃ (AC : Option Addr) (l : List UInt8) (cC a d : Nat), w.heap[b]? = some (.cells #[.slice AC l.length cC, .int .i64 (a : Int), .int .u64 (d : Int)] 122 (0, 0)) ∧ a ≤ N ∧ d < 18446744073709551616 ∧ Sl ByteE w b (.slice AC l.length cC) l
theorem Src.lt {w : World} {b N : Nat} (h : Src w b N) : b < w.heap.size := by
  obtain ⟨AC, l, cC, a, d, h, _⟩ := h
  exact (Array.getElem?_eq_some_iff.1 h).1
theorem Src.more {w : World} {b N M : Nat} (h : Src w b N) (hM : N ≤ M) : Src w b M := by
  obtain ⟨AC, l, cC, a, d, h, h1, h2⟩ := h
  exact ⟨AC, l, cC, a, d, h, Nat.le_trans h1 hM, h2⟩
theorem Src.keep {w w' : World} {b N : Nat} (h : Src w b N) (hb : Below w.heap.size w w') : Src w' b N := by
  have hlt := h.lt
  obtain ⟨AC, l, cC, a, d, h, h1, h2, h3⟩ := h
  exact ⟨AC, l, cC, a, d, (hb.block b hlt).trans h, h1, h2, h3.below (hb.mono (Nat.le_of_lt hlt))⟩
theorem u64_nat (n : Int) : ∃ d : Nat, IntKind.u64.wrap n = (d : Int) ∧ d < 18446744073709551616 := by
  rw [IntKind.wrap_u64]
  refine ⟨(n % 18446744073709551616).toNat, ?_, ?_⟩ <;> omega
theorem Src.stored {w w' : World} {b N a d : Nat} {AC : Option Addr} {l : List UInt8} {cC : Nat} {a' d' : Nat} (hbk : w.heap[b]? = some (.cells #[.slice AC l.length cC, .int .i64 (a : Int), .int .u64 (d : Int)] 122 (0, 0))) (hl : Sl ByteE w b (.slice AC l.length cC) l) (ha : a' ≤ N) (hd : d' < 18446744073709551616)
    (hw : ∃ n m, w' = (((w.drewN n).setCell ⟨b, 1, none⟩ (.int .i64 (a' : Int))).setCell ⟨b, 2, none⟩ (.int .u64 (d' : Int))).drewN m) : Src w' b N ∧ But b w w' := by
  obtain ⟨n, m, rfl⟩ := hw
  have hB : But b w ((((w.drewN n).setCell ⟨b, 1, none⟩ (.int .i64 (a' : Int))).setCell ⟨b, 2, none⟩ (.int .u64 (d' : Int))).drewN m) := ((((But.refl b w).drewN n).setCell _).setCell _).drewN m
  refine ⟨⟨AC, l, cC, a', d', ?_, ha, hd, hl.keep fun k hk => hB.block k (Nat.lt_trans hk (Array.getElem?_eq_some_iff.1 hbk).1) (Nat.ne_of_lt hk)⟩, hB⟩
  simp [World.setCell, World.drewN, Array.getElem?_modify, hbk]
theorem and255 (d : Nat) (hd : d < 18446744073709551616) : ∃ x : Nat, bits .and .u64 ((d : Int) / 1099511627776) 255 = (x : Int) ∧ x ≤ 255 := by
  refine ⟨(d / 1099511627776) &&& 255, ?_, Nat.and_le_right⟩
  have e : (d : Int) / 1099511627776 = ((d / 1099511627776 : Nat) : Int) := by rw [Int.natCast_ediv]; rfl
  rw [e]
  exact bits_and_u64_nat _ 255 (by omega) (by decide)
theorem from_any (v : Value) (l : List UInt8) (w : World) (h : Sl ByteE w w.heap.size v l) :
    Calls Try.prog 56 #[v] w fun r w' => ∃ b, r = .returned (.pointer (some ⟨b, 0, none⟩)) ∧ b = w.heap.size ∧ Src w' b 0 ∧ Below w.heap.size w w' := by
  have HS := Lib.hid h
  obtain ⟨A, c, rfl, hc1, hc2, _⟩ := h
  go_enter Try.func56, Try.ntmps56
  go_wp2
  go_ret
  have hb : Below w.heap.size w (w.alloc (.cells #[.slice A l.length c, .int .i64 0, .int .u64 0] 122)) := (Below.refl _ w).alloc (Nat.le_refl _) _
  exact ⟨_, rfl, rfl, ⟨A, l, c, 0, 0, heap_alloc_new w _, Nat.le_refl _, by decide, HS.out.below hb⟩, hb⟩
set_option maxRecDepth 100000 in
set_option maxHeartbeats 1000000 in
theorem next_any (b N : Nat) (w : World) (h : Src w b N) (hN : N ≤ 1000000) :
    Calls Try.prog 85 #[.pointer (some ⟨b, 0, none⟩)] w fun r w' => ∃ x : Nat, r = .returned (.int .i64 (x : Int)) ∧ x ≤ 255 ∧ Src w' b (N + 1) ∧ But b w w' := by
  obtain ⟨AC, l, cC, a, d, hbk, ha, hd, hl⟩ := h
  have c0 : w.cell? ⟨b, 0, none⟩ = some (.slice AC l.length cC) := by rw [Lib.cell_of_heap hbk]; rfl
  have c1 : w.cell? ⟨b, 1, none⟩ = some (.int .i64 (a : Int)) := by rw [Lib.cell_of_heap hbk]; rfl
  have c2 : w.cell? ⟨b, 2, none⟩ = some (.int .u64 (d : Int)) := by rw [Lib.cell_of_heap hbk]; rfl
  have f1 : w.frozen? ⟨b, 1, none⟩ = false := Lib.frozen_of_heap hbk 1
  have f2 : w.frozen? ⟨b, 2, none⟩ = false := Lib.frozen_of_heap hbk 2
  have HB := Lib.hid hbk
  have HL := Lib.hid hl
  obtain ⟨_, _, ev, hc1, hc2, hrow⟩ := hl
  clear hbk
  go_enter Try.func85, Try.ntmps85
  go_wp2_with fail
  go_quiet (fail)
  by_cases hlt : a < l.length
  · obtain ⟨bc, oc, rfl, hbc, hcs⟩ := hrow (by omega)
    obtain ⟨cs, hcs1, hcs2⟩ := hcs a l[a] (List.getElem?_eq_getElem hlt)
    have hcs1' : cs = [.int .u8 (l[a].toNat : Int)] := hcs1
    subst hcs1'
    have hcx := hcs2 0 _ rfl
    have e1 : oc + (a * ByteE.size + 0) = oc + a := by show oc + (a * 1 + 0) = oc + a; omega
    rw [e1] at hcx
    have hx := l[a].toNat_lt
    obtain ⟨x, hxe⟩ : ∃ x, l[a].toNat = x := ⟨_, rfl⟩
    rw [hxe] at hcx hx
    clear hcs hcs1 hcs2 hrow e1 hxe
    have hlI : (a : Int) < (l.length : Int) := by omega
    go_wp2_with fail
    go_quiet (fail)
    go_wp2_with fail
    obtain ⟨d2, hd2, hd2b⟩ := u64_nat (IntKind.u64.wrap (IntKind.u64.wrap ((d : Int) * 6364136223846793005) + (x : Int)) + 1442695040888963407)
    rw [hd2]
    have hle : ((a : Int) + 1) ≤ (l.length : Int) := by omega
    go_wp2_with fail
    go_quiet (fail)
    go_wp2_with fail
    go_ret
    refine ⟨x, rfl, by omega, ?_, ?_⟩
    · exact (Src.stored (N := N + 1) (a' := a + 1) HB.out HL.out (by omega) hd2b ⟨_, _, rfl⟩).1
    · exact (Src.stored (N := N + 1) (a' := a + 1) HB.out HL.out (by omega) hd2b ⟨_, _, rfl⟩).2
  · have hlI : ¬ (a : Int) < (l.length : Int) := by omega
    go_wp2_with fail
    obtain ⟨d2, hd2, hd2b⟩ := u64_nat (IntKind.u64.wrap (IntKind.u64.wrap ((d : Int) * 6364136223846793005)) + 1442695040888963407)
    rw [hd2]
    have hle : ¬ ((a : Int) + 1) ≤ (l.length : Int) := by omega
    obtain ⟨x, hx, hx2⟩ := and255 d2 hd2b
    go_wp2_with fail
    go_quiet (fail)
    go_wp2_with fail
    go_ret
    refine ⟨x, rfl, by omega, ?_, ?_⟩
    · exact (Src.stored (N := N + 1) (a' := a + 1) HB.out HL.out (by omega) hd2b ⟨_, _, rfl⟩).1
    · exact (Src.stored (N := N + 1) (a' := a + 1) HB.out HL.out (by omega) hd2b ⟨_, _, rfl⟩).2
def PickPost (b N : Nat) (n : Int) (w : World) (r : Ending) (w' : World) : Prop := ∃ x : Nat, r = .returned (.int .i64 (x : Int)) ∧ (x = 0 ∨ (x : Int) < n) ∧ x ≤ 65535 ∧ Src w' b (N + 2) ∧ But b w w'
set_option maxRecDepth 100000 in
theorem pick_any (b N : Nat) (n : Int) (w : World) (h : Src w b N) (hN : N ≤ 900000) :
    Calls Try.prog 59 #[.pointer (some ⟨b, 0, none⟩), .int .i64 n] w (PickPost b N n w) := by
  have HS := Lib.hid h
  clear h
  go_enter Try.func59, Try.ntmps59
  by_cases h1 : n ≤ 1
  · go_wp2_with fail
    go_ret
    exact ⟨0, rfl, .inl rfl, by omega, HS.out.more (by omega), But.refl b w⟩
  · go_wp2_with fail
    refine (next_any b N w HS.out (by omega)).mono ?_
    rintro r w1 ⟨x, rfl, hx, hs1, hb1⟩
    have H1 := Lib.hid hs1
    have B1 := Lib.hid hb1
    clear hs1 hb1
    obtain ⟨m, rfl⟩ := Int.eq_ofNat_of_zero_le (show 0 ≤ n by omega)
    have hm : ¬ (m : Int) = 0 := by omega
    by_cases h2 : (200 : Int) < m
    · go_wp2_with fail
      refine (next_any b (N + 1) w1 H1.out (by omega)).mono ?_
      rintro r w2 ⟨y, rfl, hy, hs2, hb2⟩
      have H2 := Lib.hid hs2
      have B2 := Lib.hid hb2
      clear hs2 hb2
      go_wp2_with fail
      go_ret
      refine ⟨(x * 256 + y) % m, ?_, .inr ?_, ?_, H2.out.more (by omega), B1.out.trans B2.out⟩
      · rfl
      · have := Nat.mod_lt (x * 256 + y) (show 0 < m by omega)
        omega
      · have := Nat.mod_le (x * 256 + y) m
        omega
    · go_wp2_with fail
      go_ret
      refine ⟨x % m, ?_, .inr ?_, ?_, H1.out.more (by omega), B1.out⟩
      · rfl
      · have := Nat.mod_lt x (show 0 < m by omega)
        omega
      · have := Nat.mod_le x m
        omega
theorem one_any (b N : Nat) (n : Int) (w : World) (h : Src w b N) (hN : N ≤ 900000) :
    Calls Try.prog 62 #[.pointer (some ⟨b, 0, none⟩), .int .i64 n] w fun r w' => ∃ t : Bool, r = .returned (.bool t) ∧ Src w' b (N + 2) ∧ But b w w' := by
  have HS := Lib.hid h
  clear h
  go_enter Try.func62, Try.ntmps62
  go_wp2_with fail
  refine (pick_any b N n w HS.out hN).mono ?_
  rintro r w1 ⟨x, rfl, _, _, hs1, hb1⟩
  have H1 := Lib.hid hs1
  have B1 := Lib.hid hb1
  clear hs1 hb1
  go_wp2_with fail
  go_ret
  exact ⟨_, rfl, H1.out, B1.out⟩
theorem But.keep {b : Nat} {w w' : World} (h : But b w w') : Keep (fun k => k ≠ b ∧ k < w.heap.size) w w' := fun k hk => h.block k hk.2 hk.1
set_option maxRecDepth 100000 in
theorem text_any (b N : Nat) (v : Value) (l : List ByteArray) (w : World) (h : Src w b N) (hN : N ≤ 900000) (hl : SlS StrE w (fun k => k ≠ b ∧ k < w.heap.size) v l) (h0 : 0 < l.length) (hl2 : l.length ≤ 1000) :
    Calls Try.prog 63 #[.pointer (some ⟨b, 0, none⟩), v] w fun r w' => ∃ x ∈ l, r = .returned (.string x) ∧ Src w' b (N + 2) ∧ But b w w' := by
  have HS := Lib.hid h
  have HL := Lib.hid hl
  obtain ⟨A, c, rfl, _, _, _⟩ := hl
  clear h
  go_enter Try.func63, Try.ntmps63
  go_wp2_with fail
  refine (pick_any b N l.length w HS.out hN).mono ?_
  rintro r w1 ⟨x, rfl, hx, _, hs1, hb1⟩
  have H1 := Lib.hid hs1
  have B1 := Lib.hid hb1
  have hlt : x < l.length := by omega
  obtain ⟨_, _, ev, _, _, hrow⟩ := HL.out.keep hb1.keep
  injection ev with ev1 ev2 ev3
  subst ev1
  obtain ⟨bc, oc, rfl, hbc, hcs⟩ := hrow (by omega)
  obtain ⟨cs, hcs1, hcs2⟩ := hcs x l[x] (List.getElem?_eq_getElem hlt)
  have hcs1' : cs = [.string l[x]] := hcs1
  subst hcs1'
  have hcx := hcs2 0 _ rfl
  have e1 : oc + (x * StrE.size + 0) = oc + x := by show oc + (x * 1 + 0) = oc + x; omega
  rw [e1] at hcx
  have hxI : (x : Int) < (l.length : Int) := by omega
  clear hs1 hb1 hcs hcs1 hcs2 hrow e1 hx
  go_wp2_with fail
  go_ret
  exact ⟨l[x], List.getElem_mem hlt, rfl, H1.out, B1.out⟩
def GRes (out : List GRule) (code : Int) (w : World) (e : Ending) (w' : World) : Prop :=
  Below w.heap.size w w' ∧ ∃ v', OwnRules w' w.heap.size v' out ∧ e = .returned (.tuple #[.agg #[v'], .int .i64 code])
theorem step_append_rules {W : World} {ops : Array Oper} {o : Oper} {a : Act} {K : Act → World → Prop} {Q : Exit → Act → World → Prop} {E : Prop} (hgd : o.guard = none) (s x : Operand)
    (ho : o.op = .call { callee := .builtin .append, args := #[s, x], argTypes := #[28, 28] }) {ys : List GRule} {base : Nat} {v sv : Value} {l : List GRule} {S : Nat → Prop}
    (hs : a.eval s = v) (hx : a.eval x = sv) (hown : OwnRules W base v l) (hsl : SlS RuleE W S sv ys) (hlen : l.length + ys.length ≤ 1099511627776) (hbase : base ≤ W.heap.size)
    (h : ∀ v' w', OwnRules w' base v' (l ++ ys) → W.grownBy w' v.ownBlock → Below base W w' → K (a.put o.dst v') w') :
    if Region.wanted o (yielded ops a.tmps) = true then Oper.wp Try.prog o a W K Q else E := by
  have hw : Region.wanted o (yielded ops a.tmps) = true := by simp [Region.wanted, hgd]
  rw [if_pos hw]
  obtain ⟨i0, hi0, hz0, hz1, hz2⟩ := info_parts Try.infoR
  obtain ⟨A, c, rfl, hc, hm, hrow⟩ := hsl
  have H : ∃ v' w', (Builtin.append_ #[28, 28] o.type #[v, .slice A ys.length c]).run Try.prog W = .ok v' w' ∧ OwnRules w' base v' (l ++ ys) ∧ W.grownBy w' v.ownBlock := by
    rcases A with _ | ad
    · have h0 : ys = [] := by
        rcases Nat.eq_zero_or_pos ys.length with h0 | h0
        · exact List.eq_nil_of_length_eq_zero h0
        · obtain ⟨b, o, h, _⟩ := hrow h0; cases h
      subst h0
      exact ⟨v, W, run_append_of_nil W base _ _ 111 i0 3 Try.underlying28 hi0 v _ _ hown c, by simpa using hown, World.grownBy.refl W _⟩
    · obtain ⟨v', w', hrun, h2, h3, _⟩ := run_append_own_at (P := Try.prog) W base 28 o.type 111 i0 _ 3 32 Try.underlying28 hi0 hz0 hz1 hz2 rfl (by decide) v _ _ hown ad ys.length c (ys.flatMap GRule.cells)
        (cells_len ys) (rules_cells hrow) (rules_one ys) (by simp only [maxLen]; omega) (by omega) hbase
      exact ⟨v', w', hrun, by unfold OwnRules; simpa using h2, h3⟩
  obtain ⟨v', w', hrun, h2, h3⟩ := H
  unfold Oper.wp execOp
  simp only [ho, resolve, invoke, builtin, Sem.run_bind, Sem.run_pure, Result.andThen_ok, List.map_toArray, List.map_cons, List.map_nil, hs, hx, hrun]
  exact h v' w' h2 h3 ((Below.refl base W).grown h3 hbase (fun k hk => (World.ownsRow.lt hown k hk).1))
def raiseR (n : Nat) (r : GRule) : GRule := if r.pair then { letter := r.letter, left := r.left + n, right := r.right + n } else r
def SmallP (rs : List GRule) : Prop := ∀ r ∈ rs, r.pair = true → -1099511627776 ≤ r.left ∧ r.left ≤ 1099511627776 ∧ -1099511627776 ≤ r.right ∧ r.right ≤ 1099511627776
def pairR (a b : Int) : GRule := { letter := ⟨#[]⟩, left := a, right := b }
def joinG (xs ys : List GRule) : List GRule :=
  if xs.length = 0 then ys else if ys.length = 0 then xs else xs ++ ys.map (raiseR xs.length) ++ [pairR ((xs.length : Int) - 1) ((xs.length : Int) + ys.length - 1)]
def GOwn (out : List GRule) (w : World) (e : Ending) (w' : World) : Prop :=
  Below w.heap.size w w' ∧ ∃ v', OwnRules w' w.heap.size v' out ∧ e = .returned (.agg #[v'])
def limOut (xs : List GRule) : List GRule := if gramOk xs then xs else []
def limCode (xs : List GRule) : Int := if gramOk xs then 0 else 3
def joinOut (xs ys : List GRule) : List GRule := if gramOk xs && gramOk ys then limOut (joinG xs ys) else []
def joinCode (xs ys : List GRule) : Int := if gramOk xs && gramOk ys then limCode (joinG xs ys) else 1
theorem lens_okRule {xs : List GRule} {ls : List Int} (h : lens xs = some ls) : ∀ (k : Nat) r, xs[k]? = some r → okRule k r = true := by
  intro k r hr
  rcases hk : lens (xs.take k) with _ | out
  · have h2 : lens xs = (xs.drop k).foldl lensStep (lens (xs.take k)) := by unfold lens; rw [← List.foldl_append, List.take_append_drop]
    rw [h2, hk, lens_none] at h; cases h
  · by_cases hok : okRule k r = true
    · exact hok
    · have hlen := lens_length hk
      rw [List.length_take, Nat.min_eq_left (Nat.le_of_lt (List.getElem?_eq_some_iff.1 hr).1)] at hlen
      have hb := lens_bad hk hr (lensStep_none (by rw [hlen]; simpa using hok))
      rw [hb] at h; cases h
theorem gram_lens {xs : List GRule} (h : gramOk xs = true) : xs.length ≤ 400 ∧ ∃ ls, lens xs = some ls := by
  simp only [gramOk, Bool.and_eq_true, decide_eq_true_eq] at h
  exact ⟨h.1, Option.isSome_iff_exists.1 h.2⟩
theorem gram_smallP {xs : List GRule} (h : gramOk xs = true) : SmallP xs := by
  obtain ⟨hl, ls, hls⟩ := gram_lens h
  intro r hr hp
  obtain ⟨k, hk, he⟩ := List.getElem_of_mem hr
  have hok := lens_okRule hls k r (by rw [List.getElem?_eq_getElem hk, he])
  simp [okRule, hp] at hok
  omega
def LimPost (base : Nat) (xs : List GRule) (w : World) (e : Ending) (w' : World) : Prop :=
  Below w.heap.size w w' ∧ ∃ v', OwnRules w' base v' (limOut xs) ∧ e = .returned (.tuple #[.agg #[v'], .int .i64 (limCode xs)])
theorem l02Raised_any (r : GRule) (n : Nat) (w : World) (hn : n ≤ 1099511627776) (hp : r.pair = true → -1099511627776 ≤ r.left ∧ r.left ≤ 1099511627776 ∧ -1099511627776 ≤ r.right ∧ r.right ≤ 1099511627776) :
    Calls Try.prog 113 #[.agg #[.string r.letter, .int .i64 r.left, .int .i64 r.right], .int .i64 n] w fun e w' => e = .returned (.agg #[.string (raiseR n r).letter, .int .i64 (raiseR n r).left, .int .i64 (raiseR n r).right]) ∧ Below w.heap.size w w' := by
  by_cases hpr : r.pair = true
  · obtain ⟨p1, p2, p3, p4⟩ := hp hpr
    have hemp : r.letter.toList.isEmpty = true := by rw [isEmpty_size]; exact hpr
    have e : raiseR n r = { letter := r.letter, left := r.left + n, right := r.right + n } := by rw [raiseR, if_pos hpr]
    rw [e]
    clear hpr e hp
    go_enter Try.func113, Try.ntmps113
    go_wp2
    exact bodyPost_ret (v := .agg #[.string r.letter, .int .i64 (r.left + n), .int .i64 (r.right + n)]) (by simp [results, Try.results113, go_sem]) rfl ⟨rfl, (by repeat (first | exact (Below.refl _ _) | (refine Below.alloc ?_ (by first | omega | (simp; done) | (simp; omega)) _) | refine below_drewN ?_ _ | refine Below.drew ?_))⟩
  · have hemp : r.letter.toList.isEmpty = false := by rw [isEmpty_size]; simpa [GRule.pair] using hpr
    have e : raiseR n r = r := by rw [raiseR, if_neg hpr]
    rw [e]
    clear hpr e hp
    go_enter Try.func113, Try.ntmps113
    go_wp2
    exact bodyPost_ret (v := .agg #[.string r.letter, .int .i64 r.left, .int .i64 r.right]) (by simp [results, Try.results113, go_sem]) rfl ⟨rfl, (by repeat (first | exact (Below.refl _ _) | (refine Below.alloc ?_ (by first | omega | (simp; done) | (simp; omega)) _) | refine below_drewN ?_ _ | refine Below.drew ?_))⟩
theorem l02Told_any (base : Nat) (v : Value) (xs : List GRule) (w : World) (h : OwnRules w base v xs) (hsm : SmallL xs) :
    Calls Try.prog 104 #[.agg #[v]] w (LimPost base xs w) := by
  have h1 := fun o o' => (h.sl.below (((Below.refl w.heap.size w).alloc (Nat.le_refl _) o).alloc (by simp) o')).le (B' := ((w.alloc o).alloc o').heap.size) (by simp; omega)
  have hv : v.ownBlock ≠ some (w.heap.size + 1) := fun e => by have := (World.ownsRow.lt h _ e).2; omega
  have H1 := Lib.hid h1
  have H := Lib.hid h
  have Hv := Lib.hid hv
  clear h1 hv
  obtain ⟨A, c, rfl, _⟩ := own_nil h
  clear h
  go_enter Try.func104, Try.ntmps104
  go_wp2_with fail
  refine (l02Ok_any _ _ _ _ _ (by simp [go_sem]) (by first | omega | (simp; done) | (simp; omega)) (H1.out _ _) hsm).mono ?_
  rintro e w1 ⟨rfl, hb1⟩
  obtain ⟨hc1, hf1⟩ := bcell hb1
  have hz1 : w.heap.size + 1 < w1.heap.size := by have := hb1.size; simp at this; omega
  have hc2 : w1.cell? ⟨w.heap.size + 1, 0, none⟩ = some (.slice none 0 0) := by rw [hc1 _ _ (by simp)]; simp [go_sem]
  have hf2 : w1.frozen? ⟨w.heap.size + 1, 0, none⟩ = false := by rw [hf1 _ _ (by simp)]; simp [go_sem]
  have hc3 : w1.cell? ⟨w.heap.size, 0, none⟩ = some (.slice A xs.length c) := by rw [hc1 _ _ (by simp; omega)]; simp [go_sem]
  have Hb1 := Lib.hid (((Below.refl w.heap.size w).alloc (Nat.le_refl _) (Obj.cells #[Value.slice A xs.length c] 30)).alloc (by simp) (Obj.cells #[Value.slice none 0 0] 30) |>.trans (hb1.mono (by simp; omega)))
  clear hc1 hf1 hb1
  by_cases hok : gramOk xs = true
  · have hok2 : (!gramOk xs) = false := by simp [hok]
    have Hok := Lib.hid hok
    clear hok
    go_wp2
    refine bodyPost_ret (v := .tuple #[.agg #[.slice A xs.length c], .int .i64 0]) (by simp [results, Try.results104, go_sem, hc2]) rfl ⟨?_, _, ?_, by rw [limCode, if_pos Hok.out]⟩
    · exact Hb1.out.setCell (by show w.heap.size ≤ w.heap.size + 1; omega) _
    · rw [limOut, if_pos Hok.out]
      refine own_keep (OwnRules.below H.out Hb1.out) fun g hg => Below.heap_setCell _ _ _ _ (fun e => Hv.out ?_)
      rw [hg, e]
  · have hok2 : (!gramOk xs) = true := by simp [hok]
    have Hok := Lib.hid hok
    clear hok
    go_wp2
    refine bodyPost_ret (v := .tuple #[.agg #[.slice none 0 0], .int .i64 3]) (by simp [results, Try.results104, go_sem, hc2]) rfl ⟨?_, _, ?_, by rw [limCode, if_neg Hok.out]⟩
    · exact Hb1.out.setCell (by show w.heap.size ≤ w.heap.size + 1; omega) _
    · rw [limOut, if_neg Hok.out]; exact World.ownsRow_nil _ _ _ _
theorem step_push_rule {W : World} {ops : Array Oper} {o : Oper} {a : Act} {K : Act → World → Prop} {Q : Exit → Act → World → Prop} {E : Prop} (hgd : o.guard = none) (s x : Operand)
    (ho : o.op = .call { callee := .builtin .append, args := #[s, x], argTypes := #[28, 28] }) {t : ByteArray} {p q : Int} {base : Nat} {v : Value} {l : List GRule}
    (hs : a.eval s = v) {N : Nat} (hx : a.eval x = .slice (some ⟨N, 0, none⟩) 1 1) (hN : N = W.heap.size) (hown : OwnRules W base v l) (hlen : l.length ≤ 1099511627775) (hbase : base ≤ W.heap.size)
    (h : ∀ v' w', OwnRules w' base v' (l ++ [⟨t, p, q⟩]) → (W.alloc (.cells #[.string t, .int .i64 p, .int .i64 q] 111)).grownBy w' v.ownBlock → Below base (W.alloc (.cells #[.string t, .int .i64 p, .int .i64 q] 111)) w' → K (a.put o.dst v') w') :
    if Region.wanted o (yielded ops a.tmps) = true then Oper.wp Try.prog o a (W.alloc (.cells #[.string t, .int .i64 p, .int .i64 q] 111)) K Q else E := by
  subst hN
  refine step_append_rules (ys := [⟨t, p, q⟩]) (S := fun b => b = W.heap.size) hgd s x ho hs hx (hown.alloc _) ⟨_, 1, rfl, Nat.le_refl _, by simp [maxLen], fun _ => ⟨W.heap.size, 0, rfl, rfl, fun k r hk => ⟨r.cells, rfl, fun j u hu => ?_⟩⟩⟩ (by simp; omega) (by simp; omega) h
  have hk0 : k = 0 := by
    have := (List.getElem?_eq_some_iff.1 hk).1
    simp at this; exact this
  subst hk0
  simp at hk
  subst hk
  have hc : (W.alloc (.cells #[.string t, .int .i64 p, .int .i64 q] 111)).cell? ⟨W.heap.size, j, none⟩ = (#[Value.string t, .int .i64 p, .int .i64 q] : Array Value)[j]? := cell_of_row _ _ _ _ 111 (0, 0) (heap_alloc_new W _)
  simp only [Nat.zero_mul, Nat.zero_add]
  rw [hc]
  simpa [GRule.cells] using hu
theorem Boxed.mk' {w : World} {B : Nat} {t : TypeId} {v : Value} (h : w.heap[B]? = some (.cells #[v] t (0, 0))) : Boxed w.drew B t v := h
theorem Boxed.up {w w' : World} {B N : Nat} {t : TypeId} {v : Value} (h : Boxed w B t v) (hb : Below N w w') (hlt : B < N) : Boxed w' B t v := (hb.block B hlt).trans h
theorem Boxed.grown {w w' : World} {B base e s n : Nat} {t : TypeId} {v : Value} {xs : List Value} {o : Obj} (h : Boxed w B t v) (hte : t ≠ e) (own : w.ownsRow base e s v n xs) (hg : (w.alloc o).grownBy w' v.ownBlock) : Boxed w' B t v := (h.alloc o).kept hg (h.not_row hte own)
set_option maxRecDepth 100000 in
set_option maxHeartbeats 4000000 in
theorem l02Join_any (b o b' o' : Nat) (v u : Value) (xs ys : List GRule) (w : World) (hpt : w.cell? ⟨b, o, none⟩ = some v) (hpt' : w.cell? ⟨b', o', none⟩ = some u) (hbl : b < w.heap.size) (hbl' : b' < w.heap.size)
    (h : Sl RuleE w w.heap.size v xs) (h' : Sl RuleE w w.heap.size u ys) (hn : xs.length ≤ 1048576) (hn' : ys.length ≤ 1048576) (hp : SmallP ys) :
    Calls Try.prog 105 #[.pointer (some ⟨b, o, none⟩), .pointer (some ⟨b', o', none⟩)] w (GOwn (joinG xs ys) w) := by
  have h1 := fun o => (h.below ((Below.refl w.heap.size w).alloc (Nat.le_refl _) o)).le (B' := (w.alloc o).heap.size) (by simp)
  have h2 := fun o => (h'.below ((Below.refl w.heap.size w).alloc (Nat.le_refl _) o)).le (B' := (w.alloc o).heap.size) (by simp)
  have H1 := Lib.hid h1
  have H2 := Lib.hid h2
  clear h1 h2
  obtain ⟨A, c, rfl, hc, hm, hrow⟩ := h
  obtain ⟨A', c', rfl, hc', hm', hrow'⟩ := h'
  clear hm hm' hrow
  by_cases h0 : xs.length = 0
  · have hj : joinG xs ys = ys := by rw [joinG, if_pos h0]
    have Hj := Lib.hid hj
    have hb0 : ((xs.length : Int) == 0) = true := by simp [h0]
    have H0 := Lib.hid h0
    clear hj h0
    go_enter Try.func105, Try.ntmps105
    go_wp2_with fail
    refine (l02Own_any _ _ _ _ _ (by simpa [go_sem, hbl'] using hpt') (by first | omega | (simp; done) | (simp; omega)) (H2.out _) (by omega)).mono ?_
    rintro e w1 ⟨v1, rfl, own1, hb1⟩
    obtain ⟨A1, c1, rfl, _⟩ := own_nil own1
    obtain ⟨hc1, hf1⟩ := bcell hb1
    have hz1 : w.heap.size + 1 ≤ w1.heap.size := by have := hb1.size; simp at this; omega
    have Hown := Lib.hid own1
    have Hb1 := Lib.hid hb1
    clear own1 hb1
    go_wp2
    refine bodyPost_ret (v := .agg #[.slice A1 ys.length c1]) (by simp [results, Try.results105, go_sem, hc1]) rfl ⟨?_, _, ?_, rfl⟩
    · exact (((Below.refl _ _).alloc (Nat.le_refl _) _).trans (Hb1.out.mono (by simp))).setCell (by show w.heap.size ≤ w.heap.size; omega) _
    · rw [Hj.out]
      have h4 : w1.ownsRow (w.heap.size + 1) 111 3 (.slice A1 ys.length c1) ys.length (ys.flatMap GRule.cells) := ownsRow_more Hown.out (by simp)
      exact ownsRow_more (ownsRow_setCell_below h4 (by show w.heap.size < w.heap.size + 1; omega) _) (by omega)
  · have hb0 : ((xs.length : Int) == 0) = false := by rw [beq_eq_false_iff_ne]; omega
    by_cases h0' : ys.length = 0
    · have hj : joinG xs ys = xs := by rw [joinG, if_neg h0, if_pos h0']
      have Hj := Lib.hid hj
      have hb0' : ((ys.length : Int) == 0) = true := by simp [h0']
      have H0 := Lib.hid h0
      have H0' := Lib.hid h0'
      clear hj h0 h0'
      go_enter Try.func105, Try.ntmps105
      go_wp2_with fail
      refine (l02Own_any _ _ _ _ _ (by simpa [go_sem, hbl] using hpt) (by first | omega | (simp; done) | (simp; omega)) (H1.out _) (by omega)).mono ?_
      rintro e w1 ⟨v1, rfl, own1, hb1⟩
      obtain ⟨A1, c1, rfl, _⟩ := own_nil own1
      obtain ⟨hc1, hf1⟩ := bcell hb1
      have hz1 : w.heap.size + 1 ≤ w1.heap.size := by have := hb1.size; simp at this; omega
      have hpt1 : w1.cell? ⟨b, o, none⟩ = some (.slice A xs.length c) := by rw [hb1.cell (by first | omega | (simp; done) | (simp; omega))]; simpa [go_sem, hbl] using hpt
      have hpt1' : w1.cell? ⟨b', o', none⟩ = some (.slice A' ys.length c') := by rw [hb1.cell (by first | omega | (simp; done) | (simp; omega))]; simpa [go_sem, hbl'] using hpt'
      have hcr1 : w1.cell? ⟨w.heap.size, 0, none⟩ = some (.slice none 0 0) := by rw [hc1 _ _ (by simp)]; simp [go_sem]
      have hfr1 : w1.frozen? ⟨w.heap.size, 0, none⟩ = false := by rw [hf1 _ _ (by simp)]; simp [go_sem]
      have hlb : b < w1.heap.size := by omega
      have hlb' : b' < w1.heap.size := by omega
      have hlr : w.heap.size < w1.heap.size := by omega
      have Hown := Lib.hid own1
      have Hb1 := Lib.hid hb1
      clear own1 hb1 hc1 hf1
      go_wp2
      refine bodyPost_ret (v := .agg #[.slice A1 xs.length c1]) (by simp [results, Try.results105, go_sem, hcr1, hlr]) rfl ⟨?_, _, ?_, rfl⟩
      · refine Below.alloc (Below.setCell (((Below.refl _ _).alloc (Nat.le_refl _) _).trans (Hb1.out.mono (by simp))) ?_ _) ?_ _
        · exact Nat.le_refl _
        · simp; omega
      · rw [Hj.out]
        have h4 : w1.ownsRow (w.heap.size + 1) 111 3 (.slice A1 xs.length c1) xs.length (xs.flatMap GRule.cells) := ownsRow_more Hown.out (by simp)
        exact ownsRow_more (World.ownsRow.alloc (ownsRow_setCell_below (a := ⟨w.heap.size, 0, none⟩) h4 (by show w.heap.size < w.heap.size + 1; omega) _) _) (by omega)
    · have hb0' : ((ys.length : Int) == 0) = false := by rw [beq_eq_false_iff_ne]; omega
      have hj : joinG xs ys = xs ++ ys.map (raiseR xs.length) ++ [pairR ((xs.length : Int) - 1) ((xs.length : Int) + ys.length - 1)] := by rw [joinG, if_neg h0, if_neg h0']
      have Hj := Lib.hid hj
      have hx1 : 1 ≤ xs.length := by omega
      have hy1 : 1 ≤ ys.length := by omega
      have Hp := Lib.hid hp
      clear hj h0 h0' hp
      go_enter Try.func105, Try.ntmps105
      go_wp2_with fail
      refine (l02Own_any _ _ _ _ _ (by simpa [go_sem, hbl] using hpt) (by first | omega | (simp; done) | (simp; omega)) (H1.out _) (by omega)).mono ?_
      rintro e w1 ⟨v1, rfl, own1, hb1⟩
      have z1 : w.heap.size + 1 ≤ w1.heap.size := by have := hb1.size; simp at this; omega
      have Hb1 : Hid (Below (w.heap.size + 1) (w.alloc (Obj.cells #[Value.slice none 0 0] 30)) w1) := hb1.mono (by simp)
      have hpt1 : w1.cell? ⟨b, o, none⟩ = some (.slice A xs.length c) := by rw [hb1.cell (by first | omega | (simp; done) | (simp; omega))]; simpa [go_sem, hbl] using hpt
      have hpt1' : w1.cell? ⟨b', o', none⟩ = some (.slice A' ys.length c') := by rw [hb1.cell (by first | omega | (simp; done) | (simp; omega))]; simpa [go_sem, hbl'] using hpt'
      have own1' : OwnRules w1 (w.heap.size + 1) v1 xs := ownsRow_more own1 (by simp)
      obtain ⟨A1, c1, rfl, _⟩ := own_nil own1'
      have Hown1 := Lib.hid own1'
      have hlb : b < w1.heap.size := by omega
      have hlb' : b' < w1.heap.size := by omega
      have Hrow := Lib.hid hrow'
      clear own1 own1' hb1 hrow'
      go_wp2_with fail
      go_loopw [7] (fun i wr => ∃ (k : Nat) (vo : Value), k ≤ ys.length ∧ i = .int .i64 k ∧ Below (w.heap.size + 1) (w.alloc (Obj.cells #[Value.slice none 0 0] 30)) wr ∧ wr.heap[w1.heap.size]? = some (Obj.cells #[vo] 30 (0, 0)) ∧ OwnRules wr (w.heap.size + 1) vo (xs ++ (ys.take k).map (raiseR xs.length))) (fun i _ => ys.length - (intOf i).toNat)
      case atStart => exact ⟨0, _, Nat.zero_le _, rfl, Hb1.out.alloc (by omega) _, alloc_heap_last _ _, by have := Hown1.out.alloc (Obj.cells #[Value.slice A1 xs.length c1] 30); simpa using this⟩
      case round =>
        obtain ⟨k, vo, hk, rfl, hb, hbox, hown⟩ := hrel
        have hcb : wr.cell? ⟨w1.heap.size, 0, none⟩ = some vo := by simp [World.cell?, hbox]
        have hfb : wr.frozen? ⟨w1.heap.size, 0, none⟩ = false := by simp [World.frozen?, hbox]
        have hszr : w1.heap.size < wr.heap.size := (Array.getElem?_eq_some_iff.1 hbox).1
        have hptr : wr.cell? ⟨b, o, none⟩ = some (.slice A xs.length c) := by rw [hb.cell (p := ⟨b, o, none⟩) (by show b < w.heap.size + 1; omega)]; simpa [go_sem, hbl] using hpt
        have hptr' : wr.cell? ⟨b', o', none⟩ = some (.slice A' ys.length c') := by rw [hb.cell (p := ⟨b', o', none⟩) (by show b' < w.heap.size + 1; omega)]; simpa [go_sem, hbl'] using hpt'
        have Hbox := Lib.hid hbox
        have Hown := Lib.hid hown
        have Hb := Lib.hid hb
        by_cases hlt : k < ys.length
        · obtain ⟨b2, o2, rfl, hbl2, hcell⟩ := Hrow.out.rule hlt
          obtain ⟨r, hr⟩ : ∃ x, ys[k]? = some x := ⟨_, List.getElem?_eq_getElem hlt⟩
          obtain ⟨g0, g1, g2⟩ := hcell k r hr
          have hbw : Below w.heap.size w wr := ((Below.refl _ _).alloc (Nat.le_refl _) _).trans (hb.mono (by omega))
          have hc0 := (hbw.cell (p := ⟨b2, o2 + k * 3, none⟩) hbl2).trans g0
          have hc1 := (hbw.cell (p := ⟨b2, o2 + k * 3 + 1, none⟩) hbl2).trans g1
          have hc2 := (hbw.cell (p := ⟨b2, o2 + k * 3 + 2, none⟩) hbl2).trans g2
          have hi : (k : Int) < (ys.length : Int) := by omega
          have hpr := Hp.out r (List.mem_of_getElem? hr)
          have Hpr := Lib.hid hpr
          have Hr := Lib.hid hr
          have hb2l : b2 < wr.heap.size := by omega
          have hbl3 : b' < wr.heap.size := by omega
          have hbl4 : b < wr.heap.size := by omega
          obtain ⟨L, hL⟩ : ∃ L, L = xs ++ (ys.take k).map (raiseR xs.length) := ⟨_, rfl⟩
          rw [← hL] at hown
          have hlk : L.length = xs.length + k := by rw [hL]; simp; omega
          have Hll : Hid (L.length ≤ 1099511627775) := by rw [Hid]; omega
          have Hnx : Hid (xs ++ (ys.take (k + 1)).map (raiseR xs.length) = L ++ [raiseR xs.length r]) := by rw [Hid, List.take_add_one, hr, List.map_append, ← List.append_assoc, ← hL]; rfl
          have Hown := Lib.hid hown
          clear hbox hown hb hcell g0 g1 g2 hbw hr hpr hpt hpt' hpt1 hpt1' hL hlk
          go_wp2_with fail
          go_region_law (first
            | (refine step_push_rule (base := w.heap.size + 1) (by rfl) _ _ (by rfl) (by rfl) (by first | rfl | simp) rfl (OwnRules.below Hown.out.drew hb2) Hll.out (by omega) ?_; intro v3 w3 own3 hg3 hb3; have bx3 : Boxed w3 w1.heap.size 30 vo := Boxed.grown (Boxed.up (Boxed.mk' Hbox.out) hb2 hszr) (by decide) (OwnRules.below Hown.out.drew hb2) hg3; obtain ⟨A3, c3, rfl, _⟩ := own_nil own3; have hcb3 := bx3.cell; have hfb3 := bx3.frozen)
            | (go_simp; go_at_call 113; refine (l02Raised_any r xs.length _ (by omega) Hpr.out).mono ?_; rintro e w2 ⟨rfl, hb2⟩; obtain ⟨hcc2, hff2⟩ := bcell hb2; have bx2 := Boxed.up (Boxed.mk' Hbox.out) hb2 hszr; have hcb2 := bx2.cell; have hfb2 := bx2.frozen; have hlb2 := bx2.lt; have hlb3 : b < w2.heap.size := (by omega); have hlb3' : b' < w2.heap.size := (by omega); have hlb4 : b2 < w2.heap.size := (by omega)))
          all_goals
            clear hcc2 hff2 hcb2 hfb2
            go_wp2
            go_roundw
            case rel =>
              refine ⟨k + 1, _, by omega, by go_num, ?_, Boxed.set _ bx3, ?_⟩
              · exact (((Below.drew Hb.out).trans (hb2.mono (by show w.heap.size + 1 ≤ wr.heap.size; omega))).alloc (by omega) _ |>.trans hb3).setCell (by show w.heap.size + 1 ≤ w1.heap.size; omega) _
              · have e9 : (L ++ [raiseR xs.length r]).length = L.length + 1 := by simp
                have own9 : OwnRules w3 (w.heap.size + 1) (.slice A3 (L.length + 1) c3) (L ++ [raiseR xs.length r]) := by rw [← e9]; exact own3
                rw [Hnx.out]; exact ownsRow_setCell_other (a := ⟨w1.heap.size, 0, none⟩) own9 (bx3.not_row (by decide) own9).symm _
            case measure => simp [intOf]; omega
        · have hkn : k = ys.length := by omega
          subst hkn
          rw [List.take_length] at hown
          obtain ⟨L, hL⟩ : ∃ L, L = xs ++ ys.map (raiseR xs.length) := ⟨_, rfl⟩
          rw [← hL] at hown
          have hlk : L.length = xs.length + ys.length := by rw [hL]; simp
          have Hll : Hid (L.length ≤ 1099511627775) := by rw [Hid]; omega
          have HL := Lib.hid hL
          have Hown := Lib.hid hown
          have hw1 : IntKind.i64.wrap ((xs.length : Int) - 1) = (xs.length : Int) - 1 := IntWalk.i64_in _ (by omega)
          have hw2 : IntKind.i64.wrap ((xs.length : Int) + ys.length) = (xs.length : Int) + ys.length := IntWalk.i64_in _ (by omega)
          have hw3 : IntKind.i64.wrap ((xs.length : Int) + ys.length - 1) = (xs.length : Int) + ys.length - 1 := IntWalk.i64_in _ (by omega)
          clear hbox hown hb hpt hpt' hpt1 hpt1' hL
          go_wp2_with fail
          go_region_law (first
            | (refine step_push_rule (base := w.heap.size + 1) (by rfl) _ _ (by rfl) (by rfl) (by first | rfl | simp) rfl Hown.out.drew Hll.out (by show w.heap.size + 1 ≤ wr.heap.size; omega) ?_; intro v3 w3 own3 hg3 hb3; have bx3 : Boxed w3 w1.heap.size 30 vo := Boxed.grown (Boxed.mk' Hbox.out) (by decide) Hown.out.drew hg3; obtain ⟨A3, c3, rfl, _⟩ := own_nil own3; have hcb3 := bx3.cell; have hfb3 := bx3.frozen; have hl3 := bx3.lt))
          all_goals
            try rw [hw2] at own3
            try rw [hw1, hw3] at own3
            have hb9 := (((Below.drew Hb.out)).alloc (by show w.heap.size + 1 ≤ wr.heap.size; omega) _).trans hb3
            obtain ⟨hc9, hf9⟩ := bcell hb9
            have hcr : w3.cell? ⟨w.heap.size, 0, none⟩ = some (.slice none 0 0) := by rw [hc9 _ _ (by omega)]; simp [go_sem]
            have hfr : w3.frozen? ⟨w.heap.size, 0, none⟩ = false := by rw [hf9 _ _ (by omega)]; simp [go_sem]
            have e9 : (L ++ [pairR ((xs.length : Int) - 1) ((xs.length : Int) + ys.length - 1)]).length = xs.length + ys.length + 1 := by simp [hlk]
            have Own9 : Hid (OwnRules w3 (w.heap.size + 1) (.slice A3 (xs.length + ys.length + 1) c3) (L ++ [pairR ((xs.length : Int) - 1) ((xs.length : Int) + ys.length - 1)])) := by rw [Hid, ← e9]; exact own3
            have Hb9 := Lib.hid hb9
            have Hbx3 := Lib.hid bx3
            have hne : w.heap.size ≠ w1.heap.size := by omega
            have hl9 : w.heap.size < w3.heap.size := by omega
            clear hc9 hf9 hb9 own3 hg3 hb3 bx3 hlk
            go_wp2
            refine bodyPost_ret (v := .agg #[.slice A3 (xs.length + ys.length + 1) c3]) (by simp [results, Try.results105, go_sem, hcr]) rfl ⟨?_, _, ?_, rfl⟩
            · exact ((((Below.refl _ _).alloc (Nat.le_refl _) _).trans (Hb9.out.mono (by omega))).setCell (by show w.heap.size ≤ w1.heap.size; omega) _).setCell (by show w.heap.size ≤ w.heap.size; omega) _
            · rw [Hj.out, ← HL.out]
              unfold OwnRules
              rw [e9]
              have h5 := Own9.out
              unfold OwnRules at h5
              rw [e9] at h5
              have h6 := ownsRow_setCell_other (a := ⟨w1.heap.size, 0, none⟩) h5 (Hbx3.out.not_row (by decide) h5).symm (.slice A3 (xs.length + ys.length + 1) c3)
              have h7 := ownsRow_setCell_below (a := ⟨w.heap.size, 0, none⟩) h6 (by show w.heap.size < w.heap.size + 1; omega) (.slice A3 (xs.length + ys.length + 1) c3)
              exact ownsRow_more h7 (by omega)
theorem list_push_rule {W : World} {ops : Array Oper} {rest : List Oper} {o : Oper} {a : Act} {Q : Exit → Act → World → Prop} (hgd : o.guard = none) (s x : Operand)
    (ho : o.op = .call { callee := .builtin .append, args := #[s, x], argTypes := #[28, 28] }) {t : ByteArray} {p q : Int} {base : Nat} {v : Value} {l : List GRule}
    (hs : a.eval s = v) {N : Nat} (hx : a.eval x = .slice (some ⟨N, 0, none⟩) 1 1) (hN : N = W.heap.size) (hown : OwnRules W base v l) (hlen : l.length ≤ 1099511627775) (hbase : base ≤ W.heap.size)
    (h : ∀ v' w', OwnRules w' base v' (l ++ [⟨t, p, q⟩]) → (W.alloc (.cells #[.string t, .int .i64 p, .int .i64 q] 111)).grownBy w' v.ownBlock → Below base (W.alloc (.cells #[.string t, .int .i64 p, .int .i64 q] 111)) w' → wpList Try.prog ops Q rest (a.put o.dst v') w') :
    wpList Try.prog ops Q (o :: rest) a (W.alloc (.cells #[.string t, .int .i64 p, .int .i64 q] 111)) :=
  wpList_plain hgd fun K hK => by
    have := step_push_rule (E := True) (K := K) (ops := ops) (Q := Q) hgd s x ho hs hx hN hown hlen hbase (fun v' w' h1 h2 h3 => hK _ _ (h v' w' h1 h2 h3))
    rwa [if_pos (by simp [Region.wanted, hgd])] at this
theorem own_put {w5 : World} {K base n c5 : Nat} {A5 : Option Addr} {L M : List GRule} {vo : Value} (bx : Boxed w5 K 30 vo) (own : OwnRules w5 base (.slice A5 L.length c5) L) (hM : L = M) (hn : M.length = n) :
    OwnRules (w5.setCell ⟨K, 0, none⟩ (.slice A5 n c5)) base (.slice A5 n c5) M := by
  subst hM; subst hn; exact ownsRow_setCell_other (a := ⟨K, 0, none⟩) own (bx.not_row (by decide) own).symm _
def gramLen (xs : List GRule) : Int := match lens xs with | some ls => lastI ls | none => 0
theorem gramLen_of {xs : List GRule} {ls : List Int} (h : lens xs = some ls) : gramLen xs = lastI ls := by simp [gramLen, h]
theorem lastI_bounds {xs : List GRule} {ls : List Int} (h : lens xs = some ls) : 0 ≤ lastI ls ∧ lastI ls ≤ 1000000000000000 := by
  have hll := lens_length h
  unfold lastI
  by_cases h0 : xs.length = 0
  · have : ls = [] := List.eq_nil_of_length_eq_zero (by omega)
    subst this; simp
  · have := lens_pos' h (r := ls.length - 1) (by omega)
    omega
set_option maxRecDepth 100000 in
theorem l02Length_any (b o : Nat) (v : Value) (xs : List GRule) (ls : List Int) (w : World) (hl : lens xs = some ls) (hp : w.cell? ⟨b, o, none⟩ = some v) (hbl : b < w.heap.size) (h : Sl RuleE w w.heap.size v xs) (hsm : SmallL xs) (hn : xs.length ≤ 1099511627776) :
    Calls Try.prog 29 #[.pointer (some ⟨b, o, none⟩)] w fun e w' => e = .returned (.int .i64 (lastI ls)) ∧ Below w.heap.size w w' := by
  have Hsl := Lib.hid h
  have Hl := Lib.hid hl
  clear h hl
  go_enter Try.func29, Try.ntmps29
  go_wp2_with fail
  refine (l02Sizes_any _ _ _ _ _ hp hbl Hsl.out hsm hn).mono ?_
  rintro e w1 ⟨hb, (⟨ls', v1, h1, rfl, h2⟩ | ⟨h1, _⟩)⟩
  · have e1 : ls' = ls := by rw [Hl.out] at h1; injection h1 with h1; exact h1.symm
    subst e1
    have HB := Lib.hid hb
    have hsl := h2.sl
    obtain ⟨A, c, rfl, hc, hm, hrow⟩ := hsl
    unfold maxLen at hm
    clear h1 h2 hb
    by_cases h0 : ls'.length = 0
    · have hl : ls' = [] := List.eq_nil_of_length_eq_zero h0
      subst hl
      clear hrow
      go_wp2_with fail
      go_ret
      exact ⟨rfl, HB.out⟩
    · obtain ⟨b, o, rfl, hbl, hcell⟩ := hrow.int (k := 0) (by omega)
      have hc0 := hcell (ls'.length - 1) (by omega)
      have g0 : ((ls'.length : Int) == 0) = false := by rw [beq_eq_false_iff_ne]; omega
      have hk : ((ls'.length : Int) - 1).toNat = ls'.length - 1 := by omega
      have hl : 0 ≤ (ls'.length : Int) - 1 := by omega
      have hwr : IntKind.i64.wrap ((ls'.length : Int) - 1) = (ls'.length : Int) - 1 := IntWalk.i64_in _ (by omega)
      obtain ⟨x, hx⟩ : ∃ x, ls'.getD (ls'.length - 1) 0 = x := ⟨_, rfl⟩
      have Hx := Lib.hid hx
      rw [hx] at hc0
      clear hcell hx hrow
      go_wp2_with fail
      go_ret
      exact ⟨ret_int (by rw [lastI, Hx.out]), HB.out⟩
  · rw [Hl.out] at h1; cases h1
def lenV (xs : List GRule) : Int := if gramOk xs then gramLen xs else 0
def lenC (xs : List GRule) : Int := if gramOk xs then 0 else 1
set_option maxRecDepth 100000 in
theorem LengthOf_any (v : Value) (xs : List GRule) (w : World) (h : Sl RuleE w w.heap.size v xs) (hn : xs.length ≤ 1099511627776) :
    Calls Try.prog 53 #[.agg #[v]] w fun e w' => e = .returned (.tuple #[.int .i64 (lenV xs), .int .i64 (lenC xs)]) ∧ Below w.heap.size w w' := by
  have h1 := fun o => (h.below ((Below.refl w.heap.size w).alloc (Nat.le_refl _) o)).le (B' := (w.alloc o).heap.size) (by simp)
  have H1 := Lib.hid h1
  clear h1 h
  go_enter Try.func53, Try.ntmps53
  go_wp2_with fail
  refine (lengths_any _ _ _ (H1.out _) hn).mono ?_
  rintro e w1 ⟨hb, (⟨ls, v1, h1, rfl, h2⟩ | ⟨h1, rfl⟩)⟩
  · have HL := Lib.hid h2.sl
    have H1' := Lib.hid h1
    have HB := Lib.hid hb
    obtain ⟨A, c, rfl, _⟩ := h2.sl
    clear h1 h2 hb
    by_cases hc : xs.length ≤ 400
    · have hd : decide (xs.length ≤ 400) = true := by simp [hc]
      have hg : gramOk xs = true := by simp [gramOk, H1'.out, hc]
      have Hg := Lib.hid hg
      rw [hd]
      clear hd hc hg
      go_wp2_with fail
      refine (last_any _ ls _ HL.out).mono ?_
      rintro e w2 ⟨rfl, rfl⟩
      go_wp2_with fail
      go_ret2
      exact ⟨by simp [lenV, lenC, Hg.out, gramLen_of H1'.out], ((Below.refl _ _).alloc (Nat.le_refl _) _).trans (HB.out.mono (by simp))⟩
    · have hd : decide (xs.length ≤ 400) = false := by simp [hc]
      have hg : gramOk xs = false := by simp [gramOk, hc]
      have Hg := Lib.hid hg
      rw [hd]
      clear hd hc hg
      go_wp2_with fail
      go_ret2
      exact ⟨by simp [lenV, lenC, Hg.out], ((Below.refl _ _).alloc (Nat.le_refl _) _).trans (HB.out.mono (by simp))⟩
  · have hg : gramOk xs = false := by simp [gramOk, h1]
    have Hg := Lib.hid hg
    have HB := Lib.hid hb
    clear h1 hg hb
    go_wp2_with fail
    go_ret2
    exact ⟨by simp [lenV, lenC, Hg.out], ((Below.refl _ _).alloc (Nat.le_refl _) _).trans (HB.out.mono (by simp))⟩
end Go.Proofs.Ytfkijaamfmpboaa
