import Derived.Test.YtfapnipmgmpgaaaGreatDoorM3
import Derived.Test.YtfapnipmgmpgaaaGreatDoorM2
import Derived.ArgAppend
import Derived.Test.YtfapnipmgmpgaaaGreatDoorM6
import Derived.Deep.DeepCutAuto
import Derived.Deep.CutBlock
import Derived.Test.YtfapnipmgmpgaaaGreatDoorM4
import Derived.Test.YtfapnipmgmpgaaaGreatDoorM5
import Derived.Shelf.Strconv.Itoa0
import Derived.Shelf.Strconv.Itoa1
import Derived.Shelf.LaysM
import Derived.Shelf.Strconv.Itoa2
import Derived.Shelf.Strconv.Itoa3
import Derived.Shelf.Strconv.Itoa4
import Derived.Test.YtfapnipmgmpgaaaGreatDoorProg
import Derived.Test.YtfapnipmgmpgaaaGreatDoorM1
import Derived.Lib.LaidTab
namespace Go.Proofs.YtfapnipmgmpgaaaGreatDoor
open Go.RowKit

/-- One append to a row of the call's own: what the old row holds stays, in place or behind in the old block. -/
theorem step_append_rulesK {W : World} {ops : Array Oper} {o : Oper} {a : Act} {K : Act → World → Prop} {Q : Exit → Act → World → Prop} {E : Prop} (hgd : o.guard = none) (s x : Operand)
    (ho : o.op = .call { callee := .builtin .append, args := #[s, x], argTypes := #[29, 29] }) {ys : List GRule} {base : Nat} {v sv : Value} {l : List GRule} {S : Nat → Prop}
    (hs : a.eval s = v) (hx : a.eval x = sv) (hown : OwnRules W base v l) (hsl : SlS RuleE W S sv ys) (hlen : l.length + ys.length ≤ 1099511627776) (hbase : base ≤ W.heap.size)
    (h : ∀ v' w', OwnRules w' base v' (l ++ ys) → W.grownBy w' v.ownBlock → (v'.ownBlock = v.ownBlock ∨ W.grownBy w' none) → Below base W w' → K (a.put o.dst v') w') :
    if Region.wanted o (yielded ops a.tmps) = true then Oper.wp Tryz.prog o a W K Q else E := by
  have hw : Region.wanted o (yielded ops a.tmps) = true := by simp [Region.wanted, hgd]
  rw [if_pos hw]
  obtain ⟨i0, hi0, hz0, hz1, hz2⟩ := info_parts Tryz.infoR
  obtain ⟨A, c, rfl, hc, hm, hrow⟩ := hsl
  have H : ∃ v' w', (Builtin.append_ #[29, 29] o.type #[v, .slice A ys.length c]).run Tryz.prog W = .ok v' w' ∧ OwnRules w' base v' (l ++ ys) ∧ W.grownBy w' v.ownBlock ∧ (v'.ownBlock = v.ownBlock ∨ W.grownBy w' none) := by
    rcases A with _ | ad
    · have h0 : ys = [] := by
        rcases Nat.eq_zero_or_pos ys.length with h0 | h0
        · exact List.eq_nil_of_length_eq_zero h0
        · obtain ⟨b, o, h, _⟩ := hrow h0; cases h
      subst h0
      exact ⟨v, W, run_append_of_nil W base _ _ 123 i0 3 Tryz.underlying29 hi0 v _ _ hown c, by simpa using hown, World.grownBy.refl W _, .inl rfl⟩
    · obtain ⟨v', w', hrun, h2, h3, _, h5⟩ := run_append_own_at (P := Tryz.prog) W base 29 o.type 123 i0 _ 3 32 Tryz.underlying29 hi0 hz0 hz1 hz2 rfl (by decide) v _ _ hown ad ys.length c (ys.flatMap GRule.cells)
        (cells_len ys) (rules_cells hrow) (rules_one ys) (by simp only [maxLen]; omega) (by omega) hbase
      refine ⟨v', w', hrun, by unfold OwnRules; simpa using h2, h3, ?_⟩
      rcases h5 with h5 | h5
      · exact .inl h5
      · right
        rcases hown.2 with ⟨rfl, _⟩ | ⟨g, cap, cur, rfl, hg1, hg2, hg3, hg4, hg5, hg6⟩
        · exact h3
        · -- the row has moved: it did not fit
          rcases Nat.lt_or_ge cap (l.length + ys.length) with hlt | hge
          · obtain ⟨v2, w2, hr2, _, h6⟩ := run_append_arg_grows (P := Tryz.prog) W 29 o.type 123 i0 _ 3 32 Tryz.underlying29 hi0 hz0 hz1 hz2 rfl (by decide) ⟨g, 0, none⟩ l.length cap (l.flatMap GRule.cells) hown.1
              (fun j u hu => by
                have hj : j < (l.flatMap GRule.cells).length := (List.getElem?_eq_some_iff.1 hu).1
                rw [hown.1] at hj
                have := hown.cellAt j hj
                simpa [Addr.add_lit, hu] using this)
              ad ys.length c (ys.flatMap GRule.cells) (cells_len ys) (rules_cells hrow) hlt (by simp only [maxLen]; omega) (by omega)
            rw [hrun] at hr2
            cases hr2
            exact h6
          · have hr2 := run_append_room (P := Tryz.prog) W 29 o.type 123 i0 Tryz.underlying29 hi0 g l.length cap cur hg2 ad ys.length c (ys.flatMap GRule.cells) (by rw [hz1]; exact cells_len ys) (rules_cells hrow) (rules_one ys) hge
              (by rw [hz1, hg5, cells_len, ← Nat.add_mul]; exact Nat.mul_le_mul_right _ hge)
            rw [hrun] at hr2
            cases hr2
            have : g = W.heap.size := by simpa [Value.ownBlock] using h5
            have h7 := (Array.getElem?_eq_some_iff.1 hg2).1
            omega
  obtain ⟨v', w', hrun, h2, h3, h4⟩ := H
  unfold Oper.wp execOp
  simp only [ho, resolve, invoke, builtin, Sem.run_bind, Sem.run_pure, Result.andThen_ok, List.map_toArray, List.map_cons, List.map_nil, hs, hx, hrun]
  exact h v' w' h2 h3 h4 ((Below.refl base W).grown h3 hbase (fun k hk => (World.ownsRow.lt hown k hk).1))
theorem step_push_ruleK {W : World} {ops : Array Oper} {o : Oper} {a : Act} {K : Act → World → Prop} {Q : Exit → Act → World → Prop} {E : Prop} (hgd : o.guard = none) (s x : Operand)
    (ho : o.op = .call { callee := .builtin .append, args := #[s, x], argTypes := #[29, 29] }) {t : ByteArray} {p q : Int} {base : Nat} {v : Value} {l : List GRule}
    (hs : a.eval s = v) {N : Nat} (hx : a.eval x = .slice (some ⟨N, 0, none⟩) 1 1) (hN : N = W.heap.size) (hown : OwnRules W base v l) (hlen : l.length ≤ 1099511627775) (hbase : base ≤ W.heap.size)
    (h : ∀ v' w', OwnRules w' base v' (l ++ [⟨t, p, q⟩]) → (W.alloc (.cells #[.string t, .int .i64 p, .int .i64 q] 123)).grownBy w' v.ownBlock → (v'.ownBlock = v.ownBlock ∨ (W.alloc (.cells #[.string t, .int .i64 p, .int .i64 q] 123)).grownBy w' none) →
      Below base (W.alloc (.cells #[.string t, .int .i64 p, .int .i64 q] 123)) w' → K (a.put o.dst v') w') :
    if Region.wanted o (yielded ops a.tmps) = true then Oper.wp Tryz.prog o a (W.alloc (.cells #[.string t, .int .i64 p, .int .i64 q] 123)) K Q else E := by
  subst hN
  refine step_append_rulesK (ys := [⟨t, p, q⟩]) (S := fun b => b = W.heap.size) hgd s x ho hs hx (hown.alloc _) ⟨_, 1, rfl, Nat.le_refl _, by simp [maxLen], fun _ => ⟨W.heap.size, 0, rfl, rfl, fun k r hk => ⟨r.cells, rfl, fun j u hu => ?_⟩⟩⟩ (by simp; omega) (by simp; omega) h
  have hk0 : k = 0 := by
    have := (List.getElem?_eq_some_iff.1 hk).1
    simp at this; exact this
  subst hk0
  simp at hk
  subst hk
  have hc : (W.alloc (.cells #[.string t, .int .i64 p, .int .i64 q] 123)).cell? ⟨W.heap.size, j, none⟩ = (#[Value.string t, .int .i64 p, .int .i64 q] : Array Value)[j]? := cell_of_row _ _ _ _ 123 (0, 0) (heap_alloc_new W _)
  simp only [Nat.zero_mul, Nat.zero_add]
  rw [hc]
  simpa [GRule.cells] using hu
theorem Boxed.grownO {w w' : World} {B base e s n : Nat} {t : TypeId} {v u : Value} {xs : List Value} {o : Obj} (h : Boxed w B t u) (hte : t ≠ e) (own : w.ownsRow base e s v n xs) (hg : (w.alloc o).grownBy w' v.ownBlock) : Boxed w' B t u := (h.alloc o).kept hg (h.not_row hte own)
/-- A slice of the first rules of a row stays what it is when the row grows. -/
theorem lets_keep {W w' : World} {g n c base : Nat} {v v' : Value} {L R : List GRule} {S : Nat → Prop} (hL : SlS RuleE W S (.slice (some ⟨g, 0, none⟩) n c) L) (hS : ∀ b, S b → b < W.heap.size) {l' : List GRule} (own' : OwnRules w' base v' l') (el : l' = L ++ R) (hg : W.grownBy w' v.ownBlock)
    (hor : v'.ownBlock = v.ownBlock ∨ W.grownBy w' none) : SlS RuleE w' S (.slice (some ⟨g, 0, none⟩) n c) L := by
  have own : w'.ownsRow base 123 3 v' (L ++ R).length ((L ++ R).flatMap GRule.cells) := by rw [← el]; exact own'
  obtain ⟨A, c', e, h1, h2, hrow⟩ := hL
  injection e with e1 e2 e3
  subst e1; subst e2; subst e3
  refine ⟨_, c, rfl, h1, h2, fun hn => ?_⟩
  obtain ⟨b, o, eb, hSb, hc⟩ := hrow hn
  injection eb with eb
  injection eb with eb1 eb2
  subst eb1; subst eb2
  have hlt := hS _ hSb
  refine ⟨g, 0, rfl, hSb, fun k x hx => ⟨x.cells, rfl, fun j u hu => ?_⟩⟩
  have hold : some g ≠ v.ownBlock ∨ W.grownBy w' none → w'.cell? ⟨g, 0 + (k * RuleE.size + j), none⟩ = some u := fun hh => by
    obtain ⟨cs, hcs, hcell⟩ := hc k x hx
    have ecs : cs = x.cells := hcs
    subst ecs
    have hb : w'.heap[g]? = W.heap[g]? := by
      rcases hh with hh | hh
      · exact hg.block g hlt hh
      · exact hh.block g hlt (by simp)
    rw [World.cell?_of_block (a := ⟨g, _, none⟩) hb]
    exact hcell j u hu
  rcases hor with hor | hor
  · by_cases hgv : some g = v.ownBlock
    · -- the same row, grown in place
      have hxl : (L ++ R)[k]? = some x := by rw [List.getElem?_append_left (List.getElem?_eq_some_iff.1 hx).1]; exact hx
      have hpos : 0 < (L ++ R).length := by have := (List.getElem?_eq_some_iff.1 hxl).1; omega
      obtain ⟨g2, cap, hv, _, _, _, hcell⟩ := own_form own hpos
      have : g2 = g := by
        have h3 : v'.ownBlock = some g2 := by rw [hv]; rfl
        rw [h3, ← hgv] at hor
        exact Option.some.inj hor
      subst this
      obtain ⟨c0, c1, c2⟩ := cells3 (L ++ R) k x hxl
      match j, hu with
      | 0, hu => simp [GRule.cells] at hu; subst hu; simpa [RuleE] using hcell _ _ c0
      | 1, hu => simp [GRule.cells] at hu; subst hu; simpa [RuleE] using hcell _ _ c1
      | 2, hu => simp [GRule.cells] at hu; subst hu; simpa [RuleE] using hcell _ _ c2
      | j + 3, hu => simp [GRule.cells] at hu
    · exact hold (.inl hgv)
  · exact hold (.inr hor)
end Go.Proofs.YtfapnipmgmpgaaaGreatDoor

namespace Go.Proofs.YtfapnipmgmpgaaaGreatDoor
open Go.RowKit

def ixB (s : ByteArray) (k : Nat) : Int := Lib.indexByte s.data.toList (ltr k)
theorem ixB_yes {s : ByteArray} {k : Nat} (h : hasC s (ltr k) = true) : 0 ≤ ixB s k := by
  have h1 := Lib.indexByte_ge s.data.toList (ltr k)
  rcases Int.lt_or_le (ixB s k) 0 with hn | hn
  · have hm : ixB s k = -1 := by unfold ixB at hn ⊢; omega
    have := Lib.indexByte_none hm
    unfold hasC at h
    rw [List.contains_iff_mem] at h
    obtain ⟨j, hj⟩ := List.mem_iff_getElem?.1 h
    exact absurd hj (this j)
  · exact hn
theorem ixB_no {s : ByteArray} {k : Nat} (h : ¬ hasC s (ltr k) = true) : ixB s k < 0 := by
  rcases Int.lt_or_le (ixB s k) 0 with hn | hn
  · exact hn
  · obtain ⟨o, ho⟩ := Int.eq_ofNat_of_zero_le hn
    have := (Lib.indexByte_some (show Lib.indexByte s.data.toList (ltr k) = (o : Int) from ho)).1
    exact absurd (List.contains_iff_mem.2 (List.mem_of_getElem? this)) h
theorem ltr_nat {k : Nat} (h : k < 4) : ((97 + k : Nat) : Int) = ((ltr k).toNat : Int) := by
  have : k = 0 ∨ k = 1 ∨ k = 2 ∨ k = 3 := by omega
  rcases this with rfl | rfl | rfl | rfl <;> rfl
theorem indexByte_any (s : ByteArray) (k : Nat) (c : Int) (w : World) (hk : k < 4) (hc : c = 97 + k) : Calls Tryz.prog 148 #[.string s, .int .u8 c] w fun e w' => e = .returned (.int .i64 (ixB s k)) ∧ w = w' := by
  have h2 := ltr_nat hk
  have h3 : c.toNat.toUInt8 = ltr k := by
    have : k = 0 ∨ k = 1 ∨ k = 2 ∨ k = 3 := by omega
    subst hc
    rcases this with rfl | rfl | rfl | rfl <;> rfl
  refine (Tryz.strings_IndexByte s c w).mono fun e w' h => ⟨?_, h.2.symm⟩
  rw [h.1, h3]; rfl
theorem letter_int (k : Nat) (c : Int) (w : World) (hk : k < 4) (hc : c = 97 + k) : Calls Tryz.prog 149 #[.int .u8 c] w fun e w' => e = .returned (.agg #[.string (letR (ltr k)).letter, .int .i64 0, .int .i64 0]) ∧ Below w.heap.size w w' := by
  have h2 := ltr_nat hk
  have : c = ((ltr k).toNat : Int) := by omega
  subst this
  exact letter_any _ _

theorem Blk.new' {w : World} {b : Nat} {a : Array Value} {t : TypeId} (h : b = w.heap.size) : Blk (w.alloc (.cells a t)) b a t := by subst h; exact Blk.new _ _ _
theorem idxR_idxG {s : ByteArray} (hw : wordOk s = true) {i : Nat} (h : i < s.size) : idxR (letsG s 4) (letR s[i]) = ((idxG s s[i] : Nat) : Int) := by
  have := idxG_lt hw h
  unfold idxR idxG at *
  rw [if_pos this]
set_option maxRecDepth 100000 in
set_option maxHeartbeats 1000000 in
theorem plainOf_any (s : ByteArray) (i L N : Nat) (vL : Value) (w : World) (hi : i < s.size) (hw : wordOk s = true) (hL : Blk w L #[vL] 29) (hN : Blk w N #[.string s] 9) (hS : Sl RuleE w w.heap.size vL (letsG s 4)) :
    Calls Tryz.prog 150 #[.int .i64 (i : Int), .pointer (some ⟨L, 0, none⟩), .pointer (some ⟨N, 0, none⟩)] w fun e w' => e = .returned (.int .i64 ((idxG s (s[i]'hi) : Nat) : Int)) ∧ Below w.heap.size w w' := by
  have HI := Lib.hid (idxR_idxG hw hi)
  have HS := Lib.hid hS
  obtain ⟨AL, cL, rfl, _⟩ := hS
  have cL0 := hL.cell (i := 0) (v := .slice AL (letsG s 4).length cL) rfl
  have cN0 := hN.cell (i := 0) (v := .string s) rfl
  have lL := hL.lt
  have lN := hN.lt
  have hi2 : (i : Int) < (s.size : Int) := by omega
  clear hL hN hw
  go_enter Tryz.func150, Tryz.ntmps150
  go_wp2_with fail
  have KB := And.intro (show Below w.heap.size w w.drew from Below.drew (Below.refl _ _)) (And.intro (show w.drew.cell? ⟨L, 0, none⟩ = _ from cL0) (show w.drew.cell? ⟨N, 0, none⟩ = _ from cN0))
  go_region_held3 (fun w' => Below w.heap.size w w' ∧ w'.cell? ⟨L, 0, none⟩ = some (.slice AL (letsG s 4).length cL) ∧ w'.cell? ⟨N, 0, none⟩ = some (.string s))
    (first | (with_reducible exact KB) | (with_reducible exact keepC KB hb1 lL lN) | (with_reducible exact keepC (keepC KB hb1 lL lN) hb2 lL lN))
    (first
      | (go_at_call 149; (refine (letter_any _ _).mono ?_); rintro e w1 ⟨rfl, hb1⟩)
      | (go_at_call 151; (refine (indexRules_any _ (letsG s 4) (letR (s[i]'hi)) _ ((HS.out.up (by repeat (first | exact Below.refl _ _ | (refine Below.alloc ?_ (by first | omega | (simp; done) | (simp; omega)) _) | refine below_drewN ?_ _ | refine Below.drew ?_))).up hb1)).mono ?_); rintro e w2 ⟨rfl, hb2⟩))
  have HZ := Lib.hid (keepC (keepC KB hb1 lL lN) hb2 lL lN).1
  clear KB hb1 hb2
  go_wp2
  go_ret
  exact ⟨ret_int HI.out, HZ.out⟩
set_option maxRecDepth 100000 in
set_option maxHeartbeats 4000000 in
theorem plain_any (s : ByteArray) (w : World) (hs : wordOk s = true) :
    Calls Tryz.prog 115 #[.string s] w (GOwn (plainG s) w) := by
  have hsz : s.size ≤ 2000 := by unfold wordOk at hs; simp only [Bool.and_eq_true, decide_eq_true_eq] at hs; omega
  have HS := Lib.hid hs
  clear hs
  go_enter Tryz.func115, Tryz.ntmps115
  go_wp2_with fail
  go_loopw [4] (fun c wr => ∃ (k : Nat) (vo : Value), k ≤ 4 ∧ c = .int .u8 ((97 + k : Nat) : Int) ∧ Below w.heap.size w wr ∧ Blk wr w.heap.size #[.string s] 9 ∧ Blk wr (w.heap.size + 1) #[.slice none 0 0] 31 ∧ Boxed wr (w.heap.size + 2) 31 vo ∧ OwnRules wr (w.heap.size + 3) vo (letsG s k)) (fun c _ => 101 - (intOf c).toNat)
  case atStart =>
    refine ⟨0, .slice none 0 0, by omega, rfl, (by repeat (first | exact Below.refl _ _ | (refine Below.alloc ?_ (by first | omega | (simp; done) | (simp; omega)) _) | (refine Below.setCell ?_ (by first | exact Nat.le_refl _ | (show _ ≤ _; omega) | (simp; done) | (simp; omega)) _) | refine below_drewN ?_ _ | refine Below.drew ?_)), ?_, ?_, ?_, World.ownsRow_nil _ _ _ _⟩
    · repeat (first | (apply Blk.new'; simp; done) | apply Blk.alloc | apply Blk.drew)
    · repeat (first | (apply Blk.new'; simp; done) | apply Blk.alloc | apply Blk.drew)
    · show Blk _ _ #[.slice none 0 0] _
      repeat (first | (apply Blk.new'; simp; done) | apply Blk.alloc | apply Blk.drew)
  case round =>
    obtain ⟨k, vo, hk, rfl, hb, h0, h1, hbox, hown⟩ := hrel
    have HB := Lib.hid hb
    have H0 := Lib.hid h0
    have H1 := Lib.hid h1
    have Hbox := Lib.hid hbox
    have Hown := Lib.hid hown
    have c0 := h0.cell (i := 0) (v := .string s) rfl
    have cb := hbox.cell
    have fb := hbox.frozen
    have lb := hbox.lt
    have l0 := h0.lt
    obtain ⟨Ao, co, rfl, _⟩ := own_nil hown
    have HL := Lib.hid (show (letsG s k).length ≤ 1099511627775 by have := letsG_len s k; omega)
    clear hb h0 h1 hbox hown
    by_cases hlt : k < 4
    · have HSu := Lib.hid (letsG_succ s k)
      by_cases hc : hasC s (ltr k) = true
      · have hix := ixB_yes hc
        have HC := Lib.hid hc
        clear hc
        go_wp2_with (first
          | (go_at_call 148; refine (indexByte_any s k _ _ hlt (by omega)).mono ?_; rintro e w' ⟨rfl, rfl⟩))
        go_region_law (first
          | (refine step_push_rule (base := w.heap.size + 3) (by rfl) _ _ (by rfl) (by rfl) (by first | rfl | simp) rfl (OwnRules.below Hown.out.drew hb2) HL.out (by omega) ?_; intro v3 w3 own3 hg3 hb3; have bx3 : Boxed w3 (w.heap.size + 2) 31 _ := Boxed.grown (Boxed.up (Boxed.mk' Hbox.out) hb2 lb) (by decide) (OwnRules.below Hown.out.drew hb2) hg3; obtain ⟨A3, c3, rfl, _⟩ := own_nil own3; have hcb3 := bx3.cell; have hfb3 := bx3.frozen)
          | (go_simp; go_at_call 149; refine (letter_int k _ _ hlt (by omega)).mono ?_; rintro e w2 ⟨rfl, hb2⟩; have bx2 := Boxed.up (Boxed.mk' Hbox.out) hb2 lb; have hcb2 := bx2.cell; have hfb2 := bx2.frozen; have hlb2 := bx2.lt))
        all_goals
          have z2 : wr.heap.size ≤ w2.heap.size := hb2.size
          have hbz : Below (w.heap.size + 3) wr w3 := (Below.drew (Below.refl _ _)).trans (((hb2.mono (by show w.heap.size + 3 ≤ wr.heap.size; omega)).alloc (by omega) _).trans hb3)
          have HBZ := Lib.hid hbz
          have HO3 := Lib.hid own3
          have HX3 := Lib.hid bx3
          clear hbz own3 bx3 hb3 hb2 hg3 bx2
          go_wp2
          go_roundw
          case rel =>
            refine ⟨k + 1, _, by omega, by go_num, (HB.out.trans (HBZ.out.mono (by omega))).setCell (by show w.heap.size ≤ w.heap.size + 2; omega) _, (H0.out.upB HBZ.out (by omega)).other (by show w.heap.size ≠ w.heap.size + 2; omega) _, (H1.out.upB HBZ.out (by omega)).other (by show w.heap.size + 1 ≠ w.heap.size + 2; omega) _, Boxed.set _ HX3.out, ?_⟩
            rw [HSu.out, if_pos HC.out]
            exact own_put HX3.out HO3.out rfl (by simp)
          case measure => simp [intOf]; omega
      · have hix := ixB_no hc
        have HC := Lib.hid hc
        clear hc
        go_wp2_with (first
          | (go_at_call 148; refine (indexByte_any s k _ _ hlt (by omega)).mono ?_; rintro e w' ⟨rfl, rfl⟩))
        go_roundw
        case rel => exact ⟨k + 1, _, by omega, by go_num, HB.out, H0.out, H1.out, Hbox.out, by rw [HSu.out, if_neg HC.out]; exact Hown.out⟩
        case measure => simp [intOf]; omega
    · have hk4 : k = 4 := by omega
      subst hk4
      rw [show ((97 + 4 : Nat) : Int) = 101 from rfl]
      have hlen4 := letsG_len s 4
      obtain ⟨wo, rfl⟩ : ∃ wo : World, wo = wr := ⟨_, rfl⟩
      have hL0 := Lib.hid (Hown.out.slS (S := fun b => w.heap.size + 3 ≤ b ∧ b < wo.heap.size) fun g hg => World.ownsRow.lt Hown.out g hg)
      have hAo := Lib.hid (show 0 < (letsG s 4).length → ∃ g, Ao = some ⟨g, 0, none⟩ from fun hp => by
        obtain ⟨g, cap, e, _⟩ := own_form Hown.out hp
        injection e with e1
        exact ⟨g, e1⟩)
      go_wp2_with fail
      go_loopw [7] (fun q wx => ∃ (i : Nat) (vo : Value), 1 ≤ i ∧ (i ≤ s.size ∨ i = 1) ∧ q = .int .i64 (i : Int) ∧ Below w.heap.size w wx ∧ Blk wx w.heap.size #[.string s] 9 ∧ Blk wx (w.heap.size + 1) #[.slice none 0 0] 31 ∧
        Blk wx wo.heap.size #[.slice Ao (letsG s 4).length co] 29 ∧ Boxed wx (w.heap.size + 2) 31 vo ∧ OwnRules wx (w.heap.size + 3) vo (plainK s (i - 1)) ∧ SlS RuleE wx (fun b => w.heap.size + 3 ≤ b ∧ b < wo.heap.size) (.slice Ao (letsG s 4).length co) (letsG s 4)) (fun q _ => s.size + 1 - (intOf q).toNat)
      case atStart =>
        refine ⟨1, _, Nat.le_refl _, .inr rfl, rfl, HB.out.alloc HB.out.size _, H0.out.alloc _, H1.out.alloc _, Blk.new _ _ _, Boxed.alloc Hbox.out _, ?_, hL0.out.keep (Keep.of_below (B := wo.heap.size) ((Below.refl _ _).alloc (Nat.le_refl _) _) |>.mono fun _ hb => hb.2)⟩
        rw [show 1 - 1 = 0 from rfl, plainK_zero]
        exact Hown.out.alloc _
      case round =>
        obtain ⟨i, vo, hi1, hi2, rfl, hb, h0, h1, hL, hbox, hown, hsl⟩ := hrel
        have zr : w.heap.size + 2 < wr.heap.size := hbox.lt
        have zo : wo.heap.size < wr.heap.size := hL.lt
        have HB2 := Lib.hid hb
        have HK0 := Lib.hid h0
        have HK1 := Lib.hid h1
        have HKL := Lib.hid hL
        have HX := Lib.hid hbox
        have HO := Lib.hid hown
        have HSl := Lib.hid hsl
        have HSl2 := Lib.hid (show Sl RuleE wr wr.heap.size _ _ from hsl.more fun b hb => by omega)
        have c0' := h0.cell (i := 0) (v := .string s) rfl
        have l0' := h0.lt
        have cb' := hbox.cell
        have fb' := hbox.frozen
        have hlp := Lib.hid (plainK_len s (i - 1))
        obtain ⟨A2, c2, rfl, _⟩ := own_nil hown
        clear hb h0 h1 hL hbox hown hsl HB H0 H1 Hbox Hown cb fb c0 l0
        by_cases hlt2 : i < s.size
        · have HP := Lib.hid (plainK_succ s (i - 1))
          have HLn := Lib.hid (show (plainK s (i - 1)).length ≤ 1099511627775 by rw [hlp.out]; omega)
          have hpos : 0 < s.size := by omega
          have hpl1 : 1 ≤ (plainK s (i - 1)).length := by have := idxG_lt HS.out hpos; rw [hlp.out]; omega
          have hpl2 : (plainK s (i - 1)).length ≤ 4000 := by rw [hlp.out]; omega
          obtain ⟨I, hI⟩ : ∃ I : Nat, I = idxG s (s.data.getD i 0) := ⟨_, rfl⟩
          have hidx : ∀ W (hb : Below wr.heap.size wr W), Calls Tryz.prog 150 #[.int .i64 (i : Int), .pointer (some ⟨wo.heap.size, 0, none⟩), .pointer (some ⟨w.heap.size, 0, none⟩)] W fun e w' => e = .returned (.int .i64 (I : Int)) ∧ Below W.heap.size W w' := fun W hb => by
            rw [hI, getD_data hlt2]
            exact plainOf_any s i wo.heap.size w.heap.size _ W hlt2 HS.out (HKL.out.up hb) (HK0.out.up hb) (HSl2.out.up hb)
          have OF1 := Lib.hid hidx
          clear hidx
          obtain ⟨B, hB⟩ : ∃ B : Nat, (if i - 1 = 0 then (idxG s (s.data.getD 0 0) : Nat) else (letsG s 4).length + (i - 1) - 1) = B := ⟨_, rfl⟩
          have hBp : pairAt s (i - 1) = pairR (B : Int) (I : Int) := by
            unfold pairAt
            rw [show i - 1 + 1 = i by omega, ← hB, ← hI]
            split <;> rfl
          have HBp := Lib.hid hBp
          have HBq := Lib.hid hB
          clear hBp hB hI
          go_upto_if 39 with fail
          go_cut [8] (fun u8 wx => u8 = .int .i64 (B : Int) ∧ Below wr.heap.size wr wx)
          case first =>
            by_cases h1i : i = 1
            · subst h1i
              have OF0 := Lib.hid (plainOf_any s 0 wo.heap.size w.heap.size _ wr hpos HS.out HKL.out HK0.out HSl2.out)
              go_wp2_with (first
                | (go_at_call 150; (refine OF0.out.mono ?_); rintro e w2 ⟨rfl, hb2⟩))
              go_meet
              exact ⟨by rw [← HBq.out, if_pos trivial, getD_data hpos], hb2⟩
            · have hb1 : ((i : Int) == 1) = false := by rw [beq_eq_false_iff_ne]; omega
              go_wp2
              go_meet
              refine ⟨?_, Below.refl _ _⟩
              rw [← HBq.out, if_neg (by omega), hlp.out]
              congr 1; omega
          case rest =>
            obtain ⟨rfl, hbc⟩ := hcut
            have HC0 := Lib.hid hbc
            have HKX := Lib.hid (Boxed.up HX.out hbc HX.out.lt)
            have cb2 := HKX.out.cell
            have fb2 := HKX.out.frozen
            have lb2 := HKX.out.lt
            have HO1 := Lib.hid (OwnRules.below HO.out hbc)
            clear hbc cb' fb' c0'
            go_wp2_with fail
            go_region_law (first
              | (go_simp; go_at_call 150; refine (OF1.out _ (by repeat (first | exact HC0.out | refine Below.drew ?_))).mono ?_; rintro e w2 ⟨rfl, hb2⟩; have bx2 := Boxed.up (Boxed.mk' HKX.out) hb2 lb2; have hcb2 := bx2.cell; have hfb2 := bx2.frozen; have lb3 := bx2.lt)
              | (go_simp; go_at_call 152; refine (pairInt_any _ _ _).mono ?_; rintro e w3 ⟨rfl, hb3⟩; have bx3 := Boxed.up bx2 hb3 lb3; have hcb3 := bx3.cell; have hfb3 := bx3.frozen; have lb4 := bx3.lt)
              | (refine step_push_ruleK (base := w.heap.size + 3) (by rfl) _ _ (by rfl) (by rfl) (by first | rfl | simp) rfl (OwnRules.below (OwnRules.below HO1.out.drew hb2) hb3) HLn.out (by omega) ?_; intro v4 w4 own4 hg4 hor4 hb4; have bx4 : Boxed w4 (w.heap.size + 2) 31 _ := Boxed.grown (Boxed.up (Boxed.up (Boxed.mk' HKX.out) hb2 lb2) hb3 lb3) (by decide) (OwnRules.below (OwnRules.below HO1.out.drew hb2) hb3) hg4; obtain ⟨A4, c4, rfl, _⟩ := own_nil own4; have hcb4 := bx4.cell; have hfb4 := bx4.frozen))
            all_goals
              have z2 : wc.heap.size ≤ w2.heap.size := hb2.size
              have z3 : w2.heap.size ≤ w3.heap.size := hb3.size
              have zc : wr.heap.size ≤ wc.heap.size := HC0.out.size
              have h23 : Below wc.heap.size wc w3 := Below.tr (Below.undrew hb2) hb3
              have hbz : Below (w.heap.size + 3) wr w4 := (HC0.out.mono (by omega)).trans ((h23.mono (by omega)).trans (((Below.refl _ _).alloc (by omega) _).trans hb4))
              have OWN := OwnRules.below (OwnRules.below HO1.out.drew hb2) hb3
              have bL : Boxed w4 wo.heap.size 29 _ := Boxed.grownO (t := 29) (((HKL.out.up HC0.out).up h23)) (by decide) OWN hg4
              have HBL := Lib.hid bL
              have HBZ := Lib.hid hbz
              have HO4 := Lib.hid own4
              have HX4 := Lib.hid bx4
              obtain ⟨g, hg⟩ := hAo.out (by have := idxG_lt HS.out hpos; omega)
              have hsl3 : SlS RuleE (w3.alloc (.cells #[.string ⟨#[]⟩, .int .i64 (B : Int), .int .i64 (I : Int)] 123)) (fun b => w.heap.size + 3 ≤ b ∧ b < wo.heap.size) (.slice Ao (letsG s 4).length co) (letsG s 4) :=
                HSl.out.keep ((Keep.of_below ((Below.tr HC0.out h23).alloc (by omega) _)).mono fun _ hb => by omega)
              have e4 : plainK s (i - 1) ++ [⟨⟨#[]⟩, (B : Int), (I : Int)⟩] = letsG s 4 ++ ((List.range (i - 1)).map (pairAt s) ++ [⟨⟨#[]⟩, (B : Int), (I : Int)⟩]) := by rw [plainK, List.append_assoc]
              have hsl4 : SlS RuleE w4 (fun b => w.heap.size + 3 ≤ b ∧ b < wo.heap.size) (.slice Ao (letsG s 4).length co) (letsG s 4) := by
                rw [hg] at hsl3 ⊢
                exact lets_keep hsl3 (fun b hb => by simp; omega) own4 e4 hg4 hor4
              have HSL4 := Lib.hid hsl4
              clear hsl3 hsl4 e4 hg bL hbz own4 bx4 OWN h23 hb2 hb3 hb4 hg4 hor4 bx2 bx3
              go_wp2
              go_roundw
              case rel =>
                refine ⟨i + 1, _, by omega, .inl (by omega), by go_num, (HB2.out.trans (HBZ.out.mono (by omega))).setCell (by show w.heap.size ≤ w.heap.size + 2; omega) _, (HK0.out.upB HBZ.out (by omega)).other (by show w.heap.size ≠ w.heap.size + 2; omega) _, (HK1.out.upB HBZ.out (by omega)).other (by show w.heap.size + 1 ≠ w.heap.size + 2; omega) _,
                  Blk.other HBL.out (by show wo.heap.size ≠ w.heap.size + 2; omega) _, Boxed.set _ HX4.out, ?_, HSL4.out.keep fun b hb => Below.heap_setCell _ _ _ _ (by show b ≠ w.heap.size + 2; omega)⟩
                rw [show i + 1 - 1 = (i - 1) + 1 by omega, HP.out, HBp.out]
                exact own_put HX4.out HO4.out rfl (by simp)
              case measure => simp [intOf]; omega
        · have hb0 : 1 ≤ i := hi1
          have HE := Lib.hid (show plainK s (i - 1) = plainG s by rw [plainG]; congr 1; omega)
          have r1 := HK1.out.cell (i := 0) (v := .slice none 0 0) rfl
          have r2 := HK1.out.frozen 0
          have r3 := HK1.out.lt
          go_wp2
          rw [HE.out] at HO HX
          refine bodyPost_ret (v := .agg #[.slice A2 (plainG s).length c2]) (by simp [results, Tryz.results115, go_sem, r1, HE.out]) rfl ⟨HB2.out.setCell (by show w.heap.size ≤ w.heap.size + 1; omega) _, _, ?_, rfl⟩
          exact ownsRow_more (ownsRow_setCell_below HO.out (a := ⟨w.heap.size + 1, 0, none⟩) (by show w.heap.size + 1 < w.heap.size + 3; omega) _) (by omega)
end Go.Proofs.YtfapnipmgmpgaaaGreatDoor

namespace Go.Proofs.YtfapnipmgmpgaaaGreatDoor

theorem raiseR_ok {n k : Nat} {r : GRule} (h : okRule k r = true) : okRule (n + k) (raiseR n r) = true := by
  unfold raiseR
  cases hp : r.pair with
  | true =>
    obtain ⟨q1, q2, q3, q4⟩ := okRule_at h hp
    rw [if_pos rfl]
    have hl : r.letter.size = 0 := by simpa [GRule.pair] using hp
    unfold okRule
    rw [if_pos (show (GRule.pair ⟨r.letter, r.left + n, r.right + n⟩) = true by simpa [GRule.pair] using hl)]
    show (decide (0 ≤ r.left + n) && decide (r.left + n ≤ ((n + k : Nat) : Int) - 1) && decide (0 ≤ r.right + n) && decide (r.right + n ≤ ((n + k : Nat) : Int) - 1)) = true
    rw [decide_eq_true (by omega), decide_eq_true (by omega), decide_eq_true (by omega), decide_eq_true (by omega)]; rfl
  | false =>
    rw [if_neg (by simp)]
    unfold okRule at h ⊢
    rw [if_neg (by simp [hp])] at h ⊢
    exact h
theorem okAll_raise {xs ys : List GRule} (h : OkAll xs) (h' : OkAll ys) : OkAll (xs ++ ys.map (raiseR xs.length)) := by
  intro k r hk
  rcases Nat.lt_or_ge k xs.length with hlt | hge
  · rw [List.getElem?_append_left hlt] at hk; exact h k r hk
  · rw [List.getElem?_append_right hge, List.getElem?_map] at hk
    rcases hy : ys[k - xs.length]? with _ | y
    · rw [hy] at hk; cases hk
    · rw [hy] at hk
      have : raiseR xs.length y = r := by simpa using hk
      rw [← this, show k = xs.length + (k - xs.length) by omega]
      exact raiseR_ok (h' _ y hy)
theorem okAll_nil : OkAll [] := fun k r h => by simp at h
theorem okAll_smallP {xs : List GRule} (h : OkAll xs) (hl : xs.length ≤ 1099511627776) : SmallP xs := by
  intro r hr hp
  obtain ⟨k, hk⟩ := List.mem_iff_getElem?.1 hr
  have h1 := okRule_at (h k r hk) hp
  have h2 := (List.getElem?_eq_some_iff.1 hk).1
  omega
theorem ints_cell {S : List Int} {i : Nat} (h : i < S.length) : ((S.map (Value.int .i64)).toArray)[i]? = some (.int .i64 (S.getD i 0)) := by
  rw [List.getElem?_toArray, List.getElem?_map, List.getD_eq_getElem?_getD, List.getElem?_eq_getElem h]; rfl
theorem ints_set (S : List Int) (i : Nat) (v : Int) : ((S.map (Value.int .i64)).toArray).setIfInBounds i (.int .i64 v) = ((S.set i v).map (Value.int .i64)).toArray := by
  rw [List.map_set]; simp
structure BaseOk (k : Nat) (p : List GRule × List Int) : Prop where
  ok : OkAll p.1
  len : p.1.length ≤ 2004 * k
  l4 : p.2.length = 4
  low : ∀ i, i < 4 → -1 ≤ p.2.getD i 0 ∧ p.2.getD i 0 < p.1.length
theorem baseG_succ (xs : List GRule) (ws : List ByteArray) (k : Nat) : baseG xs ws (k + 1) = baseStep xs ws (baseG xs ws k) k := by
  unfold baseG; rw [List.range_succ, List.foldl_append]; rfl
theorem getD_set {l : List Int} {i j : Nat} {v : Int} (hi : i < l.length) : (l.set i v).getD j 0 = if i = j then v else l.getD j 0 := by
  by_cases h : i = j
  · subst h; rw [if_pos rfl, List.getD_eq_getElem?_getD, List.getElem?_set, if_pos rfl, if_pos hi]; rfl
  · rw [if_neg h]; exact set_ne h
theorem base_ok (xs : List GRule) (ws : List ByteArray) (hw : ∀ s ∈ ws, wordOk s = true) (hl : ws.length = 4) : ∀ k, k ≤ 4 → BaseOk k (baseG xs ws k) := by
  intro k
  induction k with
  | zero => intro _; refine ⟨okAll_nil, by simp [baseG], rfl, fun i hi => ?_⟩; have : i = 0 ∨ i = 1 ∨ i = 2 ∨ i = 3 := by omega
            rcases this with rfl | rfl | rfl | rfl <;> simp [baseG]
  | succ k ih =>
    intro hk
    have H := ih (by omega)
    rw [baseG_succ]
    obtain ⟨O, S, hp⟩ : ∃ O S, baseG xs ws k = (O, S) := ⟨_, _, rfl⟩
    rw [hp] at H ⊢
    have hO : OkAll O := H.ok
    have hlO : O.length ≤ 2004 * k := H.len
    have hS : S.length = 4 := H.l4
    have hlow : ∀ i, i < 4 → -1 ≤ S.getD i 0 ∧ S.getD i 0 < (O.length : Int) := H.low
    have hwk : wordOk (ws.getD k ⟨#[]⟩) = true := by
      rw [List.getD_eq_getElem?_getD, List.getElem?_eq_getElem (by omega)]
      exact hw _ (List.getElem_mem _)
    have hsz : (ws.getD k ⟨#[]⟩).size ≤ 2000 := by unfold wordOk at hwk; simp only [Bool.and_eq_true, decide_eq_true_eq] at hwk; omega
    have hpl := plainG_len (ws.getD k ⟨#[]⟩)
    unfold baseStep
    split
    · refine ⟨okAll_raise hO (okAll_plainG hwk), ?_, by simp [hS], ?_⟩
      · show (O ++ _).length ≤ _
        rw [List.length_append, List.length_map]; omega
      · intro i hi
        show -1 ≤ (S.set k _).getD i 0 ∧ (S.set k _).getD i 0 < ((O ++ _).length : Int)
        rw [getD_set (by omega), List.length_append, List.length_map]
        have := hlow i hi
        have e0 : ((O, S) : List GRule × List Int).fst.length = O.length := rfl
        split <;> omega
    · exact ⟨hO, by show O.length ≤ _; omega, hS, hlow⟩
structure StandOk (B k : Nat) (p : List GRule × List Int) : Prop where
  ok : OkAll p.1
  len : p.1.length ≤ B + k
  ls : p.2.length = k
  low : ∀ i, i < k → -1 ≤ p.2.getD i 0 ∧ p.2.getD i 0 < p.1.length
theorem standG_succ {xs : List GRule} {ws : List ByteArray} {k : Nat} {r : GRule} (h : xs[k]? = some r) : standG xs ws (k + 1) = standStep (baseG xs ws 4).2 (standG xs ws k) r := by
  unfold standG; exact foldl_take_succ _ _ _ _ _ h
theorem snoc_low {S : List Int} {v : Int} {m : Nat} (h : ∀ i, i < S.length → -1 ≤ S.getD i 0 ∧ S.getD i 0 < (m : Int)) {m' : Nat} (hm : m ≤ m') (hv : -1 ≤ v ∧ v < (m' : Int)) : ∀ i, i < S.length + 1 → -1 ≤ (S ++ [v]).getD i 0 ∧ (S ++ [v]).getD i 0 < (m' : Int) := by
  intro i hi
  rcases Nat.lt_or_ge i S.length with hlt | hge
  · rw [getI_append hlt]; have := h i hlt; omega
  · have : i = S.length := by omega
    subst this
    rw [getI_last]; exact hv
theorem letter_idx {r : GRule} {k : Nat} (h : okRule k r = true) (hp : r.pair = false) : 97 ≤ (r.letter.data.getD 0 0).toNat ∧ (r.letter.data.getD 0 0).toNat ≤ 100 := by
  unfold okRule at h
  rw [if_neg (by simp [hp])] at h
  simp [isLet] at h
  have h1 := h.1.1.1.2
  have h2 := h.1.1.2
  simp only [Array.getD_eq_getD_getElem?]
  omega
theorem stand_ok (xs : List GRule) (ws : List ByteArray) (hw : ∀ s ∈ ws, wordOk s = true) (hl : ws.length = 4) (hx : OkAll xs) : ∀ k, k ≤ xs.length → StandOk 8016 k (standG xs ws k) := by
  have HB := base_ok xs ws hw hl 4 (Nat.le_refl _)
  intro k
  induction k with
  | zero => intro _; exact ⟨HB.ok, by have := HB.len; show (baseG xs ws 4).1.length ≤ _; omega, rfl, fun i hi => absurd hi (by omega)⟩
  | succ k ih =>
    intro hk
    have H := ih (by omega)
    obtain ⟨r, hr⟩ : ∃ r, xs[k]? = some r := ⟨_, List.getElem?_eq_getElem (by omega)⟩
    have hor := hx k r hr
    have hB4 : (baseG xs ws 4).1.length ≤ (standG xs ws k).1.length := by
      clear H hor
      unfold standG
      suffices G : ∀ (l : List GRule) (p : List GRule × List Int), p.1.length ≤ (l.foldl (standStep (baseG xs ws 4).2) p).1.length by exact G (xs.take k) ((baseG xs ws 4).1, [])
      intro l
      induction l with
      | nil => intro p; exact Nat.le_refl _
      | cons a l ih2 =>
        intro p
        refine Nat.le_trans ?_ (ih2 _)
        unfold standStep
        split
        · split
          · exact Nat.le_refl _
          · split
            · exact Nat.le_refl _
            · simp
        · exact Nat.le_refl _
    rw [standG_succ hr]
    obtain ⟨O, S, hp⟩ : ∃ O S, standG xs ws k = (O, S) := ⟨_, _, rfl⟩
    rw [hp] at H hB4 ⊢
    have hO : OkAll O := H.ok
    have hlO : O.length ≤ 8016 + k := H.len
    have hS : S.length = k := H.ls
    have hlow : ∀ i, i < k → -1 ≤ S.getD i 0 ∧ S.getD i 0 < (O.length : Int) := H.low
    have hlow' : ∀ i, i < S.length → -1 ≤ S.getD i 0 ∧ S.getD i 0 < (O.length : Int) := fun i hi => hlow i (by omega)
    unfold standStep
    cases hpr : r.pair with
    | true =>
      obtain ⟨q1, q2, q3, q4⟩ := okRule_at hor hpr
      rw [if_pos rfl]
      have a := hlow _ q2
      have b := hlow _ q4
      split
      · exact ⟨hO, by show O.length ≤ _; omega, by simp [hS], by rw [← hS]; exact snoc_low hlow' (Nat.le_refl _) b⟩
      · split
        · exact ⟨hO, by show O.length ≤ _; omega, by simp [hS], by rw [← hS]; exact snoc_low hlow' (Nat.le_refl _) a⟩
        · rename_i c1 c2
          have c1' : ¬ S.getD r.left.toNat 0 < 0 := c1
          have c2' : ¬ S.getD r.right.toNat 0 < 0 := c2
          refine ⟨hO.snoc (okRule_pair ⟨by omega, a.2⟩ ⟨by omega, b.2⟩), by show (O ++ _).length ≤ _; simp; omega, by simp [hS], ?_⟩
          rw [← hS]
          show ∀ i, i < S.length + 1 → -1 ≤ (S ++ [(O.length : Int)]).getD i 0 ∧ (S ++ [(O.length : Int)]).getD i 0 < (((O ++ [pairR (S.getD r.left.toNat 0) (S.getD r.right.toNat 0)]).length : Nat) : Int)
          exact snoc_low hlow' (by simp) (by simp; omega)
    | false =>
      rw [if_neg (by simp)]
      have hc := letter_idx hor hpr
      have hb := HB.low ((r.letter.data.getD 0 0).toNat - 97) (by omega)
      exact ⟨hO, by show O.length ≤ _; omega, by simp [hS], by rw [← hS]; exact snoc_low hlow' (Nat.le_refl _) ⟨hb.1, by show _ < (O.length : Int); have : (baseG xs ws 4).1.length ≤ O.length := hB4; omega⟩⟩
/-- What MapLetters answers for a right grammar and right words. -/
def mapOut (xs : List GRule) (ws : List ByteArray) : List GRule :=
  if 400 < (mapP xs ws).1.length then [] else if xs.length = 0 ∨ lastI (mapP xs ws).2 < 0 then [] else limOut (trimG ((mapP xs ws).1.take ((lastI (mapP xs ws).2).toNat + 1)))
def mapCode (xs : List GRule) (ws : List ByteArray) : Int :=
  if 400 < (mapP xs ws).1.length then 3 else if xs.length = 0 ∨ lastI (mapP xs ws).2 < 0 then 0 else limCode (trimG ((mapP xs ws).1.take ((lastI (mapP xs ws).2).toNat + 1)))
end Go.Proofs.YtfapnipmgmpgaaaGreatDoor

namespace Go.Proofs.YtfapnipmgmpgaaaGreatDoor
open Go.RowKit

set_option maxRecDepth 100000 in
theorem IndexStrs_any (v : Value) (xs : List ByteArray) (F : FuncId) (cap : Array Value) (p : ByteArray → Bool) (w : World) (h : Sl StrE w w.heap.size v xs)
    (eg : ∀ args w, (callFunc F args).run Tryz.prog w = .ok (.enter F args) w) (hf : ∀ (W : World) x, Below w.heap.size w W → x ∈ xs → Calls Tryz.prog F (#[.string x] ++ cap) W fun e w' => e = .returned (.bool (p x)) ∧ Below W.heap.size W w') :
    Calls Tryz.prog 157 #[v, .func (.func F) #[] cap] w fun e w' => e = .returned (.int .i64 (idxOf p xs)) ∧ Below w.heap.size w w' := by
  obtain ⟨A, c, rfl, hc, hm, hrow⟩ := h
  unfold maxLen at hm
  have Hf := Lib.hid hf
  clear hf
  go_enter Tryz.func157, Tryz.ntmps157
  go_wp2_with fail
  go_loopw [8] (fun i wr => ∃ k : Nat, k ≤ xs.length ∧ i = .int .i64 k ∧ Below w.heap.size w wr ∧ ∀ (j : Nat) y, j < k → xs[j]? = some y → p y = false) (fun i _ => xs.length - (intOf i).toNat)
  case atStart => exact ⟨0, Nat.zero_le _, rfl, Below.refl _ _, fun j y hj => absurd hj (by omega)⟩
  case round =>
    obtain ⟨k, hk, rfl, hb, hno⟩ := hrel
    have Hno := Lib.hid hno
    clear hno
    by_cases hlt : k < xs.length
    · obtain ⟨b, o, rfl, hbl, hcell⟩ := hrow.str hlt
      obtain ⟨x, hx⟩ : ∃ x, xs[k]? = some x := ⟨_, List.getElem?_eq_getElem hlt⟩
      have hc0 : wr.cell? ⟨b, o + k, none⟩ = some (.string x) := (hb.cell hbl).trans (hcell k x hx)
      have Hx := Lib.hid hx
      clear hcell hx
      go_wp2_with fail
      refine (Hf.out _ x hb (List.mem_of_getElem? Hx.out)).mono ?_
      rintro e w2 ⟨rfl, hb2⟩
      by_cases hp : p x = true
      · have Hp := Lib.hid hp
        go_wp2
        go_ret
        exact ⟨ret_int (by rw [idxOf_some Hno.out Hx.out Hp.out]), hb.trans (hb2.mono hb.size)⟩
      · have hp2 : p x = false := by simpa using hp
        have Hp := Lib.hid hp2
        clear hp
        go_wp2
        go_roundw
        case rel =>
          refine ⟨k + 1, by omega, by go_num, hb.trans (hb2.mono hb.size), fun j y hj hy => ?_⟩
          by_cases e : j = k
          · subst e
            have := Hx.out
            rw [hy] at this
            injection this with this
            rw [this]; exact Hp.out
          · exact Hno.out j y (by omega) hy
        case measure => simp [intOf]; omega
    · go_wp2
      go_ret
      exact ⟨ret_int (by
        rw [idxOf_none]
        intro x hx
        obtain ⟨j, hj, rfl⟩ := List.getElem_of_mem hx
        exact Hno.out j _ (by omega) (List.getElem?_eq_getElem hj)), hb⟩
theorem ContainsStrs_any (v : Value) (xs : List ByteArray) (F : FuncId) (cap : Array Value) (p : ByteArray → Bool) (w : World) (h : Sl StrE w w.heap.size v xs)
    (eg : ∀ args w, (callFunc F args).run Tryz.prog w = .ok (.enter F args) w) (hf : ∀ (W : World) x, Below w.heap.size w W → x ∈ xs → Calls Tryz.prog F (#[.string x] ++ cap) W fun e w' => e = .returned (.bool (p x)) ∧ Below W.heap.size W w') :
    Calls Tryz.prog 126 #[v, .func (.func F) #[] cap] w fun e w' => e = .returned (.bool (xs.any p)) ∧ Below w.heap.size w w' := by
  have H := Lib.hid (IndexStrs_any v xs F cap p w h eg hf)
  clear hf eg
  obtain ⟨A, c, rfl, _⟩ := h
  go_enter Tryz.func126, Tryz.ntmps126
  go_wp2_with fail
  refine H.out.mono ?_
  rintro e w2 ⟨rfl, hb2⟩
  go_wp2
  go_ret
  exact ⟨ret_bool (idxOf_any p xs), hb2⟩
theorem badWord_any (s : ByteArray) (w : World) (hs : s.size ≤ maxLen) : Calls Tryz.prog 127 #[.string s] w fun e w' => e = .returned (.bool (!wordOk s)) ∧ Below w.heap.size w w' := by
  go_enter Tryz.func127, Tryz.ntmps127
  go_wp2_with fail
  refine (ValidWord_any s _ hs).mono ?_
  rintro e w' ⟨rfl, rfl⟩
  go_wp2
  go_ret
  exact ⟨rfl, Below.refl _ _⟩
theorem goodWords_any (v : Value) (ws : List ByteArray) (w : World) (h : Sl StrE w w.heap.size v ws) (hw : ∀ s ∈ ws, wordOk s = true) :
    Calls Tryz.prog 126 #[v, .func (.func 127) #[] #[]] w fun e w' => e = .returned (.bool false) ∧ Below w.heap.size w w' := by
  refine (ContainsStrs_any v ws 127 #[] (fun s => !wordOk s) w h (enters_of Tryz.func127 (by kernel_rfl) rfl) (fun W x _ hx => ?_)).mono ?_
  · have h1 := hw x hx
    have h2 : x.size ≤ maxLen := by
      unfold wordOk at h1; simp only [Bool.and_eq_true, decide_eq_true_eq] at h1
      unfold maxLen; omega
    exact badWord_any x W h2
  · rintro e w' ⟨rfl, hb⟩
    refine ⟨ret_bool ?_, hb⟩
    rw [List.any_eq_false]
    intro x hx
    simp [hw x hx]

/-- Behind an append to the numbers, the rest is as it was. -/
theorem stand_tail {w2 W w3 : World} {M : Nat} {vs vo : Value} {T : List Int} {P : List GRule} {a : Array Value} {o : Obj} (hb : Below M w2 W) (hbox : Boxed W M 31 vo) (hown : OwnRules W (M + 2) vo P) (hi : OwnInts W (M + 2) vs T) (hst : Blk W (M + 1) a 154)
    (hg : (W.alloc o).grownBy w3 vs.ownBlock) (hM : M + 2 ≤ W.heap.size) : Below M w2 w3 ∧ Boxed w3 M 31 vo ∧ OwnRules w3 (M + 2) vo P ∧ Blk w3 (M + 1) a 154 := by
  have hlt : ∀ k, vs.ownBlock = some k → M + 2 ≤ k := fun k hk => (World.ownsRow.lt hi k hk).1
  refine ⟨(hb.alloc (by omega) o).grown hg (by simp; omega) (fun k hk => by have := hlt k hk; omega), Boxed.kept (Boxed.alloc hbox o) hg (fun e => by have := hlt M e.symm; omega), keep_rules hown hi hg, ?_⟩
  exact (hg.block (M + 1) (by simp; omega) (fun e => by have := hlt (M + 1) e.symm; omega)).trans (hst.alloc o)
theorem int_len {w : World} {base c : Nat} {A : Option Addr} {T : List Int} {v : Int} (h : OwnInts w base (.slice A (T ++ [v]).length c) (T ++ [v])) : OwnInts w base (.slice A (T.length + 1) c) (T ++ [v]) := by
  have e : (T ++ [v]).length = T.length + 1 := by simp
  rw [← e]; exact h
theorem run_fieldG (A : Option Addr) (n c : Nat) (W : World) : (Instr.field 31 (.agg #[.slice A n c]) 0).run Tryz.prog W = .ok (.slice A n c) W := by kernel_rfl
set_option maxRecDepth 100000 in
set_option maxHeartbeats 4000000 in
theorem implMap_any (v vW : Value) (xs : List GRule) (ws : List ByteArray) (w : World) (h : Sl RuleE w w.heap.size v xs) (hW : Sl StrE w w.heap.size vW ws) (hx : gramOk xs = true) (hws : ∀ s ∈ ws, wordOk s = true) (hl4 : ws.length = 4) :
    Calls Tryz.prog 96 #[.agg #[v], vW] w (GRes (mapOut xs ws) (mapCode xs ws) w) := by
  have HS := Lib.hid h
  have HW := Lib.hid hW
  have HX := Lib.hid hx
  have HWS := Lib.hid hws
  have HL4 := Lib.hid hl4
  have hn4 : xs.length ≤ 400 := (gram_lens hx).1
  have hokx := Lib.hid (okAll_lens (gram_lens hx).2.choose_spec)
  obtain ⟨A, c, rfl, _⟩ := h
  obtain ⟨AW, cW, rfl, _⟩ := hW
  rw [hl4]
  clear hx hws hl4
  go_enter Tryz.func96, Tryz.ntmps96
  go_wp2_with fail
  refine (ValidGrammar_any _ xs _ (HS.out.up (by repeat (first | exact Below.refl _ _ | (refine Below.alloc ?_ (by first | omega | (simp; done) | (simp; omega)) _) | (refine Below.setCell ?_ (by first | exact Nat.le_refl _ | (show _ ≤ _; omega) | (simp; done) | (simp; omega)) _) | refine below_drewN ?_ _ | refine Below.drew ?_))) (by omega)).mono ?_
  rintro e w1 ⟨rfl, hb1⟩
  rw [HX.out]
  obtain ⟨hb1', K1⟩ := Below.unalloc hb1
  obtain ⟨hb1'', K0⟩ := Below.unalloc hb1'
  have K1' : Blk w1 (w.heap.size + 1) #[.slice none 0 0] 31 := by simpa [Blk] using K1
  have K0' : Blk w1 w.heap.size #[.slice A xs.length c] 31 := by simpa [Blk] using K0
  have HB1 := Lib.hid hb1''
  clear hb1 hb1' hb1'' K1 K0
  have HW1 := Lib.hid (show Sl StrE w1 w1.heap.size (.slice AW 4 cW) ws by have := HW.out.up HB1.out; rw [HL4.out] at this; exact this)
  go_wp2_with fail
  refine (goodWords_any _ ws _ HW1.out HWS.out).mono ?_
  rintro e w2 ⟨rfl, hb2⟩
  have HK0 := Lib.hid (K0'.up hb2)
  have HK1 := Lib.hid (K1'.up hb2)
  have HB2 := Lib.hid (Below.tr HB1.out hb2)
  have HW2 := Lib.hid (HW1.out.up hb2)
  have HS2 := Lib.hid (HS.out.up HB2.out)
  clear K0' K1' hb2 HB1 HW1 HW HS
  go_wp2_with fail
  obtain ⟨M, hM⟩ : ∃ M, M = w2.heap.size := ⟨_, rfl⟩
  have HM := Lib.hid hM
  rw [← hM]
  have hSt : Blk ((w2.alloc (Obj.cells #[Value.slice none 0 0] 31)).alloc (Obj.cells #[Value.int IntKind.i64 (-1), Value.int IntKind.i64 (-1), Value.int IntKind.i64 (-1), Value.int IntKind.i64 (-1)] 154)) (M + 1) #[Value.int IntKind.i64 (-1), Value.int IntKind.i64 (-1), Value.int IntKind.i64 (-1), Value.int IntKind.i64 (-1)] 154 := by
    rw [hM]; repeat (first | (apply Blk.new'; simp; done) | apply Blk.alloc | apply Blk.drew)
  have hOut : Blk ((w2.alloc (Obj.cells #[Value.slice none 0 0] 31)).alloc (Obj.cells #[Value.int IntKind.i64 (-1), Value.int IntKind.i64 (-1), Value.int IntKind.i64 (-1), Value.int IntKind.i64 (-1)] 154)) M #[.slice none 0 0] 31 := by
    rw [hM]; repeat (first | (apply Blk.new'; simp; done) | apply Blk.alloc | apply Blk.drew)
  have HSt := Lib.hid hSt
  have HOut := Lib.hid hOut
  have z20 : w.heap.size ≤ M := by rw [hM]; exact HB2.out.size
  have z21 : w.heap.size + 1 < M := by rw [hM]; exact HK1.out.lt
  clear hSt hOut hM
  go_loopw [31] (fun q wr => ∃ (k : Nat) (vo : Value), k ≤ 4 ∧ q = .int .i64 (k : Int) ∧ Below M w2 wr ∧ Boxed wr M 31 vo ∧ OwnRules wr (M + 2) vo (baseG xs ws k).1 ∧ Blk wr (M + 1) (((baseG xs ws k).2.map (Value.int .i64)).toArray) 154) (fun q _ => 4 - (intOf q).toNat)
  case atStart =>
    refine ⟨0, _, by omega, rfl, ?_, HOut.out, World.ownsRow_nil _ _ _ _, HSt.out⟩
    rw [HM.out]; exact (by repeat (first | exact Below.refl _ _ | (refine Below.alloc ?_ (by first | omega | (simp; done) | (simp; omega)) _) | (refine Below.setCell ?_ (by first | exact Nat.le_refl _ | (show _ ≤ _; omega) | (simp; done) | (simp; omega)) _) | refine below_drewN ?_ _ | refine Below.drew ?_))
  case round =>
    obtain ⟨k, vo, hk, rfl, hb, hbox, hown, hst⟩ := hrel
    have hbase := base_ok xs ws HWS.out HL4.out k hk
    have hlen1 := hbase.len
    have hlen2 := hbase.l4
    have HBA := Lib.hid hbase
    have HBs := Lib.hid (baseG_succ xs ws k)
    clear hbase
    obtain ⟨O, S, hOS⟩ : ∃ O S, baseG xs ws k = (O, S) := ⟨_, _, rfl⟩
    rw [hOS] at hown hst hlen1 hlen2
    replace hown : OwnRules wr (M + 2) vo O := hown
    replace hst : Blk wr (M + 1) ((S.map (Value.int .i64)).toArray) 154 := hst
    replace hlen1 : O.length ≤ 2004 * k := hlen1
    replace hlen2 : S.length = 4 := hlen2
    have HOS := Lib.hid hOS
    have HB := Lib.hid hb
    have HX1 := Lib.hid hbox
    have HO := Lib.hid hown
    have HST := Lib.hid hst
    have HS4 := Lib.hid hlen2
    have cb := hbox.cell
    have fb := hbox.frozen
    have lb := hbox.lt
    have c0 : wr.cell? ⟨w.heap.size, 0, none⟩ = some (.slice A xs.length c) := (HK0.out.upB hb (by omega)).cell rfl
    obtain ⟨Ao, co, rfl, _⟩ := own_nil hown
    clear hb hbox hown hOS hlen2
    by_cases hlt : k < 4
    · obtain ⟨s, hs⟩ : ∃ s, ws[k]? = some s := ⟨_, List.getElem?_eq_getElem (by rw [HL4.out]; exact hlt)⟩
      have hsg : ws.getD k ⟨#[]⟩ = s := by rw [List.getD_eq_getElem?_getD, hs]; rfl
      obtain ⟨AW', cW', eW, _, _, hrow⟩ := HW2.out
      injection eW with eW1 eW2 eW3
      subst eW1
      obtain ⟨b, o, rfl, hbl, hcell⟩ := hrow.str (k := k) (by rw [HL4.out]; exact hlt)
      have hbl2 : b < M := by rw [HM.out]; exact hbl
      have hcw : wr.cell? ⟨b, o + k, none⟩ = some (.string s) := (HB.out.cell (p := ⟨b, o + k, none⟩) hbl2).trans (hcell k s hs)
      have lbw : b < wr.heap.size := by omega
      have hki : (k : Int) < 4 := by omega
      have HWk := Lib.hid (HWS.out s (List.mem_of_getElem? hs))
      have HSG := Lib.hid hsg
      clear hcell hrow hs hsg eW2 eW3
      by_cases hs0 : s.size = 0
      · have he1 : s.toList.isEmpty = true := by rw [isEmpty_size]; simp [hs0]
        have he2 : (!s.toList.isEmpty) = false := by rw [he1]; rfl
        have HS0 := Lib.hid hs0
        clear hs0
        go_wp2_with fail
        go_roundw
        case rel =>
          refine ⟨k + 1, _, by omega, by go_num, HB.out, HX1.out, ?_, ?_⟩
          · rw [HBs.out, baseStep, HSG.out, if_neg (by intro h; exact h.1 HS0.out), HOS.out]; exact HO.out
          · rw [HBs.out, baseStep, HSG.out, if_neg (by intro h; exact h.1 HS0.out), HOS.out]; exact HST.out
        case measure => simp [intOf]; omega
      · have he1 : s.toList.isEmpty = false := by rw [isEmpty_size]; simp [hs0]
        have he2 : (!s.toList.isEmpty) = true := by rw [he1]; rfl
        have HS0 := Lib.hid hs0
        clear hs0
        have HSx := Lib.hid (show Sl RuleE wr wr.heap.size (.slice A xs.length c) xs from (HS2.out.below (by rw [← HM.out]; exact HB.out)).le (by rw [← HM.out]; omega))
        go_wp2_with fail
        refine (hasLetter_any _ xs k _ HSx.out hlt).mono ?_
        rintro e w3 ⟨rfl, hb3⟩
        have HX3 := Lib.hid (Boxed.up HX1.out hb3 lb)
        have HO3 := Lib.hid (OwnRules.below HO.out hb3)
        have HST3 := Lib.hid (HST.out.up hb3)
        have HB3 := Lib.hid (HB.out.trans (hb3.mono (by omega)))
        have cb3 := HX3.out.cell
        have fb3 := HX3.out.frozen
        have lb3 := HX3.out.lt
        have z3 : wr.heap.size ≤ w3.heap.size := hb3.size
        have l13 := HST3.out.lt
        clear hb3 cb fb c0 hcw
        by_cases hL : hasL xs k = true
        · have HLk := Lib.hid hL
          have hsz : s.size ≤ 2000 := by have := HWk.out; unfold wordOk at this; simp only [Bool.and_eq_true, decide_eq_true_eq] at this; omega
          have hpl := plainG_len s
          have HP := Lib.hid (okAll_smallP (okAll_plainG HWk.out) (by omega))
          have HLe := Lib.hid (show O.length + ((plainG s).map (raiseR O.length)).length ≤ 1099511627776 by rw [List.length_map]; omega)
          have hO8 : O.length ≤ 8016 := by omega
          obtain ⟨G, hG⟩ : ∃ G, plainG s = G := ⟨_, rfl⟩
          have HG := Lib.hid hG
          rw [hG] at hpl HP HLe
          have PL := Lib.hid (fun W => plain_any s W HWk.out)
          rw [hG] at PL
          rw [hL]
          clear hL hG
          have hfd := run_fieldG
          go_wp2_with fail
          go_region_law (first
            | (refine step_append_rules (base := M + 2) (by rfl) _ _ (by rfl) (by rfl) (by rfl) (OwnRules.below (OwnRules.below HO3.out.drew hb4) hb5) own5.sl HLe.out (by omega) ?_; intro v6 w6 own6 hg6 hb6; have bx6 : Boxed w6 M 31 _ := Boxed.kept (Boxed.up (Boxed.up (Boxed.mk' HX3.out) hb4 lb3) hb5 lb4) hg6 (Boxed.not_row (Boxed.up (Boxed.up (Boxed.mk' HX3.out) hb4 lb3) hb5 lb4) (by decide) (OwnRules.below (OwnRules.below HO3.out.drew hb4) hb5)); obtain ⟨A6, c6, rfl, _⟩ := own_nil own6; have cb6 := bx6.cell; have fb6 := bx6.frozen)
            | (go_simp; go_at_call 115; refine (PL.out _).mono ?_; rintro e w4 ⟨hb4, v4, own4, rfl⟩; obtain ⟨A4, c4, rfl, _⟩ := own_nil own4; have bx4 := Boxed.up (Boxed.mk' HX3.out) hb4 lb3; have cb4 := bx4.cell; have fb4 := bx4.frozen; have lb4 := bx4.lt)
            | (go_simp; go_at_call 129; refine (raised_any _ G O.length _ own4.sl (by omega) (by omega) HP.out).mono ?_; rintro e w5 ⟨v5, rfl, own5, hb5⟩; have bx5 := Boxed.up bx4 hb5 lb4; have cb5 := bx5.cell; have fb5 := bx5.frozen; have lb5 := bx5.lt; have z5 : w4.heap.size ≤ w5.heap.size := hb5.size; have z4 : w3.heap.size ≤ w4.heap.size := hb4.size))
          all_goals
            have h45 : Below w3.heap.size w3 w5 := Below.tr (Below.undrew hb4) hb5
            have hbz : Below (M + 2) w3 w6 := (h45.mono (by omega)).trans hb6
            have kst6 := HST3.out.upB hbz (by omega)
            have cS := Blk.cell (i := k) (v := .int .i64 (S.getD k 0)) kst6 (ints_cell (by rw [HS4.out]; exact hlt))
            have fS := Blk.frozen kst6 k
            have lS := kst6.lt
            have HBZ := Lib.hid hbz
            have HO6 := Lib.hid own6
            have HX6 := Lib.hid bx6
            have HST6 := Lib.hid kst6
            clear h45 hbz kst6 own6 bx6 hb4 hb5 hb6 own4 own5 bx4 bx5 hg6 cb4 fb4 cb5 fb5
            go_wp2
            go_roundw
            case rel =>
              have e9 : (((O.length + G.length : Nat) : Int) - 1) = (O.length : Int) + G.length - 1 := by omega
              refine ⟨k + 1, .slice A6 (O.length + G.length) c6, by omega, by go_num, ?_, ?_, ?_, ?_⟩
              · exact ((HB3.out.trans (HBZ.out.mono (by omega))).setCell (by show M ≤ M; omega) _).setCell (by show M ≤ M + 1; omega) _
              · exact Blk.other (Boxed.set _ HX6.out) (by show M ≠ M + 1; omega) _
              · rw [HBs.out, baseStep, HSG.out, if_pos ⟨HS0.out, HLk.out⟩, HOS.out, HG.out]
                exact ownsRow_setCell_below (a := ⟨M + 1, k, none⟩) (own_put HX6.out HO6.out rfl (by simp)) (by show M + 1 < M + 2; omega) _
              · rw [HBs.out, baseStep, HSG.out, if_pos ⟨HS0.out, HLk.out⟩, HOS.out, HG.out]
                have h9 := (HST6.out.other (p := ⟨M, 0, none⟩) (by show M + 1 ≠ M; omega) (.slice A6 (O.length + G.length) c6)).set k (.int .i64 ((O.length : Int) + G.length - 1))
                rw [ints_set, ← e9] at h9
                rw [← e9]
                exact h9
            case measure => simp [intOf]; omega
        · rw [show hasL xs k = false by simpa using hL]
          have HLk := Lib.hid hL
          clear hL
          go_wp2_with fail
          go_roundw
          case rel =>
            have e0 : ¬ ((ws.getD k ⟨#[]⟩).size ≠ 0 ∧ hasL xs k = true) := fun h => HLk.out h.2
            refine ⟨k + 1, _, by omega, by go_num, HB3.out, HX3.out, ?_, ?_⟩
            · rw [HBs.out, baseStep, if_neg e0, HOS.out]; exact HO3.out
            · rw [HBs.out, baseStep, if_neg e0, HOS.out]; exact HST3.out
          case measure => simp [intOf]; omega
    · have hk4 : k = 4 := by omega
      subst hk4
      obtain ⟨wo, rfl⟩ : ∃ wo : World, wo = wr := ⟨_, rfl⟩
      have l13 := HST.out.lt
      have l00 : w.heap.size < wo.heap.size := by omega
      have HBO := Lib.hid (show (baseG xs ws 4).2 = S by rw [HOS.out])
      have HSK := Lib.hid (fun k hk => stand_ok xs ws HWS.out HL4.out hokx.out k hk)
      have HBl := Lib.hid (fun i hi => HBA.out.low i hi)
      rw [HOS.out] at HBl
      have hS0 := Lib.hid (show standG xs ws 0 = (O, []) by unfold standG; rw [HOS.out]; rfl)
      go_wp2_with fail
      go_loopw [10, 67] (fun sv q wr => ∃ (k : Nat) (vo : Value), k ≤ xs.length ∧ q = .int .i64 (k : Int) ∧ Below M w2 wr ∧ Boxed wr M 31 vo ∧ OwnRules wr (M + 2) vo (standG xs ws k).1 ∧ OwnInts wr (M + 2) sv (standG xs ws k).2 ∧ Blk wr (M + 1) ((S.map (Value.int .i64)).toArray) 154) (fun _ q _ => xs.length - (intOf q).toNat)
      case atStart =>
        refine ⟨0, _, Nat.zero_le _, rfl, HB.out.alloc (by omega) _, Boxed.alloc HX1.out _, ?_, ?_, HST.out.alloc _⟩
        · rw [hS0.out]; exact HO.out.alloc _
        · rw [hS0.out]; exact OwnInts.empty rfl (by omega)
      case round =>
        obtain ⟨k, vo, hk, rfl, hb, hbox, hown, hi, hst⟩ := hrel
        have hsk := HSK.out k hk
        have hlO := hsk.len
        have hlS := hsk.ls
        have hlow := hsk.low
        have HOK := Lib.hid hsk.ok
        have HNx := Lib.hid (fun r hr => standG_succ (xs := xs) (ws := ws) (k := k) (r := r) hr)
        rw [HBO.out] at HNx
        obtain ⟨P, T, hPT⟩ : ∃ P T, standG xs ws k = (P, T) := ⟨_, _, rfl⟩
        have HPT := Lib.hid hPT
        rw [hPT] at hown hi hlO hlS hlow HOK HNx
        replace hown : OwnRules wr (M + 2) vo P := hown
        replace hi : OwnInts wr (M + 2) u10 T := hi
        replace hlO : P.length ≤ 8016 + k := hlO
        replace hlS : T.length = k := hlS
        have HTl := Lib.hid hlS
        have HLow := Lib.hid hlow
        have HB5 := Lib.hid hb
        have HX5 := Lib.hid hbox
        have HO5 := Lib.hid hown
        have HI5 := Lib.hid hi
        have HST5 := Lib.hid hst
        have cb5 := hbox.cell
        have fb5 := hbox.frozen
        have lb5 := hbox.lt
        have l15 := hst.lt
        obtain ⟨A5, c5, rfl, _⟩ := own_nil hown
        obtain ⟨A7, c7, rfl, _⟩ := own_nil hi
        have HTl2 := Lib.hid (show T.length ≤ 1099511627775 by rw [hlS]; omega)
        have HPl2 := Lib.hid (show P.length ≤ 1099511627775 by omega)
        clear hb hbox hown hi hst hPT hsk hlow hlS
        by_cases hlt2 : k < xs.length
        · obtain ⟨AG, cG, eG, _, _, hrow⟩ := HS2.out
          injection eG with eG1 eG2 eG3
          subst eG1
          obtain ⟨b, o, rfl, hbl, hcell⟩ := hrow.rule hlt2
          obtain ⟨r, hr⟩ : ∃ r, xs[k]? = some r := ⟨_, List.getElem?_eq_getElem hlt2⟩
          obtain ⟨g0, g1, g2⟩ := hcell k r hr
          have hbl2 : b < M := by rw [HM.out]; exact hbl
          have hc0 := (HB5.out.cell (p := ⟨b, o + k * 3, none⟩) hbl2).trans g0
          have hc1 := (HB5.out.cell (p := ⟨b, o + k * 3 + 1, none⟩) hbl2).trans g1
          have hc2 := (HB5.out.cell (p := ⟨b, o + k * 3 + 2, none⟩) hbl2).trans g2
          have lbw : b < wr.heap.size := by omega
          have Hr := Lib.hid hr
          have hor := hokx.out k r hr
          have HN := Lib.hid (HNx.out r hr)
          have hki : (k : Int) < (xs.length : Int) := by omega
          clear hcell hrow g0 g1 g2 hr eG2 eG3 HNx
          cases hpr : r.pair with
          | false =>
            have he1 : r.letter.toList.isEmpty = false := by rw [isEmpty_size]; simpa [GRule.pair] using hpr
            have he2 : (!r.letter.toList.isEmpty) = true := by rw [he1]; rfl
            obtain ⟨q1, q2, q3⟩ := okRule_let hor hpr
            have hidx := letter_idx hor hpr
            have hpos : 0 < r.letter.size := by omega
            rw [getD_data hpos] at hidx
            have cS := Blk.cell (i := r.letter[0].toNat - 97) (v := .int .i64 (S.getD (r.letter[0].toNat - 97) 0)) HST5.out (ints_cell (by rw [HS4.out]; omega))
            obtain ⟨v, hv⟩ : ∃ v, S.getD (r.letter[0].toNat - 97) 0 = v := ⟨_, rfl⟩
            rw [hv] at cS
            have hst9 : standStep S (P, T) r = (P, T ++ [v]) := by
              unfold standStep
              rw [if_neg (by simp [hpr]), getD_data hpos, hv]
            rw [hst9] at HN
            have Hq1 := Lib.hid q1
            have hs1 : (r.letter.size : Int) = 1 := by omega
            clear hst9 hv hor q1 q2 q3
            go_wp2_with (first
              | (go_at_call 122; refine (isPair_any _ _ _ _).mono ?_; rintro e w' ⟨rfl, rfl⟩)
              | (at_builtin; go_must (refine list_push_int (base := M + 2) (v := .slice A7 T.length c7) (l := T) rfl _ _ rfl rfl rfl (by simp) ((HI5.out.alloc _).alloc _) HTl2.out (by simp; omega) ?_); intro v3 w3 own3 hg3 hv3; obtain ⟨A3, c3, rfl, _⟩ := own_nil own3))
            obtain ⟨t1, t2, t3, t4⟩ := stand_tail ((HB5.out.alloc (by omega) _).alloc (by simp; omega) _) (Boxed.alloc (Boxed.alloc HX5.out _) _) ((HO5.out.alloc _).alloc _) ((HI5.out.alloc _).alloc _) ((HST5.out.alloc _).alloc _) hg3 (by simp; omega)
            exact ⟨⟨k + 1, _, by omega, by go_num, t1, t2, by rw [HN.out]; exact t3, by rw [HN.out]; exact int_len own3, t4⟩, by simp [intOf]; omega⟩
          | true =>
            have he1 : r.letter.toList.isEmpty = true := by rw [isEmpty_size]; exact hpr
            have he2 : (!r.letter.toList.isEmpty) = false := by rw [he1]; rfl
            obtain ⟨q1, q2, q3, q4⟩ := okRule_at hor hpr
            obtain ⟨l1, hl1⟩ := Int.eq_ofNat_of_zero_le q1
            obtain ⟨l2, hl2⟩ := Int.eq_ofNat_of_zero_le q3
            have h1k : l1 < T.length := by rw [HTl.out]; omega
            have h2k : l2 < T.length := by rw [HTl.out]; omega
            obtain ⟨g, cap, e1, hgb, hgl, _, hgc⟩ := OwnInts.at_ HI5.out (j := l1) h1k
            injection e1 with e11 e12 e13
            subst e11
            have ca := hgc l1 h1k
            have cb' := hgc l2 h2k
            have hLa := HLow.out l1 (by rw [← HTl.out]; exact h1k)
            have hLb := HLow.out l2 (by rw [← HTl.out]; exact h2k)
            replace hLa : -1 ≤ T.getD l1 0 ∧ T.getD l1 0 < (P.length : Int) := hLa
            replace hLb : -1 ≤ T.getD l2 0 ∧ T.getD l2 0 < (P.length : Int) := hLb
            obtain ⟨a, ha⟩ : ∃ a, T.getD l1 0 = a := ⟨_, rfl⟩
            obtain ⟨bb, hbb⟩ : ∃ a, T.getD l2 0 = a := ⟨_, rfl⟩
            rw [ha] at ca hLa
            rw [hbb] at cb' hLb
            have hst9 : standStep S (P, T) r = if a < 0 then (P, T ++ [bb]) else if bb < 0 then (P, T ++ [a]) else (P ++ [pairR a bb], T ++ [(P.length : Int)]) := by
              unfold standStep
              rw [if_pos hpr, hl1, hl2, Int.toNat_natCast, Int.toNat_natCast, ha, hbb]
            rw [hst9] at HN
            rw [hl1] at hc1
            rw [hl2] at hc2
            have h1i : (l1 : Int) < (T.length : Int) := by omega
            have h2i : (l2 : Int) < (T.length : Int) := by omega
            clear hst9 hor q1 q2 q3 q4 hl1 hl2 ha hbb hgc e12 e13
            by_cases hA : a < 0
            · rw [if_pos hA] at HN
              go_wp2_with (first
                | (go_at_call 122; refine (isPair_any _ _ _ _).mono ?_; rintro e w' ⟨rfl, rfl⟩)
                | (at_builtin; go_must (refine list_push_int (base := M + 2) (v := .slice (some ⟨g, 0, none⟩) T.length c7) (l := T) rfl _ _ rfl rfl rfl (by simp) ((HI5.out.alloc _).alloc _) HTl2.out (by simp; omega) ?_); intro v3 w3 own3 hg3 hv3; obtain ⟨A3, c3, rfl, _⟩ := own_nil own3))
              obtain ⟨t1, t2, t3, t4⟩ := stand_tail ((HB5.out.alloc (by omega) _).alloc (by simp; omega) _) (Boxed.alloc (Boxed.alloc HX5.out _) _) ((HO5.out.alloc _).alloc _) ((HI5.out.alloc _).alloc _) ((HST5.out.alloc _).alloc _) hg3 (by simp; omega)
              exact ⟨⟨k + 1, _, by omega, by go_num, t1, t2, by rw [HN.out]; exact t3, by rw [HN.out]; exact int_len own3, t4⟩, by simp [intOf]; omega⟩
            · rw [if_neg hA] at HN
              by_cases hB : bb < 0
              · rw [if_pos hB] at HN
                go_wp2_with (first
                  | (go_at_call 122; refine (isPair_any _ _ _ _).mono ?_; rintro e w' ⟨rfl, rfl⟩)
                  | (at_builtin; go_must (refine list_push_int (base := M + 2) (v := .slice (some ⟨g, 0, none⟩) T.length c7) (l := T) rfl _ _ rfl rfl rfl (by simp) ((HI5.out.alloc _).alloc _) HTl2.out (by simp; omega) ?_); intro v3 w3 own3 hg3 hv3; obtain ⟨A3, c3, rfl, _⟩ := own_nil own3))
                obtain ⟨t1, t2, t3, t4⟩ := stand_tail ((HB5.out.alloc (by omega) _).alloc (by simp; omega) _) (Boxed.alloc (Boxed.alloc HX5.out _) _) ((HO5.out.alloc _).alloc _) ((HI5.out.alloc _).alloc _) ((HST5.out.alloc _).alloc _) hg3 (by simp; omega)
                exact ⟨⟨k + 1, _, by omega, by go_num, t1, t2, by rw [HN.out]; exact t3, by rw [HN.out]; exact int_len own3, t4⟩, by simp [intOf]; omega⟩
              · rw [if_neg hB] at HN
                go_wp2_with (first
                  | (go_at_call 122; refine (isPair_any _ _ _ _).mono ?_; rintro e w' ⟨rfl, rfl⟩))
                have f1 : Below M w2 ((wr.alloc (Obj.cells #[Value.string r.letter, Value.int IntKind.i64 l1, Value.int IntKind.i64 l2] 123)).alloc (Obj.cells #[Value.string r.letter, Value.int IntKind.i64 l1, Value.int IntKind.i64 l2] 123)) := (HB5.out.alloc (by omega) _).alloc (by simp; omega) _
                have f2 : Boxed ((wr.alloc (Obj.cells #[Value.string r.letter, Value.int IntKind.i64 l1, Value.int IntKind.i64 l2] 123)).alloc (Obj.cells #[Value.string r.letter, Value.int IntKind.i64 l1, Value.int IntKind.i64 l2] 123)) M 31 (.slice A5 P.length c5) := Boxed.alloc (Boxed.alloc HX5.out _) _
                have f3 : OwnRules ((wr.alloc (Obj.cells #[Value.string r.letter, Value.int IntKind.i64 l1, Value.int IntKind.i64 l2] 123)).alloc (Obj.cells #[Value.string r.letter, Value.int IntKind.i64 l1, Value.int IntKind.i64 l2] 123)) (M + 2) (.slice A5 P.length c5) P := (HO5.out.alloc _).alloc _
                have f4 : OwnInts ((wr.alloc (Obj.cells #[Value.string r.letter, Value.int IntKind.i64 l1, Value.int IntKind.i64 l2] 123)).alloc (Obj.cells #[Value.string r.letter, Value.int IntKind.i64 l1, Value.int IntKind.i64 l2] 123)) (M + 2) (.slice (some ⟨g, 0, none⟩) T.length c7) T := (HI5.out.alloc _).alloc _
                have f5 : Blk ((wr.alloc (Obj.cells #[Value.string r.letter, Value.int IntKind.i64 l1, Value.int IntKind.i64 l2] 123)).alloc (Obj.cells #[Value.string r.letter, Value.int IntKind.i64 l1, Value.int IntKind.i64 l2] 123)) (M + 1) ((S.map (Value.int .i64)).toArray) 154 := (HST5.out.alloc _).alloc _
                have f6 : Blk ((wr.alloc (Obj.cells #[Value.string r.letter, Value.int IntKind.i64 l1, Value.int IntKind.i64 l2] 123)).alloc (Obj.cells #[Value.string r.letter, Value.int IntKind.i64 l1, Value.int IntKind.i64 l2] 123)) wr.heap.size #[.string r.letter, .int .i64 l1, .int .i64 l2] 123 := by repeat (first | (apply Blk.new'; simp; done) | apply Blk.alloc | apply Blk.drew)
                have f7 : ((wr.alloc (Obj.cells #[Value.string r.letter, Value.int IntKind.i64 l1, Value.int IntKind.i64 l2] 123)).alloc (Obj.cells #[Value.string r.letter, Value.int IntKind.i64 l1, Value.int IntKind.i64 l2] 123)).cell? ⟨g, l1, none⟩ = some (.int .i64 a) := by simp [go_sem, ca, hgl]
                have f8 : ((wr.alloc (Obj.cells #[Value.string r.letter, Value.int IntKind.i64 l1, Value.int IntKind.i64 l2] 123)).alloc (Obj.cells #[Value.string r.letter, Value.int IntKind.i64 l1, Value.int IntKind.i64 l2] 123)).cell? ⟨g, l2, none⟩ = some (.int .i64 bb) := by simp [go_sem, cb', hgl]
                have f9 : wr.heap.size + 2 ≤ ((wr.alloc (Obj.cells #[Value.string r.letter, Value.int IntKind.i64 l1, Value.int IntKind.i64 l2] 123)).alloc (Obj.cells #[Value.string r.letter, Value.int IntKind.i64 l1, Value.int IntKind.i64 l2] 123)).heap.size := by simp
                clear ca cb' cb5 fb5 hc0 hc1 hc2
                generalize ((wr.alloc (Obj.cells #[Value.string r.letter, Value.int IntKind.i64 l1, Value.int IntKind.i64 l2] 123)).alloc (Obj.cells #[Value.string r.letter, Value.int IntKind.i64 l1, Value.int IntKind.i64 l2] 123)) = W1 at *
                have HF1 := Lib.hid f1
                have HF2 := Lib.hid f2
                have HF3 := Lib.hid f3
                have HF4 := Lib.hid f4
                have HF5 := Lib.hid f5
                have d0 := f6.cell (i := 0) (v := .string r.letter) rfl
                have d1 := f6.cell (i := 1) (v := .int .i64 l1) rfl
                have d2 := f6.cell (i := 2) (v := .int .i64 l2) rfl
                have d3 := f6.lt
                have e0 := f2.cell
                have e1 := f2.frozen
                have e2 := f2.lt
                have e3 : g < W1.heap.size := by omega
                clear f1 f2 f3 f4 f5 f6
                have e4 := Nat.le_trans (Nat.le_add_left 2 M |> fun _ => (by omega : M + 2 ≤ wr.heap.size + 2)) f9
                go_cut [] (fun wx => ∃ (A9 : Option Addr) (c9 : Nat), Below M w2 wx ∧ Boxed wx M 31 (.slice A9 (P.length + 1) c9) ∧ OwnRules wx (M + 2) (.slice A9 (P.length + 1) c9) (P ++ [pairR a bb]) ∧ OwnInts wx (M + 2) (.slice (some ⟨g, 0, none⟩) T.length c7) T ∧ Blk wx (M + 1) ((S.map (Value.int .i64)).toArray) 154)
                case first =>
                  go_region_law (first
                    | (refine step_push_rule (base := M + 2) (by rfl) _ _ (by rfl) (by rfl) (by first | rfl | simp) rfl (OwnRules.below HF3.out.drew hb4) HPl2.out (by omega) ?_; intro v5 w5 own5 hg5 hb5; have bx5 : Boxed w5 M 31 _ := Boxed.grown (Boxed.up (Boxed.mk' HF2.out) hb4 e2) (by decide) (OwnRules.below HF3.out.drew hb4) hg5; obtain ⟨A9, c9, rfl, _⟩ := own_nil own5; have e5 := bx5.cell; have e6 := bx5.frozen)
                    | (go_simp; go_at_call 130; refine (pairI64_any _ _ _).mono ?_; rintro e w4 ⟨rfl, hb4⟩; have bx4 := Boxed.up (Boxed.mk' HF2.out) hb4 e2; have e7 := bx4.cell; have e8 := bx4.frozen; have e9 := bx4.lt; have z4 : W1.heap.size ≤ w4.heap.size := hb4.size))
                  all_goals
                    have own4 : OwnInts w5 (M + 2) (.slice (some ⟨g, 0, none⟩) T.length c7) T := keep_ints (ownsRow_below HF4.out.drew hb4) (OwnRules.below HF3.out.drew hb4) hg5
                    have hbz : Below (M + 2) W1 w5 := (Below.drew (Below.refl _ _)).trans (((hb4.mono (by show M + 2 ≤ W1.heap.size; omega)).alloc (by omega) _).trans hb5)
                    have HX9 := Lib.hid bx5
                    have HO9 := Lib.hid own5
                    have HI9 := Lib.hid own4
                    have HB9 := Lib.hid (HF1.out.trans (hbz.mono (by omega)))
                    have HST9 := Lib.hid (HF5.out.upB hbz (by omega))
                    clear own4 hbz own5 hb4 hb5 hg5 bx4 d0 d1 d2 e0 e1 f7 f8 e7 e8
                    go_wp2_with fail
                    go_meet
                    refine ⟨A9, c9, HB9.out.setCell (Nat.le_refl _) _, Boxed.set _ bx5, own_put bx5 HO9.out rfl (by simp), ownsRow_setCell_below HI9.out (by show M < M + 2; omega) _, HST9.out.other (by show M + 1 ≠ M; omega) _⟩
                case rest =>
                  obtain ⟨A9, c9, hq1, hq2, hq3, hq4, hq5⟩ := hcut
                  have hz9 : M + 2 ≤ wc.heap.size := by have := (World.ownsRow.lt hq4 g rfl).2; omega
                  have HQ1 := Lib.hid hq1
                  have HQ2 := Lib.hid hq2
                  have HQ3 := Lib.hid hq3
                  have HQ4 := Lib.hid hq4
                  have HQ5 := Lib.hid hq5
                  have w0 := hq2.cell
                  have w3 := hq2.lt
                  have hp8 : P.length ≤ 8500 := by omega
                  clear hq1 hq2 hq3 hq4 hq5 d0 d1 d2 e0 e1 f7 f8
                  go_wp2_with (first
                    | (at_builtin; go_must (refine list_push_int (base := M + 2) (v := .slice (some ⟨g, 0, none⟩) T.length c7) (l := T) rfl _ _ rfl rfl rfl (by simp) HQ4.out HTl2.out hz9 ?_); intro v3 w3 own3 hg3 hv3; obtain ⟨A3, c3, rfl, _⟩ := own_nil own3))
                  obtain ⟨t1, t2, t3, t4⟩ := stand_tail HQ1.out HQ2.out HQ3.out HQ4.out HQ5.out hg3 hz9
                  refine ⟨⟨k + 1, _, by omega, by go_num, t1, t2, by rw [HN.out]; exact t3, ?_, t4⟩, by simp [intOf]; omega⟩
                  rw [HN.out]
                  have e8 : (P.length : Int) + 1 - 1 = (P.length : Int) := by omega
                  first
                    | exact int_len own3
                    | (rw [e8] at own3; exact int_len own3)
        · have hkn : k = xs.length := by omega
          subst hkn
          have HPM := Lib.hid (show mapP xs ws = (P, T) from HPT.out)
          have hmo : mapOut xs ws = if 400 < P.length then [] else if xs.length = 0 ∨ lastI T < 0 then [] else limOut (trimG (P.take ((lastI T).toNat + 1))) := by unfold mapOut; rw [HPM.out]
          have hmc : mapCode xs ws = if 400 < P.length then 3 else if xs.length = 0 ∨ lastI T < 0 then 0 else limCode (trimG (P.take ((lastI T).toNat + 1))) := by unfold mapCode; rw [HPM.out]
          have HMO := Lib.hid hmo
          have HMC := Lib.hid hmc
          have hKR := HK1.out.upB HB5.out z21
          have r1 := hKR.cell (i := 0) (v := .slice none 0 0) rfl
          have r2 := hKR.frozen 0
          have r3 := hKR.lt
          have HBw := Lib.hid (HB2.out.trans (HB5.out.mono (by omega)))
          clear hmo hmc hKR
          by_cases h400 : 400 < P.length
          · rw [if_pos h400] at HMO HMC
            go_wp2
            refine bodyPost_ret (v := .tuple #[.agg #[.slice none 0 0], .int .i64 3]) (by simp [results, Tryz.results96, go_sem, r1]) rfl ⟨HBw.out.setCell (by show w.heap.size ≤ w.heap.size + 1; omega) _, _, ?_, by rw [HMC.out]⟩
            rw [HMO.out]; exact World.ownsRow_nil _ _ _ _
          · rw [if_neg h400] at HMO HMC
            have hTx := HTl.out
            by_cases hx0 : xs.length = 0
            · rw [if_pos (.inl hx0)] at HMO HMC
              have g0 : ((T.length : Int) == 0) = true := by rw [beq_iff_eq]; omega
              have HX0 := Lib.hid hx0
              clear hx0 hTx
              go_wp2
              refine bodyPost_ret (v := .tuple #[.agg #[.slice none 0 0], .int .i64 0]) (by simp [results, Tryz.results96, go_sem, r1]) rfl ⟨HBw.out.setCell (by show w.heap.size ≤ w.heap.size + 1; omega) _, _, ?_, by rw [HMC.out]⟩
              rw [HMO.out]; exact World.ownsRow_nil _ _ _ _
            · have g0 : ((T.length : Int) == 0) = false := by rw [beq_eq_false_iff_ne]; omega
              have hlq := HLow.out (xs.length - 1) (by omega)
              replace hlq : -1 ≤ T.getD (xs.length - 1) 0 ∧ T.getD (xs.length - 1) 0 < (P.length : Int) := hlq
              have hlT : lastI T = T.getD (xs.length - 1) 0 := by rw [lastI, hTx]
              rw [← hlT] at hlq
              have HSI := Lib.hid (show Sl IntE wr wr.heap.size (.slice A7 T.length c7) T from OwnInts.sl HI5.out)
              obtain ⟨q, hq⟩ : ∃ q, lastI T = q := ⟨_, rfl⟩
              have LA := Lib.hid (fun W (hb : Below wr.heap.size wr W) => last_any _ T W (HSI.out.up hb))
              rw [hq] at LA hlq HMO HMC
              clear hlT hTx hq
              by_cases hq0 : q < 0
              · rw [if_pos (.inr hq0)] at HMO HMC
                go_wp2_with (first
                  | (go_at_call 87; refine (LA.out _ (Below.refl _ _)).mono ?_; rintro e w' ⟨rfl, rfl⟩))
                refine bodyPost_ret (v := .tuple #[.agg #[.slice none 0 0], .int .i64 0]) (by simp [results, Tryz.results96, go_sem, r1]) rfl ⟨HBw.out.setCell (by show w.heap.size ≤ w.heap.size + 1; omega) _, _, ?_, by rw [HMC.out]⟩
                rw [HMO.out]; exact World.ownsRow_nil _ _ _ _
              · rw [if_neg (fun h => h.elim hx0 hq0)] at HMO HMC
                obtain ⟨n, rfl⟩ := Int.eq_ofNat_of_zero_le (show 0 ≤ q by omega)
                rw [Int.toNat_natCast] at HMO HMC
                have hnP : n + 1 ≤ P.length := by omega
                have TR := Lib.hid (fun W (hb : Below wr.heap.size wr W) => trimmed_any (.slice A5 (n + 1) c5) (P.take (n + 1)) W ((sl_take (HO5.out.sl) (m := n + 1) hnP).up hb) (by rw [List.length_take]; omega) (okAll_take HOK.out (n + 1)))
                have hTrl : (trimG (P.take (n + 1))).length ≤ 8500 := by
                  have h1 := trimG_len (P.take (n + 1))
                  rw [List.length_take] at h1; omega
                obtain ⟨R, hR⟩ : ∃ R, trimG (P.take (n + 1)) = R := ⟨_, rfl⟩
                rw [hR] at TR HMO HMC hTrl
                have hcP : (P.length : Int) ≤ c5 := by omega
                have htn : ((n : Int) + 1).toNat = n + 1 := by omega
                clear hR hq0 hlq
                go_wp2_with (first
                  | (go_at_call 87; refine (LA.out _ (Below.refl _ _)).mono ?_; rintro e w' ⟨rfl, rfl⟩))
                have cb7 := HX5.out.cell
                have lb7 := HX5.out.lt
                have j1 : 0 ≤ (n : Int) + 1 := by omega
                have j2 : (n : Int) + 1 ≤ (c5 : Int) := by omega
                have j3 : IntKind.i64.wrap ((n : Int) + 1) = (n : Int) + 1 := IntWalk.i64_in _ (by omega)
                have HR := Lib.hid (show R.length ≤ 1099511627776 by omega)
                go_region_law (first
                  | (go_simp; go_at_call 87; refine (LA.out _ (by repeat (first | exact Below.refl _ _ | refine Below.drew ?_))).mono ?_; rintro e w' ⟨rfl, rfl⟩)
                  | (go_simp; go_at_call 98; refine (TR.out _ (by repeat (first | exact Below.refl _ _ | refine Below.drew ?_))).mono ?_; rintro e w6 ⟨hb6, v6, own6, rfl⟩)
                  | (go_simp; go_at_call 104; refine (orLimit_any _ _ _ _ own6 HR.out).mono ?_; rintro e w7 ⟨hb7, v7, own7, rfl⟩; obtain ⟨A7', c7', rfl, _⟩ := own_nil own7; have hb8 : Below wr.heap.size wr w7 := Below.tr (Below.undrew hb6) hb7; have hKR8 := (HK1.out.upB HB5.out z21).up hb8; have s1 := hKR8.cell (i := 0) (v := .slice none 0 0) rfl; have s2 := hKR8.frozen 0; have s3 := hKR8.lt))
                all_goals
                  have HB8 := Lib.hid (Below.tr HBw.out hb8)
                  have HO8 := Lib.hid own7
                  have hz8 : wr.drew.heap.size = wr.heap.size := rfl
                  clear hb6 hb7 hb8 own6 own7 r1 r2 r3 j1 j2 j3 htn
                  go_wp2
                  refine bodyPost_ret (v := .tuple #[.agg #[.slice A7' (limOut R).length c7'], .int .i64 (limCode R)]) (by simp [results, Tryz.results96, go_sem, s1]) rfl ⟨HB8.out.setCell (by show w.heap.size ≤ w.heap.size + 1; omega) _, _, ?_, by rw [HMC.out]⟩
                  rw [HMO.out]
                  exact ownsRow_more (ownsRow_setCell_below HO8.out (a := ⟨w.heap.size + 1, 0, none⟩) (by show w.heap.size + 1 < wr.heap.size; omega) _) (by show w.heap.size ≤ wr.heap.size; omega)
end Go.Proofs.YtfapnipmgmpgaaaGreatDoor

namespace Go.Proofs
open Go.Shelf Go.RowKit
def Tryz.laysM173_ren : Go.Shelf.Ren := ⟨fun | 173 => 153 | 246 => 171 | 283 => 181 | 284 => 182 | 285 => 183 | 286 => 184 | 129 => 190 | 317 => 189 | 318 => 191 | 319 => 192 | 320 => 193 | 337 => 195 | 338 => 196 | n => n, fun | 2 => 2 | 3 => 3 | 9 => 9 | 4 => 4 | 171 => 203 | 0 => 0 | 53 => 170 | 37 => 139 | 5 => 5 | 173 => 206 | 212 => 222 | 51 => 218 | 20 => 20 | 213 => 223 | 46 => 173 | 232 => 229 | 233 => 230 | n => n, fun | 17 => 5 | 18 => 6 | 19 => 7 | n => n⟩
theorem Tryz.laysM173 : Go.Proofs.LaysM.n173 Tryz.prog Tryz.laysM173_ren := {
  mixed := by kernel_rfl
  f129 := Tryz.func190.trans (congrArg some (by kernel_rfl))
  f173 := Tryz.func153.trans (congrArg some (by kernel_rfl))
  f246 := Tryz.func171.trans (congrArg some (by kernel_rfl))
  f283 := Tryz.func181.trans (congrArg some (by kernel_rfl))
  f284 := Tryz.func182.trans (congrArg some (by kernel_rfl))
  f285 := Tryz.func183.trans (congrArg some (by kernel_rfl))
  f286 := Tryz.func184.trans (congrArg some (by kernel_rfl))
  f317 := Tryz.func189.trans (congrArg some (by kernel_rfl))
  f318 := Tryz.func191.trans (congrArg some (by kernel_rfl))
  f319 := Tryz.func192.trans (congrArg some (by kernel_rfl))
  f320 := Tryz.func193.trans (congrArg some (by kernel_rfl))
  f337 := Tryz.func195.trans (congrArg some (by kernel_rfl))
  f338 := Tryz.func196.trans (congrArg some (by kernel_rfl))
  t0 := Tryz.underlying0
  a0 := Tryz.isAgg0
  z0 := Tryz.sizeOf0
  v0 := Tryz.zeroValue0
  t2 := Tryz.underlying2
  a2 := Tryz.isAgg2
  z2 := Tryz.sizeOf2
  v2 := Tryz.zeroValue2
  t3 := Tryz.underlying3
  a3 := Tryz.isAgg3
  z3 := Tryz.sizeOf3
  v3 := Tryz.zeroValue3
  t4 := Tryz.underlying4
  a4 := Tryz.isAgg4
  z4 := Tryz.sizeOf4
  v4 := Tryz.zeroValue4
  t5 := Tryz.underlying5
  a5 := Tryz.isAgg5
  z5 := Tryz.sizeOf5
  v5 := Tryz.zeroValue5
  t9 := Tryz.underlying9
  a9 := Tryz.isAgg9
  z9 := Tryz.sizeOf9
  v9 := Tryz.zeroValue9
  t20 := Tryz.underlying20
  a20 := Tryz.isAgg20
  z20 := Tryz.sizeOf20
  v20 := Tryz.zeroValue20
  t37 := Tryz.underlying139
  a37 := Tryz.isAgg139
  z37 := Tryz.sizeOf139
  v37 := Tryz.zeroValue139
  t46 := Tryz.underlying173
  a46 := Tryz.isAgg173
  z46 := Tryz.sizeOf173
  v46 := Tryz.zeroValue173
  t51 := Tryz.underlying218
  a51 := Tryz.isAgg218
  z51 := Tryz.sizeOf218
  v51 := Tryz.zeroValue218
  t53 := Tryz.underlying170
  a53 := Tryz.isAgg170
  z53 := Tryz.sizeOf170
  v53 := Tryz.zeroValue170
  t171 := Tryz.underlying203
  a171 := Tryz.isAgg203
  z171 := Tryz.sizeOf203
  v171 := Tryz.zeroValue203
  t173 := Tryz.underlying206
  a173 := Tryz.isAgg206
  z173 := Tryz.sizeOf206
  v173 := Tryz.zeroValue206
  t212 := Tryz.underlying222
  a212 := Tryz.isAgg222
  z212 := Tryz.sizeOf222
  v212 := Tryz.zeroValue222
  t213 := Tryz.underlying223
  a213 := Tryz.isAgg223
  z213 := Tryz.sizeOf223
  t232 := Tryz.underlying229
  a232 := Tryz.isAgg229
  z232 := Tryz.sizeOf229
  v232 := Tryz.zeroValue229
  t233 := Tryz.underlying230
  a233 := Tryz.isAgg230
  z233 := Tryz.sizeOf230
  v233 := Tryz.zeroValue230
  g17 := by kernel_rfl
  g18 := by kernel_rfl
  g19 := by kernel_rfl
  i0 := by kernel_rfl
  i2 := by kernel_rfl
  i3 := by kernel_rfl
  i4 := by kernel_rfl
  i5 := by kernel_rfl
  i9 := by kernel_rfl
  i20 := by kernel_rfl
  i37 := by kernel_rfl
  i46 := by kernel_rfl
  i51 := by kernel_rfl
  i53 := by kernel_rfl
  i171 := by kernel_rfl
  i173 := by kernel_rfl
  i212 := by kernel_rfl
  i232 := by kernel_rfl
  i233 := by kernel_rfl
  m17 := by kernel_rfl
  m18 := by kernel_rfl
  m19 := by kernel_rfl }
open Go.RowKit Go.Sort Go.Lib in
/-- strconv.FormatInt: "FormatInt returns the string representation of i in the given base": AT BASE 10: i's decimal numeral, for every int64. (LAID: no walk: one application.) -/
theorem Tryz.strconv_FormatInt_10 (n : Int) (h0 : -9223372036854775808 ≤ n) (h1 : n ≤ 9223372036854775807) (w : World) (htab : Lib.TabIs Tryz.prog w "internal/strconv.uint64pow10" .u64 Lib.pow10Tab) :
    Calls Tryz.prog 153 #[.int .i64 n, .int .i64 10] w fun e w' => e = .returned (.string ⟨(Lib.itoa n).toArray⟩) ∧ ∃ k os, w' = grow (w.drewN k) os := Any.strconv_FormatInt_10 Tryz.laysM173 n h0 h1 w htab
end Go.Proofs

namespace Go.Proofs.YtfapnipmgmpgaaaGreatDoor
open Go.RowKit

theorem tab_below {P : Program} {w w' : World} {nm : String} {k : IntKind} {zs : List Int} (h : Lib.TabIs P w nm k zs) (hb : Below w.heap.size w w') : Lib.TabIs P w' nm k zs := by
  unfold Lib.TabIs World.var? at h ⊢
  obtain ⟨g, hg, h2⟩ := Option.bind_eq_some_iff.1 h
  rw [hg]
  simp only [Option.bind_some]
  have hlt : g < w.heap.size := by
    rcases Nat.lt_or_ge g w.heap.size with h' | h'
    · exact h'
    · rw [Array.getElem?_eq_none h'] at h2; cases h2
  rw [hb.block g hlt]; exact h2
end Go.Proofs.YtfapnipmgmpgaaaGreatDoor

