import Derived.Test.YtoemoifeiigkoaaPart2
import Derived.Test.YtoemoifeiigkoaaClone
namespace Go.Proofs.Ytoemoifeiigkoaa
open Go.RowKit

/-- The closure's cover: a box that holds the pieces met so far. -/
def CJ (bc base : Nat) (C : Nat → Prop) (s : List Nat) (w : World) : Prop :=
  ∃ v, Boxed w bc 35 v ∧ OwnInts w base v (nI s) ∧ base ≤ w.heap.size ∧ ¬ C bc ∧ ∀ g, v.ownBlock = some g → ¬ C g
theorem CJ.ext {bc base : Nat} : ∀ (C : Nat → Prop) (s : List Nat) (w w' : World), CJ bc base C s w → Below w.heap.size w w' → (∀ b, C b → b < w.heap.size) → CJ bc base (ext C w.heap.size w'.heap.size) s w' := by
  rintro C s w w' ⟨v, hb, ho, hn, h1, h2⟩ hbl hC
  refine ⟨v, Boxed.up hb hbl hb.lt, ownsRow_below ho hbl, Nat.le_trans hn hbl.size, ?_, fun g hg => ?_⟩
  · rintro (h | h)
    · exact h1 h
    · have := hb.lt; omega
  · have := (World.ownsRow.lt ho g hg).2
    rintro (h | h)
    · exact h2 g hg h
    · omega
/-- 'append(s, x)' of one number, with the place of the new row. -/
theorem list_push_int {W : World} {ops : Array Oper} {rest : List Oper} {o : Oper} {a : Act} {Q : Exit → Act → World → Prop} (hgd : o.guard = none) (s x : Operand)
    (ho : o.op = .call { callee := .builtin .append, args := #[s, x], argTypes := #[35, 35] }) {y : Int} {base : Nat} {v : Value} {l : List Int}
    (hs : a.eval s = v) {N : Nat} (hx : a.eval x = .slice (some ⟨N, 0, none⟩) 1 1) (hN : N = W.heap.size) (hown : OwnInts W base v l) (hlen : l.length ≤ 1099511627775) (hbase : base ≤ W.heap.size)
    (h : ∀ v' w', OwnInts w' base v' (l ++ [y]) → (W.alloc (.cells #[.int .i64 y] 2)).grownBy w' v.ownBlock → (v'.ownBlock = v.ownBlock ∨ v'.ownBlock = some (W.heap.size + 1)) → wpList Try.prog ops Q rest (a.put o.dst v') w') :
    wpList Try.prog ops Q (o :: rest) a (W.alloc (.cells #[.int .i64 y] 2)) :=
  wpList_plain hgd fun K hK => by
    subst hN
    have := step_push_int (E := True) (K := K) (ops := ops) (Q := Q) hgd s x ho hs hx (Cell1.new rfl).1 (hown.alloc _) (by omega) (by simp; omega) (fun v' w' h1 h2 h3 => hK _ _ (h v' w' h1 h2 (by simpa using h3)))
    rwa [if_pos (by simp [Region.wanted, hgd])] at this

theorem coverCl_any (bc base : Nat) (C : Nat → Prop) (s : List Nat) (r : Nat) (w : World) (hJ : CJ bc base C s w) (hs : s.length ≤ 1099511627775) (hC : ∀ b, C b → b < w.heap.size) :
    Calls Try.prog 177 #[.int .i64 r, .pointer (some ⟨bc, 0, none⟩)] w (TakePost (CJ bc base) C (s ++ [r]) w) := by
  obtain ⟨v, hb, ho, hn, h1, h2⟩ := hJ
  obtain ⟨A, c, rfl, _⟩ := own_nil ho
  have hcb := hb.cell
  have hlb := hb.lt
  have Hb := Lib.hid hb
  have Ho := Lib.hid ho
  have HL : Hid ((nI s).length ≤ 1099511627775) := by rw [Hid, nI_len]; exact hs
  have H1 := Lib.hid h1
  have H2 := Lib.hid h2
  have HC := Lib.hid hC
  clear hb ho h1 h2 hC hs
  go_enter Try.func177, Try.ntmps177
  go_wp2_with (first
    | (at_builtin; go_must (refine list_push_int (base := base) (v := .slice A (nI s).length c) (l := nI s) rfl _ _ rfl rfl rfl rfl Ho.out HL.out hn ?_); intro v2 w2 own2 hg2 hv2; obtain ⟨A2, c2, rfl, _⟩ := own_nil own2; have bx2 : Boxed w2 bc 35 _ := Boxed.grown Hb.out (by decide) Ho.out hg2; have hcb2 := bx2.cell; have hfb2 := bx2.frozen))
  go_end0
  have hsz : w.heap.size + 1 ≤ w2.heap.size := by have := hg2.size; simpa using this
  have hne : ∀ b, C b → some b ≠ (Value.slice A (nI s).length c).ownBlock := fun b hb e => H2.out b e.symm hb
  have el : (nI s).length + 1 = (nI s ++ [(r : Int)]).length := by simp
  rw [el]
  refine ⟨rfl, C, fun _ h => h, fun b hb => ?_, ⟨_, Boxed.set _ bx2, ?_, ?_, H1.out, fun g hg hCg => ?_⟩, ?_⟩
  · have := HC.out b hb; simp; omega
  · rw [nI_append]
    exact ownsRow_setCell_other (a := ⟨bc, 0, none⟩) own2 (bx2.not_row (by decide) own2).symm _
  · simp; omega
  · rcases hv2 with e | e
    · rw [e] at hg; exact H2.out g hg hCg
    · rw [e] at hg
      have := Option.some.inj hg
      have := HC.out g hCg
      omega
  · refine ⟨hg2.os, hg2.tape, hg2.output, by simp; omega, fun b hb => ?_⟩
    have hbl := HC.out b hb
    have hbc : b ≠ bc := fun e => H1.out (e ▸ hb)
    rw [Below.heap_setCell _ _ _ _ hbc]
    have := hg2.block b (by simp; omega) (hne b hb)
    rw [this]
    exact Below.heap_alloc _ _ _ hbl
end Go.Proofs.Ytoemoifeiigkoaa
