import Derived.Test.YtoemoifeiigkoaaJoin3
namespace Go.Proofs.Ytoemoifeiigkoaa
open Go.RowKit

/-- One rule appended in a region that does not draw. -/
theorem list_push_rule {W : World} {ops : Array Oper} {rest : List Oper} {o : Oper} {a : Act} {Q : Exit → Act → World → Prop} (hgd : o.guard = none) (s x : Operand)
    (ho : o.op = .call { callee := .builtin .append, args := #[s, x], argTypes := #[26, 26] }) {t : ByteArray} {p q : Int} {base : Nat} {v : Value} {l : List GRule}
    (hs : a.eval s = v) {N : Nat} (hx : a.eval x = .slice (some ⟨N, 0, none⟩) 1 1) (hN : N = W.heap.size) (hown : OwnRules W base v l) (hlen : l.length ≤ 1099511627775) (hbase : base ≤ W.heap.size)
    (h : ∀ v' w', OwnRules w' base v' (l ++ [⟨t, p, q⟩]) → (W.alloc (.cells #[.string t, .int .i64 p, .int .i64 q] 171)).grownBy w' v.ownBlock → Below base (W.alloc (.cells #[.string t, .int .i64 p, .int .i64 q] 171)) w' → wpList Try.prog ops Q rest (a.put o.dst v') w') :
    wpList Try.prog ops Q (o :: rest) a (W.alloc (.cells #[.string t, .int .i64 p, .int .i64 q] 171)) :=
  wpList_plain hgd fun K hK => by
    have := step_push_rule (E := True) (K := K) (ops := ops) (Q := Q) hgd s x ho hs hx hN hown hlen hbase (fun v' w' h1 h2 h3 => hK _ _ (h v' w' h1 h2 h3))
    rwa [if_pos (by simp [Region.wanted, hgd])] at this

theorem own_put {w5 : World} {K base n c5 : Nat} {A5 : Option Addr} {L M : List GRule} {vo : Value} (bx : Boxed w5 K 28 vo) (own : OwnRules w5 base (.slice A5 L.length c5) L) (hM : L = M) (hn : M.length = n) :
    OwnRules (w5.setCell ⟨K, 0, none⟩ (.slice A5 n c5)) base (.slice A5 n c5) M := by
  subst hM; subst hn; exact ownsRow_setCell_other (a := ⟨K, 0, none⟩) own (bx.not_row (by decide) own).symm _

end Go.Proofs.Ytoemoifeiigkoaa
