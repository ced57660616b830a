import Derived.Test.YthidgjdjijjkoaaDoorJoin2
import Derived.Deep.RegionLaw
import Derived.RangeFuncBox
namespace Go.Proofs.YthidgjdjijjkoaaDoor
open Go.RowKit

theorem l02Told_any (base : Nat) (v : Value) (xs : List GRule) (w : World) (h : OwnRules w base v xs) (hsm : SmallL xs) :
    Calls Tryd.prog 26 #[.agg #[v]] w (LimPost base xs w) := by
  have h1 := fun o o' => (h.sl.below (((Below.refl w.heap.size w).alloc (Nat.le_refl _) o).alloc (by simp) o')).le (B' := ((w.alloc o).alloc o').heap.size) (by simp; omega)
  have hv : v.ownBlock ≠ some (w.heap.size + 1) := fun e => by have := (World.ownsRow.lt h _ e).2; omega
  have H1 := Lib.hid h1
  have H := Lib.hid h
  have Hv := Lib.hid hv
  clear h1 hv
  obtain ⟨A, c, rfl, _⟩ := own_nil h
  clear h
  go_enter Tryd.func26, Tryd.ntmps26
  go_wp2_with fail
  refine (l02Ok_any _ _ _ _ _ (by simp [go_sem]) (by first | omega | (simp; done) | (simp; omega)) (H1.out _ _) hsm).mono ?_
  rintro e w1 ⟨rfl, hb1⟩
  obtain ⟨hc1, hf1⟩ := bcell hb1
  have hz1 : w.heap.size + 1 < w1.heap.size := by have := hb1.size; simp at this; omega
  have hc2 : w1.cell? ⟨w.heap.size + 1, 0, none⟩ = some (.slice none 0 0) := by rw [hc1 _ _ (by simp)]; simp [go_sem]
  have hf2 : w1.frozen? ⟨w.heap.size + 1, 0, none⟩ = false := by rw [hf1 _ _ (by simp)]; simp [go_sem]
  have hc3 : w1.cell? ⟨w.heap.size, 0, none⟩ = some (.slice A xs.length c) := by rw [hc1 _ _ (by simp; omega)]; simp [go_sem]
  have Hb1 := Lib.hid (((Below.refl w.heap.size w).alloc (Nat.le_refl _) (Obj.cells #[Value.slice A xs.length c] 34)).alloc (by simp) (Obj.cells #[Value.slice none 0 0] 34) |>.trans (hb1.mono (by simp; omega)))
  clear hc1 hf1 hb1
  by_cases hok : gramOk xs = true
  · have hok2 : (!gramOk xs) = false := by simp [hok]
    have Hok := Lib.hid hok
    clear hok
    go_wp2
    refine bodyPost_ret (v := .tuple #[.agg #[.slice A xs.length c], .int .i64 0]) (by simp [results, Tryd.results26, go_sem, hc2]) rfl ⟨?_, _, ?_, by rw [limCode, if_pos Hok.out]⟩
    · exact Hb1.out.setCell (by show w.heap.size ≤ w.heap.size + 1; omega) _
    · rw [limOut, if_pos Hok.out]
      refine own_keep (OwnRules.below H.out Hb1.out) fun g hg => Below.heap_setCell _ _ _ _ (fun e => Hv.out ?_)
      rw [hg, e]
  · have hok2 : (!gramOk xs) = true := by simp [hok]
    have Hok := Lib.hid hok
    clear hok
    go_wp2
    refine bodyPost_ret (v := .tuple #[.agg #[.slice none 0 0], .int .i64 3]) (by simp [results, Tryd.results26, go_sem, hc2]) rfl ⟨?_, _, ?_, by rw [limCode, if_neg Hok.out]⟩
    · exact Hb1.out.setCell (by show w.heap.size ≤ w.heap.size + 1; omega) _
    · rw [limOut, if_neg Hok.out]; exact World.ownsRow_nil _ _ _ _

theorem step_push_rule {W : World} {ops : Array Oper} {o : Oper} {a : Act} {K : Act → World → Prop} {Q : Exit → Act → World → Prop} {E : Prop} (hgd : o.guard = none) (s x : Operand)
    (ho : o.op = .call { callee := .builtin .append, args := #[s, x], argTypes := #[32, 32] }) {t : ByteArray} {p q : Int} {base : Nat} {v : Value} {l : List GRule}
    (hs : a.eval s = v) {N : Nat} (hx : a.eval x = .slice (some ⟨N, 0, none⟩) 1 1) (hN : N = W.heap.size) (hown : OwnRules W base v l) (hlen : l.length ≤ 1099511627775) (hbase : base ≤ W.heap.size)
    (h : ∀ v' w', OwnRules w' base v' (l ++ [⟨t, p, q⟩]) → (W.alloc (.cells #[.string t, .int .i64 p, .int .i64 q] 56)).grownBy w' v.ownBlock → Below base (W.alloc (.cells #[.string t, .int .i64 p, .int .i64 q] 56)) w' → K (a.put o.dst v') w') :
    if Region.wanted o (yielded ops a.tmps) = true then Oper.wp Tryd.prog o a (W.alloc (.cells #[.string t, .int .i64 p, .int .i64 q] 56)) K Q else E := by
  subst hN
  refine step_append_rules (ys := [⟨t, p, q⟩]) (S := fun b => b = W.heap.size) hgd s x ho hs hx (hown.alloc _) ⟨_, 1, rfl, Nat.le_refl _, by simp [maxLen], fun _ => ⟨W.heap.size, 0, rfl, rfl, fun k r hk => ⟨r.cells, rfl, fun j u hu => ?_⟩⟩⟩ (by simp; omega) (by simp; omega) h
  have hk0 : k = 0 := by
    have := (List.getElem?_eq_some_iff.1 hk).1
    simp at this; exact this
  subst hk0
  simp at hk
  subst hk
  have hc : (W.alloc (.cells #[.string t, .int .i64 p, .int .i64 q] 56)).cell? ⟨W.heap.size, j, none⟩ = (#[Value.string t, .int .i64 p, .int .i64 q] : Array Value)[j]? := cell_of_row _ _ _ _ 56 (0, 0) (heap_alloc_new W _)
  simp only [Nat.zero_mul, Nat.zero_add]
  rw [hc]
  simpa [GRule.cells] using hu

theorem Boxed.mk' {w : World} {B : Nat} {t : TypeId} {v : Value} (h : w.heap[B]? = some (.cells #[v] t (0, 0))) : Boxed w.drew B t v := h
theorem Boxed.up {w w' : World} {B N : Nat} {t : TypeId} {v : Value} (h : Boxed w B t v) (hb : Below N w w') (hlt : B < N) : Boxed w' B t v := (hb.block B hlt).trans h
theorem Boxed.grown {w w' : World} {B base e s n : Nat} {t : TypeId} {v : Value} {xs : List Value} {o : Obj} (h : Boxed w B t v) (hte : t ≠ e) (own : w.ownsRow base e s v n xs) (hg : (w.alloc o).grownBy w' v.ownBlock) : Boxed w' B t v := (h.alloc o).kept hg (h.not_row hte own)

end Go.Proofs.YthidgjdjijjkoaaDoor
