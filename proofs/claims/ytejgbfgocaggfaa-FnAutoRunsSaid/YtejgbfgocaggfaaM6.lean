import Derived.Test.YtejgbfgocaggfaaM5
import Derived.Deep.CutRange
import Derived.Deep.DeepCutAuto
import Derived.Test.YtejgbfgocaggfaaM3
import Derived.WalkArith
import Derived.Deep.OwnRows
import Derived.Test.YtejgbfgocaggfaaM4
import Derived.IntWalk
import Derived.Test.YtejgbfgocaggfaaM2
import Derived.Test.YtejgbfgocaggfaaM1
import Derived.BigQuiet
import Derived.Shelf.Strconv.Itoa0
import Derived.Shelf.Strconv.Itoa1
import Derived.Shelf.LaysM
import Derived.Shelf.Strconv.Itoa2
import Derived.Shelf.Strconv.Itoa3
import Derived.Shelf.Strconv.Itoa4
import Derived.Test.YtejgbfgocaggfaaProg
import Derived.Lib.LaidTab
import Derived.WalkSmall
import Derived.Lib.OthersKept
import Derived.Lib.UnsafeStr
import Derived.Laws.IdiomStrings
import Derived.Lib.Builder
import Derived.Laws.Bits64b
namespace Go.Proofs.Ytejgbfgocaggfaa
open Go.RowKit
theorem list_push_rule {W : World} {ops : Array Oper} {rest : List Oper} {o : Oper} {a : Act} {Q : Exit → Act → World → Prop} (hgd : o.guard = none) (s x : Operand)
    (ho : o.op = .call { callee := .builtin .append, args := #[s, x], argTypes := #[29, 29] }) {t : ByteArray} {p q : Int} {base : Nat} {v : Value} {l : List GRule}
    (hs : a.eval s = v) {N : Nat} (hx : a.eval x = .slice (some ⟨N, 0, none⟩) 1 1) (hN : N = W.heap.size) (hown : OwnRules W base v l) (hlen : l.length ≤ 1099511627775) (hbase : base ≤ W.heap.size)
    (h : ∀ v' w', OwnRules w' base v' (l ++ [⟨t, p, q⟩]) → (W.alloc (.cells #[.string t, .int .i64 p, .int .i64 q] 138)).grownBy w' v.ownBlock → Below base (W.alloc (.cells #[.string t, .int .i64 p, .int .i64 q] 138)) w' → wpList Try.prog ops Q rest (a.put o.dst v') w') :
    wpList Try.prog ops Q (o :: rest) a (W.alloc (.cells #[.string t, .int .i64 p, .int .i64 q] 138)) :=
  wpList_plain hgd fun K hK => by
    have := step_push_rule (E := True) (K := K) (ops := ops) (Q := Q) hgd s x ho hs hx hN hown hlen hbase (fun v' w' h1 h2 h3 => hK _ _ (h v' w' h1 h2 h3))
    rwa [if_pos (by simp [Region.wanted, hgd])] at this
theorem own_block {w : World} {base e s n : Nat} {v : Value} {xs : List Value} (h : w.ownsRow base e s v n xs) {g : Nat} (hg : v.ownBlock = some g) : ∃ cur, w.heap[g]? = some (.cells cur e (0, 0)) := by
  rcases h.2 with ⟨rfl, _⟩ | ⟨g', cap, cur, rfl, _, hb, _⟩
  · cases hg
  · have : g' = g := by simpa [Value.ownBlock] using hg
    subst this; exact ⟨cur, hb⟩
theorem own_apart {w : World} {base base' e e' s s' n n' : Nat} {v v' : Value} {xs xs' : List Value} (h : w.ownsRow base e s v n xs) (h' : w.ownsRow base' e' s' v' n' xs') (hne : e ≠ e') : ∀ g, v.ownBlock = some g → some g ≠ v'.ownBlock := fun g hg hg' => by
  obtain ⟨c1, h1⟩ := own_block h hg
  obtain ⟨c2, h2⟩ := own_block h' hg'.symm
  rw [h1] at h2
  have := Option.some.inj h2
  injection this with _ h3; exact hne h3
section
variable {w0 W : World} {base bm bx : Nat} {X : GRule} {ks K : List GRule} {v4 v6 : Value} {S : List Int}
end
section
variable {w w' : World} {b : Nat} {N : List Bool} {l : List Int}
end
theorem boxed_other {W : World} {B B' o : Nat} {t : TypeId} {v : Value} (h : Boxed W B t v) (hne : B ≠ B') (u : Value) : Boxed (W.setCell ⟨B', o, none⟩ u) B t v := (Below.heap_setCell _ _ _ _ hne).trans h
theorem Row.take {α : Type} {E : Enc α} {w : World} {S : Nat → Prop} {A : Option Addr} {xs : List α} (h : Row E w S A xs) (m : Nat) : Row E w S A (xs.take m) := fun hn => by
  obtain ⟨b, o, rfl, hlt, hc⟩ := h (by simp at hn; omega)
  refine ⟨b, o, rfl, hlt, fun k x hx => hc k x ?_⟩
  rw [List.getElem?_take] at hx
  split at hx
  · exact hx
  · cases hx
end Go.Proofs.Ytejgbfgocaggfaa
namespace Go.Proofs
open Go.Shelf Go.RowKit
end Go.Proofs
namespace Go.Proofs.Ytejgbfgocaggfaa
open Go.RowKit
theorem W1_letters {xs : List GRule} {ls : List Int} (hl : lens xs = some ls) : ∀ (r : Nat), r < xs.length → ∀ c ∈ W1 xs r, 97 ≤ c.toNat ∧ c.toNat ≤ 100 := by
  intro r
  induction r using Nat.strongRecOn with
  | _ r ih =>
    intro hr c hc
    cases hp : (getR xs r).pair with
    | true =>
      obtain ⟨q1, q2, q3, q4, _⟩ := lens_pair hl hr hp
      rw [W1_pair hl hr hp, List.mem_append] at hc
      rcases hc with hc | hc
      · exact ih _ q2 (by omega) c hc
      · exact ih _ q4 (by omega) c hc
    | false =>
      rw [W1_let hp] at hc
      have hL := lens_isLet hl hr hp
      have hsz := isLet_size hL
      unfold isLet at hL
      simp at hL
      generalize (getR xs r).letter = s at *
      obtain ⟨⟨L⟩⟩ := s
      have hl : L.length = 1 := hsz
      obtain ⟨x, rfl⟩ := List.length_eq_one_iff.1 hl
      simp at hc hL
      subst hc
      omega
theorem wordG_letters {xs : List GRule} {ls : List Int} (hl : lens xs = some ls) : ∀ c ∈ wordG xs, 97 ≤ c.toNat ∧ c.toNat ≤ 100 := by
  intro c hc
  by_cases h0 : 0 < xs.length
  · rw [wordG_pos h0] at hc
    exact W1_letters hl _ (by omega) c hc
  · have hx : xs = [] := List.eq_nil_of_length_eq_zero (by omega)
    subst hx; simp [wordG] at hc
theorem cut_take {α : Type} (l : List α) (i : Int) : cutL l 0 i = l.take i.toNat := by unfold cutL; simp
theorem pieces_read {a : GAuto} (ha : autoOk a = true) {xs : List GRule} {ls : List Int} (hl : lens xs = some ls) (i : Int) {s : Nat} (hs : s < a.next.length) :
    (piecesL xs ls 0 i).foldl (stepM (mapsOf a.next xs)) s = readW a.next s ((wordG xs).take i.toNat) := by
  rw [fold_word ha hl _ _ (pieces_mem hl 0 i) hs, pieces_word hl, cut_take]
theorem sa_read {a : GAuto} (ha : autoOk a = true) {xs : List GRule} {ls : List Int} (hg : gramOk xs = true) (hl : lens xs = some ls) {i : Int} (h0 : 0 ≤ i) (hi : i ≤ lastI ls) :
    saC a i xs = 0 ∧ saV a i xs = (nowA a.next a.start.toNat (wordG xs) i.toNat : Nat) := by
  obtain ⟨p0, p1⟩ := autoOk_start ha
  have e1 : inR i 0 (gramLen xs) = true := by rw [gramLen_of hl]; simp [inR, h0, hi]
  have e0 : saC a i xs = 0 := by simp [saC, ha, hg, e1]
  refine ⟨e0, ?_⟩
  rw [saV, if_pos e0, hl]
  show (((aftR xs ls xs.length (xs.length - 1) i).foldl (stepM (mapsOf a.next xs)) a.start.toNat : Nat) : Int) = _
  rw [← aft_pieces hl hi, pieces_read ha hl i (by omega)]
  rfl
theorem rg_read {a : GAuto} (ha : autoOk a = true) {xs : List GRule} {ls : List Int} (hg : gramOk xs = true) (hl : lens xs = some ls) {s : Nat} (hs : s < a.next.length) :
    rgC a s xs = 0 ∧ rgV a s xs = (readW a.next s (wordG xs) : Nat) := by
  have h3 := (autoOk_get ha).2.2.1
  have e1 : inR (s : Int) 0 (a.states - 1) = true := by simp only [inR, Bool.and_eq_true, decide_eq_true_eq]; omega
  have e0 : rgC a s xs = 0 := by simp [rgC, ha, hg, e1]
  refine ⟨e0, ?_⟩
  have e2 : rgV a s xs = (endS a.next xs s : Nat) := by simp [rgV, ha, hg, e1]
  have h4 := wordG_len hl
  rw [e2, ← fold_all hl, pieces_read ha hl (lastI ls) hs, List.take_of_length_le (by omega)]
theorem vis_read {a : GAuto} (ha : autoOk a = true) {xs : List GRule} {ls : List Int} (hl : lens xs = some ls) :
    (visOut a xs ls (lastI ls)).length = a.next.length ∧ ∀ x, (visOut a xs ls (lastI ls)).getD x 0 = visV a.next x a.start.toNat (wordG xs) := by
  obtain ⟨p0, p1⟩ := autoOk_start ha
  obtain ⟨h1, h2⟩ := visOut_word ha (by omega) hl (j := lastI ls) (pieces_mem hl 0 _)
  have h4 := wordG_len hl
  refine ⟨h1, fun x => ?_⟩
  rw [h2, cut_take, List.take_of_length_le (by omega)]
theorem Try.infoBy : (Try.prog.info? 5).map (fun i => (i.zero, i.size, i.bytes)) = some (some (.int .u8 0), 1, 1) := by kernel_rfl
def OwnB (w : World) (base : Nat) (v : Value) (l : List UInt8) : Prop := w.ownsRow base 5 1 v l.length (Lib.byteCells l)
theorem byteCells_snoc (l : List UInt8) (x : UInt8) : Lib.byteCells (l ++ [x]) = Lib.byteCells l ++ [.int .u8 (x.toNat : Int)] := by simp [Lib.byteCells]
theorem OwnB.alloc {w : World} {base : Nat} {v : Value} {l : List UInt8} (h : OwnB w base v l) (o : Obj) : OwnB (w.alloc o) base v l := World.ownsRow.alloc h o
theorem OwnB.drew {w : World} {base : Nat} {v : Value} {l : List UInt8} (h : OwnB w base v l) : OwnB w.drew base v l := h
theorem OwnB.below {w w' : World} {base : Nat} {v : Value} {l : List UInt8} (h : OwnB w base v l) (hb : Below w.heap.size w w') : OwnB w' base v l := ownsRow_below h hb
theorem OwnB.empty {w : World} {base N : Nat} (hN : N = w.heap.size) (hb : base ≤ w.heap.size) : OwnB (w.alloc (Obj.cells #[] 5)) base (Value.slice (some ⟨N, 0, none⟩) 0 0) [] := by
  subst hN
  exact World.ownsRow_lit w #[] 0 hb (Nat.zero_le _) rfl
theorem OwnB.at_ {w : World} {base : Nat} {v : Value} {l : List UInt8} (h : OwnB w base v l) (h0 : 0 < l.length) : ∃ g cap, v = .slice (some ⟨g, 0, none⟩) l.length cap ∧ l.length ≤ cap ∧ g < w.heap.size ∧ ∀ t (ht : t < l.length), w.cell? ⟨g, t, none⟩ = some (.int .u8 (l[t].toNat : Int)) := by
  obtain ⟨g, cap, hv, hb, hlt, hc, hcell⟩ := own_form h h0
  exact ⟨g, cap, hv, hc.1, hlt, fun t ht => hcell t _ (by simp [Lib.byteCells, List.getElem?_eq_getElem ht])⟩
theorem convB (L : List UInt8) (b p n c : Nat) (W : World) (hn : n = L.length) (h : ∀ t (ht : t < L.length), W.cell? ⟨b, p + t, none⟩ = some (.int .u8 (L[t].toNat : Int))) :
    (convert 41 9 (.slice (some ⟨b, p, none⟩) n c)).run Try.prog W = .ok (.string ⟨L.toArray⟩) W := by
  subst hn
  exact run_convert_bytes_back (P := Try.prog) W 41 9 5 ⟨b, p, none⟩ c L Try.underlying41 Try.underlying5 Try.underlying9 (fun j hj => by
    have e : (⟨b, p, none⟩ : Addr).add j = ⟨b, p + j, none⟩ := by unfold Addr.add; split <;> simp_all
    rw [e]; exact h j hj)
theorem OwnB.string {w : World} {base n : Nat} {g : Nat} {c : Nat} {l : List UInt8} (h : OwnB w base (.slice (some ⟨g, 0, none⟩) n c) l) :
    (convert 41 9 (.slice (some ⟨g, 0, none⟩) n c)).run Try.prog w = .ok (.string ⟨l.toArray⟩) w := by
  have hn : n = l.length := by
    obtain ⟨A', c', hv, _⟩ := own_nil h
    injection hv
  refine convB l g 0 n c w hn fun t ht => ?_
  obtain ⟨g', cap, hv, _, _, hc⟩ := h.at_ (by omega)
  injection hv with e1 e2 e3
  injection e1 with e1
  injection e1 with e1
  subst e1
  rw [Nat.zero_add]; exact hc t ht
theorem OwnB.some_ {w : World} {base : Nat} {v : Value} {l : List UInt8} (h : OwnB w base v l) (h0 : 0 < l.length) : ∃ g c, v = .slice (some ⟨g, 0, none⟩) l.length c := by
  obtain ⟨g, c, hv, _⟩ := h.at_ h0
  exact ⟨g, c, hv⟩
theorem push_byte {W : World} {ops : Array Oper} {rest : List Oper} {o : Oper} {a : Act} {Q : Exit → Act → World → Prop} (hgd : o.guard = none) (s x : Operand)
    (ho : o.op = .call { callee := .builtin .append, args := #[s, x], argTypes := #[41, 41] }) {y : UInt8} {base : Nat} {v : Value} {l : List UInt8}
    (hs : a.eval s = v) {N : Nat} (hx : a.eval x = .slice (some ⟨N, 0, none⟩) 1 1) (hN : N = W.heap.size) (hown : OwnB W base v l) (hlen : l.length ≤ 1099511627776) (hbase : base ≤ W.heap.size)
    (h : ∀ v' w', OwnB w' base v' (l ++ [y]) → (W.alloc (.cells #[.int .u8 (y.toNat : Int)] 5)).grownBy w' v.ownBlock → Below base W w' → wpList Try.prog ops Q rest (a.put o.dst v') w') :
    wpList Try.prog ops Q (o :: rest) a (W.alloc (.cells #[.int .u8 (y.toNat : Int)] 5)) := by
  subst hN
  obtain ⟨i0, hi0, hz0, hz1, hz2⟩ := info_parts Try.infoBy
  refine wpList_push hgd s x 41 ho i0 (.int .u8 0) 1 1 Try.underlying41 hi0 hz0 hz1 hz2 rfl (by decide) hs hx rfl (by simp [Value.oneCell']) hown (by omega) (by omega) hbase ?_
  intro v' w' h1 h2 h3
  refine h v' w' ?_ h2 h3
  unfold OwnB
  rw [byteCells_snoc]
  simpa using h1
structure But (b : Nat) (w w' : World) : Prop where
  os : w'.os = w.os
  tape : w'.tape = w.tape
  output : w'.output = w.output
  size : w.heap.size ≤ w'.heap.size
  block : ∀ k, k < w.heap.size → k ≠ b → w'.heap[k]? = w.heap[k]?
theorem But.refl (b : Nat) (w : World) : But b w w := ⟨rfl, rfl, rfl, Nat.le_refl _, fun _ _ _ => rfl⟩
theorem But.trans {b : Nat} {x y z : World} (h : But b x y) (k : But b y z) : But b x z :=
  ⟨k.os.trans h.os, k.tape.trans h.tape, k.output.trans h.output, Nat.le_trans h.size k.size, fun i hi hne => (k.block i (Nat.lt_of_lt_of_le hi h.size) hne).trans (h.block i hi hne)⟩
theorem But.of {b : Nat} {w w' : World} (h : Below w.heap.size w w') : But b w w' := ⟨h.os, h.tape, h.output, h.size, fun k hk _ => h.block k hk⟩
theorem But.below {b B : Nat} {w w' : World} (h : But b w w') (hB : B ≤ b) (hw : B ≤ w.heap.size) : Below B w w' := ⟨h.os, h.tape, h.output, h.size, fun k hk => h.block k (Nat.lt_of_lt_of_le hk hw) (by omega)⟩
theorem But.cell {b : Nat} {w w' : World} (h : But b w w') {p : Addr} (hp : p.block < w.heap.size) (hne : p.block ≠ b) : w'.cell? p = w.cell? p := by
  simp only [World.cell?, h.block _ hp hne]
theorem But.drew {b : Nat} {w w' : World} (h : But b w w') : But b w w'.drew := ⟨h.os, h.tape, h.output, h.size, h.block⟩
theorem But.drewN {b : Nat} {w w' : World} (h : But b w w') (n : Nat) : But b w (w'.drewN n) := ⟨h.os, h.tape, h.output, h.size, h.block⟩
theorem But.setCell {b o : Nat} {w w' : World} (h : But b w w') (v : Value) : But b w (w'.setCell ⟨b, o, none⟩ v) :=
  ⟨h.os, h.tape, h.output, by simpa [World.setCell] using h.size, fun k hk hne => by
    rw [← h.block k hk hne]
    simp only [World.setCell, Array.getElem?_modify]
    rw [if_neg (fun e => hne e.symm)]⟩
theorem But.alloc {b : Nat} {w w' : World} (h : But b w w') (o : Obj) : But b w (w'.alloc o) :=
  ⟨h.os, h.tape, h.output, Nat.le_trans h.size (by simp), fun k hk hne => (Below.heap_alloc w' o k (Nat.lt_of_lt_of_le hk h.size)).trans (h.block k hk hne)⟩
theorem But.tr {b : Nat} {w w1 w2 : World} (h : But b w w1) (hb : Below w1.heap.size w1 w2) : But b w w2 := h.trans (But.of hb)
def ByteE : Enc UInt8 where
  size := 1
  pos := by decide
  cells := fun _ _ x cs => cs = [.int .u8 (x.toNat : Int)]
  len := by rintro _ _ _ _ rfl; rfl
  keep := fun h _ => h
  more := fun h _ => h
  one := by rintro _ _ _ _ rfl; simp [Value.oneCell']
def Src (w : World) (b N : Nat) : Prop :=
  ∃ (AC : Option Addr) (l : List UInt8) (cC a d : Nat), w.heap[b]? = some (.cells #[.slice AC l.length cC, .int .i64 (a : Int), .int .u64 (d : Int)] 147 (0, 0)) ∧ a ≤ N ∧ d < 18446744073709551616 ∧ Sl ByteE w b (.slice AC l.length cC) l
theorem Src.lt {w : World} {b N : Nat} (h : Src w b N) : b < w.heap.size := by
  obtain ⟨AC, l, cC, a, d, h, _⟩ := h
  exact (Array.getElem?_eq_some_iff.1 h).1
theorem Src.more {w : World} {b N M : Nat} (h : Src w b N) (hM : N ≤ M) : Src w b M := by
  obtain ⟨AC, l, cC, a, d, h, h1, h2⟩ := h
  exact ⟨AC, l, cC, a, d, h, Nat.le_trans h1 hM, h2⟩
theorem Src.keep {w w' : World} {b N : Nat} (h : Src w b N) (hb : Below w.heap.size w w') : Src w' b N := by
  have hlt := h.lt
  obtain ⟨AC, l, cC, a, d, h, h1, h2, h3⟩ := h
  exact ⟨AC, l, cC, a, d, (hb.block b hlt).trans h, h1, h2, h3.below (hb.mono (Nat.le_of_lt hlt))⟩
theorem u64_nat (n : Int) : ∃ d : Nat, IntKind.u64.wrap n = (d : Int) ∧ d < 18446744073709551616 := by
  rw [IntKind.wrap_u64]
  refine ⟨(n % 18446744073709551616).toNat, ?_, ?_⟩ <;> omega
theorem Src.stored {w w' : World} {b N a d : Nat} {AC : Option Addr} {l : List UInt8} {cC : Nat} {a' d' : Nat} (hbk : w.heap[b]? = some (.cells #[.slice AC l.length cC, .int .i64 (a : Int), .int .u64 (d : Int)] 147 (0, 0))) (hl : Sl ByteE w b (.slice AC l.length cC) l) (ha : a' ≤ N) (hd : d' < 18446744073709551616)
    (hw : ∃ n m, w' = (((w.drewN n).setCell ⟨b, 1, none⟩ (.int .i64 (a' : Int))).setCell ⟨b, 2, none⟩ (.int .u64 (d' : Int))).drewN m) : Src w' b N ∧ But b w w' := by
  obtain ⟨n, m, rfl⟩ := hw
  have hB : But b w ((((w.drewN n).setCell ⟨b, 1, none⟩ (.int .i64 (a' : Int))).setCell ⟨b, 2, none⟩ (.int .u64 (d' : Int))).drewN m) := ((((But.refl b w).drewN n).setCell _).setCell _).drewN m
  refine ⟨⟨AC, l, cC, a', d', ?_, ha, hd, hl.keep fun k hk => hB.block k (Nat.lt_trans hk (Array.getElem?_eq_some_iff.1 hbk).1) (Nat.ne_of_lt hk)⟩, hB⟩
  simp [World.setCell, World.drewN, Array.getElem?_modify, hbk]
theorem and255 (d : Nat) (hd : d < 18446744073709551616) : ∃ x : Nat, bits .and .u64 ((d : Int) / 1099511627776) 255 = (x : Int) ∧ x ≤ 255 := by
  refine ⟨(d / 1099511627776) &&& 255, ?_, Nat.and_le_right⟩
  have e : (d : Int) / 1099511627776 = ((d / 1099511627776 : Nat) : Int) := by rw [Int.natCast_ediv]; rfl
  rw [e]
  exact bits_and_u64_nat _ 255 (by omega) (by decide)
theorem from_any (v : Value) (l : List UInt8) (w : World) (h : Sl ByteE w w.heap.size v l) :
    Calls Try.prog 75 #[v] w fun r w' => ∃ b, r = .returned (.pointer (some ⟨b, 0, none⟩)) ∧ b = w.heap.size ∧ Src w' b 0 ∧ Below w.heap.size w w' := by
  have HS := Lib.hid h
  obtain ⟨A, c, rfl, hc1, hc2, _⟩ := h
  go_enter Try.func75, Try.ntmps75
  go_wp2
  go_ret
  have hb : Below w.heap.size w (w.alloc (.cells #[.slice A l.length c, .int .i64 0, .int .u64 0] 147)) := (Below.refl _ w).alloc (Nat.le_refl _) _
  exact ⟨_, rfl, rfl, ⟨A, l, c, 0, 0, heap_alloc_new w _, Nat.le_refl _, by decide, HS.out.below hb⟩, hb⟩
set_option maxRecDepth 100000 in
set_option maxHeartbeats 1000000 in
theorem next_any (b N : Nat) (w : World) (h : Src w b N) (hN : N ≤ 1000000) :
    Calls Try.prog 117 #[.pointer (some ⟨b, 0, none⟩)] w fun r w' => ∃ x : Nat, r = .returned (.int .i64 (x : Int)) ∧ x ≤ 255 ∧ Src w' b (N + 1) ∧ But b w w' := by
  obtain ⟨AC, l, cC, a, d, hbk, ha, hd, hl⟩ := h
  have c0 : w.cell? ⟨b, 0, none⟩ = some (.slice AC l.length cC) := by rw [Lib.cell_of_heap hbk]; rfl
  have c1 : w.cell? ⟨b, 1, none⟩ = some (.int .i64 (a : Int)) := by rw [Lib.cell_of_heap hbk]; rfl
  have c2 : w.cell? ⟨b, 2, none⟩ = some (.int .u64 (d : Int)) := by rw [Lib.cell_of_heap hbk]; rfl
  have f1 : w.frozen? ⟨b, 1, none⟩ = false := Lib.frozen_of_heap hbk 1
  have f2 : w.frozen? ⟨b, 2, none⟩ = false := Lib.frozen_of_heap hbk 2
  have HB := Lib.hid hbk
  have HL := Lib.hid hl
  obtain ⟨_, _, ev, hc1, hc2, hrow⟩ := hl
  clear hbk
  go_enter Try.func117, Try.ntmps117
  go_wp2_with fail
  go_quiet (fail)
  by_cases hlt : a < l.length
  · obtain ⟨bc, oc, rfl, hbc, hcs⟩ := hrow (by omega)
    obtain ⟨cs, hcs1, hcs2⟩ := hcs a l[a] (List.getElem?_eq_getElem hlt)
    have hcs1' : cs = [.int .u8 (l[a].toNat : Int)] := hcs1
    subst hcs1'
    have hcx := hcs2 0 _ rfl
    have e1 : oc + (a * ByteE.size + 0) = oc + a := by show oc + (a * 1 + 0) = oc + a; omega
    rw [e1] at hcx
    have hx := l[a].toNat_lt
    obtain ⟨x, hxe⟩ : ∃ x, l[a].toNat = x := ⟨_, rfl⟩
    rw [hxe] at hcx hx
    clear hcs hcs1 hcs2 hrow e1 hxe
    have hlI : (a : Int) < (l.length : Int) := by omega
    go_wp2_with fail
    go_quiet (fail)
    go_wp2_with fail
    obtain ⟨d2, hd2, hd2b⟩ := u64_nat (IntKind.u64.wrap (IntKind.u64.wrap ((d : Int) * 6364136223846793005) + (x : Int)) + 1442695040888963407)
    rw [hd2]
    have hle : ((a : Int) + 1) ≤ (l.length : Int) := by omega
    go_wp2_with fail
    go_quiet (fail)
    go_wp2_with fail
    go_ret
    refine ⟨x, rfl, by omega, ?_, ?_⟩
    · exact (Src.stored (N := N + 1) (a' := a + 1) HB.out HL.out (by omega) hd2b ⟨_, _, rfl⟩).1
    · exact (Src.stored (N := N + 1) (a' := a + 1) HB.out HL.out (by omega) hd2b ⟨_, _, rfl⟩).2
  · have hlI : ¬ (a : Int) < (l.length : Int) := by omega
    go_wp2_with fail
    obtain ⟨d2, hd2, hd2b⟩ := u64_nat (IntKind.u64.wrap (IntKind.u64.wrap ((d : Int) * 6364136223846793005)) + 1442695040888963407)
    rw [hd2]
    have hle : ¬ ((a : Int) + 1) ≤ (l.length : Int) := by omega
    obtain ⟨x, hx, hx2⟩ := and255 d2 hd2b
    go_wp2_with fail
    go_quiet (fail)
    go_wp2_with fail
    go_ret
    refine ⟨x, rfl, by omega, ?_, ?_⟩
    · exact (Src.stored (N := N + 1) (a' := a + 1) HB.out HL.out (by omega) hd2b ⟨_, _, rfl⟩).1
    · exact (Src.stored (N := N + 1) (a' := a + 1) HB.out HL.out (by omega) hd2b ⟨_, _, rfl⟩).2
def PickPost (b N : Nat) (n : Int) (w : World) (r : Ending) (w' : World) : Prop := ∃ x : Nat, r = .returned (.int .i64 (x : Int)) ∧ (x = 0 ∨ (x : Int) < n) ∧ x ≤ 65535 ∧ Src w' b (N + 2) ∧ But b w w'
set_option maxRecDepth 100000 in
theorem pick_any (b N : Nat) (n : Int) (w : World) (h : Src w b N) (hN : N ≤ 900000) :
    Calls Try.prog 78 #[.pointer (some ⟨b, 0, none⟩), .int .i64 n] w (PickPost b N n w) := by
  have HS := Lib.hid h
  clear h
  go_enter Try.func78, Try.ntmps78
  by_cases h1 : n ≤ 1
  · go_wp2_with fail
    go_ret
    exact ⟨0, rfl, .inl rfl, by omega, HS.out.more (by omega), But.refl b w⟩
  · go_wp2_with fail
    refine (next_any b N w HS.out (by omega)).mono ?_
    rintro r w1 ⟨x, rfl, hx, hs1, hb1⟩
    have H1 := Lib.hid hs1
    have B1 := Lib.hid hb1
    clear hs1 hb1
    obtain ⟨m, rfl⟩ := Int.eq_ofNat_of_zero_le (show 0 ≤ n by omega)
    have hm : ¬ (m : Int) = 0 := by omega
    by_cases h2 : (200 : Int) < m
    · go_wp2_with fail
      refine (next_any b (N + 1) w1 H1.out (by omega)).mono ?_
      rintro r w2 ⟨y, rfl, hy, hs2, hb2⟩
      have H2 := Lib.hid hs2
      have B2 := Lib.hid hb2
      clear hs2 hb2
      go_wp2_with fail
      go_ret
      refine ⟨(x * 256 + y) % m, ?_, .inr ?_, ?_, H2.out.more (by omega), B1.out.trans B2.out⟩
      · rfl
      · have := Nat.mod_lt (x * 256 + y) (show 0 < m by omega)
        omega
      · have := Nat.mod_le (x * 256 + y) m
        omega
    · go_wp2_with fail
      go_ret
      refine ⟨x % m, ?_, .inr ?_, ?_, H1.out.more (by omega), B1.out⟩
      · rfl
      · have := Nat.mod_lt x (show 0 < m by omega)
        omega
      · have := Nat.mod_le x m
        omega
theorem one_any (b N : Nat) (n : Int) (w : World) (h : Src w b N) (hN : N ≤ 900000) :
    Calls Try.prog 96 #[.pointer (some ⟨b, 0, none⟩), .int .i64 n] w fun r w' => ∃ t : Bool, r = .returned (.bool t) ∧ Src w' b (N + 2) ∧ But b w w' := by
  have HS := Lib.hid h
  clear h
  go_enter Try.func96, Try.ntmps96
  go_wp2_with fail
  refine (pick_any b N n w HS.out hN).mono ?_
  rintro r w1 ⟨x, rfl, _, _, hs1, hb1⟩
  have H1 := Lib.hid hs1
  have B1 := Lib.hid hb1
  clear hs1 hb1
  go_wp2_with fail
  go_ret
  exact ⟨_, rfl, H1.out, B1.out⟩
theorem But.keep {b : Nat} {w w' : World} (h : But b w w') : Keep (fun k => k ≠ b ∧ k < w.heap.size) w w' := fun k hk => h.block k hk.2 hk.1
end Go.Proofs.Ytejgbfgocaggfaa
