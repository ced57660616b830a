import Derived.Test.YtbifijlenbibmaaGreatDoorM9
import Derived.Test.YtbifijlenbibmaaGreatDoorM5
import Derived.Test.YtbifijlenbibmaaGreatDoorM2
import Derived.Laws.EntriesVeiled
import Derived.Test.YtbifijlenbibmaaGreatDoorM3
import Derived.Test.YtbifijlenbibmaaGreatDoorM1
import Derived.Test.YtbifijlenbibmaaGreatDoorM6
import Derived.Test.YtbifijlenbibmaaGreatDoorM7
import Derived.Deep.CutRange
import Derived.Deep.DeepCutAuto
namespace Go.Proofs.YtbifijlenbibmaaGreatDoor
open Go.RowKit
structure BJ (xs : List GRule) (vR : Value) (bg bs b B : Nat) (C : Nat → Prop) (s : List UInt8) (w : World) : Prop where
  bld : BuiltB B b s w
  hB : B ≤ w.heap.size
  nb : ¬ C b
  no : ∀ k, C k → B ≤ k → ∀ c fz, w.heap[k]? ≠ some (.cells c 5 fz)
  mg : C bg
  ms : C bs
  cg : w.cell? ⟨bg, 0, none⟩ = some vR
  cs : w.cell? ⟨bs, 0, none⟩ = some (.func (.func 260) #[] #[.pointer (some ⟨bg, 0, none⟩), .pointer (some ⟨bs, 0, none⟩), .pointer (some ⟨b, 0, none⟩)])
  sl : SlS RuleE w C vR xs
theorem BuiltB.lt {B b : Nat} {l : List UInt8} {w : World} (h : BuiltB B b l w) : b < w.heap.size := by
  rcases h with h | h
  · exact h.lt
  · exact h.lt
theorem built_keep {B b : Nat} {l : List UInt8} {w w' : World} (h : BuiltB B b l w) (hb : Below w.heap.size w w') : BuiltB B b l w' := by
  rcases h with ⟨h1, v, h2, h3, h4⟩ | ⟨h1, v, h2, h3, h4⟩
  · exact .inl ⟨h1, v, (hb.block b (Array.getElem?_eq_some_iff.1 h2).1).trans h2, ownsRow_below h3 hb, h4⟩
  · exact .inr ⟨h1, v, (hb.block b (Array.getElem?_eq_some_iff.1 h2).1).trans h2, ownsRow_below h3 hb, h4⟩
section
variable {xs : List GRule} {vR : Value} {bg bs b B : Nat}
theorem BJ.ext : ∀ (C : Nat → Prop) (s : List UInt8) (w w' : World), BJ xs vR bg bs b B C s w → Below w.heap.size w w' → NewNoB w.heap.size w' → (∀ k, C k → k < w.heap.size) → BJ xs vR bg bs b B (ext C w.heap.size w'.heap.size) s w' := by
  intro C s w w' h hb hn hC
  refine ⟨built_keep h.bld hb, Nat.le_trans h.hB hb.size, ?_, ?_, .inl h.mg, .inl h.ms, (hb.cell (p := ⟨bg, 0, none⟩) (hC _ h.mg)).trans h.cg, (hb.cell (p := ⟨bs, 0, none⟩) (hC _ h.ms)).trans h.cs, (h.sl.keep fun k hk => hb.block k (hC k hk)).more fun k hk => .inl hk⟩
  · rintro (h1 | h1)
    · exact h.nb h1
    · have := h.bld.lt; omega
  · rintro k (h1 | h1) hk c fz
    · rw [hb.block k (hC k h1)]; exact h.no k h1 hk c fz
    · exact hn k h1.1 c fz
theorem BJ.written {C : Nat → Prop} {s s' : List UInt8} {w w' : World} (h : BJ xs vR bg bs b B C s w) (hbl : BuiltB B b s' w') (hb : Below B w w') (hk : Lib.OthersKept 5 (some b) w w') (hC : ∀ k, C k → k < w.heap.size) : BJ xs vR bg bs b B C s' w' ∧ Wk C w w' := by
  have hblk : ∀ k, C k → w'.heap[k]? = w.heap[k]? := fun k hk' => by
    rcases Nat.lt_or_ge k B with hkB | hkB
    · exact hb.block k hkB
    obtain ⟨o, ho⟩ : ∃ o, w.heap[k]? = some o := ⟨_, Array.getElem?_eq_getElem (hC k hk')⟩
    rw [ho]
    exact hk k o ho (fun e => h.nb (by have : k = b := Option.some.inj e; rw [← this]; exact hk')) (fun c fz e => h.no k hk' hkB c fz (by rw [ho, e]))
  have hw : Wk C w w' := ⟨hb.os, hb.tape, hb.output, hb.size, hblk⟩
  exact ⟨⟨hbl, Nat.le_trans h.hB hb.size, h.nb, fun k hk' hkB c fz => by rw [hblk k hk']; exact h.no k hk' hkB c fz, h.mg, h.ms, hw.cell h.mg h.cg, hw.cell h.ms h.cs, h.sl.keep hw.keep⟩, hw⟩
set_option maxRecDepth 100000 in
set_option maxHeartbeats 4000000 in
theorem spell_any (ls : List Int) (hl : lens xs = some ls) : ∀ (r : Nat) (s : List UInt8) (C : Nat → Prop) (w : World), r < xs.length → BJ xs vR bg bs b B C s w → (∀ k, C k → k < w.heap.size) → s.length + (W1 xs r).length ≤ 1099511627776 →
    Calls Tryz.prog 260 #[.int .i64 r, .pointer (some ⟨bg, 0, none⟩), .pointer (some ⟨bs, 0, none⟩), .pointer (some ⟨b, 0, none⟩)] w (TakePost (BJ xs vR bg bs b B) C (s ++ W1 xs r) w) := by
  intro r
  induction r using Nat.strongRecOn with
  | _ r ih =>
    intro s C w hr hJ hC hlen
    have HJ := Lib.hid hJ
    have HC := Lib.hid hC
    have Ih := Lib.hid ih
    have hcg := hJ.cg
    have hcs := hJ.cs
    obtain ⟨AR, cR, rfl, _, _, hrowR⟩ := hJ.sl
    obtain ⟨b2, o2, rfl, hb2, hcellR⟩ := hrowR.rule hr
    obtain ⟨k0, k1, k2⟩ := hcellR r _ (getR_at hr)
    have hrx : (r : Int) < (xs.length : Int) := by omega
    have lbg : bg < w.heap.size := hC _ hJ.mg
    have lbs : bs < w.heap.size := hC _ hJ.ms
    have lb2 : b2 < w.heap.size := hC _ hb2
    have eg : ∀ args w, (callFunc 260 args).run Tryz.prog w = .ok (.enter 260 args) w := enters_of Tryz.func260 (by kernel_rfl) rfl
    obtain ⟨R, hR⟩ : ∃ R, getR xs r = R := ⟨_, rfl⟩
    rw [hR] at k0 k1 k2
    have HR := Lib.hid hR
    have Hlen := Lib.hid hlen
    clear ih hJ hC hrowR hcellR hb2 hR hlen
    have hBA : ∀ o o', Below w.heap.size w ((w.alloc o).alloc o') := fun o o' => ((Below.refl _ _).alloc (Nat.le_refl _) _).alloc (by simp) _
    have HBA := Lib.hid hBA
    clear hBA
    go_enter Tryz.func260, Tryz.ntmps260
    go_wp2_with fail
    refine (isPair_any _ _ _ _).mono ?_
    rintro e w1 ⟨rfl, rfl⟩
    have hN : NewNoB w.heap.size ((w.alloc (Obj.cells #[Value.string R.letter, Value.int IntKind.i64 R.left, Value.int IntKind.i64 R.right] 165)).alloc (Obj.cells #[Value.string R.letter, Value.int IntKind.i64 R.left, Value.int IntKind.i64 R.right] 165)) := ((NewNoB.same w).alloc (NoB.cells (by decide))).alloc (NoB.cells (by decide))
    have hB2 := HBA.out (Obj.cells #[Value.string R.letter, Value.int IntKind.i64 R.left, Value.int IntKind.i64 R.right] 165) (Obj.cells #[Value.string R.letter, Value.int IntKind.i64 R.left, Value.int IntKind.i64 R.right] 165)
    have e0 : ((w.alloc (Obj.cells #[Value.string R.letter, Value.int IntKind.i64 R.left, Value.int IntKind.i64 R.right] 165)).alloc (Obj.cells #[Value.string R.letter, Value.int IntKind.i64 R.left, Value.int IntKind.i64 R.right] 165)).heap[w.heap.size]? = some (Obj.cells #[Value.string R.letter, Value.int IntKind.i64 R.left, Value.int IntKind.i64 R.right] 165 (0, 0)) := ((Below.refl _ _).alloc (Nat.le_refl _) _).block w.heap.size (by simp) |>.trans (heap_alloc_new _ _)
    generalize (w.alloc (Obj.cells #[Value.string R.letter, Value.int IntKind.i64 R.left, Value.int IntKind.i64 R.right] 165)).alloc (Obj.cells #[Value.string R.letter, Value.int IntKind.i64 R.left, Value.int IntKind.i64 R.right] 165) = W2 at *
    have l0 : w.heap.size < W2.heap.size := (Array.getElem?_eq_some_iff.1 e0).1
    have d0 : W2.cell? ⟨w.heap.size, 0, none⟩ = some (.string R.letter) := by simp [World.cell?, e0]
    have d1 : W2.cell? ⟨w.heap.size, 1, none⟩ = some (.int .i64 R.left) := by simp [World.cell?, e0]
    have d2 : W2.cell? ⟨w.heap.size, 2, none⟩ = some (.int .i64 R.right) := by simp [World.cell?, e0]
    have J2 := BJ.ext C s w W2 HJ.out hB2 hN HC.out
    have hCx : ∀ k, ext C w.heap.size W2.heap.size k → k < W2.heap.size := fun k hk => by
      rcases hk with hk | hk
      · have := HC.out k hk; omega
      · exact hk.2
    have HJ2 := Lib.hid J2
    have HCx := Lib.hid hCx
    have HB2 := Lib.hid hB2
    have hcg2 := J2.cg
    have hcs2 := J2.cs
    clear hN hB2 e0 J2 hCx hcg hcs k0 k1 k2
    by_cases hp : R.letter.toList.isEmpty = true
    · rw [hp]
      have hpr : (getR xs r).pair = true := by rw [HR.out]; rw [isEmpty_size] at hp; exact hp
      obtain ⟨q1, q2, q3, q4, q5⟩ := lens_pair hl hr hpr
      have hW := W1_pair hl hr hpr
      rw [HR.out] at q1 q2 q3 q4 hW
      obtain ⟨la, hla⟩ := Int.eq_ofNat_of_zero_le q1
      obtain ⟨ra, hra⟩ := Int.eq_ofNat_of_zero_le q3
      rw [hla] at q2 d1
      rw [hra] at q4 d2
      rw [hla, hra] at hW
      simp only [Int.toNat_natCast] at q2 q4 hW
      have HW := Lib.hid hW
      have hlenA : s.length + (W1 xs la).length ≤ 1099511627776 := by have := Hlen.out; rw [hW, List.length_append] at this; omega
      have hlenB : (s ++ W1 xs la).length + (W1 xs ra).length ≤ 1099511627776 := by have := Hlen.out; rw [hW, List.length_append] at this; rw [List.length_append]; omega
      have HlA := Lib.hid hlenA
      have HlB := Lib.hid hlenB
      clear hpr hp q5 hW q1 q3 hla hra hlenA hlenB
      go_wp2_with fail
      refine (Ih.out la q2 s _ W2 (by omega) HJ2.out HCx.out HlA.out).mono ?_
      rintro e w3 ⟨rfl, C3, g1, g2, g3, g4⟩
      have d2' : w3.cell? ⟨w.heap.size, 2, none⟩ = some (.int .i64 ra) := g4.cell (Or.inr ⟨Nat.le_refl _, l0⟩) d2
      have hcs3 := g3.cs
      have HJ3 := Lib.hid g3
      have G1 := Lib.hid g1
      have G2 := Lib.hid g2
      have G4 := Lib.hid g4
      clear g1 g2 g3 g4 hcs2 hcg2 d1 d2 d0
      go_wp2_with fail
      refine (Ih.out ra q4 (s ++ W1 xs la) _ w3 (by omega) HJ3.out G2.out HlB.out).mono ?_
      rintro e w4 ⟨rfl, C4, k1, k2, k3, k4⟩
      go_wp2_with fail
      go_end0
      refine ⟨rfl, C4, fun k hk => k1 _ (G1.out _ (.inl hk)), k2, ?_, ?_⟩
      · rw [HW.out, ← List.append_assoc]; exact k3
      · exact ((Wk.of_below HB2.out HC.out).trans (G4.out.mono fun k hk => .inl hk)).trans (k4.mono fun k hk => G1.out _ (.inl hk))
    · have hp2 : R.letter.toList.isEmpty = false := by simpa using hp
      have hpr : (getR xs r).pair = false := by rw [HR.out]; rw [isEmpty_size] at hp2; exact hp2
      have hW := W1_let hpr
      have hsz := isLet_size (lens_isLet hl hr hpr)
      rw [HR.out] at hW hsz
      have HW := Lib.hid hW
      have hlenA : s.length + R.letter.size ≤ 140737488355328 := by
        have := Hlen.out
        omega
      rw [hp2]
      clear hp hpr hW hp2 hcs2 hcg2
      have W := Lib.hid (writeString_any B b s R.letter W2 HJ2.out.bld hlenA HJ2.out.hB)
      go_wp2_with fail
      refine W.out.mono ?_
      rintro e w3 ⟨rfl, hb3, hbl3, ho3⟩
      obtain ⟨J3, hw3⟩ := HJ2.out.written hb3 hbl3 ho3 HCx.out
      go_wp2_with fail
      go_end0
      refine ⟨rfl, _, fun k hk => .inl hk, fun k hk => Nat.lt_of_lt_of_le (HCx.out k hk) hw3.size, ?_, (Wk.of_below HB2.out HC.out).trans (hw3.mono fun k hk => .inl hk)⟩
      rw [HW.out]; exact J3
end
theorem foldl_word (f : Nat → List UInt8) (l : List Nat) (s : List UInt8) : l.foldl (fun s r => s ++ f r) s = s ++ l.flatMap f := by
  induction l generalizing s with
  | nil => simp
  | cons a l ih => rw [List.foldl_cons, ih]; simp
set_option maxRecDepth 100000 in
set_option maxHeartbeats 2000000 in
theorem unpack_any (vR vL : Value) (xs : List GRule) (ls : List Int) (i j : Int) (w : World) (hR : Sl RuleE w w.heap.size vR xs) (hL : Sl IntE w w.heap.size vL ls) (hl : lens xs = some ls) (hn : xs.length ≤ 1099511627776)
    (hlen : (cutL (wordG xs) i j).length ≤ 1099511627776) :
    Calls Tryz.prog 189 #[.agg #[vR], vL, .int .i64 i, .int .i64 j] w fun e w' => e = .returned (.string ⟨(cutL (wordG xs) i j).toArray⟩) ∧ Below w.heap.size w w' := by
  have HR := Lib.hid hR
  have HL := Lib.hid hL
  obtain ⟨AR, cR, rfl, _⟩ := hR
  obtain ⟨AL, cL, rfl, _⟩ := hL
  have hword := pieces_word hl (i := i) (j := j)
  have Hword := Lib.hid hword
  have Hl := Lib.hid hl
  clear hword hl
  go_enter Tryz.func189, Tryz.ntmps189
  go_wp2_with fail
  have hz0 : (((w.alloc (Obj.cells #[Value.slice AR xs.length cR] 30)).alloc (Obj.cells #[Value.pointer none, Value.slice none 0 0] 94)).alloc (Obj.cells #[Value.func (Fn.func 260) #[] #[Value.pointer (some ⟨w.heap.size, 0, none⟩), Value.pointer (some ⟨w.heap.size + 1 + 1, 0, none⟩), Value.pointer (some ⟨w.heap.size + 1, 0, none⟩)]] 291)).heap.size = w.heap.size + 3 := by simp
  have hB0 : Below w.heap.size w (((w.alloc (Obj.cells #[Value.slice AR xs.length cR] 30)).alloc (Obj.cells #[Value.pointer none, Value.slice none 0 0] 94)).alloc (Obj.cells #[Value.func (Fn.func 260) #[] #[Value.pointer (some ⟨w.heap.size, 0, none⟩), Value.pointer (some ⟨w.heap.size + 1 + 1, 0, none⟩), Value.pointer (some ⟨w.heap.size + 1, 0, none⟩)]] 291)) := (by repeat (first | exact Below.refl _ _ | (refine Below.alloc ?_ (by first | omega | (simp; done) | (simp; omega)) _) | refine below_drewN ?_ _ | refine Below.drew ?_))
  have hx0 : (((w.alloc (Obj.cells #[Value.slice AR xs.length cR] 30)).alloc (Obj.cells #[Value.pointer none, Value.slice none 0 0] 94)).alloc (Obj.cells #[Value.func (Fn.func 260) #[] #[Value.pointer (some ⟨w.heap.size, 0, none⟩), Value.pointer (some ⟨w.heap.size + 1 + 1, 0, none⟩), Value.pointer (some ⟨w.heap.size + 1, 0, none⟩)]] 291)).cell? ⟨w.heap.size, 0, none⟩ = some (.slice AR xs.length cR) := by simp [go_sem]
  have hx2 : (((w.alloc (Obj.cells #[Value.slice AR xs.length cR] 30)).alloc (Obj.cells #[Value.pointer none, Value.slice none 0 0] 94)).alloc (Obj.cells #[Value.func (Fn.func 260) #[] #[Value.pointer (some ⟨w.heap.size, 0, none⟩), Value.pointer (some ⟨w.heap.size + 1 + 1, 0, none⟩), Value.pointer (some ⟨w.heap.size + 1, 0, none⟩)]] 291)).cell? ⟨w.heap.size + 2, 0, none⟩ = some (.func (.func 260) #[] #[.pointer (some ⟨w.heap.size, 0, none⟩), .pointer (some ⟨w.heap.size + 2, 0, none⟩), .pointer (some ⟨w.heap.size + 1, 0, none⟩)]) := by simp [go_sem]
  have hx1 : (((w.alloc (Obj.cells #[Value.slice AR xs.length cR] 30)).alloc (Obj.cells #[Value.pointer none, Value.slice none 0 0] 94)).alloc (Obj.cells #[Value.func (Fn.func 260) #[] #[Value.pointer (some ⟨w.heap.size, 0, none⟩), Value.pointer (some ⟨w.heap.size + 1 + 1, 0, none⟩), Value.pointer (some ⟨w.heap.size + 1, 0, none⟩)]] 291)).heap[w.heap.size + 1]? = some (.cells #[.pointer none, .slice none 0 0] 94 (0, 0)) := by
    have h1 : ((w.alloc (Obj.cells #[Value.slice AR xs.length cR] 30)).alloc (Obj.cells #[Value.pointer none, Value.slice none 0 0] 94)).heap[w.heap.size + 1]? = some (.cells #[.pointer none, .slice none 0 0] 94 (0, 0)) := by
      have := heap_alloc_new (w.alloc (Obj.cells #[Value.slice AR xs.length cR] 30)) (Obj.cells #[Value.pointer none, Value.slice none 0 0] 94)
      rwa [show (w.alloc (Obj.cells #[Value.slice AR xs.length cR] 30)).heap.size = w.heap.size + 1 by simp] at this
    exact (Below.heap_alloc _ _ _ (by simp)).trans h1
  have hnb : ∀ c fz, (((w.alloc (Obj.cells #[Value.slice AR xs.length cR] 30)).alloc (Obj.cells #[Value.pointer none, Value.slice none 0 0] 94)).alloc (Obj.cells #[Value.func (Fn.func 260) #[] #[Value.pointer (some ⟨w.heap.size, 0, none⟩), Value.pointer (some ⟨w.heap.size + 1 + 1, 0, none⟩), Value.pointer (some ⟨w.heap.size + 1, 0, none⟩)]] 291)).heap[w.heap.size + 2]? ≠ some (.cells c 5 fz) := fun c fz => (((((NewNoB.same w).alloc (NoB.cells (by decide))).alloc (NoB.cells (by decide))).alloc (NoB.cells (by decide)))) (w.heap.size + 2) (by omega) c fz
  generalize ((w.alloc (Obj.cells #[Value.slice AR xs.length cR] 30)).alloc (Obj.cells #[Value.pointer none, Value.slice none 0 0] 94)).alloc (Obj.cells #[Value.func (Fn.func 260) #[] #[Value.pointer (some ⟨w.heap.size, 0, none⟩), Value.pointer (some ⟨w.heap.size + 1 + 1, 0, none⟩), Value.pointer (some ⟨w.heap.size + 1, 0, none⟩)]] 291) = w0 at *
  have hJ : BJ xs (.slice AR xs.length cR) w.heap.size (w.heap.size + 2) (w.heap.size + 1) (w.heap.size + 1) (fun k => k < w.heap.size + 1 ∨ k = w.heap.size + 2) [] w0 := by
    refine ⟨.inl ⟨Nat.le_refl _, _, hx1, World.ownsRow_nil _ _ _ _, by simp [Value.ownBlock]⟩, by omega, by omega, ?_, .inl (by omega), .inr rfl, hx0, hx2, ?_⟩
    · rintro k (h | h) hk c fz
      · omega
      · subst h; exact hnb c fz
    · exact (HR.out.below hB0).more fun k hk => .inl (by omega)
  have HB0 := Lib.hid hB0
  have HJ := Lib.hid hJ
  have HZ0 := Lib.hid hz0
  clear hz0 hB0 hx0 hx1 hx2 hnb hJ
  have hcnt : ∀ l : List Nat, (l.foldl (fun s r => s ++ W1 xs r) []).length = (l.flatMap (W1 xs)).length := fun l => by rw [foldl_word]; simp
  refine (pieces_any (BJ xs (.slice AR xs.length cR) w.heap.size (w.heap.size + 2) (w.heap.size + 1) (w.heap.size + 1)) (fun s r => s ++ W1 xs r) (fun s r => s.length + (W1 xs r).length ≤ 1099511627776) 260 #[.pointer (some ⟨w.heap.size, 0, none⟩), .pointer (some ⟨w.heap.size + 2, 0, none⟩), .pointer (some ⟨w.heap.size + 1, 0, none⟩)] xs ls i j Hl.out hn (enters_of Tryz.func260 (by kernel_rfl) rfl) BJ.ext
    (fun C s r w' hJ hok hr hC => spell_any ls Hl.out r s C w' hr hJ hC hok) (.slice AL ls.length cL) (.slice AR xs.length cR) [] (fun k => k < w.heap.size + 1 ∨ k = w.heap.size + 2) w0 HJ.out ?_ ?_ ?_ HJ.out.sl).mono ?_
  · intro l1 r l2 e
    rw [hcnt]
    have := congrArg (fun l => (l.flatMap (W1 xs)).length) e
    simp only [Hword.out, List.flatMap_append, List.flatMap_cons, List.length_append] at this
    omega
  · intro k hk
    have := HZ0.out
    omega
  · exact (HL.out.below HB0.out).more fun k hk => .inl (by omega)
  rintro e w2 ⟨rfl, C2, g1, g2, g3, g4⟩
  rw [foldl_word, List.nil_append, Hword.out] at g3
  have hb2 : Below (w.heap.size + 1) w0 w2 := g4.below fun k hk => .inl hk
  have HB2 := Lib.hid (HB0.out.trans (hb2.mono (by omega)))
  have S := Lib.hid (g3.bld.string g3.hB)
  have hs2 : w.heap.size ≤ w2.heap.size := by have := g3.hB; omega
  clear g1 g2 g3 g4 hb2 hcnt
  go_wp2_with fail
  refine S.out.mono ?_
  rintro e w3 ⟨rfl, hb3⟩
  go_wp2_with fail
  go_ret
  exact ⟨rfl, HB2.out.trans (hb3.mono (by omega))⟩
set_option maxRecDepth 100000 in
set_option maxHeartbeats 1000000 in
theorem unpackPart_any (v : Value) (xs : List GRule) (ls : List Int) (i j : Int) (w : World) (h : Sl RuleE w w.heap.size v xs) (hn : xs.length ≤ 400) (hl : lens xs = some ls) (hij : 0 ≤ i ∧ i ≤ j ∧ j ≤ lastI ls) :
    Calls Tryz.prog 142 #[.agg #[v], .int .i64 i, .int .i64 j] w fun e w' => e = .returned (.tuple #[.string (if j - i > 2000 then ⟨#[]⟩ else ⟨(cutL (wordG xs) i j).toArray⟩), .int .i64 (if j - i > 2000 then 3 else 0)]) ∧ Below w.heap.size w w' := by
  have h1 := fun o => (h.below ((Below.refl w.heap.size w).alloc (Nat.le_refl _) o)).le (B' := (w.alloc o).heap.size) (by simp)
  have H1 := Lib.hid h1
  clear h1
  obtain ⟨A, c, rfl, _⟩ := h
  have Hl := Lib.hid hl
  have hcl : (cutL (wordG xs) i j).length = (j - i).toNat := by
    have hw := wordG_len hl
    have := cutL_len (l := wordG xs) hij.1 hij.2.1 (by omega)
    omega
  have Hcl := Lib.hid hcl
  have hlast : lastI ls ≤ 1000000000000000 := by
    by_cases h0 : 0 < xs.length
    · rw [lastI_at hl h0]; exact (lens_pos' hl (by omega)).2
    · have : ls = [] := List.eq_nil_of_length_eq_zero (by rw [lens_length hl]; omega)
      subst this; decide
  clear hl hcl
  go_enter Tryz.func142, Tryz.ntmps142
  go_wp2_with fail
  refine (lengths_any _ xs _ (H1.out _) (by omega)).mono ?_
  rintro e w1 ⟨hb1, hpost⟩
  have hcase : ∃ vv, e = .returned (.tuple #[vv, .bool true]) ∧ Sl IntE w1 w1.heap.size vv ls := by
    rcases hpost with ⟨l2, vv, hl2, he, ho⟩ | ⟨hl2, he⟩
    · have e2 : l2 = ls := by have := Hl.out; rw [hl2] at this; exact Option.some.inj this
      subst e2
      exact ⟨vv, by rw [he]; simp [hn], ho.sl⟩
    · rw [Hl.out] at hl2; cases hl2
  obtain ⟨vv, rfl, hL⟩ := hcase
  have hz1 : w.heap.size < w1.heap.size := by have := hb1.size; simp at this; omega
  have a1 : w1.cell? ⟨w.heap.size, 0, none⟩ = some (.slice A xs.length c) := (hb1.cell (p := ⟨w.heap.size, 0, none⟩) (by simp)).trans (by simp [go_sem])
  have S1 := Lib.hid ((H1.out (Obj.cells #[Value.slice A xs.length c] 30)).up hb1)
  have B1 := Lib.hid (((Below.refl w.heap.size w).alloc (Nat.le_refl _) (Obj.cells #[Value.slice A xs.length c] 30)).trans (hb1.mono (by simp)))
  have HL := Lib.hid hL
  obtain ⟨AL, cL, rfl, _⟩ := hL
  obtain ⟨i1, i2, i3⟩ := hij
  have hw1 : inR i 0 j = true := by simp [inR, i1, i2]
  have hgt : ¬ (j > lastI ls) := by omega
  clear hb1 hpost
  go_wp2_with fail
  refine (within_yes _ _ _ _ hw1).mono ?_
  rintro e w' ⟨rfl, rfl⟩
  go_wp2_with fail
  refine (last_any _ ls _ HL.out).mono ?_
  rintro e w' ⟨rfl, rfl⟩
  by_cases hbig : j - i > 2000
  · go_wp2_with fail
    go_ret2
    exact ⟨by first | rfl | (simp only [if_pos hbig]; rfl), B1.out⟩
  · go_wp2_with fail
    refine (unpack_any _ _ xs ls i j _ S1.out HL.out Hl.out (by omega) (by rw [Hcl.out]; omega)).mono ?_
    rintro e w2 ⟨rfl, hb2⟩
    go_wp2_with fail
    go_ret2
    exact ⟨by first | rfl | (simp only [if_neg (show ¬ j - i > 2000 by omega)]; rfl), B1.out.trans (hb2.mono (by omega))⟩
def upV (xs : List GRule) : List UInt8 := if gramOk xs && decide ((wordG xs).length ≤ 2000) then wordG xs else []
def upC (xs : List GRule) : Int := if gramOk xs then (if (wordG xs).length ≤ 2000 then 0 else 3) else 1
set_option maxRecDepth 100000 in
set_option maxHeartbeats 1000000 in
theorem unpackWord_any (v : Value) (xs : List GRule) (w : World) (h : Sl RuleE w w.heap.size v xs) (hn : xs.length ≤ 1048576) :
    Calls Tryz.prog 79 #[.agg #[v]] w fun e w' => e = .returned (.tuple #[.string ⟨(upV xs).toArray⟩, .int .i64 (upC xs)]) ∧ Below w.heap.size w w' := by
  have h1 := fun o => (h.below ((Below.refl w.heap.size w).alloc (Nat.le_refl _) o)).le (B' := (w.alloc o).heap.size) (by simp)
  have H1 := Lib.hid h1
  clear h1
  obtain ⟨A, c, rfl, _⟩ := h
  go_enter Tryz.func79, Tryz.ntmps79
  go_wp2_with fail
  refine (LengthOf_any _ xs _ (H1.out _) (by omega)).mono ?_
  rintro e w1 ⟨rfl, hb1⟩
  have hz1 : w.heap.size < w1.heap.size := by have := hb1.size; simp at this; omega
  have a1 : w1.cell? ⟨w.heap.size, 0, none⟩ = some (.slice A xs.length c) := (hb1.cell (p := ⟨w.heap.size, 0, none⟩) (by simp)).trans (by simp [go_sem])
  have S1 := Lib.hid ((H1.out (Obj.cells #[Value.slice A xs.length c] 30)).up hb1)
  have B1 := Lib.hid (((Below.refl w.heap.size w).alloc (Nat.le_refl _) (Obj.cells #[Value.slice A xs.length c] 30)).trans (hb1.mono (by simp)))
  clear hb1
  by_cases hok : gramOk xs = true
  · obtain ⟨h4, ls, hl⟩ := gram_lens hok
    have hV : lenV xs = lastI ls := by simp [lenV, hok, gramLen_of hl]
    have hC : lenC xs = 0 := by simp [lenC, hok]
    have hw := wordG_len hl
    have Hl := Lib.hid hl
    have Hw := Lib.hid hw
    have Hok := Lib.hid hok
    rw [hV, hC]
    clear hV hC hl hw hok
    go_wp2_with fail
    have hp0 : 0 ≤ lastI ls := by have := Hw.out; omega
    have hw := Hw.out
    have hcut : cutL (wordG xs) 0 (lastI ls) = wordG xs := cutL_all (Int.le_refl _) (by omega)
    have U := unpackPart_any _ xs ls 0 (lastI ls) _ S1.out h4 Hl.out ⟨Int.le_refl _, hp0, Int.le_refl _⟩
    rw [hcut] at U
    by_cases hb : (wordG xs).length ≤ 2000
    · have e1 : upV xs = wordG xs := by simp [upV, Hok.out, hb]
      have e2 : upC xs = 0 := by simp [upC, Hok.out, hb]
      have e3 : ¬ (lastI ls - 0 > 2000) := by omega
      rw [if_neg e3, if_neg e3] at U
      have HU := Lib.hid U
      have E1 := Lib.hid e1
      have E2 := Lib.hid e2
      clear e1 e2 e3 U hcut hw hb hp0
      refine HU.out.mono ?_
      rintro e w2 ⟨rfl, hb2⟩
      go_wp2_with fail
      go_ret2
      exact ⟨by rw [E1.out, E2.out]; rfl, B1.out.trans (hb2.mono (by omega))⟩
    · have e1 : upV xs = [] := by simp [upV, hb]
      have e2 : upC xs = 3 := by simp [upC, Hok.out, hb]
      have e3 : lastI ls - 0 > 2000 := by omega
      rw [if_pos e3, if_pos e3] at U
      have HU := Lib.hid U
      have E1 := Lib.hid e1
      have E2 := Lib.hid e2
      clear e1 e2 e3 U hcut hw hb hp0
      refine HU.out.mono ?_
      rintro e w2 ⟨rfl, hb2⟩
      go_wp2_with fail
      go_ret2
      exact ⟨by rw [E1.out, E2.out]; rfl, B1.out.trans (hb2.mono (by omega))⟩
  · have hV : lenV xs = 0 := by simp [lenV, hok]
    have hC : lenC xs = 1 := by simp [lenC, hok]
    have e1 : upV xs = [] := by simp [upV, hok]
    have e2 : upC xs = 1 := by simp [upC, hok]
    have E1 := Lib.hid e1
    have E2 := Lib.hid e2
    rw [hV, hC]
    clear hV hC e1 e2 hok
    go_wp2_with fail
    go_ret2
    exact ⟨by rw [E1.out, E2.out]; rfl, B1.out⟩
set_option maxRecDepth 100000 in
set_option maxHeartbeats 2000000 in
theorem l02Letter_any (b o : Nat) (vR vL : Value) (xs : List GRule) (ls : List Int) (i : Int) (c : UInt8) (w : World) (hp : w.cell? ⟨b, o, none⟩ = some vR) (hR : Sl RuleE w w.heap.size vR xs) (hL : Sl IntE w w.heap.size vL ls)
    (hl : lens xs = some ls) (hn : xs.length ≤ 1099511627776) (hi : 0 ≤ i) (hc : (wordG xs)[i.toNat]? = some c) :
    Calls Tryz.prog 135 #[.pointer (some ⟨b, o, none⟩), vL, .int .i64 i] w fun e w' => e = .returned (.int .u8 c.toNat) ∧ w = w' := by
  have h0 : 0 < xs.length := by
    refine Nat.pos_of_ne_zero fun e => ?_
    have hx : xs = [] := List.eq_nil_of_length_eq_zero e
    subst hx
    simp [wordG] at hc
  have hll := lens_length hl
  rw [wordG_pos h0] at hc
  have hlt := (List.getElem?_eq_some_iff.1 hc).1
  have hWl := W1_len hl (xs.length - 1) (by omega)
  obtain ⟨AR, cR, rfl, _, hmR, hrowR⟩ := hR
  obtain ⟨AL, cL, rfl, _, hmL, hrowL⟩ := hL
  unfold maxLen at hmR hmL
  obtain ⟨bR, oR, rfl, hbR, hcR⟩ := hrowR.rule h0
  obtain ⟨bL, oL, rfl, hbL, hcL⟩ := hrowL.int (k := 0) (by omega)
  have HcR := Lib.hid hcR
  have HcL := Lib.hid hcL
  have Hll := Lib.hid hll
  have Hl := Lib.hid hl
  have hm1 : (xs.length : Int) - 1 = ((xs.length - 1 : Nat) : Int) := by omega
  obtain ⟨m, hm⟩ : ∃ m, xs.length - 1 = m := ⟨_, rfl⟩
  rw [hm] at hm1 hc hlt hWl
  have hmx : m < xs.length := by omega
  have Hc := Lib.hid hc
  have hq0 : i < ls.getD m 0 := by omega
  have Hq0 := Lib.hid hq0
  have Hm1 := Lib.hid hm1
  clear hrowR hrowL hcR hcL hll hl hc hlt hWl hm hq0
  go_enter Tryz.func135, Tryz.ntmps135
  go_wp2_with fail
  go_loopw [2, 7] (fun q a wx => ∃ (r : Nat) (z : Int), r < xs.length ∧ a = .int .i64 (r : Int) ∧ q = .int .i64 z ∧ 0 ≤ z ∧ z < ls.getD r 0 ∧ (W1 xs r)[z.toNat]? = some c ∧ wx = w) (fun _ a _ => (intOf a).toNat)
  case atStart => exact ⟨m, i, hmx, rfl, rfl, hi, Hq0.out, Hc.out, rfl⟩
  case round =>
    obtain ⟨r, z, hr, rfl, rfl, hz, hzl, hw, rfl⟩ := hrel
    obtain ⟨k0, k1, k2⟩ := HcR.out r _ (getR_at hr)
    have hri : (r : Int) < (xs.length : Int) := by omega
    have Hw := Lib.hid hw
    have Hzl := Lib.hid hzl
    obtain ⟨R, hR⟩ : ∃ R, getR xs r = R := ⟨_, rfl⟩
    rw [hR] at k0 k1 k2
    have HR := Lib.hid hR
    clear hw hzl hR hm1
    by_cases hp2 : R.letter.toList.isEmpty = true
    · have hpr : (getR xs r).pair = true := by rw [HR.out]; rw [isEmpty_size] at hp2; exact hp2
      obtain ⟨q1, q2, q3, q4, q5⟩ := lens_pair Hl.out hr hpr
      have hW := W1_pair Hl.out hr hpr
      rw [HR.out] at q1 q2 q3 q4 q5 hW
      obtain ⟨la, hla⟩ := Int.eq_ofNat_of_zero_le q1
      obtain ⟨ra, hra⟩ := Int.eq_ofNat_of_zero_le q3
      rw [hla] at q2 k1
      rw [hra] at q4 k2
      rw [hla, hra] at hW q5
      simp only [Int.toNat_natCast] at q2 q4 q5 hW
      have hlw := W1_len Hl.out la (by omega)
      have cl := HcL.out la (by have := Hll.out; omega)
      have hli : (la : Int) < (ls.length : Int) := by have := Hll.out; omega
      have hpl := lens_pos' Hl.out (r := la) (by omega)
      have hpr2 := lens_pos' Hl.out (r := r) hr
      obtain ⟨LA, hLA⟩ : ∃ x, ls.getD la 0 = x := ⟨_, rfl⟩
      rw [hLA] at cl hlw hpl q5
      have HLA := Lib.hid hLA
      have Hq5 := Lib.hid q5
      have Hlw := Lib.hid hlw
      have HW := Lib.hid hW
      have hzb : z ≤ 1000000000000000 := by have := Hzl.out; omega
      clear hpr q1 q3 hla hra hLA q5 hlw hW hpr2
      by_cases hc1 : z < LA
      · go_wp2_with fail
        refine ⟨⟨la, z, by omega, rfl, rfl, hz, by rw [HLA.out]; exact hc1, ?_, trivial⟩, by simp [intOf]; omega⟩
        have := Hw.out
        rwa [HW.out, List.getElem?_append_left (by have := Hlw.out; omega)] at this
      · go_wp2_with fail
        refine ⟨⟨ra, z - LA, by omega, rfl, rfl, by omega, by have := Hq5.out; have := Hzl.out; omega, ?_, trivial⟩, by simp [intOf]; omega⟩
        have := Hw.out
        rw [HW.out, List.getElem?_append_right (by have := Hlw.out; omega)] at this
        rwa [show z.toNat - (W1 xs la).length = (z - LA).toNat by have := Hlw.out; omega] at this
    · have hp3 : R.letter.toList.isEmpty = false := by simpa using hp2
      have hpr : (getR xs r).pair = false := by rw [HR.out]; rw [isEmpty_size] at hp3; exact hp3
      have hsz := isLet_size (lens_isLet Hl.out hr hpr)
      have hone := lens_letter Hl.out hr hpr
      have hW := W1_let hpr
      rw [HR.out] at hsz hW
      have hz0 : z = 0 := by have := Hzl.out; omega
      have hcc : R.letter.data.toList[0]? = some c := by
        have := Hw.out
        rw [hW, hz0] at this; exact this
      have hs0 : 0 < R.letter.size := by omega
      have hget : R.letter[0]'hs0 = c := by
        rw [toList_getElem? _ _ hs0] at hcc
        exact Option.some.inj hcc
      have Hget := Lib.hid hget
      clear hp2 hpr hone hW hz0 hcc hget
      go_wp2_with fail
      go_ret
      exact ⟨by rw [← Hget.out]; rfl, rfl⟩
theorem cutL_snoc {l : List UInt8} {i z : Int} {c : UInt8} (hi : 0 ≤ i) (hz : i ≤ z) (hc : l[z.toNat]? = some c) : cutL l i (z + 1) = cutL l i z ++ [c] := by
  have hlt := (List.getElem?_eq_some_iff.1 hc).1
  unfold cutL
  rw [show (z + 1).toNat = z.toNat + 1 by omega, List.take_add_one, hc, Option.toList_some, List.drop_append_of_le_length (by rw [List.length_take]; omega)]
theorem cutL_none (l : List UInt8) (i : Int) : cutL l i i = [] := cutL_nil (by omega)
set_option maxRecDepth 100000 in
set_option maxHeartbeats 2000000 in
theorem l02Unpack_any (b o : Nat) (v : Value) (xs : List GRule) (ls : List Int) (i j : Int) (w : World) (hp : w.cell? ⟨b, o, none⟩ = some v) (hbl : b < w.heap.size) (h : Sl RuleE w w.heap.size v xs) (hsm : SmallL xs) (hl : lens xs = some ls)
    (hn : xs.length ≤ 400) (hi : 0 ≤ i) (hij : i ≤ j) (hj : j ≤ lastI ls) (hbig : j - i ≤ 1000000) :
    Calls Tryz.prog 72 #[.pointer (some ⟨b, o, none⟩), .int .i64 i, .int .i64 j] w fun e w' => e = .returned (.string ⟨(cutL (wordG xs) i j).toArray⟩) ∧ Below w.heap.size w w' := by
  have HR := Lib.hid h
  obtain ⟨AR, cR, rfl, _⟩ := h
  have Hl := Lib.hid hl
  have hwl := wordG_len hl
  have hlb := (lastI_bounds hl).2
  have hd4 : decide (xs.length ≤ 400) = true := by simp [hn]
  clear hl
  go_enter Tryz.func72, Tryz.ntmps72
  go_wp2_with fail
  refine (l02Lengths_any _ _ _ xs _ hp hbl HR.out hsm).mono ?_
  rintro e w2 ⟨hb2, v2, ls', rfl, own2, hls⟩
  have e4 : ls' = ls := hls hn ls Hl.out
  subst e4
  obtain ⟨A2, c2, rfl, _⟩ := own_nil own2
  have p2 := (hb2.cell (p := ⟨b, o, none⟩) hbl).trans hp
  have z2 : b < w2.heap.size := Nat.lt_of_lt_of_le hbl hb2.size
  have HL2 := Lib.hid own2.sl
  have HR2 := Lib.hid (HR.out.up hb2)
  have HB2 := Lib.hid hb2
  clear hb2 own2 hls hp
  go_wp2_with fail
  go_loopw [9, 10] (fun q a wx => ∃ (k : Nat) (z : Int) (g c : Nat) (l : List UInt8), z = i + k ∧ z ≤ j ∧ a = .int .i64 z ∧ q = .slice (some ⟨g, 0, none⟩) l.length c ∧ l = cutL (wordG xs) i z ∧ OwnB wx w2.heap.size q l ∧ Below w2.heap.size w2 wx) (fun _ a _ => (j - intOf a).toNat)
  case atStart => exact ⟨0, i, _, 0, [], by omega, hij, rfl, rfl, (cutL_none _ _).symm, OwnB.empty rfl (Nat.le_refl _), (Below.refl _ _).alloc (Nat.le_refl _) _⟩
  case round =>
    obtain ⟨k, z, g, c, l, hz, hzj, rfl, rfl, hlc, hown, hb3⟩ := hrel
    have Hown := Lib.hid hown
    have HB3 := Lib.hid hb3
    have Hlc := Lib.hid hlc
    have hll : (l.length : Int) = z - i := by rw [hlc]; exact cutL_len hi (by omega) (by omega)
    have p3 := (hb3.cell (p := ⟨b, o, none⟩) z2).trans p2
    have HL3 := Lib.hid ((HL2.out.below hb3).le hb3.size)
    have HR3 := Lib.hid ((HR2.out.below hb3).le hb3.size)
    have hcv := OwnB.string hown
    have HLL : Hid (l.length ≤ 1099511627776) := by rw [Hid]; omega
    have hs3 : w2.heap.size ≤ wr.heap.size := hb3.size
    have Hz0 := Lib.hid hz
    have hiz : i ≤ z := by omega
    clear hown hb3 hlc hz
    by_cases hlt : z < j
    · obtain ⟨x, hx⟩ : ∃ x, (wordG xs)[z.toNat]? = some x := ⟨_, List.getElem?_eq_getElem (by omega)⟩
      have Hx := Lib.hid hx
      have Lt := Lib.hid (l02Letter_any b o _ (.slice A2 ls'.length c2) xs ls' z x wr p3 HR3.out HL3.out Hl.out (by omega) (by omega) hx)
      have hzm : z ≤ 1000000000000000 := by omega
      have Hll := Lib.hid hll
      clear hx hcv hll
      go_wp2_with fail
      (with_reducible refine Lt.out.mono ?_)
      rintro e w4 ⟨rfl, rfl⟩
      go_wp2_with (first
        | (at_builtin; refine push_byte (base := w2.heap.size) (v := .slice (some ⟨g, 0, none⟩) l.length c) (l := l) (y := x) rfl _ _ rfl rfl rfl rfl Hown.out HLL.out hs3 ?_; intro v5 w5 own5 hg5 hb5; obtain ⟨g5, c5, rfl⟩ := own5.some_ (by simp)))
      have e5 : (l ++ [x]).length = l.length + 1 := by simp
      refine ⟨⟨k + 1, z + 1, g5, c5, l ++ [x], by have := Hz0.out; omega, by omega, rfl, by rw [e5], ?_, by rw [← e5]; exact own5, HB3.out.trans hb5⟩, by simp [intOf]; omega⟩
      rw [cutL_snoc hi (by omega) Hx.out, Hlc.out]
    · have hzj2 : z = j := by omega
      have Hz := Lib.hid hzj2
      clear hll hzj2
      go_wp2_with fail
      go_ret
      exact ⟨by rw [← Hz.out, ← Hlc.out]; rfl, HB2.out.trans (HB3.out.mono HB2.out.size)⟩
def wordE (k : Int) : List UInt8 := if k = 1 then [105, 110, 115, 101, 114, 116] else if k = 2 then [100, 101, 108, 101, 116, 101] else if k = 3 then [99, 111, 112, 121] else if k = 4 then [109, 111, 118, 101] else if k = 5 then [116, 117, 114, 110] else if k = 6 then [114, 101, 112, 101, 97, 116] else [109, 97, 112]
def etL (e : GEdit) : List UInt8 := wordE e.kind ++ (32 :: dec e.i) ++ (if usesJ e.kind then 32 :: dec e.j else []) ++ (if usesK e.kind then 32 :: dec e.k else []) ++ (if e.kind == 1 then 32 :: wordG e.part else []) ++ (if e.kind == 7 then 32 :: e.map.data.toList else [])
def etV (e : GEdit) : List UInt8 := if editOk e then (if e.kind == 1 && decide (2000 < (wordG e.part).length) then [] else etL e) else []
theorem wordE_len {k : Int} (h : inR k 1 7 = true) : (wordE k).length ≤ 6 := by
  rcases kind7 h with rfl | rfl | rfl | rfl | rfl | rfl | rfl <;> decide
theorem dec_len15 {a : Int} (h : 0 ≤ a ∧ a ≤ 1000000000000000) : (dec a).length ≤ 16 := by
  unfold dec; rw [Lib.decDigits_length]; exact nDigits_le 15 _ (by omega)
theorem Decimal_big (a : Int) (h : 0 ≤ a ∧ a ≤ 1000000000000000) (w : World) : Calls Tryz.prog 28 #[.int .i64 a] w fun e w' => e = .returned (.string ⟨(dec a).toArray⟩) ∧ Below w.heap.size w w' := by
  obtain ⟨n, rfl⟩ := Int.eq_ofNat_of_zero_le h.1
  exact Decimal_any n (by omega) w
theorem str32' : (⟨#[32]⟩ : ByteArray) = ⟨[32].toArray⟩ := rfl
theorem combos {k : Int} (h : inR k 1 7 = true) : (usesJ k = false ∧ usesK k = false ∧ (k == 1) = true ∧ (k == 7) = false) ∨ (usesJ k = true ∧ usesK k = false ∧ (k == 1) = false ∧ (k == 7) = false) ∨ (usesJ k = true ∧ usesK k = true ∧ (k == 1) = false ∧ (k == 7) = false) ∨ (usesJ k = true ∧ usesK k = false ∧ (k == 1) = false ∧ (k == 7) = true) := by
  rcases kind7 h with rfl | rfl | rfl | rfl | rfl | rfl | rfl <;> decide
set_option maxRecDepth 100000 in
set_option maxHeartbeats 4000000 in
theorem formOf_word (k : Int) (w : World) (h : inR k 1 7 = true) : Calls Tryz.prog 76 #[.int .i64 k] w fun e w' =>
    e = .returned (.tuple #[.agg #[.string ⟨(wordE k).toArray⟩, .bool (usesJ k), .bool (usesK k), .bool (k == 1), .bool (k == 7)], .bool true]) ∧ Below w.heap.size w w' := by
  rcases kind7 h with rfl | rfl | rfl | rfl | rfl | rfl | rfl
  · clear h
    go_enter Tryz.func76, Tryz.ntmps76
    go_wp2
    refine bodyPost_ret (v := .tuple #[.agg #[.string ⟨#[105, 110, 115, 101, 114, 116]⟩, .bool false, .bool false, .bool true, .bool false], .bool true]) (by simp [results, Tryz.results76, go_sem]) rfl ⟨rfl, ?_⟩
    exact (by repeat (first | exact Below.refl _ _ | (refine Below.alloc ?_ (by first | omega | (simp; done) | (simp; omega)) _) | refine below_drewN ?_ _ | refine Below.drew ?_))
  · clear h
    go_enter Tryz.func76, Tryz.ntmps76
    go_wp2
    refine bodyPost_ret (v := .tuple #[.agg #[.string ⟨#[100, 101, 108, 101, 116, 101]⟩, .bool true, .bool false, .bool false, .bool false], .bool true]) (by simp [results, Tryz.results76, go_sem]) rfl ⟨rfl, ?_⟩
    exact (by repeat (first | exact Below.refl _ _ | (refine Below.alloc ?_ (by first | omega | (simp; done) | (simp; omega)) _) | refine below_drewN ?_ _ | refine Below.drew ?_))
  · clear h
    go_enter Tryz.func76, Tryz.ntmps76
    go_wp2
    refine bodyPost_ret (v := .tuple #[.agg #[.string ⟨#[99, 111, 112, 121]⟩, .bool true, .bool true, .bool false, .bool false], .bool true]) (by simp [results, Tryz.results76, go_sem]) rfl ⟨rfl, ?_⟩
    exact (by repeat (first | exact Below.refl _ _ | (refine Below.alloc ?_ (by first | omega | (simp; done) | (simp; omega)) _) | refine below_drewN ?_ _ | refine Below.drew ?_))
  · clear h
    go_enter Tryz.func76, Tryz.ntmps76
    go_wp2
    refine bodyPost_ret (v := .tuple #[.agg #[.string ⟨#[109, 111, 118, 101]⟩, .bool true, .bool true, .bool false, .bool false], .bool true]) (by simp [results, Tryz.results76, go_sem]) rfl ⟨rfl, ?_⟩
    exact (by repeat (first | exact Below.refl _ _ | (refine Below.alloc ?_ (by first | omega | (simp; done) | (simp; omega)) _) | refine below_drewN ?_ _ | refine Below.drew ?_))
  · clear h
    go_enter Tryz.func76, Tryz.ntmps76
    go_wp2
    refine bodyPost_ret (v := .tuple #[.agg #[.string ⟨#[116, 117, 114, 110]⟩, .bool true, .bool false, .bool false, .bool false], .bool true]) (by simp [results, Tryz.results76, go_sem]) rfl ⟨rfl, ?_⟩
    exact (by repeat (first | exact Below.refl _ _ | (refine Below.alloc ?_ (by first | omega | (simp; done) | (simp; omega)) _) | refine below_drewN ?_ _ | refine Below.drew ?_))
  · clear h
    go_enter Tryz.func76, Tryz.ntmps76
    go_wp2
    refine bodyPost_ret (v := .tuple #[.agg #[.string ⟨#[114, 101, 112, 101, 97, 116]⟩, .bool true, .bool true, .bool false, .bool false], .bool true]) (by simp [results, Tryz.results76, go_sem]) rfl ⟨rfl, ?_⟩
    exact (by repeat (first | exact Below.refl _ _ | (refine Below.alloc ?_ (by first | omega | (simp; done) | (simp; omega)) _) | refine below_drewN ?_ _ | refine Below.drew ?_))
  · clear h
    go_enter Tryz.func76, Tryz.ntmps76
    go_wp2
    refine bodyPost_ret (v := .tuple #[.agg #[.string ⟨#[109, 97, 112]⟩, .bool true, .bool false, .bool false, .bool true], .bool true]) (by simp [results, Tryz.results76, go_sem]) rfl ⟨rfl, ?_⟩
    exact (by repeat (first | exact Below.refl _ _ | (refine Below.alloc ?_ (by first | omega | (simp; done) | (simp; omega)) _) | refine below_drewN ?_ _ | refine Below.drew ?_))
theorem editOk_nums {e : GEdit} (h : editOk e = true) : inR e.kind 1 7 = true ∧ (0 ≤ e.i ∧ e.i ≤ 1000000000000000) ∧ (0 ≤ e.j ∧ e.j ≤ 1000000000000000) ∧ (0 ≤ e.k ∧ e.k ≤ 1000000000000000) ∧ gramOk e.part = true ∧ e.map.size ≤ 4 := by
  unfold editOk at h
  simp only [Bool.and_eq_true] at h
  obtain ⟨⟨⟨⟨⟨⟨⟨h1, h2⟩, h3⟩, h4⟩, h5⟩, h6⟩, h7⟩, h8⟩ := h
  have num : ∀ n b, numOk n b = true → 0 ≤ n ∧ n ≤ 1000000000000000 := by
    intro n b hn
    unfold numOk at hn
    split at hn
    · simpa [inR] using hn
    · simp at hn; omega
  refine ⟨h1, by simpa [inR] using h2, num _ _ h3, num _ _ h4, h7, ?_⟩
  split at h8
  · simp at h8; omega
  · have : e.map.size = 0 := by simpa using h8
    omega
set_option maxRecDepth 100000 in
set_option maxHeartbeats 4000000 in
theorem implEditText_any (v : Value) (e : GEdit) (w : World) (h : EditV w w.heap.size v e) (hn : e.part.length ≤ 1048576) (hm : e.map.size ≤ maxLen) (htab : Lib.TabIs Tryz.prog w "internal/strconv.uint64pow10" .u64 Lib.pow10Tab) :
    Calls Tryz.prog 22 #[v] w fun r w' => r = .returned (.string ⟨(etV e).toArray⟩) ∧ Below w.heap.size w w' := by
  have HT := Lib.hid htab
  have hV := fun o => (h.below ((Below.refl w.heap.size w).alloc (Nat.le_refl _) o)).le (B' := (w.alloc o).heap.size) (by simp)
  have HV := Lib.hid hV
  clear hV htab
  obtain ⟨vR, rfl, hR⟩ := h
  have HR := Lib.hid hR
  obtain ⟨AR, cR, rfl, _⟩ := hR
  go_enter Tryz.func22, Tryz.ntmps22
  go_wp2_with fail
  refine (implValidEdit_any _ e _ (HV.out _) (by omega) hm).mono ?_
  rintro r w1 ⟨rfl, hb1⟩
  have z1 : w.heap.size < w1.heap.size := Nat.lt_of_lt_of_le (by simp) hb1.size
  have X1 := Lib.hid (Box6.new hb1)
  have B1 := Lib.hid (((Below.refl w.heap.size w).alloc (Nat.le_refl _) _).trans (hb1.mono (by simp)))
  clear hb1
  obtain ⟨x0, x1, x2, x3, x4, x5⟩ := X1.out
  by_cases he : editOk e = true
  · have HE := Lib.hid he
    have g0 : (!editOk e) = false := by simp [he]
    obtain ⟨hk, hi, hj, hkk, hg, hmp⟩ := editOk_nums he
    have Hk := Lib.hid hk
    have hWl := wordE_len hk
    have hI := dec_len15 hi
    have hJ := dec_len15 hj
    have hK := dec_len15 hkk
    have Hi := Lib.hid hi
    have Hj := Lib.hid hj
    have Hkk := Lib.hid hkk
    have Hg := Lib.hid hg
    obtain ⟨WL, hWL⟩ : ∃ WL, wordE e.kind = WL := ⟨_, rfl⟩
    have HWL := Lib.hid hWL
    rw [hWL] at hWl
    clear he hk hi hj hkk hg hWL
    go_wp2_with fail
    refine (formOf_word e.kind _ Hk.out).mono ?_
    rintro r w2 ⟨rfl, hb2⟩
    rw [HWL.out]
    have z2 : w.heap.size < w2.heap.size := Nat.lt_of_lt_of_le z1 hb2.size
    have X2 := Lib.hid (X1.out.up hb2 z1)
    have B2 := Lib.hid (B1.out.trans (hb2.mono B1.out.size))
    clear hb2 x0 x1 x2 x3 x4 x5
    have hcm := combos Hk.out
    obtain ⟨fJ, hfJ⟩ : ∃ b, usesJ e.kind = b := ⟨_, rfl⟩
    obtain ⟨fK, hfK⟩ : ∃ b, usesK e.kind = b := ⟨_, rfl⟩
    obtain ⟨fP, hfP⟩ : ∃ b, (e.kind == 1) = b := ⟨_, rfl⟩
    obtain ⟨fM, hfM⟩ : ∃ b, (e.kind == 7) = b := ⟨_, rfl⟩
    have hV0 : etV e = if fP && decide (2000 < (wordG e.part).length) then [] else WL ++ (32 :: dec e.i) ++ (if fJ then 32 :: dec e.j else []) ++ (if fK then 32 :: dec e.k else []) ++ (if fP then 32 :: wordG e.part else []) ++ (if fM then 32 :: e.map.data.toList else []) := by
      rw [etV, if_pos HE.out, etL, HWL.out, hfJ, hfK, hfP, hfM]
    have HV0 := Lib.hid hV0
    rw [hfJ, hfK, hfP, hfM] at hcm
    rw [hfJ, hfK, hfP, hfM]
    clear hfJ hfK hfP hfM hV0
    have n1 : ¬ (9223372036854775807 < WL.length + 1) := by omega
    have n2 : ¬ (9223372036854775807 < WL.length + 1 + (dec e.i).length) := by omega
    have hBF : ∀ o, Below w2.heap.size w2 (w2.alloc o) := fun o => (Below.refl _ _).alloc (Nat.le_refl _) _
    have D1 := Lib.hid (fun W hb => decimal_big e.i W Hi.out (tab_below HT.out hb))
    obtain ⟨x0, x1, x2, x3, x4, x5⟩ := X2.out
    go_upto_region 4 with fail
    have f0 : (w2.alloc (Obj.cells #[.string ⟨WL.toArray⟩, .bool fJ, .bool fK, .bool fP, .bool fM] 121)).cell? ⟨w2.heap.size, 0, none⟩ = some (.string ⟨WL.toArray⟩) := by simp [go_sem]
    have f1 : (w2.alloc (Obj.cells #[.string ⟨WL.toArray⟩, .bool fJ, .bool fK, .bool fP, .bool fM] 121)).cell? ⟨w2.heap.size, 1, none⟩ = some (.bool fJ) := by simp [go_sem]
    have f2 : (w2.alloc (Obj.cells #[.string ⟨WL.toArray⟩, .bool fJ, .bool fK, .bool fP, .bool fM] 121)).cell? ⟨w2.heap.size, 2, none⟩ = some (.bool fK) := by simp [go_sem]
    have f3 : (w2.alloc (Obj.cells #[.string ⟨WL.toArray⟩, .bool fJ, .bool fK, .bool fP, .bool fM] 121)).cell? ⟨w2.heap.size, 3, none⟩ = some (.bool fP) := by simp [go_sem]
    have f4 : (w2.alloc (Obj.cells #[.string ⟨WL.toArray⟩, .bool fJ, .bool fK, .bool fP, .bool fM] 121)).cell? ⟨w2.heap.size, 4, none⟩ = some (.bool fM) := by simp [go_sem]
    have hb3 := hBF (Obj.cells #[.string ⟨WL.toArray⟩, .bool fJ, .bool fK, .bool fP, .bool fM] 121)
    have hl3 : w2.heap.size < (w2.alloc (Obj.cells #[.string ⟨WL.toArray⟩, .bool fJ, .bool fK, .bool fP, .bool fM] 121)).heap.size := by simp
    generalize w2.alloc (Obj.cells #[.string ⟨WL.toArray⟩, .bool fJ, .bool fK, .bool fP, .bool fM] 121) = w3 at *
    have z3 : w.heap.size < w3.heap.size := by omega
    have X3 := Lib.hid (X2.out.up hb3 z2)
    have B3 := Lib.hid (B2.out.trans (hb3.mono B2.out.size))
    have D1d := Lib.hid (D1.out w3.drew (Below.drew B3.out))
    have F1 := Lib.hid f1
    have F2 := Lib.hid f2
    have F3 := Lib.hid f3
    have F4 := Lib.hid f4
    clear hb3 hBF x0 x1 x2 x3 x4 x5
    obtain ⟨x0, x1, x2, x3, x4, x5⟩ := X3.out
    go_cut [5] from 17 to 23 (fun q wx => q = .string ⟨(WL ++ (32 :: dec e.i)).toArray⟩ ∧ Below w3.heap.size w3 wx)
    case first =>
      go_region_law (go_simp; go_at_call 78; (with_reducible refine D1d.out.mono ?_); rintro r w4 ⟨rfl, hb4⟩; have f40 := (hb4.cell (p := ⟨w2.heap.size, 0, none⟩) hl3).trans f0)
      all_goals
        go_wp2_with fail
        go_meet
        exact ⟨by simp [str_app], (Below.drew (Below.refl _ _)).trans hb4⟩
    case rest =>
      revert hcut
      generalize wc = w4
      intro hcut
      obtain ⟨rfl, hb4⟩ := hcut
      have z4 : w.heap.size < w4.heap.size := Nat.lt_of_lt_of_le z3 hb4.size
      have X4 := Lib.hid (X3.out.up hb4 z3)
      have B4 := Lib.hid (B3.out.trans (hb4.mono B3.out.size))
      have h1 := (hb4.cell (p := ⟨w2.heap.size, 1, none⟩) hl3).trans F1.out
      have h2 := (hb4.cell (p := ⟨w2.heap.size, 2, none⟩) hl3).trans F2.out
      have h3 := (hb4.cell (p := ⟨w2.heap.size, 3, none⟩) hl3).trans F3.out
      have h4 := (hb4.cell (p := ⟨w2.heap.size, 4, none⟩) hl3).trans F4.out
      have l4 : w2.heap.size < w4.heap.size := Nat.lt_of_lt_of_le hl3 hb4.size
      clear f0 f1 f2 f3 f4 x0 x1 x2 x3 x4 x5 hb4 n1 n2
      obtain ⟨x0, x1, x2, x3, x4, x5⟩ := X4.out
      obtain ⟨L, hL⟩ : ∃ L, WL ++ (32 :: dec e.i) = L := ⟨_, rfl⟩
      have hLl : L.length ≤ 23 := by rw [← hL]; simp; omega
      rw [hL]
      rw [hL] at HV0
      clear hL
      obtain ⟨DJ, hDJ⟩ : ∃ D, dec e.j = D := ⟨_, rfl⟩
      obtain ⟨DK, hDK⟩ : ∃ D, dec e.k = D := ⟨_, rfl⟩
      have DecJ := Lib.hid (fun W hb => decimal_big e.j W Hj.out (tab_below HT.out hb))
      have DecK := Lib.hid (fun W hb => decimal_big e.k W Hkk.out (tab_below HT.out hb))
      rw [hDJ] at hJ HV0 DecJ
      rw [hDK] at hK HV0 DecK
      have n1 : ¬ (9223372036854775807 < 1 + DJ.length) := by omega
      have n2 : ¬ (9223372036854775807 < 1 + DK.length) := by omega
      have n3 : ¬ (9223372036854775807 < L.length + (1 + DJ.length)) := by omega
      have n4 : ¬ (9223372036854775807 < L.length + (1 + DJ.length) + (1 + DK.length)) := by omega
      have n5 : ¬ (9223372036854775807 < 1 + e.map.size) := by omega
      have n6 : ¬ (9223372036854775807 < L.length + (1 + DJ.length) + (1 + e.map.size)) := by omega
      clear hDJ hDK
      rcases hcm with ⟨rfl, rfl, rfl, rfl⟩ | ⟨rfl, rfl, rfl, rfl⟩ | ⟨rfl, rfl, rfl, rfl⟩ | ⟨rfl, rfl, rfl, rfl⟩
      · have S4 := Lib.hid ((HR.out.below B4.out).le (Nat.le_of_lt z4))
        have U := unpackWord_any _ e.part w4 S4.out hn
        by_cases hb : (wordG e.part).length ≤ 2000
        · have e1 : upV e.part = wordG e.part := by simp [upV, Hg.out, hb]
          have e2 : upC e.part = 0 := by simp [upC, Hg.out, hb]
          rw [e1, e2] at U
          have hE : etV e = L ++ 32 :: wordG e.part := by rw [HV0.out]; simp [show ¬ 2000 < (wordG e.part).length by omega]
          have HE2 := Lib.hid hE
          have HU := Lib.hid U
          obtain ⟨P, hP⟩ : ∃ P, wordG e.part = P := ⟨_, rfl⟩
          rw [hP] at HU HE2 hb
          have m1 : ¬ (9223372036854775807 < 1 + P.length) := by omega
          have m2 : ¬ (9223372036854775807 < L.length + (1 + P.length)) := by omega
          clear e1 e2 U hE hP HV0
          go_wp2_with fail
          refine HU.out.mono ?_
          rintro r w5 ⟨rfl, hb5⟩
          have B5 := Lib.hid (B4.out.trans (hb5.mono B4.out.size))
          have k4 := (hb5.cell (p := ⟨w2.heap.size, 4, none⟩) l4).trans h4
          clear hb5
          go_wp2_with fail
          go_ret
          exact ⟨by rw [HE2.out]; simp [str_app], B5.out⟩
        · have e1 : upV e.part = [] := by simp [upV, hb]
          have e2 : upC e.part = 3 := by simp [upC, Hg.out, hb]
          rw [e1, e2] at U
          have hE : etV e = [] := by rw [HV0.out]; simp [show 2000 < (wordG e.part).length by omega]
          have HE2 := Lib.hid hE
          have HU := Lib.hid U
          clear e1 e2 U hE HV0
          go_wp2_with fail
          refine HU.out.mono ?_
          rintro r w5 ⟨rfl, hb5⟩
          have B5 := Lib.hid (B4.out.trans (hb5.mono B4.out.size))
          clear hb5
          go_wp2_with fail
          go_ret
          exact ⟨by rw [HE2.out]; rfl, B5.out⟩
      · have hE : etV e = L ++ 32 :: DJ := by rw [HV0.out]; simp
        have HE2 := Lib.hid hE
        clear hE HV0
        go_wp2_with fail
        refine (DecJ.out _ B4.out).mono ?_
        rintro r w5 ⟨rfl, hb5⟩
        have B5 := Lib.hid (B4.out.trans (hb5.mono B4.out.size))
        have k2 := (hb5.cell (p := ⟨w2.heap.size, 2, none⟩) l4).trans h2
        have k3 := (hb5.cell (p := ⟨w2.heap.size, 3, none⟩) l4).trans h3
        have k4 := (hb5.cell (p := ⟨w2.heap.size, 4, none⟩) l4).trans h4
        clear hb5
        go_wp2_with fail
        go_ret
        exact ⟨by rw [HE2.out]; simp [str_app], B5.out⟩
      · have hE : etV e = L ++ 32 :: DJ ++ 32 :: DK := by rw [HV0.out]; simp
        have HE2 := Lib.hid hE
        clear hE HV0
        go_wp2_with fail
        refine (DecJ.out _ B4.out).mono ?_
        rintro r w5 ⟨rfl, hb5⟩
        have X5 := Lib.hid (X4.out.up hb5 z4)
        have B5 := Lib.hid (B4.out.trans (hb5.mono B4.out.size))
        have k2 := (hb5.cell (p := ⟨w2.heap.size, 2, none⟩) l4).trans h2
        have k3 := (hb5.cell (p := ⟨w2.heap.size, 3, none⟩) l4).trans h3
        have k4 := (hb5.cell (p := ⟨w2.heap.size, 4, none⟩) l4).trans h4
        have l5 : w2.heap.size < w5.heap.size := Nat.lt_of_lt_of_le l4 hb5.size
        clear hb5 x0 x1 x2 x3 x4 x5
        obtain ⟨x0, x1, x2, x3, x4, x5⟩ := X5.out
        go_wp2_with fail
        refine (DecK.out _ B5.out).mono ?_
        rintro r w6 ⟨rfl, hb6⟩
        have B6 := Lib.hid (B5.out.trans (hb6.mono B5.out.size))
        have j3 := (hb6.cell (p := ⟨w2.heap.size, 3, none⟩) l5).trans k3
        have j4 := (hb6.cell (p := ⟨w2.heap.size, 4, none⟩) l5).trans k4
        clear hb6
        go_wp2_with fail
        go_ret
        exact ⟨by rw [HE2.out]; simp [str_app], B6.out⟩
      · have hE : etV e = L ++ 32 :: DJ ++ 32 :: e.map.data.toList := by rw [HV0.out]; simp
        have HE2 := Lib.hid hE
        clear hE HV0
        go_wp2_with fail
        refine (DecJ.out _ B4.out).mono ?_
        rintro r w5 ⟨rfl, hb5⟩
        have X5 := Lib.hid (X4.out.up hb5 z4)
        have B5 := Lib.hid (B4.out.trans (hb5.mono B4.out.size))
        have k2 := (hb5.cell (p := ⟨w2.heap.size, 2, none⟩) l4).trans h2
        have k3 := (hb5.cell (p := ⟨w2.heap.size, 3, none⟩) l4).trans h3
        have k4 := (hb5.cell (p := ⟨w2.heap.size, 4, none⟩) l4).trans h4
        clear hb5 x0 x1 x2 x3 x4 x5
        obtain ⟨x0, x1, x2, x3, x4, x5⟩ := X5.out
        go_wp2_with fail
        go_ret
        refine ⟨?_, B5.out⟩
        have key : (((⟨L.toArray⟩ : ByteArray) ++ (⟨#[32]⟩ ++ ⟨DJ.toArray⟩)) ++ (⟨#[32]⟩ ++ e.map)) = ⟨(L ++ 32 :: DJ ++ 32 :: e.map.data.toList).toArray⟩ := by
          apply ByteArray.ext
          simp [ByteArray.data_append]
        rw [HE2.out, ← key]
        rfl
  · have g0 : (!editOk e) = true := by simpa using he
    have hV0 : etV e = [] := by rw [etV, if_neg he]
    have HV0 := Lib.hid hV0
    clear he hV0
    go_wp2_with fail
    go_ret
    exact ⟨by rw [HV0.out]; rfl, B1.out⟩
def WordsEPost (w : World) (e : Ending) (w' : World) : Prop :=
  ∃ B, e = .returned (.slice (some ⟨B, 0, none⟩) 8 8) ∧ Below w.heap.size w w' ∧ B < w'.heap.size ∧ ∀ k : Nat, inR (k : Int) 1 7 = true → w'.cell? ⟨B, k, none⟩ = some (.string ⟨(wordE (k : Int)).toArray⟩)
set_option maxRecDepth 100000 in
theorem l07Words_any (w : World) : Calls Tryz.prog 68 #[] w (WordsEPost w) := by
  go_enter Tryz.func68, Tryz.ntmps68
  go_wp2
  go_ret
  refine ⟨_, rfl, (by repeat (first | exact Below.refl _ _ | (refine Below.alloc ?_ (by first | omega | (simp; done) | (simp; omega)) _) | refine below_drewN ?_ _ | refine Below.drew ?_)), by simp, ?_⟩
  intro k h
  have h2 : 1 ≤ k ∧ k ≤ 7 := by simp [inR] at h; omega
  have : k = 1 ∨ k = 2 ∨ k = 3 ∨ k = 4 ∨ k = 5 ∨ k = 6 ∨ k = 7 := by omega
  clear h h2
  rcases this with rfl | rfl | rfl | rfl | rfl | rfl | rfl <;> simp [go_sem, wordE]
set_option maxRecDepth 100000 in
set_option maxHeartbeats 4000000 in
theorem specEditText_any (v : Value) (e : GEdit) (w : World) (h : EditV w w.heap.size v e) (hsm : SmallL e.part) (hn : e.part.length ≤ 1048576) (hm : e.map.size ≤ maxLen) :
    Calls Tryz.prog 20 #[v] w fun r w' => r = .returned (.string ⟨(etV e).toArray⟩) ∧ Below w.heap.size w w' := by
  obtain ⟨vR, rfl, hR⟩ := h
  have hA : ∀ c : Obj, c = Obj.cells #[.int .i64 e.kind, .int .i64 e.i, .int .i64 e.j, .int .i64 e.k, vR, .string e.map] 46 → EditAt (w.alloc c) (w.alloc c).heap.size w.heap.size e vR := by
    rintro c rfl
    exact ⟨Box6.new (Below.refl _ _), by simp, (hR.below ((Below.refl _ _).alloc (Nat.le_refl _) _)).le (by simp)⟩
  have HA := Lib.hid hA
  clear hA hR
  go_enter Tryz.func20, Tryz.ntmps20
  go_wp2_with fail
  refine (l07Ok_any _ vR e _ (HA.out _ rfl) hsm (by omega) hm).mono ?_
  rintro r w1 ⟨rfl, hb1⟩
  have E1 := Lib.hid ((HA.out _ rfl).up hb1)
  have B1 := Lib.hid (((Below.refl w.heap.size w).alloc (Nat.le_refl _) _).trans (hb1.mono (by simp)))
  clear hb1
  by_cases he : editOk e = true
  · have HE := Lib.hid he
    have g0 : (!editOk e) = false := by simp [he]
    obtain ⟨hk, hi, hj, hkk, hg, hmp⟩ := editOk_nums he
    have Hk := Lib.hid hk
    have hWl := wordE_len hk
    have hI := dec_len15 hi
    have hJ := dec_len15 hj
    have hK := dec_len15 hkk
    have Hi := Lib.hid hi
    have Hj := Lib.hid hj
    have Hkk := Lib.hid hkk
    have Hg := Lib.hid hg
    obtain ⟨hu1, hu2, hu3, hu4, hu5⟩ := uses_has hk
    have hk7 : 1 ≤ e.kind ∧ e.kind ≤ 7 := by simpa [inR] using hk
    obtain ⟨κ, hκ⟩ := Int.eq_ofNat_of_zero_le (show 0 ≤ e.kind by omega)
    have hκ8 : (κ : Int) < 8 := by omega
    obtain ⟨WL, hWL⟩ : ∃ WL, wordE e.kind = WL := ⟨_, rfl⟩
    have HWL := Lib.hid hWL
    rw [hWL] at hWl
    clear he hi hj hkk hg hWL hk7
    have n1 : ¬ (9223372036854775807 < WL.length + 1) := by omega
    have n2 : ¬ (9223372036854775807 < WL.length + 1 + (dec e.i).length) := by omega
    have z1 : w.heap.size < w1.heap.size := E1.out.lt
    have D1 := Lib.hid (fun W => Decimal_big e.i Hi.out W)
    have Hκ := Lib.hid hκ
    obtain ⟨x0, x1, x2, x3, x4, x5⟩ := E1.out.box
    have X1 := And.intro x0 x1
    rw [hκ] at x0
    have hkκ : inR (κ : Int) 1 7 = true := by rw [← hκ]; exact hk
    have hWκ : wordE (κ : Int) = WL := by rw [← hκ]; exact HWL.out
    have Hkκ := Lib.hid hkκ
    have HWκ := Lib.hid hWκ
    clear hκ hk hkκ hWκ
    go_upto_region 3 with fail
    go_cut [3] from 7 to 16 (fun q wx => q = .string ⟨(WL ++ (32 :: dec e.i)).toArray⟩ ∧ Below w1.heap.size w1 wx)
    case first =>
      go_region_law (first
        | (go_simp; go_at_call 68; refine (l07Words_any _).mono ?_; rintro r w2 ⟨B, rfl, hb2, hB, hw2⟩; have hcw := hw2 κ Hkκ.out; rw [HWκ.out] at hcw; clear hw2; (first | (have y0 := (hb2.cell (p := ⟨w.heap.size, 0, none⟩) z3).trans u0; have y1 := (hb2.cell (p := ⟨w.heap.size, 1, none⟩) z3).trans u1; have z2 := Nat.lt_of_lt_of_le z3 hb2.size) | (have y0 := (hb2.cell (p := ⟨w.heap.size, 0, none⟩) z1).trans x0; have y1 := (hb2.cell (p := ⟨w.heap.size, 1, none⟩) z1).trans x1; have z2 := Nat.lt_of_lt_of_le z1 hb2.size)))
        | (go_simp; go_at_call 28; (with_reducible refine (D1.out _).mono ?_); rintro r w3 ⟨rfl, hb3⟩; (first | (have u0 := (hb3.cell (p := ⟨w.heap.size, 0, none⟩) z2).trans y0; have u1 := (hb3.cell (p := ⟨w.heap.size, 1, none⟩) z2).trans y1; have z3 := Nat.lt_of_lt_of_le z2 hb3.size; have hcw' := (hb3.cell (p := ⟨B, κ, none⟩) hB).trans hcw) | (have u0 := (hb3.cell (p := ⟨w.heap.size, 0, none⟩) z1).trans x0; have u1 := (hb3.cell (p := ⟨w.heap.size, 1, none⟩) z1).trans x1; have z3 := Nat.lt_of_lt_of_le z1 hb3.size))))
      all_goals
        go_wp2_with fail
        go_meet
        first
          | exact ⟨by simp [str_app], (Below.drew (Below.refl w1.heap.size w1)).trans (hb2.trans (hb3.mono hb2.size))⟩
          | exact ⟨by simp [str_app, str32'], (Below.drew (Below.refl w1.heap.size w1)).trans (hb3.trans (hb2.mono hb3.size))⟩
    case rest =>
      revert hcut
      generalize wc = w4
      intro hcut
      obtain ⟨rfl, hb4⟩ := hcut
      have E4 := Lib.hid (E1.out.up hb4)
      have B4 := Lib.hid (B1.out.trans (hb4.mono B1.out.size))
      clear hb4 x0 x1 x2 x3 x4 x5 X1 n1 n2
      obtain ⟨x0, x1, x2, x3, x4, x5⟩ := E4.out.box
      obtain ⟨L, hL⟩ : ∃ L, WL ++ (32 :: dec e.i) = L := ⟨_, rfl⟩
      have hLl : L.length ≤ 23 := by rw [← hL]; simp; omega
      have hV0 : etV e = if (e.kind == 1) && decide (2000 < (wordG e.part).length) then [] else L ++ (if usesJ e.kind then 32 :: dec e.j else []) ++ (if usesK e.kind then 32 :: dec e.k else []) ++ (if e.kind == 1 then 32 :: wordG e.part else []) ++ (if e.kind == 7 then 32 :: e.map.data.toList else []) := by
        rw [etV, if_pos HE.out, etL, HWL.out, hL]
      rw [hL]
      have HV0 := Lib.hid hV0
      obtain ⟨DJ, hDJ⟩ : ∃ D, dec e.j = D := ⟨_, rfl⟩
      obtain ⟨DK, hDK⟩ : ∃ D, dec e.k = D := ⟨_, rfl⟩
      have DecJ := Lib.hid (fun W => Decimal_big e.j Hj.out W)
      have DecK := Lib.hid (fun W => Decimal_big e.k Hkk.out W)
      rw [hDJ] at hJ HV0 DecJ
      rw [hDK] at hK HV0 DecK
      have m1 : ¬ (9223372036854775807 < 1 + DJ.length) := by omega
      have m2 : ¬ (9223372036854775807 < 1 + DK.length) := by omega
      have m3 : ¬ (9223372036854775807 < L.length + (1 + DJ.length)) := by omega
      have m4 : ¬ (9223372036854775807 < L.length + (1 + DJ.length) + (1 + DK.length)) := by omega
      have m5 : ¬ (9223372036854775807 < 1 + e.map.size) := by omega
      have m6 : ¬ (9223372036854775807 < L.length + (1 + DJ.length) + (1 + e.map.size)) := by omega
      have hcm := combos Hk.out
      have hus : (usesS e.kind).size ≤ maxLen := Nat.le_trans hu5 (by decide)
      have HasJ := Lib.hid (fun W => l07Has_any (usesS e.kind) 74 W hus)
      have HasK := Lib.hid (fun W => l07Has_any (usesS e.kind) 75 W hus)
      have HasP := Lib.hid (fun W => l07Has_any (usesS e.kind) 80 W hus)
      have HasM := Lib.hid (fun W => l07Has_any (usesS e.kind) 77 W hus)
      rw [hu1] at HasJ
      rw [hu2] at HasK
      rw [hu3] at HasP
      rw [hu4] at HasM
      clear hDJ hDK hL hV0 hu1 hu2 hu3 hu4
      rcases hcm with ⟨c1, c2, c3, c4⟩ | ⟨c1, c2, c3, c4⟩ | ⟨c1, c2, c3, c4⟩ | ⟨c1, c2, c3, c4⟩
      all_goals
        rw [c1] at HasJ HV0
        rw [c2] at HasK HV0
        rw [c3] at HasP HV0
        rw [c4] at HasM HV0
        clear c1 c2 c3 c4
        go_wp2_with fail
        refine (l07Uses_any e.kind _ Hk.out).mono ?_
        rintro r w5 ⟨rfl, hb5⟩
        have E5 := Lib.hid (E4.out.up hb5)
        have B5 := Lib.hid (B4.out.trans (hb5.mono B4.out.size))
        clear hb5 x0 x1 x2 x3 x4 x5
        obtain ⟨x0, x1, x2, x3, x4, x5⟩ := E5.out.box
        go_wp2_with fail
        refine (HasJ.out _).mono ?_
        rintro r w' ⟨rfl, rfl⟩
      · go_wp2_with fail
        refine (HasK.out _).mono ?_
        rintro r w' ⟨rfl, rfl⟩
        go_wp2_with fail
        refine (HasP.out _).mono ?_
        rintro r w' ⟨rfl, rfl⟩
        go_wp2_with fail
        obtain ⟨ls, hls⟩ := (gram_lens Hg.out).2
        have hn400 := (gram_lens Hg.out).1
        have hwl := wordG_len hls
        refine (l02Length_any _ 4 _ e.part ls _ hls x4 E5.out.lt E5.out.sl hsm (by omega)).mono ?_
        rintro r w6 ⟨rfl, hb6⟩
        have E6 := Lib.hid (E5.out.up hb6)
        have B6 := Lib.hid (B5.out.trans (hb6.mono B5.out.size))
        clear hb6 x0 x1 x2 x3 x4 x5
        obtain ⟨x0, x1, x2, x3, x4, x5⟩ := E6.out.box
        by_cases hbig : 2000 < lastI ls
        · have hE : etV e = [] := by
            rw [HV0.out]
            have : 2000 < (wordG e.part).length := by omega
            simp [this]
          have HE2 := Lib.hid hE
          have d1 : decide (2000 < lastI ls) = true := by simp [hbig]
          clear hE HV0 hwl
          go_wp2_with fail
          go_ret
          exact ⟨by rw [HE2.out]; rfl, B6.out⟩
        · have d1 : decide (2000 < lastI ls) = false := by simp [hbig]
          have hE : etV e = L ++ 32 :: wordG e.part := by
            rw [HV0.out]
            have : ¬ 2000 < (wordG e.part).length := by omega
            simp [this]
          have HE2 := Lib.hid hE
          have hP : cutL (wordG e.part) 0 (lastI ls) = wordG e.part := cutL_all (by omega) (by omega)
          have hPl : (wordG e.part).length ≤ 2000 := by omega
          have hbds : 0 ≤ lastI ls := by omega
          have hb2000 : lastI ls - 0 ≤ 1000000 := by omega
          obtain ⟨P, hPe⟩ : ∃ P, wordG e.part = P := ⟨_, rfl⟩
          have HU := Lib.hid (fun (W : World) (hc : W.cell? ⟨w.heap.size, 4, none⟩ = some vR) (hlt : w.heap.size < W.heap.size) (hs : Sl RuleE W W.heap.size vR e.part) => l02Unpack_any w.heap.size 4 vR e.part ls 0 (lastI ls) W hc hlt hs hsm hls hn400 (Int.le_refl 0) hbds (Int.le_refl _) hb2000)
          rw [hP, hPe] at HU
          rw [hPe] at HE2 hPl
          have m7 : ¬ 9223372036854775807 < 1 + P.length := by omega
          have m8 : ¬ 9223372036854775807 < L.length + (1 + P.length) := by omega
          clear hE HV0 hwl hP hPe hbig hb2000 hbds
          go_wp2_with fail
          refine (l02Length_any _ 4 _ e.part ls _ hls x4 E6.out.lt E6.out.sl hsm (by omega)).mono ?_
          rintro r w7 ⟨rfl, hb7⟩
          have E7 := Lib.hid (E6.out.up hb7)
          have B7 := Lib.hid (B6.out.trans (hb7.mono B6.out.size))
          clear hb7 x0 x1 x2 x3 x4 x5
          obtain ⟨x0, x1, x2, x3, x4, x5⟩ := E7.out.box
          go_wp2_with fail
          refine (HU.out _ x4 E7.out.lt E7.out.sl).mono ?_
          rintro r w8 ⟨rfl, hb8⟩
          have B8 := Lib.hid (B7.out.trans (hb8.mono B7.out.size))
          clear hb8
          go_wp2_with fail
          refine (HasM.out _).mono ?_
          rintro r w' ⟨rfl, rfl⟩
          go_wp2_with fail
          go_ret
          exact ⟨by rw [HE2.out]; simp [str_app], B8.out⟩
      · have hE : etV e = L ++ 32 :: DJ := by rw [HV0.out]; simp
        have HE2 := Lib.hid hE
        clear hE HV0
        go_wp2_with fail
        refine (DecJ.out _).mono ?_
        rintro r w6 ⟨rfl, hb6⟩
        have E6 := Lib.hid (E5.out.up hb6)
        have B6 := Lib.hid (B5.out.trans (hb6.mono B5.out.size))
        clear hb6
        go_wp2_with fail
        refine (HasK.out _).mono ?_
        rintro r w' ⟨rfl, rfl⟩
        go_wp2_with fail
        refine (HasP.out _).mono ?_
        rintro r w' ⟨rfl, rfl⟩
        go_wp2_with fail
        refine (HasM.out _).mono ?_
        rintro r w' ⟨rfl, rfl⟩
        go_wp2_with fail
        go_ret
        exact ⟨by rw [HE2.out]; simp [str_app], B6.out⟩
      · have hE : etV e = L ++ 32 :: DJ ++ 32 :: DK := by rw [HV0.out]; simp
        have HE2 := Lib.hid hE
        clear hE HV0
        go_wp2_with fail
        refine (DecJ.out _).mono ?_
        rintro r w6 ⟨rfl, hb6⟩
        have E6 := Lib.hid (E5.out.up hb6)
        have B6 := Lib.hid (B5.out.trans (hb6.mono B5.out.size))
        clear hb6 x0 x1 x2 x3 x4 x5
        obtain ⟨x0, x1, x2, x3, x4, x5⟩ := E6.out.box
        go_wp2_with fail
        refine (HasK.out _).mono ?_
        rintro r w' ⟨rfl, rfl⟩
        go_wp2_with fail
        refine (DecK.out _).mono ?_
        rintro r w7 ⟨rfl, hb7⟩
        have B7 := Lib.hid (B6.out.trans (hb7.mono B6.out.size))
        clear hb7
        go_wp2_with fail
        refine (HasP.out _).mono ?_
        rintro r w' ⟨rfl, rfl⟩
        go_wp2_with fail
        refine (HasM.out _).mono ?_
        rintro r w' ⟨rfl, rfl⟩
        go_wp2_with fail
        go_ret
        exact ⟨by rw [HE2.out]; simp [str_app], B7.out⟩
      · have hE : etV e = L ++ 32 :: DJ ++ 32 :: e.map.data.toList := by rw [HV0.out]; simp
        have HE2 := Lib.hid hE
        clear hE HV0
        go_wp2_with fail
        refine (DecJ.out _).mono ?_
        rintro r w6 ⟨rfl, hb6⟩
        have E6 := Lib.hid (E5.out.up hb6)
        have B6 := Lib.hid (B5.out.trans (hb6.mono B5.out.size))
        clear hb6 x0 x1 x2 x3 x4 x5
        obtain ⟨x0, x1, x2, x3, x4, x5⟩ := E6.out.box
        go_wp2_with fail
        refine (HasK.out _).mono ?_
        rintro r w' ⟨rfl, rfl⟩
        go_wp2_with fail
        refine (HasP.out _).mono ?_
        rintro r w' ⟨rfl, rfl⟩
        go_wp2_with fail
        refine (HasM.out _).mono ?_
        rintro r w' ⟨rfl, rfl⟩
        go_wp2_with fail
        go_ret
        refine ⟨?_, B6.out⟩
        have key : (((⟨L.toArray⟩ : ByteArray) ++ (⟨#[32]⟩ ++ ⟨DJ.toArray⟩)) ++ (⟨#[32]⟩ ++ e.map)) = ⟨(L ++ 32 :: DJ ++ 32 :: e.map.data.toList).toArray⟩ := by
          apply ByteArray.ext
          simp [ByteArray.data_append]
        rw [HE2.out, ← key]
        rfl
  · have g0 : (!editOk e) = true := by simpa using he
    have hV0 : etV e = [] := by rw [etV, if_neg he]
    have HV0 := Lib.hid hV0
    clear he hV0
    go_wp2_with fail
    go_ret
    exact ⟨by rw [HV0.out]; rfl, B1.out⟩
def foundK (s : ByteArray) (c : UInt8) (k : Nat) : List Int := ((List.range k).filter (fun j => s.data.getD j 0 == c)).map fun (j : Nat) => (j : Int)
theorem foundK_succ (s : ByteArray) (c : UInt8) (k : Nat) : foundK s c (k + 1) = if s.data.getD k 0 = c then foundK s c k ++ [(k : Int)] else foundK s c k := by
  unfold foundK
  rw [List.range_succ, List.filter_append, List.map_append]
  by_cases h : s.data.getD k 0 = c
  · rw [if_pos h]; simp at h; simp [h]
  · rw [if_neg h]; simp at h; simp [h]
theorem foundK_len (s : ByteArray) (c : UInt8) (k : Nat) : (foundK s c k).length ≤ k := by
  unfold foundK
  rw [List.length_map]
  exact Nat.le_trans (List.length_filter_le _ _) (by simp)
theorem foundK_pos (s : ByteArray) (c : UInt8) : 0 < (foundK s c s.size).length ↔ hasC s c = true := by
  unfold foundK hasC
  rw [List.length_map, List.length_pos_iff_exists_mem, List.contains_iff_mem]
  constructor
  · rintro ⟨j, hj⟩
    obtain ⟨h1, h2⟩ := List.mem_filter.1 hj
    have h3 := List.mem_range.1 h1
    rw [getD_data h3] at h2
    have : s[j] = c := by simpa using h2
    rw [← this]
    exact List.mem_of_getElem? (toList_getElem? s j h3)
  · intro h
    obtain ⟨j, hj⟩ := List.mem_iff_getElem?.1 h
    have hlt : j < s.size := by have := (List.getElem?_eq_some_iff.1 hj).1; simpa using this
    refine ⟨j, List.mem_filter.2 ⟨List.mem_range.2 hlt, ?_⟩⟩
    rw [toList_getElem? s j hlt] at hj
    rw [getD_data hlt]
    simpa using hj
theorem ext_one (s : ByteArray) (i : Nat) (h : i < s.size) : s.extract i (i + 1) = ⟨#[s.data.getD i 0]⟩ := by
  rw [getD_data h]
  apply ByteArray.ext
  apply Array.ext'
  show (s.extract i (i + 1)).data.toList = [s[i]]
  rw [Lib.extract_data, show i + 1 - i = 1 by omega]
  have h1 := toList_getElem? s i h
  have hl : i < s.data.toList.length := (List.getElem?_eq_some_iff.1 h1).1
  rw [List.drop_eq_getElem_cons hl]
  have h2 : s.data.toList[i] = s[i] := by
    have := List.getElem?_eq_getElem hl
    rw [h1] at this
    exact (Option.some.inj this).symm
  rw [h2]; rfl
set_option maxRecDepth 100000 in
set_option maxHeartbeats 1000000 in
theorem l01Found_any (s : ByteArray) (c : UInt8) (w : World) (hs : s.size ≤ 1048576) :
    Calls Tryz.prog 146 #[.string ⟨#[c]⟩, .string s] w fun e w' => ∃ v, e = .returned v ∧ OwnInts w' w.heap.size v (foundK s c s.size) ∧ Below w.heap.size w w' := by
  go_enter Tryz.func146, Tryz.ntmps146
  go_wp2_with fail
  go_loopw [5, 6] (fun out q wr => ∃ (i : Nat), i ≤ s.size ∧ q = .int .i64 (i : Int) ∧ Below w.heap.size w wr ∧ OwnInts wr w.heap.size out (foundK s c i)) (fun _ q _ => s.size - (intOf q).toNat)
  case atStart => exact ⟨0, by omega, rfl, (by repeat (first | exact Below.refl _ _ | (refine Below.alloc ?_ (by first | omega | (simp; done) | (simp; omega)) _) | (refine Below.setCell ?_ (by first | exact Nat.le_refl _ | (show _ ≤ _; omega) | (simp; done) | (simp; omega)) _) | refine below_drewN ?_ _ | refine Below.drew ?_)), OwnInts.empty (by simp) (by simp)⟩
  case round =>
    obtain ⟨i, hi, rfl, hb, hown⟩ := hrel
    have HB := Lib.hid hb
    have HO := Lib.hid hown
    have hsz : w.heap.size ≤ wr.heap.size := hb.size
    have hfl := foundK_len s c i
    clear hb
    by_cases hlt : i < s.size
    · have hE := ext_one s i hlt
      have HF := Lib.hid (foundK_succ s c i)
      by_cases hc : s.data.getD i 0 = c
      · have HC := Lib.hid hc
        rw [hc] at hE
        clear hc
        go_wp2_with (first
          | (at_builtin; go_must (refine push_ints rfl _ _ rfl rfl rfl (by simp) (by repeat (first | exact hown | apply OwnInts.alloc)) (by omega) (by first | omega | (simp; omega)) ?_)
             intro v' w1 hown1 hgrow hbw))
        go_roundw
        case rel => exact ⟨i + 1, by omega, by go_num, HB.out.trans hbw, by rw [HF.out, if_pos HC.out]; exact hown1⟩
        case measure => simp [intOf]; omega
      · have HC := Lib.hid hc
        have hne : ¬ (⟨#[s.data.getD i 0]⟩ : ByteArray) = ⟨#[c]⟩ := fun h => hc (by
          have h2 := congrArg ByteArray.data h
          simpa using h2)
        obtain ⟨d, hd⟩ : ∃ d, s.data.getD i 0 = d := ⟨_, rfl⟩
        rw [hd] at hne hE hc
        have hbq : (d == c) = false := by simpa using hc
        clear hd
        go_wp2_with fail
        go_roundw
        case rel => exact ⟨i + 1, by omega, by go_num, HB.out, by rw [HF.out, if_neg HC.out]; exact HO.out⟩
        case measure => simp [intOf]; omega
    · have hi2 : i = s.size := by omega
      subst hi2
      go_wp2_with fail
      go_ret
      exact ⟨_, rfl, HO.out, HB.out⟩
theorem idx_at (s : ByteArray) {k : Nat} (hk : k < 4) (h : hasC s (ltr k) = true) : idxG s (ltr k) = (letsG s k).length := by
  have : k = 0 ∨ k = 1 ∨ k = 2 ∨ k = 3 := by omega
  have e01 : letR (ltr 0) ≠ letR (ltr 1) := by decide
  unfold idxG letsG
  rcases this with rfl | rfl | rfl | rfl <;> simp only [List.range_succ, List.range_zero, List.nil_append, List.cons_append, List.filter_cons, h] <;> (repeat' split) <;> first | rfl | decide | (simp_all; done)
def TabI (s : ByteArray) (T : List Int) (k : Nat) : Prop := T.length = 4 ∧ ∀ j, j < k → hasC s (ltr j) = true → T.getD j 0 = (idxG s (ltr j) : Nat)
theorem TabI.next {s : ByteArray} {T : List Int} {k : Nat} (h : TabI s T k) (hn : ¬ hasC s (ltr k) = true) : TabI s T (k + 1) :=
  ⟨h.1, fun j hj hc => by
    rcases Nat.lt_succ_iff_lt_or_eq.1 hj with h1 | rfl
    · exact h.2 j h1 hc
    · exact absurd hc hn⟩
theorem TabI.put {s : ByteArray} {T : List Int} {k : Nat} (h : TabI s T k) (hk : k < 4) (hc : hasC s (ltr k) = true) : TabI s (T.set k ((letsG s k).length : Nat)) (k + 1) :=
  ⟨by rw [List.length_set]; exact h.1, fun j hj hcj => by
    rw [getD_set (by rw [h.1]; exact hk)]
    split
    · rename_i e; subst e; rw [idx_at s hk hc]
    · exact h.2 j (by omega) hcj⟩
theorem step_push_ruleW (W : World) {W' : World} {ops : Array Oper} {o : Oper} {a : Act} {K : Act → World → Prop} {Q : Exit → Act → World → Prop} {E : Prop} {t : ByteArray} {p q : Int} (hW : W' = W.alloc (.cells #[.string t, .int .i64 p, .int .i64 q] 165)) (hgd : o.guard = none) (s x : Operand)
    (ho : o.op = .call { callee := .builtin .append, args := #[s, x], argTypes := #[28, 28] }) {base : Nat} {v : Value} {l : List GRule}
    (hs : a.eval s = v) {N : Nat} (hx : a.eval x = .slice (some ⟨N, 0, none⟩) 1 1) (hN : N = W.heap.size) (hown : OwnRules W base v l) (hlen : l.length ≤ 1099511627775) (hbase : base ≤ W.heap.size)
    (h : ∀ v' w', OwnRules w' base v' (l ++ [⟨t, p, q⟩]) → (W.alloc (.cells #[.string t, .int .i64 p, .int .i64 q] 165)).grownBy w' v.ownBlock → Below base (W.alloc (.cells #[.string t, .int .i64 p, .int .i64 q] 165)) w' → K (a.put o.dst v') w') :
    if Region.wanted o (yielded ops a.tmps) = true then Oper.wp Tryz.prog o a W' K Q else E := by
  subst hW
  exact step_push_rule hgd s x ho hs hx hN hown hlen hbase h
theorem let_place {s : ByteArray} {T : List Int} (hw : wordOk s = true) (hT : TabI s T 4) {i : Nat} (h : i < s.size) : ∃ j : Nat, j < 4 ∧ ((s[i].toNat : Int) - 97) % 256 = (j : Int) ∧ IntKind.u8.wrap ((s[i].toNat : Int) - 97) = (j : Int) ∧ T.getD j 0 = ((idxG s (s.data.getD i 0) : Nat) : Int) := by
  obtain ⟨j, hj, e⟩ := let_ltr (letOk_at hw h)
  have hc := hasC_at h
  rw [getD_data h]
  rw [e] at hc ⊢
  have h1 : (((ltr j).toNat : Int) - 97) % 256 = (j : Int) := by
    rw [← ltr_nat hj]
    omega
  exact ⟨j, hj, h1, h1, hT.2 j hj hc⟩
set_option maxRecDepth 100000 in
set_option maxHeartbeats 4000000 in
theorem l02Plain_any (s : ByteArray) (w : World) (hs : wordOk s = true) :
    Calls Tryz.prog 84 #[.string s] w (GOwn (plainG s) w) := by
  have hsz : s.size ≤ 2000 := by unfold wordOk at hs; simp only [Bool.and_eq_true, decide_eq_true_eq] at hs; omega
  have HS := Lib.hid hs
  clear hs
  have hmk : ∀ W : World, (Instr.makeSlice 134 (.int .i64 4) (.int .i64 4)).run Tryz.prog W = .ok (.slice (some ⟨W.heap.size, 0, none⟩) 4 4) (W.alloc (.cells #[.int .i64 0, .int .i64 0, .int .i64 0, .int .i64 0] 2)) :=
    fun W => by
      have h := run_make_row' (P := Tryz.prog) 134 2 (.int .i64 0) 8 Tryz.underlying134 Tryz.infoI rfl .i64 .i64 4 (by omega) (by omega) W
      have e : madeCells #[Value.int .i64 0] 4 = #[.int .i64 0, .int .i64 0, .int .i64 0, .int .i64 0] := by
        have hr : Array.range 4 = #[0, 1, 2, 3] := by decide
        simp [madeCells, hr]
      rw [e] at h
      exact h
  go_enter Tryz.func84, Tryz.ntmps84
  go_wp2_with fail
  go_loopw [5, 6] (fun q u6 wr => ∃ (k : Nat) (vo : Value) (T : List Int), k ≤ 4 ∧ q = .int .i64 (k : Int) ∧ Below w.heap.size w wr ∧ Blk wr w.heap.size #[.slice none 0 0] 30 ∧ Boxed wr (w.heap.size + 1) 30 vo ∧ OwnRules wr (w.heap.size + 3) vo (letsG s k) ∧ Blk wr (w.heap.size + 2) ((T.map (Value.int .i64)).toArray) 2 ∧ TabI s T k) (fun q _ _ => 4 - (intOf q).toNat)
  case atStart =>
    refine ⟨0, .slice none 0 0, [0, 0, 0, 0], by omega, rfl, (by repeat (first | exact Below.refl _ _ | (refine Below.alloc ?_ (by first | omega | (simp; done) | (simp; omega)) _) | (refine Below.setCell ?_ (by first | exact Nat.le_refl _ | (show _ ≤ _; omega) | (simp; done) | (simp; omega)) _) | refine below_drewN ?_ _ | refine Below.drew ?_)), ?_, ?_, World.ownsRow_nil _ _ _ _, ?_, rfl, fun j hj => by omega⟩
    · repeat (first | (apply Blk.new'; simp; done) | apply Blk.alloc | apply Blk.drew)
    · show Blk _ _ #[.slice none 0 0] _
      repeat (first | (apply Blk.new'; simp; done) | apply Blk.alloc | apply Blk.drew)
    · show Blk _ _ #[.int .i64 0, .int .i64 0, .int .i64 0, .int .i64 0] _
      repeat (first | (apply Blk.new'; simp; done) | apply Blk.alloc | apply Blk.drew)
  case round =>
    obtain ⟨k, vo, T, hk, rfl, hb, h0, hbox, hown, hT, htab⟩ := hrel
    have HB := Lib.hid hb
    have H0 := Lib.hid h0
    have Hbox := Lib.hid hbox
    have Hown := Lib.hid hown
    have HT := Lib.hid hT
    have HTab := Lib.hid htab
    obtain ⟨Ao, co, rfl, _⟩ := own_nil hown
    clear hb h0 hbox hown hT htab
    by_cases hlt : k < 4
    · have hcv : (convert 34 9 (.slice (some ⟨wr.heap.size, 0, none⟩) 1 1)).run Tryz.prog (wr.alloc (.cells #[.int .u8 (97 + (k : Int))] 5)) = .ok (.string (letR (ltr k)).letter) (wr.alloc (.cells #[.int .u8 (97 + (k : Int))] 5)) := by
        have := convC wr _ rfl (ltr k)
        rw [← ltr_nat hlt, show ((97 + k : Nat) : Int) = 97 + (k : Int) by omega] at this
        exact this
      have HSu := Lib.hid (letsG_succ s k)
      have hTl := HTab.out.1
      have cT := HT.out.cell (i := k) (ints_cell (by omega))
      have fT := HT.out.frozen k
      have lT := HT.out.lt
      have cb := Hbox.out.cell
      have fb := Hbox.out.frozen
      have lb := Hbox.out.lt
      have hll := letsG_len s k
      go_wp2_with fail
      refine (l01Found_any s (ltr k) _ (by omega)).mono ?_
      rintro e w2 ⟨v2, rfl, own2, hb2⟩
      obtain ⟨A2, c2, rfl, _⟩ := OwnInts.sl own2
      obtain ⟨hb3, _⟩ := Below.unalloc hb2
      have z2 : wr.heap.size ≤ w2.heap.size := hb3.size
      have HB2 := Lib.hid (HB.out.trans (hb3.mono HB.out.size))
      have H02 := Lib.hid (H0.out.up hb3)
      have Hbox2 := Lib.hid (Boxed.up Hbox.out hb3 Hbox.out.lt)
      have Hown2 := Lib.hid (OwnRules.below Hown.out hb3)
      have HT2 := Lib.hid (HT.out.up hb3)
      have cT2 := HT2.out.cell (i := k) (ints_cell (by omega))
      have fT2 := HT2.out.frozen k
      have lT2 := HT2.out.lt
      have cb2 := Hbox2.out.cell
      have fb2 := Hbox2.out.frozen
      have lb2 := Hbox2.out.lt
      have hpos := foundK_pos s (ltr k)
      generalize (foundK s (ltr k) s.size).length = M at *
      clear hb2 own2 cT fT lT cb fb lb HB H0 Hbox Hown HT hb3
      by_cases hc : hasC s (ltr k) = true
      · have hM : 0 < M := hpos.2 hc
        have HC := Lib.hid hc
        clear hpos hc
        have KX : ∀ v, Boxed (w2.setCell ⟨w.heap.size + 2, k, none⟩ v) (w.heap.size + 1) 30 (.slice Ao (letsG s k).length co) := fun v => Blk.other Hbox2.out (by show w.heap.size + 1 ≠ w.heap.size + 2; omega) v
        have HKX := Lib.hid KX
        have HOX := Lib.hid (fun v => ownsRow_setCell_below Hown2.out (a := ⟨w.heap.size + 2, k, none⟩) (by show w.heap.size + 2 < w.heap.size + 3; omega) v)
        clear KX
        go_wp2_with (first
          | (at_builtin; refine list_push_rule (base := w.heap.size + 3) (t := ⟨#[ltr k]⟩) (p := 0) (q := 0) rfl _ _ rfl rfl rfl (by simp) (HOX.out _) (by omega) (by simp; omega) ?_; intro v3 w3 own3 hg3 hb3; have bx3 : Boxed w3 (w.heap.size + 1) 30 _ := Boxed.grown (HKX.out _) (by decide) (HOX.out _) hg3; obtain ⟨A3, c3, rfl, _⟩ := own_nil own3; have hcb3 := bx3.cell; have hfb3 := bx3.frozen; have hlb3 := bx3.lt))
        have hbz : Below (w.heap.size + 3) (w2.setCell ⟨w.heap.size + 2, k, none⟩ (.int .i64 ((letsG s k).length : Nat))) w3 := ((Below.refl _ _).alloc (by simp; omega) _).trans hb3
        have hby : Below w.heap.size w w3 := (HB2.out.setCell (by show w.heap.size ≤ w.heap.size + 2; omega) _).trans (hbz.mono (by omega))
        go_roundw
        case rel =>
          refine ⟨k + 1, _, T.set k ((letsG s k).length : Nat), by omega, by go_num, hby.setCell (by show w.heap.size ≤ w.heap.size + 1; omega) _, ((H02.out.other (by show w.heap.size ≠ w.heap.size + 2; omega) _).upB hbz (by omega)).other (by show w.heap.size ≠ w.heap.size + 1; omega) _, Boxed.set _ bx3, ?_, ?_, HTab.out.put hlt HC.out⟩
          · rw [HSu.out, if_pos HC.out]
            exact own_put bx3 own3 rfl (by simp)
          · rw [← ints_set]
            exact ((HT2.out.set k _).upB hbz (by omega)).other (by show w.heap.size + 2 ≠ w.heap.size + 1; omega) _
        case measure => simp [intOf]; omega
      · have hM : M = 0 := by
          rcases Nat.eq_zero_or_pos M with h | h
          · exact h
          · exact absurd (hpos.1 h) hc
        subst hM
        have HC := Lib.hid hc
        clear hpos hc
        go_wp2_with fail
        go_roundw
        case rel => exact ⟨k + 1, _, T, by omega, by go_num, HB2.out, H02.out, Hbox2.out, by rw [HSu.out, if_neg HC.out]; exact Hown2.out, HT2.out, HTab.out.next HC.out⟩
        case measure => simp [intOf]; omega
    · have hk4 : k = 4 := by omega
      subst hk4
      rw [show ((4 : Nat) : Int) = 4 from rfl]
      have hlen4 := letsG_len s 4
      obtain ⟨wo, rfl⟩ : ∃ wo : World, wo = wr := ⟨_, rfl⟩
      have hTl := HTab.out.1
      go_wp2_with fail
      go_loopw [7, 8] (fun q u8 wx => ∃ (i : Nat) (vo : Value), 1 ≤ i ∧ (i ≤ s.size ∨ i = 1) ∧ q = .int .i64 (i : Int) ∧ Below w.heap.size w wx ∧ Blk wx w.heap.size #[.slice none 0 0] 30 ∧ Boxed wx (w.heap.size + 1) 30 vo ∧
        OwnRules wx (w.heap.size + 3) vo (plainK s (i - 1)) ∧ Blk wx (w.heap.size + 2) ((T.map (Value.int .i64)).toArray) 2) (fun q _ _ => s.size + 1 - (intOf q).toNat)
      case atStart =>
        refine ⟨1, _, Nat.le_refl _, .inr rfl, rfl, HB.out, H0.out, Hbox.out, ?_, HT.out⟩
        rw [show 1 - 1 = 0 from rfl, plainK_zero]
        exact Hown.out
      case round =>
        obtain ⟨i, vo, hi1, hi2, rfl, hb, h0, hbox, hown, hT⟩ := hrel
        have HB2 := Lib.hid hb
        have HK0 := Lib.hid h0
        have HX := Lib.hid hbox
        have HO := Lib.hid hown
        have HT2 := Lib.hid hT
        have cb' := hbox.cell
        have fb' := hbox.frozen
        have lb' := hbox.lt
        have lT' := hT.lt
        have hlp := Lib.hid (plainK_len s (i - 1))
        obtain ⟨A2, c2, rfl, _⟩ := own_nil hown
        clear hb h0 hbox hown hT HB H0 Hbox Hown HT
        by_cases hlt2 : i < s.size
        · have HP := Lib.hid (plainK_succ s (i - 1))
          have HLn := Lib.hid (show (plainK s (i - 1)).length ≤ 1099511627775 by rw [hlp.out]; omega)
          have hpos : 0 < s.size := by omega
          have hpl1 : 1 ≤ (plainK s (i - 1)).length := by have := idxG_lt HS.out hpos; rw [hlp.out]; omega
          have hpl2 : (plainK s (i - 1)).length ≤ 4000 := by rw [hlp.out]; omega
          obtain ⟨j1, hj1, hn1, hw1, ht1⟩ := let_place HS.out HTab.out hlt2
          have hj1' : (j1 : Int) < 4 := by omega
          have cT1 := HT2.out.cell (i := j1) (ints_cell (by omega))
          obtain ⟨I, hI⟩ : ∃ I : Nat, I = idxG s (s.data.getD i 0) := ⟨_, rfl⟩
          rw [ht1, ← hI] at cT1
          obtain ⟨B, hB⟩ : ∃ B : Nat, (if i - 1 = 0 then (idxG s (s.data.getD 0 0) : Nat) else (letsG s 4).length + (i - 1) - 1) = B := ⟨_, rfl⟩
          have hBp : pairAt s (i - 1) = pairR (B : Int) (I : Int) := by
            unfold pairAt
            rw [show i - 1 + 1 = i by omega, ← hB, ← hI]
            split <;> rfl
          have HBp := Lib.hid hBp
          have HBq := Lib.hid hB
          clear hBp hB hI ht1
          go_upto_if 49 with fail
          go_cut [8] (fun u8 wx => u8 = .int .i64 (B : Int) ∧ wx = wr)
          case first =>
            by_cases h1i : i = 1
            · subst h1i
              obtain ⟨j0, hj0, hn0, hw0, ht0⟩ := let_place HS.out HTab.out hpos
              have cT0 := HT2.out.cell (i := j0) (ints_cell (by omega))
              rw [ht0] at cT0
              go_wp2_with fail
              go_meet
              exact ⟨by rw [← HBq.out, if_pos trivial, getD_data hpos]; rfl, rfl⟩
            · have hb1 : ((i : Int) == 1) = false := by rw [beq_eq_false_iff_ne]; omega
              go_wp2
              go_meet
              refine ⟨?_, rfl⟩
              rw [← HBq.out, if_neg (by omega), hlp.out]
              congr 1; omega
          case rest => 
            obtain ⟨rfl, rfl⟩ := hcut
            go_wp2_with fail
            go_region_law (refine step_push_ruleW wc.drew (base := w.heap.size + 3) (by rfl) (by rfl) _ _ (by rfl) (by rfl) (by first | rfl | simp) rfl HO.out.drew HLn.out (by show w.heap.size + 3 ≤ wc.heap.size; omega) ?_; intro v3 w3 own3 hg3 hb3; have bx3 : Boxed w3 (w.heap.size + 1) 30 _ := Boxed.grown (show Boxed wc.drew (w.heap.size + 1) 30 _ from HX.out) (by decide) HO.out.drew hg3; obtain ⟨A3, c3, rfl, _⟩ := own_nil own3; have hcb3 := bx3.cell; have hfb3 := bx3.frozen; have hlb3 := bx3.lt)
            all_goals
              have hbz : Below (w.heap.size + 3) wc w3 := (Below.drew (Below.refl _ _)).trans (((Below.refl _ _).alloc (by show w.heap.size + 3 ≤ wc.heap.size; omega) _).trans hb3)
              have HBZ := Lib.hid hbz
              have HO3 := Lib.hid own3
              have HX3 := Lib.hid bx3
              clear hbz own3 bx3 hb3 hg3
              go_wp2
              go_roundw
              case rel =>
                refine ⟨i + 1, _, by omega, .inl (by omega), by go_num, (HB2.out.trans (HBZ.out.mono (by omega))).setCell (by show w.heap.size ≤ w.heap.size + 1; omega) _, (HK0.out.upB HBZ.out (by omega)).other (by show w.heap.size ≠ w.heap.size + 1; omega) _, Boxed.set _ HX3.out, ?_, (HT2.out.upB HBZ.out (by omega)).other (by show w.heap.size + 2 ≠ w.heap.size + 1; omega) _⟩
                rw [show i + 1 - 1 = (i - 1) + 1 by omega, HP.out, HBp.out]
                exact own_put HX3.out HO3.out rfl (by simp)
              case measure => simp [intOf]; omega
        · have HE := Lib.hid (show plainK s (i - 1) = plainG s by rw [plainG]; congr 1; omega)
          have r1 := HK0.out.cell (i := 0) (v := .slice none 0 0) rfl
          have r2 := HK0.out.frozen 0
          have r3 := HK0.out.lt
          go_wp2
          rw [HE.out] at HO HX
          refine bodyPost_ret (v := .agg #[.slice A2 (plainG s).length c2]) (by simp [results, Tryz.results84, go_sem, r1, HE.out]) rfl ⟨HB2.out.setCell (by show w.heap.size ≤ w.heap.size; omega) _, _, ?_, rfl⟩
          exact ownsRow_more (ownsRow_setCell_below HO.out (a := ⟨w.heap.size, 0, none⟩) (by show w.heap.size < w.heap.size + 3; omega) _) (by omega)
end Go.Proofs.YtbifijlenbibmaaGreatDoor
