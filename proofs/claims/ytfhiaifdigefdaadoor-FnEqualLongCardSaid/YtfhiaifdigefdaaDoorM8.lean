import Derived.Test.YtfhiaifdigefdaaDoorM2
import Derived.Shelf.Strings.BuilderK
import Derived.Laws.EntriesVeiled
import Derived.Test.YtfhiaifdigefdaaDoorM3
import Derived.Test.YtfhiaifdigefdaaDoorM7
import Derived.Test.YtfhiaifdigefdaaDoorM6
import Derived.Test.YtfhiaifdigefdaaDoorM1
import Derived.Test.YtfhiaifdigefdaaDoorRows
import Derived.WalkKit
import Derived.ProofKit
import Derived.Below
import Derived.ChangeSame
import Derived.Lib.SmallJoins
import Derived.Carry
import Derived.WideKeyArgs
import Derived.OpenShut
import Derived.Deep.Slices
import Derived.Deep.Fields
import Derived.SevenTiedAt
namespace Go.Proofs
open Go.Shelf
def YtfhiaifdigefdaaDoor.lays169_ren : Go.Shelf.Ren := ⟨fun | 169 => 62 | n => n, fun | 70 => 90 | 9 => 9 | 0 => 0 | 72 => 92 | 37 => 22 | 127 => 112 | 3 => 3 | 5 => 5 | n => n, fun | n => n⟩
theorem YtfhiaifdigefdaaDoor.lays169 : Go.Proofs.Lays.n169 Tryd.prog YtfhiaifdigefdaaDoor.lays169_ren := {
  mixed := by kernel_rfl
  f169 := Tryd.func62.trans (congrArg some (by kernel_rfl))
  t0 := Tryd.underlying0
  a0 := Tryd.isAgg0
  z0 := Tryd.sizeOf0
  v0 := Tryd.zeroValue0
  t3 := Tryd.underlying3
  a3 := Tryd.isAgg3
  z3 := Tryd.sizeOf3
  v3 := Tryd.zeroValue3
  t9 := Tryd.underlying9
  a9 := Tryd.isAgg9
  z9 := Tryd.sizeOf9
  v9 := Tryd.zeroValue9
  t37 := Tryd.underlying22
  a37 := Tryd.isAgg22
  z37 := Tryd.sizeOf22
  v37 := Tryd.zeroValue22
  t70 := Tryd.underlying90
  a70 := Tryd.isAgg90
  z70 := Tryd.sizeOf90
  v70 := Tryd.zeroValue90
  t72 := Tryd.underlying92
  a72 := Tryd.isAgg92
  z72 := Tryd.sizeOf92
  v72 := Tryd.zeroValue92
  t127 := Tryd.underlying112
  a127 := Tryd.isAgg112
  z127 := Tryd.sizeOf112
  v127 := Tryd.zeroValue112 }
theorem YtfhiaifdigefdaaDoor.Builder_Extra_169 : Builder.Extra Tryd.prog YtfhiaifdigefdaaDoor.lays169_ren := {
  sizeBuilder := by kernel_rfl
  liesBuilder := by kernel_rfl
  t5 := Tryd.underlying5
  a5 := Tryd.isAgg5
  z5 := Tryd.sizeOf5
  v5 := Tryd.zeroValue5
  infoByte := by kernel_rfl
  cellsByte := by kernel_rfl
  sizeByte := by kernel_rfl
  neB5 := by decide }
end Go.Proofs
namespace Go.Proofs.YtfhiaifdigefdaaDoor
open Go.RowKit
def BuiltB (B b : Nat) (l : List UInt8) (w : World) : Prop := Lib.IsBuilder 92 5 B b (Lib.byteCells l) w
theorem BuiltB.string {B b : Nat} {l : List UInt8} {w : World} (h : BuiltB B b l w) (hBw : B ≤ w.heap.size) :
    Calls Tryd.prog 62 #[.pointer (some ⟨b, 0, none⟩)] w fun e w' => e = .returned (.string ⟨l.toArray⟩) ∧ Below B w w' := Any.Builder_String_any YtfhiaifdigefdaaDoor.lays169 YtfhiaifdigefdaaDoor.Builder_Extra_169 B b l w h hBw
theorem Tryd.infoBu : (Tryd.prog.info? 92).map (·.size) = some 2 := by kernel_rfl
theorem Tryd.liesBu : liesAt Tryd.prog Tryd.prog.depth 92 (2 / Tryd.prog.cellsOf 92) 0 92 1 = true := by kernel_rfl
theorem Tryd.infoU8 : (Tryd.prog.info? 5).map (fun i => (i.zero, i.size, i.bytes)) = some (some (.int .u8 0), 1, 1) := by kernel_rfl
set_option maxRecDepth 100000 in
set_option maxHeartbeats 1000000 in
theorem copyCheck_used (b : Nat) (w : World) (h0 : w.cell? ⟨b, 0, none⟩ = some (.pointer (some ⟨b, 0, none⟩))) :
    Calls Tryd.prog 71 #[.pointer (some ⟨b, 0, none⟩)] w fun e w' => e = .returned (.tuple #[]) ∧ w' = w := by
  obtain ⟨j, hj, _⟩ := Option.map_eq_some_iff.1 Tryd.infoBu
  go_enter Tryd.func71, Tryd.ntmps71
  go_wp2
  rw [Lib.run_neq_ptr_same w _ Tryd.underlying90 hj]
  go_wp2
  go_end0
  exact ⟨rfl, rfl⟩
set_option maxRecDepth 100000 in
set_option maxHeartbeats 1000000 in
theorem copyCheck_fresh (b : Nat) (w : World) (h0 : w.cell? ⟨b, 0, none⟩ = some (.pointer none)) (hsh : w.shape? b = some (92, 2)) (hfz : w.frozen? ⟨b, 0, none⟩ = false) :
    Calls Tryd.prog 71 #[.pointer (some ⟨b, 0, none⟩)] w fun e w' => e = .returned (.tuple #[]) ∧ w' = w.setCell ⟨b, 0, none⟩ (.pointer (some ⟨b, 0, none⟩)) := by
  obtain ⟨j, hj, hjs⟩ := Option.map_eq_some_iff.1 Tryd.infoBu
  go_enter Tryd.func71, Tryd.ntmps71
  go_wp2
  rw [Lib.run_to_unsafe w ⟨b, 0, none⟩ Tryd.underlying90 Tryd.underlying123 hj (by rw [hjs]; decide) hsh (Nat.zero_lt_succ 1)]
  simp only [Result.andThen]
  rw [Oper.upon_value]
  go_wp2
  rw [run_callFunc_extern Tryd.func81 (by kernel_rfl) (by kernel_rfl) (by kernel_rfl) (e := Extern.AbiNoEscape.same) (by kernel_rfl)]
  rw [Lib.run_noEscape]
  simp only [Result.andThen]
  rw [Oper.upon_value]
  go_wp2
  rw [Lib.run_from_unsafe w ⟨b, 0, none⟩ Tryd.underlying123 Tryd.underlying90 hj hsh Tryd.liesBu]
  simp only [Result.andThen]
  rw [Oper.upon_value]
  go_wp2
  go_end0
  exact ⟨rfl, rfl⟩
theorem copyCheck_k (B b : Nat) (l : List UInt8) (w : World) (h : BuiltB B b l w) :
    Calls Tryd.prog 71 #[.pointer (some ⟨b, 0, none⟩)] w fun e w' => e = .returned (.tuple #[]) ∧ Lib.BuilderAt 92 5 B b (.pointer (some ⟨b, 0, none⟩)) (Lib.byteCells l) w' ∧ Below B w w' ∧ Lib.OthersKept 5 (some b) w w' := by
  rcases h with h | h
  · refine (copyCheck_fresh b w h.cell0 h.shape h.frozen0).mono ?_
    rintro e w' ⟨rfl, rfl⟩
    exact ⟨rfl, h.used _, (Below.refl B w).setCell (p := ⟨b, 0, none⟩) h.1 _, (Lib.OthersKept.refl _ _ w).setCell ⟨b, 0, none⟩ rfl _⟩
  · refine (copyCheck_used b w h.cell0).mono ?_
    rintro e w' ⟨rfl, rfl⟩
    exact ⟨rfl, h, Below.refl B _, Lib.OthersKept.refl _ _ _⟩
set_option maxRecDepth 100000 in
set_option maxHeartbeats 2000000 in
theorem writeString_any (B b : Nat) (l : List UInt8) (s : ByteArray) (w : World) (h : BuiltB B b l w) (hlen : l.length + s.size ≤ 140737488355328) (hBw : B ≤ w.heap.size) :
    Calls Tryd.prog 61 #[.pointer (some ⟨b, 0, none⟩), .string s] w fun e w' => e = .returned (.tuple #[.int .i64 s.size, .nilIface]) ∧ BuiltB B b (l ++ s.data.toList) w' ∧ Below B w w' ∧ Lib.OthersKept 5 (some b) w w' := by
  obtain ⟨i0, hi, hz0, hz1, hz2⟩ := info_parts Tryd.infoU8
  have hbl : (Lib.byteCells l).length = l.length := by simp [Lib.byteCells]
  go_enter Tryd.func61, Tryd.ntmps61
  go_wp2_with fail
  refine (copyCheck_k B b l _ h).mono ?_
  rintro e w1 ⟨rfl, h1, hb1, hk1⟩
  obtain ⟨hB, v, hbk, hown, hne⟩ := h1
  rw [hbl] at hown
  have c0 : w1.cell? ⟨b, 0, none⟩ = some (.pointer (some ⟨b, 0, none⟩)) := by simp [World.cell?, hbk]
  have c1 : w1.cell? ⟨b, 1, none⟩ = some v := by simp [World.cell?, hbk]
  go_wp2_with (at_builtin; refine Lib.wpList_append_own_string _ rfl _ _ 22 9 rfl B 5 i0 Tryd.underlying22 Tryd.underlying9 hi hz0 hz1 hz2 v l.length (Lib.byteCells l) rfl hown s rfl ?c3 ?c4 ?c5 ?_)
  case c3 => unfold maxLen; omega
  case c4 => omega
  case c5 => have := hb1.size; omega
  intro v' w2 hown' hgrow _
  have hlt : b < w1.heap.size := (Array.getElem?_eq_some_iff.1 hbk).1
  have hb2 : w2.heap[b]? = some (.cells #[.pointer (some ⟨b, 0, none⟩), v] 92 (0, 0)) := by
    rw [hgrow.block b hlt (fun e => hne e.symm)]
    exact hbk
  have d0 : w2.cell? ⟨b, 0, none⟩ = some (.pointer (some ⟨b, 0, none⟩)) := by simp [World.cell?, hb2]
  have d1 : w2.cell? ⟨b, 1, none⟩ = some v := by simp [World.cell?, hb2]
  have f1 : w2.frozen? ⟨b, 1, none⟩ = false := by simp [World.frozen?, hb2]
  obtain ⟨ao, cap, rfl, _⟩ := own_nil hown'
  go_wp2
  go_ret2
  refine ⟨rfl, .inr ?_, ?_, (hk1.grown hgrow ?_).setCell ⟨b, 1, none⟩ rfl _⟩
  · have e : Lib.byteCells (l ++ s.data.toList) = Lib.byteCells l ++ Lib.strCells s := by simp [Lib.byteCells, Lib.strCells]
    rw [e]
    exact Lib.BuilderAt.put hB hb2 (bs' := Lib.byteCells l ++ Lib.strCells s) (by rw [show (Lib.byteCells l ++ Lib.strCells s).length = l.length + s.size by rw [List.length_append, hbl, Lib.strCells_length]]; exact hown') (by decide)
  · exact (hb1.grown hgrow (by have := hb1.size; omega) (fun k hk => (World.ownsRow.lt hown k hk).1)).setCell (p := ⟨b, 1, none⟩) hB _
  · intro g hg
    rcases hown.2 with ⟨rfl, _⟩ | ⟨g', cap', cur, rfl, _, hb', _⟩
    · cases hg
    · have : g' = g := by simpa [Value.ownBlock] using hg
      subst this; exact ⟨cur, _, hb'⟩
structure BJ (xs : List GRule) (vR : Value) (bg bs b B : Nat) (C : Nat → Prop) (s : List UInt8) (w : World) : Prop where
  bld : BuiltB B b s w
  hB : B ≤ w.heap.size
  nb : ¬ C b
  no : ∀ k, C k → B ≤ k → ∀ c fz, w.heap[k]? ≠ some (.cells c 5 fz)
  mg : C bg
  ms : C bs
  cg : w.cell? ⟨bg, 0, none⟩ = some vR
  cs : w.cell? ⟨bs, 0, none⟩ = some (.func (.func 60) #[] #[.pointer (some ⟨bg, 0, none⟩), .pointer (some ⟨bs, 0, none⟩), .pointer (some ⟨b, 0, none⟩)])
  sl : SlS RuleE w C vR xs
theorem BuiltB.lt {B b : Nat} {l : List UInt8} {w : World} (h : BuiltB B b l w) : b < w.heap.size := by
  rcases h with h | h
  · exact h.lt
  · exact h.lt
theorem built_keep {B b : Nat} {l : List UInt8} {w w' : World} (h : BuiltB B b l w) (hb : Below w.heap.size w w') : BuiltB B b l w' := by
  rcases h with ⟨h1, v, h2, h3, h4⟩ | ⟨h1, v, h2, h3, h4⟩
  · exact .inl ⟨h1, v, (hb.block b (Array.getElem?_eq_some_iff.1 h2).1).trans h2, ownsRow_below h3 hb, h4⟩
  · exact .inr ⟨h1, v, (hb.block b (Array.getElem?_eq_some_iff.1 h2).1).trans h2, ownsRow_below h3 hb, h4⟩
section
variable {xs : List GRule} {vR : Value} {bg bs b B : Nat}
theorem BJ.ext : ∀ (C : Nat → Prop) (s : List UInt8) (w w' : World), BJ xs vR bg bs b B C s w → Below w.heap.size w w' → NewNoB w.heap.size w' → (∀ k, C k → k < w.heap.size) → BJ xs vR bg bs b B (ext C w.heap.size w'.heap.size) s w' := by
  intro C s w w' h hb hn hC
  refine ⟨built_keep h.bld hb, Nat.le_trans h.hB hb.size, ?_, ?_, .inl h.mg, .inl h.ms, (hb.cell (p := ⟨bg, 0, none⟩) (hC _ h.mg)).trans h.cg, (hb.cell (p := ⟨bs, 0, none⟩) (hC _ h.ms)).trans h.cs, (h.sl.keep fun k hk => hb.block k (hC k hk)).more fun k hk => .inl hk⟩
  · rintro (h1 | h1)
    · exact h.nb h1
    · have := h.bld.lt; omega
  · rintro k (h1 | h1) hk c fz
    · rw [hb.block k (hC k h1)]; exact h.no k h1 hk c fz
    · exact hn k h1.1 c fz
theorem BJ.written {C : Nat → Prop} {s s' : List UInt8} {w w' : World} (h : BJ xs vR bg bs b B C s w) (hbl : BuiltB B b s' w') (hb : Below B w w') (hk : Lib.OthersKept 5 (some b) w w') (hC : ∀ k, C k → k < w.heap.size) : BJ xs vR bg bs b B C s' w' ∧ Wk C w w' := by
  have hblk : ∀ k, C k → w'.heap[k]? = w.heap[k]? := fun k hk' => by
    rcases Nat.lt_or_ge k B with hkB | hkB
    · exact hb.block k hkB
    obtain ⟨o, ho⟩ : ∃ o, w.heap[k]? = some o := ⟨_, Array.getElem?_eq_getElem (hC k hk')⟩
    rw [ho]
    exact hk k o ho (fun e => h.nb (by have : k = b := Option.some.inj e; rw [← this]; exact hk')) (fun c fz e => h.no k hk' hkB c fz (by rw [ho, e]))
  have hw : Wk C w w' := ⟨hb.os, hb.tape, hb.output, hb.size, hblk⟩
  exact ⟨⟨hbl, Nat.le_trans h.hB hb.size, h.nb, fun k hk' hkB c fz => by rw [hblk k hk']; exact h.no k hk' hkB c fz, h.mg, h.ms, hw.cell h.mg h.cg, hw.cell h.ms h.cs, h.sl.keep hw.keep⟩, hw⟩
set_option maxRecDepth 100000 in
set_option maxHeartbeats 4000000 in
theorem spell_any (ls : List Int) (hl : lens xs = some ls) : ∀ (r : Nat) (s : List UInt8) (C : Nat → Prop) (w : World), r < xs.length → BJ xs vR bg bs b B C s w → (∀ k, C k → k < w.heap.size) → s.length + (W1 xs r).length ≤ 1099511627776 →
    Calls Tryd.prog 60 #[.int .i64 r, .pointer (some ⟨bg, 0, none⟩), .pointer (some ⟨bs, 0, none⟩), .pointer (some ⟨b, 0, none⟩)] w (TakePost (BJ xs vR bg bs b B) C (s ++ W1 xs r) w) := by
  intro r
  induction r using Nat.strongRecOn with
  | _ r ih =>
    intro s C w hr hJ hC hlen
    have HJ := Lib.hid hJ
    have HC := Lib.hid hC
    have Ih := Lib.hid ih
    have hcg := hJ.cg
    have hcs := hJ.cs
    obtain ⟨AR, cR, rfl, _, _, hrowR⟩ := hJ.sl
    obtain ⟨b2, o2, rfl, hb2, hcellR⟩ := hrowR.rule hr
    obtain ⟨k0, k1, k2⟩ := hcellR r _ (getR_at hr)
    have hrx : (r : Int) < (xs.length : Int) := by omega
    have lbg : bg < w.heap.size := hC _ hJ.mg
    have lbs : bs < w.heap.size := hC _ hJ.ms
    have lb2 : b2 < w.heap.size := hC _ hb2
    have eg : ∀ args w, (callFunc 60 args).run Tryd.prog w = .ok (.enter 60 args) w := enters_of Tryd.func60 (by kernel_rfl) rfl
    obtain ⟨R, hR⟩ : ∃ R, getR xs r = R := ⟨_, rfl⟩
    rw [hR] at k0 k1 k2
    have HR := Lib.hid hR
    have Hlen := Lib.hid hlen
    clear ih hJ hC hrowR hcellR hb2 hR hlen
    have hBA : ∀ o o', Below w.heap.size w ((w.alloc o).alloc o') := fun o o' => ((Below.refl _ _).alloc (Nat.le_refl _) _).alloc (by simp) _
    have HBA := Lib.hid hBA
    clear hBA
    go_enter Tryd.func60, Tryd.ntmps60
    go_wp2_with fail
    refine (isPair_any _ _ _ _).mono ?_
    rintro e w1 ⟨rfl, rfl⟩
    have hN : NewNoB w.heap.size ((w.alloc (Obj.cells #[Value.string R.letter, Value.int IntKind.i64 R.left, Value.int IntKind.i64 R.right] 42)).alloc (Obj.cells #[Value.string R.letter, Value.int IntKind.i64 R.left, Value.int IntKind.i64 R.right] 42)) := ((NewNoB.same w).alloc (NoB.cells (by decide))).alloc (NoB.cells (by decide))
    have hB2 := HBA.out (Obj.cells #[Value.string R.letter, Value.int IntKind.i64 R.left, Value.int IntKind.i64 R.right] 42) (Obj.cells #[Value.string R.letter, Value.int IntKind.i64 R.left, Value.int IntKind.i64 R.right] 42)
    have e0 : ((w.alloc (Obj.cells #[Value.string R.letter, Value.int IntKind.i64 R.left, Value.int IntKind.i64 R.right] 42)).alloc (Obj.cells #[Value.string R.letter, Value.int IntKind.i64 R.left, Value.int IntKind.i64 R.right] 42)).heap[w.heap.size]? = some (Obj.cells #[Value.string R.letter, Value.int IntKind.i64 R.left, Value.int IntKind.i64 R.right] 42 (0, 0)) := ((Below.refl _ _).alloc (Nat.le_refl _) _).block w.heap.size (by simp) |>.trans (heap_alloc_new _ _)
    generalize (w.alloc (Obj.cells #[Value.string R.letter, Value.int IntKind.i64 R.left, Value.int IntKind.i64 R.right] 42)).alloc (Obj.cells #[Value.string R.letter, Value.int IntKind.i64 R.left, Value.int IntKind.i64 R.right] 42) = W2 at *
    have l0 : w.heap.size < W2.heap.size := (Array.getElem?_eq_some_iff.1 e0).1
    have d0 : W2.cell? ⟨w.heap.size, 0, none⟩ = some (.string R.letter) := by simp [World.cell?, e0]
    have d1 : W2.cell? ⟨w.heap.size, 1, none⟩ = some (.int .i64 R.left) := by simp [World.cell?, e0]
    have d2 : W2.cell? ⟨w.heap.size, 2, none⟩ = some (.int .i64 R.right) := by simp [World.cell?, e0]
    have J2 := BJ.ext C s w W2 HJ.out hB2 hN HC.out
    have hCx : ∀ k, ext C w.heap.size W2.heap.size k → k < W2.heap.size := fun k hk => by
      rcases hk with hk | hk
      · have := HC.out k hk; omega
      · exact hk.2
    have HJ2 := Lib.hid J2
    have HCx := Lib.hid hCx
    have HB2 := Lib.hid hB2
    have hcg2 := J2.cg
    have hcs2 := J2.cs
    clear hN hB2 e0 J2 hCx hcg hcs k0 k1 k2
    by_cases hp : R.letter.toList.isEmpty = true
    · rw [hp]
      have hpr : (getR xs r).pair = true := by rw [HR.out]; rw [isEmpty_size] at hp; exact hp
      obtain ⟨q1, q2, q3, q4, q5⟩ := lens_pair hl hr hpr
      have hW := W1_pair hl hr hpr
      rw [HR.out] at q1 q2 q3 q4 hW
      obtain ⟨la, hla⟩ := Int.eq_ofNat_of_zero_le q1
      obtain ⟨ra, hra⟩ := Int.eq_ofNat_of_zero_le q3
      rw [hla] at q2 d1
      rw [hra] at q4 d2
      rw [hla, hra] at hW
      simp only [Int.toNat_natCast] at q2 q4 hW
      have HW := Lib.hid hW
      have hlenA : s.length + (W1 xs la).length ≤ 1099511627776 := by have := Hlen.out; rw [hW, List.length_append] at this; omega
      have hlenB : (s ++ W1 xs la).length + (W1 xs ra).length ≤ 1099511627776 := by have := Hlen.out; rw [hW, List.length_append] at this; rw [List.length_append]; omega
      have HlA := Lib.hid hlenA
      have HlB := Lib.hid hlenB
      clear hpr hp q5 hW q1 q3 hla hra hlenA hlenB
      go_wp2_with fail
      refine (Ih.out la q2 s _ W2 (by omega) HJ2.out HCx.out HlA.out).mono ?_
      rintro e w3 ⟨rfl, C3, g1, g2, g3, g4⟩
      have d2' : w3.cell? ⟨w.heap.size, 2, none⟩ = some (.int .i64 ra) := g4.cell (Or.inr ⟨Nat.le_refl _, l0⟩) d2
      have hcs3 := g3.cs
      have HJ3 := Lib.hid g3
      have G1 := Lib.hid g1
      have G2 := Lib.hid g2
      have G4 := Lib.hid g4
      clear g1 g2 g3 g4 hcs2 hcg2 d1 d2 d0
      go_wp2_with fail
      refine (Ih.out ra q4 (s ++ W1 xs la) _ w3 (by omega) HJ3.out G2.out HlB.out).mono ?_
      rintro e w4 ⟨rfl, C4, k1, k2, k3, k4⟩
      go_wp2_with fail
      go_end0
      refine ⟨rfl, C4, fun k hk => k1 _ (G1.out _ (.inl hk)), k2, ?_, ?_⟩
      · rw [HW.out, ← List.append_assoc]; exact k3
      · exact ((Wk.of_below HB2.out HC.out).trans (G4.out.mono fun k hk => .inl hk)).trans (k4.mono fun k hk => G1.out _ (.inl hk))
    · have hp2 : R.letter.toList.isEmpty = false := by simpa using hp
      have hpr : (getR xs r).pair = false := by rw [HR.out]; rw [isEmpty_size] at hp2; exact hp2
      have hW := W1_let hpr
      have hsz := isLet_size (lens_isLet hl hr hpr)
      rw [HR.out] at hW hsz
      have HW := Lib.hid hW
      have hlenA : s.length + R.letter.size ≤ 140737488355328 := by
        have := Hlen.out
        omega
      rw [hp2]
      clear hp hpr hW hp2 hcs2 hcg2
      have W := Lib.hid (writeString_any B b s R.letter W2 HJ2.out.bld hlenA HJ2.out.hB)
      go_wp2_with fail
      refine W.out.mono ?_
      rintro e w3 ⟨rfl, hb3, hbl3, ho3⟩
      obtain ⟨J3, hw3⟩ := HJ2.out.written hb3 hbl3 ho3 HCx.out
      go_wp2_with fail
      go_end0
      refine ⟨rfl, _, fun k hk => .inl hk, fun k hk => Nat.lt_of_lt_of_le (HCx.out k hk) hw3.size, ?_, (Wk.of_below HB2.out HC.out).trans (hw3.mono fun k hk => .inl hk)⟩
      rw [HW.out]; exact J3
end
theorem foldl_word (f : Nat → List UInt8) (l : List Nat) (s : List UInt8) : l.foldl (fun s r => s ++ f r) s = s ++ l.flatMap f := by
  induction l generalizing s with
  | nil => simp
  | cons a l ih => rw [List.foldl_cons, ih]; simp
set_option maxRecDepth 100000 in
set_option maxHeartbeats 2000000 in
theorem unpack_any (vR vL : Value) (xs : List GRule) (ls : List Int) (i j : Int) (w : World) (hR : Sl RuleE w w.heap.size vR xs) (hL : Sl IntE w w.heap.size vL ls) (hl : lens xs = some ls) (hn : xs.length ≤ 1099511627776)
    (hlen : (cutL (wordG xs) i j).length ≤ 1099511627776) :
    Calls Tryd.prog 36 #[.agg #[vR], vL, .int .i64 i, .int .i64 j] w fun e w' => e = .returned (.string ⟨(cutL (wordG xs) i j).toArray⟩) ∧ Below w.heap.size w w' := by
  have HR := Lib.hid hR
  have HL := Lib.hid hL
  obtain ⟨AR, cR, rfl, _⟩ := hR
  obtain ⟨AL, cL, rfl, _⟩ := hL
  have hword := pieces_word hl (i := i) (j := j)
  have Hword := Lib.hid hword
  have Hl := Lib.hid hl
  clear hword hl
  go_enter Tryd.func36, Tryd.ntmps36
  go_wp2_with fail
  have hz0 : (((w.alloc (Obj.cells #[Value.slice AR xs.length cR] 26)).alloc (Obj.cells #[Value.pointer none, Value.slice none 0 0] 92)).alloc (Obj.cells #[Value.func (Fn.func 60) #[] #[Value.pointer (some ⟨w.heap.size, 0, none⟩), Value.pointer (some ⟨w.heap.size + 1 + 1, 0, none⟩), Value.pointer (some ⟨w.heap.size + 1, 0, none⟩)]] 86)).heap.size = w.heap.size + 3 := by simp
  have hB0 : Below w.heap.size w (((w.alloc (Obj.cells #[Value.slice AR xs.length cR] 26)).alloc (Obj.cells #[Value.pointer none, Value.slice none 0 0] 92)).alloc (Obj.cells #[Value.func (Fn.func 60) #[] #[Value.pointer (some ⟨w.heap.size, 0, none⟩), Value.pointer (some ⟨w.heap.size + 1 + 1, 0, none⟩), Value.pointer (some ⟨w.heap.size + 1, 0, none⟩)]] 86)) := (by repeat (first | exact Below.refl _ _ | (refine Below.alloc ?_ (by first | omega | (simp; done) | (simp; omega)) _) | refine below_drewN ?_ _ | refine Below.drew ?_))
  have hx0 : (((w.alloc (Obj.cells #[Value.slice AR xs.length cR] 26)).alloc (Obj.cells #[Value.pointer none, Value.slice none 0 0] 92)).alloc (Obj.cells #[Value.func (Fn.func 60) #[] #[Value.pointer (some ⟨w.heap.size, 0, none⟩), Value.pointer (some ⟨w.heap.size + 1 + 1, 0, none⟩), Value.pointer (some ⟨w.heap.size + 1, 0, none⟩)]] 86)).cell? ⟨w.heap.size, 0, none⟩ = some (.slice AR xs.length cR) := by simp [go_sem]
  have hx2 : (((w.alloc (Obj.cells #[Value.slice AR xs.length cR] 26)).alloc (Obj.cells #[Value.pointer none, Value.slice none 0 0] 92)).alloc (Obj.cells #[Value.func (Fn.func 60) #[] #[Value.pointer (some ⟨w.heap.size, 0, none⟩), Value.pointer (some ⟨w.heap.size + 1 + 1, 0, none⟩), Value.pointer (some ⟨w.heap.size + 1, 0, none⟩)]] 86)).cell? ⟨w.heap.size + 2, 0, none⟩ = some (.func (.func 60) #[] #[.pointer (some ⟨w.heap.size, 0, none⟩), .pointer (some ⟨w.heap.size + 2, 0, none⟩), .pointer (some ⟨w.heap.size + 1, 0, none⟩)]) := by simp [go_sem]
  have hx1 : (((w.alloc (Obj.cells #[Value.slice AR xs.length cR] 26)).alloc (Obj.cells #[Value.pointer none, Value.slice none 0 0] 92)).alloc (Obj.cells #[Value.func (Fn.func 60) #[] #[Value.pointer (some ⟨w.heap.size, 0, none⟩), Value.pointer (some ⟨w.heap.size + 1 + 1, 0, none⟩), Value.pointer (some ⟨w.heap.size + 1, 0, none⟩)]] 86)).heap[w.heap.size + 1]? = some (.cells #[.pointer none, .slice none 0 0] 92 (0, 0)) := by
    have h1 : ((w.alloc (Obj.cells #[Value.slice AR xs.length cR] 26)).alloc (Obj.cells #[Value.pointer none, Value.slice none 0 0] 92)).heap[w.heap.size + 1]? = some (.cells #[.pointer none, .slice none 0 0] 92 (0, 0)) := by
      have := heap_alloc_new (w.alloc (Obj.cells #[Value.slice AR xs.length cR] 26)) (Obj.cells #[Value.pointer none, Value.slice none 0 0] 92)
      rwa [show (w.alloc (Obj.cells #[Value.slice AR xs.length cR] 26)).heap.size = w.heap.size + 1 by simp] at this
    exact (Below.heap_alloc _ _ _ (by simp)).trans h1
  have hnb : ∀ c fz, (((w.alloc (Obj.cells #[Value.slice AR xs.length cR] 26)).alloc (Obj.cells #[Value.pointer none, Value.slice none 0 0] 92)).alloc (Obj.cells #[Value.func (Fn.func 60) #[] #[Value.pointer (some ⟨w.heap.size, 0, none⟩), Value.pointer (some ⟨w.heap.size + 1 + 1, 0, none⟩), Value.pointer (some ⟨w.heap.size + 1, 0, none⟩)]] 86)).heap[w.heap.size + 2]? ≠ some (.cells c 5 fz) := fun c fz => (((((NewNoB.same w).alloc (NoB.cells (by decide))).alloc (NoB.cells (by decide))).alloc (NoB.cells (by decide)))) (w.heap.size + 2) (by omega) c fz
  generalize ((w.alloc (Obj.cells #[Value.slice AR xs.length cR] 26)).alloc (Obj.cells #[Value.pointer none, Value.slice none 0 0] 92)).alloc (Obj.cells #[Value.func (Fn.func 60) #[] #[Value.pointer (some ⟨w.heap.size, 0, none⟩), Value.pointer (some ⟨w.heap.size + 1 + 1, 0, none⟩), Value.pointer (some ⟨w.heap.size + 1, 0, none⟩)]] 86) = w0 at *
  have hJ : BJ xs (.slice AR xs.length cR) w.heap.size (w.heap.size + 2) (w.heap.size + 1) (w.heap.size + 1) (fun k => k < w.heap.size + 1 ∨ k = w.heap.size + 2) [] w0 := by
    refine ⟨.inl ⟨Nat.le_refl _, _, hx1, World.ownsRow_nil _ _ _ _, by simp [Value.ownBlock]⟩, by omega, by omega, ?_, .inl (by omega), .inr rfl, hx0, hx2, ?_⟩
    · rintro k (h | h) hk c fz
      · omega
      · subst h; exact hnb c fz
    · exact (HR.out.below hB0).more fun k hk => .inl (by omega)
  have HB0 := Lib.hid hB0
  have HJ := Lib.hid hJ
  have HZ0 := Lib.hid hz0
  clear hz0 hB0 hx0 hx1 hx2 hnb hJ
  have hcnt : ∀ l : List Nat, (l.foldl (fun s r => s ++ W1 xs r) []).length = (l.flatMap (W1 xs)).length := fun l => by rw [foldl_word]; simp
  refine (pieces_any (BJ xs (.slice AR xs.length cR) w.heap.size (w.heap.size + 2) (w.heap.size + 1) (w.heap.size + 1)) (fun s r => s ++ W1 xs r) (fun s r => s.length + (W1 xs r).length ≤ 1099511627776) 60 #[.pointer (some ⟨w.heap.size, 0, none⟩), .pointer (some ⟨w.heap.size + 2, 0, none⟩), .pointer (some ⟨w.heap.size + 1, 0, none⟩)] xs ls i j Hl.out hn (enters_of Tryd.func60 (by kernel_rfl) rfl) BJ.ext
    (fun C s r w' hJ hok hr hC => spell_any ls Hl.out r s C w' hr hJ hC hok) (.slice AL ls.length cL) (.slice AR xs.length cR) [] (fun k => k < w.heap.size + 1 ∨ k = w.heap.size + 2) w0 HJ.out ?_ ?_ ?_ HJ.out.sl).mono ?_
  · intro l1 r l2 e
    rw [hcnt]
    have := congrArg (fun l => (l.flatMap (W1 xs)).length) e
    simp only [Hword.out, List.flatMap_append, List.flatMap_cons, List.length_append] at this
    omega
  · intro k hk
    have := HZ0.out
    omega
  · exact (HL.out.below HB0.out).more fun k hk => .inl (by omega)
  rintro e w2 ⟨rfl, C2, g1, g2, g3, g4⟩
  rw [foldl_word, List.nil_append, Hword.out] at g3
  have hb2 : Below (w.heap.size + 1) w0 w2 := g4.below fun k hk => .inl hk
  have HB2 := Lib.hid (HB0.out.trans (hb2.mono (by omega)))
  have S := Lib.hid (g3.bld.string g3.hB)
  have hs2 : w.heap.size ≤ w2.heap.size := by have := g3.hB; omega
  clear g1 g2 g3 g4 hb2 hcnt
  go_wp2_with fail
  refine S.out.mono ?_
  rintro e w3 ⟨rfl, hb3⟩
  go_wp2_with fail
  go_ret
  exact ⟨rfl, HB2.out.trans (hb3.mono (by omega))⟩
def upV (xs : List GRule) : List UInt8 := if gramOk xs && decide ((wordG xs).length ≤ 2000) then wordG xs else []
def upC (xs : List GRule) : Int := if gramOk xs then (if (wordG xs).length ≤ 2000 then 0 else 3) else 1
theorem up_ok {xs : List GRule} (h : gramOk xs = true) (hl : (wordG xs).length ≤ 2000) : upV xs = wordG xs ∧ upC xs = 0 := by
  unfold upV upC
  rw [h, decide_eq_true hl]
  simp [hl]
theorem cutOne {l : List UInt8} {i : Nat} {c : UInt8} (h : l[i]? = some c) : cutL l (i : Int) ((i : Int) + 1) = [c] := by
  have hi := (List.getElem?_eq_some_iff.1 h).1
  have e : cutL l (i : Int) ((i : Int) + 1) = (l.drop i).take 1 := by
    unfold cutL
    rw [show ((i : Int) + 1).toNat = i + 1 by omega, Int.toNat_natCast, List.drop_take, show i + 1 - i = 1 by omega]
  rw [e, List.drop_eq_getElem_cons hi]
  have := (List.getElem?_eq_some_iff.1 h).2
  simp [this]
set_option maxRecDepth 100000 in
set_option maxHeartbeats 1000000 in
theorem letterAtIn_any (v : Value) (xs : List GRule) (i : Nat) (c : UInt8) (w : World) (h : Sl RuleE w w.heap.size v xs) (hg : gramOk xs = true) (hc : (wordG xs)[i]? = some c) :
    Calls Tryd.prog 15 #[.agg #[v], .int .i64 (i : Int)] w fun e w' => e = .returned (.tuple #[.string ⟨#[c]⟩, .int .i64 0]) ∧ Below w.heap.size w w' := by
  obtain ⟨hn, ls, hl⟩ := gram_lens hg
  have h1 := fun o => (h.below ((Below.refl w.heap.size w).alloc (Nat.le_refl _) o)).le (B' := (w.alloc o).heap.size) (by simp)
  have H1 := Lib.hid h1
  have Hcut := Lib.hid (cutOne hc)
  have hi := (List.getElem?_eq_some_iff.1 hc).1
  have hwl := wordG_len hl
  clear h1 hc
  obtain ⟨A, cp, rfl, _⟩ := h
  have Hl := Lib.hid hl
  have hlast : 0 ≤ lastI ls ∧ lastI ls ≤ 1000000000000000 := lastI_bounds hl
  have hlt : (i : Int) < lastI ls := by omega
  clear hl
  go_enter Tryd.func15, Tryd.ntmps15
  go_wp2_with fail
  refine (lengths_any _ xs _ (H1.out _) (by omega)).mono ?_
  rintro e w1 ⟨hb1, hpost⟩
  have hcase : ∃ vv, e = .returned (.tuple #[vv, .bool true]) ∧ Sl IntE w1 w1.heap.size vv ls := by
    rcases hpost with ⟨l2, vv, hl2, he, ho⟩ | ⟨hl2, he⟩
    · have e2 : l2 = ls := by have := Hl.out; rw [hl2] at this; exact Option.some.inj this
      subst e2
      exact ⟨vv, by rw [he]; simp [hn], ho.sl⟩
    · rw [Hl.out] at hl2; cases hl2
  obtain ⟨vv, rfl, hL⟩ := hcase
  have hz1 : w.heap.size < w1.heap.size := by have := hb1.size; simp at this; omega
  have a1 : w1.cell? ⟨w.heap.size, 0, none⟩ = some (.slice A xs.length cp) := (hb1.cell (p := ⟨w.heap.size, 0, none⟩) (by simp)).trans (by simp [go_sem])
  have S1 := Lib.hid ((H1.out (Obj.cells #[Value.slice A xs.length cp] 26)).up hb1)
  have B1 := Lib.hid (((Below.refl w.heap.size w).alloc (Nat.le_refl _) (Obj.cells #[Value.slice A xs.length cp] 26)).trans (hb1.mono (by simp)))
  have HL := Lib.hid hL
  obtain ⟨AL, cL, rfl, _⟩ := hL
  have HLA := Lib.hid (fun (W : World) (hW : Below w1.heap.size w1 W) => last_any _ ls W (HL.out.up hW))
  have hw1 : inR (i : Int) 0 (lastI ls - 1) = true := by simp [inR]; omega
  clear hb1 hpost
  go_wp2_with fail
  refine (HLA.out _ (by repeat (first | exact Below.refl _ _ | (refine Below.alloc ?_ (by first | omega | (simp; done) | (simp; omega)) _) | (refine Below.setCell ?_ (by first | exact Nat.le_refl _ | (show _ ≤ _; omega) | (simp; done) | (simp; omega)) _) | refine below_drewN ?_ _ | refine Below.drew ?_))).mono ?_
  rintro e w' ⟨rfl, rfl⟩
  go_wp2_with fail
  refine (within_yes _ _ _ _ hw1).mono ?_
  rintro e w' ⟨rfl, rfl⟩
  go_wp2_with fail
  refine (unpack_any _ _ xs ls (i : Int) ((i : Int) + 1) _ S1.out HL.out Hl.out (by omega) (by rw [Hcut.out]; simp)).mono ?_
  rintro e w2 ⟨rfl, hb2⟩
  rw [Hcut.out]
  go_wp2_with fail
  go_ret2
  exact ⟨rfl, B1.out.trans (hb2.mono (by omega))⟩
set_option maxRecDepth 100000 in
theorem specValidGrammar_any (v : Value) (xs : List GRule) (w : World) (h : Sl RuleE w w.heap.size v xs) (hsm : SmallL xs) :
    Calls Tryd.prog 11 #[.agg #[v]] w fun e w' => e = .returned (.bool (gramOk xs)) ∧ Below w.heap.size w w' := by
  have HG := Lib.hid h
  obtain ⟨A, c, rfl, _⟩ := h
  have ba := (Below.refl _ w).alloc (Nat.le_refl _) (.cells #[.slice A xs.length c] 26)
  have HA := Lib.hid (HG.out.up ba)
  have KB := Blk.new w #[.slice A xs.length c] 26
  have cB := Blk.cell (i := 0) (v := .slice A xs.length c) KB rfl
  have lB := KB.lt
  have HBA := Lib.hid ba
  clear ba KB
  go_enter Tryd.func11, Tryd.ntmps11
  go_wp2_with fail
  refine (l02Ok_any w.heap.size 0 _ xs _ cB lB HA.out hsm).mono ?_
  rintro r w1 ⟨rfl, hb1⟩
  have HB := Lib.hid (Below.tr HBA.out hb1)
  go_wp2_with fail
  go_ret
  exact ⟨rfl, HB.out⟩
theorem gram_smallL {xs : List GRule} (h : gramOk xs = true) : SmallL xs := by
  obtain ⟨_, ls, hl⟩ := gram_lens h
  exact fun r hr => Nat.le_trans (okAll_small (okAll_lens hl) r hr) (by decide)
structure JR (wx : World) (P : Nat) (v : Value) (zs : List GRule) : Prop where
  b : Blk wx P #[v] 26
  s : Sl RuleE wx wx.heap.size v zs
theorem JR.up {wx w' : World} {P : Nat} {v : Value} {zs : List GRule} (h : JR wx P v zs) (hb : Below wx.heap.size wx w') : JR w' P v zs := ⟨h.b.up hb, h.s.up hb⟩
theorem JR.new {wx : World} {base : Nat} {v : Value} {zs : List GRule} (h : OwnRules wx base v zs) : JR (wx.alloc (.cells #[v] 26)) wx.heap.size v zs := ⟨Blk.new _ _ _, (OwnRules.sl h).up ((Below.refl _ wx).alloc (Nat.le_refl _) _)⟩
theorem drawnW {most : Int} {xs : List GRule} (h : DrawnOk most xs) (h1 : 1 ≤ most) (h2 : most ≤ 2000) : upV xs = wordG xs ∧ upC xs = 0 ∧ ((wordG xs).length : Int) = gramLen xs ∧ ((wordG xs).length : Int) ≤ most := by
  obtain ⟨hg, h0, hm, _⟩ := h
  obtain ⟨h4, ls, hl⟩ := gram_lens hg
  have hw := wordG_len hl
  have hgl := gramLen_of hl
  have := hm h1
  obtain ⟨k1, k2⟩ := up_ok hg (by omega)
  exact ⟨k1, k2, by omega, by omega⟩
theorem let_sl {W : World} {P : Nat} {d : UInt8} {t : TypeId} (h : Blk W P #[.string ⟨#[d]⟩, .int .i64 0, .int .i64 0] t) : Sl RuleE W W.heap.size (.slice (some ⟨P, 0, none⟩) 1 1) (letL d) := by
  refine ⟨some ⟨P, 0, none⟩, 1, rfl, Nat.le_refl _, by decide, fun _ => ⟨P, 0, rfl, h.lt, fun k x hx => ?_⟩⟩
  match k, hx with
  | 0, hx =>
    have e : x = ⟨⟨#[d]⟩, 0, 0⟩ := by simpa [letL] using hx.symm
    subst e
    refine ⟨_, rfl, fun j u hu => ?_⟩
    match j, hu with
    | 0, hu => exact (Blk.cell (i := 0) (v := u) h (by simpa [GRule.cells] using hu))
    | 1, hu => exact (Blk.cell (i := 1) (v := u) h (by simpa [GRule.cells] using hu))
    | 2, hu => exact (Blk.cell (i := 2) (v := u) h (by simpa [GRule.cells] using hu))
    | j + 3, hu => exact absurd hu (by simp [GRule.cells])
  | k + 1, hx => exact absurd hx (by simp [letL])
set_option maxRecDepth 100000 in
set_option maxHeartbeats 8000000 in
theorem lawEqualLong_any (v v' : Value) (l l' : List UInt8) (w : World) (h : Sl ByteE w w.heap.size v l) (h' : Sl ByteE w w.heap.size v' l') (htab : Lib.TabIs Tryd.prog w "math/bits.deBruijn64tab" .u8 deB64) :
    Calls Tryd.prog 3 #[v, v'] w fun r w' => r = .returned (.bool true) ∧ Below w.heap.size w w' := by
  have HL := Lib.hid h
  have HM := Lib.hid h'
  have HT := Lib.hid htab
  obtain ⟨A, c, rfl, _⟩ := h
  obtain ⟨A', c', rfl, _⟩ := h'
  clear htab
  go_enter Tryd.func3, Tryd.ntmps3
  go_wp2_with fail
  refine (a2Long_any _ _ l l' _ HL.out HM.out).mono ?_
  rintro r w0 ⟨rfl, rfl⟩
  cases hlong : (decide ((3000 : Int) < l.length) || decide ((3000 : Int) < l'.length)) with
  | true =>
    go_wp2_with fail
    go_ret
    exact ⟨rfl, Below.refl _ _⟩
  | false =>
    clear hlong
    go_wp2_with fail
    refine (A2Grammar_any _ l 30 _ HL.out).mono ?_
    rintro r w1 ⟨u1, xs, rfl, hsl, hdr, hl14, hb1⟩
    obtain ⟨AG, cGx, rfl, _⟩ := (id hsl : Sl RuleE w1 w1.heap.size u1 xs)
    obtain ⟨d1, d2, d3, d4⟩ := drawnW hdr (by omega) (by omega)
    have HGX := Lib.hid hdr.1
    have HX0 := Lib.hid hdr.2.1
    have hg40 : gramLen xs ≤ 40 := by omega
    have HG40 := Lib.hid hg40
    have ba := (Below.refl _ w1).alloc (Nat.le_refl _) (.cells #[.slice AG xs.length cGx] 26)
    have RG1 := Lib.hid (JR.mk (Blk.new w1 #[.slice AG xs.length cGx] 26) (hsl.up ba))
    have HB1 := Lib.hid (Below.tr hb1 ba)
    have SM1 := Lib.hid (HM.out.up HB1.out)
    clear hb1 hdr hsl ba d1 d2 d3 d4 hg40
    go_wp2_with fail
    refine (a2At_any _ l' 0 200 _ SM1.out (by omega) (by omega)).mono ?_
    rintro r wa ⟨xa, rfl, a0, a1, rfl⟩
    obtain ⟨a, ha⟩ : ∃ n : Nat, (n : Int) = 1 + xa := ⟨(1 + xa).toNat, by omega⟩
    have war : IntKind.i64.wrap (1 + xa) = (a : Int) := by rw [IntWalk.i64_in _ (by omega)]; omega
    have ra : 1 ≤ a ∧ a ≤ 200 := by omega
    clear a0 a1 ha
    go_wp2_with fail
    refine (a2At_any _ l' 1 200 _ SM1.out (by omega) (by omega)).mono ?_
    rintro r wb ⟨xb, rfl, b0, b1, rfl⟩
    obtain ⟨b, hb⟩ : ∃ n : Nat, (n : Int) = 1 + xb := ⟨(1 + xb).toNat, by omega⟩
    have wbr : IntKind.i64.wrap (1 + xb) = (b : Int) := by rw [IntWalk.i64_in _ (by omega)]; omega
    have rb : 1 ≤ b ∧ b ≤ 200 := by omega
    clear b0 b1 hb
    have hab : a * b ≤ 200 * 200 := Nat.mul_le_mul ra.2 rb.2
    have wab : IntKind.i64.wrap ((a : Int) * (b : Int)) = ((a * b : Nat) : Int) := by rw [← Int.natCast_mul, IntWalk.i64_in _ (by omega)]
    have HP := Lib.hid (long_pow HGX.out HX0.out hl14 HG40.out ra.1 ra.2 rb.1 rb.2)
    obtain ⟨m, hm⟩ : ∃ m, a * b = m := ⟨_, rfl⟩
    rw [hm] at wab HP hab
    clear hm
    obtain ⟨X, hX⟩ : ∃ O, powOut xs (a : Int) = O := ⟨_, rfl⟩
    obtain ⟨Y, hY⟩ : ∃ O, powOut X (b : Int) = O := ⟨_, rfl⟩
    obtain ⟨Z, hZ⟩ : ∃ O, powOut xs (m : Int) = O := ⟨_, rfl⟩
    have HP2 := HP.out
    rw [hX, hY, hZ] at HP2
    obtain ⟨p1, p2, p3, p4, p5, p6, p7, p8, p9, p10, p11, p12⟩ := HP2
    have HX := Lib.hid hX
    have HY := Lib.hid hY
    have HZ := Lib.hid hZ
    have HC := Lib.hid (And.intro p1 (And.intro p4 p7))
    have HOK := Lib.hid (And.intro p2 (And.intro p5 p8))
    have HW := Lib.hid p10
    obtain ⟨n, hn⟩ : ∃ n : Nat, gramLen Z = (n : Int) := ⟨(gramLen Z).toNat, by omega⟩
    rw [hn] at p11 p12
    have HN := Lib.hid hn
    clear p1 p4 p7 p2 p5 p8 p10 HP hX hY hZ hn
    have cG := Blk.cell (i := 0) (v := .slice AG xs.length cGx) RG1.out.b rfl
    have lG := RG1.out.b.lt
    go_wp2_with fail
    refine (implPower_any _ xs a _ RG1.out.s (by omega) (tab_below HT.out HB1.out)).mono ?_
    rintro r wpX ⟨hb, vpX, own, rfl⟩
    rw [HX.out] at own
    rw [HC.out.1]
    clear cG lG
    obtain ⟨AX, cXx, rfl, _⟩ := own_nil own
    have ba := (Below.refl _ wpX).alloc (Nat.le_refl _) (.cells #[.slice AX X.length cXx] 26)
    have nR := JR.new own
    have hb9 := Below.tr hb ba
    have RG2 := Lib.hid (RG1.out.up hb9)
    have SM2 := Lib.hid (SM1.out.up hb9)
    have HB2 := Lib.hid (Below.tr HB1.out hb9)
    clear RG1 SM1 HB1
    have RX2 := Lib.hid nR
    clear hb ba nR hb9 own
    have cX := Blk.cell (i := 0) (v := .slice AX X.length cXx) RX2.out.b rfl
    have lX := RX2.out.b.lt
    go_wp2_with fail
    refine (implPower_any _ X b _ RX2.out.s (by omega) (tab_below HT.out HB2.out)).mono ?_
    rintro r wpY ⟨hb, vpY, own, rfl⟩
    rw [HY.out] at own
    rw [HC.out.2.1]
    clear cX lX
    obtain ⟨AY, cYx, rfl, _⟩ := own_nil own
    have ba := (Below.refl _ wpY).alloc (Nat.le_refl _) (.cells #[.slice AY Y.length cYx] 26)
    have nR := JR.new own
    have hb9 := Below.tr hb ba
    have RG3 := Lib.hid (RG2.out.up hb9)
    have SM3 := Lib.hid (SM2.out.up hb9)
    have RX3 := Lib.hid (RX2.out.up hb9)
    have HB3 := Lib.hid (Below.tr HB2.out hb9)
    clear RG2 SM2 RX2 HB2
    have RY3 := Lib.hid nR
    clear hb ba nR hb9 own
    have cG := Blk.cell (i := 0) (v := .slice AG xs.length cGx) RG3.out.b rfl
    have lG := RG3.out.b.lt
    go_wp2_with fail
    refine (implPower_any _ xs m _ RG3.out.s (by omega) (tab_below HT.out HB3.out)).mono ?_
    rintro r wpZ ⟨hb, vpZ, own, rfl⟩
    rw [HZ.out] at own
    rw [HC.out.2.2]
    clear cG lG
    obtain ⟨AZ, cZx, rfl, _⟩ := own_nil own
    have ba := (Below.refl _ wpZ).alloc (Nat.le_refl _) (.cells #[.slice AZ Z.length cZx] 26)
    have nR := JR.new own
    have hb9 := Below.tr hb ba
    have RG4 := Lib.hid (RG3.out.up hb9)
    have SM4 := Lib.hid (SM3.out.up hb9)
    have RX4 := Lib.hid (RX3.out.up hb9)
    have RY4 := Lib.hid (RY3.out.up hb9)
    have HB4 := Lib.hid (Below.tr HB3.out hb9)
    clear RG3 SM3 RX3 RY3 HB3
    have RZ4 := Lib.hid nR
    clear hb ba nR hb9 own
    have q1 := Lib.hid (eqG_of HOK.out.2.1 HOK.out.2.2 HW.out)
    have cY := Blk.cell (i := 0) (v := .slice AY Y.length cYx) RY4.out.b rfl
    have lY := RY4.out.b.lt
    have cZ := Blk.cell (i := 0) (v := .slice AZ Z.length cZx) RZ4.out.b rfl
    have lZ := RZ4.out.b.lt
    go_wp2_with fail
    refine (equalWords_any _ _ Y Z _ RY4.out.s RZ4.out.s HOK.out.2.1 HOK.out.2.2).mono ?_
    rintro r we ⟨rfl, hb⟩
    rw [q1.out]
    have RG5 := Lib.hid (RG4.out.up hb)
    have SM5 := Lib.hid (SM4.out.up hb)
    have RX5 := Lib.hid (RX4.out.up hb)
    have RY5 := Lib.hid (RY4.out.up hb)
    have RZ5 := Lib.hid (RZ4.out.up hb)
    have HB5 := Lib.hid (Below.tr HB4.out hb)
    clear RG4 SM4 RX4 RY4 RZ4 HB4
    clear hb cY lY cZ lZ
    have cZ := Blk.cell (i := 0) (v := .slice AZ Z.length cZx) RZ5.out.b rfl
    have lZ := RZ5.out.b.lt
    go_wp2_with fail
    refine (LengthOf_any _ Z _ RZ5.out.s (by omega)).mono ?_
    rintro r wl ⟨rfl, hb⟩
    have hlv : lenV Z = (n : Int) := by unfold lenV; rw [if_pos HOK.out.2.2, HN.out]
    have hlc : lenC Z = 0 := by unfold lenC; rw [if_pos HOK.out.2.2]
    rw [hlv, hlc]
    have RG6 := Lib.hid (RG5.out.up hb)
    have SM6 := Lib.hid (SM5.out.up hb)
    have RX6 := Lib.hid (RX5.out.up hb)
    have RY6 := Lib.hid (RY5.out.up hb)
    have RZ6 := Lib.hid (RZ5.out.up hb)
    have HB6 := Lib.hid (Below.tr HB5.out hb)
    clear RG5 SM5 RX5 RY5 RZ5 HB5
    clear hb hlv hlc cZ lZ
    have cZ := Blk.cell (i := 0) (v := .slice AZ Z.length cZx) RZ6.out.b rfl
    have lZ := RZ6.out.b.lt
    have HSZ := Lib.hid (gram_smallL HOK.out.2.2)
    go_wp2_with fail
    refine (specValidGrammar_any _ Z _ RZ6.out.s HSZ.out).mono ?_
    rintro r wv ⟨rfl, hb⟩
    rw [HOK.out.2.2]
    have RG7 := Lib.hid (RG6.out.up hb)
    have SM7 := Lib.hid (SM6.out.up hb)
    have RX7 := Lib.hid (RX6.out.up hb)
    have RY7 := Lib.hid (RY6.out.up hb)
    have RZ7 := Lib.hid (RZ6.out.up hb)
    have HB7 := Lib.hid (Below.tr HB6.out hb)
    clear RG6 SM6 RX6 RY6 RZ6 HB6
    clear hb cZ lZ
    go_wp2_with fail
    refine (A2Place_any _ l' n _ SM7.out (by omega)).mono ?_
    rintro r wk ⟨k, rfl, hkn, hb⟩
    have RG8 := Lib.hid (RG7.out.up hb)
    have SM8 := Lib.hid (SM7.out.up hb)
    have RX8 := Lib.hid (RX7.out.up hb)
    have RY8 := Lib.hid (RY7.out.up hb)
    have RZ8 := Lib.hid (RZ7.out.up hb)
    have HB8 := Lib.hid (Below.tr HB7.out hb)
    clear RG7 SM7 RX7 RY7 RZ7 HB7
    clear hb
    have HBK := Lib.hid (long_back (z := Z) (k := (k : Int)) HOK.out.2.2 (by omega) (by omega) (by rw [HN.out]; omega))
    rw [HN.out] at HBK
    obtain ⟨L, hL⟩ : ∃ O, partOut Z 0 (k : Int) = O := ⟨_, rfl⟩
    obtain ⟨T, hT⟩ : ∃ O, partOut Z (k : Int) (n : Int) = O := ⟨_, rfl⟩
    obtain ⟨B, hB⟩ : ∃ O, joinOut L T = O := ⟨_, rfl⟩
    have HP3 := HBK.out
    rw [hL, hT, hB] at HP3
    obtain ⟨b1, b2, b3, b4, b5, b6, b7, b8, b9, b10⟩ := HP3
    have HLL := Lib.hid hL
    have HTT := Lib.hid hT
    have HBB := Lib.hid hB
    have HC2 := Lib.hid (And.intro b1 (And.intro b4 b7))
    have HOK2 := Lib.hid (And.intro b2 (And.intro b5 b8))
    have q2 := Lib.hid (eqG_of b8 HOK.out.2.1 (b9.trans HW.out.symm))
    clear b1 b2 b4 b5 b7 b8 b9 HBK hL hT hB
    have cZ := Blk.cell (i := 0) (v := .slice AZ Z.length cZx) RZ8.out.b rfl
    have lZ := RZ8.out.b.lt
    go_wp2_with fail
    refine (implPart_any _ Z 0 k _ RZ8.out.s (by omega)).mono ?_
    rintro r wtL ⟨hb, vtL, own, rfl⟩
    rw [HLL.out] at own
    rw [HC2.out.1]
    clear cZ lZ
    obtain ⟨AL, cLx, rfl, _⟩ := own_nil own
    have ba := (Below.refl _ wtL).alloc (Nat.le_refl _) (.cells #[.slice AL L.length cLx] 26)
    have nR := JR.new own
    have hb9 := Below.tr hb ba
    have RG9 := Lib.hid (RG8.out.up hb9)
    have SM9 := Lib.hid (SM8.out.up hb9)
    have RX9 := Lib.hid (RX8.out.up hb9)
    have RY9 := Lib.hid (RY8.out.up hb9)
    have RZ9 := Lib.hid (RZ8.out.up hb9)
    have HB9 := Lib.hid (Below.tr HB8.out hb9)
    clear RG8 SM8 RX8 RY8 RZ8 HB8
    have RL9 := Lib.hid nR
    clear hb ba nR hb9 own
    have cZ := Blk.cell (i := 0) (v := .slice AZ Z.length cZx) RZ9.out.b rfl
    have lZ := RZ9.out.b.lt
    go_wp2_with fail
    refine (implPart_any _ Z k n _ RZ9.out.s (by omega)).mono ?_
    rintro r wtT ⟨hb, vtT, own, rfl⟩
    rw [HTT.out] at own
    rw [HC2.out.2.1]
    clear cZ lZ
    obtain ⟨AT, cTx, rfl, _⟩ := own_nil own
    have ba := (Below.refl _ wtT).alloc (Nat.le_refl _) (.cells #[.slice AT T.length cTx] 26)
    have nR := JR.new own
    have hb9 := Below.tr hb ba
    have RG10 := Lib.hid (RG9.out.up hb9)
    have SM10 := Lib.hid (SM9.out.up hb9)
    have RX10 := Lib.hid (RX9.out.up hb9)
    have RY10 := Lib.hid (RY9.out.up hb9)
    have RZ10 := Lib.hid (RZ9.out.up hb9)
    have RL10 := Lib.hid (RL9.out.up hb9)
    have HB10 := Lib.hid (Below.tr HB9.out hb9)
    clear RG9 SM9 RX9 RY9 RZ9 RL9 HB9
    have RT10 := Lib.hid nR
    clear hb ba nR hb9 own
    have cL := Blk.cell (i := 0) (v := .slice AL L.length cLx) RL10.out.b rfl
    have lL := RL10.out.b.lt
    have cT := Blk.cell (i := 0) (v := .slice AT T.length cTx) RT10.out.b rfl
    have lT := RT10.out.b.lt
    go_wp2_with fail
    refine (implJoin_any _ _ L T _ RL10.out.s RT10.out.s (by omega) (by omega)).mono ?_
    rintro r wjB ⟨hb, vjB, own, rfl⟩
    rw [HBB.out] at own
    rw [HC2.out.2.2]
    clear cL lL cT lT
    obtain ⟨AB, cBx, rfl, _⟩ := own_nil own
    have ba := (Below.refl _ wjB).alloc (Nat.le_refl _) (.cells #[.slice AB B.length cBx] 26)
    have nR := JR.new own
    have hb9 := Below.tr hb ba
    have RG11 := Lib.hid (RG10.out.up hb9)
    have SM11 := Lib.hid (SM10.out.up hb9)
    have RX11 := Lib.hid (RX10.out.up hb9)
    have RY11 := Lib.hid (RY10.out.up hb9)
    have RZ11 := Lib.hid (RZ10.out.up hb9)
    have RL11 := Lib.hid (RL10.out.up hb9)
    have RT11 := Lib.hid (RT10.out.up hb9)
    have HB11 := Lib.hid (Below.tr HB10.out hb9)
    clear RG10 SM10 RX10 RY10 RZ10 RL10 RT10 HB10
    have RB11 := Lib.hid nR
    clear hb ba nR hb9 own
    have cB := Blk.cell (i := 0) (v := .slice AB B.length cBx) RB11.out.b rfl
    have lB := RB11.out.b.lt
    have cY := Blk.cell (i := 0) (v := .slice AY Y.length cYx) RY11.out.b rfl
    have lY := RY11.out.b.lt
    go_wp2_with fail
    refine (equalWords_any _ _ B Y _ RB11.out.s RY11.out.s HOK2.out.2.2 HOK.out.2.1).mono ?_
    rintro r we ⟨rfl, hb⟩
    rw [q2.out]
    have RG12 := Lib.hid (RG11.out.up hb)
    have SM12 := Lib.hid (SM11.out.up hb)
    have RX12 := Lib.hid (RX11.out.up hb)
    have RY12 := Lib.hid (RY11.out.up hb)
    have RZ12 := Lib.hid (RZ11.out.up hb)
    have RL12 := Lib.hid (RL11.out.up hb)
    have RT12 := Lib.hid (RT11.out.up hb)
    have RB12 := Lib.hid (RB11.out.up hb)
    have HB12 := Lib.hid (Below.tr HB11.out hb)
    clear RG11 SM11 RX11 RY11 RZ11 RL11 RT11 RB11 HB11
    clear hb cB lB cY lY
    by_cases hkE : k = n
    · subst hkE
      go_wp2_with fail
      go_ret
      exact ⟨rfl, HB12.out⟩
    have hklt : k < n := by omega
    have hkI : ((k : Int) == (n : Int)) = false := by rw [beq_eq_false_iff_ne]; omega
    have hwz : (wordG Z).length = n := by
      obtain ⟨_, ls, hl⟩ := gram_lens HOK.out.2.2
      have e1 := wordG_len hl; have e2 := gramLen_of hl; have := HN.out; omega
    obtain ⟨c, hc⟩ : ∃ c, (wordG Z)[k]? = some c := ⟨_, List.getElem?_eq_getElem (by omega)⟩
    have hcd : (wordG Z).getD k 0 = c := by rw [List.getD_eq_getElem?_getD, hc]; rfl
    have HCD := Lib.hid (And.intro hc hcd)
    clear hc hcd hwz hkE
    have cZ := Blk.cell (i := 0) (v := .slice AZ Z.length cZx) RZ12.out.b rfl
    have lZ := RZ12.out.b.lt
    go_wp2_with fail
    refine (letterAtIn_any _ Z k c _ RZ12.out.s HOK.out.2.2 HCD.out.1).mono ?_
    rintro r wc ⟨rfl, hb⟩
    have RG13 := Lib.hid (RG12.out.up hb)
    have SM13 := Lib.hid (SM12.out.up hb)
    have RX13 := Lib.hid (RX12.out.up hb)
    have RY13 := Lib.hid (RY12.out.up hb)
    have RZ13 := Lib.hid (RZ12.out.up hb)
    have RL13 := Lib.hid (RL12.out.up hb)
    have RT13 := Lib.hid (RT12.out.up hb)
    have RB13 := Lib.hid (RB12.out.up hb)
    have HB13 := Lib.hid (Below.tr HB12.out hb)
    clear RG12 SM12 RX12 RY12 RZ12 RL12 RT12 RB12 HB12
    clear hb cZ lZ
    have wk1 : IntKind.i64.wrap ((k : Int) + 1) = ((k + 1 : Nat) : Int) := by rw [IntWalk.i64_in _ (by omega)]; omega
    obtain ⟨d, hd⟩ : ∃ d : UInt8, d = if c = 100 then 99 else 100 := ⟨_, rfl⟩
    have hdd : d = 99 ∨ d = 100 := by rw [hd]; split <;> simp
    have hne : (wordG Z).getD k 0 ≠ d := by
      rw [HCD.out.2, hd]
      split
      · rename_i h; rw [h]; decide
      · rename_i h; exact h
    have HLO := Lib.hid (long_other (z := Z) (k := k) (c := d) HOK.out.2.2 (by omega) (by rw [HN.out]; omega) hdd hne)
    rw [HN.out, HLL.out] at HLO
    obtain ⟨U, hU⟩ : ∃ O, partOut Z ((k + 1 : Nat) : Int) (n : Int) = O := ⟨_, rfl⟩
    obtain ⟨F, hF⟩ : ∃ O, joinOut L (letL d) = O := ⟨_, rfl⟩
    obtain ⟨O, hO⟩ : ∃ O, joinOut F U = O := ⟨_, rfl⟩
    have HP4 := HLO.out
    rw [hU, hF, hO] at HP4
    obtain ⟨o1, o2, o3, o4, o5, o6, o7, o8, o9, o10, o11, o12⟩ := HP4
    have HUU := Lib.hid hU
    have HFF := Lib.hid hF
    have HOO := Lib.hid hO
    have HC3 := Lib.hid (And.intro o1 (And.intro o4 o7))
    have HOK3 := Lib.hid (And.intro o2 (And.intro o5 o8))
    have HGO := Lib.hid o10
    have q3 := Lib.hid o11
    have HPR := Lib.hid o12
    have HLd := Lib.hid (letL_ok hdd).1
    have HDc := Lib.hid (And.intro hd (And.intro hdd hne))
    clear o1 o2 o4 o5 o7 o8 o10 o11 o12 HLO hU hF hO hd hdd hne
    have cZ := Blk.cell (i := 0) (v := .slice AZ Z.length cZx) RZ13.out.b rfl
    have lZ := RZ13.out.b.lt
    go_wp2_with fail
    refine (implPart_any _ Z (k + 1 : Nat) n _ RZ13.out.s (by omega)).mono ?_
    rintro r wtU ⟨hb, vtU, own, rfl⟩
    rw [HUU.out] at own
    rw [HC3.out.1]
    clear cZ lZ
    obtain ⟨AU, cUx, rfl, _⟩ := own_nil own
    have ba := (Below.refl _ wtU).alloc (Nat.le_refl _) (.cells #[.slice AU U.length cUx] 26)
    have nR := JR.new own
    have hb9 := Below.tr hb ba
    have RG14 := Lib.hid (RG13.out.up hb9)
    have SM14 := Lib.hid (SM13.out.up hb9)
    have RX14 := Lib.hid (RX13.out.up hb9)
    have RY14 := Lib.hid (RY13.out.up hb9)
    have RZ14 := Lib.hid (RZ13.out.up hb9)
    have RL14 := Lib.hid (RL13.out.up hb9)
    have RT14 := Lib.hid (RT13.out.up hb9)
    have RB14 := Lib.hid (RB13.out.up hb9)
    have HB14 := Lib.hid (Below.tr HB13.out hb9)
    clear RG13 SM13 RX13 RY13 RZ13 RL13 RT13 RB13 HB13
    have RU14 := Lib.hid nR
    clear hb ba nR hb9 own
    have hsP : (wtU.alloc (.cells #[.slice AU U.length cUx] 26)).heap.size = wtU.heap.size + 1 := by simp
    obtain ⟨W0, hW0⟩ : ∃ W, wtU.alloc (.cells #[.slice AU U.length cUx] 26) = W := ⟨_, rfl⟩
    have hsQ : (W0.alloc (.cells #[.string ⟨#[100]⟩, .int .i64 0, .int .i64 0] 42)).heap.size = wtU.heap.size + 1 + 1 := by rw [← hsP, hW0]; simp
    obtain ⟨oQ, hoQ⟩ : ∃ o : Obj, Obj.cells #[.slice (some ⟨wtU.heap.size + 1, 0, none⟩) 1 1] 26 = o := ⟨_, rfl⟩
    have kP := (Blk.new W0 #[.string ⟨#[100]⟩, .int .i64 0, .int .i64 0] 42).alloc oQ
    have kQ := Blk.new (W0.alloc (.cells #[.string ⟨#[100]⟩, .int .i64 0, .int .i64 0] 42)) #[.slice (some ⟨wtU.heap.size + 1, 0, none⟩) 1 1] 26
    rw [hW0] at hsP
    rw [hsP] at kP
    rw [hsQ, hoQ] at kQ
    have b0 : Below W0.heap.size W0 ((W0.alloc (.cells #[.string ⟨#[100]⟩, .int .i64 0, .int .i64 0] 42)).alloc oQ) := ((Below.refl _ W0).alloc (Nat.le_refl _) _).alloc (by simp) _
    have HQ0 := Lib.hid (And.intro hW0 (And.intro hsP hoQ))
    rw [hW0] at RG14 SM14 RX14 RY14 RZ14 RL14 RT14 RB14 RU14 HB14
    clear hsP hsQ hW0 hoQ
    by_cases hc100 : c = 100
    · have hd99 : d = 99 := by rw [HDc.out.1, if_pos hc100]
      subst hc100
      subst hd99
      have hst : ((⟨#[(100 : UInt8)]⟩ : ByteArray).toList == (⟨#[(100 : UInt8)]⟩ : ByteArray).toList) = true := by simp
      have lP := kP.lt
      have cQ := Blk.cell (i := 0) (v := .slice (some ⟨wtU.heap.size + 1, 0, none⟩) 1 1) kQ rfl
      have cP := Blk.cell (i := 0) (v := .string ⟨#[100]⟩) kP rfl
      have zP := Blk.frozen kP 0
      have b0 := b0.setCell (p := ⟨wtU.heap.size + 1, 0, none⟩) (Nat.le_of_eq HQ0.out.2.1) (.string ⟨#[99]⟩)
      have kP := kP.set 0 (.string ⟨#[99]⟩)
      have kQ := kQ.other (p := ⟨wtU.heap.size + 1, 0, none⟩) (by simp) (.string ⟨#[99]⟩)
      go_upto_region 25 with fail
      rw [HQ0.out.1, HQ0.out.2.2]
      go_upto_region 27 with fail
      have nR := JR.mk kQ (let_sl kP)
      have RG15 := Lib.hid (RG14.out.up b0)
      have SM15 := Lib.hid (SM14.out.up b0)
      have RX15 := Lib.hid (RX14.out.up b0)
      have RY15 := Lib.hid (RY14.out.up b0)
      have RZ15 := Lib.hid (RZ14.out.up b0)
      have RL15 := Lib.hid (RL14.out.up b0)
      have RT15 := Lib.hid (RT14.out.up b0)
      have RB15 := Lib.hid (RB14.out.up b0)
      have RU15 := Lib.hid (RU14.out.up b0)
      have HB15 := Lib.hid (Below.tr HB14.out b0)
      clear RG14 SM14 RX14 RY14 RZ14 RL14 RT14 RB14 RU14 HB14
      have RD15 := Lib.hid nR
      clear nR b0 kP kQ
      have hl1 : (letL 99).length = 1 := rfl
      have cL := Blk.cell (i := 0) (v := .slice AL L.length cLx) RL15.out.b rfl
      have lL := RL15.out.b.lt
      have cD := Blk.cell (i := 0) (v := .slice (some ⟨wtU.heap.size + 1, 0, none⟩) 1 1) RD15.out.b rfl
      have lD := RD15.out.b.lt
      go_wp2_with fail
      refine (implJoin_any _ _ L (letL 99) _ RL15.out.s RD15.out.s (by omega) (by omega)).mono ?_
      rintro r wjF ⟨hb, vjF, own, rfl⟩
      rw [HFF.out] at own
      rw [HC3.out.2.1]
      clear cL lL cD lD
      obtain ⟨AF, cFx, rfl, _⟩ := own_nil own
      have ba := (Below.refl _ wjF).alloc (Nat.le_refl _) (.cells #[.slice AF F.length cFx] 26)
      have nR := JR.new own
      have hb9 := Below.tr hb ba
      have RG16 := Lib.hid (RG15.out.up hb9)
      have SM16 := Lib.hid (SM15.out.up hb9)
      have RX16 := Lib.hid (RX15.out.up hb9)
      have RY16 := Lib.hid (RY15.out.up hb9)
      have RZ16 := Lib.hid (RZ15.out.up hb9)
      have RL16 := Lib.hid (RL15.out.up hb9)
      have RT16 := Lib.hid (RT15.out.up hb9)
      have RB16 := Lib.hid (RB15.out.up hb9)
      have RU16 := Lib.hid (RU15.out.up hb9)
      have RD16 := Lib.hid (RD15.out.up hb9)
      have HB16 := Lib.hid (Below.tr HB15.out hb9)
      clear RG15 SM15 RX15 RY15 RZ15 RL15 RT15 RB15 RU15 RD15 HB15
      have RF16 := Lib.hid nR
      clear hb ba nR hb9 own
      have cF := Blk.cell (i := 0) (v := .slice AF F.length cFx) RF16.out.b rfl
      have lF := RF16.out.b.lt
      have cU := Blk.cell (i := 0) (v := .slice AU U.length cUx) RU16.out.b rfl
      have lU := RU16.out.b.lt
      go_wp2_with fail
      refine (implJoin_any _ _ F U _ RF16.out.s RU16.out.s (by omega) (by omega)).mono ?_
      rintro r wjO ⟨hb, vjO, own, rfl⟩
      rw [HOO.out] at own
      rw [HC3.out.2.2]
      clear cF lF cU lU
      obtain ⟨AO, cOx, rfl, _⟩ := own_nil own
      have ba := (Below.refl _ wjO).alloc (Nat.le_refl _) (.cells #[.slice AO O.length cOx] 26)
      have nR := JR.new own
      have hb9 := Below.tr hb ba
      have RG17 := Lib.hid (RG16.out.up hb9)
      have SM17 := Lib.hid (SM16.out.up hb9)
      have RX17 := Lib.hid (RX16.out.up hb9)
      have RY17 := Lib.hid (RY16.out.up hb9)
      have RZ17 := Lib.hid (RZ16.out.up hb9)
      have RL17 := Lib.hid (RL16.out.up hb9)
      have RT17 := Lib.hid (RT16.out.up hb9)
      have RB17 := Lib.hid (RB16.out.up hb9)
      have RU17 := Lib.hid (RU16.out.up hb9)
      have RD17 := Lib.hid (RD16.out.up hb9)
      have RF17 := Lib.hid (RF16.out.up hb9)
      have HB17 := Lib.hid (Below.tr HB16.out hb9)
      clear RG16 SM16 RX16 RY16 RZ16 RL16 RT16 RB16 RU16 RD16 RF16 HB16
      have RO17 := Lib.hid nR
      clear hb ba nR hb9 own
      have cO := Blk.cell (i := 0) (v := .slice AO O.length cOx) RO17.out.b rfl
      have lO := RO17.out.b.lt
      have cZ := Blk.cell (i := 0) (v := .slice AZ Z.length cZx) RZ17.out.b rfl
      have lZ := RZ17.out.b.lt
      go_wp2_with fail
      refine (equalWords_any _ _ O Z _ RO17.out.s RZ17.out.s HOK3.out.2.2 HOK.out.2.2).mono ?_
      rintro r we ⟨rfl, hb⟩
      rw [q3.out]
      have RG18 := Lib.hid (RG17.out.up hb)
      have SM18 := Lib.hid (SM17.out.up hb)
      have RX18 := Lib.hid (RX17.out.up hb)
      have RY18 := Lib.hid (RY17.out.up hb)
      have RZ18 := Lib.hid (RZ17.out.up hb)
      have RL18 := Lib.hid (RL17.out.up hb)
      have RT18 := Lib.hid (RT17.out.up hb)
      have RB18 := Lib.hid (RB17.out.up hb)
      have RU18 := Lib.hid (RU17.out.up hb)
      have RD18 := Lib.hid (RD17.out.up hb)
      have RF18 := Lib.hid (RF17.out.up hb)
      have RO18 := Lib.hid (RO17.out.up hb)
      have HB18 := Lib.hid (Below.tr HB17.out hb)
      clear RG17 SM17 RX17 RY17 RZ17 RL17 RT17 RB17 RU17 RD17 RF17 RO17 HB17
      clear hb cO lO cZ lZ
      have cO := Blk.cell (i := 0) (v := .slice AO O.length cOx) RO18.out.b rfl
      have lO := RO18.out.b.lt
      have cZ := Blk.cell (i := 0) (v := .slice AZ Z.length cZx) RZ18.out.b rfl
      have lZ := RZ18.out.b.lt
      go_wp2_with fail
      refine (firstDiff_any _ _ O Z n _ RO18.out.s RZ18.out.s HOK3.out.2.2 HOK.out.2.2 q3.out (by rw [HGO.out, HN.out]; omega)).mono ?_
      rintro r wd ⟨rfl, hb⟩
      have hcm : commonB (comO O Z 0 0) n 0 n = k := by
        rw [commonB_spec (comO O Z 0 0) k n (fun m hm => by unfold comO; rw [decide_eq_true_iff, Int.zero_add, HPR.out m (by omega)]; omega) _ _ _ (by omega) (by omega) (by omega) (by omega) (by omega)]; omega
      rw [hcm]
      have RG19 := Lib.hid (RG18.out.up hb)
      have SM19 := Lib.hid (SM18.out.up hb)
      have RX19 := Lib.hid (RX18.out.up hb)
      have RY19 := Lib.hid (RY18.out.up hb)
      have RZ19 := Lib.hid (RZ18.out.up hb)
      have RL19 := Lib.hid (RL18.out.up hb)
      have RT19 := Lib.hid (RT18.out.up hb)
      have RB19 := Lib.hid (RB18.out.up hb)
      have RU19 := Lib.hid (RU18.out.up hb)
      have RD19 := Lib.hid (RD18.out.up hb)
      have RF19 := Lib.hid (RF18.out.up hb)
      have RO19 := Lib.hid (RO18.out.up hb)
      have HB19 := Lib.hid (Below.tr HB18.out hb)
      clear RG18 SM18 RX18 RY18 RZ18 RL18 RT18 RB18 RU18 RD18 RF18 RO18 HB18
      clear hb hcm cO lO cZ lZ
      have hkk : ((k : Int) == (k : Int)) = true := by simp
      go_wp2_with fail
      go_ret
      exact ⟨rfl, HB19.out⟩
    · have hd100 : d = 100 := by rw [HDc.out.1, if_neg hc100]
      subst hd100
      have hst : (c == 100) = false := by rw [beq_eq_false_iff_ne]; exact hc100
      go_upto_region 25 with fail
      rw [HQ0.out.1, HQ0.out.2.2]
      go_upto_region 27 with fail
      have nR := JR.mk kQ (let_sl kP)
      have RG15 := Lib.hid (RG14.out.up b0)
      have SM15 := Lib.hid (SM14.out.up b0)
      have RX15 := Lib.hid (RX14.out.up b0)
      have RY15 := Lib.hid (RY14.out.up b0)
      have RZ15 := Lib.hid (RZ14.out.up b0)
      have RL15 := Lib.hid (RL14.out.up b0)
      have RT15 := Lib.hid (RT14.out.up b0)
      have RB15 := Lib.hid (RB14.out.up b0)
      have RU15 := Lib.hid (RU14.out.up b0)
      have HB15 := Lib.hid (Below.tr HB14.out b0)
      clear RG14 SM14 RX14 RY14 RZ14 RL14 RT14 RB14 RU14 HB14
      have RD15 := Lib.hid nR
      clear nR b0 kP kQ
      have hl1 : (letL 100).length = 1 := rfl
      have cL := Blk.cell (i := 0) (v := .slice AL L.length cLx) RL15.out.b rfl
      have lL := RL15.out.b.lt
      have cD := Blk.cell (i := 0) (v := .slice (some ⟨wtU.heap.size + 1, 0, none⟩) 1 1) RD15.out.b rfl
      have lD := RD15.out.b.lt
      go_wp2_with fail
      refine (implJoin_any _ _ L (letL 100) _ RL15.out.s RD15.out.s (by omega) (by omega)).mono ?_
      rintro r wjF ⟨hb, vjF, own, rfl⟩
      rw [HFF.out] at own
      rw [HC3.out.2.1]
      clear cL lL cD lD
      obtain ⟨AF, cFx, rfl, _⟩ := own_nil own
      have ba := (Below.refl _ wjF).alloc (Nat.le_refl _) (.cells #[.slice AF F.length cFx] 26)
      have nR := JR.new own
      have hb9 := Below.tr hb ba
      have RG16 := Lib.hid (RG15.out.up hb9)
      have SM16 := Lib.hid (SM15.out.up hb9)
      have RX16 := Lib.hid (RX15.out.up hb9)
      have RY16 := Lib.hid (RY15.out.up hb9)
      have RZ16 := Lib.hid (RZ15.out.up hb9)
      have RL16 := Lib.hid (RL15.out.up hb9)
      have RT16 := Lib.hid (RT15.out.up hb9)
      have RB16 := Lib.hid (RB15.out.up hb9)
      have RU16 := Lib.hid (RU15.out.up hb9)
      have RD16 := Lib.hid (RD15.out.up hb9)
      have HB16 := Lib.hid (Below.tr HB15.out hb9)
      clear RG15 SM15 RX15 RY15 RZ15 RL15 RT15 RB15 RU15 RD15 HB15
      have RF16 := Lib.hid nR
      clear hb ba nR hb9 own
      have cF := Blk.cell (i := 0) (v := .slice AF F.length cFx) RF16.out.b rfl
      have lF := RF16.out.b.lt
      have cU := Blk.cell (i := 0) (v := .slice AU U.length cUx) RU16.out.b rfl
      have lU := RU16.out.b.lt
      go_wp2_with fail
      refine (implJoin_any _ _ F U _ RF16.out.s RU16.out.s (by omega) (by omega)).mono ?_
      rintro r wjO ⟨hb, vjO, own, rfl⟩
      rw [HOO.out] at own
      rw [HC3.out.2.2]
      clear cF lF cU lU
      obtain ⟨AO, cOx, rfl, _⟩ := own_nil own
      have ba := (Below.refl _ wjO).alloc (Nat.le_refl _) (.cells #[.slice AO O.length cOx] 26)
      have nR := JR.new own
      have hb9 := Below.tr hb ba
      have RG17 := Lib.hid (RG16.out.up hb9)
      have SM17 := Lib.hid (SM16.out.up hb9)
      have RX17 := Lib.hid (RX16.out.up hb9)
      have RY17 := Lib.hid (RY16.out.up hb9)
      have RZ17 := Lib.hid (RZ16.out.up hb9)
      have RL17 := Lib.hid (RL16.out.up hb9)
      have RT17 := Lib.hid (RT16.out.up hb9)
      have RB17 := Lib.hid (RB16.out.up hb9)
      have RU17 := Lib.hid (RU16.out.up hb9)
      have RD17 := Lib.hid (RD16.out.up hb9)
      have RF17 := Lib.hid (RF16.out.up hb9)
      have HB17 := Lib.hid (Below.tr HB16.out hb9)
      clear RG16 SM16 RX16 RY16 RZ16 RL16 RT16 RB16 RU16 RD16 RF16 HB16
      have RO17 := Lib.hid nR
      clear hb ba nR hb9 own
      have cO := Blk.cell (i := 0) (v := .slice AO O.length cOx) RO17.out.b rfl
      have lO := RO17.out.b.lt
      have cZ := Blk.cell (i := 0) (v := .slice AZ Z.length cZx) RZ17.out.b rfl
      have lZ := RZ17.out.b.lt
      go_wp2_with fail
      refine (equalWords_any _ _ O Z _ RO17.out.s RZ17.out.s HOK3.out.2.2 HOK.out.2.2).mono ?_
      rintro r we ⟨rfl, hb⟩
      rw [q3.out]
      have RG18 := Lib.hid (RG17.out.up hb)
      have SM18 := Lib.hid (SM17.out.up hb)
      have RX18 := Lib.hid (RX17.out.up hb)
      have RY18 := Lib.hid (RY17.out.up hb)
      have RZ18 := Lib.hid (RZ17.out.up hb)
      have RL18 := Lib.hid (RL17.out.up hb)
      have RT18 := Lib.hid (RT17.out.up hb)
      have RB18 := Lib.hid (RB17.out.up hb)
      have RU18 := Lib.hid (RU17.out.up hb)
      have RD18 := Lib.hid (RD17.out.up hb)
      have RF18 := Lib.hid (RF17.out.up hb)
      have RO18 := Lib.hid (RO17.out.up hb)
      have HB18 := Lib.hid (Below.tr HB17.out hb)
      clear RG17 SM17 RX17 RY17 RZ17 RL17 RT17 RB17 RU17 RD17 RF17 RO17 HB17
      clear hb cO lO cZ lZ
      have cO := Blk.cell (i := 0) (v := .slice AO O.length cOx) RO18.out.b rfl
      have lO := RO18.out.b.lt
      have cZ := Blk.cell (i := 0) (v := .slice AZ Z.length cZx) RZ18.out.b rfl
      have lZ := RZ18.out.b.lt
      go_wp2_with fail
      refine (firstDiff_any _ _ O Z n _ RO18.out.s RZ18.out.s HOK3.out.2.2 HOK.out.2.2 q3.out (by rw [HGO.out, HN.out]; omega)).mono ?_
      rintro r wd ⟨rfl, hb⟩
      have hcm : commonB (comO O Z 0 0) n 0 n = k := by
        rw [commonB_spec (comO O Z 0 0) k n (fun m hm => by unfold comO; rw [decide_eq_true_iff, Int.zero_add, HPR.out m (by omega)]; omega) _ _ _ (by omega) (by omega) (by omega) (by omega) (by omega)]; omega
      rw [hcm]
      have RG19 := Lib.hid (RG18.out.up hb)
      have SM19 := Lib.hid (SM18.out.up hb)
      have RX19 := Lib.hid (RX18.out.up hb)
      have RY19 := Lib.hid (RY18.out.up hb)
      have RZ19 := Lib.hid (RZ18.out.up hb)
      have RL19 := Lib.hid (RL18.out.up hb)
      have RT19 := Lib.hid (RT18.out.up hb)
      have RB19 := Lib.hid (RB18.out.up hb)
      have RU19 := Lib.hid (RU18.out.up hb)
      have RD19 := Lib.hid (RD18.out.up hb)
      have RF19 := Lib.hid (RF18.out.up hb)
      have RO19 := Lib.hid (RO18.out.up hb)
      have HB19 := Lib.hid (Below.tr HB18.out hb)
      clear RG18 SM18 RX18 RY18 RZ18 RL18 RT18 RB18 RU18 RD18 RF18 RO18 HB18
      clear hb hcm cO lO cZ lZ
      have hkk : ((k : Int) == (k : Int)) = true := by simp
      go_wp2_with fail
      go_ret
      exact ⟨rfl, HB19.out⟩
open Go.RowKit Go.WideShapes Go.ChangeShapes
section
variable {H : Type} {enc : TypeId × Value → H} {P : Program}
theorem post_of_below {f : Func} {s : ChangeSpec} {apart fresh handsOn again : Bool} {W W' : World} {args : Array Value} {v : Value} {ds gs : List (DataW H)} {before pa pv : List MemPlace}
    (hW : DataW.Whole enc P f.params.toList s.vars apart W args.toList ds gs before)
    (hres : ∀ (b : Nat) (sp : Nat → Bool) (hd : Bool), DataW.TrodAll enc P W' b sp hd f.resultTypes.toList (v.resultList f.resultTypes.size) (s.fn H (ds ++ gs)).results [])
    (hargs : ∀ sp : Nat → Bool, (∀ p ∈ before, sp p.block = true) → DataW.TrodAll enc P W' 0 sp true f.params.toList args.toList (s.fn H (ds ++ gs)).args pa)
    (hvars : ∀ sp : Nat → Bool, (∀ p ∈ before, sp p.block = true) → DataW.TrodVars enc P W' sp s.vars (s.fn H (ds ++ gs)).vars pv)
    (hps : before = pa ++ pv) (hb : Below W.heap.size W W')
    (hok : ∀ (j : Nat) (t : TypeId) (r : Value), f.resultTypes[j]? = some t → (v.resultList f.resultTypes.size)[j]? = some r → Value.okWide P W' .any 0 t r) :
    s.post enc P f apart fresh handsOn again W args v W' := by
  have hlt : ∀ p ∈ before, p.block < W.heap.size := fun p hp => hW.lt p hp
  have hold : ∀ p ∈ before, (fun b => decide (b < W.heap.size)) p.block = true := fun p hp => by simpa using hlt p hp
  refine ⟨ds, gs, before, [], pa, pv, hW, hres _ _ _, hargs _ hold, hvars _ hold, World.keptBut_mono (fun p hp => ⟨hp, ?_⟩) (hb.frame (· ∈ before)), fun _ => ?_⟩
  · rw [hps, List.mem_append] at hp
    exact Or.inr hp
  · obtain ⟨_, _, _, _, _, hz, hn⟩ := hW
    refine ⟨hok, _, _, ([] ++ pa) ++ pv, ⟨[] ++ pa, pv, trodAll_append (hargs _ (fun _ _ => rfl)) (hres _ _ _), hvars _ (fun _ _ => rfl), rfl, ?_, ?_⟩, ?_⟩
    · intro b off hp
      have hin : MemPlace.cell b off ∈ before := by rw [hps]; simpa using hp
      rw [hb.frozen (hlt _ hin)]
      exact hz b off hin
    · intro ha
      have := hn ha
      rw [hps] at this
      simpa using this
    · intro p hp _
      rw [hps]
      simpa using hp
theorem trodAll_below (hl : laidOutB P = true) {W W' : World} (hb : Below W.heap.size W W') : ∀ {ts : List TypeId} {vs : List Value} {ds : List (DataW H)} {ps : List MemPlace},
    (∀ t ∈ ts, P.readableRec t = true ∧ t < P.types.size) → DataW.TrodAll enc P W 0 (fun _ => true) true ts vs ds ps → (∀ x ∈ ps, x.block < W.heap.size) → ∀ sp : Nat → Bool, (∀ p ∈ ps, sp p.block = true) →
    DataW.TrodAll enc P W' 0 sp true ts vs ds ps
  | [], _, _, _, _, h, _, _, _ => by
    obtain ⟨rfl, rfl, rfl⟩ := trodAll_nil h
    exact trodAll_mk0
  | t :: ts, vs, ds, ps, hts, h, hlt, sp, hsp => by
    obtain ⟨v, vs', d, ds', p, q, rfl, rfl, rfl, h0, r0⟩ := trodAll_cons h
    refine trodAll_cons_mk (WideElems.Trod_stays hl (hts t (by simp)).1 (hts t (by simp)).2 h0 (fun x hx => hb.same (hlt x (by simp [hx]))) (fun x hx => hsp x (by simp [hx]))) ?_
    exact trodAll_below hl hb (fun t ht => hts t (by simp [ht])) r0 (fun x hx => hlt x (by simp [hx])) sp (fun x hx => hsp x (by simp [hx]))
end
theorem laidOut : laidOutB Tryd.prog = true := by kernel_rfl
theorem own : ownKnob Tryd.prog.godebug = none := by kernel_rfl
open Go.RowKit Go.ChangeShapes Go.WideShapes Go.Deep
section
variable {H : Type} {enc : TypeId × Value → H} {P : Program} {w : World} {base : Nat} {spare : Nat → Bool} {held : Bool}
theorem add_plain (b o n : Nat) : (⟨b, o, none⟩ : Addr).add n = ⟨b, o + n, none⟩ := by unfold Addr.add; split <;> simp_all
theorem spot_none {a : Addr} {v : Value} (h : w.cell? a = some v) : a = ⟨a.block, a.off, none⟩ ∧ a.block < w.heap.size := by
  have hl := World.block_lt_of_cell? w a h
  refine ⟨?_, hl⟩
  obtain ⟨b, o, s⟩ := a
  unfold World.cell? at h
  cases s with
  | none => rfl
  | some s => split at h <;> simp at h
theorem len_map_range {α : Type} (f : Nat → α) (n : Nat) : ((List.range n).map f).length = n := by simp
end
open Go.RowKit Go.ChangeShapes Go.WideShapes Go.Deep
def Opens {α : Type} (P : Program) (E : Enc α) (Q : α → Prop) (t : TypeId) : Prop :=
  ∀ {H : Type} (enc : TypeId × Value → H) (w : World) (base : Nat) (spare : Nat → Bool) (held : Bool) (fuel : Nat) (cs : List Value) (x : DataW H × List MemPlace), DataW.trod enc P w base spare held fuel t cs = some x → ∃ a, E.cells w (· < w.heap.size) a cs ∧ Q a
instance : Inhabited GRule := ⟨⟨⟨#[]⟩, 0, 0⟩⟩
theorem opens_slice {α : Type} {P : Program} {E : Enc α} {Q : α → Prop} {t e : TypeId} [Inhabited α] (hE : Opens P E Q e) (ht : P.underlying t = some (.slice e)) (hC : P.cellsOf e = E.size) : Opens P (SliceE E) (fun xs => ∀ x ∈ xs, Q x) t := by
  intro H enc w base spare held fuel cs x h
  rcases open_slice ht h with ⟨h0, _⟩ | ⟨a, len, cap, m, n, D, Pl, hcs, hb, hl, hm, hmm, hx, hi⟩
  · exact ⟨[], ⟨_, h0, SlS.nil _ _⟩, fun x hx => by simp at hx⟩
  · have hmle : len ≤ m := by rw [hmm]; split <;> omega
    have Hh : ∀ i, i < len → ∃ r : α, ∃ cs', E.cells w (· < w.heap.size) r cs' ∧ (∀ j u, cs'[j]? = some u → w.cell? (a.add (i * E.size + j)) = some u) ∧ Q r := by
      intro i hil
      obtain ⟨cs', hc, ht'⟩ := hi i (by omega)
      obtain ⟨r, hr, hq⟩ := hE enc w base spare held n cs' _ ht'
      obtain ⟨_, hcl, hat⟩ := World.cells?_some hc
      refine ⟨r, cs', hr, fun j u hu => ?_, hq⟩
      have hj : j < cs'.length := (List.getElem?_eq_some_iff.1 hu).1
      rw [← Go.Deep.add_add, ← hC, hat j (by omega), hu]
    obtain ⟨F, hF⟩ := choose_lt Hh
    clear Hh
    refine ⟨(List.range len).map F, ⟨.slice (some a) len cap, hcs, some a, cap, by rw [len_map_range], by rw [len_map_range]; exact hl, hm, fun hn => ?_⟩, ?_⟩
    · rw [len_map_range] at hn
      obtain ⟨cs', h1, h2, _⟩ := hF 0 hn
      have hlen := E.len h1
      have hpos := E.pos
      have g0 := h2 0 cs'[0] (List.getElem?_eq_getElem (by omega))
      have ha : a.add (0 * E.size + 0) = a := by simp [Addr.add]
      rw [ha] at g0
      obtain ⟨hsp, hlt⟩ := spot_none g0
      refine ⟨a.block, a.off, by rw [← hsp], hlt, fun k r hr => ?_⟩
      have hk : k < len := by
        have := (List.getElem?_eq_some_iff.1 hr).1
        rw [len_map_range] at this; exact this
      have er : F k = r := by
        rw [List.getElem?_map, List.getElem?_range hk] at hr; simpa using hr
      obtain ⟨cs'', h3, h4, _⟩ := hF k hk
      rw [er] at h3
      refine ⟨cs'', h3, fun j u hu => ?_⟩
      have := h4 j u hu
      rw [hsp, add_plain] at this
      exact this
    · intro r hr
      rw [List.mem_map] at hr
      obtain ⟨k, hk, rfl⟩ := hr
      exact (hF k (by simpa using hk)).choose_spec.2.2
open Go.ChangeShapes Go.WideShapes Go.ChangeAt Go.RowKit Go.Joins Go.Deep
theorem opens_byte {P : Program} {t : TypeId} (ht : P.underlying t = some (.int .u8)) : Opens P ByteE (fun _ => True) t := by
  intro H enc w base spare held fuel cs x h
  obtain ⟨p, e1, _, e2⟩ := DataW.trod_int ht h
  have hp : 0 ≤ p ∧ p < 256 := by
    have h1 : IntKind.u8.min ≤ p ∧ p ≤ IntKind.u8.max := by simpa [Lit.wf] using e2
    have m1 : IntKind.u8.min = 0 := by decide
    have m2 : IntKind.u8.max = 255 := by decide
    rw [m1, m2] at h1
    omega
  refine ⟨UInt8.ofNat p.toNat, ?_, trivial⟩
  rw [e1]
  have : (UInt8.ofNat p.toNat).toNat = p.toNat := by rw [UInt8.toNat_ofNat']; omega
  show [Value.int .u8 p] = [.int .u8 ((UInt8.ofNat p.toNat).toNat : Int)]
  rw [this]
  congr 2
  omega
instance : Inhabited UInt8 := ⟨0⟩
set_option maxRecDepth 100000 in
theorem opensBytes : Opens Tryd.prog (SliceE ByteE) (fun xs => ∀ x ∈ xs, True) 22 := opens_slice (opens_byte Tryd.underlying5) Tryd.underlying22 (by kernel_rfl)
set_option maxRecDepth 100000 in
theorem open_bytes {H : Type} {enc : TypeId × Value → H} {w : World} {base : Nat} {spare : Nat → Bool} {held : Bool} {r : Reach} {b0 : Nat} {v : Value} {d : DataW H} {p : List MemPlace}
    (hv : Value.okWide Tryd.prog w r b0 22 v) (h : DataW.Trod enc Tryd.prog w base spare held 22 v d p) : ∃ xs, Sl ByteE w w.heap.size v xs := by
  obtain ⟨a, len, cap, rfl⟩ := okWide_slice Tryd.underlying22 hv
  obtain ⟨fuel, hf⟩ := h
  obtain ⟨xs, ⟨u, e1, hsl⟩, _⟩ := opensBytes enc w base spare held fuel [.slice a len cap] _ (by simpa [Value.cells] using hf)
  simp at e1
  subst e1
  exact ⟨xs, hsl⟩
theorem goes_none {P : Program} (h : P.funcs.any Func.goes = false) (f : FuncId) : P.goes f = false := by
  have h1 : ∀ g : Nat, (P.funcs[g]?).any Func.goes = false := by
    intro g
    cases hg : P.funcs[g]? with
    | none => rfl
    | some x =>
      obtain ⟨hi, rfl⟩ := Array.getElem?_eq_some_iff.1 hg
      have := Array.any_eq_false.1 h g hi
      simpa using this
  unfold Program.goes
  rw [h]
  simp only [h1]
  simp
theorem goes_by {c : OpenClaim} {P : Program} (h : P.funcs.any Func.goes = false) (hs : c.start = .entering) : false = c.goesBy P := by
  unfold OpenClaim.goesBy Program.goesAt Program.goesFrom
  rw [hs]
  cases P.funcNamed c.func with
  | none => rfl
  | some f => simp [goes_none h f]
theorem Tryd.no_go : Tryd.pinned.checked.prog.funcs.any Func.goes = false := by kernel_rfl
end Go.Proofs.YtfhiaifdigefdaaDoor
