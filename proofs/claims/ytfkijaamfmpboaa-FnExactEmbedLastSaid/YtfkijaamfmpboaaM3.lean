import Derived.Test.YtfkijaamfmpboaaM2
import Derived.Test.YtfkijaamfmpboaaM1
import Derived.Maps.Keyed
import Derived.DeepKeys4
import Derived.Deep.CutRange
import Derived.Deep.DeepCutAuto
import Derived.WalkArith
import Derived.Deep.OwnRows
import Derived.IntWalk
import Derived.Shelf.SlicesE.Reverse
import Derived.Lib.ConvBytes
import Derived.Lib.RowBridge
import Derived.Laws.IdiomCopy
import Derived.Lib.LazyBuf
import Derived.Shelf.Strings.BuilderK
import Derived.Shelf.Bits.Mul64
import Derived.Shelf.Strings.BuilderF
import Derived.Shelf.Strings.Builder2
import Derived.Lib.RepeatB
import Derived.Deep.LoopGhost
import Derived.Deep.DeepFit
import Derived.Deep.CutBlock
import Derived.Laws.EntriesVeiled
import Derived.Shelf.Strconv.Itoa0
import Derived.Shelf.Strconv.Itoa1
import Derived.Shelf.LaysM
import Derived.Shelf.Strconv.Itoa2
import Derived.Shelf.Strconv.Itoa3
import Derived.Shelf.Strconv.Itoa4
import Derived.Test.YtfkijaamfmpboaaProg
import Derived.Lib.LaidTab
import Derived.BigQuiet
import Derived.WalkSmall
import Derived.Lib.OthersKept
import Derived.Deep.RegionHeld3
namespace Go.Proofs.Ytfkijaamfmpboaa
open Go.RowKit
def Blk (w : World) (b : Nat) (a : Array Value) (t : TypeId) : Prop := w.heap[b]? = some (.cells a t (0, 0))
section
variable {w w' : World} {b N : Nat} {a : Array Value} {t : TypeId}
theorem Blk.lt (h : Blk w b a t) : b < w.heap.size := (Array.getElem?_eq_some_iff.1 h).1
theorem Blk.up (h : Blk w b a t) (hb : Below w.heap.size w w') : Blk w' b a t := (hb.block b h.lt).trans h
theorem Blk.upB (h : Blk w b a t) (hb : Below N w w') (hlt : b < N) : Blk w' b a t := (hb.block b hlt).trans h
theorem Blk.cell (h : Blk w b a t) {i : Nat} {v : Value} (hi : a[i]? = some v) : w.cell? ⟨b, i, none⟩ = some v := by
  rw [cell_of_row w b i a t (0, 0) h, hi]
theorem Blk.frozen (h : Blk w b a t) (i : Nat) : w.frozen? ⟨b, i, none⟩ = false := by
  simp [World.frozen?, show w.heap[b]? = _ from h]
theorem Blk.set (h : Blk w b a t) (i : Nat) (v : Value) : Blk (w.setCell ⟨b, i, none⟩ v) b (a.setIfInBounds i v) t := by
  obtain ⟨hlt, hk⟩ := Array.getElem?_eq_some_iff.1 h
  show (w.heap.modify b _)[b]? = _
  rw [Array.getElem?_eq_getElem (by rw [Array.size_modify]; exact hlt), Array.getElem_modify_self, hk]
  rfl
theorem Blk.other (h : Blk w b a t) {p : Addr} (hne : b ≠ p.block) (v : Value) : Blk (w.setCell p v) b a t := (Below.heap_setCell w p v b hne).trans h
theorem Blk.alloc (h : Blk w b a t) (o : Obj) : Blk (w.alloc o) b a t := (Below.heap_alloc w o b h.lt).trans h
theorem Blk.drew (h : Blk w b a t) : Blk w.drew b a t := h
theorem Blk.new (w : World) (a : Array Value) (t : TypeId) : Blk (w.alloc (.cells a t)) w.heap.size a t := heap_alloc_new w _
end
theorem Blk.but {w w' : World} {b c : Nat} {a : Array Value} {t : TypeId} (h : Blk w c a t) (hb : But b w w') (hne : c ≠ b) : Blk w' c a t := (hb.block c h.lt hne).trans h
theorem Below.up {w0 w w' : World} {N : Nat} (h : Below N w0 w) (hb : Below w.heap.size w w') (hN : N ≤ w0.heap.size) : Below N w0 w' := h.trans (hb.mono (Nat.le_trans hN h.size))
theorem Below.tr {w0 w w' : World} (h : Below w0.heap.size w0 w) (hb : Below w.heap.size w w') : Below w0.heap.size w0 w' := h.trans (hb.mono h.size)
section
variable {w w' : World} {b : Nat} {ks : List GRule} {r : GRule}
end
section
variable {w0 W : World} {base bm bx : Nat} {X : GRule} {ks K : List GRule} {v4 v6 : Value} {S : List Int}
end
section
variable {w w' : World} {b : Nat} {N : List Bool} {l : List Int}
end
section
variable {w wx w' : World} {b M M' P : Nat} {S st : Int} {vF : Value} {F : List Int} {vN : Value} {k : Nat} {vs : List Value} {N : List (List Int)}
end
section
variable {w wx w' : World} {F P n : Nat} {vN : Value} {k : Nat} {vs : List Value} {N : List (List Int)}
end
end Go.Proofs.Ytfkijaamfmpboaa
namespace Go.Proofs
open Go.Shelf
def Ytfkijaamfmpboaa.laysR_ren : Go.Shelf.Ren := ⟨fun | 35 => 81 | n => n, fun | 0 => 0 | 3 => 3 | 4 => 4 | 22 => 41 | 23 => 5 | n => n, fun | n => n⟩
theorem Ytfkijaamfmpboaa.laysR : SlLaysE.n35 Try.prog Ytfkijaamfmpboaa.laysR_ren := {
  mixed := by kernel_rfl
  f35 := ⟨"slices.Reverse[[]byte,byte]", by decide, Try.func81.trans (congrArg some (by kernel_rfl))⟩
  t0 := Try.underlying0
  a0 := Try.isAgg0
  z0 := Try.sizeOf0
  v0 := Try.zeroValue0
  t3 := Try.underlying3
  a3 := Try.isAgg3
  z3 := Try.sizeOf3
  v3 := Try.zeroValue3
  t4 := Try.underlying4
  a4 := Try.isAgg4
  z4 := Try.sizeOf4
  v4 := Try.zeroValue4
  t22 := Try.underlying41
  a22 := Try.isAgg41
  z22 := Try.sizeOf41
  v22 := Try.zeroValue41
  a23 := Try.isAgg5
  z23 := Try.sizeOf5 }
end Go.Proofs
namespace Go.Proofs.Ytfkijaamfmpboaa
open Go.RowKit
def encB (x : UInt8) : Value := .int .u8 (x.toNat : Int)
theorem reverse_bytes (b n c : Nat) (l : List UInt8) (w : World) (hn : n = l.length) (hl : l.length ≤ 1000000) (h : ∀ t (ht : t < l.length), w.cell? ⟨b, t, none⟩ = some (.int .u8 (l[t].toNat : Int)) ∧ w.frozen? ⟨b, t, none⟩ = false) :
    Calls Try.prog 81 #[.slice (some ⟨b, 0, none⟩) n c] w fun e w' => e = .returned (.tuple #[]) ∧ (∀ B, B ≤ b → Below B w w') ∧ ∀ t (ht : t < l.reverse.length), w'.cell? ⟨b, 0 + t, none⟩ = some (.int .u8 (l.reverse[t].toNat : Int)) := by
  subst hn
  have hH : Sort.Holds encB w b 0 l.toArray := by
    intro j hj
    have hj' : j < l.length := by simpa using hj
    have := h j hj'
    rw [Nat.zero_add]
    refine ⟨this.1.trans ?_, this.2⟩
    rw [getElem!_pos _ j hj]; simp [encB]
  refine (AnyE.slices_Reverse Ytfkijaamfmpboaa.laysR encB (fun _ => rfl) b 0 c l w hH (by omega)).mono ?_
  rintro e w' ⟨rfl, q, rfl⟩
  rw [Lib.putRow_eq_setCells _ w b 0 _ _ q hH (by simp)]
  refine ⟨rfl, fun B hB => ?_, fun t ht => ?_⟩
  · exact Go.below_setCells hB _ 0 _ ⟨rfl, rfl, rfl, Nat.le_refl _, fun _ _ => rfl⟩
  · have := World.cell?_setCells_in b (l.reverse.map encB) 0 (w.drewN q) (fun j hj => by
      have hj' : j < l.length := by simpa using hj
      rw [Nat.zero_add]
      show (w.cell? ⟨b, j, none⟩).isSome = true
      rw [(h j hj').1]; rfl) t (by simpa using ht)
    rw [this]; simp [encB]
set_option maxRecDepth 100000 in
set_option maxHeartbeats 2000000 in
theorem turned_any (s : ByteArray) (w : World) (hs : s.size ≤ 1000000) :
    Calls Try.prog 52 #[.string s] w fun e w' => e = .returned (.string ⟨s.data.toList.reverse.toArray⟩) ∧ Below w.heap.size w w' := by
  go_enter Try.func52, Try.ntmps52
  go_wp2_with fail
  rw [Lib.run_convert_string_bytes w _ _ 5 s Try.underlying9 Try.underlying41 Try.underlying5]
  simp only [Result.andThen]
  rw [Oper.upon_value]
  have hb1 : Below w.heap.size w (Lib.bytesWorld w 5 s) := ⟨rfl, rfl, rfl, by rw [Lib.bytesWorld_size]; omega, fun j hj => Lib.bytesWorld_at_old w 5 s j hj⟩
  have hc1 : ∀ t (ht : t < s.data.toList.length), (Lib.bytesWorld w 5 s).cell? ⟨w.heap.size, t, none⟩ = some (.int .u8 (s.data.toList[t].toNat : Int)) ∧ (Lib.bytesWorld w 5 s).frozen? ⟨w.heap.size, t, none⟩ = false := by
    intro t ht
    have ht' : t < s.size := by simpa using ht
    refine ⟨?_, ?_⟩
    · rw [Lib.bytesWorld_cell w _ s t ht', List.getD_eq_getElem?_getD, List.getElem?_eq_getElem ht]; rfl
    · have hz : t < (Lib.bytesCells w 5 s).size := by simp [Lib.bytesCells]; omega
      simp [World.frozen?, Lib.bytesWorld_at_new]
      omega
  have Rev := Lib.hid (reverse_bytes w.heap.size s.size (grownCap w s.size 0 5) s.data.toList (Lib.bytesWorld w 5 s) (by simp) (by simp; omega) hc1)
  have HB1 := Lib.hid hb1
  clear hb1 hc1
  revert Rev HB1
  generalize Lib.bytesWorld w 5 s = w1
  generalize grownCap w s.size 0 5 = cp
  intro Rev HB1
  go_wp2_with fail
  refine Rev.out.mono ?_
  rintro e w2 ⟨rfl, hb2, hc2⟩
  have hcv := convB s.data.toList.reverse w.heap.size 0 s.size cp w2 (by simp) hc2
  have B2 := Lib.hid (HB1.out.trans (hb2 _ (Nat.le_refl _)))
  clear hb2 hc2
  go_wp2_with fail
  go_ret
  exact ⟨rfl, B2.out⟩
section
variable {α : Type} {E : Enc α} {w w1 w2 : World} {o : Obj} {v : Value} {xs : List α}
end
end Go.Proofs.Ytfkijaamfmpboaa
namespace Go.Proofs
open Go.Shelf
def Ytfkijaamfmpboaa.lays169_ren : Go.Shelf.Ren := ⟨fun | 169 => 96 | n => n, fun | 70 => 135 | 9 => 9 | 0 => 0 | 72 => 137 | 37 => 41 | 127 => 157 | 3 => 3 | 5 => 5 | n => n, fun | n => n⟩
theorem Ytfkijaamfmpboaa.lays169 : Go.Proofs.Lays.n169 Try.prog Ytfkijaamfmpboaa.lays169_ren := {
  mixed := by kernel_rfl
  f169 := Try.func96.trans (congrArg some (by kernel_rfl))
  t0 := Try.underlying0
  a0 := Try.isAgg0
  z0 := Try.sizeOf0
  v0 := Try.zeroValue0
  t3 := Try.underlying3
  a3 := Try.isAgg3
  z3 := Try.sizeOf3
  v3 := Try.zeroValue3
  t9 := Try.underlying9
  a9 := Try.isAgg9
  z9 := Try.sizeOf9
  v9 := Try.zeroValue9
  t37 := Try.underlying41
  a37 := Try.isAgg41
  z37 := Try.sizeOf41
  v37 := Try.zeroValue41
  t70 := Try.underlying135
  a70 := Try.isAgg135
  z70 := Try.sizeOf135
  v70 := Try.zeroValue135
  t72 := Try.underlying137
  a72 := Try.isAgg137
  z72 := Try.sizeOf137
  v72 := Try.zeroValue137
  t127 := Try.underlying157
  a127 := Try.isAgg157
  z127 := Try.sizeOf157
  v127 := Try.zeroValue157 }
theorem Ytfkijaamfmpboaa.Builder_Extra_169 : Builder.Extra Try.prog Ytfkijaamfmpboaa.lays169_ren := {
  sizeBuilder := by kernel_rfl
  liesBuilder := by kernel_rfl
  t5 := Try.underlying5
  a5 := Try.isAgg5
  z5 := Try.sizeOf5
  v5 := Try.zeroValue5
  infoByte := by kernel_rfl
  cellsByte := by kernel_rfl
  sizeByte := by kernel_rfl
  neB5 := by decide }
end Go.Proofs
namespace Go.Proofs.Ytfkijaamfmpboaa
open Go.RowKit
def BuiltB (B b : Nat) (l : List UInt8) (w : World) : Prop := Lib.IsBuilder 137 5 B b (Lib.byteCells l) w
theorem BuiltB.string {B b : Nat} {l : List UInt8} {w : World} (h : BuiltB B b l w) (hBw : B ≤ w.heap.size) :
    Calls Try.prog 96 #[.pointer (some ⟨b, 0, none⟩)] w fun e w' => e = .returned (.string ⟨l.toArray⟩) ∧ Below B w w' := Any.Builder_String_any Ytfkijaamfmpboaa.lays169 Ytfkijaamfmpboaa.Builder_Extra_169 B b l w h hBw
end Go.Proofs.Ytfkijaamfmpboaa
namespace Go.Proofs
open Go.Shelf
end Go.Proofs
namespace Go.Proofs.Ytfkijaamfmpboaa
open Go.RowKit
structure BJ (xs : List GRule) (vR : Value) (bg bs b B : Nat) (C : Nat → Prop) (s : List UInt8) (w : World) : Prop where
  bld : BuiltB B b s w
  hB : B ≤ w.heap.size
  nb : ¬ C b
  no : ∀ k, C k → B ≤ k → ∀ c fz, w.heap[k]? ≠ some (.cells c 5 fz)
  mg : C bg
  ms : C bs
  cg : w.cell? ⟨bg, 0, none⟩ = some vR
  cs : w.cell? ⟨bs, 0, none⟩ = some (.func (.func 93) #[] #[.pointer (some ⟨bg, 0, none⟩), .pointer (some ⟨bs, 0, none⟩), .pointer (some ⟨b, 0, none⟩)])
  sl : SlS RuleE w C vR xs
theorem BuiltB.lt {B b : Nat} {l : List UInt8} {w : World} (h : BuiltB B b l w) : b < w.heap.size := by
  rcases h with h | h
  · exact h.lt
  · exact h.lt
theorem built_keep {B b : Nat} {l : List UInt8} {w w' : World} (h : BuiltB B b l w) (hb : Below w.heap.size w w') : BuiltB B b l w' := by
  rcases h with ⟨h1, v, h2, h3, h4⟩ | ⟨h1, v, h2, h3, h4⟩
  · exact .inl ⟨h1, v, (hb.block b (Array.getElem?_eq_some_iff.1 h2).1).trans h2, ownsRow_below h3 hb, h4⟩
  · exact .inr ⟨h1, v, (hb.block b (Array.getElem?_eq_some_iff.1 h2).1).trans h2, ownsRow_below h3 hb, h4⟩
section
variable {xs : List GRule} {vR : Value} {bg bs b B : Nat}
theorem BJ.ext : ∀ (C : Nat → Prop) (s : List UInt8) (w w' : World), BJ xs vR bg bs b B C s w → Below w.heap.size w w' → NewNoB w.heap.size w' → (∀ k, C k → k < w.heap.size) → BJ xs vR bg bs b B (ext C w.heap.size w'.heap.size) s w' := by
  intro C s w w' h hb hn hC
  refine ⟨built_keep h.bld hb, Nat.le_trans h.hB hb.size, ?_, ?_, .inl h.mg, .inl h.ms, (hb.cell (p := ⟨bg, 0, none⟩) (hC _ h.mg)).trans h.cg, (hb.cell (p := ⟨bs, 0, none⟩) (hC _ h.ms)).trans h.cs, (h.sl.keep fun k hk => hb.block k (hC k hk)).more fun k hk => .inl hk⟩
  · rintro (h1 | h1)
    · exact h.nb h1
    · have := h.bld.lt; omega
  · rintro k (h1 | h1) hk c fz
    · rw [hb.block k (hC k h1)]; exact h.no k h1 hk c fz
    · exact hn k h1.1 c fz
end
end Go.Proofs.Ytfkijaamfmpboaa
namespace Go.Proofs
open Go.Shelf Go.RowKit
end Go.Proofs
namespace Go.Proofs.Ytfkijaamfmpboaa
open Go.RowKit
section
variable {w w' : World} {b M : Nat} {l : List Nat}
end
section
variable {w w' : World} {N0 B : Nat} {R : Nat → Nat} {n S : Nat} {M : List (List Nat)}
end
section
variable {w1 wx w' : World} {n S bo B bO : Nat} {R : Nat → Nat} {st : List (List Nat) × List Nat}
end
def behind (a m : Int) : Int := if m < 0 then -1 else a + m
theorem Row.take {α : Type} {E : Enc α} {w : World} {S : Nat → Prop} {A : Option Addr} {xs : List α} (h : Row E w S A xs) (m : Nat) : Row E w S A (xs.take m) := fun hn => by
  obtain ⟨b, o, rfl, hlt, hc⟩ := h (by simp at hn; omega)
  refine ⟨b, o, rfl, hlt, fun k x hx => hc k x ?_⟩
  rw [List.getElem?_take] at hx
  split at hx
  · exact hx
  · cases hx
section
variable {w wx w' : World} {b M M' B : Nat} {v : Value} {xs : List GRule}
end
theorem four {wx : World} {R : Nat} {a0 a1 a2 a3 : Value} {t : TypeId} (h : Blk wx R #[a0, a1, a2, a3] t) (v0 v1 v2 v3 : Value) :
    let W := (((wx.setCell ⟨R, 0, none⟩ v0).setCell ⟨R, 1, none⟩ v1).setCell ⟨R, 2, none⟩ v2).setCell ⟨R, 3, none⟩ v3
    Blk W R #[v0, v1, v2, v3] t ∧ (∀ k, k ≠ R → W.heap[k]? = wx.heap[k]?) ∧ Below R wx W := by
  intro W
  exact ⟨(((h.set 0 v0).set 1 v1).set 2 v2).set 3 v3,
    fun k hk => (Below.heap_setCell _ ⟨R, 3, none⟩ v3 k hk).trans ((Below.heap_setCell _ ⟨R, 2, none⟩ v2 k hk).trans ((Below.heap_setCell _ ⟨R, 1, none⟩ v1 k hk).trans (Below.heap_setCell _ ⟨R, 0, none⟩ v0 k hk))),
    ((((Below.refl _ wx).setCell (p := ⟨R, 0, none⟩) (Nat.le_refl _) v0).setCell (p := ⟨R, 1, none⟩) (Nat.le_refl _) v1).setCell (p := ⟨R, 2, none⟩) (Nat.le_refl _) v2).setCell (p := ⟨R, 3, none⟩) (Nat.le_refl _) v3⟩
section
variable {w w' : World} {b : Nat} {l : List Int}
end
theorem tab_cell {w : World} {S : Nat → Prop} {A : Option Addr} {l : List (List Int)} {n c : Nat} (h : SlS (SliceE IntE) w S (.slice A n c) l) (hl : 0 < l.length) :
    ∃ b o, A = some ⟨b, o, none⟩ ∧ S b ∧ ∀ (t d m : Nat) (x : Int), t < l.length → (l.getD t []).length = m → d < m → (l.getD t []).getD d 0 = x → ∃ b' o' c', w.cell? ⟨b, o + t, none⟩ = some (.slice (some ⟨b', o', none⟩) m c') ∧ S b' ∧ w.cell? ⟨b', o' + d, none⟩ = some (.int .i64 x) := by
  obtain ⟨A2, c2, hv, _, _, hr⟩ := h
  obtain ⟨b, o, e, hb, hc⟩ := cells2 hr hl
  have ea : A = A2 := by injection hv
  subst ea
  refine ⟨b, o, e, hb, fun t d m x ht hm hd hx => ?_⟩
  obtain ⟨b', o', c', h1, h2, h3⟩ := hc t d ht (by omega)
  rw [hm] at h1
  rw [hx] at h3
  exact ⟨b', o', c', h1, h2, h3⟩
theorem row_cell {w : World} {S : Nat → Prop} {A : Option Addr} {l : List Int} {n c : Nat} (h : SlS IntE w S (.slice A n c) l) (hl : 0 < l.length) :
    ∃ b o, A = some ⟨b, o, none⟩ ∧ S b ∧ ∀ (d : Nat) (x : Int), d < l.length → l.getD d 0 = x → w.cell? ⟨b, o + d, none⟩ = some (.int .i64 x) := by
  obtain ⟨A2, c2, hv, _, _, hr⟩ := h
  obtain ⟨b, o, e, hb, hc⟩ := hr.int (k := 0) hl
  have ea : A = A2 := by injection hv
  subst ea
  refine ⟨b, o, e, hb, fun d x hd hx => ?_⟩
  have := hc d hd
  rw [hx] at this
  exact this
theorem rule_cell {w : World} {S : Nat → Prop} {A : Option Addr} {l : List GRule} {n c : Nat} (h : SlS RuleE w S (.slice A n c) l) {k : Nat} (hk : k < l.length) :
    ∃ b o, A = some ⟨b, o, none⟩ ∧ S b ∧ w.cell? ⟨b, o + k * 3, none⟩ = some (.string (getR l k).letter) ∧ w.cell? ⟨b, o + k * 3 + 1, none⟩ = some (.int .i64 (getR l k).left) ∧ w.cell? ⟨b, o + k * 3 + 2, none⟩ = some (.int .i64 (getR l k).right) := by
  obtain ⟨A2, c2, hv, _, _, hr⟩ := h
  obtain ⟨b, o, e, hb, hc⟩ := hr.rule (k := k) hk
  have ea : A = A2 := by injection hv
  subst ea
  obtain ⟨h0, h1, h2⟩ := hc k _ (getR_at hk)
  exact ⟨b, o, e, hb, h0, h1, h2⟩
def mixC (R : List Int) (l : Nat) : List Int := R.take l ++ List.replicate (4 - l) 0
theorem mixC_len {R : List Int} (h : R.length = 4) {l : Nat} (hl : l ≤ 4) : (mixC R l).length = 4 := by unfold mixC; simp; omega
theorem mixC_all {R : List Int} (h : R.length = 4) : mixC R 4 = R := by
  unfold mixC; rw [List.take_of_length_le (by omega)]; simp
theorem mixC_set {R : List Int} (h : R.length = 4) {l : Nat} (hl : l < 4) {x : Int} (hx : R.getD l 0 = x) : (mixC R l).set l x = mixC R (l + 1) := by
  subst hx
  match R, h with
  | [a, b, c, d], _ =>
    match l, hl with
    | 0, _ => rfl
    | 1, _ => rfl
    | 2, _ => rfl
    | 3, _ => rfl
theorem mixC_zero {R : List Int} (h : R.length = 4) {l : Nat} (hl : l < 4) (hx : R.getD l 0 = 0) : mixC R l = mixC R (l + 1) := by
  match R, h with
  | [a, b, c, d], _ =>
    match l, hl with
    | 0, _ => simp [List.getD] at hx; subst hx; rfl
    | 1, _ => simp [List.getD] at hx; subst hx; rfl
    | 2, _ => simp [List.getD] at hx; subst hx; rfl
    | 3, _ => simp [List.getD] at hx; subst hx; rfl
theorem OwnInts.stored {w : World} {base g n c : Nat} {L : List Int} (h : OwnInts w base (.slice (some ⟨g, 0, none⟩) n c) L) (hn : L.length = n) (j : Nat) (x : Int) :
    OwnInts (w.setCell ⟨g, j, none⟩ (.int .i64 x)) base (.slice (some ⟨g, 0, none⟩) n c) (L.set j x) := by
  subst hn
  have h1 := (World.ownsRow.stored h j (.int .i64 x)).1
  unfold OwnInts
  rw [List.length_set, List.map_set]
  exact h1
set_option maxRecDepth 100000 in
set_option maxHeartbeats 8000000 in
theorem l05Counts_any (vR : Value) (bg : Nat) (xs : List GRule) (ls : List Int) (w : World) (hR : Sl RuleE w w.heap.size vR xs) (hl : lens xs = some ls) (hn : xs.length ≤ 1099511627776) (hp : w.cell? ⟨bg, 0, none⟩ = some vR) (hbg : bg < w.heap.size) :
    Calls Try.prog 45 #[.pointer (some ⟨bg, 0, none⟩)] w (MapsPost w (cntsL xs xs.length)) := by
  obtain ⟨AR, cR, rfl, _, _, hrowR⟩ := hR
  have Hl := Lib.hid hl
  have HR := Lib.hid hrowR
  have Hp := Lib.hid hp
  have hmk : ∀ W : World, (Instr.makeSlice 34 (.int .i64 4) (.int .i64 4)).run Try.prog W = .ok (.slice (some ⟨W.heap.size, 0, none⟩) 4 4) (W.alloc (.cells (madeCells #[.int .i64 0] 4) 2)) :=
    fun W => run_make_row' _ _ _ 8 Try.underlying34 Try.infoI rfl .i64 .i64 4 (by omega) (by omega) W
  have hmk4 : madeCells #[Value.int .i64 0] 4 = #[.int .i64 0, .int .i64 0, .int .i64 0, .int .i64 0] := Array.toList_inj.1 (by rw [toList_madeCells_one]; rfl)
  rw [hmk4] at hmk
  clear hl hrowR hp hmk4
  go_enter Try.func45, Try.ntmps45
  go_wp2_with fail
  go_loopw [3, 4] (fun out i wr => ∃ (k : Nat) (vs : List Value), k ≤ xs.length ∧ i = .int .i64 k ∧ Below w.heap.size w wr ∧ wr.ownsRow (w.heap.size) 34 1 out k vs ∧
    Each IntE wr (fun b => w.heap.size ≤ b ∧ b < wr.heap.size ∧ some b ≠ out.ownBlock) vs (cntsL xs k)) (fun _ i _ => xs.length - (intOf i).toNat)
  case atStart => exact ⟨0, [], Nat.zero_le _, rfl, (Below.refl _ _).alloc (Nat.le_refl _) _, ownSl_empty rfl (Nat.le_refl _), Each.nil⟩
  case round =>
    obtain ⟨k, vs, hk, rfl, hb, hown, hea⟩ := hrel
    obtain ⟨wo, rfl⟩ : ∃ wo : World, wo = wr := ⟨_, rfl⟩
    have hsz : w.heap.size ≤ wo.heap.size := hb.size
    have hpg := (hb.cell (p := ⟨bg, 0, none⟩) hbg).trans Hp.out
    have hbg2 : bg < wo.heap.size := by omega
    have HB := Lib.hid hb
    have Hown := Lib.hid hown
    have Hea := Lib.hid hea
    clear hb hown hea
    by_cases hlt : k < xs.length
    · obtain ⟨b2, o2, rfl, hb2, hcellR⟩ := HR.out.rule (k := k) hlt
      have hrk := getR_at hlt
      obtain ⟨k0, k1, k2⟩ := hcellR k _ hrk
      have hc0 := (HB.out.cell (p := ⟨b2, o2 + k * 3, none⟩) hb2).trans k0
      have hc1 := (HB.out.cell (p := ⟨b2, o2 + k * 3 + 1, none⟩) hb2).trans k1
      have hc2 := (HB.out.cell (p := ⟨b2, o2 + k * 3 + 2, none⟩) hb2).trans k2
      have hki : (k : Int) < (xs.length : Int) := by omega
      have hsl : SlS (SliceE IntE) wo (fun b => b < wo.heap.size) u3 (cntsL xs k) :=
        (Hea.out.more (S' := fun b => b < wo.heap.size) fun b h => h.2.1).sl (by rw [cntsL_len]; exact Hown.out) fun g hg => (World.ownsRow.lt Hown.out g hg).2
      have Hsl := Lib.hid hsl
      obtain ⟨Ao, co, hvo, _⟩ := hsl
      rw [cntsL_len] at hvo
      subst hvo
      have Hpair := Lib.hid (fun hp => lens_pair Hl.out hlt hp)
      have Hcp := Lib.hid (fun hp c => cnt_pair Hl.out hlt hp c)
      have Hlet := Lib.hid (fun hp => let_one Hl.out hlt hp)
      have hcle := fun (c : UInt8) => cnt_le Hl.out hlt c
      have Hcle := Lib.hid hcle
      clear hrk k0 k1 k2 hcellR hcle
      obtain ⟨R, hR⟩ : ∃ R, getR xs k = R := ⟨_, rfl⟩
      rw [hR] at hc0 hc1 hc2 Hpair Hlet Hcp
      clear hR
      have Hsn : Hid (cntsL xs (k + 1) = cntsL xs k ++ [cntR xs k]) := cntsL_succ _ _
      obtain ⟨rs, rl, rr⟩ := R
      simp only at hc0 hc1 hc2
      go_upto_region 7 with fail
      have kB := ((Below.refl wo.heap.size wo).alloc (Nat.le_refl _) (Obj.cells #[.string rs, .int .i64 rl, .int .i64 rr] 111)).alloc (by simp) (Obj.cells #[.int .i64 0, .int .i64 0, .int .i64 0, .int .i64 0] 2)
      have kX := (Blk.new wo #[.string rs, .int .i64 rl, .int .i64 rr] 111).alloc (Obj.cells #[.int .i64 0, .int .i64 0, .int .i64 0, .int .i64 0] 2)
      have kL : OwnInts ((wo.alloc (Obj.cells #[.string rs, .int .i64 rl, .int .i64 rr] 111)).alloc (Obj.cells #[.int .i64 0, .int .i64 0, .int .i64 0, .int .i64 0] 2)) (wo.heap.size + 1) (.slice (some ⟨wo.heap.size + 1, 0, none⟩) 4 4) (mixC (cntR xs k) 0) := by
        have := World.ownsRow_lit (base := wo.heap.size + 1) (e := 2) (size := 1) (wo.alloc (Obj.cells #[.string rs, .int .i64 rl, .int .i64 rr] 111)) #[.int .i64 0, .int .i64 0, .int .i64 0, .int .i64 0] 4 (by simp) (by decide) rfl
        rw [show mixC (cntR xs k) 0 = [0, 0, 0, 0] from rfl]
        unfold OwnInts
        simpa using this
      have kz : ((wo.alloc (Obj.cells #[.string rs, .int .i64 rl, .int .i64 rr] 111)).alloc (Obj.cells #[.int .i64 0, .int .i64 0, .int .i64 0, .int .i64 0] 2)).heap.size = wo.heap.size + 2 := by simp
      generalize ((wo.alloc (Obj.cells #[.string rs, .int .i64 rl, .int .i64 rr] 111)).alloc (Obj.cells #[.int .i64 0, .int .i64 0, .int .i64 0, .int .i64 0] 2)) = w2 at *
      have KX := Lib.hid kX
      have KB := Lib.hid kB
      have KL := Lib.hid kL
      have kz2 : wo.heap.size + 1 < w2.heap.size := by omega
      clear kB kX kL kz hc0 hc1 hc2
      go_wp2_with fail
      go_loopw [7] (fun i wi => ∃ j : Nat, j ≤ 4 ∧ i = .int .i64 j ∧ Below (wo.heap.size + 1) w2 wi ∧ OwnInts wi (wo.heap.size + 1) (.slice (some ⟨wo.heap.size + 1, 0, none⟩) 4 4) (mixC (cntR xs k) j)) (fun i _ => 4 - (intOf i).toNat)
      case atStart => exact ⟨0, Nat.zero_le _, rfl, Below.refl _ _, KL.out⟩
      case round =>
        obtain ⟨j, hj, rfl, hbi, howni⟩ := hrel
        have Hbi := Lib.hid hbi
        have zi := hbi.size
        have Howni := Lib.hid howni
        have KXi := Lib.hid (KX.out.upB hbi (by omega))
        have d0 := Blk.cell (i := 0) (v := .string rs) KXi.out rfl
        have d1 := Blk.cell (i := 1) (v := .int .i64 rl) KXi.out rfl
        have d2 := Blk.cell (i := 2) (v := .int .i64 rr) KXi.out rfl
        have lX := Blk.lt KXi.out
        have hlR : (mixC (cntR xs k) j).length = 4 := mixC_len rfl hj
        have HlR := Lib.hid hlR
        clear hbi howni hlR
        by_cases hjl : j < 4
        · have i3 : (j : Int) < 4 := by omega
          have fz : wr.frozen? ⟨wo.heap.size + 1, j, none⟩ = false := by
            have := World.ownsRow.frozenAt (by have h := Howni.out; unfold OwnInts at h; rw [HlR.out] at h; exact h) j
            exact this
          have ce : ∃ u, wr.cell? ⟨wo.heap.size + 1, j, none⟩ = some u := by
            have h := Howni.out
            unfold OwnInts at h
            rw [HlR.out] at h
            have h2 := World.ownsRow.cellAt h j (by omega)
            rw [List.getElem?_eq_getElem (by simp; rw [HlR.out]; exact hjl)] at h2
            exact ⟨_, h2⟩
          obtain ⟨u0, ce⟩ := ce
          have lL : wo.heap.size + 1 < wr.heap.size := by omega
          have hset := Lib.hid (fun x hx => mixC_set (R := cntR xs k) rfl hjl (x := x) hx)
          have hzer := Lib.hid (fun hx => mixC_zero (R := cntR xs k) rfl hjl hx)
          have hget := Lib.hid (cntR_get xs k hjl)
          by_cases hp : (⟨rs, rl, rr⟩ : GRule).pair = true
          · obtain ⟨p1, p2, p3, p4, p5⟩ := Hpair.out hp
            have hemp : rs.toList.isEmpty = true := by rw [isEmpty_size]; exact hp
            have hval := Hcp.out hp (ltr j)
            have hle := Hcle.out (ltr j)
            obtain ⟨l, hl⟩ := Int.eq_ofNat_of_zero_le p1
            obtain ⟨q, hq⟩ := Int.eq_ofNat_of_zero_le p3
            (try simp only at hl hq p2 p4 hval)
            rw [hl, Int.toNat_natCast] at p2
            rw [hq, Int.toNat_natCast] at p4
            rw [hl, hq, Int.toNat_natCast, Int.toNat_natCast] at hval
            rw [hl] at d1
            rw [hq] at d2
            obtain ⟨b, o, hA, hbb, hcells⟩ := tab_cell (Hsl.out.keep (Keep.of_below (KB.out.trans (Hbi.out.mono (by omega))))) (by rw [cntsL_len]; omega)
            obtain ⟨b1, o1, c1, e1, e2, e3⟩ := hcells l j 4 _ (by rw [cntsL_len]; omega) (by rw [cntsL_get _ p2, cntR_len]) hjl (by rw [cntsL_get _ p2, cntR_get _ _ hjl])
            obtain ⟨b3, o3, c3, f1, f2, f3⟩ := hcells q j 4 _ (by rw [cntsL_len]; omega) (by rw [cntsL_get _ p4, cntR_len]) hjl (by rw [cntsL_get _ p4, cntR_get _ _ hjl])
            subst hA
            have i1 : (l : Int) < (k : Int) := by omega
            have i2 : (q : Int) < (k : Int) := by omega
            obtain ⟨x, hx⟩ : ∃ x, cntW (ltr j) (W1 xs l) = x := ⟨_, rfl⟩
            obtain ⟨y, hy⟩ : ∃ y, cntW (ltr j) (W1 xs q) = y := ⟨_, rfl⟩
            rw [hx] at e3 hval
            rw [hy] at f3 hval
            have hwr : IntKind.i64.wrap ((x : Int) + (y : Int)) = (x : Int) + (y : Int) := IntWalk.i64_in _ (by omega)
            have hv2 : (cntR xs k).getD j 0 = (x : Int) + (y : Int) := by rw [hget.out]; omega
            have Hv2 := Lib.hid (hset.out _ hv2)
            have e2' : b1 < wo.heap.size := e2
            have f2' : b3 < wo.heap.size := f2
            have hbb' : b < wo.heap.size := hbb
            clear hcells hval hle hx hy hl hq hv2
            go_wp2_with fail
            -- @V p
            go_region
            go_wp2_with fail
            go_roundw
            case rel => exact ⟨j + 1, by omega, by go_num, (by repeat (first | exact Hbi.out | (refine Below.alloc ?_ (by first | omega | (simp; done) | (simp; omega)) _) | (refine Below.setCell ?_ (by first | exact Nat.le_refl _ | (show _ ≤ _; omega) | (simp; done) | (simp; omega)) _) | refine below_drewN ?_ _ | refine Below.drew ?_)), by rw [← Hv2.out]; exact OwnInts.stored (by first | exact Howni.out | exact Howni.out.drew | exact Howni.out.drewN _) HlR.out j _⟩
            case measure => simp [intOf]; omega
          · -- @V l
            have hp' : (⟨rs, rl, rr⟩ : GRule).pair = false := by simpa using hp
            have hemp : rs.toList.isEmpty = false := by rw [isEmpty_size]; simpa [GRule.pair] using hp'
            obtain ⟨m, hm4, hrs, hW⟩ := Hlet.out hp'
            (try simp only at hrs)
            have hs1 : rs.size = 1 := by rw [hrs]; rfl
            have hs0 : 0 < rs.size := by omega
            have hd : rs[0].toNat = 97 + m := by
              have : rs[0] = ltr m := by subst hrs; rfl
              rw [this, ltr_nat hm4]
            have hv2 : (cntR xs k).getD j 0 = if m = j then 1 else 0 := by rw [hget.out, hW, cnt_let hm4 hjl]; split <;> rfl
            have his : (0 : Int) < (rs.size : Int) := by omega
            have hlet : ∀ W, Calls Try.prog 46 #[.int .u8 rs[0].toNat] W fun e w' => e = .returned (.int .i64 (m : Int)) ∧ W = w' := fun W => by
              have := l04Letter_any rs[0] W (by omega) (by omega)
              rwa [show rs[0].toNat - 97 = m by omega] at this
            have HlE := Lib.hid hlet
            clear hrs hs1 hd hlet hp hp' hW
            by_cases hmj : m = j
            · rw [if_pos hmj] at hv2
              have Hv2 := Lib.hid (hset.out _ hv2)
              have hb2 : ((j : Int) == (m : Int)) = true := by simp; omega
              clear hmj hv2
              go_wp2_with fail
              refine (HlE.out _).mono ?_
              rintro e w9 ⟨rfl, rfl⟩
              go_wp2_with fail
              go_roundw
              case rel => exact ⟨j + 1, by omega, by go_num, (by repeat (first | exact Hbi.out | (refine Below.alloc ?_ (by first | omega | (simp; done) | (simp; omega)) _) | (refine Below.setCell ?_ (by first | exact Nat.le_refl _ | (show _ ≤ _; omega) | (simp; done) | (simp; omega)) _) | refine below_drewN ?_ _ | refine Below.drew ?_)), by rw [← Hv2.out]; exact OwnInts.stored (by first | exact Howni.out | exact Howni.out.drew | exact Howni.out.drewN _) HlR.out j _⟩
              case measure => simp [intOf]; omega
            · rw [if_neg hmj] at hv2
              have Hv2 := Lib.hid (hzer.out hv2)
              have hb2 : ((j : Int) == (m : Int)) = false := by simp; omega
              clear hmj hv2
              go_wp2_with fail
              refine (HlE.out _).mono ?_
              rintro e w9 ⟨rfl, rfl⟩
              go_wp2_with fail
              go_roundw
              case rel => exact ⟨j + 1, by omega, by go_num, (by repeat (first | exact Hbi.out | (refine Below.alloc ?_ (by first | omega | (simp; done) | (simp; omega)) _) | (refine Below.setCell ?_ (by first | exact Nat.le_refl _ | (show _ ≤ _; omega) | (simp; done) | (simp; omega)) _) | refine below_drewN ?_ _ | refine Below.drew ?_)), by rw [← Hv2.out]; exact Howni.out⟩
              case measure => simp [intOf]; omega
        · -- @V f
          have hjn : j = 4 := by omega
          subst hjn
          have hown4 := Howni.out
          rw [mixC_all rfl] at hown4
          have Hown4 := Lib.hid hown4
          have hB2 : Below wo.heap.size wo wr := KB.out.trans (Hbi.out.mono (by omega))
          have HB2 := Lib.hid hB2
          have Hown3 := Lib.hid (ownsRow_below Hown.out hB2)
          have hzz : w.heap.size ≤ wr.heap.size := by omega
          have hk9 : k ≤ 1099511627776 := by omega
          clear hB2 hown4
          go_wp2_with (at_builtin; go_must (refine push_sl (W := wr) (N := wr.heap.size) (base := w.heap.size) rfl _ _ rfl rfl rfl rfl rfl (by exact Hown3.out) hk9 hzz ?_); intro v' w3 hown2 hgrow hblk)
          have Hea2 := Lib.hid (maps_push (B := wo.heap.size + 1) (row := cntR xs k) hsz (by omega) Hown.out Hea.out HB2.out Hown4.out hgrow hblk)
          have Hown2 := Lib.hid hown2
          have B2 := Lib.hid (HB.out.trans (((HB2.out.mono hsz).alloc hzz _).grown hgrow (by simp; omega) (fun g hg => (World.ownsRow.lt Hown.out g hg).1)))
          clear hown2 hgrow hblk
          go_roundw
          case rel => exact ⟨k + 1, _, by omega, by go_num, B2.out, Hown2.out, by rw [Hsn.out]; exact Hea2.out⟩
          case measure => simp [intOf]; omega
    · -- @V g
      have hkn : k = xs.length := by omega
      subst hkn
      have Hsl : Hid (SlS (SliceE IntE) wo (fun b => w.heap.size ≤ b ∧ b < wo.heap.size) u3 (cntsL xs xs.length)) :=
        (Hea.out.more (S' := fun b => w.heap.size ≤ b ∧ b < wo.heap.size) fun b h => ⟨by have := h.1; omega, h.2.1⟩).sl (by rw [cntsL_len]; exact Hown.out) fun g hg => by have := World.ownsRow.lt Hown.out g hg; omega
      go_wp2_with fail
      go_ret
      exact ⟨_, rfl, Hsl.out, HB.out⟩
def arC (x : List Int) : List Value := x.map (Value.int .i64)
def OwnA (w : World) (base : Nat) (v : Value) (l : List (List Int)) : Prop := (∀ x ∈ l, x.length = 4) ∧ w.ownsRow base 128 4 v l.length (l.flatMap arC)
theorem arC_at {l : List (List Int)} (h4 : ∀ x ∈ l, x.length = 4) {k : Nat} {x : List Int} (h : l[k]? = some x) {j : Nat} (hj : j < 4) : (l.flatMap arC)[k * 4 + j]? = some (.int .i64 (x.getD j 0)) := by
  induction l generalizing k with
  | nil => simp at h
  | cons y ys ih =>
    have hy : (arC y).length = 4 := by unfold arC; rw [List.length_map]; exact h4 y (by simp)
    rw [List.flatMap_cons]
    cases k with
    | zero =>
      simp at h; subst h
      rw [List.getElem?_append_left (by omega), Nat.zero_mul, Nat.zero_add]
      unfold arC at hy ⊢
      rw [List.length_map] at hy
      rw [List.getElem?_map, List.getD_eq_getElem?_getD, List.getElem?_eq_getElem (by omega)]; rfl
    | succ k =>
      have h2 : ys[k]? = some x := by simpa using h
      rw [List.getElem?_append_right (by omega), hy, show (k + 1) * 4 + j - 4 = k * 4 + j by omega]
      exact ih (fun z hz => h4 z (by simp [hz])) h2
theorem OwnA.cells {w : World} {base : Nat} {v : Value} {l : List (List Int)} (h : OwnA w base v l) (hl : 0 < l.length) :
    ∃ g cap, v = .slice (some ⟨g, 0, none⟩) l.length cap ∧ base ≤ g ∧ g < w.heap.size ∧ l.length ≤ cap ∧ ∀ (k j : Nat) (x : List Int), l[k]? = some x → j < 4 → w.cell? ⟨g, k * 4 + j, none⟩ = some (.int .i64 (x.getD j 0)) := by
  obtain ⟨g, cap, rfl, hb, hg, hc1, hc⟩ := own_form h.2 hl
  exact ⟨g, cap, rfl, hb, hg, hc1.1, fun k j x hk hj => hc _ _ (arC_at h.1 hk hj)⟩
theorem OwnA.below {w w' : World} {base : Nat} {v : Value} {l : List (List Int)} (h : OwnA w base v l) (hb : Below w.heap.size w w') : OwnA w' base v l := ⟨h.1, ownsRow_below h.2 hb⟩
theorem OwnA.more {w : World} {base base' : Nat} {v : Value} {l : List (List Int)} (h : OwnA w base v l) (hb : base' ≤ base) : OwnA w base' v l := ⟨h.1, ownsRow_more h.2 hb⟩
theorem OwnA.empty {w : World} {base N : Nat} (hN : N = w.heap.size) (hb : base ≤ w.heap.size) : OwnA (w.alloc (Obj.cells #[] 128)) base (Value.slice (some ⟨N, 0, none⟩) 0 0) [] := by
  subst hN
  exact ⟨by simp, World.ownsRow_lit w #[] 0 hb (Nat.zero_le _) rfl⟩
theorem OwnA.nil4 {w : World} {base : Nat} {v : Value} {l : List (List Int)} (h : OwnA w base v l) : ∃ A cap, v = .slice A l.length cap := by
  obtain ⟨A, cap, rfl, _⟩ := own_nil h.2
  exact ⟨A, cap, rfl⟩
theorem Try.infoA4 : (Try.prog.info? 128).map (fun i => (i.zero, i.size, i.bytes)) = some (some (.agg #[.int .i64 0, .int .i64 0, .int .i64 0, .int .i64 0]), 4, 32) := by kernel_rfl
theorem append_moved {P : Program} (w : World) (base : Nat) (t ty e : TypeId) (i : TypeInfo) (z : Value) (size bytes : Nat) (ht : P.underlying t = some (.slice e)) (hi : P.info? e = some i) (hz : i.zero = some z) (hsize : i.size = size) (hby : i.bytes = bytes)
    {v : Value} {n : Nat} {xs : List Value} (hown : w.ownsRow base e size v n xs) (a : Addr) (m c : Nat) (news : List Value) (hl : news.length = m * size) (hnews : ∀ j u, news[j]? = some u → w.cell? (a.add j) = some u) (h1 : ∀ u ∈ news, u.oneCell' = true)
    (h63 : n + m ≤ maxLen) (hbytes : (n + m) * bytes ≤ 140737488355328) {v' : Value} {w' : World} (hr : (Builtin.append_ #[t, t] ty #[v, .slice (some a) m c]).run P w = .ok v' w') (hg : w.grownBy w' v.ownBlock) : v'.ownBlock = v.ownBlock ∨ w.grownBy w' none := by
  subst hsize
  subst hby
  have hsmall : n + m ≤ 9223372036854775807 := by simp only [maxLen] at h63; omega
  rcases hown.2 with ⟨rfl, rfl⟩ | ⟨g, cap, cur, rfl, hbg, hgc, hnc, hcm, hcs, htake⟩
  · exact .inr hg
  · by_cases hroom : n + m ≤ cap
    · have hfit : n * i.size + news.length ≤ cur.size := by rw [hl, hcs, ← Nat.add_mul]; exact Nat.mul_le_mul_right _ hroom
      have hr2 := run_append_room (P := P) w t ty e i ht hi g n cap cur hgc a m c news hl hnews h1 hroom hfit
      rw [hr] at hr2
      injection hr2 with e1 e2
      subst e1
      exact .inl rfl
    · have holds : ∀ j u, xs[j]? = some u → w.cell? ((⟨g, 0, none⟩ : Addr).add j) = some u := hown.cells (g := g) rfl
      have hr2 := run_append_grow (P := P) w t ty e i z ht hi hz ⟨g, 0, none⟩ n cap xs hown.1 holds a m c news hl hnews (by omega) (by omega) (growslice_fits (by omega) hbytes)
      rw [hr] at hr2
      injection hr2 with e1 e2
      subst e2
      exact .inr ⟨rfl, rfl, rfl, by simp, fun k hk _ => Below.heap_alloc w.drew _ k hk⟩
theorem run_push_a4 {W : World} (ty : TypeId) {a b c d : Int} {base N : Nat} {v : Value} {l : List (List Int)} (hN : W.heap[N]? = some (.cells #[.int .i64 a, .int .i64 b, .int .i64 c, .int .i64 d] 128 (0, 0))) (hown : OwnA W base v l) (hlen : l.length ≤ 1048576) (hbase : base ≤ W.heap.size) :
    ∃ A' c' w', (Builtin.append_ #[97, 97] ty #[v, .slice (some ⟨N, 0, none⟩) 1 1]).run Try.prog W = .ok (.slice A' (l.length + 1) c') w' ∧ OwnA w' base (.slice A' (l.length + 1) c') (l ++ [[a, b, c, d]]) ∧
      W.grownBy w' v.ownBlock ∧ Below base W w' ∧ ∀ (g cc i : Nat) (u : Value), v = .slice (some ⟨g, 0, none⟩) l.length cc → i < l.length * 4 → W.cell? ⟨g, i, none⟩ = some u → w'.cell? ⟨g, i, none⟩ = some u := by
  obtain ⟨i0, hi0, hz0, hz1, hz2⟩ := info_parts Try.infoA4
  have hnews : ∀ j u, (arC [a, b, c, d])[j]? = some u → W.cell? ((⟨N, 0, none⟩ : Addr).add j) = some u := fun j y hy => by
      have : W.cell? ⟨N, j, none⟩ = (#[Value.int .i64 a, .int .i64 b, .int .i64 c, .int .i64 d] : Array Value)[j]? := cell_of_row _ _ _ _ 128 (0, 0) hN
      have ha : (⟨N, 0, none⟩ : Addr).add j = ⟨N, j, none⟩ := by unfold Addr.add; split <;> simp_all
      rw [ha, this]; simpa [arC] using hy
  have hone : ∀ u ∈ arC [a, b, c, d], u.oneCell' = true := by simp [arC, Value.oneCell']
  obtain ⟨v', w', hrun, k1, k2, _, k3⟩ := run_append_own_at (P := Try.prog) W base 97 ty 128 i0 _ 4 32 Try.underlying97 hi0 hz0 hz1 hz2 rfl (by decide) v l.length _ hown.2 ⟨N, 0, none⟩ 1 1 (arC [a, b, c, d]) rfl hnews hone (by simp only [maxLen]; omega) (by omega) hbase
  have hmv := append_moved (P := Try.prog) W base 97 ty 128 i0 _ 4 32 Try.underlying97 hi0 hz0 hz1 hz2 hown.2 ⟨N, 0, none⟩ 1 1 (arC [a, b, c, d]) rfl hnews hone (by simp only [maxLen]; omega) (by omega) hrun k2
  have k1' : w'.ownsRow base 128 4 v' (l.length + 1) ((l ++ [[a, b, c, d]]).flatMap arC) := by simpa using k1
  obtain ⟨A', c', rfl, _⟩ := own_nil k1'
  refine ⟨A', c', w', hrun, ⟨fun x hx => ?_, by rw [List.length_append]; exact k1'⟩, k2, (Below.refl base W).grown k2 hbase (fun y hy => (World.ownsRow.lt hown.2 y hy).1), fun g cc i u hv hi hc => ?_⟩
  · rcases List.mem_append.1 hx with hx | hx
    · exact hown.1 x hx
    · rw [List.mem_singleton] at hx; subst hx; rfl
  · subst hv
    rcases hmv with hmv | hmv
    · obtain ⟨g', c2, hv2, _⟩ := own_form k1' (by omega)
      rw [hv2] at k1' hmv
      have e : g' = g := by simpa [Value.ownBlock] using hmv
      subst e
      rw [World.ownsRow.cellAt k1' i (by omega)]
      have h2 := World.ownsRow.cellAt hown.2 i hi
      rw [h2] at hc
      rw [List.flatMap_append, List.getElem?_append_left (List.getElem?_eq_some_iff.1 hc).1]
      exact hc
    · exact hmv.cell hc (by simp)
theorem step_push_a4 {W : World} {ops : Array Oper} {o : Oper} {r : Act} {K : Act → World → Prop} {Q : Exit → Act → World → Prop} {E : Prop} (hgd : o.guard = none) (s x : Operand)
    (ho : o.op = .call { callee := .builtin .append, args := #[s, x], argTypes := #[97, 97] }) {a b c d : Int} {base N n cc : Nat} {A : Option Addr} {l : List (List Int)}
    (hs : r.eval s = .slice A n cc) (hx : r.eval x = .slice (some ⟨N, 0, none⟩) 1 1) (hN : W.heap[N]? = some (.cells #[.int .i64 a, .int .i64 b, .int .i64 c, .int .i64 d] 128 (0, 0))) (hown : OwnA W base (.slice A n cc) l) (hn : n = l.length) (hlen : l.length ≤ 1048576) (hbase : base ≤ W.heap.size)
    (h : ∀ A' c' w', OwnA w' base (.slice A' (n + 1) c') (l ++ [[a, b, c, d]]) → W.grownBy w' (Value.slice A n cc).ownBlock → Below base W w' → (∀ (g i : Nat) (u : Value), A = some ⟨g, 0, none⟩ → i < n * 4 → W.cell? ⟨g, i, none⟩ = some u → w'.cell? ⟨g, i, none⟩ = some u) → K (r.put o.dst (.slice A' (n + 1) c')) w') :
    if Region.wanted o (yielded ops r.tmps) = true then Oper.wp Try.prog o r W K Q else E := by
  subst hn
  have hw : Region.wanted o (yielded ops r.tmps) = true := by simp [Region.wanted, hgd]
  rw [if_pos hw]
  obtain ⟨A', c', w', hrun, k1, k2, k4, k5⟩ := run_push_a4 o.type hN hown hlen hbase
  unfold Oper.wp execOp
  simp only [ho, resolve, invoke, builtin, Sem.run_bind, Sem.run_pure, Result.andThen_ok, List.map_toArray, List.map_cons, List.map_nil, hs, hx, hrun]
  exact h A' c' w' k1 k2 k4 (fun g i u hA hi hc => k5 g cc i u (by rw [hA]) hi hc)
theorem push_a4 {W : World} {ops : Array Oper} {rest : List Oper} {o : Oper} {r : Act} {Q : Exit → Act → World → Prop} (hgd : o.guard = none) (s x : Operand)
    (ho : o.op = .call { callee := .builtin .append, args := #[s, x], argTypes := #[97, 97] }) {a b c d : Int} {base N n cc : Nat} {A : Option Addr} {l : List (List Int)}
    (hs : r.eval s = .slice A n cc) (hx : r.eval x = .slice (some ⟨N, 0, none⟩) 1 1) (hN : W.heap[N]? = some (.cells #[.int .i64 a, .int .i64 b, .int .i64 c, .int .i64 d] 128 (0, 0))) (hown : OwnA W base (.slice A n cc) l) (hn : n = l.length) (hlen : l.length ≤ 1048576) (hbase : base ≤ W.heap.size)
    (h : ∀ A' c' w', OwnA w' base (.slice A' (n + 1) c') (l ++ [[a, b, c, d]]) → W.grownBy w' (Value.slice A n cc).ownBlock → Below base W w' → wpList Try.prog ops Q rest (r.put o.dst (.slice A' (n + 1) c')) w') :
    wpList Try.prog ops Q (o :: rest) r W := by
  subst hn
  refine wpList_plain hgd fun _ hK => ?_
  obtain ⟨A', c', w', hrun, k1, k2, k4, k5⟩ := run_push_a4 o.type hN hown hlen hbase
  unfold Oper.wp execOp
  simp only [ho, resolve, invoke, builtin, Sem.run_bind, Sem.run_pure, Result.andThen_ok, List.map_toArray, List.map_cons, List.map_nil, hs, hx, hrun]
  exact hK _ _ (h A' c' w' k1 k2 k4)
def hot (l i : Nat) : Int := if l = i then 1 else 0
set_option maxRecDepth 100000 in
set_option maxHeartbeats 2000000 in
theorem census1_any (l : Nat) (w : World) (hl : l < 4) : Calls Try.prog 87 #[.int .i64 (l : Int)] w fun e w' => e = .returned (.agg #[.int .i64 (hot l 0), .int .i64 (hot l 1), .int .i64 (hot l 2), .int .i64 (hot l 3)]) ∧ Below w.heap.size w w' := by
  have hl9 : l = 0 ∨ l = 1 ∨ l = 2 ∨ l = 3 := by omega
  rcases hl9 with rfl | rfl | rfl | rfl
  · go_enter Try.func87, Try.ntmps87
    go_wp2_with fail
    refine bodyPost_ret (v := .agg #[.int .i64 1, .int .i64 0, .int .i64 0, .int .i64 0]) (by simp [results, Try.results87, go_sem]) rfl ⟨by simp [hot], (by repeat (first | exact Below.refl _ _ | (refine Below.alloc ?_ (by first | omega | (simp; done) | (simp; omega)) _) | (refine Below.setCell ?_ (by first | exact Nat.le_refl _ | (show _ ≤ _; omega) | (simp; done) | (simp; omega)) _) | refine below_drewN ?_ _ | refine Below.drew ?_))⟩
  · go_enter Try.func87, Try.ntmps87
    go_wp2_with fail
    refine bodyPost_ret (v := .agg #[.int .i64 0, .int .i64 1, .int .i64 0, .int .i64 0]) (by simp [results, Try.results87, go_sem]) rfl ⟨by simp [hot], (by repeat (first | exact Below.refl _ _ | (refine Below.alloc ?_ (by first | omega | (simp; done) | (simp; omega)) _) | (refine Below.setCell ?_ (by first | exact Nat.le_refl _ | (show _ ≤ _; omega) | (simp; done) | (simp; omega)) _) | refine below_drewN ?_ _ | refine Below.drew ?_))⟩
  · go_enter Try.func87, Try.ntmps87
    go_wp2_with fail
    refine bodyPost_ret (v := .agg #[.int .i64 0, .int .i64 0, .int .i64 1, .int .i64 0]) (by simp [results, Try.results87, go_sem]) rfl ⟨by simp [hot], (by repeat (first | exact Below.refl _ _ | (refine Below.alloc ?_ (by first | omega | (simp; done) | (simp; omega)) _) | (refine Below.setCell ?_ (by first | exact Nat.le_refl _ | (show _ ≤ _; omega) | (simp; done) | (simp; omega)) _) | refine below_drewN ?_ _ | refine Below.drew ?_))⟩
  · go_enter Try.func87, Try.ntmps87
    go_wp2_with fail
    refine bodyPost_ret (v := .agg #[.int .i64 0, .int .i64 0, .int .i64 0, .int .i64 1]) (by simp [results, Try.results87, go_sem]) rfl ⟨by simp [hot], (by repeat (first | exact Below.refl _ _ | (refine Below.alloc ?_ (by first | omega | (simp; done) | (simp; omega)) _) | (refine Below.setCell ?_ (by first | exact Nat.le_refl _ | (show _ ≤ _; omega) | (simp; done) | (simp; omega)) _) | refine below_drewN ?_ _ | refine Below.drew ?_))⟩
theorem run_index_a4 (a b c d : Int) (w : World) : (Instr.index 128 (.agg #[.int .i64 a, .int .i64 b, .int .i64 c, .int .i64 d]) (.int .i64 0)).run Try.prog w = .ok (.int .i64 a) w ∧ (Instr.index 128 (.agg #[.int .i64 a, .int .i64 b, .int .i64 c, .int .i64 d]) (.int .i64 1)).run Try.prog w = .ok (.int .i64 b) w ∧
    (Instr.index 128 (.agg #[.int .i64 a, .int .i64 b, .int .i64 c, .int .i64 d]) (.int .i64 2)).run Try.prog w = .ok (.int .i64 c) w ∧ (Instr.index 128 (.agg #[.int .i64 a, .int .i64 b, .int .i64 c, .int .i64 d]) (.int .i64 3)).run Try.prog w = .ok (.int .i64 d) w := by
  refine ⟨?_, ?_, ?_, ?_⟩ <;> simp [Instr.index, asIntOf, run_underlying Try.underlying128, part, Try.isAgg2, Try.sizeOf2, Result.andThen]
def upTo (a b : Int) (i j : Nat) : Int := if i < j then a + b else a
set_option maxRecDepth 100000 in
set_option maxHeartbeats 4000000 in
theorem census2_any (a0 a1 a2 a3 b0 b1 b2 b3 : Int) (s : ByteArray) (x y : Int) (w : World) (h0 : 0 ≤ a0 ∧ a0 ≤ 1000000000000000) (h1 : 0 ≤ a1 ∧ a1 ≤ 1000000000000000) (h2 : 0 ≤ a2 ∧ a2 ≤ 1000000000000000) (h3 : 0 ≤ a3 ∧ a3 ≤ 1000000000000000)
    (k0 : 0 ≤ b0 ∧ b0 ≤ 1000000000000000) (k1 : 0 ≤ b1 ∧ b1 ≤ 1000000000000000) (k2 : 0 ≤ b2 ∧ b2 ≤ 1000000000000000) (k3 : 0 ≤ b3 ∧ b3 ≤ 1000000000000000) :
    Calls Try.prog 88 #[.agg #[.int .i64 a0, .int .i64 a1, .int .i64 a2, .int .i64 a3], .agg #[.int .i64 b0, .int .i64 b1, .int .i64 b2, .int .i64 b3], .agg #[.string s, .int .i64 x, .int .i64 y]] w fun e w' =>
      e = .returned (.agg #[.int .i64 (a0 + b0), .int .i64 (a1 + b1), .int .i64 (a2 + b2), .int .i64 (a3 + b3)]) ∧ Below w.heap.size w w' := by
  have w0 : IntKind.i64.wrap (a0 + b0) = a0 + b0 := IntWalk.i64_in _ (by omega)
  have w1 : IntKind.i64.wrap (a1 + b1) = a1 + b1 := IntWalk.i64_in _ (by omega)
  have w2 : IntKind.i64.wrap (a2 + b2) = a2 + b2 := IntWalk.i64_in _ (by omega)
  have w3 : IntKind.i64.wrap (a3 + b3) = a3 + b3 := IntWalk.i64_in _ (by omega)
  clear h0 h1 h2 h3 k0 k1 k2 k3
  go_enter Try.func88, Try.ntmps88
  go_upto_region 1 with fail
  have hb := ((((Below.refl w.heap.size w).alloc (Nat.le_refl _) (Obj.cells #[.int .i64 a0, .int .i64 a1, .int .i64 a2, .int .i64 a3] 128)).alloc (by simp) (Obj.cells #[.int .i64 b0, .int .i64 b1, .int .i64 b2, .int .i64 b3] 128)).alloc (by simp; omega) (Obj.cells #[.string s, .int .i64 x, .int .i64 y] 111)).alloc (by simp; omega) (Obj.cells #[.int .i64 0, .int .i64 0, .int .i64 0, .int .i64 0] 128)
  have hA := (((Blk.new w #[.int .i64 a0, .int .i64 a1, .int .i64 a2, .int .i64 a3] 128).alloc (Obj.cells #[.int .i64 b0, .int .i64 b1, .int .i64 b2, .int .i64 b3] 128)).alloc (Obj.cells #[.string s, .int .i64 x, .int .i64 y] 111)).alloc (Obj.cells #[.int .i64 0, .int .i64 0, .int .i64 0, .int .i64 0] 128)
  have hB := ((Blk.new (w.alloc (Obj.cells #[.int .i64 a0, .int .i64 a1, .int .i64 a2, .int .i64 a3] 128)) #[.int .i64 b0, .int .i64 b1, .int .i64 b2, .int .i64 b3] 128).alloc (Obj.cells #[.string s, .int .i64 x, .int .i64 y] 111)).alloc (Obj.cells #[.int .i64 0, .int .i64 0, .int .i64 0, .int .i64 0] 128)
  have hC := Blk.new (((w.alloc (Obj.cells #[.int .i64 a0, .int .i64 a1, .int .i64 a2, .int .i64 a3] 128)).alloc (Obj.cells #[.int .i64 b0, .int .i64 b1, .int .i64 b2, .int .i64 b3] 128)).alloc (Obj.cells #[.string s, .int .i64 x, .int .i64 y] 111)) #[.int .i64 0, .int .i64 0, .int .i64 0, .int .i64 0] 128
  rw [show (w.alloc (Obj.cells #[.int .i64 a0, .int .i64 a1, .int .i64 a2, .int .i64 a3] 128)).heap.size = w.heap.size + 1 by simp] at hB
  rw [show (((w.alloc (Obj.cells #[.int .i64 a0, .int .i64 a1, .int .i64 a2, .int .i64 a3] 128)).alloc (Obj.cells #[.int .i64 b0, .int .i64 b1, .int .i64 b2, .int .i64 b3] 128)).alloc (Obj.cells #[.string s, .int .i64 x, .int .i64 y] 111)).heap.size = w.heap.size + 1 + 1 + 1 by simp] at hC
  generalize ((((w.alloc (Obj.cells #[.int .i64 a0, .int .i64 a1, .int .i64 a2, .int .i64 a3] 128)).alloc (Obj.cells #[.int .i64 b0, .int .i64 b1, .int .i64 b2, .int .i64 b3] 128)).alloc (Obj.cells #[.string s, .int .i64 x, .int .i64 y] 111)).alloc (Obj.cells #[.int .i64 0, .int .i64 0, .int .i64 0, .int .i64 0] 128)) = W at *
  have KA := Lib.hid hA
  have KC := Lib.hid hC
  have KB := Lib.hid hb
  have e0 := Blk.cell (i := 0) (v := .int .i64 b0) hB rfl
  have e1 := Blk.cell (i := 1) (v := .int .i64 b1) hB rfl
  have e2 := Blk.cell (i := 2) (v := .int .i64 b2) hB rfl
  have e3 := Blk.cell (i := 3) (v := .int .i64 b3) hB rfl
  have lB := Blk.lt hB
  clear hA hB hC hb
  have j0 := fun w => (run_index_a4 b0 b1 b2 b3 w).1
  have j1 := fun w => (run_index_a4 b0 b1 b2 b3 w).2.1
  have j2 := fun w => (run_index_a4 b0 b1 b2 b3 w).2.2.1
  have j3 := fun w => (run_index_a4 b0 b1 b2 b3 w).2.2.2
  go_wp2_with fail
  go_loopw [10] (fun i wx => ∃ (iv : Int) (j : Nat), j ≤ 4 ∧ i = .int .i64 iv ∧ iv = (j : Int) ∧ Blk wx w.heap.size #[.int .i64 (upTo a0 b0 0 j), .int .i64 (upTo a1 b1 1 j), .int .i64 (upTo a2 b2 2 j), .int .i64 (upTo a3 b3 3 j)] 128 ∧ Blk wx (w.heap.size + 1 + 1 + 1) #[.int .i64 0, .int .i64 0, .int .i64 0, .int .i64 0] 128 ∧ Below w.heap.size w wx) (fun i _ => 4 - (intOf i).toNat)
  case atStart => exact ⟨0, 0, by omega, rfl, rfl, KA.out, KC.out, KB.out⟩
  case round =>
    obtain ⟨iv, j, hj, rfl, hiv, hA, hC, hb⟩ := hrel
    have HA := Lib.hid hA
    have HC := Lib.hid hC
    have HB := Lib.hid hb
    have lA := Blk.lt hA
    have lC := Blk.lt hC
    have fA := Blk.frozen hA
    have fC := Blk.frozen hC
    clear hA hC hb
    have hj9 : j = 0 ∨ j = 1 ∨ j = 2 ∨ j = 3 ∨ j = 4 := by omega
    rcases hj9 with rfl | rfl | rfl | rfl | rfl
    · have m0 := Blk.cell (i := 0) (v := .int .i64 a0) HA.out rfl
      have hv : iv = 0 := hiv
      subst hv
      clear e0 e1 e2 e3 hiv
      go_wp2_with fail
      go_roundw
      case rel => exact ⟨1, 1, by omega, rfl, rfl, by have := HA.out.set 0 (.int .i64 (a0 + b0)); simpa [upTo] using this, HC.out.other (show w.heap.size + 1 + 1 + 1 ≠ w.heap.size by omega) _, (by repeat (first | exact HB.out | (refine Below.alloc ?_ (by first | omega | (simp; done) | (simp; omega)) _) | (refine Below.setCell ?_ (by first | exact Nat.le_refl _ | (show _ ≤ _; omega) | (simp; done) | (simp; omega)) _) | refine below_drewN ?_ _ | refine Below.drew ?_))⟩
      case measure => simp [intOf]
    · have m0 := Blk.cell (i := 1) (v := .int .i64 a1) HA.out rfl
      have hv : iv = 1 := hiv
      subst hv
      clear e0 e1 e2 e3 hiv
      go_wp2_with fail
      go_roundw
      case rel => exact ⟨2, 2, by omega, rfl, rfl, by have := HA.out.set 1 (.int .i64 (a1 + b1)); simpa [upTo] using this, HC.out.other (show w.heap.size + 1 + 1 + 1 ≠ w.heap.size by omega) _, (by repeat (first | exact HB.out | (refine Below.alloc ?_ (by first | omega | (simp; done) | (simp; omega)) _) | (refine Below.setCell ?_ (by first | exact Nat.le_refl _ | (show _ ≤ _; omega) | (simp; done) | (simp; omega)) _) | refine below_drewN ?_ _ | refine Below.drew ?_))⟩
      case measure => simp [intOf]
    · have m0 := Blk.cell (i := 2) (v := .int .i64 a2) HA.out rfl
      have hv : iv = 2 := hiv
      subst hv
      clear e0 e1 e2 e3 hiv
      go_wp2_with fail
      go_roundw
      case rel => exact ⟨3, 3, by omega, rfl, rfl, by have := HA.out.set 2 (.int .i64 (a2 + b2)); simpa [upTo] using this, HC.out.other (show w.heap.size + 1 + 1 + 1 ≠ w.heap.size by omega) _, (by repeat (first | exact HB.out | (refine Below.alloc ?_ (by first | omega | (simp; done) | (simp; omega)) _) | (refine Below.setCell ?_ (by first | exact Nat.le_refl _ | (show _ ≤ _; omega) | (simp; done) | (simp; omega)) _) | refine below_drewN ?_ _ | refine Below.drew ?_))⟩
      case measure => simp [intOf]
    · have m0 := Blk.cell (i := 3) (v := .int .i64 a3) HA.out rfl
      have hv : iv = 3 := hiv
      subst hv
      clear e0 e1 e2 e3 hiv
      go_wp2_with fail
      go_roundw
      case rel => exact ⟨4, 4, by omega, rfl, rfl, by have := HA.out.set 3 (.int .i64 (a3 + b3)); simpa [upTo] using this, HC.out.other (show w.heap.size + 1 + 1 + 1 ≠ w.heap.size by omega) _, (by repeat (first | exact HB.out | (refine Below.alloc ?_ (by first | omega | (simp; done) | (simp; omega)) _) | (refine Below.setCell ?_ (by first | exact Nat.le_refl _ | (show _ ≤ _; omega) | (simp; done) | (simp; omega)) _) | refine below_drewN ?_ _ | refine Below.drew ?_))⟩
      case measure => simp [intOf]
    · have hv : iv = 4 := hiv
      subst hv
      clear hiv
      have m0 := Blk.cell (i := 0) (v := .int .i64 (a0 + b0)) HA.out rfl
      have m1 := Blk.cell (i := 1) (v := .int .i64 (a1 + b1)) HA.out rfl
      have m2 := Blk.cell (i := 2) (v := .int .i64 (a2 + b2)) HA.out rfl
      have m3 := Blk.cell (i := 3) (v := .int .i64 (a3 + b3)) HA.out rfl
      have n0 := Blk.cell (i := 0) (v := .int .i64 0) HC.out rfl
      have n1 := Blk.cell (i := 1) (v := .int .i64 0) HC.out rfl
      have n2 := Blk.cell (i := 2) (v := .int .i64 0) HC.out rfl
      have n3 := Blk.cell (i := 3) (v := .int .i64 0) HC.out rfl
      go_wp2_with fail
      refine bodyPost_ret (v := .agg #[.int .i64 (a0 + b0), .int .i64 (a1 + b1), .int .i64 (a2 + b2), .int .i64 (a3 + b3)]) (by simp [results, Try.results88, go_sem, n0, n1, n2, n3]) rfl ⟨rfl, (by repeat (first | exact HB.out | (refine Below.alloc ?_ (by first | omega | (simp; done) | (simp; omega)) _) | (refine Below.setCell ?_ (by first | exact Nat.le_refl _ | (show _ ≤ _; omega) | (simp; done) | (simp; omega)) _) | refine below_drewN ?_ _ | refine Below.drew ?_))⟩
theorem OwnA.drew {w : World} {base : Nat} {v : Value} {l : List (List Int)} (h : OwnA w base v l) : OwnA w.drew base v l := h
theorem OwnA.alloc {w : World} {base : Nat} {v : Value} {l : List (List Int)} (h : OwnA w base v l) (o : Obj) : OwnA (w.alloc o) base v l := ⟨h.1, World.ownsRow.alloc h.2 o⟩
def manyL (xs : List GRule) : List (List Int) := if xs.length = 0 then [[0, 0, 0, 0]] else cntsL xs xs.length
def cI (xs : List GRule) (r i : Nat) : Int := (cntW (ltr i) (W1 xs r) : Nat)
theorem cI_row (xs : List GRule) (r : Nat) : cntR xs r = [cI xs r 0, cI xs r 1, cI xs r 2, cI xs r 3] := rfl
theorem cI_bd {xs : List GRule} {ls : List Int} (h : lens xs = some ls) {r : Nat} (hx : r < xs.length) (i : Nat) : 0 ≤ cI xs r i ∧ cI xs r i ≤ 1000000000000000 := ⟨by unfold cI; omega, cnt_le h hx _⟩
theorem keep11A {wr W : World} {x g : Nat} {t : TypeId} {d0 d1 d2 a0 a1 a2 a3 b0 b1 b2 b3 : Value} {l q : Nat} (hx : Blk wr x #[d0, d1, d2] t) (hg : g < wr.heap.size)
    (ha : wr.cell? ⟨g, l * 4, none⟩ = some a0 ∧ wr.cell? ⟨g, l * 4 + 1, none⟩ = some a1 ∧ wr.cell? ⟨g, l * 4 + 2, none⟩ = some a2 ∧ wr.cell? ⟨g, l * 4 + 3, none⟩ = some a3)
    (hb : wr.cell? ⟨g, q * 4, none⟩ = some b0 ∧ wr.cell? ⟨g, q * 4 + 1, none⟩ = some b1 ∧ wr.cell? ⟨g, q * 4 + 2, none⟩ = some b2 ∧ wr.cell? ⟨g, q * 4 + 3, none⟩ = some b3) (h : Below wr.heap.size wr W) :
    Below wr.heap.size wr W ∧ W.cell? ⟨x, 0, none⟩ = some d0 ∧ W.cell? ⟨x, 1, none⟩ = some d1 ∧ W.cell? ⟨x, 2, none⟩ = some d2 ∧ W.cell? ⟨g, l * 4, none⟩ = some a0 ∧ W.cell? ⟨g, l * 4 + 1, none⟩ = some a1 ∧ W.cell? ⟨g, l * 4 + 2, none⟩ = some a2 ∧ W.cell? ⟨g, l * 4 + 3, none⟩ = some a3 ∧
      W.cell? ⟨g, q * 4, none⟩ = some b0 ∧ W.cell? ⟨g, q * 4 + 1, none⟩ = some b1 ∧ W.cell? ⟨g, q * 4 + 2, none⟩ = some b2 ∧ W.cell? ⟨g, q * 4 + 3, none⟩ = some b3 := by
  have h2 := hx.up h
  have k : ∀ {o : Nat} {v : Value}, wr.cell? ⟨g, o, none⟩ = some v → W.cell? ⟨g, o, none⟩ = some v := fun hc => (h.cell (p := ⟨g, _, none⟩) hg).trans hc
  exact ⟨h, h2.cell rfl, h2.cell rfl, h2.cell rfl, k ha.1, k ha.2.1, k ha.2.2.1, k ha.2.2.2, k hb.1, k hb.2.1, k hb.2.2.1, k hb.2.2.2⟩
theorem keepPA {W w' : World} {x g k : Nat} {d0 d1 d2 a0 a1 a2 a3 b0 b1 b2 b3 : Value} {l q : Nat} (h : W.cell? ⟨x, 0, none⟩ = some d0 ∧ W.cell? ⟨x, 1, none⟩ = some d1 ∧ W.cell? ⟨x, 2, none⟩ = some d2 ∧ W.cell? ⟨g, l * 4, none⟩ = some a0 ∧ W.cell? ⟨g, l * 4 + 1, none⟩ = some a1 ∧ W.cell? ⟨g, l * 4 + 2, none⟩ = some a2 ∧ W.cell? ⟨g, l * 4 + 3, none⟩ = some a3 ∧
      W.cell? ⟨g, q * 4, none⟩ = some b0 ∧ W.cell? ⟨g, q * 4 + 1, none⟩ = some b1 ∧ W.cell? ⟨g, q * 4 + 2, none⟩ = some b2 ∧ W.cell? ⟨g, q * 4 + 3, none⟩ = some b3) {n c : Nat} (hg : W.grownBy w' (Value.slice (some ⟨g, 0, none⟩) n c).ownBlock) (hx : x ≠ g) (hl : l < k) (hq : q < k)
    (hk : ∀ (g' i : Nat) (u : Value), (some (⟨g, 0, none⟩ : Addr)) = some ⟨g', 0, none⟩ → i < k * 4 → W.cell? ⟨g', i, none⟩ = some u → w'.cell? ⟨g', i, none⟩ = some u) :
    w'.cell? ⟨x, 0, none⟩ = some d0 ∧ w'.cell? ⟨x, 1, none⟩ = some d1 ∧ w'.cell? ⟨x, 2, none⟩ = some d2 ∧ w'.cell? ⟨g, l * 4, none⟩ = some a0 ∧ w'.cell? ⟨g, l * 4 + 1, none⟩ = some a1 ∧ w'.cell? ⟨g, l * 4 + 2, none⟩ = some a2 ∧ w'.cell? ⟨g, l * 4 + 3, none⟩ = some a3 ∧
      w'.cell? ⟨g, q * 4, none⟩ = some b0 ∧ w'.cell? ⟨g, q * 4 + 1, none⟩ = some b1 ∧ w'.cell? ⟨g, q * 4 + 2, none⟩ = some b2 ∧ w'.cell? ⟨g, q * 4 + 3, none⟩ = some b3 := by
  obtain ⟨h0, h1, h2, h3, h4, h5, h6, h7, h8, h9, h10⟩ := h
  have hne : ∀ o, (some (⟨x, o, none⟩ : Addr).block) ≠ (Value.slice (some ⟨g, 0, none⟩) n c).ownBlock := fun o e => hx (by simpa [Value.ownBlock] using e)
  exact ⟨hg.cell h0 (hne 0), hg.cell h1 (hne 1), hg.cell h2 (hne 2), hk g _ _ rfl (by omega) h3, hk g _ _ rfl (by omega) h4, hk g _ _ rfl (by omega) h5, hk g _ _ rfl (by omega) h6, hk g _ _ rfl (by omega) h7, hk g _ _ rfl (by omega) h8, hk g _ _ rfl (by omega) h9, hk g _ _ rfl (by omega) h10⟩
set_option maxRecDepth 100000 in
set_option maxHeartbeats 8000000 in
theorem folded_any (vR : Value) (xs : List GRule) (ls : List Int) (w : World) (hR : Sl RuleE w w.heap.size vR xs) (hl : lens xs = some ls) (hn : xs.length ≤ 400) :
    Calls Try.prog 86 #[.agg #[vR], .agg #[.int .i64 0, .int .i64 0, .int .i64 0, .int .i64 0], .func (.func 87) #[] #[], .func (.func 88) #[] #[]] w fun e w' => ∃ v, e = .returned v ∧ OwnA w' w.heap.size v (manyL xs) ∧ Below w.heap.size w w' := by
  have HR0 := Lib.hid hR
  obtain ⟨AR, cR, rfl, _, _, hrowR⟩ := hR
  have Hl := Lib.hid hl
  have HR := Lib.hid hrowR
  clear hl hrowR
  have eg1 := enters_of Try.func87 (by kernel_rfl) rfl
  have eg2 := enters_of Try.func88 (by kernel_rfl) rfl
  go_enter Try.func86, Try.ntmps86
  go_upto_region 1 with fail
  have kb := ((Below.refl w.heap.size w).alloc (Nat.le_refl _) (Obj.cells #[.slice AR xs.length cR] 30)).alloc (by simp) (Obj.cells #[.int .i64 0, .int .i64 0, .int .i64 0, .int .i64 0] 128)
  have kg := (Blk.new w #[.slice AR xs.length cR] 30).alloc (Obj.cells #[.int .i64 0, .int .i64 0, .int .i64 0, .int .i64 0] 128)
  have kz := Blk.new (w.alloc (Obj.cells #[.slice AR xs.length cR] 30)) #[.int .i64 0, .int .i64 0, .int .i64 0, .int .i64 0] 128
  rw [show (w.alloc (Obj.cells #[.slice AR xs.length cR] 30)).heap.size = w.heap.size + 1 by simp] at kz
  generalize ((w.alloc (Obj.cells #[.slice AR xs.length cR] 30)).alloc (Obj.cells #[.int .i64 0, .int .i64 0, .int .i64 0, .int .i64 0] 128)) = w1 at *
  have KB := Lib.hid kb
  have KZ := Lib.hid kz
  have g0 := Blk.cell (i := 0) (v := .slice AR xs.length cR) kg rfl
  have gl := Blk.lt kg
  have zl := Blk.lt kz
  have z1 := kb.size
  clear kb kg kz
  go_wp2_with fail
  go_loopw [9, 16] (fun out i wx => ∃ k : Nat, k ≤ xs.length ∧ i = .int .i64 (k : Int) ∧ Below w1.heap.size w1 wx ∧ OwnA wx w1.heap.size out (cntsL xs k)) (fun _ i _ => xs.length - (intOf i).toNat)
  case atStart => exact ⟨0, Nat.zero_le _, rfl, (Below.refl _ _).alloc (Nat.le_refl _) _, OwnA.empty rfl (Nat.le_refl _)⟩
  case round =>
    obtain ⟨k, hk, rfl, hb, hown⟩ := hrel
    obtain ⟨A, c, rfl⟩ := hown.nil4
    have HB := Lib.hid hb
    have Hown := Lib.hid hown
    have zo := hb.size
    clear hb hown g0
    by_cases hlt : k < xs.length
    · obtain ⟨b2, o2, rfl, hb2, hcellR⟩ := HR.out.rule (k := k) hlt
      have hrk := getR_at hlt
      obtain ⟨k0, k1, k2⟩ := hcellR k _ hrk
      have hBw : Below w.heap.size w wr := Below.tr KB.out HB.out
      have hc0 := (hBw.cell (p := ⟨b2, o2 + k * 3, none⟩) hb2).trans k0
      have hc1 := (hBw.cell (p := ⟨b2, o2 + k * 3 + 1, none⟩) hb2).trans k1
      have hc2 := (hBw.cell (p := ⟨b2, o2 + k * 3 + 2, none⟩) hb2).trans k2
      have hki : (k : Int) < (xs.length : Int) := by omega
      have Hpair := Lib.hid (fun hp => lens_pair Hl.out hlt hp)
      have Hcp := Lib.hid (fun hp c => cnt_pair Hl.out hlt hp c)
      have Hlet := Lib.hid (fun hp => let_one Hl.out hlt hp)
      have Hsn := Lib.hid (cntsL_succ xs k)
      rw [cntsL_len]
      clear hrk k0 k1 k2 hcellR hBw
      obtain ⟨R, hR⟩ : ∃ R, getR xs k = R := ⟨_, rfl⟩
      rw [hR] at hc0 hc1 hc2 Hpair Hlet Hcp
      clear hR
      obtain ⟨rs, rl, rr⟩ := R
      simp only at hc0 hc1 hc2
      go_upto_region 5 with fail
      have kB := (Below.refl wr.heap.size wr).alloc (Nat.le_refl _) (Obj.cells #[.string rs, .int .i64 rl, .int .i64 rr] 111)
      have kX := Blk.new wr #[.string rs, .int .i64 rl, .int .i64 rr] 111
      generalize wr.alloc (Obj.cells #[.string rs, .int .i64 rl, .int .i64 rr] 111) = w2 at *
      have KX := Lib.hid kX
      have KB2 := Lib.hid kB
      have d0 := Blk.cell (i := 0) (v := .string rs) kX rfl
      have d1 := Blk.cell (i := 1) (v := .int .i64 rl) kX rfl
      have d2 := Blk.cell (i := 2) (v := .int .i64 rr) kX rfl
      have lX := Blk.lt kX
      have z2 := kB.size
      clear kB kX hc0 hc1 hc2
      go_wp2_with fail
      refine (isPair_b rs rl rr w2).mono ?_
      rintro e w3 ⟨rfl, hb3⟩
      have HB3 := Lib.hid (HB.out.trans ((KB2.out.trans (hb3.mono z2)).mono (by omega)))
      have Hown3 := Lib.hid ((Hown.out.below KB2.out).below hb3)
      have KX3 := Lib.hid (KX.out.up hb3)
      have z3 := hb3.size
      clear hb3 d0 d1 d2 lX
      have d0 := Blk.cell (i := 0) (v := .string rs) KX3.out rfl
      have d1 := Blk.cell (i := 1) (v := .int .i64 rl) KX3.out rfl
      have d2 := Blk.cell (i := 2) (v := .int .i64 rr) KX3.out rfl
      have lX := Blk.lt KX3.out
      have hcl : (cntsL xs k).length = k := cntsL_len _ _
      have Hcl := Lib.hid hcl
      by_cases hp : (⟨rs, rl, rr⟩ : GRule).pair = true
      · -- @V p
        obtain ⟨p1, p2, p3, p4, p5⟩ := Hpair.out hp
        have hemp : rs.toList.isEmpty = true := by rw [isEmpty_size]; exact hp
        have hval := fun i => Hcp.out hp (ltr i)
        obtain ⟨l, hl⟩ := Int.eq_ofNat_of_zero_le p1
        obtain ⟨q, hq⟩ := Int.eq_ofNat_of_zero_le p3
        (try simp only at hl hq p2 p4 hval)
        rw [hl, Int.toNat_natCast] at p2
        rw [hq, Int.toNat_natCast] at p4
        rw [hl, hq] at hval
        simp only [Int.toNat_natCast] at hval
        have hrow : cntR xs k = [cI xs l 0 + cI xs q 0, cI xs l 1 + cI xs q 1, cI xs l 2 + cI xs q 2, cI xs l 3 + cI xs q 3] := by
          have e : ∀ i, cI xs k i = cI xs l i + cI xs q i := fun i => by unfold cI; rw [hval i]; omega
          rw [cI_row, e, e, e, e]
        have Hrow := Lib.hid hrow
        have KX4 := Lib.hid (show Blk w3 wr.heap.size #[.string rs, .int .i64 (l : Int), .int .i64 (q : Int)] 111 by rw [← hl, ← hq]; exact KX3.out)
        rw [hl] at d1
        rw [hq] at d2
        obtain ⟨g, cap, hv, hgb, hgl, _, hcA⟩ := OwnA.cells Hown3.out (by rw [hcl]; omega)
        rw [hcl] at hv
        injection hv with hv1 _ hv3
        subst hv1
        subst hv3
        have hL := fun j hj => hcA l j (cntR xs l) (cntsL_at xs (by omega)) hj
        have hQ := fun j hj => hcA q j (cntR xs q) (cntsL_at xs (by omega)) hj
        have ha : w3.cell? ⟨g, l * 4, none⟩ = some (.int .i64 (cI xs l 0)) ∧ w3.cell? ⟨g, l * 4 + 1, none⟩ = some (.int .i64 (cI xs l 1)) ∧ w3.cell? ⟨g, l * 4 + 2, none⟩ = some (.int .i64 (cI xs l 2)) ∧ w3.cell? ⟨g, l * 4 + 3, none⟩ = some (.int .i64 (cI xs l 3)) := ⟨hL 0 (by omega), hL 1 (by omega), hL 2 (by omega), hL 3 (by omega)⟩
        have hbq : w3.cell? ⟨g, q * 4, none⟩ = some (.int .i64 (cI xs q 0)) ∧ w3.cell? ⟨g, q * 4 + 1, none⟩ = some (.int .i64 (cI xs q 1)) ∧ w3.cell? ⟨g, q * 4 + 2, none⟩ = some (.int .i64 (cI xs q 2)) ∧ w3.cell? ⟨g, q * 4 + 3, none⟩ = some (.int .i64 (cI xs q 3)) := ⟨hQ 0 (by omega), hQ 1 (by omega), hQ 2 (by omega), hQ 3 (by omega)⟩
        have L0 := cI_bd Hl.out (r := l) (by omega)
        have Q0 := cI_bd Hl.out (r := q) (by omega)
        have i1 : (l : Int) < (k : Int) := by omega
        have i2 : (q : Int) < (k : Int) := by omega
        have hXg : wr.heap.size ≠ g := fun e => by have := (World.ownsRow.lt Hown.out.2 g (by rfl)).2; omega
        have z9 : Below w3.heap.size w3 w3.drew := Below.drew (Below.refl _ _)
        obtain ⟨a1', a2', a3', a4'⟩ := ha
        obtain ⟨b1', b2', b3', b4'⟩ := hbq
        have hk9 : (cntsL xs k).length ≤ 1048576 := by rw [hcl]; omega
        have hw13 : w1.heap.size ≤ w3.heap.size := by omega
        have Hown3k := Lib.hid (show OwnA w3 w1.heap.size (.slice (some ⟨g, 0, none⟩) k c) (cntsL xs k) by have := Hown3.out; rwa [hcl] at this)
        clear hcA hL hQ hval hl hq hrow d0 hcl
        have d0 := Blk.cell (i := 0) (v := .string rs) KX3.out rfl
        go_wp2_with fail
        go_region_held3 (fun w' => w'.cell? ⟨wr.heap.size, 0, none⟩ = some (.string rs) ∧ w'.cell? ⟨wr.heap.size, 1, none⟩ = some (.int .i64 (l : Int)) ∧ w'.cell? ⟨wr.heap.size, 2, none⟩ = some (.int .i64 (q : Int)) ∧ w'.cell? ⟨g, l * 4, none⟩ = some (.int .i64 (cI xs l 0)) ∧ w'.cell? ⟨g, l * 4 + 1, none⟩ = some (.int .i64 (cI xs l 1)) ∧ w'.cell? ⟨g, l * 4 + 2, none⟩ = some (.int .i64 (cI xs l 2)) ∧ w'.cell? ⟨g, l * 4 + 3, none⟩ = some (.int .i64 (cI xs l 3)) ∧ w'.cell? ⟨g, q * 4, none⟩ = some (.int .i64 (cI xs q 0)) ∧ w'.cell? ⟨g, q * 4 + 1, none⟩ = some (.int .i64 (cI xs q 1)) ∧ w'.cell? ⟨g, q * 4 + 2, none⟩ = some (.int .i64 (cI xs q 2)) ∧ w'.cell? ⟨g, q * 4 + 3, none⟩ = some (.int .i64 (cI xs q 3)))
          (first | (with_reducible exact (keep11A KX4.out hgl ⟨a1', a2', a3', a4'⟩ ⟨b1', b2', b3', b4'⟩ z9).2) | (with_reducible exact (keep11A KX4.out hgl ⟨a1', a2', a3', a4'⟩ ⟨b1', b2', b3', b4'⟩ (Below.tr z9 hb4)).2) | (with_reducible exact (keep11A KX4.out hgl ⟨a1', a2', a3', a4'⟩ ⟨b1', b2', b3', b4'⟩ (Below.tr (Below.tr z9 hb4) ((Below.refl w4.heap.size w4).alloc (Nat.le_refl _) _))).2) | (with_reducible exact keepPA (keep11A KX4.out hgl ⟨a1', a2', a3', a4'⟩ ⟨b1', b2', b3', b4'⟩ (Below.tr (Below.tr z9 hb4) ((Below.refl w4.heap.size w4).alloc (Nat.le_refl _) _))).2 hg6 hXg p2 p4 hk6))
          (first
            | (go_at_call 88; refine (census2_any _ _ _ _ _ _ _ _ rs _ _ _ (L0 0) (L0 1) (L0 2) (L0 3) (Q0 0) (Q0 1) (Q0 2) (Q0 3)).mono ?_; rintro e w4 ⟨rfl, hb4⟩)
            | (refine step_push_a4 (a := cI xs l 0 + cI xs q 0) (b := cI xs l 1 + cI xs q 1) (c := cI xs l 2 + cI xs q 2) (d := cI xs l 3 + cI xs q 3) (N := w4.heap.size) (base := w1.heap.size) (l := cntsL xs k) (by rfl) _ _ (by rfl) (by rfl) (by rfl) (Blk.new w4 #[.int .i64 (cI xs l 0 + cI xs q 0), .int .i64 (cI xs l 1 + cI xs q 1), .int .i64 (cI xs l 2 + cI xs q 2), .int .i64 (cI xs l 3 + cI xs q 3)] 128) (OwnA.alloc (Hown3k.out.below (Below.tr z9 hb4)) _) Hcl.out.symm hk9 (Nat.le_trans hw13 (Nat.le_trans (Below.tr z9 hb4).size (by simp))) ?_; intro A6 c6 w6 own6 hg6 hb6 hk6))
        have hB6 : Below w1.heap.size w1 w6 := (((HB3.out.trans ((Below.tr z9 hb4).mono hw13)).alloc (Nat.le_trans hw13 (Below.tr z9 hb4).size) _)).trans hb6
        have HB6 := Lib.hid hB6
        have Hown6 := Lib.hid own6
        clear hB6 own6 hg6 hb6 hb4 hk6 a1' a2' a3' a4' b1' b2' b3' b4'
        go_wp2_with fail
        go_roundw
        case rel => exact ⟨k + 1, by omega, by go_num, HB6.out, by rw [Hsn.out, Hrow.out]; exact Hown6.out⟩
        case measure => simp [intOf]; omega
      · -- @V l
        have hp' : (⟨rs, rl, rr⟩ : GRule).pair = false := by simpa using hp
        have hemp : rs.toList.isEmpty = false := by rw [isEmpty_size]; simpa [GRule.pair] using hp'
        obtain ⟨m, hm4, hrs, hW⟩ := Hlet.out hp'
        (try simp only at hrs)
        have hs1 : rs.size = 1 := by rw [hrs]; rfl
        have hs0 : 0 < rs.size := by omega
        have hd : rs[0].toNat = 97 + m := by
          have : rs[0] = ltr m := by subst hrs; rfl
          rw [this, ltr_nat hm4]
        have his : (0 : Int) < (rs.size : Int) := by omega
        have h8 : IntKind.u8.wrap ((rs[0].toNat : Int) - 97) = (m : Int) := by rw [hd, IntWalk.u8_in _ (by omega)]; omega
        have h64 : IntKind.i64.wrap (m : Int) = (m : Int) := IntWalk.i64_in _ (by omega)
        have hrow : cntR xs k = [hot m 0, hot m 1, hot m 2, hot m 3] := by
          rw [cI_row]
          have e : ∀ i, i < 4 → cI xs k i = hot m i := fun i hi => by unfold cI hot; rw [hW, cnt_let hm4 hi]; split <;> rfl
          rw [e 0 (by omega), e 1 (by omega), e 2 (by omega), e 3 (by omega)]
        have Hrow := Lib.hid hrow
        have Hown3k := Lib.hid (show OwnA w3 w1.heap.size (.slice A k c) (cntsL xs k) by have := Hown3.out; rwa [hcl] at this)
        have hk9 : (cntsL xs k).length ≤ 1048576 := by rw [hcl]; omega
        have hw13 : w1.heap.size ≤ w3.heap.size := by omega
        have H8 := Lib.hid h8
        clear hrs hs1 hd hp hp' hW hrow hcl
        go_wp2_with (first
          | (go_at_call 87; refine (census1_any m _ hm4).mono ?_; rintro e w4 ⟨rfl, hb4⟩)
          | (at_builtin; refine push_a4 (a := hot m 0) (b := hot m 1) (c := hot m 2) (d := hot m 3) (N := w4.heap.size) (base := w1.heap.size) (l := cntsL xs k) rfl _ _ rfl rfl rfl (Blk.new w4 #[.int .i64 (hot m 0), .int .i64 (hot m 1), .int .i64 (hot m 2), .int .i64 (hot m 3)] 128) (OwnA.alloc (Hown3k.out.below hb4) _) Hcl.out.symm hk9 (Nat.le_trans hw13 (Nat.le_trans hb4.size (by simp))) ?_; intro A6 c6 w6 own6 hg6 hb6))
        have hB6 : Below w1.heap.size w1 w6 := (((HB3.out.trans (hb4.mono hw13)).alloc (Nat.le_trans hw13 hb4.size) _)).trans hb6
        have HB6 := Lib.hid hB6
        have Hown6 := Lib.hid own6
        clear hB6 own6 hg6 hb6 hb4
        go_roundw
        case rel => exact ⟨k + 1, by omega, by go_num, HB6.out, by rw [Hsn.out, Hrow.out]; exact Hown6.out⟩
        case measure => simp [intOf]; omega
    · -- @V e
      have hkn : k = xs.length := by omega
      subst hkn
      have hcl : (cntsL xs xs.length).length = xs.length := cntsL_len _ _
      have Hown9 := Lib.hid (show OwnA wr w1.heap.size (.slice A xs.length c) (cntsL xs xs.length) by have := Hown.out; rwa [hcl] at this)
      have KZ9 := Lib.hid (KZ.out.upB HB.out zl)
      have zl9 := Blk.lt KZ9.out
      rw [hcl]
      clear hcl
      by_cases h0 : xs.length = 0
      · have hx : xs = [] := List.eq_nil_of_length_eq_zero h0
        subst hx
        have z0 := Blk.cell (i := 0) (v := .int .i64 0) KZ9.out rfl
        have z1' := Blk.cell (i := 1) (v := .int .i64 0) KZ9.out rfl
        have z2' := Blk.cell (i := 2) (v := .int .i64 0) KZ9.out rfl
        have z3' := Blk.cell (i := 3) (v := .int .i64 0) KZ9.out rfl
        clear h0
        go_wp2_with (first
          | (at_builtin; refine push_a4 (a := 0) (b := 0) (c := 0) (d := 0) (N := wr.heap.size) (base := w1.heap.size) (l := cntsL [] 0) rfl _ _ rfl rfl rfl (Blk.new wr #[.int .i64 0, .int .i64 0, .int .i64 0, .int .i64 0] 128) (OwnA.alloc Hown9.out _) rfl (by decide) (by simp; omega) ?_; intro A6 c6 w6 own6 hg6 hb6))
        go_ret
        exact ⟨_, rfl, own6.more (by omega), Below.tr KB.out ((HB.out.alloc zo _).trans hb6)⟩
      · have h0b : ((xs.length : Int) == 0) = false := by rw [beq_eq_false_iff_ne]; omega
        have Hm := Lib.hid (show manyL xs = cntsL xs xs.length by rw [manyL, if_neg h0])
        clear h0
        go_wp2_with fail
        go_ret
        exact ⟨_, rfl, by rw [Hm.out]; exact Hown9.out.more (by omega), Below.tr KB.out HB.out⟩
end Go.Proofs.Ytfkijaamfmpboaa
