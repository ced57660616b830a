import Derived.Test.YtdacndamehiglaaGreatDoorM3
import Derived.Test.YtdacndamehiglaaGreatDoorM6
import Derived.Deep.RegionWith
import Derived.Deep.RegionLaw
import Derived.Shelf.Small.Strs
import Derived.Shelf.Utf8.RuneCount
import Derived.Shelf.LaysM
import Derived.Shelf.Strings.Search1
import Derived.Shelf.Strings.Search2
import Derived.Shelf.Strings.Search3
import Derived.Shelf.Strings.Count
import Derived.Shelf.Strings.Shaped
import Derived.Shelf.Strings.Split
import Derived.Shelf.Strings.SplitShaped
import Derived.Shelf.Strings.RuneCount
import Derived.Shelf.Strings.Explode
import Derived.Test.YtdacndamehiglaaGreatDoorProg
import Derived.Test.YtdacndamehiglaaGreatDoorM1
import Derived.Lib.UnsafeStr
import Derived.Laws.IdiomStrings
import Derived.Test.YtdacndamehiglaaGreatDoorM2
import Derived.Test.YtdacndamehiglaaGreatDoorM4
import Derived.ArgAppend
namespace Go.Proofs.YtdacndamehiglaaGreatDoor
open Go.RowKit
def addO (s g : Option (List GRule)) : Option (List GRule) := match s, g with
  | some o, some x => if gramOk (joinG o x) then some (joinG o x) else none
  | _, _ => none
def limO (xs : List GRule) : Option (List GRule) := if gramOk xs then some xs else none
def CodeIs (s : Option (List GRule)) (out : List GRule) (c : Int) : Prop := (s = some out ∧ c = 0 ∧ gramOk out = true) ∨ (s = none ∧ c = 3)
theorem codeIs_lim (xs : List GRule) : CodeIs (limO xs) (limOut xs) (limCode xs) := by
  unfold CodeIs limO limOut limCode
  cases h : gramOk xs with
  | true => exact .inl ⟨rfl, rfl, by simpa using h⟩
  | false => exact .inr ⟨rfl, rfl⟩
theorem gramOk_nil : gramOk [] = true := rfl
theorem limOut_ok (xs : List GRule) : gramOk (limOut xs) = true := by
  unfold limOut
  cases h : gramOk xs with
  | true => simpa using h
  | false => rfl
def Asm (w : World) (b : Nat) (xs : List GRule) (ls : List Int) (s : Option (List GRule)) : Prop :=
  ∃ vG vL vO out c, Blk w b #[vG, vL, vO, .int .i64 c] 131 ∧ Sl RuleE w b vG xs ∧ Sl IntE w b vL ls ∧ OwnRules w (b + 1) vO out ∧ CodeIs s out c ∧ gramOk out = true
theorem Asm.lt {w : World} {b : Nat} {xs : List GRule} {ls : List Int} {s : Option (List GRule)} (h : Asm w b xs ls s) : b < w.heap.size := by
  obtain ⟨_, _, _, _, _, h, _⟩ := h; exact h.lt
theorem Asm.up {w w' : World} {b : Nat} {xs : List GRule} {ls : List Int} {s : Option (List GRule)} (h : Asm w b xs ls s) (hb : Below w.heap.size w w') : Asm w' b xs ls s := by
  have hlt := h.lt
  obtain ⟨vG, vL, vO, out, c, h1, h2, h3, h4, h5, h6⟩ := h
  exact ⟨vG, vL, vO, out, c, h1.up hb, h2.below (hb.mono (by omega)), h3.below (hb.mono (by omega)), OwnRules.below h4 hb, h5, h6⟩
theorem sl_up {α : Type} {E : Enc α} {w w' : World} {N : Nat} {v : Value} {xs : List α} (h : Sl E w N v xs) (hN : N ≤ w.heap.size) (hb : Below w.heap.size w w') : Sl E w' w'.heap.size v xs := (h.le hN).up hb
theorem keepS {wr W : World} {p q a : Addr} {v u x : Value} (h : Below wr.heap.size wr W ∧ W.cell? p = some v ∧ W.cell? q = some u) (ha : wr.heap.size ≤ a.block) (hp : p.block < wr.heap.size) (hq : q.block < wr.heap.size) :
    Below wr.heap.size wr (W.setCell a x) ∧ (W.setCell a x).cell? p = some v ∧ (W.setCell a x).cell? q = some u :=
  ⟨h.1.setCell ha x, (World.cell?_of_block (Below.heap_setCell _ _ _ _ (by omega))).trans h.2.1, (World.cell?_of_block (Below.heap_setCell _ _ _ _ (by omega))).trans h.2.2⟩
theorem blk_res {w w' : World} {a : Array Value} {t : TypeId} (hb : Below (w.alloc (.cells a t)).heap.size (w.alloc (.cells a t)) w') : Below w.heap.size w w' ∧ Blk w' w.heap.size a t := Below.unalloc hb
set_option maxRecDepth 100000 in
set_option maxHeartbeats 1000000 in
theorem asmPart_any (b : Nat) (xs : List GRule) (ls : List Int) (s : Option (List GRule)) (i j : Int) (w : World) (h : Asm w b xs ls s) (hl : lens xs = some ls) (hn : xs.length ≤ 1048576) :
    Calls Tryz.prog 95 #[.pointer (some ⟨b, 0, none⟩), .int .i64 i, .int .i64 j] w (GRes (limOut (partG xs ls i j)) (limCode (partG xs ls i j)) w) := by
  obtain ⟨vG, vL, vO, out, c, hB, hG, hL, hO, hs, hok⟩ := h
  have hlt := hB.lt
  have HG := Lib.hid (hG.le (Nat.le_of_lt hlt))
  have HL := Lib.hid (hL.le (Nat.le_of_lt hlt))
  have Hl := Lib.hid hl
  have hpl := partG_len hl i j
  obtain ⟨AG, cG, rfl, _⟩ := hG
  obtain ⟨AL, cL, rfl, _⟩ := hL
  clear hO hs hl
  have cA0_1 := Blk.cell (i := 0) (v := .slice AG xs.length cG) hB rfl
  have cA1_2 := Blk.cell (i := 1) (v := .slice AL ls.length cL) hB rfl
  have lA_3 := Blk.lt hB
  clear hB hok
  go_enter Tryz.func95, Tryz.ntmps95
  go_wp2_with fail
  have hcA : (w.alloc (Obj.cells #[Value.slice none 0 0] 26)).drew.cell? ⟨b, 0, none⟩ = some (.slice AG xs.length cG) := by simp [go_sem, cA0_1, hlt]
  have hcL : (w.alloc (Obj.cells #[Value.slice none 0 0] 26)).drew.cell? ⟨b, 1, none⟩ = some (.slice AL ls.length cL) := by simp [go_sem, cA1_2, hlt]
  have KB := And.intro (show Below w.heap.size w (w.alloc (Obj.cells #[Value.slice none 0 0] 26)).drew from (by repeat (first | exact Below.refl _ _ | (refine Below.alloc ?_ (by first | omega | (simp; done) | (simp; omega)) _) | refine below_drewN ?_ _ | refine Below.drew ?_))) (And.intro hcA hcL)
  go_region_held3 (fun w' => Below w.heap.size w w' ∧ w'.cell? ⟨b, 0, none⟩ = some (.slice AG xs.length cG) ∧ w'.cell? ⟨b, 1, none⟩ = some (.slice AL ls.length cL))
    (first | (with_reducible exact KB) | (with_reducible exact keepC KB hb1 hlt hlt) | (with_reducible exact keepC (keepC KB hb1 hlt hlt) hb2 hlt hlt) | (with_reducible exact keepS (keepC (keepC KB hb1 hlt hlt) hb2 hlt hlt) (Nat.le_refl _) hlt hlt))
    (first
      | (go_at_call 116; (refine (part_any _ _ xs ls i j _ (HG.out.up (by repeat (first | exact Below.refl _ _ | (refine Below.alloc ?_ (by first | omega | (simp; done) | (simp; omega)) _) | refine below_drewN ?_ _ | refine Below.drew ?_))) (HL.out.up (by repeat (first | exact Below.refl _ _ | (refine Below.alloc ?_ (by first | omega | (simp; done) | (simp; omega)) _) | refine below_drewN ?_ _ | refine Below.drew ?_))) Hl.out hn).mono ?_); rintro e w1 ⟨hb1, v1, own1, rfl⟩)
      | (go_at_call 115; (refine (orLimit_any _ _ _ _ own1 (by omega)).mono ?_); rintro e w2 ⟨hb2, v2, own2, rfl⟩; obtain ⟨A2, k2, rfl, _⟩ := own_nil own2; obtain ⟨hbz, KR⟩ := blk_res (Below.tr (Below.undrew hb1) hb2); have cR := KR.cell (i := 0) (v := .slice none 0 0) rfl; have fR := KR.frozen 0; have lR := KR.lt))
  have HO2 := Lib.hid own2
  have HB := Lib.hid hbz
  have HK := Lib.hid KR
  clear KB hb1 hb2 own1 own2 hbz KR hcA hcL
  go_wp2
  refine bodyPost_ret (v := .tuple #[.agg #[.slice A2 (limOut (partG xs ls i j)).length k2], .int .i64 (limCode (partG xs ls i j))]) (by simp [results, Tryz.results95, go_sem, cR]) rfl ⟨HB.out.setCell (Nat.le_refl _) _, _, ?_, rfl⟩
  exact ownsRow_more (ownsRow_setCell_below HO2.out (a := ⟨w.heap.size, 0, none⟩) (by simp [World.drew]) _) (by simp [World.drew])
abbrev NoRes (e : Ending) : Prop := e = .returned (.tuple #[])
theorem addO_none {s g : Option (List GRule)} (h : s = none ∨ g = none) : addO s g = none := by
  rcases h with rfl | rfl
  · rfl
  · cases s <;> rfl
set_option maxRecDepth 100000 in
set_option maxHeartbeats 1000000 in
theorem asmAdd_any (b : Nat) (xs : List GRule) (ls : List Int) (s g : Option (List GRule)) (vN : Value) (ys : List GRule) (cN : Int) (w : World) (h : Asm w b xs ls s) (hN : SlS RuleE w (fun k => k ≠ b ∧ k < w.heap.size) vN ys) (hg : CodeIs g ys cN) :
    Calls Tryz.prog 96 #[.pointer (some ⟨b, 0, none⟩), .agg #[vN], .int .i64 cN] w fun e w' => NoRes e ∧ But b w w' ∧ Asm w' b xs ls (addO s g) := by
  obtain ⟨vG, vL, vO, out, c, hB, hG, hL, hO, hs, hok⟩ := h
  have hlt := hB.lt
  have HB0 := Lib.hid hB
  have HG := Lib.hid hG
  have HL := Lib.hid hL
  have HO := Lib.hid hO
  have HN := Lib.hid hN
  have HK := Lib.hid hok
  obtain ⟨AN, kN, rfl, _⟩ := hN
  obtain ⟨AO, kO, rfl, _⟩ := own_nil hO
  clear hG hL hO
  have hB1 : Blk (w.alloc (Obj.cells #[Value.slice AN ys.length kN] 26)) b _ _ := hB.alloc _
  rcases hs with ⟨rfl, rfl, _⟩ | ⟨rfl, rfl⟩
  · rcases hg with ⟨rfl, rfl, hgy⟩ | ⟨rfl, rfl⟩
    · have c2 := hB.cell (i := 2) (v := .slice AO out.length kO) rfl
      have c3 := hB.cell (i := 3) (v := .int .i64 0) rfl
      have f2 := hB.frozen 2
      have f3 := hB.frozen 3
      have HGY := Lib.hid hgy
      have hy : ys.length ≤ 1048576 := by have := (gram_lens hgy).1; omega
      clear hB hB1 hgy
      go_enter Tryz.func96, Tryz.ntmps96
      go_wp2_with fail
      have KA : Blk ((w.setCell ⟨b, 3, none⟩ (.int .i64 0)).alloc (Obj.cells #[Value.slice AN ys.length kN] 26)) b #[vG, vL, .slice AO out.length kO, .int .i64 0] 131 := (HB0.out.set 3 _).alloc _
      have KN : Blk ((w.setCell ⟨b, 3, none⟩ (.int .i64 0)).alloc (Obj.cells #[Value.slice AN ys.length kN] 26)) w.heap.size #[.slice AN ys.length kN] 26 := by
        have := Blk.new (w.setCell ⟨b, 3, none⟩ (.int .i64 0)) #[Value.slice AN ys.length kN] 26
        simpa using this
      have hbW : But b w ((w.setCell ⟨b, 3, none⟩ (.int .i64 0)).alloc (Obj.cells #[Value.slice AN ys.length kN] 26)) := ((But.refl b w).setCell _).alloc _
      have NW : SlS RuleE ((w.setCell ⟨b, 3, none⟩ (.int .i64 0)).alloc (Obj.cells #[Value.slice AN ys.length kN] 26)) (fun k => k ≠ b ∧ k < w.heap.size) (.slice AN ys.length kN) ys :=
        HN.out.keep fun k hk => (Below.heap_alloc _ _ _ (by simpa using hk.2)).trans (Below.heap_setCell _ _ _ _ hk.1)
      have OW : OwnRules ((w.setCell ⟨b, 3, none⟩ (.int .i64 0)).alloc (Obj.cells #[Value.slice AN ys.length kN] 26)) (b + 1) (.slice AO out.length kO) out := World.ownsRow.alloc (ownsRow_setCell_below HO.out (by show b < b + 1; omega) _) _
      have zW : ((w.setCell ⟨b, 3, none⟩ (.int .i64 0)).alloc (Obj.cells #[Value.slice AN ys.length kN] 26)).heap.size = w.heap.size + 1 := by simp
      clear c2 c3 f2 f3
      generalize (w.setCell ⟨b, 3, none⟩ (.int .i64 0)).alloc (Obj.cells #[Value.slice AN ys.length kN] 26) = W at *
      have HKA := Lib.hid KA
      have HNW := Lib.hid (NW.more (S' := (· < W.heap.size)) fun k hk => by have := hk.2; omega)
      have HOW := Lib.hid OW
      have HBW := Lib.hid hbW
      have c2 := KA.cell (i := 2) (v := .slice AO out.length kO) rfl
      have cN := KN.cell (i := 0) (v := .slice AN ys.length kN) rfl
      have lN := KN.lt
      have lA := KA.lt
      have l1 : out.length ≤ 1048576 := by have := (gram_lens HK.out).1; omega
      have l2 : (joinG out ys).length ≤ 1099511627776 := by have := joinG_len (gram_lens HK.out).1 (gram_lens HGY.out).1; omega
      clear KA NW OW hbW zW KN
      go_region_law (first
        | (go_simp; go_at_call 137; (refine (join_any _ _ out ys _ (HOW.out.sl.up (by repeat (first | exact Below.refl _ _ | (refine Below.alloc ?_ (by first | omega | (simp; done) | (simp; omega)) _) | refine below_drewN ?_ _ | refine Below.drew ?_))) (HNW.out.up (by repeat (first | exact Below.refl _ _ | (refine Below.alloc ?_ (by first | omega | (simp; done) | (simp; omega)) _) | refine below_drewN ?_ _ | refine Below.drew ?_))) l1 hy (gram_smallP HGY.out)).mono ?_); rintro e w1 ⟨hb1, v1, own1, rfl⟩)
        | (go_simp; go_at_call 115; (refine (orLimit_any _ _ _ _ own1 l2).mono ?_); rintro e w2 ⟨hb2, v2, own2, rfl⟩; obtain ⟨A2, k2, rfl, _⟩ := own_nil own2; have KR := HKA.out.up (Below.tr (Below.undrew hb1) hb2); have d2 := KR.frozen 2; have d3 := KR.frozen 3; have d4 := KR.lt; have e2 := KR.cell (i := 2) (v := .slice AO out.length kO) rfl; have e3 := KR.cell (i := 3) (v := .int .i64 0) rfl))
      all_goals
        have hb3 : But b w w2 := HBW.out.tr (Below.tr (Below.undrew hb1) hb2)
        have HB3 := Lib.hid hb3
        have HO2 := Lib.hid (ownsRow_more own2 (base' := b + 1) (by show b + 1 ≤ W.heap.size; omega))
        have HKR := Lib.hid KR
        clear hb1 hb2 own1 own2 KR hb3 cN
        go_wp2
        go_end0
        have hz : ∀ o o' v v', But b w ((w2.setCell ⟨b, o, none⟩ v).setCell ⟨b, o', none⟩ v') := fun o o' v v' => (HB3.out.setCell _).setCell _
        have hzb : ∀ o o' v v', Below b w ((w2.setCell ⟨b, o, none⟩ v).setCell ⟨b, o', none⟩ v') := fun o o' v v' => (hz o o' v v').below (Nat.le_refl _) (Nat.le_of_lt hlt)
        have hz2 : ∀ o o' v v', OwnRules ((w2.setCell ⟨b, o, none⟩ v).setCell ⟨b, o', none⟩ v') (b + 1) (.slice A2 (limOut (joinG out ys)).length k2) (limOut (joinG out ys)) :=
          fun o o' v v' => ownsRow_setCell_below (ownsRow_setCell_below HO2.out (by show b < b + 1; omega) _) (by show b < b + 1; omega) _
        refine ⟨rfl, hz _ _ _ _, vG, vL, .slice A2 (limOut (joinG out ys)).length k2, limOut (joinG out ys), limCode (joinG out ys), ?_, HG.out.below (hzb _ _ _ _), HL.out.below (hzb _ _ _ _), hz2 _ _ _ _, codeIs_lim _, limOut_ok _⟩
        first
          | exact (HKR.out.set 2 _).set 3 _
          | exact (HKR.out.set 3 _).set 2 _
    · have c3 := hB.cell (i := 3) (v := .int .i64 0) rfl
      have f3 := hB.frozen 3
      clear hB hB1
      rw [addO_none (.inr rfl)]
      go_enter Tryz.func96, Tryz.ntmps96
      go_wp2
      go_end0
      have hbb : But b w ((w.setCell ⟨b, 3, none⟩ (.int .i64 3)).alloc (Obj.cells #[Value.slice AN ys.length kN] 26)) := ((But.refl b w).setCell _).alloc _
      have hbz := hbb.below (Nat.le_refl _) (Nat.le_of_lt hlt)
      refine ⟨rfl, hbb, _, _, _, out, 3, ((HB0.out.set 3 _).alloc _), HG.out.below hbz, HL.out.below hbz, World.ownsRow.alloc (ownsRow_setCell_below HO.out (by show b < b + 1; omega) _) _, .inr ⟨rfl, rfl⟩, HK.out⟩
  · rw [addO_none (.inl rfl)]
    have c3 := hB.cell (i := 3) rfl
    clear hB hB1 hg
    go_enter Tryz.func96, Tryz.ntmps96
    go_wp2
    go_end0
    refine ⟨rfl, But.of (by repeat (first | exact Below.refl _ _ | (refine Below.alloc ?_ (by first | omega | (simp; done) | (simp; omega)) _) | refine below_drewN ?_ _ | refine Below.drew ?_)), ?_⟩
    exact Asm.up ⟨_, _, _, _, _, HB0.out, HG.out, HL.out, HO.out, .inr ⟨rfl, rfl⟩, HK.out⟩ (by repeat (first | exact Below.refl _ _ | (refine Below.alloc ?_ (by first | omega | (simp; done) | (simp; omega)) _) | refine below_drewN ?_ _ | refine Below.drew ?_))
theorem own_slS {w : World} {b N : Nat} {v : Value} {l : List GRule} (h : OwnRules w N v l) (hb : b < N) : SlS RuleE w (fun k => k ≠ b ∧ k < w.heap.size) v l :=
  h.slS fun g hg => by have := World.ownsRow.lt h g hg; omega
theorem sl_ne {α : Type} {E : Enc α} {w : World} {b N : Nat} {v : Value} {xs : List α} (h : Sl E w N v xs) (hN : N ≤ b) (hb : b < w.heap.size) : SlS E w (fun k => k ≠ b ∧ k < w.heap.size) v xs :=
  h.more fun k hk => by omega
theorem limOut_len (xs : List GRule) : (limOut xs).length ≤ 400 := (gram_lens (limOut_ok xs)).1
set_option maxRecDepth 100000 in
set_option maxHeartbeats 1000000 in
theorem asmKeep_any (b : Nat) (xs : List GRule) (ls : List Int) (s : Option (List GRule)) (i j : Int) (w : World) (h : Asm w b xs ls s) (hl : lens xs = some ls) (hn : xs.length ≤ 1048576) :
    Calls Tryz.prog 97 #[.pointer (some ⟨b, 0, none⟩), .int .i64 i, .int .i64 j] w fun e w' => NoRes e ∧ But b w w' ∧ Asm w' b xs ls (addO s (limO (partG xs ls i j))) := by
  have hlt := h.lt
  have HA := Lib.hid h
  have Hl := Lib.hid hl
  clear h hl
  go_enter Tryz.func97, Tryz.ntmps97
  go_wp2_with fail
  refine (asmPart_any b xs ls s i j _ HA.out Hl.out hn).mono ?_
  rintro e w1 ⟨hb1, v1, own1, rfl⟩
  have HO := Lib.hid own1
  obtain ⟨A1, k1, rfl, _⟩ := own_nil own1
  have hlim := limOut_len (partG xs ls i j)
  have HB := Lib.hid hb1
  clear own1 hb1
  go_wp2_with fail
  refine (asmAdd_any b xs ls s _ _ _ _ _ (HA.out.up HB.out) (own_slS HO.out hlt) (codeIs_lim (partG xs ls i j))).mono ?_
  rintro e w2 ⟨rfl, hb2, ha2⟩
  go_wp2
  go_end0
  exact ⟨rfl, (But.of HB.out).trans hb2, ha2⟩
def ltr (k : Nat) : UInt8 := UInt8.ofNat (97 + k)
def letR (c : UInt8) : GRule := ⟨⟨#[c]⟩, 0, 0⟩
def hasC (w : ByteArray) (c : UInt8) : Bool := w.data.toList.contains c
def letsG (w : ByteArray) (k : Nat) : List GRule := ((List.range k).filter (fun j => hasC w (ltr j))).map fun j => letR (ltr j)
def idxG (w : ByteArray) (c : UInt8) : Nat := (letsG w 4).idxOf (letR c)
def pairAt (w : ByteArray) (i : Nat) : GRule :=
  pairR (if i = 0 then (idxG w (w.data.getD 0 0) : Nat) else (((letsG w 4).length + i - 1 : Nat) : Int)) (idxG w (w.data.getD (i + 1) 0) : Nat)
def plainK (w : ByteArray) (m : Nat) : List GRule := letsG w 4 ++ (List.range m).map (pairAt w)
def plainG (w : ByteArray) : List GRule := plainK w (w.size - 1)
theorem letsG_succ (w : ByteArray) (k : Nat) : letsG w (k + 1) = if hasC w (ltr k) then letsG w k ++ [letR (ltr k)] else letsG w k := by
  unfold letsG
  rw [List.range_succ, List.filter_append, List.map_append]
  by_cases h : hasC w (ltr k) = true
  · rw [if_pos h]; simp [h]
  · rw [if_neg h]; simp [h]
theorem letsG_len (w : ByteArray) (k : Nat) : (letsG w k).length ≤ k := by
  unfold letsG
  rw [List.length_map]
  exact Nat.le_trans (List.length_filter_le _ _) (by simp)
theorem let_ltr {c : UInt8} (h : letOk c = true) : ∃ k, k < 4 ∧ c = ltr k := by
  simp [letOk] at h
  refine ⟨c.toNat - 97, by omega, ?_⟩
  unfold ltr
  rw [show 97 + (c.toNat - 97) = c.toNat by omega]; simp
theorem mem_letsG {w : ByteArray} {c : UInt8} (h : letOk c = true) (hw : hasC w c = true) : letR c ∈ letsG w 4 := by
  obtain ⟨k, hk, rfl⟩ := let_ltr h
  unfold letsG
  exact List.mem_map.2 ⟨k, List.mem_filter.2 ⟨List.mem_range.2 hk, hw⟩, rfl⟩
theorem hasC_at {w : ByteArray} {i : Nat} (h : i < w.size) : hasC w w[i] = true := by
  unfold hasC
  rw [List.contains_iff_mem]
  exact List.mem_of_getElem? (toList_getElem? w i h)
theorem letOk_at {w : ByteArray} (hw : wordOk w = true) {i : Nat} (h : i < w.size) : letOk w[i] = true := by
  unfold wordOk at hw
  simp only [Bool.and_eq_true] at hw
  exact List.all_eq_true.1 hw.2 _ (List.mem_of_getElem? (toList_getElem? w i h))
theorem idxG_lt {w : ByteArray} (hw : wordOk w = true) {i : Nat} (h : i < w.size) : idxG w w[i] < (letsG w 4).length :=
  List.idxOf_lt_length_iff.2 (mem_letsG (letOk_at hw h) (hasC_at h))
theorem getD_data {w : ByteArray} {i : Nat} (h : i < w.size) : w.data.getD i 0 = w[i] := by
  show w.data.getD i 0 = w.data[i]
  simp [Array.getD, h]
theorem plainK_len (w : ByteArray) (m : Nat) : (plainK w m).length = (letsG w 4).length + m := by simp [plainK]
theorem plainG_len (w : ByteArray) : (plainG w).length ≤ 4 + w.size := by
  rw [plainG, plainK_len]
  have := letsG_len w 4
  omega
theorem plainK_succ (w : ByteArray) (m : Nat) : plainK w (m + 1) = plainK w m ++ [pairAt w m] := by
  unfold plainK; rw [List.range_succ, List.map_append, List.append_assoc]; rfl
theorem plainK_zero (w : ByteArray) : plainK w 0 = letsG w 4 := by simp [plainK]
theorem letsG_ok (w : ByteArray) : ∀ r ∈ letsG w 4, ∃ k, k < 4 ∧ r = letR (ltr k) := by
  intro r hr
  unfold letsG at hr
  obtain ⟨k, h1, h2⟩ := List.mem_map.1 hr
  exact ⟨k, List.mem_range.1 (List.mem_filter.1 h1).1, h2.symm⟩
theorem okRule_letR {k i : Nat} (h : k < 4) : okRule i (letR (ltr k)) = true := by
  have : k = 0 ∨ k = 1 ∨ k = 2 ∨ k = 3 := by omega
  rcases this with rfl | rfl | rfl | rfl <;> rfl
theorem okAll_letsG (w : ByteArray) : OkAll (letsG w 4) := by
  intro i r hi
  obtain ⟨k, hk, rfl⟩ := letsG_ok w r (List.mem_of_getElem? hi)
  exact okRule_letR hk
theorem okAll_plainK {w : ByteArray} (hw : wordOk w = true) : ∀ m, m + 1 ≤ w.size ∨ m = 0 → OkAll (plainK w m) := by
  intro m
  induction m with
  | zero => intro _; rw [plainK_zero]; exact okAll_letsG w
  | succ m ih =>
    intro h
    have hm : m + 1 < w.size := by omega
    rw [plainK_succ]
    refine (ih (by omega)).snoc ?_
    rw [plainK_len]
    have h0 := idxG_lt hw (i := 0) (by omega)
    have h1 := idxG_lt hw (i := m + 1) hm
    unfold pairAt
    rw [getD_data hm, getD_data (show 0 < w.size by omega)]
    refine okRule_pair ?_ (by omega)
    split <;> omega
theorem okAll_plainG {w : ByteArray} (hw : wordOk w = true) : OkAll (plainG w) := okAll_plainK hw _ (by omega)
def hasL (xs : List GRule) (k : Nat) : Bool := xs.contains (letR (ltr k))
def baseStep (xs : List GRule) (ws : List ByteArray) (p : List GRule × List Int) (k : Nat) : List GRule × List Int :=
  if (ws.getD k ⟨#[]⟩).size ≠ 0 ∧ hasL xs k = true then (p.1 ++ (plainG (ws.getD k ⟨#[]⟩)).map (raiseR p.1.length), p.2.set k (((p.1.length + (plainG (ws.getD k ⟨#[]⟩)).length : Nat) : Int) - 1)) else p
def baseG (xs : List GRule) (ws : List ByteArray) (k : Nat) : List GRule × List Int := (List.range k).foldl (baseStep xs ws) ([], [-1, -1, -1, -1])
def standStep (starts : List Int) (p : List GRule × List Int) (r : GRule) : List GRule × List Int :=
  if r.pair then
    if p.2.getD r.left.toNat 0 < 0 then (p.1, p.2 ++ [p.2.getD r.right.toNat 0])
    else if p.2.getD r.right.toNat 0 < 0 then (p.1, p.2 ++ [p.2.getD r.left.toNat 0])
    else (p.1 ++ [pairR (p.2.getD r.left.toNat 0) (p.2.getD r.right.toNat 0)], p.2 ++ [(p.1.length : Int)])
  else (p.1, p.2 ++ [starts.getD ((r.letter.data.getD 0 0).toNat - 97) 0])
def standG (xs : List GRule) (ws : List ByteArray) (k : Nat) : List GRule × List Int := (xs.take k).foldl (standStep (baseG xs ws 4).2) ((baseG xs ws 4).1, [])
def mapP (xs : List GRule) (ws : List ByteArray) : List GRule × List Int := standG xs ws xs.length
end Go.Proofs.YtdacndamehiglaaGreatDoor
namespace Go.Proofs
open Go.Shelf Go.RowKit
def Tryz.lays137_ren : Go.Shelf.Ren := ⟨fun | 137 => 169 | 217 => 197 | 266 => 210 | n => n, fun | 9 => 9 | 5 => 5 | 3 => 3 | n => n, fun | n => n⟩
theorem Tryz.lays137 : Go.Proofs.Lays.n137 Tryz.prog Tryz.lays137_ren := {
  mixed := by kernel_rfl
  f137 := Tryz.func169.trans (congrArg some (by kernel_rfl))
  f217 := Tryz.func197.trans (congrArg some (by kernel_rfl))
  f266 := Tryz.func210.trans (congrArg some (by kernel_rfl))
  t3 := Tryz.underlying3
  a3 := Tryz.isAgg3
  z3 := Tryz.sizeOf3
  v3 := Tryz.zeroValue3
  t5 := Tryz.underlying5
  a5 := Tryz.isAgg5
  z5 := Tryz.sizeOf5
  v5 := Tryz.zeroValue5
  t9 := Tryz.underlying9
  a9 := Tryz.isAgg9
  z9 := Tryz.sizeOf9
  v9 := Tryz.zeroValue9 }
theorem Tryz.strings_IndexByte (s : ByteArray) (c : Int) (w : World) :
    Calls Tryz.prog 169 #[.string s, .int .u8 c] w fun e w' => e = .returned (.int .i64 (Lib.indexByte s.data.toList c.toNat.toUInt8)) ∧ w' = w := Any.strings_IndexByte Tryz.lays137 s c w
def Tryz.lays146_ren : Go.Shelf.Ren := ⟨fun | 146 => 74 | 221 => 124 | 268 => 161 | 138 => 162 | 143 => 163 | 195 => 188 | 197 => 189 | 218 => 190 | 219 => 191 | 260 => 205 | 217 => 197 | 225 => 206 | 224 => 207 | 267 => 208 | 266 => 210 | 314 => 216 | n => n, fun | 9 => 9 | 31 => 97 | 3 => 3 | 4 => 4 | 0 => 0 | 105 => 220 | 21 => 21 | 5 => 5 | 46 => 142 | 119 => 242 | 139 => 245 | 138 => 244 | 146 => 179 | 51 => 178 | n => n, fun | 1 => 2 | 3 => 4 | 4 => 5 | n => n⟩
theorem Tryz.lays146 : Go.Proofs.Lays.n146 Tryz.prog Tryz.lays146_ren := {
  mixed := by kernel_rfl
  f138 := Tryz.func162.trans (congrArg some (by kernel_rfl))
  f143 := Tryz.func163.trans (congrArg some (by kernel_rfl))
  f146 := Tryz.func74.trans (congrArg some (by kernel_rfl))
  f195 := Tryz.func188.trans (congrArg some (by kernel_rfl))
  f197 := Tryz.func189.trans (congrArg some (by kernel_rfl))
  f217 := Tryz.func197.trans (congrArg some (by kernel_rfl))
  f218 := Tryz.func190.trans (congrArg some (by kernel_rfl))
  f219 := Tryz.func191.trans (congrArg some (by kernel_rfl))
  f221 := Tryz.func124.trans (congrArg some (by kernel_rfl))
  f224 := Tryz.func207.trans (congrArg some (by kernel_rfl))
  f225 := Tryz.func206.trans (congrArg some (by kernel_rfl))
  f260 := Tryz.func205.trans (congrArg some (by kernel_rfl))
  f266 := Tryz.func210.trans (congrArg some (by kernel_rfl))
  f267 := Tryz.func208.trans (congrArg some (by kernel_rfl))
  f268 := Tryz.func161.trans (congrArg some (by kernel_rfl))
  f314 := Tryz.func216.trans (congrArg some (by kernel_rfl))
  t0 := Tryz.underlying0
  a0 := Tryz.isAgg0
  z0 := Tryz.sizeOf0
  v0 := Tryz.zeroValue0
  t3 := Tryz.underlying3
  a3 := Tryz.isAgg3
  z3 := Tryz.sizeOf3
  v3 := Tryz.zeroValue3
  t4 := Tryz.underlying4
  a4 := Tryz.isAgg4
  z4 := Tryz.sizeOf4
  v4 := Tryz.zeroValue4
  t5 := Tryz.underlying5
  a5 := Tryz.isAgg5
  z5 := Tryz.sizeOf5
  v5 := Tryz.zeroValue5
  t9 := Tryz.underlying9
  a9 := Tryz.isAgg9
  z9 := Tryz.sizeOf9
  v9 := Tryz.zeroValue9
  t21 := Tryz.underlying21
  a21 := Tryz.isAgg21
  z21 := Tryz.sizeOf21
  v21 := Tryz.zeroValue21
  t31 := Tryz.underlying97
  a31 := Tryz.isAgg97
  z31 := Tryz.sizeOf97
  v31 := Tryz.zeroValue97
  t46 := Tryz.underlying142
  a46 := Tryz.isAgg142
  z46 := Tryz.sizeOf142
  v46 := Tryz.zeroValue142
  t51 := Tryz.underlying178
  a51 := Tryz.isAgg178
  z51 := Tryz.sizeOf178
  v51 := Tryz.zeroValue178
  t105 := Tryz.underlying220
  a105 := Tryz.isAgg220
  z105 := Tryz.sizeOf220
  v105 := Tryz.zeroValue220
  t119 := Tryz.underlying242
  a119 := Tryz.isAgg242
  z119 := Tryz.sizeOf242
  t138 := Tryz.underlying244
  a138 := Tryz.isAgg244
  z138 := Tryz.sizeOf244
  v138 := Tryz.zeroValue244
  t139 := Tryz.underlying245
  a139 := Tryz.isAgg245
  z139 := Tryz.sizeOf245
  v139 := Tryz.zeroValue245
  t146 := Tryz.underlying179
  a146 := Tryz.isAgg179
  z146 := Tryz.sizeOf179
  v146 := Tryz.zeroValue179
  g1 := by kernel_rfl
  g3 := by kernel_rfl
  g4 := by kernel_rfl }
open Go.RowKit Go.Lib in
theorem Tryz.strings_Split_chars (s sep : ByteArray) (w : World) (h0 : sep.size = 0) (hs : s.size < 4294967281) (hascii : ∀ (j : Nat) b, s.data.toList[j]? = some b → b.toNat < 128) :
    Calls Tryz.prog 74 #[.string s, .string sep] w fun e w' =>
      e = .returned (.slice (some ⟨(w.iter s s.size).heap.size, 0, none⟩) s.size s.size) ∧ w' = (w.iter s s.size).alloc (.cells ((Lib.charsB s).map Value.string).toArray 9) := Any.strings_Split_chars Tryz.lays146 (by kernel_rfl) s sep w h0 hs hascii
end Go.Proofs
namespace Go.Proofs.YtdacndamehiglaaGreatDoor
open Go.RowKit
theorem Tryz.infoBy : (Tryz.prog.info? 5).map (fun i => (i.zero, i.size, i.bytes)) = some (some (.int .u8 0), 1, 1) := by kernel_rfl
def OwnB (w : World) (base : Nat) (v : Value) (l : List UInt8) : Prop := w.ownsRow base 5 1 v l.length (Lib.byteCells l)
theorem byteCells_snoc (l : List UInt8) (x : UInt8) : Lib.byteCells (l ++ [x]) = Lib.byteCells l ++ [.int .u8 (x.toNat : Int)] := by simp [Lib.byteCells]
theorem OwnB.alloc {w : World} {base : Nat} {v : Value} {l : List UInt8} (h : OwnB w base v l) (o : Obj) : OwnB (w.alloc o) base v l := World.ownsRow.alloc h o
theorem OwnB.drew {w : World} {base : Nat} {v : Value} {l : List UInt8} (h : OwnB w base v l) : OwnB w.drew base v l := h
theorem OwnB.below {w w' : World} {base : Nat} {v : Value} {l : List UInt8} (h : OwnB w base v l) (hb : Below w.heap.size w w') : OwnB w' base v l := ownsRow_below h hb
theorem OwnB.empty {w : World} {base N : Nat} (hN : N = w.heap.size) (hb : base ≤ w.heap.size) : OwnB (w.alloc (Obj.cells #[] 5)) base (Value.slice (some ⟨N, 0, none⟩) 0 0) [] := by
  subst hN
  exact World.ownsRow_lit w #[] 0 hb (Nat.zero_le _) rfl
theorem OwnB.at_ {w : World} {base : Nat} {v : Value} {l : List UInt8} (h : OwnB w base v l) (h0 : 0 < l.length) : ∃ g cap, v = .slice (some ⟨g, 0, none⟩) l.length cap ∧ l.length ≤ cap ∧ g < w.heap.size ∧ ∀ t (ht : t < l.length), w.cell? ⟨g, t, none⟩ = some (.int .u8 (l[t].toNat : Int)) := by
  obtain ⟨g, cap, hv, hb, hlt, hc, hcell⟩ := own_form h h0
  exact ⟨g, cap, hv, hc.1, hlt, fun t ht => hcell t _ (by simp [Lib.byteCells, List.getElem?_eq_getElem ht])⟩
theorem convB (L : List UInt8) (b p n c : Nat) (W : World) (hn : n = L.length) (h : ∀ t (ht : t < L.length), W.cell? ⟨b, p + t, none⟩ = some (.int .u8 (L[t].toNat : Int))) :
    (convert 22 9 (.slice (some ⟨b, p, none⟩) n c)).run Tryz.prog W = .ok (.string ⟨L.toArray⟩) W := by
  subst hn
  exact run_convert_bytes_back (P := Tryz.prog) W 22 9 5 ⟨b, p, none⟩ c L Tryz.underlying22 Tryz.underlying5 Tryz.underlying9 (fun j hj => by
    have e : (⟨b, p, none⟩ : Addr).add j = ⟨b, p + j, none⟩ := by unfold Addr.add; split <;> simp_all
    rw [e]; exact h j hj)
theorem OwnB.string {w : World} {base n : Nat} {g : Nat} {c : Nat} {l : List UInt8} (h : OwnB w base (.slice (some ⟨g, 0, none⟩) n c) l) :
    (convert 22 9 (.slice (some ⟨g, 0, none⟩) n c)).run Tryz.prog w = .ok (.string ⟨l.toArray⟩) w := by
  have hn : n = l.length := by
    obtain ⟨A', c', hv, _⟩ := own_nil h
    injection hv
  refine convB l g 0 n c w hn fun t ht => ?_
  obtain ⟨g', cap, hv, _, _, hc⟩ := h.at_ (by omega)
  injection hv with e1 e2 e3
  injection e1 with e1
  injection e1 with e1
  subst e1
  rw [Nat.zero_add]; exact hc t ht
theorem OwnB.some_ {w : World} {base : Nat} {v : Value} {l : List UInt8} (h : OwnB w base v l) (h0 : 0 < l.length) : ∃ g c, v = .slice (some ⟨g, 0, none⟩) l.length c := by
  obtain ⟨g, c, hv, _⟩ := h.at_ h0
  exact ⟨g, c, hv⟩
theorem push_byte {W : World} {ops : Array Oper} {rest : List Oper} {o : Oper} {a : Act} {Q : Exit → Act → World → Prop} (hgd : o.guard = none) (s x : Operand)
    (ho : o.op = .call { callee := .builtin .append, args := #[s, x], argTypes := #[22, 22] }) {y : UInt8} {base : Nat} {v : Value} {l : List UInt8}
    (hs : a.eval s = v) {N : Nat} (hx : a.eval x = .slice (some ⟨N, 0, none⟩) 1 1) (hN : N = W.heap.size) (hown : OwnB W base v l) (hlen : l.length ≤ 1099511627776) (hbase : base ≤ W.heap.size)
    (h : ∀ v' w', OwnB w' base v' (l ++ [y]) → (W.alloc (.cells #[.int .u8 (y.toNat : Int)] 5)).grownBy w' v.ownBlock → Below base W w' → wpList Tryz.prog ops Q rest (a.put o.dst v') w') :
    wpList Tryz.prog ops Q (o :: rest) a (W.alloc (.cells #[.int .u8 (y.toNat : Int)] 5)) := by
  subst hN
  obtain ⟨i0, hi0, hz0, hz1, hz2⟩ := info_parts Tryz.infoBy
  refine wpList_push hgd s x 22 ho i0 (.int .u8 0) 1 1 Tryz.underlying22 hi0 hz0 hz1 hz2 rfl (by decide) hs hx rfl (by simp [Value.oneCell']) hown (by omega) (by omega) hbase ?_
  intro v' w' h1 h2 h3
  refine h v' w' ?_ h2 h3
  unfold OwnB
  rw [byteCells_snoc]
  simpa using h1
theorem convC (W : World) (N : Nat) (hN : N = W.heap.size) (c : UInt8) : (convert 22 9 (.slice (some ⟨N, 0, none⟩) 1 1)).run Tryz.prog (W.alloc (.cells #[.int .u8 (c.toNat : Int)] 5)) = .ok (.string (letR c).letter) (W.alloc (.cells #[.int .u8 (c.toNat : Int)] 5)) := by
  subst hN
  rw [run_convert_bytes_arg (W.alloc (.cells #[.int .u8 (c.toNat : Int)] 5)) 22 5 Tryz.underlying22 Tryz.underlying5 W.heap.size 0 1 1 [(c.toNat : Int)] rfl
    (fun i hi => by
      have : i = 0 := by omega
      subst this
      simp [go_sem]) 9 Tryz.underlying9]
  have : strOfNums [(c.toNat : Int)] = (letR c).letter := by
    simp only [strOfNums, letR, List.map_cons, List.map_nil]
    simp
  rw [this]
set_option maxRecDepth 100000 in
theorem letter_any (c : UInt8) (w : World) : Calls Tryz.prog 170 #[.int .u8 (c.toNat : Int)] w fun e w' => e = .returned (.agg #[.string (letR c).letter, .int .i64 (letR c).left, .int .i64 (letR c).right]) ∧ Below w.heap.size w w' := by
  have hcv := convC (w.alloc (Obj.cells #[.string ⟨#[]⟩, .int .i64 0, .int .i64 0] 112)) (w.heap.size + 1) (by simp) c
  go_enter Tryz.func170, Tryz.ntmps170
  go_wp2
  refine bodyPost_ret (v := .agg #[.string (letR c).letter, .int .i64 0, .int .i64 0]) (by simp [results, Tryz.results170, go_sem]) rfl ⟨rfl, ?_⟩
  exact (by repeat (first | exact Below.refl _ _ | (refine Below.alloc ?_ (by first | omega | (simp; done) | (simp; omega)) _) | (refine Below.setCell ?_ (by first | exact Nat.le_refl _ | (show _ ≤ _; omega) | (simp; done) | (simp; omega)) _) | refine below_drewN ?_ _ | refine Below.drew ?_))
def idxR (xs : List GRule) (X : GRule) : Int := if xs.idxOf X < xs.length then (xs.idxOf X : Int) else -1
theorem idxR_pos (xs : List GRule) (X : GRule) : decide (0 ≤ idxR xs X) = xs.contains X := by
  unfold idxR
  by_cases h : X ∈ xs
  · rw [if_pos (List.idxOf_lt_length_iff.2 h)]; simp [h]
  · rw [if_neg (fun e => h (List.idxOf_lt_length_iff.1 e))]; simp [h]
theorem idxOf_ge {K : List GRule} {X : GRule} {k : Nat} (h : ∀ j y, j < k → K[j]? = some y → X ≠ y) (hk : k ≤ K.length) : k ≤ K.idxOf X := by
  rcases Nat.lt_or_ge (K.idxOf X) k with hlt | hge
  · have hm : X ∈ K := List.idxOf_lt_length_iff.1 (by omega)
    exact absurd rfl (h _ _ hlt (idxOf_at hm))
  · exact hge
set_option maxRecDepth 100000 in
set_option maxHeartbeats 1000000 in
theorem indexRules_any (v : Value) (xs : List GRule) (X : GRule) (w : World) (h : Sl RuleE w w.heap.size v xs) :
    Calls Tryz.prog 172 #[v, .agg #[.string X.letter, .int .i64 X.left, .int .i64 X.right]] w fun e w' => e = .returned (.int .i64 (idxR xs X)) ∧ Below w.heap.size w w' := by
  obtain ⟨A, c, rfl, hc, hm, hrow⟩ := h
  unfold maxLen at hm
  go_enter Tryz.func172, Tryz.ntmps172
  go_wp2_with fail
  have KX := Blk.new w #[.string X.letter, .int .i64 X.left, .int .i64 X.right] 112
  have hB := Lib.hid ((Below.refl w.heap.size w).alloc (Nat.le_refl _) (Obj.cells #[.string X.letter, .int .i64 X.left, .int .i64 X.right] 112))
  generalize w.alloc (Obj.cells #[.string X.letter, .int .i64 X.left, .int .i64 X.right] 112) = W at *
  have HKX := Lib.hid KX
  clear KX
  go_loopw [8] (fun i wr => ∃ k : Nat, k ≤ xs.length ∧ i = .int .i64 k ∧ (∃ m, wr = W.drewN m) ∧ Hid (∀ j y, j < k → xs[j]? = some y → X ≠ y)) (fun i _ => xs.length - (intOf i).toNat)
  case atStart => exact ⟨0, Nat.zero_le _, rfl, ⟨0, rfl⟩, fun j y hj => absurd hj (by omega)⟩
  case round =>
    obtain ⟨k, hk, rfl, ⟨m, rfl⟩, Hno⟩ := hrel
    by_cases hlt : k < xs.length
    · obtain ⟨b, o, rfl, hbl, hcell⟩ := hrow.rule hlt
      obtain ⟨y, hy⟩ : ∃ y, xs[k]? = some y := ⟨_, List.getElem?_eq_getElem hlt⟩
      obtain ⟨g0, g1, g2⟩ := hcell k y hy
      have d0 := (hB.out.cell (p := ⟨b, o + k * 3, none⟩) hbl).trans g0
      have d1 := (hB.out.cell (p := ⟨b, o + k * 3 + 1, none⟩) hbl).trans g1
      have d2 := (hB.out.cell (p := ⟨b, o + k * 3 + 2, none⟩) hbl).trans g2
      have x0 := HKX.out.cell (i := 0) (v := .string X.letter) rfl
      have x1 := HKX.out.cell (i := 1) (v := .int .i64 X.left) rfl
      have x2 := HKX.out.cell (i := 2) (v := .int .i64 X.right) rfl
      have Hy := Lib.hid hy
      have hki : (k : Int) < (xs.length : Int) := by omega
      clear hcell hy g0 g1 g2
      have hno' : X ≠ y → Hid (∀ j z, j < k + 1 → xs[j]? = some z → X ≠ z) := fun hne j z hj hz => by
        by_cases e : j = k
        · subst e
          rw [Hy.out] at hz; injection hz with hz; rw [← hz]; exact hne
        · exact Hno.out j z (by omega) hz
      have Hno' := Lib.hid hno'
      clear hno'
      by_cases e2 : X = y
      · subst e2
        have he := Lib.hid (show xs.idxOf X = k from Nat.le_antisymm (idxOf_le_of Hy.out) (idxOf_ge Hno.out hk))
        go_wp2_with fail
        go_quiet (fail)
        go_wp2_with fail
        go_ret
        exact ⟨ret_int (by rw [idxR, he.out, if_pos hlt]), below_drewN (below_drewN hB.out _) _⟩
      · have HNE := Lib.hid e2
        rcases rule_ne e2 with f1 | ⟨f1, f2⟩ | ⟨f1, f2, f3⟩
        · clear e2
          go_wp2_with fail
          go_quiet (fail)
          go_wp2_with fail
          go_roundw
          case rel => exact ⟨k + 1, by omega, by go_num, ⟨_, rfl⟩, Hno'.out HNE.out⟩
          case measure => simp [intOf]; omega
        · rw [f1] at x0
          clear e2 f1
          go_wp2_with fail
          go_quiet (fail)
          go_wp2_with fail
          go_roundw
          case rel => exact ⟨k + 1, by omega, by go_num, ⟨_, rfl⟩, Hno'.out HNE.out⟩
          case measure => simp [intOf]; omega
        · rw [f1] at x0
          rw [f2] at x1
          clear e2 f1 f2
          go_wp2_with fail
          go_quiet (fail)
          go_wp2_with fail
          go_roundw
          case rel => exact ⟨k + 1, by omega, by go_num, ⟨_, rfl⟩, Hno'.out HNE.out⟩
          case measure => simp [intOf]; omega
    · have hkn : k = xs.length := by omega
      have hge := idxOf_ge Hno.out hk
      go_wp2
      go_ret
      exact ⟨ret_int (by rw [idxR, if_neg (by omega)]), below_drewN hB.out _⟩
theorem containsRules_any (v : Value) (xs : List GRule) (X : GRule) (w : World) (h : Sl RuleE w w.heap.size v xs) :
    Calls Tryz.prog 179 #[v, .agg #[.string X.letter, .int .i64 X.left, .int .i64 X.right]] w fun e w' => e = .returned (.bool (xs.contains X)) ∧ Below w.heap.size w w' := by
  have HS := Lib.hid h
  obtain ⟨A, c, rfl, _⟩ := h
  go_enter Tryz.func179, Tryz.ntmps179
  go_wp2_with fail
  refine (indexRules_any _ xs X _ (HS.out.up (by repeat (first | exact Below.refl _ _ | (refine Below.alloc ?_ (by first | omega | (simp; done) | (simp; omega)) _) | refine below_drewN ?_ _ | refine Below.drew ?_)))).mono ?_
  rintro e w2 ⟨rfl, hb2⟩
  go_wp2
  go_ret
  exact ⟨ret_bool (idxR_pos xs X), (Below.unalloc hb2).1⟩
set_option maxRecDepth 100000 in
theorem hasLetter_any (v : Value) (xs : List GRule) (k : Nat) (w : World) (h : Sl RuleE w w.heap.size v xs) (hk : k < 4) :
    Calls Tryz.prog 141 #[.agg #[v], .int .u8 (97 + k : Int)] w fun e w' => e = .returned (.bool (hasL xs k)) ∧ Below w.heap.size w w' := by
  have HS := Lib.hid h
  have hc : (97 + k : Int) = ((ltr k).toNat : Int) := by
    have : k = 0 ∨ k = 1 ∨ k = 2 ∨ k = 3 := by omega
    rcases this with rfl | rfl | rfl | rfl <;> rfl
  obtain ⟨A, c, rfl, _⟩ := h
  rw [hc]
  clear hc
  go_enter Tryz.func141, Tryz.ntmps141
  go_wp2_with fail
  have hcA : (w.alloc (Obj.cells #[Value.slice A xs.length c] 26)).drew.cell? ⟨w.heap.size, 0, none⟩ = some (.slice A xs.length c) := by simp [go_sem]
  have KB := And.intro (show Below (w.alloc (Obj.cells #[Value.slice A xs.length c] 26)).heap.size (w.alloc (Obj.cells #[Value.slice A xs.length c] 26)) (w.alloc (Obj.cells #[Value.slice A xs.length c] 26)).drew from Below.drew (Below.refl _ _)) hcA
  have hlt : w.heap.size < (w.alloc (Obj.cells #[Value.slice A xs.length c] 26)).heap.size := by simp
  go_region_held3 (fun w' => Below (w.alloc (Obj.cells #[Value.slice A xs.length c] 26)).heap.size (w.alloc (Obj.cells #[Value.slice A xs.length c] 26)) w' ∧ w'.cell? ⟨w.heap.size, 0, none⟩ = some (.slice A xs.length c))
    (first | (with_reducible exact KB) | (with_reducible exact keepB KB hb1 hlt) | (with_reducible exact keepB (keepB KB hb1 hlt) hb2 hlt))
    (first
      | (go_at_call 170; (refine (letter_any _ _).mono ?_); rintro e w1 ⟨rfl, hb1⟩)
      | (go_at_call 179; (refine (containsRules_any _ xs (letR (ltr k)) _ ((HS.out.up (by repeat (first | exact Below.refl _ _ | (refine Below.alloc ?_ (by first | omega | (simp; done) | (simp; omega)) _) | refine below_drewN ?_ _ | refine Below.drew ?_))).up hb1)).mono ?_); rintro e w2 ⟨rfl, hb2⟩))
  have hz := (Below.unalloc (keepB (keepB KB hb1 hlt) hb2 hlt).1).1
  have HZ := Lib.hid hz
  clear KB hb1 hb2 hz hcA
  go_wp2
  go_ret
  exact ⟨ret_bool (by simp [hasL]), HZ.out⟩
theorem step_append_rulesK {W : World} {ops : Array Oper} {o : Oper} {a : Act} {K : Act → World → Prop} {Q : Exit → Act → World → Prop} {E : Prop} (hgd : o.guard = none) (s x : Operand)
    (ho : o.op = .call { callee := .builtin .append, args := #[s, x], argTypes := #[24, 24] }) {ys : List GRule} {base : Nat} {v sv : Value} {l : List GRule} {S : Nat → Prop}
    (hs : a.eval s = v) (hx : a.eval x = sv) (hown : OwnRules W base v l) (hsl : SlS RuleE W S sv ys) (hlen : l.length + ys.length ≤ 1099511627776) (hbase : base ≤ W.heap.size)
    (h : ∀ v' w', OwnRules w' base v' (l ++ ys) → W.grownBy w' v.ownBlock → (v'.ownBlock = v.ownBlock ∨ W.grownBy w' none) → Below base W w' → K (a.put o.dst v') w') :
    if Region.wanted o (yielded ops a.tmps) = true then Oper.wp Tryz.prog o a W K Q else E := by
  have hw : Region.wanted o (yielded ops a.tmps) = true := by simp [Region.wanted, hgd]
  rw [if_pos hw]
  obtain ⟨i0, hi0, hz0, hz1, hz2⟩ := info_parts Tryz.infoR
  obtain ⟨A, c, rfl, hc, hm, hrow⟩ := hsl
  have H : ∃ v' w', (Builtin.append_ #[24, 24] o.type #[v, .slice A ys.length c]).run Tryz.prog W = .ok v' w' ∧ OwnRules w' base v' (l ++ ys) ∧ W.grownBy w' v.ownBlock ∧ (v'.ownBlock = v.ownBlock ∨ W.grownBy w' none) := by
    rcases A with _ | ad
    · have h0 : ys = [] := by
        rcases Nat.eq_zero_or_pos ys.length with h0 | h0
        · exact List.eq_nil_of_length_eq_zero h0
        · obtain ⟨b, o, h, _⟩ := hrow h0; cases h
      subst h0
      exact ⟨v, W, run_append_of_nil W base _ _ 112 i0 3 Tryz.underlying24 hi0 v _ _ hown c, by simpa using hown, World.grownBy.refl W _, .inl rfl⟩
    · obtain ⟨v', w', hrun, h2, h3, _, h5⟩ := run_append_own_at (P := Tryz.prog) W base 24 o.type 112 i0 _ 3 32 Tryz.underlying24 hi0 hz0 hz1 hz2 rfl (by decide) v _ _ hown ad ys.length c (ys.flatMap GRule.cells)
        (cells_len ys) (rules_cells hrow) (rules_one ys) (by simp only [maxLen]; omega) (by omega) hbase
      refine ⟨v', w', hrun, by unfold OwnRules; simpa using h2, h3, ?_⟩
      rcases h5 with h5 | h5
      · exact .inl h5
      · right
        rcases hown.2 with ⟨rfl, _⟩ | ⟨g, cap, cur, rfl, hg1, hg2, hg3, hg4, hg5, hg6⟩
        · exact h3
        · -- the row has moved: it did not fit
          rcases Nat.lt_or_ge cap (l.length + ys.length) with hlt | hge
          · obtain ⟨v2, w2, hr2, _, h6⟩ := run_append_arg_grows (P := Tryz.prog) W 24 o.type 112 i0 _ 3 32 Tryz.underlying24 hi0 hz0 hz1 hz2 rfl (by decide) ⟨g, 0, none⟩ l.length cap (l.flatMap GRule.cells) hown.1
              (fun j u hu => by
                have hj : j < (l.flatMap GRule.cells).length := (List.getElem?_eq_some_iff.1 hu).1
                rw [hown.1] at hj
                have := hown.cellAt j hj
                simpa [Addr.add_lit, hu] using this)
              ad ys.length c (ys.flatMap GRule.cells) (cells_len ys) (rules_cells hrow) hlt (by simp only [maxLen]; omega) (by omega)
            rw [hrun] at hr2
            cases hr2
            exact h6
          · have hr2 := run_append_room (P := Tryz.prog) W 24 o.type 112 i0 Tryz.underlying24 hi0 g l.length cap cur hg2 ad ys.length c (ys.flatMap GRule.cells) (by rw [hz1]; exact cells_len ys) (rules_cells hrow) (rules_one ys) hge
              (by rw [hz1, hg5, cells_len, ← Nat.add_mul]; exact Nat.mul_le_mul_right _ hge)
            rw [hrun] at hr2
            cases hr2
            have : g = W.heap.size := by simpa [Value.ownBlock] using h5
            have h7 := (Array.getElem?_eq_some_iff.1 hg2).1
            omega
  obtain ⟨v', w', hrun, h2, h3, h4⟩ := H
  unfold Oper.wp execOp
  simp only [ho, resolve, invoke, builtin, Sem.run_bind, Sem.run_pure, Result.andThen_ok, List.map_toArray, List.map_cons, List.map_nil, hs, hx, hrun]
  exact h v' w' h2 h3 h4 ((Below.refl base W).grown h3 hbase (fun k hk => (World.ownsRow.lt hown k hk).1))
theorem step_push_ruleK {W : World} {ops : Array Oper} {o : Oper} {a : Act} {K : Act → World → Prop} {Q : Exit → Act → World → Prop} {E : Prop} (hgd : o.guard = none) (s x : Operand)
    (ho : o.op = .call { callee := .builtin .append, args := #[s, x], argTypes := #[24, 24] }) {t : ByteArray} {p q : Int} {base : Nat} {v : Value} {l : List GRule}
    (hs : a.eval s = v) {N : Nat} (hx : a.eval x = .slice (some ⟨N, 0, none⟩) 1 1) (hN : N = W.heap.size) (hown : OwnRules W base v l) (hlen : l.length ≤ 1099511627775) (hbase : base ≤ W.heap.size)
    (h : ∀ v' w', OwnRules w' base v' (l ++ [⟨t, p, q⟩]) → (W.alloc (.cells #[.string t, .int .i64 p, .int .i64 q] 112)).grownBy w' v.ownBlock → (v'.ownBlock = v.ownBlock ∨ (W.alloc (.cells #[.string t, .int .i64 p, .int .i64 q] 112)).grownBy w' none) →
      Below base (W.alloc (.cells #[.string t, .int .i64 p, .int .i64 q] 112)) w' → K (a.put o.dst v') w') :
    if Region.wanted o (yielded ops a.tmps) = true then Oper.wp Tryz.prog o a (W.alloc (.cells #[.string t, .int .i64 p, .int .i64 q] 112)) K Q else E := by
  subst hN
  refine step_append_rulesK (ys := [⟨t, p, q⟩]) (S := fun b => b = W.heap.size) hgd s x ho hs hx (hown.alloc _) ⟨_, 1, rfl, Nat.le_refl _, by simp [maxLen], fun _ => ⟨W.heap.size, 0, rfl, rfl, fun k r hk => ⟨r.cells, rfl, fun j u hu => ?_⟩⟩⟩ (by simp; omega) (by simp; omega) h
  have hk0 : k = 0 := by
    have := (List.getElem?_eq_some_iff.1 hk).1
    simp at this; exact this
  subst hk0
  simp at hk
  subst hk
  have hc : (W.alloc (.cells #[.string t, .int .i64 p, .int .i64 q] 112)).cell? ⟨W.heap.size, j, none⟩ = (#[Value.string t, .int .i64 p, .int .i64 q] : Array Value)[j]? := cell_of_row _ _ _ _ 112 (0, 0) (heap_alloc_new W _)
  simp only [Nat.zero_mul, Nat.zero_add]
  rw [hc]
  simpa [GRule.cells] using hu
theorem Boxed.grownO {w w' : World} {B base e s n : Nat} {t : TypeId} {v u : Value} {xs : List Value} {o : Obj} (h : Boxed w B t u) (hte : t ≠ e) (own : w.ownsRow base e s v n xs) (hg : (w.alloc o).grownBy w' v.ownBlock) : Boxed w' B t u := (h.alloc o).kept hg (h.not_row hte own)
theorem lets_keep {W w' : World} {g n c base : Nat} {v v' : Value} {L R : List GRule} {S : Nat → Prop} (hL : SlS RuleE W S (.slice (some ⟨g, 0, none⟩) n c) L) (hS : ∀ b, S b → b < W.heap.size) {l' : List GRule} (own' : OwnRules w' base v' l') (el : l' = L ++ R) (hg : W.grownBy w' v.ownBlock)
    (hor : v'.ownBlock = v.ownBlock ∨ W.grownBy w' none) : SlS RuleE w' S (.slice (some ⟨g, 0, none⟩) n c) L := by
  have own : w'.ownsRow base 112 3 v' (L ++ R).length ((L ++ R).flatMap GRule.cells) := by rw [← el]; exact own'
  obtain ⟨A, c', e, h1, h2, hrow⟩ := hL
  injection e with e1 e2 e3
  subst e1; subst e2; subst e3
  refine ⟨_, c, rfl, h1, h2, fun hn => ?_⟩
  obtain ⟨b, o, eb, hSb, hc⟩ := hrow hn
  injection eb with eb
  injection eb with eb1 eb2
  subst eb1; subst eb2
  have hlt := hS _ hSb
  refine ⟨g, 0, rfl, hSb, fun k x hx => ⟨x.cells, rfl, fun j u hu => ?_⟩⟩
  have hold : some g ≠ v.ownBlock ∨ W.grownBy w' none → w'.cell? ⟨g, 0 + (k * RuleE.size + j), none⟩ = some u := fun hh => by
    obtain ⟨cs, hcs, hcell⟩ := hc k x hx
    have ecs : cs = x.cells := hcs
    subst ecs
    have hb : w'.heap[g]? = W.heap[g]? := by
      rcases hh with hh | hh
      · exact hg.block g hlt hh
      · exact hh.block g hlt (by simp)
    rw [World.cell?_of_block (a := ⟨g, _, none⟩) hb]
    exact hcell j u hu
  rcases hor with hor | hor
  · by_cases hgv : some g = v.ownBlock
    · -- the same row, grown in place
      have hxl : (L ++ R)[k]? = some x := by rw [List.getElem?_append_left (List.getElem?_eq_some_iff.1 hx).1]; exact hx
      have hpos : 0 < (L ++ R).length := by have := (List.getElem?_eq_some_iff.1 hxl).1; omega
      obtain ⟨g2, cap, hv, _, _, _, hcell⟩ := own_form own hpos
      have : g2 = g := by
        have h3 : v'.ownBlock = some g2 := by rw [hv]; rfl
        rw [h3, ← hgv] at hor
        exact Option.some.inj hor
      subst this
      obtain ⟨c0, c1, c2⟩ := cells3 (L ++ R) k x hxl
      match j, hu with
      | 0, hu => simp [GRule.cells] at hu; subst hu; simpa [RuleE] using hcell _ _ c0
      | 1, hu => simp [GRule.cells] at hu; subst hu; simpa [RuleE] using hcell _ _ c1
      | 2, hu => simp [GRule.cells] at hu; subst hu; simpa [RuleE] using hcell _ _ c2
      | j + 3, hu => simp [GRule.cells] at hu
    · exact hold (.inl hgv)
  · exact hold (.inr hor)
end Go.Proofs.YtdacndamehiglaaGreatDoor
