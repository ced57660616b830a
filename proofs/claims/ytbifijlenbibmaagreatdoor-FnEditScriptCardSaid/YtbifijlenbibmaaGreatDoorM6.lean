import Derived.Test.YtbifijlenbibmaaGreatDoorM2
import Derived.Test.YtbifijlenbibmaaGreatDoorM5
import Derived.Deep.RegionWith
import Derived.Deep.RegionLaw
import Derived.Shelf.Small.Strs
import Derived.Shelf.Utf8.RuneCount
import Derived.Shelf.LaysM
import Derived.Shelf.Strings.Search1
import Derived.Shelf.Strings.Search2
import Derived.Shelf.Strings.Search3
import Derived.Shelf.Strings.Count
import Derived.Shelf.Strings.Shaped
import Derived.Shelf.Strings.Split
import Derived.Shelf.Strings.SplitShaped
import Derived.Shelf.Strings.RuneCount
import Derived.Shelf.Strings.Explode
import Derived.Test.YtbifijlenbibmaaGreatDoorProg
import Derived.Test.YtbifijlenbibmaaGreatDoorM1
import Derived.Lib.UnsafeStr
import Derived.Laws.IdiomStrings
import Derived.Test.YtbifijlenbibmaaGreatDoorM3
import Derived.ArgAppend
import Derived.Deep.DeepCutAuto
import Derived.Deep.CutBlock
namespace Go.Proofs.YtbifijlenbibmaaGreatDoor
open Go.RowKit
def addO (s g : Option (List GRule)) : Option (List GRule) := match s, g with
  | some o, some x => if gramOk (joinG o x) then some (joinG o x) else none
  | _, _ => none
def limO (xs : List GRule) : Option (List GRule) := if gramOk xs then some xs else none
def CodeIs (s : Option (List GRule)) (out : List GRule) (c : Int) : Prop := (s = some out ∧ c = 0 ∧ gramOk out = true) ∨ (s = none ∧ c = 3)
theorem codeIs_lim (xs : List GRule) : CodeIs (limO xs) (limOut xs) (limCode xs) := by
  unfold CodeIs limO limOut limCode
  cases h : gramOk xs with
  | true => exact .inl ⟨rfl, rfl, by simpa using h⟩
  | false => exact .inr ⟨rfl, rfl⟩
theorem limOut_ok (xs : List GRule) : gramOk (limOut xs) = true := by
  unfold limOut
  cases h : gramOk xs with
  | true => simpa using h
  | false => rfl
def Asm (w : World) (b : Nat) (xs : List GRule) (ls : List Int) (s : Option (List GRule)) : Prop :=
  ∃ vG vL vO out c, Blk w b #[vG, vL, vO, .int .i64 c] 199 ∧ Sl RuleE w b vG xs ∧ Sl IntE w b vL ls ∧ OwnRules w (b + 1) vO out ∧ CodeIs s out c ∧ gramOk out = true
theorem Asm.lt {w : World} {b : Nat} {xs : List GRule} {ls : List Int} {s : Option (List GRule)} (h : Asm w b xs ls s) : b < w.heap.size := by
  obtain ⟨_, _, _, _, _, h, _⟩ := h; exact h.lt
theorem Asm.up {w w' : World} {b : Nat} {xs : List GRule} {ls : List Int} {s : Option (List GRule)} (h : Asm w b xs ls s) (hb : Below w.heap.size w w') : Asm w' b xs ls s := by
  have hlt := h.lt
  obtain ⟨vG, vL, vO, out, c, h1, h2, h3, h4, h5, h6⟩ := h
  exact ⟨vG, vL, vO, out, c, h1.up hb, h2.below (hb.mono (by omega)), h3.below (hb.mono (by omega)), OwnRules.below h4 hb, h5, h6⟩
theorem sl_up {α : Type} {E : Enc α} {w w' : World} {N : Nat} {v : Value} {xs : List α} (h : Sl E w N v xs) (hN : N ≤ w.heap.size) (hb : Below w.heap.size w w') : Sl E w' w'.heap.size v xs := (h.le hN).up hb
theorem keepS {wr W : World} {p q a : Addr} {v u x : Value} (h : Below wr.heap.size wr W ∧ W.cell? p = some v ∧ W.cell? q = some u) (ha : wr.heap.size ≤ a.block) (hp : p.block < wr.heap.size) (hq : q.block < wr.heap.size) :
    Below wr.heap.size wr (W.setCell a x) ∧ (W.setCell a x).cell? p = some v ∧ (W.setCell a x).cell? q = some u :=
  ⟨h.1.setCell ha x, (World.cell?_of_block (Below.heap_setCell _ _ _ _ (by omega))).trans h.2.1, (World.cell?_of_block (Below.heap_setCell _ _ _ _ (by omega))).trans h.2.2⟩
theorem blk_res {w w' : World} {a : Array Value} {t : TypeId} (hb : Below (w.alloc (.cells a t)).heap.size (w.alloc (.cells a t)) w') : Below w.heap.size w w' ∧ Blk w' w.heap.size a t := Below.unalloc hb
set_option maxRecDepth 100000 in
set_option maxHeartbeats 1000000 in
theorem asmPart_any (b : Nat) (xs : List GRule) (ls : List Int) (s : Option (List GRule)) (i j : Int) (w : World) (h : Asm w b xs ls s) (hl : lens xs = some ls) (hn : xs.length ≤ 1048576) :
    Calls Tryz.prog 152 #[.pointer (some ⟨b, 0, none⟩), .int .i64 i, .int .i64 j] w (GRes (limOut (partG xs ls i j)) (limCode (partG xs ls i j)) w) := by
  obtain ⟨vG, vL, vO, out, c, hB, hG, hL, hO, hs, hok⟩ := h
  have hlt := hB.lt
  have HG := Lib.hid (hG.le (Nat.le_of_lt hlt))
  have HL := Lib.hid (hL.le (Nat.le_of_lt hlt))
  have Hl := Lib.hid hl
  have hpl := partG_len hl i j
  obtain ⟨AG, cG, rfl, _⟩ := hG
  obtain ⟨AL, cL, rfl, _⟩ := hL
  clear hO hs hl
  have cA0_1 := Blk.cell (i := 0) (v := .slice AG xs.length cG) hB rfl
  have cA1_2 := Blk.cell (i := 1) (v := .slice AL ls.length cL) hB rfl
  have lA_3 := Blk.lt hB
  clear hB hok
  go_enter Tryz.func152, Tryz.ntmps152
  go_wp2_with fail
  have hcA : (w.alloc (Obj.cells #[Value.slice none 0 0] 30)).drew.cell? ⟨b, 0, none⟩ = some (.slice AG xs.length cG) := by simp [go_sem, cA0_1, hlt]
  have hcL : (w.alloc (Obj.cells #[Value.slice none 0 0] 30)).drew.cell? ⟨b, 1, none⟩ = some (.slice AL ls.length cL) := by simp [go_sem, cA1_2, hlt]
  have KB := And.intro (show Below w.heap.size w (w.alloc (Obj.cells #[Value.slice none 0 0] 30)).drew from (by repeat (first | exact Below.refl _ _ | (refine Below.alloc ?_ (by first | omega | (simp; done) | (simp; omega)) _) | refine below_drewN ?_ _ | refine Below.drew ?_))) (And.intro hcA hcL)
  go_region_held3 (fun w' => Below w.heap.size w w' ∧ w'.cell? ⟨b, 0, none⟩ = some (.slice AG xs.length cG) ∧ w'.cell? ⟨b, 1, none⟩ = some (.slice AL ls.length cL))
    (first | (with_reducible exact KB) | (with_reducible exact keepC KB hb1 hlt hlt) | (with_reducible exact keepC (keepC KB hb1 hlt hlt) hb2 hlt hlt) | (with_reducible exact keepS (keepC (keepC KB hb1 hlt hlt) hb2 hlt hlt) (Nat.le_refl _) hlt hlt))
    (first
      | (go_at_call 166; (refine (part_any _ _ xs ls i j _ (HG.out.up (by repeat (first | exact Below.refl _ _ | (refine Below.alloc ?_ (by first | omega | (simp; done) | (simp; omega)) _) | refine below_drewN ?_ _ | refine Below.drew ?_))) (HL.out.up (by repeat (first | exact Below.refl _ _ | (refine Below.alloc ?_ (by first | omega | (simp; done) | (simp; omega)) _) | refine below_drewN ?_ _ | refine Below.drew ?_))) Hl.out hn).mono ?_); rintro e w1 ⟨hb1, v1, own1, rfl⟩)
      | (go_at_call 139; (refine (orLimit_any _ _ _ _ own1 (by omega)).mono ?_); rintro e w2 ⟨hb2, v2, own2, rfl⟩; obtain ⟨A2, k2, rfl, _⟩ := own_nil own2; obtain ⟨hbz, KR⟩ := blk_res (Below.tr (Below.undrew hb1) hb2); have cR := KR.cell (i := 0) (v := .slice none 0 0) rfl; have fR := KR.frozen 0; have lR := KR.lt))
  have HO2 := Lib.hid own2
  have HB := Lib.hid hbz
  have HK := Lib.hid KR
  clear KB hb1 hb2 own1 own2 hbz KR hcA hcL
  go_wp2
  refine bodyPost_ret (v := .tuple #[.agg #[.slice A2 (limOut (partG xs ls i j)).length k2], .int .i64 (limCode (partG xs ls i j))]) (by simp [results, Tryz.results152, go_sem, cR]) rfl ⟨HB.out.setCell (Nat.le_refl _) _, _, ?_, rfl⟩
  exact ownsRow_more (ownsRow_setCell_below HO2.out (a := ⟨w.heap.size, 0, none⟩) (by simp [World.drew]) _) (by simp [World.drew])
abbrev NoRes (e : Ending) : Prop := e = .returned (.tuple #[])
theorem addO_none {s g : Option (List GRule)} (h : s = none ∨ g = none) : addO s g = none := by
  rcases h with rfl | rfl
  · rfl
  · cases s <;> rfl
theorem addO_lim (o x : List GRule) : addO (some o) (some x) = limO (joinG o x) := rfl
set_option maxRecDepth 100000 in
set_option maxHeartbeats 1000000 in
theorem asmAdd_any (b : Nat) (xs : List GRule) (ls : List Int) (s g : Option (List GRule)) (vN : Value) (ys : List GRule) (cN : Int) (w : World) (h : Asm w b xs ls s) (hN : SlS RuleE w (fun k => k ≠ b ∧ k < w.heap.size) vN ys) (hg : CodeIs g ys cN) :
    Calls Tryz.prog 153 #[.pointer (some ⟨b, 0, none⟩), .agg #[vN], .int .i64 cN] w fun e w' => NoRes e ∧ But b w w' ∧ Asm w' b xs ls (addO s g) := by
  obtain ⟨vG, vL, vO, out, c, hB, hG, hL, hO, hs, hok⟩ := h
  have hlt := hB.lt
  have HB0 := Lib.hid hB
  have HG := Lib.hid hG
  have HL := Lib.hid hL
  have HO := Lib.hid hO
  have HN := Lib.hid hN
  have HK := Lib.hid hok
  obtain ⟨AN, kN, rfl, _⟩ := hN
  obtain ⟨AO, kO, rfl, _⟩ := own_nil hO
  clear hG hL hO
  have hB1 : Blk (w.alloc (Obj.cells #[Value.slice AN ys.length kN] 30)) b _ _ := hB.alloc _
  rcases hs with ⟨rfl, rfl, _⟩ | ⟨rfl, rfl⟩
  · rcases hg with ⟨rfl, rfl, hgy⟩ | ⟨rfl, rfl⟩
    · have c2 := hB.cell (i := 2) (v := .slice AO out.length kO) rfl
      have c3 := hB.cell (i := 3) (v := .int .i64 0) rfl
      have f2 := hB.frozen 2
      have f3 := hB.frozen 3
      have HGY := Lib.hid hgy
      have hy : ys.length ≤ 1048576 := by have := (gram_lens hgy).1; omega
      clear hB hB1 hgy
      go_enter Tryz.func153, Tryz.ntmps153
      go_wp2_with fail
      have KA : Blk ((w.setCell ⟨b, 3, none⟩ (.int .i64 0)).alloc (Obj.cells #[Value.slice AN ys.length kN] 30)) b #[vG, vL, .slice AO out.length kO, .int .i64 0] 199 := (HB0.out.set 3 _).alloc _
      have KN : Blk ((w.setCell ⟨b, 3, none⟩ (.int .i64 0)).alloc (Obj.cells #[Value.slice AN ys.length kN] 30)) w.heap.size #[.slice AN ys.length kN] 30 := by
        have := Blk.new (w.setCell ⟨b, 3, none⟩ (.int .i64 0)) #[Value.slice AN ys.length kN] 30
        simpa using this
      have hbW : But b w ((w.setCell ⟨b, 3, none⟩ (.int .i64 0)).alloc (Obj.cells #[Value.slice AN ys.length kN] 30)) := ((But.refl b w).setCell _).alloc _
      have NW : SlS RuleE ((w.setCell ⟨b, 3, none⟩ (.int .i64 0)).alloc (Obj.cells #[Value.slice AN ys.length kN] 30)) (fun k => k ≠ b ∧ k < w.heap.size) (.slice AN ys.length kN) ys :=
        HN.out.keep fun k hk => (Below.heap_alloc _ _ _ (by simpa using hk.2)).trans (Below.heap_setCell _ _ _ _ hk.1)
      have OW : OwnRules ((w.setCell ⟨b, 3, none⟩ (.int .i64 0)).alloc (Obj.cells #[Value.slice AN ys.length kN] 30)) (b + 1) (.slice AO out.length kO) out := World.ownsRow.alloc (ownsRow_setCell_below HO.out (by show b < b + 1; omega) _) _
      have zW : ((w.setCell ⟨b, 3, none⟩ (.int .i64 0)).alloc (Obj.cells #[Value.slice AN ys.length kN] 30)).heap.size = w.heap.size + 1 := by simp
      clear c2 c3 f2 f3
      generalize (w.setCell ⟨b, 3, none⟩ (.int .i64 0)).alloc (Obj.cells #[Value.slice AN ys.length kN] 30) = W at *
      have HKA := Lib.hid KA
      have HNW := Lib.hid (NW.more (S' := (· < W.heap.size)) fun k hk => by have := hk.2; omega)
      have HOW := Lib.hid OW
      have HBW := Lib.hid hbW
      have c2 := KA.cell (i := 2) (v := .slice AO out.length kO) rfl
      have cN := KN.cell (i := 0) (v := .slice AN ys.length kN) rfl
      have lN := KN.lt
      have lA := KA.lt
      have l1 : out.length ≤ 1048576 := by have := (gram_lens HK.out).1; omega
      have l2 : (joinG out ys).length ≤ 1099511627776 := by have := joinG_len (gram_lens HK.out).1 (gram_lens HGY.out).1; omega
      clear KA NW OW hbW zW KN
      go_region_law (first
        | (go_simp; go_at_call 218; (refine (join_any _ _ out ys _ (HOW.out.sl.up (by repeat (first | exact Below.refl _ _ | (refine Below.alloc ?_ (by first | omega | (simp; done) | (simp; omega)) _) | refine below_drewN ?_ _ | refine Below.drew ?_))) (HNW.out.up (by repeat (first | exact Below.refl _ _ | (refine Below.alloc ?_ (by first | omega | (simp; done) | (simp; omega)) _) | refine below_drewN ?_ _ | refine Below.drew ?_))) l1 hy (gram_smallP HGY.out)).mono ?_); rintro e w1 ⟨hb1, v1, own1, rfl⟩)
        | (go_simp; go_at_call 139; (refine (orLimit_any _ _ _ _ own1 l2).mono ?_); rintro e w2 ⟨hb2, v2, own2, rfl⟩; obtain ⟨A2, k2, rfl, _⟩ := own_nil own2; have KR := HKA.out.up (Below.tr (Below.undrew hb1) hb2); have d2 := KR.frozen 2; have d3 := KR.frozen 3; have d4 := KR.lt; have e2 := KR.cell (i := 2) (v := .slice AO out.length kO) rfl; have e3 := KR.cell (i := 3) (v := .int .i64 0) rfl))
      all_goals
        have hb3 : But b w w2 := HBW.out.tr (Below.tr (Below.undrew hb1) hb2)
        have HB3 := Lib.hid hb3
        have HO2 := Lib.hid (ownsRow_more own2 (base' := b + 1) (by show b + 1 ≤ W.heap.size; omega))
        have HKR := Lib.hid KR
        clear hb1 hb2 own1 own2 KR hb3 cN
        go_wp2
        go_end0
        have hz : ∀ o o' v v', But b w ((w2.setCell ⟨b, o, none⟩ v).setCell ⟨b, o', none⟩ v') := fun o o' v v' => (HB3.out.setCell _).setCell _
        have hzb : ∀ o o' v v', Below b w ((w2.setCell ⟨b, o, none⟩ v).setCell ⟨b, o', none⟩ v') := fun o o' v v' => (hz o o' v v').below (Nat.le_refl _) (Nat.le_of_lt hlt)
        have hz2 : ∀ o o' v v', OwnRules ((w2.setCell ⟨b, o, none⟩ v).setCell ⟨b, o', none⟩ v') (b + 1) (.slice A2 (limOut (joinG out ys)).length k2) (limOut (joinG out ys)) :=
          fun o o' v v' => ownsRow_setCell_below (ownsRow_setCell_below HO2.out (by show b < b + 1; omega) _) (by show b < b + 1; omega) _
        refine ⟨rfl, hz _ _ _ _, vG, vL, .slice A2 (limOut (joinG out ys)).length k2, limOut (joinG out ys), limCode (joinG out ys), ?_, HG.out.below (hzb _ _ _ _), HL.out.below (hzb _ _ _ _), hz2 _ _ _ _, codeIs_lim _, limOut_ok _⟩
        first
          | exact (HKR.out.set 2 _).set 3 _
          | exact (HKR.out.set 3 _).set 2 _
    · have c3 := hB.cell (i := 3) (v := .int .i64 0) rfl
      have f3 := hB.frozen 3
      clear hB hB1
      rw [addO_none (.inr rfl)]
      go_enter Tryz.func153, Tryz.ntmps153
      go_wp2
      go_end0
      have hbb : But b w ((w.setCell ⟨b, 3, none⟩ (.int .i64 3)).alloc (Obj.cells #[Value.slice AN ys.length kN] 30)) := ((But.refl b w).setCell _).alloc _
      have hbz := hbb.below (Nat.le_refl _) (Nat.le_of_lt hlt)
      refine ⟨rfl, hbb, _, _, _, out, 3, ((HB0.out.set 3 _).alloc _), HG.out.below hbz, HL.out.below hbz, World.ownsRow.alloc (ownsRow_setCell_below HO.out (by show b < b + 1; omega) _) _, .inr ⟨rfl, rfl⟩, HK.out⟩
  · rw [addO_none (.inl rfl)]
    have c3 := hB.cell (i := 3) rfl
    clear hB hB1 hg
    go_enter Tryz.func153, Tryz.ntmps153
    go_wp2
    go_end0
    refine ⟨rfl, But.of (by repeat (first | exact Below.refl _ _ | (refine Below.alloc ?_ (by first | omega | (simp; done) | (simp; omega)) _) | refine below_drewN ?_ _ | refine Below.drew ?_)), ?_⟩
    exact Asm.up ⟨_, _, _, _, _, HB0.out, HG.out, HL.out, HO.out, .inr ⟨rfl, rfl⟩, HK.out⟩ (by repeat (first | exact Below.refl _ _ | (refine Below.alloc ?_ (by first | omega | (simp; done) | (simp; omega)) _) | refine below_drewN ?_ _ | refine Below.drew ?_))
theorem own_slS {w : World} {b N : Nat} {v : Value} {l : List GRule} (h : OwnRules w N v l) (hb : b < N) : SlS RuleE w (fun k => k ≠ b ∧ k < w.heap.size) v l :=
  h.slS fun g hg => by have := World.ownsRow.lt h g hg; omega
theorem sl_ne {α : Type} {E : Enc α} {w : World} {b N : Nat} {v : Value} {xs : List α} (h : Sl E w N v xs) (hN : N ≤ b) (hb : b < w.heap.size) : SlS E w (fun k => k ≠ b ∧ k < w.heap.size) v xs :=
  h.more fun k hk => by omega
theorem limOut_len (xs : List GRule) : (limOut xs).length ≤ 400 := (gram_lens (limOut_ok xs)).1
set_option maxRecDepth 100000 in
set_option maxHeartbeats 1000000 in
theorem asmKeep_any (b : Nat) (xs : List GRule) (ls : List Int) (s : Option (List GRule)) (i j : Int) (w : World) (h : Asm w b xs ls s) (hl : lens xs = some ls) (hn : xs.length ≤ 1048576) :
    Calls Tryz.prog 154 #[.pointer (some ⟨b, 0, none⟩), .int .i64 i, .int .i64 j] w fun e w' => NoRes e ∧ But b w w' ∧ Asm w' b xs ls (addO s (limO (partG xs ls i j))) := by
  have hlt := h.lt
  have HA := Lib.hid h
  have Hl := Lib.hid hl
  clear h hl
  go_enter Tryz.func154, Tryz.ntmps154
  go_wp2_with fail
  refine (asmPart_any b xs ls s i j _ HA.out Hl.out hn).mono ?_
  rintro e w1 ⟨hb1, v1, own1, rfl⟩
  have HO := Lib.hid own1
  obtain ⟨A1, k1, rfl, _⟩ := own_nil own1
  have hlim := limOut_len (partG xs ls i j)
  have HB := Lib.hid hb1
  clear own1 hb1
  go_wp2_with fail
  refine (asmAdd_any b xs ls s _ _ _ _ _ (HA.out.up HB.out) (own_slS HO.out hlt) (codeIs_lim (partG xs ls i j))).mono ?_
  rintro e w2 ⟨rfl, hb2, ha2⟩
  go_wp2
  go_end0
  exact ⟨rfl, (But.of HB.out).trans hb2, ha2⟩
def ltr (k : Nat) : UInt8 := UInt8.ofNat (97 + k)
def letR (c : UInt8) : GRule := ⟨⟨#[c]⟩, 0, 0⟩
def hasC (w : ByteArray) (c : UInt8) : Bool := w.data.toList.contains c
def letsG (w : ByteArray) (k : Nat) : List GRule := ((List.range k).filter (fun j => hasC w (ltr j))).map fun j => letR (ltr j)
def idxG (w : ByteArray) (c : UInt8) : Nat := (letsG w 4).idxOf (letR c)
def pairAt (w : ByteArray) (i : Nat) : GRule :=
  pairR (if i = 0 then (idxG w (w.data.getD 0 0) : Nat) else (((letsG w 4).length + i - 1 : Nat) : Int)) (idxG w (w.data.getD (i + 1) 0) : Nat)
def plainK (w : ByteArray) (m : Nat) : List GRule := letsG w 4 ++ (List.range m).map (pairAt w)
def plainG (w : ByteArray) : List GRule := plainK w (w.size - 1)
theorem letsG_succ (w : ByteArray) (k : Nat) : letsG w (k + 1) = if hasC w (ltr k) then letsG w k ++ [letR (ltr k)] else letsG w k := by
  unfold letsG
  rw [List.range_succ, List.filter_append, List.map_append]
  by_cases h : hasC w (ltr k) = true
  · rw [if_pos h]; simp [h]
  · rw [if_neg h]; simp [h]
theorem letsG_len (w : ByteArray) (k : Nat) : (letsG w k).length ≤ k := by
  unfold letsG
  rw [List.length_map]
  exact Nat.le_trans (List.length_filter_le _ _) (by simp)
theorem let_ltr {c : UInt8} (h : letOk c = true) : ∃ k, k < 4 ∧ c = ltr k := by
  simp [letOk] at h
  refine ⟨c.toNat - 97, by omega, ?_⟩
  unfold ltr
  rw [show 97 + (c.toNat - 97) = c.toNat by omega]; simp
theorem mem_letsG {w : ByteArray} {c : UInt8} (h : letOk c = true) (hw : hasC w c = true) : letR c ∈ letsG w 4 := by
  obtain ⟨k, hk, rfl⟩ := let_ltr h
  unfold letsG
  exact List.mem_map.2 ⟨k, List.mem_filter.2 ⟨List.mem_range.2 hk, hw⟩, rfl⟩
theorem hasC_at {w : ByteArray} {i : Nat} (h : i < w.size) : hasC w w[i] = true := by
  unfold hasC
  rw [List.contains_iff_mem]
  exact List.mem_of_getElem? (toList_getElem? w i h)
theorem letOk_at {w : ByteArray} (hw : wordOk w = true) {i : Nat} (h : i < w.size) : letOk w[i] = true := by
  unfold wordOk at hw
  simp only [Bool.and_eq_true] at hw
  exact List.all_eq_true.1 hw.2 _ (List.mem_of_getElem? (toList_getElem? w i h))
theorem idxG_lt {w : ByteArray} (hw : wordOk w = true) {i : Nat} (h : i < w.size) : idxG w w[i] < (letsG w 4).length :=
  List.idxOf_lt_length_iff.2 (mem_letsG (letOk_at hw h) (hasC_at h))
theorem getD_data {w : ByteArray} {i : Nat} (h : i < w.size) : w.data.getD i 0 = w[i] := by
  show w.data.getD i 0 = w.data[i]
  simp [Array.getD, h]
theorem plainK_len (w : ByteArray) (m : Nat) : (plainK w m).length = (letsG w 4).length + m := by simp [plainK]
theorem plainG_len (w : ByteArray) : (plainG w).length ≤ 4 + w.size := by
  rw [plainG, plainK_len]
  have := letsG_len w 4
  omega
theorem plainK_succ (w : ByteArray) (m : Nat) : plainK w (m + 1) = plainK w m ++ [pairAt w m] := by
  unfold plainK; rw [List.range_succ, List.map_append, List.append_assoc]; rfl
theorem plainK_zero (w : ByteArray) : plainK w 0 = letsG w 4 := by simp [plainK]
theorem letsG_ok (w : ByteArray) : ∀ r ∈ letsG w 4, ∃ k, k < 4 ∧ r = letR (ltr k) := by
  intro r hr
  unfold letsG at hr
  obtain ⟨k, h1, h2⟩ := List.mem_map.1 hr
  exact ⟨k, List.mem_range.1 (List.mem_filter.1 h1).1, h2.symm⟩
theorem okRule_letR {k i : Nat} (h : k < 4) : okRule i (letR (ltr k)) = true := by
  have : k = 0 ∨ k = 1 ∨ k = 2 ∨ k = 3 := by omega
  rcases this with rfl | rfl | rfl | rfl <;> rfl
theorem okAll_letsG (w : ByteArray) : OkAll (letsG w 4) := by
  intro i r hi
  obtain ⟨k, hk, rfl⟩ := letsG_ok w r (List.mem_of_getElem? hi)
  exact okRule_letR hk
theorem okAll_plainK {w : ByteArray} (hw : wordOk w = true) : ∀ m, m + 1 ≤ w.size ∨ m = 0 → OkAll (plainK w m) := by
  intro m
  induction m with
  | zero => intro _; rw [plainK_zero]; exact okAll_letsG w
  | succ m ih =>
    intro h
    have hm : m + 1 < w.size := by omega
    rw [plainK_succ]
    refine (ih (by omega)).snoc ?_
    rw [plainK_len]
    have h0 := idxG_lt hw (i := 0) (by omega)
    have h1 := idxG_lt hw (i := m + 1) hm
    unfold pairAt
    rw [getD_data hm, getD_data (show 0 < w.size by omega)]
    refine okRule_pair ?_ (by omega)
    split <;> omega
theorem okAll_plainG {w : ByteArray} (hw : wordOk w = true) : OkAll (plainG w) := okAll_plainK hw _ (by omega)
def hasL (xs : List GRule) (k : Nat) : Bool := xs.contains (letR (ltr k))
def baseStep (xs : List GRule) (ws : List ByteArray) (p : List GRule × List Int) (k : Nat) : List GRule × List Int :=
  if (ws.getD k ⟨#[]⟩).size ≠ 0 ∧ hasL xs k = true then (p.1 ++ (plainG (ws.getD k ⟨#[]⟩)).map (raiseR p.1.length), p.2.set k (((p.1.length + (plainG (ws.getD k ⟨#[]⟩)).length : Nat) : Int) - 1)) else p
def baseG (xs : List GRule) (ws : List ByteArray) (k : Nat) : List GRule × List Int := (List.range k).foldl (baseStep xs ws) ([], [-1, -1, -1, -1])
def standStep (starts : List Int) (p : List GRule × List Int) (r : GRule) : List GRule × List Int :=
  if r.pair then
    if p.2.getD r.left.toNat 0 < 0 then (p.1, p.2 ++ [p.2.getD r.right.toNat 0])
    else if p.2.getD r.right.toNat 0 < 0 then (p.1, p.2 ++ [p.2.getD r.left.toNat 0])
    else (p.1 ++ [pairR (p.2.getD r.left.toNat 0) (p.2.getD r.right.toNat 0)], p.2 ++ [(p.1.length : Int)])
  else (p.1, p.2 ++ [starts.getD ((r.letter.data.getD 0 0).toNat - 97) 0])
def standG (xs : List GRule) (ws : List ByteArray) (k : Nat) : List GRule × List Int := (xs.take k).foldl (standStep (baseG xs ws 4).2) ((baseG xs ws 4).1, [])
def mapP (xs : List GRule) (ws : List ByteArray) : List GRule × List Int := standG xs ws xs.length
end Go.Proofs.YtbifijlenbibmaaGreatDoor
namespace Go.Proofs
open Go.Shelf Go.RowKit
def Tryz.lays137_ren : Go.Shelf.Ren := ⟨fun | 137 => 208 | 217 => 273 | 266 => 309 | n => n, fun | 9 => 9 | 5 => 5 | 3 => 3 | n => n, fun | n => n⟩
theorem Tryz.lays137 : Go.Proofs.Lays.n137 Tryz.prog Tryz.lays137_ren := {
  mixed := by kernel_rfl
  f137 := Tryz.func208.trans (congrArg some (by kernel_rfl))
  f217 := Tryz.func273.trans (congrArg some (by kernel_rfl))
  f266 := Tryz.func309.trans (congrArg some (by kernel_rfl))
  t3 := Tryz.underlying3
  a3 := Tryz.isAgg3
  z3 := Tryz.sizeOf3
  v3 := Tryz.zeroValue3
  t5 := Tryz.underlying5
  a5 := Tryz.isAgg5
  z5 := Tryz.sizeOf5
  v5 := Tryz.zeroValue5
  t9 := Tryz.underlying9
  a9 := Tryz.isAgg9
  z9 := Tryz.sizeOf9
  v9 := Tryz.zeroValue9 }
theorem Tryz.strings_IndexByte (s : ByteArray) (c : Int) (w : World) :
    Calls Tryz.prog 208 #[.string s, .int .u8 c] w fun e w' => e = .returned (.int .i64 (Lib.indexByte s.data.toList c.toNat.toUInt8)) ∧ w' = w := Any.strings_IndexByte Tryz.lays137 s c w
def Tryz.lays146_ren : Go.Shelf.Ren := ⟨fun | 146 => 73 | 221 => 136 | 268 => 200 | 138 => 201 | 143 => 202 | 195 => 264 | 197 => 265 | 218 => 266 | 219 => 267 | 260 => 304 | 217 => 273 | 225 => 305 | 224 => 306 | 267 => 307 | 266 => 309 | 314 => 325 | n => n, fun | 9 => 9 | 31 => 77 | 3 => 3 | 4 => 4 | 0 => 0 | 105 => 330 | 21 => 21 | 5 => 5 | 46 => 206 | 119 => 376 | 139 => 379 | 138 => 378 | 146 => 286 | 51 => 285 | n => n, fun | 1 => 2 | 3 => 4 | 4 => 5 | n => n⟩
theorem Tryz.lays146 : Go.Proofs.Lays.n146 Tryz.prog Tryz.lays146_ren := {
  mixed := by kernel_rfl
  f138 := Tryz.func201.trans (congrArg some (by kernel_rfl))
  f143 := Tryz.func202.trans (congrArg some (by kernel_rfl))
  f146 := Tryz.func73.trans (congrArg some (by kernel_rfl))
  f195 := Tryz.func264.trans (congrArg some (by kernel_rfl))
  f197 := Tryz.func265.trans (congrArg some (by kernel_rfl))
  f217 := Tryz.func273.trans (congrArg some (by kernel_rfl))
  f218 := Tryz.func266.trans (congrArg some (by kernel_rfl))
  f219 := Tryz.func267.trans (congrArg some (by kernel_rfl))
  f221 := Tryz.func136.trans (congrArg some (by kernel_rfl))
  f224 := Tryz.func306.trans (congrArg some (by kernel_rfl))
  f225 := Tryz.func305.trans (congrArg some (by kernel_rfl))
  f260 := Tryz.func304.trans (congrArg some (by kernel_rfl))
  f266 := Tryz.func309.trans (congrArg some (by kernel_rfl))
  f267 := Tryz.func307.trans (congrArg some (by kernel_rfl))
  f268 := Tryz.func200.trans (congrArg some (by kernel_rfl))
  f314 := Tryz.func325.trans (congrArg some (by kernel_rfl))
  t0 := Tryz.underlying0
  a0 := Tryz.isAgg0
  z0 := Tryz.sizeOf0
  v0 := Tryz.zeroValue0
  t3 := Tryz.underlying3
  a3 := Tryz.isAgg3
  z3 := Tryz.sizeOf3
  v3 := Tryz.zeroValue3
  t4 := Tryz.underlying4
  a4 := Tryz.isAgg4
  z4 := Tryz.sizeOf4
  v4 := Tryz.zeroValue4
  t5 := Tryz.underlying5
  a5 := Tryz.isAgg5
  z5 := Tryz.sizeOf5
  v5 := Tryz.zeroValue5
  t9 := Tryz.underlying9
  a9 := Tryz.isAgg9
  z9 := Tryz.sizeOf9
  v9 := Tryz.zeroValue9
  t21 := Tryz.underlying21
  a21 := Tryz.isAgg21
  z21 := Tryz.sizeOf21
  v21 := Tryz.zeroValue21
  t31 := Tryz.underlying77
  a31 := Tryz.isAgg77
  z31 := Tryz.sizeOf77
  v31 := Tryz.zeroValue77
  t46 := Tryz.underlying206
  a46 := Tryz.isAgg206
  z46 := Tryz.sizeOf206
  v46 := Tryz.zeroValue206
  t51 := Tryz.underlying285
  a51 := Tryz.isAgg285
  z51 := Tryz.sizeOf285
  v51 := Tryz.zeroValue285
  t105 := Tryz.underlying330
  a105 := Tryz.isAgg330
  z105 := Tryz.sizeOf330
  v105 := Tryz.zeroValue330
  t119 := Tryz.underlying376
  a119 := Tryz.isAgg376
  z119 := Tryz.sizeOf376
  t138 := Tryz.underlying378
  a138 := Tryz.isAgg378
  z138 := Tryz.sizeOf378
  v138 := Tryz.zeroValue378
  t139 := Tryz.underlying379
  a139 := Tryz.isAgg379
  z139 := Tryz.sizeOf379
  v139 := Tryz.zeroValue379
  t146 := Tryz.underlying286
  a146 := Tryz.isAgg286
  z146 := Tryz.sizeOf286
  v146 := Tryz.zeroValue286
  g1 := by kernel_rfl
  g3 := by kernel_rfl
  g4 := by kernel_rfl }
open Go.RowKit Go.Lib in
theorem Tryz.strings_Split_chars (s sep : ByteArray) (w : World) (h0 : sep.size = 0) (hs : s.size < 4294967281) (hascii : ∀ (j : Nat) b, s.data.toList[j]? = some b → b.toNat < 128) :
    Calls Tryz.prog 73 #[.string s, .string sep] w fun e w' =>
      e = .returned (.slice (some ⟨(w.iter s s.size).heap.size, 0, none⟩) s.size s.size) ∧ w' = (w.iter s s.size).alloc (.cells ((Lib.charsB s).map Value.string).toArray 9) := Any.strings_Split_chars Tryz.lays146 (by kernel_rfl) s sep w h0 hs hascii
end Go.Proofs
namespace Go.Proofs.YtbifijlenbibmaaGreatDoor
open Go.RowKit
theorem Tryz.infoBy : (Tryz.prog.info? 5).map (fun i => (i.zero, i.size, i.bytes)) = some (some (.int .u8 0), 1, 1) := by kernel_rfl
def OwnB (w : World) (base : Nat) (v : Value) (l : List UInt8) : Prop := w.ownsRow base 5 1 v l.length (Lib.byteCells l)
theorem byteCells_snoc (l : List UInt8) (x : UInt8) : Lib.byteCells (l ++ [x]) = Lib.byteCells l ++ [.int .u8 (x.toNat : Int)] := by simp [Lib.byteCells]
theorem OwnB.alloc {w : World} {base : Nat} {v : Value} {l : List UInt8} (h : OwnB w base v l) (o : Obj) : OwnB (w.alloc o) base v l := World.ownsRow.alloc h o
theorem OwnB.drew {w : World} {base : Nat} {v : Value} {l : List UInt8} (h : OwnB w base v l) : OwnB w.drew base v l := h
theorem OwnB.below {w w' : World} {base : Nat} {v : Value} {l : List UInt8} (h : OwnB w base v l) (hb : Below w.heap.size w w') : OwnB w' base v l := ownsRow_below h hb
theorem OwnB.empty {w : World} {base N : Nat} (hN : N = w.heap.size) (hb : base ≤ w.heap.size) : OwnB (w.alloc (Obj.cells #[] 5)) base (Value.slice (some ⟨N, 0, none⟩) 0 0) [] := by
  subst hN
  exact World.ownsRow_lit w #[] 0 hb (Nat.zero_le _) rfl
theorem OwnB.at_ {w : World} {base : Nat} {v : Value} {l : List UInt8} (h : OwnB w base v l) (h0 : 0 < l.length) : ∃ g cap, v = .slice (some ⟨g, 0, none⟩) l.length cap ∧ l.length ≤ cap ∧ g < w.heap.size ∧ ∀ t (ht : t < l.length), w.cell? ⟨g, t, none⟩ = some (.int .u8 (l[t].toNat : Int)) := by
  obtain ⟨g, cap, hv, hb, hlt, hc, hcell⟩ := own_form h h0
  exact ⟨g, cap, hv, hc.1, hlt, fun t ht => hcell t _ (by simp [Lib.byteCells, List.getElem?_eq_getElem ht])⟩
theorem convB (L : List UInt8) (b p n c : Nat) (W : World) (hn : n = L.length) (h : ∀ t (ht : t < L.length), W.cell? ⟨b, p + t, none⟩ = some (.int .u8 (L[t].toNat : Int))) :
    (convert 34 9 (.slice (some ⟨b, p, none⟩) n c)).run Tryz.prog W = .ok (.string ⟨L.toArray⟩) W := by
  subst hn
  exact run_convert_bytes_back (P := Tryz.prog) W 34 9 5 ⟨b, p, none⟩ c L Tryz.underlying34 Tryz.underlying5 Tryz.underlying9 (fun j hj => by
    have e : (⟨b, p, none⟩ : Addr).add j = ⟨b, p + j, none⟩ := by unfold Addr.add; split <;> simp_all
    rw [e]; exact h j hj)
theorem OwnB.string {w : World} {base n : Nat} {g : Nat} {c : Nat} {l : List UInt8} (h : OwnB w base (.slice (some ⟨g, 0, none⟩) n c) l) :
    (convert 34 9 (.slice (some ⟨g, 0, none⟩) n c)).run Tryz.prog w = .ok (.string ⟨l.toArray⟩) w := by
  have hn : n = l.length := by
    obtain ⟨A', c', hv, _⟩ := own_nil h
    injection hv
  refine convB l g 0 n c w hn fun t ht => ?_
  obtain ⟨g', cap, hv, _, _, hc⟩ := h.at_ (by omega)
  injection hv with e1 e2 e3
  injection e1 with e1
  injection e1 with e1
  subst e1
  rw [Nat.zero_add]; exact hc t ht
theorem OwnB.some_ {w : World} {base : Nat} {v : Value} {l : List UInt8} (h : OwnB w base v l) (h0 : 0 < l.length) : ∃ g c, v = .slice (some ⟨g, 0, none⟩) l.length c := by
  obtain ⟨g, c, hv, _⟩ := h.at_ h0
  exact ⟨g, c, hv⟩
theorem push_byte {W : World} {ops : Array Oper} {rest : List Oper} {o : Oper} {a : Act} {Q : Exit → Act → World → Prop} (hgd : o.guard = none) (s x : Operand)
    (ho : o.op = .call { callee := .builtin .append, args := #[s, x], argTypes := #[34, 34] }) {y : UInt8} {base : Nat} {v : Value} {l : List UInt8}
    (hs : a.eval s = v) {N : Nat} (hx : a.eval x = .slice (some ⟨N, 0, none⟩) 1 1) (hN : N = W.heap.size) (hown : OwnB W base v l) (hlen : l.length ≤ 1099511627776) (hbase : base ≤ W.heap.size)
    (h : ∀ v' w', OwnB w' base v' (l ++ [y]) → (W.alloc (.cells #[.int .u8 (y.toNat : Int)] 5)).grownBy w' v.ownBlock → Below base W w' → wpList Tryz.prog ops Q rest (a.put o.dst v') w') :
    wpList Tryz.prog ops Q (o :: rest) a (W.alloc (.cells #[.int .u8 (y.toNat : Int)] 5)) := by
  subst hN
  obtain ⟨i0, hi0, hz0, hz1, hz2⟩ := info_parts Tryz.infoBy
  refine wpList_push hgd s x 34 ho i0 (.int .u8 0) 1 1 Tryz.underlying34 hi0 hz0 hz1 hz2 rfl (by decide) hs hx rfl (by simp [Value.oneCell']) hown (by omega) (by omega) hbase ?_
  intro v' w' h1 h2 h3
  refine h v' w' ?_ h2 h3
  unfold OwnB
  rw [byteCells_snoc]
  simpa using h1
theorem convC (W : World) (N : Nat) (hN : N = W.heap.size) (c : UInt8) : (convert 34 9 (.slice (some ⟨N, 0, none⟩) 1 1)).run Tryz.prog (W.alloc (.cells #[.int .u8 (c.toNat : Int)] 5)) = .ok (.string (letR c).letter) (W.alloc (.cells #[.int .u8 (c.toNat : Int)] 5)) := by
  subst hN
  rw [run_convert_bytes_arg (W.alloc (.cells #[.int .u8 (c.toNat : Int)] 5)) 34 5 Tryz.underlying34 Tryz.underlying5 W.heap.size 0 1 1 [(c.toNat : Int)] rfl
    (fun i hi => by
      have : i = 0 := by omega
      subst this
      simp [go_sem]) 9 Tryz.underlying9]
  have : strOfNums [(c.toNat : Int)] = (letR c).letter := by
    simp only [strOfNums, letR, List.map_cons, List.map_nil]
    simp
  rw [this]
set_option maxRecDepth 100000 in
theorem letter_any (c : UInt8) (w : World) : Calls Tryz.prog 209 #[.int .u8 (c.toNat : Int)] w fun e w' => e = .returned (.agg #[.string (letR c).letter, .int .i64 (letR c).left, .int .i64 (letR c).right]) ∧ Below w.heap.size w w' := by
  have hcv := convC (w.alloc (Obj.cells #[.string ⟨#[]⟩, .int .i64 0, .int .i64 0] 165)) (w.heap.size + 1) (by simp) c
  go_enter Tryz.func209, Tryz.ntmps209
  go_wp2
  refine bodyPost_ret (v := .agg #[.string (letR c).letter, .int .i64 0, .int .i64 0]) (by simp [results, Tryz.results209, go_sem]) rfl ⟨rfl, ?_⟩
  exact (by repeat (first | exact Below.refl _ _ | (refine Below.alloc ?_ (by first | omega | (simp; done) | (simp; omega)) _) | (refine Below.setCell ?_ (by first | exact Nat.le_refl _ | (show _ ≤ _; omega) | (simp; done) | (simp; omega)) _) | refine below_drewN ?_ _ | refine Below.drew ?_))
def idxR (xs : List GRule) (X : GRule) : Int := if xs.idxOf X < xs.length then (xs.idxOf X : Int) else -1
theorem idxR_pos (xs : List GRule) (X : GRule) : decide (0 ≤ idxR xs X) = xs.contains X := by
  unfold idxR
  by_cases h : X ∈ xs
  · rw [if_pos (List.idxOf_lt_length_iff.2 h)]; simp [h]
  · rw [if_neg (fun e => h (List.idxOf_lt_length_iff.1 e))]; simp [h]
theorem idxOf_ge {K : List GRule} {X : GRule} {k : Nat} (h : ∀ j y, j < k → K[j]? = some y → X ≠ y) (hk : k ≤ K.length) : k ≤ K.idxOf X := by
  rcases Nat.lt_or_ge (K.idxOf X) k with hlt | hge
  · have hm : X ∈ K := List.idxOf_lt_length_iff.1 (by omega)
    exact absurd rfl (h _ _ hlt (idxOf_at hm))
  · exact hge
set_option maxRecDepth 100000 in
set_option maxHeartbeats 1000000 in
theorem indexRules_any (v : Value) (xs : List GRule) (X : GRule) (w : World) (h : Sl RuleE w w.heap.size v xs) :
    Calls Tryz.prog 211 #[v, .agg #[.string X.letter, .int .i64 X.left, .int .i64 X.right]] w fun e w' => e = .returned (.int .i64 (idxR xs X)) ∧ Below w.heap.size w w' := by
  obtain ⟨A, c, rfl, hc, hm, hrow⟩ := h
  unfold maxLen at hm
  go_enter Tryz.func211, Tryz.ntmps211
  go_wp2_with fail
  have KX := Blk.new w #[.string X.letter, .int .i64 X.left, .int .i64 X.right] 165
  have hB := Lib.hid ((Below.refl w.heap.size w).alloc (Nat.le_refl _) (Obj.cells #[.string X.letter, .int .i64 X.left, .int .i64 X.right] 165))
  generalize w.alloc (Obj.cells #[.string X.letter, .int .i64 X.left, .int .i64 X.right] 165) = W at *
  have HKX := Lib.hid KX
  clear KX
  go_loopw [8] (fun i wr => ∃ k : Nat, k ≤ xs.length ∧ i = .int .i64 k ∧ (∃ m, wr = W.drewN m) ∧ Hid (∀ j y, j < k → xs[j]? = some y → X ≠ y)) (fun i _ => xs.length - (intOf i).toNat)
  case atStart => exact ⟨0, Nat.zero_le _, rfl, ⟨0, rfl⟩, fun j y hj => absurd hj (by omega)⟩
  case round =>
    obtain ⟨k, hk, rfl, ⟨m, rfl⟩, Hno⟩ := hrel
    by_cases hlt : k < xs.length
    · obtain ⟨b, o, rfl, hbl, hcell⟩ := hrow.rule hlt
      obtain ⟨y, hy⟩ : ∃ y, xs[k]? = some y := ⟨_, List.getElem?_eq_getElem hlt⟩
      obtain ⟨g0, g1, g2⟩ := hcell k y hy
      have d0 := (hB.out.cell (p := ⟨b, o + k * 3, none⟩) hbl).trans g0
      have d1 := (hB.out.cell (p := ⟨b, o + k * 3 + 1, none⟩) hbl).trans g1
      have d2 := (hB.out.cell (p := ⟨b, o + k * 3 + 2, none⟩) hbl).trans g2
      have x0 := HKX.out.cell (i := 0) (v := .string X.letter) rfl
      have x1 := HKX.out.cell (i := 1) (v := .int .i64 X.left) rfl
      have x2 := HKX.out.cell (i := 2) (v := .int .i64 X.right) rfl
      have Hy := Lib.hid hy
      have hki : (k : Int) < (xs.length : Int) := by omega
      clear hcell hy g0 g1 g2
      have hno' : X ≠ y → Hid (∀ j z, j < k + 1 → xs[j]? = some z → X ≠ z) := fun hne j z hj hz => by
        by_cases e : j = k
        · subst e
          rw [Hy.out] at hz; injection hz with hz; rw [← hz]; exact hne
        · exact Hno.out j z (by omega) hz
      have Hno' := Lib.hid hno'
      clear hno'
      by_cases e2 : X = y
      · subst e2
        have he := Lib.hid (show xs.idxOf X = k from Nat.le_antisymm (idxOf_le_of Hy.out) (idxOf_ge Hno.out hk))
        go_wp2_with fail
        go_quiet (fail)
        go_wp2_with fail
        go_ret
        exact ⟨ret_int (by rw [idxR, he.out, if_pos hlt]), below_drewN (below_drewN hB.out _) _⟩
      · have HNE := Lib.hid e2
        rcases rule_ne e2 with f1 | ⟨f1, f2⟩ | ⟨f1, f2, f3⟩
        · clear e2
          go_wp2_with fail
          go_quiet (fail)
          go_wp2_with fail
          go_roundw
          case rel => exact ⟨k + 1, by omega, by go_num, ⟨_, rfl⟩, Hno'.out HNE.out⟩
          case measure => simp [intOf]; omega
        · rw [f1] at x0
          clear e2 f1
          go_wp2_with fail
          go_quiet (fail)
          go_wp2_with fail
          go_roundw
          case rel => exact ⟨k + 1, by omega, by go_num, ⟨_, rfl⟩, Hno'.out HNE.out⟩
          case measure => simp [intOf]; omega
        · rw [f1] at x0
          rw [f2] at x1
          clear e2 f1 f2
          go_wp2_with fail
          go_quiet (fail)
          go_wp2_with fail
          go_roundw
          case rel => exact ⟨k + 1, by omega, by go_num, ⟨_, rfl⟩, Hno'.out HNE.out⟩
          case measure => simp [intOf]; omega
    · have hkn : k = xs.length := by omega
      have hge := idxOf_ge Hno.out hk
      go_wp2
      go_ret
      exact ⟨ret_int (by rw [idxR, if_neg (by omega)]), below_drewN hB.out _⟩
theorem containsRules_any (v : Value) (xs : List GRule) (X : GRule) (w : World) (h : Sl RuleE w w.heap.size v xs) :
    Calls Tryz.prog 282 #[v, .agg #[.string X.letter, .int .i64 X.left, .int .i64 X.right]] w fun e w' => e = .returned (.bool (xs.contains X)) ∧ Below w.heap.size w w' := by
  have HS := Lib.hid h
  obtain ⟨A, c, rfl, _⟩ := h
  go_enter Tryz.func282, Tryz.ntmps282
  go_wp2_with fail
  refine (indexRules_any _ xs X _ (HS.out.up (by repeat (first | exact Below.refl _ _ | (refine Below.alloc ?_ (by first | omega | (simp; done) | (simp; omega)) _) | refine below_drewN ?_ _ | refine Below.drew ?_)))).mono ?_
  rintro e w2 ⟨rfl, hb2⟩
  go_wp2
  go_ret
  exact ⟨ret_bool (idxR_pos xs X), (Below.unalloc hb2).1⟩
set_option maxRecDepth 100000 in
theorem hasLetter_any (v : Value) (xs : List GRule) (k : Nat) (w : World) (h : Sl RuleE w w.heap.size v xs) (hk : k < 4) :
    Calls Tryz.prog 222 #[.agg #[v], .int .u8 (97 + k : Int)] w fun e w' => e = .returned (.bool (hasL xs k)) ∧ Below w.heap.size w w' := by
  have HS := Lib.hid h
  have hc : (97 + k : Int) = ((ltr k).toNat : Int) := by
    have : k = 0 ∨ k = 1 ∨ k = 2 ∨ k = 3 := by omega
    rcases this with rfl | rfl | rfl | rfl <;> rfl
  obtain ⟨A, c, rfl, _⟩ := h
  rw [hc]
  clear hc
  go_enter Tryz.func222, Tryz.ntmps222
  go_wp2_with fail
  have hcA : (w.alloc (Obj.cells #[Value.slice A xs.length c] 30)).drew.cell? ⟨w.heap.size, 0, none⟩ = some (.slice A xs.length c) := by simp [go_sem]
  have KB := And.intro (show Below (w.alloc (Obj.cells #[Value.slice A xs.length c] 30)).heap.size (w.alloc (Obj.cells #[Value.slice A xs.length c] 30)) (w.alloc (Obj.cells #[Value.slice A xs.length c] 30)).drew from Below.drew (Below.refl _ _)) hcA
  have hlt : w.heap.size < (w.alloc (Obj.cells #[Value.slice A xs.length c] 30)).heap.size := by simp
  go_region_held3 (fun w' => Below (w.alloc (Obj.cells #[Value.slice A xs.length c] 30)).heap.size (w.alloc (Obj.cells #[Value.slice A xs.length c] 30)) w' ∧ w'.cell? ⟨w.heap.size, 0, none⟩ = some (.slice A xs.length c))
    (first | (with_reducible exact KB) | (with_reducible exact keepB KB hb1 hlt) | (with_reducible exact keepB (keepB KB hb1 hlt) hb2 hlt))
    (first
      | (go_at_call 209; (refine (letter_any _ _).mono ?_); rintro e w1 ⟨rfl, hb1⟩)
      | (go_at_call 282; (refine (containsRules_any _ xs (letR (ltr k)) _ ((HS.out.up (by repeat (first | exact Below.refl _ _ | (refine Below.alloc ?_ (by first | omega | (simp; done) | (simp; omega)) _) | refine below_drewN ?_ _ | refine Below.drew ?_))).up hb1)).mono ?_); rintro e w2 ⟨rfl, hb2⟩))
  have hz := (Below.unalloc (keepB (keepB KB hb1 hlt) hb2 hlt).1).1
  have HZ := Lib.hid hz
  clear KB hb1 hb2 hz hcA
  go_wp2
  go_ret
  exact ⟨ret_bool (by simp [hasL]), HZ.out⟩
theorem step_append_rulesK {W : World} {ops : Array Oper} {o : Oper} {a : Act} {K : Act → World → Prop} {Q : Exit → Act → World → Prop} {E : Prop} (hgd : o.guard = none) (s x : Operand)
    (ho : o.op = .call { callee := .builtin .append, args := #[s, x], argTypes := #[28, 28] }) {ys : List GRule} {base : Nat} {v sv : Value} {l : List GRule} {S : Nat → Prop}
    (hs : a.eval s = v) (hx : a.eval x = sv) (hown : OwnRules W base v l) (hsl : SlS RuleE W S sv ys) (hlen : l.length + ys.length ≤ 1099511627776) (hbase : base ≤ W.heap.size)
    (h : ∀ v' w', OwnRules w' base v' (l ++ ys) → W.grownBy w' v.ownBlock → (v'.ownBlock = v.ownBlock ∨ W.grownBy w' none) → Below base W w' → K (a.put o.dst v') w') :
    if Region.wanted o (yielded ops a.tmps) = true then Oper.wp Tryz.prog o a W K Q else E := by
  have hw : Region.wanted o (yielded ops a.tmps) = true := by simp [Region.wanted, hgd]
  rw [if_pos hw]
  obtain ⟨i0, hi0, hz0, hz1, hz2⟩ := info_parts Tryz.infoR
  obtain ⟨A, c, rfl, hc, hm, hrow⟩ := hsl
  have H : ∃ v' w', (Builtin.append_ #[28, 28] o.type #[v, .slice A ys.length c]).run Tryz.prog W = .ok v' w' ∧ OwnRules w' base v' (l ++ ys) ∧ W.grownBy w' v.ownBlock ∧ (v'.ownBlock = v.ownBlock ∨ W.grownBy w' none) := by
    rcases A with _ | ad
    · have h0 : ys = [] := by
        rcases Nat.eq_zero_or_pos ys.length with h0 | h0
        · exact List.eq_nil_of_length_eq_zero h0
        · obtain ⟨b, o, h, _⟩ := hrow h0; cases h
      subst h0
      exact ⟨v, W, run_append_of_nil W base _ _ 165 i0 3 Tryz.underlying28 hi0 v _ _ hown c, by simpa using hown, World.grownBy.refl W _, .inl rfl⟩
    · obtain ⟨v', w', hrun, h2, h3, _, h5⟩ := run_append_own_at (P := Tryz.prog) W base 28 o.type 165 i0 _ 3 32 Tryz.underlying28 hi0 hz0 hz1 hz2 rfl (by decide) v _ _ hown ad ys.length c (ys.flatMap GRule.cells)
        (cells_len ys) (rules_cells hrow) (rules_one ys) (by simp only [maxLen]; omega) (by omega) hbase
      refine ⟨v', w', hrun, by unfold OwnRules; simpa using h2, h3, ?_⟩
      rcases h5 with h5 | h5
      · exact .inl h5
      · right
        rcases hown.2 with ⟨rfl, _⟩ | ⟨g, cap, cur, rfl, hg1, hg2, hg3, hg4, hg5, hg6⟩
        · exact h3
        · -- the row has moved: it did not fit
          rcases Nat.lt_or_ge cap (l.length + ys.length) with hlt | hge
          · obtain ⟨v2, w2, hr2, _, h6⟩ := run_append_arg_grows (P := Tryz.prog) W 28 o.type 165 i0 _ 3 32 Tryz.underlying28 hi0 hz0 hz1 hz2 rfl (by decide) ⟨g, 0, none⟩ l.length cap (l.flatMap GRule.cells) hown.1
              (fun j u hu => by
                have hj : j < (l.flatMap GRule.cells).length := (List.getElem?_eq_some_iff.1 hu).1
                rw [hown.1] at hj
                have := hown.cellAt j hj
                simpa [Addr.add_lit, hu] using this)
              ad ys.length c (ys.flatMap GRule.cells) (cells_len ys) (rules_cells hrow) hlt (by simp only [maxLen]; omega) (by omega)
            rw [hrun] at hr2
            cases hr2
            exact h6
          · have hr2 := run_append_room (P := Tryz.prog) W 28 o.type 165 i0 Tryz.underlying28 hi0 g l.length cap cur hg2 ad ys.length c (ys.flatMap GRule.cells) (by rw [hz1]; exact cells_len ys) (rules_cells hrow) (rules_one ys) hge
              (by rw [hz1, hg5, cells_len, ← Nat.add_mul]; exact Nat.mul_le_mul_right _ hge)
            rw [hrun] at hr2
            cases hr2
            have : g = W.heap.size := by simpa [Value.ownBlock] using h5
            have h7 := (Array.getElem?_eq_some_iff.1 hg2).1
            omega
  obtain ⟨v', w', hrun, h2, h3, h4⟩ := H
  unfold Oper.wp execOp
  simp only [ho, resolve, invoke, builtin, Sem.run_bind, Sem.run_pure, Result.andThen_ok, List.map_toArray, List.map_cons, List.map_nil, hs, hx, hrun]
  exact h v' w' h2 h3 h4 ((Below.refl base W).grown h3 hbase (fun k hk => (World.ownsRow.lt hown k hk).1))
theorem step_push_ruleK {W : World} {ops : Array Oper} {o : Oper} {a : Act} {K : Act → World → Prop} {Q : Exit → Act → World → Prop} {E : Prop} (hgd : o.guard = none) (s x : Operand)
    (ho : o.op = .call { callee := .builtin .append, args := #[s, x], argTypes := #[28, 28] }) {t : ByteArray} {p q : Int} {base : Nat} {v : Value} {l : List GRule}
    (hs : a.eval s = v) {N : Nat} (hx : a.eval x = .slice (some ⟨N, 0, none⟩) 1 1) (hN : N = W.heap.size) (hown : OwnRules W base v l) (hlen : l.length ≤ 1099511627775) (hbase : base ≤ W.heap.size)
    (h : ∀ v' w', OwnRules w' base v' (l ++ [⟨t, p, q⟩]) → (W.alloc (.cells #[.string t, .int .i64 p, .int .i64 q] 165)).grownBy w' v.ownBlock → (v'.ownBlock = v.ownBlock ∨ (W.alloc (.cells #[.string t, .int .i64 p, .int .i64 q] 165)).grownBy w' none) →
      Below base (W.alloc (.cells #[.string t, .int .i64 p, .int .i64 q] 165)) w' → K (a.put o.dst v') w') :
    if Region.wanted o (yielded ops a.tmps) = true then Oper.wp Tryz.prog o a (W.alloc (.cells #[.string t, .int .i64 p, .int .i64 q] 165)) K Q else E := by
  subst hN
  refine step_append_rulesK (ys := [⟨t, p, q⟩]) (S := fun b => b = W.heap.size) hgd s x ho hs hx (hown.alloc _) ⟨_, 1, rfl, Nat.le_refl _, by simp [maxLen], fun _ => ⟨W.heap.size, 0, rfl, rfl, fun k r hk => ⟨r.cells, rfl, fun j u hu => ?_⟩⟩⟩ (by simp; omega) (by simp; omega) h
  have hk0 : k = 0 := by
    have := (List.getElem?_eq_some_iff.1 hk).1
    simp at this; exact this
  subst hk0
  simp at hk
  subst hk
  have hc : (W.alloc (.cells #[.string t, .int .i64 p, .int .i64 q] 165)).cell? ⟨W.heap.size, j, none⟩ = (#[Value.string t, .int .i64 p, .int .i64 q] : Array Value)[j]? := cell_of_row _ _ _ _ 165 (0, 0) (heap_alloc_new W _)
  simp only [Nat.zero_mul, Nat.zero_add]
  rw [hc]
  simpa [GRule.cells] using hu
theorem Boxed.grownO {w w' : World} {B base e s n : Nat} {t : TypeId} {v u : Value} {xs : List Value} {o : Obj} (h : Boxed w B t u) (hte : t ≠ e) (own : w.ownsRow base e s v n xs) (hg : (w.alloc o).grownBy w' v.ownBlock) : Boxed w' B t u := (h.alloc o).kept hg (h.not_row hte own)
theorem lets_keep {W w' : World} {g n c base : Nat} {v v' : Value} {L R : List GRule} {S : Nat → Prop} (hL : SlS RuleE W S (.slice (some ⟨g, 0, none⟩) n c) L) (hS : ∀ b, S b → b < W.heap.size) {l' : List GRule} (own' : OwnRules w' base v' l') (el : l' = L ++ R) (hg : W.grownBy w' v.ownBlock)
    (hor : v'.ownBlock = v.ownBlock ∨ W.grownBy w' none) : SlS RuleE w' S (.slice (some ⟨g, 0, none⟩) n c) L := by
  have own : w'.ownsRow base 165 3 v' (L ++ R).length ((L ++ R).flatMap GRule.cells) := by rw [← el]; exact own'
  obtain ⟨A, c', e, h1, h2, hrow⟩ := hL
  injection e with e1 e2 e3
  subst e1; subst e2; subst e3
  refine ⟨_, c, rfl, h1, h2, fun hn => ?_⟩
  obtain ⟨b, o, eb, hSb, hc⟩ := hrow hn
  injection eb with eb
  injection eb with eb1 eb2
  subst eb1; subst eb2
  have hlt := hS _ hSb
  refine ⟨g, 0, rfl, hSb, fun k x hx => ⟨x.cells, rfl, fun j u hu => ?_⟩⟩
  have hold : some g ≠ v.ownBlock ∨ W.grownBy w' none → w'.cell? ⟨g, 0 + (k * RuleE.size + j), none⟩ = some u := fun hh => by
    obtain ⟨cs, hcs, hcell⟩ := hc k x hx
    have ecs : cs = x.cells := hcs
    subst ecs
    have hb : w'.heap[g]? = W.heap[g]? := by
      rcases hh with hh | hh
      · exact hg.block g hlt hh
      · exact hh.block g hlt (by simp)
    rw [World.cell?_of_block (a := ⟨g, _, none⟩) hb]
    exact hcell j u hu
  rcases hor with hor | hor
  · by_cases hgv : some g = v.ownBlock
    · -- the same row, grown in place
      have hxl : (L ++ R)[k]? = some x := by rw [List.getElem?_append_left (List.getElem?_eq_some_iff.1 hx).1]; exact hx
      have hpos : 0 < (L ++ R).length := by have := (List.getElem?_eq_some_iff.1 hxl).1; omega
      obtain ⟨g2, cap, hv, _, _, _, hcell⟩ := own_form own hpos
      have : g2 = g := by
        have h3 : v'.ownBlock = some g2 := by rw [hv]; rfl
        rw [h3, ← hgv] at hor
        exact Option.some.inj hor
      subst this
      obtain ⟨c0, c1, c2⟩ := cells3 (L ++ R) k x hxl
      match j, hu with
      | 0, hu => simp [GRule.cells] at hu; subst hu; simpa [RuleE] using hcell _ _ c0
      | 1, hu => simp [GRule.cells] at hu; subst hu; simpa [RuleE] using hcell _ _ c1
      | 2, hu => simp [GRule.cells] at hu; subst hu; simpa [RuleE] using hcell _ _ c2
      | j + 3, hu => simp [GRule.cells] at hu
    · exact hold (.inl hgv)
  · exact hold (.inr hor)
def ixB (s : ByteArray) (k : Nat) : Int := Lib.indexByte s.data.toList (ltr k)
theorem ixB_yes {s : ByteArray} {k : Nat} (h : hasC s (ltr k) = true) : 0 ≤ ixB s k := by
  have h1 := Lib.indexByte_ge s.data.toList (ltr k)
  rcases Int.lt_or_le (ixB s k) 0 with hn | hn
  · have hm : ixB s k = -1 := by unfold ixB at hn ⊢; omega
    have := Lib.indexByte_none hm
    unfold hasC at h
    rw [List.contains_iff_mem] at h
    obtain ⟨j, hj⟩ := List.mem_iff_getElem?.1 h
    exact absurd hj (this j)
  · exact hn
theorem ixB_no {s : ByteArray} {k : Nat} (h : ¬ hasC s (ltr k) = true) : ixB s k < 0 := by
  rcases Int.lt_or_le (ixB s k) 0 with hn | hn
  · exact hn
  · obtain ⟨o, ho⟩ := Int.eq_ofNat_of_zero_le hn
    have := (Lib.indexByte_some (show Lib.indexByte s.data.toList (ltr k) = (o : Int) from ho)).1
    exact absurd (List.contains_iff_mem.2 (List.mem_of_getElem? this)) h
theorem ltr_nat {k : Nat} (h : k < 4) : ((97 + k : Nat) : Int) = ((ltr k).toNat : Int) := by
  have : k = 0 ∨ k = 1 ∨ k = 2 ∨ k = 3 := by omega
  rcases this with rfl | rfl | rfl | rfl <;> rfl
theorem indexByte_any (s : ByteArray) (k : Nat) (c : Int) (w : World) (hk : k < 4) (hc : c = 97 + k) : Calls Tryz.prog 208 #[.string s, .int .u8 c] w fun e w' => e = .returned (.int .i64 (ixB s k)) ∧ w = w' := by
  have h2 := ltr_nat hk
  have h3 : c.toNat.toUInt8 = ltr k := by
    have : k = 0 ∨ k = 1 ∨ k = 2 ∨ k = 3 := by omega
    subst hc
    rcases this with rfl | rfl | rfl | rfl <;> rfl
  refine (Tryz.strings_IndexByte s c w).mono fun e w' h => ⟨?_, h.2.symm⟩
  rw [h.1, h3]; rfl
theorem letter_int (k : Nat) (c : Int) (w : World) (hk : k < 4) (hc : c = 97 + k) : Calls Tryz.prog 209 #[.int .u8 c] w fun e w' => e = .returned (.agg #[.string (letR (ltr k)).letter, .int .i64 0, .int .i64 0]) ∧ Below w.heap.size w w' := by
  have h2 := ltr_nat hk
  have : c = ((ltr k).toNat : Int) := by omega
  subst this
  exact letter_any _ _
theorem Blk.new' {w : World} {b : Nat} {a : Array Value} {t : TypeId} (h : b = w.heap.size) : Blk (w.alloc (.cells a t)) b a t := by subst h; exact Blk.new _ _ _
theorem idxR_idxG {s : ByteArray} (hw : wordOk s = true) {i : Nat} (h : i < s.size) : idxR (letsG s 4) (letR s[i]) = ((idxG s s[i] : Nat) : Int) := by
  have := idxG_lt hw h
  unfold idxR idxG at *
  rw [if_pos this]
set_option maxRecDepth 100000 in
set_option maxHeartbeats 1000000 in
theorem plainOf_any (s : ByteArray) (i L N : Nat) (vL : Value) (w : World) (hi : i < s.size) (hw : wordOk s = true) (hL : Blk w L #[vL] 28) (hN : Blk w N #[.string s] 9) (hS : Sl RuleE w w.heap.size vL (letsG s 4)) :
    Calls Tryz.prog 210 #[.int .i64 (i : Int), .pointer (some ⟨L, 0, none⟩), .pointer (some ⟨N, 0, none⟩)] w fun e w' => e = .returned (.int .i64 ((idxG s (s[i]'hi) : Nat) : Int)) ∧ Below w.heap.size w w' := by
  have HI := Lib.hid (idxR_idxG hw hi)
  have HS := Lib.hid hS
  obtain ⟨AL, cL, rfl, _⟩ := hS
  have cL0 := hL.cell (i := 0) (v := .slice AL (letsG s 4).length cL) rfl
  have cN0 := hN.cell (i := 0) (v := .string s) rfl
  have lL := hL.lt
  have lN := hN.lt
  have hi2 : (i : Int) < (s.size : Int) := by omega
  clear hL hN hw
  go_enter Tryz.func210, Tryz.ntmps210
  go_wp2_with fail
  have KB := And.intro (show Below w.heap.size w w.drew from Below.drew (Below.refl _ _)) (And.intro (show w.drew.cell? ⟨L, 0, none⟩ = _ from cL0) (show w.drew.cell? ⟨N, 0, none⟩ = _ from cN0))
  go_region_held3 (fun w' => Below w.heap.size w w' ∧ w'.cell? ⟨L, 0, none⟩ = some (.slice AL (letsG s 4).length cL) ∧ w'.cell? ⟨N, 0, none⟩ = some (.string s))
    (first | (with_reducible exact KB) | (with_reducible exact keepC KB hb1 lL lN) | (with_reducible exact keepC (keepC KB hb1 lL lN) hb2 lL lN))
    (first
      | (go_at_call 209; (refine (letter_any _ _).mono ?_); rintro e w1 ⟨rfl, hb1⟩)
      | (go_at_call 211; (refine (indexRules_any _ (letsG s 4) (letR (s[i]'hi)) _ ((HS.out.up (by repeat (first | exact Below.refl _ _ | (refine Below.alloc ?_ (by first | omega | (simp; done) | (simp; omega)) _) | refine below_drewN ?_ _ | refine Below.drew ?_))).up hb1)).mono ?_); rintro e w2 ⟨rfl, hb2⟩))
  have HZ := Lib.hid (keepC (keepC KB hb1 lL lN) hb2 lL lN).1
  clear KB hb1 hb2
  go_wp2
  go_ret
  exact ⟨ret_int HI.out, HZ.out⟩
set_option maxRecDepth 100000 in
set_option maxHeartbeats 4000000 in
theorem plain_any (s : ByteArray) (w : World) (hs : wordOk s = true) :
    Calls Tryz.prog 140 #[.string s] w (GOwn (plainG s) w) := by
  have hsz : s.size ≤ 2000 := by unfold wordOk at hs; simp only [Bool.and_eq_true, decide_eq_true_eq] at hs; omega
  have HS := Lib.hid hs
  clear hs
  go_enter Tryz.func140, Tryz.ntmps140
  go_wp2_with fail
  go_loopw [4] (fun c wr => ∃ (k : Nat) (vo : Value), k ≤ 4 ∧ c = .int .u8 ((97 + k : Nat) : Int) ∧ Below w.heap.size w wr ∧ Blk wr w.heap.size #[.string s] 9 ∧ Blk wr (w.heap.size + 1) #[.slice none 0 0] 30 ∧ Boxed wr (w.heap.size + 2) 30 vo ∧ OwnRules wr (w.heap.size + 3) vo (letsG s k)) (fun c _ => 101 - (intOf c).toNat)
  case atStart =>
    refine ⟨0, .slice none 0 0, by omega, rfl, (by repeat (first | exact Below.refl _ _ | (refine Below.alloc ?_ (by first | omega | (simp; done) | (simp; omega)) _) | (refine Below.setCell ?_ (by first | exact Nat.le_refl _ | (show _ ≤ _; omega) | (simp; done) | (simp; omega)) _) | refine below_drewN ?_ _ | refine Below.drew ?_)), ?_, ?_, ?_, World.ownsRow_nil _ _ _ _⟩
    · repeat (first | (apply Blk.new'; simp; done) | apply Blk.alloc | apply Blk.drew)
    · repeat (first | (apply Blk.new'; simp; done) | apply Blk.alloc | apply Blk.drew)
    · show Blk _ _ #[.slice none 0 0] _
      repeat (first | (apply Blk.new'; simp; done) | apply Blk.alloc | apply Blk.drew)
  case round =>
    obtain ⟨k, vo, hk, rfl, hb, h0, h1, hbox, hown⟩ := hrel
    have HB := Lib.hid hb
    have H0 := Lib.hid h0
    have H1 := Lib.hid h1
    have Hbox := Lib.hid hbox
    have Hown := Lib.hid hown
    have c0 := h0.cell (i := 0) (v := .string s) rfl
    have cb := hbox.cell
    have fb := hbox.frozen
    have lb := hbox.lt
    have l0 := h0.lt
    obtain ⟨Ao, co, rfl, _⟩ := own_nil hown
    have HL := Lib.hid (show (letsG s k).length ≤ 1099511627775 by have := letsG_len s k; omega)
    clear hb h0 h1 hbox hown
    by_cases hlt : k < 4
    · have HSu := Lib.hid (letsG_succ s k)
      by_cases hc : hasC s (ltr k) = true
      · have hix := ixB_yes hc
        have HC := Lib.hid hc
        clear hc
        go_wp2_with (first
          | (go_at_call 208; refine (indexByte_any s k _ _ hlt (by omega)).mono ?_; rintro e w' ⟨rfl, rfl⟩))
        go_region_law (first
          | (refine step_push_rule (base := w.heap.size + 3) (by rfl) _ _ (by rfl) (by rfl) (by first | rfl | simp) rfl (OwnRules.below Hown.out.drew hb2) HL.out (by omega) ?_; intro v3 w3 own3 hg3 hb3; have bx3 : Boxed w3 (w.heap.size + 2) 30 _ := Boxed.grown (Boxed.up (Boxed.mk' Hbox.out) hb2 lb) (by decide) (OwnRules.below Hown.out.drew hb2) hg3; obtain ⟨A3, c3, rfl, _⟩ := own_nil own3; have hcb3 := bx3.cell; have hfb3 := bx3.frozen)
          | (go_simp; go_at_call 209; refine (letter_int k _ _ hlt (by omega)).mono ?_; rintro e w2 ⟨rfl, hb2⟩; have bx2 := Boxed.up (Boxed.mk' Hbox.out) hb2 lb; have hcb2 := bx2.cell; have hfb2 := bx2.frozen; have hlb2 := bx2.lt))
        all_goals
          have z2 : wr.heap.size ≤ w2.heap.size := hb2.size
          have hbz : Below (w.heap.size + 3) wr w3 := (Below.drew (Below.refl _ _)).trans (((hb2.mono (by show w.heap.size + 3 ≤ wr.heap.size; omega)).alloc (by omega) _).trans hb3)
          have HBZ := Lib.hid hbz
          have HO3 := Lib.hid own3
          have HX3 := Lib.hid bx3
          clear hbz own3 bx3 hb3 hb2 hg3 bx2
          go_wp2
          go_roundw
          case rel =>
            refine ⟨k + 1, _, by omega, by go_num, (HB.out.trans (HBZ.out.mono (by omega))).setCell (by show w.heap.size ≤ w.heap.size + 2; omega) _, (H0.out.upB HBZ.out (by omega)).other (by show w.heap.size ≠ w.heap.size + 2; omega) _, (H1.out.upB HBZ.out (by omega)).other (by show w.heap.size + 1 ≠ w.heap.size + 2; omega) _, Boxed.set _ HX3.out, ?_⟩
            rw [HSu.out, if_pos HC.out]
            exact own_put HX3.out HO3.out rfl (by simp)
          case measure => simp [intOf]; omega
      · have hix := ixB_no hc
        have HC := Lib.hid hc
        clear hc
        go_wp2_with (first
          | (go_at_call 208; refine (indexByte_any s k _ _ hlt (by omega)).mono ?_; rintro e w' ⟨rfl, rfl⟩))
        go_roundw
        case rel => exact ⟨k + 1, _, by omega, by go_num, HB.out, H0.out, H1.out, Hbox.out, by rw [HSu.out, if_neg HC.out]; exact Hown.out⟩
        case measure => simp [intOf]; omega
    · have hk4 : k = 4 := by omega
      subst hk4
      rw [show ((97 + 4 : Nat) : Int) = 101 from rfl]
      have hlen4 := letsG_len s 4
      obtain ⟨wo, rfl⟩ : ∃ wo : World, wo = wr := ⟨_, rfl⟩
      have hL0 := Lib.hid (Hown.out.slS (S := fun b => w.heap.size + 3 ≤ b ∧ b < wo.heap.size) fun g hg => World.ownsRow.lt Hown.out g hg)
      have hAo := Lib.hid (show 0 < (letsG s 4).length → ∃ g, Ao = some ⟨g, 0, none⟩ from fun hp => by
        obtain ⟨g, cap, e, _⟩ := own_form Hown.out hp
        injection e with e1
        exact ⟨g, e1⟩)
      go_wp2_with fail
      go_loopw [7] (fun q wx => ∃ (i : Nat) (vo : Value), 1 ≤ i ∧ (i ≤ s.size ∨ i = 1) ∧ q = .int .i64 (i : Int) ∧ Below w.heap.size w wx ∧ Blk wx w.heap.size #[.string s] 9 ∧ Blk wx (w.heap.size + 1) #[.slice none 0 0] 30 ∧
        Blk wx wo.heap.size #[.slice Ao (letsG s 4).length co] 28 ∧ Boxed wx (w.heap.size + 2) 30 vo ∧ OwnRules wx (w.heap.size + 3) vo (plainK s (i - 1)) ∧ SlS RuleE wx (fun b => w.heap.size + 3 ≤ b ∧ b < wo.heap.size) (.slice Ao (letsG s 4).length co) (letsG s 4)) (fun q _ => s.size + 1 - (intOf q).toNat)
      case atStart =>
        refine ⟨1, _, Nat.le_refl _, .inr rfl, rfl, HB.out.alloc HB.out.size _, H0.out.alloc _, H1.out.alloc _, Blk.new _ _ _, Boxed.alloc Hbox.out _, ?_, hL0.out.keep (Keep.of_below (B := wo.heap.size) ((Below.refl _ _).alloc (Nat.le_refl _) _) |>.mono fun _ hb => hb.2)⟩
        rw [show 1 - 1 = 0 from rfl, plainK_zero]
        exact Hown.out.alloc _
      case round =>
        obtain ⟨i, vo, hi1, hi2, rfl, hb, h0, h1, hL, hbox, hown, hsl⟩ := hrel
        have zr : w.heap.size + 2 < wr.heap.size := hbox.lt
        have zo : wo.heap.size < wr.heap.size := hL.lt
        have HB2 := Lib.hid hb
        have HK0 := Lib.hid h0
        have HK1 := Lib.hid h1
        have HKL := Lib.hid hL
        have HX := Lib.hid hbox
        have HO := Lib.hid hown
        have HSl := Lib.hid hsl
        have HSl2 := Lib.hid (show Sl RuleE wr wr.heap.size _ _ from hsl.more fun b hb => by omega)
        have c0' := h0.cell (i := 0) (v := .string s) rfl
        have l0' := h0.lt
        have cb' := hbox.cell
        have fb' := hbox.frozen
        have hlp := Lib.hid (plainK_len s (i - 1))
        obtain ⟨A2, c2, rfl, _⟩ := own_nil hown
        clear hb h0 h1 hL hbox hown hsl HB H0 H1 Hbox Hown cb fb c0 l0
        by_cases hlt2 : i < s.size
        · have HP := Lib.hid (plainK_succ s (i - 1))
          have HLn := Lib.hid (show (plainK s (i - 1)).length ≤ 1099511627775 by rw [hlp.out]; omega)
          have hpos : 0 < s.size := by omega
          have hpl1 : 1 ≤ (plainK s (i - 1)).length := by have := idxG_lt HS.out hpos; rw [hlp.out]; omega
          have hpl2 : (plainK s (i - 1)).length ≤ 4000 := by rw [hlp.out]; omega
          obtain ⟨I, hI⟩ : ∃ I : Nat, I = idxG s (s.data.getD i 0) := ⟨_, rfl⟩
          have hidx : ∀ W (hb : Below wr.heap.size wr W), Calls Tryz.prog 210 #[.int .i64 (i : Int), .pointer (some ⟨wo.heap.size, 0, none⟩), .pointer (some ⟨w.heap.size, 0, none⟩)] W fun e w' => e = .returned (.int .i64 (I : Int)) ∧ Below W.heap.size W w' := fun W hb => by
            rw [hI, getD_data hlt2]
            exact plainOf_any s i wo.heap.size w.heap.size _ W hlt2 HS.out (HKL.out.up hb) (HK0.out.up hb) (HSl2.out.up hb)
          have OF1 := Lib.hid hidx
          clear hidx
          obtain ⟨B, hB⟩ : ∃ B : Nat, (if i - 1 = 0 then (idxG s (s.data.getD 0 0) : Nat) else (letsG s 4).length + (i - 1) - 1) = B := ⟨_, rfl⟩
          have hBp : pairAt s (i - 1) = pairR (B : Int) (I : Int) := by
            unfold pairAt
            rw [show i - 1 + 1 = i by omega, ← hB, ← hI]
            split <;> rfl
          have HBp := Lib.hid hBp
          have HBq := Lib.hid hB
          clear hBp hB hI
          go_upto_if 39 with fail
          go_cut [8] (fun u8 wx => u8 = .int .i64 (B : Int) ∧ Below wr.heap.size wr wx)
          case first =>
            by_cases h1i : i = 1
            · subst h1i
              have OF0 := Lib.hid (plainOf_any s 0 wo.heap.size w.heap.size _ wr hpos HS.out HKL.out HK0.out HSl2.out)
              go_wp2_with (first
                | (go_at_call 210; (refine OF0.out.mono ?_); rintro e w2 ⟨rfl, hb2⟩))
              go_meet
              exact ⟨by rw [← HBq.out, if_pos trivial, getD_data hpos], hb2⟩
            · have hb1 : ((i : Int) == 1) = false := by rw [beq_eq_false_iff_ne]; omega
              go_wp2
              go_meet
              refine ⟨?_, Below.refl _ _⟩
              rw [← HBq.out, if_neg (by omega), hlp.out]
              congr 1; omega
          case rest =>
            obtain ⟨rfl, hbc⟩ := hcut
            have HC0 := Lib.hid hbc
            have HKX := Lib.hid (Boxed.up HX.out hbc HX.out.lt)
            have cb2 := HKX.out.cell
            have fb2 := HKX.out.frozen
            have lb2 := HKX.out.lt
            have HO1 := Lib.hid (OwnRules.below HO.out hbc)
            clear hbc cb' fb' c0'
            go_wp2_with fail
            go_region_law (first
              | (go_simp; go_at_call 210; refine (OF1.out _ (by repeat (first | exact HC0.out | refine Below.drew ?_))).mono ?_; rintro e w2 ⟨rfl, hb2⟩; have bx2 := Boxed.up (Boxed.mk' HKX.out) hb2 lb2; have hcb2 := bx2.cell; have hfb2 := bx2.frozen; have lb3 := bx2.lt)
              | (go_simp; go_at_call 212; refine (pairInt_any _ _ _).mono ?_; rintro e w3 ⟨rfl, hb3⟩; have bx3 := Boxed.up bx2 hb3 lb3; have hcb3 := bx3.cell; have hfb3 := bx3.frozen; have lb4 := bx3.lt)
              | (refine step_push_ruleK (base := w.heap.size + 3) (by rfl) _ _ (by rfl) (by rfl) (by first | rfl | simp) rfl (OwnRules.below (OwnRules.below HO1.out.drew hb2) hb3) HLn.out (by omega) ?_; intro v4 w4 own4 hg4 hor4 hb4; have bx4 : Boxed w4 (w.heap.size + 2) 30 _ := Boxed.grown (Boxed.up (Boxed.up (Boxed.mk' HKX.out) hb2 lb2) hb3 lb3) (by decide) (OwnRules.below (OwnRules.below HO1.out.drew hb2) hb3) hg4; obtain ⟨A4, c4, rfl, _⟩ := own_nil own4; have hcb4 := bx4.cell; have hfb4 := bx4.frozen))
            all_goals
              have z2 : wc.heap.size ≤ w2.heap.size := hb2.size
              have z3 : w2.heap.size ≤ w3.heap.size := hb3.size
              have zc : wr.heap.size ≤ wc.heap.size := HC0.out.size
              have h23 : Below wc.heap.size wc w3 := Below.tr (Below.undrew hb2) hb3
              have hbz : Below (w.heap.size + 3) wr w4 := (HC0.out.mono (by omega)).trans ((h23.mono (by omega)).trans (((Below.refl _ _).alloc (by omega) _).trans hb4))
              have OWN := OwnRules.below (OwnRules.below HO1.out.drew hb2) hb3
              have bL : Boxed w4 wo.heap.size 28 _ := Boxed.grownO (t := 28) (((HKL.out.up HC0.out).up h23)) (by decide) OWN hg4
              have HBL := Lib.hid bL
              have HBZ := Lib.hid hbz
              have HO4 := Lib.hid own4
              have HX4 := Lib.hid bx4
              obtain ⟨g, hg⟩ := hAo.out (by have := idxG_lt HS.out hpos; omega)
              have hsl3 : SlS RuleE (w3.alloc (.cells #[.string ⟨#[]⟩, .int .i64 (B : Int), .int .i64 (I : Int)] 165)) (fun b => w.heap.size + 3 ≤ b ∧ b < wo.heap.size) (.slice Ao (letsG s 4).length co) (letsG s 4) :=
                HSl.out.keep ((Keep.of_below ((Below.tr HC0.out h23).alloc (by omega) _)).mono fun _ hb => by omega)
              have e4 : plainK s (i - 1) ++ [⟨⟨#[]⟩, (B : Int), (I : Int)⟩] = letsG s 4 ++ ((List.range (i - 1)).map (pairAt s) ++ [⟨⟨#[]⟩, (B : Int), (I : Int)⟩]) := by rw [plainK, List.append_assoc]
              have hsl4 : SlS RuleE w4 (fun b => w.heap.size + 3 ≤ b ∧ b < wo.heap.size) (.slice Ao (letsG s 4).length co) (letsG s 4) := by
                rw [hg] at hsl3 ⊢
                exact lets_keep hsl3 (fun b hb => by simp; omega) own4 e4 hg4 hor4
              have HSL4 := Lib.hid hsl4
              clear hsl3 hsl4 e4 hg bL hbz own4 bx4 OWN h23 hb2 hb3 hb4 hg4 hor4 bx2 bx3
              go_wp2
              go_roundw
              case rel =>
                refine ⟨i + 1, _, by omega, .inl (by omega), by go_num, (HB2.out.trans (HBZ.out.mono (by omega))).setCell (by show w.heap.size ≤ w.heap.size + 2; omega) _, (HK0.out.upB HBZ.out (by omega)).other (by show w.heap.size ≠ w.heap.size + 2; omega) _, (HK1.out.upB HBZ.out (by omega)).other (by show w.heap.size + 1 ≠ w.heap.size + 2; omega) _,
                  Blk.other HBL.out (by show wo.heap.size ≠ w.heap.size + 2; omega) _, Boxed.set _ HX4.out, ?_, HSL4.out.keep fun b hb => Below.heap_setCell _ _ _ _ (by show b ≠ w.heap.size + 2; omega)⟩
                rw [show i + 1 - 1 = (i - 1) + 1 by omega, HP.out, HBp.out]
                exact own_put HX4.out HO4.out rfl (by simp)
              case measure => simp [intOf]; omega
        · have hb0 : 1 ≤ i := hi1
          have HE := Lib.hid (show plainK s (i - 1) = plainG s by rw [plainG]; congr 1; omega)
          have r1 := HK1.out.cell (i := 0) (v := .slice none 0 0) rfl
          have r2 := HK1.out.frozen 0
          have r3 := HK1.out.lt
          go_wp2
          rw [HE.out] at HO HX
          refine bodyPost_ret (v := .agg #[.slice A2 (plainG s).length c2]) (by simp [results, Tryz.results140, go_sem, r1, HE.out]) rfl ⟨HB2.out.setCell (by show w.heap.size ≤ w.heap.size + 1; omega) _, _, ?_, rfl⟩
          exact ownsRow_more (ownsRow_setCell_below HO.out (a := ⟨w.heap.size + 1, 0, none⟩) (by show w.heap.size + 1 < w.heap.size + 3; omega) _) (by omega)
theorem raiseR_ok {n k : Nat} {r : GRule} (h : okRule k r = true) : okRule (n + k) (raiseR n r) = true := by
  unfold raiseR
  cases hp : r.pair with
  | true =>
    obtain ⟨q1, q2, q3, q4⟩ := okRule_at h hp
    rw [if_pos rfl]
    have hl : r.letter.size = 0 := by simpa [GRule.pair] using hp
    unfold okRule
    rw [if_pos (show (GRule.pair ⟨r.letter, r.left + n, r.right + n⟩) = true by simpa [GRule.pair] using hl)]
    show (decide (0 ≤ r.left + n) && decide (r.left + n ≤ ((n + k : Nat) : Int) - 1) && decide (0 ≤ r.right + n) && decide (r.right + n ≤ ((n + k : Nat) : Int) - 1)) = true
    rw [decide_eq_true (by omega), decide_eq_true (by omega), decide_eq_true (by omega), decide_eq_true (by omega)]; rfl
  | false =>
    rw [if_neg (by simp)]
    unfold okRule at h ⊢
    rw [if_neg (by simp [hp])] at h ⊢
    exact h
theorem okAll_raise {xs ys : List GRule} (h : OkAll xs) (h' : OkAll ys) : OkAll (xs ++ ys.map (raiseR xs.length)) := by
  intro k r hk
  rcases Nat.lt_or_ge k xs.length with hlt | hge
  · rw [List.getElem?_append_left hlt] at hk; exact h k r hk
  · rw [List.getElem?_append_right hge, List.getElem?_map] at hk
    rcases hy : ys[k - xs.length]? with _ | y
    · rw [hy] at hk; cases hk
    · rw [hy] at hk
      have : raiseR xs.length y = r := by simpa using hk
      rw [← this, show k = xs.length + (k - xs.length) by omega]
      exact raiseR_ok (h' _ y hy)
theorem okAll_nil : OkAll [] := fun k r h => by simp at h
theorem okAll_smallP {xs : List GRule} (h : OkAll xs) (hl : xs.length ≤ 1099511627776) : SmallP xs := by
  intro r hr hp
  obtain ⟨k, hk⟩ := List.mem_iff_getElem?.1 hr
  have h1 := okRule_at (h k r hk) hp
  have h2 := (List.getElem?_eq_some_iff.1 hk).1
  omega
theorem ints_cell {S : List Int} {i : Nat} (h : i < S.length) : ((S.map (Value.int .i64)).toArray)[i]? = some (.int .i64 (S.getD i 0)) := by
  rw [List.getElem?_toArray, List.getElem?_map, List.getD_eq_getElem?_getD, List.getElem?_eq_getElem h]; rfl
theorem ints_set (S : List Int) (i : Nat) (v : Int) : ((S.map (Value.int .i64)).toArray).setIfInBounds i (.int .i64 v) = ((S.set i v).map (Value.int .i64)).toArray := by
  rw [List.map_set]; simp
structure BaseOk (k : Nat) (p : List GRule × List Int) : Prop where
  ok : OkAll p.1
  len : p.1.length ≤ 2004 * k
  l4 : p.2.length = 4
  low : ∀ i, i < 4 → -1 ≤ p.2.getD i 0 ∧ p.2.getD i 0 < p.1.length
theorem baseG_succ (xs : List GRule) (ws : List ByteArray) (k : Nat) : baseG xs ws (k + 1) = baseStep xs ws (baseG xs ws k) k := by
  unfold baseG; rw [List.range_succ, List.foldl_append]; rfl
theorem getD_set {l : List Int} {i j : Nat} {v : Int} (hi : i < l.length) : (l.set i v).getD j 0 = if i = j then v else l.getD j 0 := by
  by_cases h : i = j
  · subst h; rw [if_pos rfl, List.getD_eq_getElem?_getD, List.getElem?_set, if_pos rfl, if_pos hi]; rfl
  · rw [if_neg h]; exact set_ne h
theorem base_ok (xs : List GRule) (ws : List ByteArray) (hw : ∀ s ∈ ws, wordOk s = true) (hl : ws.length = 4) : ∀ k, k ≤ 4 → BaseOk k (baseG xs ws k) := by
  intro k
  induction k with
  | zero => intro _; refine ⟨okAll_nil, by simp [baseG], rfl, fun i hi => ?_⟩; have : i = 0 ∨ i = 1 ∨ i = 2 ∨ i = 3 := by omega
            rcases this with rfl | rfl | rfl | rfl <;> simp [baseG]
  | succ k ih =>
    intro hk
    have H := ih (by omega)
    rw [baseG_succ]
    obtain ⟨O, S, hp⟩ : ∃ O S, baseG xs ws k = (O, S) := ⟨_, _, rfl⟩
    rw [hp] at H ⊢
    have hO : OkAll O := H.ok
    have hlO : O.length ≤ 2004 * k := H.len
    have hS : S.length = 4 := H.l4
    have hlow : ∀ i, i < 4 → -1 ≤ S.getD i 0 ∧ S.getD i 0 < (O.length : Int) := H.low
    have hwk : wordOk (ws.getD k ⟨#[]⟩) = true := by
      rw [List.getD_eq_getElem?_getD, List.getElem?_eq_getElem (by omega)]
      exact hw _ (List.getElem_mem _)
    have hsz : (ws.getD k ⟨#[]⟩).size ≤ 2000 := by unfold wordOk at hwk; simp only [Bool.and_eq_true, decide_eq_true_eq] at hwk; omega
    have hpl := plainG_len (ws.getD k ⟨#[]⟩)
    unfold baseStep
    split
    · refine ⟨okAll_raise hO (okAll_plainG hwk), ?_, by simp [hS], ?_⟩
      · show (O ++ _).length ≤ _
        rw [List.length_append, List.length_map]; omega
      · intro i hi
        show -1 ≤ (S.set k _).getD i 0 ∧ (S.set k _).getD i 0 < ((O ++ _).length : Int)
        rw [getD_set (by omega), List.length_append, List.length_map]
        have := hlow i hi
        have e0 : ((O, S) : List GRule × List Int).fst.length = O.length := rfl
        split <;> omega
    · exact ⟨hO, by show O.length ≤ _; omega, hS, hlow⟩
structure StandOk (B k : Nat) (p : List GRule × List Int) : Prop where
  ok : OkAll p.1
  len : p.1.length ≤ B + k
  ls : p.2.length = k
  low : ∀ i, i < k → -1 ≤ p.2.getD i 0 ∧ p.2.getD i 0 < p.1.length
theorem standG_succ {xs : List GRule} {ws : List ByteArray} {k : Nat} {r : GRule} (h : xs[k]? = some r) : standG xs ws (k + 1) = standStep (baseG xs ws 4).2 (standG xs ws k) r := by
  unfold standG; exact foldl_take_succ _ _ _ _ _ h
theorem snoc_low {S : List Int} {v : Int} {m : Nat} (h : ∀ i, i < S.length → -1 ≤ S.getD i 0 ∧ S.getD i 0 < (m : Int)) {m' : Nat} (hm : m ≤ m') (hv : -1 ≤ v ∧ v < (m' : Int)) : ∀ i, i < S.length + 1 → -1 ≤ (S ++ [v]).getD i 0 ∧ (S ++ [v]).getD i 0 < (m' : Int) := by
  intro i hi
  rcases Nat.lt_or_ge i S.length with hlt | hge
  · rw [getI_append hlt]; have := h i hlt; omega
  · have : i = S.length := by omega
    subst this
    rw [getI_last]; exact hv
theorem letter_idx {r : GRule} {k : Nat} (h : okRule k r = true) (hp : r.pair = false) : 97 ≤ (r.letter.data.getD 0 0).toNat ∧ (r.letter.data.getD 0 0).toNat ≤ 100 := by
  unfold okRule at h
  rw [if_neg (by simp [hp])] at h
  simp [isLet] at h
  have h1 := h.1.1.1.2
  have h2 := h.1.1.2
  simp only [Array.getD_eq_getD_getElem?]
  omega
theorem stand_ok (xs : List GRule) (ws : List ByteArray) (hw : ∀ s ∈ ws, wordOk s = true) (hl : ws.length = 4) (hx : OkAll xs) : ∀ k, k ≤ xs.length → StandOk 8016 k (standG xs ws k) := by
  have HB := base_ok xs ws hw hl 4 (Nat.le_refl _)
  intro k
  induction k with
  | zero => intro _; exact ⟨HB.ok, by have := HB.len; show (baseG xs ws 4).1.length ≤ _; omega, rfl, fun i hi => absurd hi (by omega)⟩
  | succ k ih =>
    intro hk
    have H := ih (by omega)
    obtain ⟨r, hr⟩ : ∃ r, xs[k]? = some r := ⟨_, List.getElem?_eq_getElem (by omega)⟩
    have hor := hx k r hr
    have hB4 : (baseG xs ws 4).1.length ≤ (standG xs ws k).1.length := by
      clear H hor
      unfold standG
      suffices G : ∀ (l : List GRule) (p : List GRule × List Int), p.1.length ≤ (l.foldl (standStep (baseG xs ws 4).2) p).1.length by exact G (xs.take k) ((baseG xs ws 4).1, [])
      intro l
      induction l with
      | nil => intro p; exact Nat.le_refl _
      | cons a l ih2 =>
        intro p
        refine Nat.le_trans ?_ (ih2 _)
        unfold standStep
        split
        · split
          · exact Nat.le_refl _
          · split
            · exact Nat.le_refl _
            · simp
        · exact Nat.le_refl _
    rw [standG_succ hr]
    obtain ⟨O, S, hp⟩ : ∃ O S, standG xs ws k = (O, S) := ⟨_, _, rfl⟩
    rw [hp] at H hB4 ⊢
    have hO : OkAll O := H.ok
    have hlO : O.length ≤ 8016 + k := H.len
    have hS : S.length = k := H.ls
    have hlow : ∀ i, i < k → -1 ≤ S.getD i 0 ∧ S.getD i 0 < (O.length : Int) := H.low
    have hlow' : ∀ i, i < S.length → -1 ≤ S.getD i 0 ∧ S.getD i 0 < (O.length : Int) := fun i hi => hlow i (by omega)
    unfold standStep
    cases hpr : r.pair with
    | true =>
      obtain ⟨q1, q2, q3, q4⟩ := okRule_at hor hpr
      rw [if_pos rfl]
      have a := hlow _ q2
      have b := hlow _ q4
      split
      · exact ⟨hO, by show O.length ≤ _; omega, by simp [hS], by rw [← hS]; exact snoc_low hlow' (Nat.le_refl _) b⟩
      · split
        · exact ⟨hO, by show O.length ≤ _; omega, by simp [hS], by rw [← hS]; exact snoc_low hlow' (Nat.le_refl _) a⟩
        · rename_i c1 c2
          have c1' : ¬ S.getD r.left.toNat 0 < 0 := c1
          have c2' : ¬ S.getD r.right.toNat 0 < 0 := c2
          refine ⟨hO.snoc (okRule_pair ⟨by omega, a.2⟩ ⟨by omega, b.2⟩), by show (O ++ _).length ≤ _; simp; omega, by simp [hS], ?_⟩
          rw [← hS]
          show ∀ i, i < S.length + 1 → -1 ≤ (S ++ [(O.length : Int)]).getD i 0 ∧ (S ++ [(O.length : Int)]).getD i 0 < (((O ++ [pairR (S.getD r.left.toNat 0) (S.getD r.right.toNat 0)]).length : Nat) : Int)
          exact snoc_low hlow' (by simp) (by simp; omega)
    | false =>
      rw [if_neg (by simp)]
      have hc := letter_idx hor hpr
      have hb := HB.low ((r.letter.data.getD 0 0).toNat - 97) (by omega)
      exact ⟨hO, by show O.length ≤ _; omega, by simp [hS], by rw [← hS]; exact snoc_low hlow' (Nat.le_refl _) ⟨hb.1, by show _ < (O.length : Int); have : (baseG xs ws 4).1.length ≤ O.length := hB4; omega⟩⟩
def mapOut (xs : List GRule) (ws : List ByteArray) : List GRule :=
  if 400 < (mapP xs ws).1.length then [] else if xs.length = 0 ∨ lastI (mapP xs ws).2 < 0 then [] else limOut (trimG ((mapP xs ws).1.take ((lastI (mapP xs ws).2).toNat + 1)))
def mapCode (xs : List GRule) (ws : List ByteArray) : Int :=
  if 400 < (mapP xs ws).1.length then 3 else if xs.length = 0 ∨ lastI (mapP xs ws).2 < 0 then 0 else limCode (trimG ((mapP xs ws).1.take ((lastI (mapP xs ws).2).toNat + 1)))
end Go.Proofs.YtbifijlenbibmaaGreatDoor
