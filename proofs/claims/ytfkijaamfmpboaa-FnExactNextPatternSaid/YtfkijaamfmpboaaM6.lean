import Derived.Test.YtfkijaamfmpboaaM5
import Derived.Test.YtfkijaamfmpboaaM1
import Derived.WalkArith
import Derived.Test.YtfkijaamfmpboaaM3
namespace Go.Proofs.Ytfkijaamfmpboaa
open Go.RowKit
def zRide : Array Value := #[.int .i64 0, .int .i64 0, .slice none 0 0, .slice none 0 0, .slice none 0 0, .slice none 0 0, .slice none 0 0]
def seekC (xs : List GRule) (p : ByteArray) : Int := if gramOk xs && wordOk p then patC p else 1
def SeekPost (xs : List GRule) (p : ByteArray) (w : World) (r : Ending) (w' : World) : Prop :=
  Below w.heap.size w w' ∧ ((seekC xs p ≠ 0 ∧ r = .returned (.tuple #[.agg zRide, .int .i64 (seekC xs p)])) ∨
    (seekC xs p = 0 ∧ ∃ v ls, r = .returned (.tuple #[v, .int .i64 0]) ∧ lens xs = some ls ∧ gramOk xs = true ∧ wordOk p = true ∧ 0 < p.size ∧ p.size ≤ 20 ∧ RideV w' w'.heap.size v (patA p) xs ls))
theorem setRide {w wx : World} {K : Nat} (h : Below w.heap.size w wx) (hK : w.heap.size ≤ K) (a b c d e f g : Value) :
    Below w.heap.size w (((((((wx.setCell ⟨K, 0, none⟩ a).setCell ⟨K, 1, none⟩ b).setCell ⟨K, 2, none⟩ c).setCell ⟨K, 3, none⟩ d).setCell ⟨K, 4, none⟩ e).setCell ⟨K, 5, none⟩ f).setCell ⟨K, 6, none⟩ g) :=
  ((((((h.setCell (p := ⟨K, 0, none⟩) hK _).setCell (p := ⟨K, 1, none⟩) hK _).setCell (p := ⟨K, 2, none⟩) hK _).setCell (p := ⟨K, 3, none⟩) hK _).setCell (p := ⟨K, 4, none⟩) hK _).setCell (p := ⟨K, 5, none⟩) hK _).setCell (p := ⟨K, 6, none⟩) hK _
theorem setRideK {wx : World} {K : Nat} {S : Nat → Prop} (h : ¬ S K) (a b c d e f g : Value) :
    Keep S wx (((((((wx.setCell ⟨K, 0, none⟩ a).setCell ⟨K, 1, none⟩ b).setCell ⟨K, 2, none⟩ c).setCell ⟨K, 3, none⟩ d).setCell ⟨K, 4, none⟩ e).setCell ⟨K, 5, none⟩ f).setCell ⟨K, 6, none⟩ g) := by
  intro j hj
  have hne : j ≠ K := fun e => h (e ▸ hj)
  simp [World.setCell, Array.getElem?_modify, hne, Ne.symm hne]
theorem setRideZ (wx : World) (K : Nat) (a b c d e f g : Value) : (((((((wx.setCell ⟨K, 0, none⟩ a).setCell ⟨K, 1, none⟩ b).setCell ⟨K, 2, none⟩ c).setCell ⟨K, 3, none⟩ d).setCell ⟨K, 4, none⟩ e).setCell ⟨K, 5, none⟩ f).setCell ⟨K, 6, none⟩ g).heap.size = wx.heap.size := by simp [World.setCell]
theorem ride_yes {S0 : Nat → Prop} {a : GAuto} {xs : List GRule} {w w' : World} {e : Ending} (ha : autoOk a = true) (hg : gramOk xs = true) (h : RidePostS S0 a xs w e w') :
    Below w.heap.size w w' ∧ ∃ ls v, lens xs = some ls ∧ e = .returned (.tuple #[v, .bool true]) ∧ RideS w' (fun b => S0 b ∨ (w.heap.size < b ∧ b < w'.heap.size)) v a xs ls := by
  obtain ⟨hb, h⟩ := h
  rcases h with ⟨ls, v, h1, _, _, h2, h3⟩ | ⟨hno, _⟩
  · exact ⟨hb, ls, v, h1, h2, h3⟩
  · rw [ha, hg] at hno; cases hno
theorem setRideB {wx : World} {K : Nat} {t : TypeId} {z0 z1 z2 z3 z4 z5 z6 : Value} (h : Blk wx K #[z0, z1, z2, z3, z4, z5, z6] t) (a b c d e f g : Value) :
    Blk (((((((wx.setCell ⟨K, 0, none⟩ a).setCell ⟨K, 1, none⟩ b).setCell ⟨K, 2, none⟩ c).setCell ⟨K, 3, none⟩ d).setCell ⟨K, 4, none⟩ e).setCell ⟨K, 5, none⟩ f).setCell ⟨K, 6, none⟩ g) K #[a, b, c, d, e, f, g] t := by
  have := ((((((h.set 0 a).set 1 b).set 2 c).set 3 d).set 4 e).set 5 f).set 6 g
  simpa using this
def SeekMid (xs : List GRule) (p : ByteArray) (w w2 : World) (r : Value) (wx : World) : Prop :=
  ∃ (ls : List Int) (Q : Nat) (B0 B1 B2 B3 B4 : Option Addr) (e0 e1 e2 e3 e4 : Nat), r = .pointer (some ⟨Q, 0, none⟩) ∧ lens xs = some ls ∧ Below w2.heap.size w2 wx ∧
    Blk wx Q #[.int .i64 (patA p).states, .int .i64 (patA p).start, .slice B0 (patA p).finals.length e0, .slice B1 (patA p).next.length e1, .slice B2 xs.length e2, .slice B3 ls.length e3, .slice B4 (mapsOf (patA p).next xs).length e4] 68 ∧
    RideS wx (fun b => b < w.heap.size ∨ (w2.heap.size ≤ b ∧ b < wx.heap.size)) (.agg #[.int .i64 (patA p).states, .int .i64 (patA p).start, .slice B0 (patA p).finals.length e0, .slice B1 (patA p).next.length e1, .slice B2 xs.length e2, .slice B3 ls.length e3, .slice B4 (mapsOf (patA p).next xs).length e4]) (patA p) xs ls
theorem SeekMid.drew {xs : List GRule} {p : ByteArray} {w w2 wx : World} {r : Value} (h : SeekMid xs p w w2 r wx) : SeekMid xs p w w2 r wx.drew := by
  obtain ⟨ls, Q, B0, B1, B2, B3, B4, e0, e1, e2, e3, e4, h0, hl, hb, hbl, hr⟩ := h
  exact ⟨ls, Q, B0, B1, B2, B3, B4, e0, e1, e2, e3, e4, h0, hl, hb.drew, hbl, hr.keep fun _ _ => rfl⟩
theorem mid_alloc {xs : List GRule} {p : ByteArray} {w w2 w5 : World} {N4 : Nat} {ls : List Int} {B0 B1 B2 B3 B4 : Option Addr} {e0 e1 e2 e3 e4 : Nat} (K5 : Below w2.heap.size w2 w5) (hl : lens xs = some ls) (h1 : w.heap.size ≤ w2.heap.size)
    (Hr : RideS w5 (fun b => b < w.heap.size ∨ (w2.heap.size < b ∧ b ≠ N4 ∧ b < w5.heap.size)) (.agg #[.int .i64 (patA p).states, .int .i64 (patA p).start, .slice B0 (patA p).finals.length e0, .slice B1 (patA p).next.length e1, .slice B2 xs.length e2, .slice B3 ls.length e3, .slice B4 (mapsOf (patA p).next xs).length e4]) (patA p) xs ls) :
    SeekMid xs p w w2 (.pointer (some ⟨w5.heap.size, 0, none⟩)) (w5.alloc (Obj.cells #[.int .i64 (patA p).states, .int .i64 (patA p).start, .slice B0 (patA p).finals.length e0, .slice B1 (patA p).next.length e1, .slice B2 xs.length e2, .slice B3 ls.length e3, .slice B4 (mapsOf (patA p).next xs).length e4] 68)) := by
  have h2 := K5.size
  refine ⟨ls, w5.heap.size, B0, B1, B2, B3, B4, e0, e1, e2, e3, e4, rfl, hl, Below.tr K5 ((Below.refl _ _).alloc (Nat.le_refl _) _), Blk.new w5 _ _, ?_⟩
  refine RideS.more (Hr.keep fun j hj => Below.heap_alloc w5 _ j (by rcases hj with h | h <;> omega)) (fun b h => ?_)
  rcases h with h | h
  · exact Or.inl h
  · exact Or.inr ⟨by omega, by simp; omega⟩
theorem mid_set {xs : List GRule} {p : ByteArray} {w w2 w5 : World} {N4 Q : Nat} {ls : List Int} {B0 B1 B2 B3 B4 : Option Addr} {e0 e1 e2 e3 e4 : Nat} (K5 : Below w2.heap.size w2 w5) (hl : lens xs = some ls) (h1 : w.heap.size ≤ w2.heap.size)
    (Hr : RideS w5 (fun b => b < w.heap.size ∨ (w2.heap.size < b ∧ b ≠ N4 ∧ b < w5.heap.size)) (.agg #[.int .i64 (patA p).states, .int .i64 (patA p).start, .slice B0 (patA p).finals.length e0, .slice B1 (patA p).next.length e1, .slice B2 xs.length e2, .slice B3 ls.length e3, .slice B4 (mapsOf (patA p).next xs).length e4]) (patA p) xs ls) (h4 : w2.heap.size ≤ N4) (hQ : Q = w2.heap.size ∨ Q = N4) (q5 : Blk w5 Q #[.int .i64 0, .int .i64 0, .slice none 0 0, .slice none 0 0, .slice none 0 0, .slice none 0 0, .slice none 0 0] 68) :
    SeekMid xs p w w2 (.pointer (some ⟨Q, 0, none⟩)) (((((((w5.setCell ⟨Q, 0, none⟩ (.int .i64 (patA p).states)).setCell ⟨Q, 1, none⟩ (.int .i64 (patA p).start)).setCell ⟨Q, 2, none⟩ (.slice B0 (patA p).finals.length e0)).setCell ⟨Q, 3, none⟩ (.slice B1 (patA p).next.length e1)).setCell ⟨Q, 4, none⟩ (.slice B2 xs.length e2)).setCell ⟨Q, 5, none⟩ (.slice B3 ls.length e3)).setCell ⟨Q, 6, none⟩ (.slice B4 (mapsOf (patA p).next xs).length e4)) := by
  have hQ2 : w2.heap.size ≤ Q := by omega
  refine ⟨ls, Q, B0, B1, B2, B3, B4, e0, e1, e2, e3, e4, rfl, hl, setRide (w := w2) K5 hQ2 _ _ _ _ _ _ _, setRideB q5 _ _ _ _ _ _ _, ?_⟩
  refine RideS.more (Hr.keep (setRideK (K := Q) (fun h => by rcases h with h | h <;> omega) _ _ _ _ _ _ _)) (fun b h => ?_)
  rw [setRideZ]
  rcases h with h | h
  · exact Or.inl h
  · exact Or.inr ⟨by omega, h.2.2⟩
set_option maxRecDepth 100000 in
set_option maxHeartbeats 8000000 in
theorem seek_any (vR : Value) (xs : List GRule) (p : ByteArray) (w : World) (hR : Sl RuleE w w.heap.size vR xs) (hn : xs.length ≤ 1048576) (hp : p.size ≤ maxLen) :
    Calls Try.prog 36 #[.agg #[vR], .string p] w (SeekPost xs p w) := by
  have HR := Lib.hid hR
  obtain ⟨AR, cR, rfl, _⟩ := hR
  go_enter Try.func36, Try.ntmps36
  go_wp2_with fail
  have ka := (Below.refl w.heap.size w).alloc (Nat.le_refl _) (Obj.cells #[.slice AR xs.length cR] 30)
  have kb := ka.alloc (by simp) (Obj.cells #[.int .i64 0, .int .i64 0, .slice none 0 0, .slice none 0 0, .slice none 0 0, .slice none 0 0, .slice none 0 0] 68)
  have kG := (Blk.new w #[.slice AR xs.length cR] 30).up ((Below.refl _ _).alloc (Nat.le_refl _) (Obj.cells #[.int .i64 0, .int .i64 0, .slice none 0 0, .slice none 0 0, .slice none 0 0, .slice none 0 0, .slice none 0 0] 68))
  have kR : Blk ((w.alloc (Obj.cells #[.slice AR xs.length cR] 30)).alloc (Obj.cells #[.int .i64 0, .int .i64 0, .slice none 0 0, .slice none 0 0, .slice none 0 0, .slice none 0 0, .slice none 0 0] 68)) (w.heap.size + 1) #[.int .i64 0, .int .i64 0, .slice none 0 0, .slice none 0 0, .slice none 0 0, .slice none 0 0, .slice none 0 0] 68 := by
    have := Blk.new (w.alloc (Obj.cells #[.slice AR xs.length cR] 30)) #[.int .i64 0, .int .i64 0, .slice none 0 0, .slice none 0 0, .slice none 0 0, .slice none 0 0, .slice none 0 0] 68
    simpa using this
  generalize ((w.alloc (Obj.cells #[.slice AR xs.length cR] 30)).alloc (Obj.cells #[.int .i64 0, .int .i64 0, .slice none 0 0, .slice none 0 0, .slice none 0 0, .slice none 0 0, .slice none 0 0] 68)) = w1 at *
  clear ka
  refine (ValidGrammar_any _ xs _ (HR.out.up kb) (by omega)).mono ?_
  rintro r w2 ⟨rfl, hb⟩
  have KG := Lib.hid (kG.up hb)
  have KR := Lib.hid (kR.up hb)
  have HB := Lib.hid (Below.tr kb hb)
  clear kb kG kR hb
  have bad : ∀ c : Int, c ≠ 0 → seekC xs p = c → SeekPost xs p w (.returned (.tuple #[.agg zRide, .int .i64 c])) (((((((w2.setCell ⟨w.heap.size + 1, 0, none⟩ (.int .i64 0)).setCell ⟨w.heap.size + 1, 1, none⟩ (.int .i64 0)).setCell ⟨w.heap.size + 1, 2, none⟩ (.slice none 0 0)).setCell ⟨w.heap.size + 1, 3, none⟩ (.slice none 0 0)).setCell ⟨w.heap.size + 1, 4, none⟩ (.slice none 0 0)).setCell ⟨w.heap.size + 1, 5, none⟩ (.slice none 0 0)).setCell ⟨w.heap.size + 1, 6, none⟩ (.slice none 0 0)) := fun c h e => ⟨setRide HB.out (by omega) _ _ _ _ _ _ _, Or.inl ⟨by rw [e]; exact h, by rw [e]⟩⟩
  have Hbad := Lib.hid bad
  clear bad
  have m0 := Blk.cell (i := 0) (v := .int .i64 0) KR.out rfl
  have m1 := Blk.cell (i := 1) (v := .int .i64 0) KR.out rfl
  have m2 := Blk.cell (i := 2) (v := .slice none 0 0) KR.out rfl
  have m3 := Blk.cell (i := 3) (v := .slice none 0 0) KR.out rfl
  have m4 := Blk.cell (i := 4) (v := .slice none 0 0) KR.out rfl
  have m5 := Blk.cell (i := 5) (v := .slice none 0 0) KR.out rfl
  have m6 := Blk.cell (i := 6) (v := .slice none 0 0) KR.out rfl
  have fR := Blk.frozen KR.out
  have lR := Blk.lt KR.out
  cases hg : gramOk xs with
  | false =>
    have Hc := Lib.hid (show seekC xs p = 1 by rw [seekC, hg]; rfl)
    clear hg
    go_wp2_with fail
    refine bodyPost_ret (v := .tuple #[.agg zRide, .int .i64 1]) (by simp [results, Try.results36, go_sem, m0, m1, m2, m3, m4, m5, m6, zRide]) rfl (Hbad.out 1 (by decide) Hc.out)
  | true =>
    have Hg := Lib.hid hg
    clear hg
    go_wp2_with fail
    refine (ValidWord_any p _ hp).mono ?_
    rintro r w3 ⟨rfl, rfl⟩
    cases hw : wordOk p with
    | false =>
      have Hc := Lib.hid (show seekC xs p = 1 by rw [seekC, Hg.out, hw]; rfl)
      clear hw
      go_wp2_with fail
      refine bodyPost_ret (v := .tuple #[.agg zRide, .int .i64 1]) (by simp [results, Try.results36, go_sem, m0, m1, m2, m3, m4, m5, m6, zRide]) rfl (Hbad.out 1 (by decide) Hc.out)
    | true =>
      have Hc := Lib.hid (show seekC xs p = patC p by rw [seekC, Hg.out, hw]; rfl)
      have Hw := Lib.hid hw
      clear hw
      go_wp2_with fail
      refine (patternCode_any p _ hp).mono ?_
      rintro r w4 ⟨rfl, rfl⟩
      obtain ⟨c, hc⟩ : ∃ c, patC p = c := ⟨_, rfl⟩
      rw [hc]
      have HC := Lib.hid hc
      by_cases hc0 : c = 0
      · subst hc0
        have hp0 : 0 < p.size ∧ p.size ≤ 20 := by
          unfold patC at hc
          split at hc
          · cases hc
          · split at hc
            · cases hc
            · omega
        have Hp := Lib.hid hp0
        have hp20 := hp0.2
        have Hok := Lib.hid (patA_ok hp20)
        have yG := Blk.cell (i := 0) (v := .slice AR xs.length cR) KG.out rfl
        have lG := Blk.lt KG.out
        clear hc hp0 m0 m1 m2 m3 m4 m5 m6 fR
        go_upto_region 6 with fail
        go_cut [7] (fun r wx => SeekMid xs p w w2 r wx)
        case first =>
          go_region_law (first
            | (go_simp; go_at_call 76; refine (patternAuto_any p _ hp20).mono ?_; rintro e w4 ⟨vA, rfl, hvA, hb4⟩
               have k4 : Below w2.heap.size w2 w4 := (by first | exact hb4 | exact (Below.drew (Below.refl w2.heap.size w2)).trans hb4 | exact Below.tr ((Below.refl w2.heap.size w2).alloc (Nat.le_refl _) (Obj.cells #[.int .i64 0, .int .i64 0, .slice none 0 0, .slice none 0 0, .slice none 0 0, .slice none 0 0, .slice none 0 0] 68)) hb4 | exact Below.tr ((Below.refl w2.heap.size w2).alloc (Nat.le_refl _) (Obj.cells #[.int .i64 0, .int .i64 0, .slice none 0 0, .slice none 0 0, .slice none 0 0, .slice none 0 0, .slice none 0 0] 68)).drew hb4)
               (try have q4 : Blk w4 w2.heap.size #[.int .i64 0, .int .i64 0, .slice none 0 0, .slice none 0 0, .slice none 0 0, .slice none 0 0, .slice none 0 0] 68 := (by first | exact (Blk.new w2 #[.int .i64 0, .int .i64 0, .slice none 0 0, .slice none 0 0, .slice none 0 0, .slice none 0 0, .slice none 0 0] 68).up hb4 | exact Blk.up (w := (w2.alloc (Obj.cells #[.int .i64 0, .int .i64 0, .slice none 0 0, .slice none 0 0, .slice none 0 0, .slice none 0 0, .slice none 0 0] 68)).drew) (Blk.new w2 #[.int .i64 0, .int .i64 0, .slice none 0 0, .slice none 0 0, .slice none 0 0, .slice none 0 0, .slice none 0 0] 68) hb4))
               have K4 := Lib.hid k4
               have y4 := Blk.cell (i := 0) (v := .slice AR xs.length cR) (KG.out.up k4) rfl
               have l4 := Blk.lt (KG.out.up k4)
               have HvA : Hid (AutoS w4 (fun b => b < w.heap.size ∨ (w2.heap.size < b ∧ b < w4.heap.size)) vA (patA p)) := AutoS.more hvA (fun _ h => Or.inr ⟨Nat.lt_of_le_of_lt (by first | exact Nat.le_refl _ | exact leDA _ _ | simp) h.1, h.2⟩)
               have HR4 : Hid (SlS RuleE w4 (fun b => b < w.heap.size ∨ (w2.heap.size < b ∧ b < w4.heap.size)) (.slice AR xs.length cR) xs) := (SlS.keep HR.out (Keep.of_below (HB.out.trans (k4.mono HB.out.size)))).more (fun _ h => Or.inl h)
               clear hb4 hvA k4)
            | (go_simp; go_at_call 75
               refine (newRideS_any (fun b => b < w.heap.size ∨ (w2.heap.size < b ∧ b < w4.heap.size)) _ _ (patA p) xs _ (HvA.out.keep (fun j hj => by first | rfl | exact Below.heap_alloc w4 (Obj.cells #[.int .i64 0, .int .i64 0, .slice none 0 0, .slice none 0 0, .slice none 0 0, .slice none 0 0, .slice none 0 0] 68) j (by have h1 := HB.out.size; have h2 := K4.out.size; rcases hj with h | h <;> omega))) (HR4.out.keep (fun j hj => by first | rfl | exact Below.heap_alloc w4 (Obj.cells #[.int .i64 0, .int .i64 0, .slice none 0 0, .slice none 0 0, .slice none 0 0, .slice none 0 0, .slice none 0 0] 68) j (by have h1 := HB.out.size; have h2 := K4.out.size; rcases hj with h | h <;> omega))) (fun b h => Nat.lt_of_lt_of_le (show b < w4.heap.size by have h1 := HB.out.size; have h2 := K4.out.size; rcases h with h | h <;> omega) (by first | exact Nat.le_refl _ | exact leDA _ _ | simp)) (by omega)).mono ?_
               rintro e w5 h5
               obtain ⟨hb5, ls, vr, hl, rfl, hr⟩ := ride_yes Hok.out Hg.out h5
               have k5 : Below w4.heap.size w4 w5 := (by first | exact hb5 | exact (Below.drew (Below.refl w4.heap.size w4)).trans hb5 | exact Below.tr ((Below.refl w4.heap.size w4).alloc (Nat.le_refl _) (Obj.cells #[.int .i64 0, .int .i64 0, .slice none 0 0, .slice none 0 0, .slice none 0 0, .slice none 0 0, .slice none 0 0] 68)) hb5 | exact Below.tr ((Below.refl w4.heap.size w4).alloc (Nat.le_refl _) (Obj.cells #[.int .i64 0, .int .i64 0, .slice none 0 0, .slice none 0 0, .slice none 0 0, .slice none 0 0, .slice none 0 0] 68)).drew hb5)
               (try have q5 : Blk w5 w4.heap.size #[.int .i64 0, .int .i64 0, .slice none 0 0, .slice none 0 0, .slice none 0 0, .slice none 0 0, .slice none 0 0] 68 := (by first | exact (Blk.new w4 #[.int .i64 0, .int .i64 0, .slice none 0 0, .slice none 0 0, .slice none 0 0, .slice none 0 0, .slice none 0 0] 68).up hb5 | exact Blk.up (w := (w4.alloc (Obj.cells #[.int .i64 0, .int .i64 0, .slice none 0 0, .slice none 0 0, .slice none 0 0, .slice none 0 0, .slice none 0 0] 68)).drew) (Blk.new w4 #[.int .i64 0, .int .i64 0, .slice none 0 0, .slice none 0 0, .slice none 0 0, .slice none 0 0, .slice none 0 0] 68) hb5))
               (try have q5 : Blk w5 w2.heap.size #[.int .i64 0, .int .i64 0, .slice none 0 0, .slice none 0 0, .slice none 0 0, .slice none 0 0, .slice none 0 0] 68 := q4.up k5)
               (try (have m0 := Blk.cell (i := 0) (v := .int .i64 0) q5 rfl; have m1 := Blk.cell (i := 1) (v := .int .i64 0) q5 rfl; have m2 := Blk.cell (i := 2) (v := .slice none 0 0) q5 rfl; have m3 := Blk.cell (i := 3) (v := .slice none 0 0) q5 rfl; have m4 := Blk.cell (i := 4) (v := .slice none 0 0) q5 rfl; have m5 := Blk.cell (i := 5) (v := .slice none 0 0) q5 rfl; have m6 := Blk.cell (i := 6) (v := .slice none 0 0) q5 rfl; have fQ := Blk.frozen q5; have lQ := Blk.lt q5))
               have K5 := Lib.hid (Below.tr K4.out k5)
               have Z45 := Lib.hid k5.size
               have Hl := Lib.hid hl
               have hr' := RideS.more (S' := fun b => b < w.heap.size ∨ (w2.heap.size < b ∧ b ≠ w4.heap.size ∧ b < w5.heap.size)) hr (fun b h => by have h1 := K4.out.size; have h2 := k5.size; exact h.elim (fun h => h.elim (fun h => Or.inl h) (fun h => Or.inr ⟨h.1, by omega, by omega⟩)) (fun h => by have h4 : w4.heap.size < b := Nat.lt_of_le_of_lt (by first | exact Nat.le_refl _ | exact leDA _ _ | simp) h.1; exact Or.inr ⟨by omega, by omega, h.2⟩))
               have Hr := Lib.hid hr'
               obtain ⟨uF, uN, uR, uL, uM, rfl, j1, j2, j3, j4, j5⟩ := hr
               obtain ⟨B0, e0, rfl, _⟩ := j1; obtain ⟨B1, e1, rfl, _⟩ := j2; obtain ⟨B2, e2, rfl, _⟩ := j3; obtain ⟨B3, e3, rfl, _⟩ := j4; obtain ⟨B4, e4, rfl, _⟩ := j5
               clear hb5 h5 k5 hl hr'))
          all_goals
            have h1 := HB.out.size
            have h4 := K4.out.size
            have H1 := Lib.hid (And.intro h1 h4)
            clear h1 h4 y4 l4 HvA HR4 yG lG
            (try clear m0 m1 m2 m3 m4 m5 m6 fQ lQ)
            go_wp2_with fail
            go_meet
            first
            | with_reducible exact mid_alloc K5.out Hl.out H1.out.1 Hr.out
            | with_reducible exact (mid_alloc K5.out Hl.out H1.out.1 Hr.out).drew
            | with_reducible exact mid_set K5.out Hl.out H1.out.1 Hr.out H1.out.2 (Or.inr rfl) q5
            | with_reducible exact mid_set K5.out Hl.out H1.out.1 Hr.out H1.out.2 (Or.inl rfl) q5
            | with_reducible exact (mid_set K5.out Hl.out H1.out.1 Hr.out H1.out.2 (Or.inr rfl) q5).drew
            | with_reducible exact (mid_set K5.out Hl.out H1.out.1 Hr.out H1.out.2 (Or.inl rfl) q5).drew
        case rest =>
          revert hcut
          generalize wc = wm
          intro hcut
          obtain ⟨ls, Q, B0, B1, B2, B3, B4, e0, e1, e2, e3, e4, rfl, hl, hb, hbl, hr⟩ := hcut
          have Hl := Lib.hid hl
          have HBm := Lib.hid hb
          have HRm := Lib.hid hr
          have KR2 := Lib.hid (KR.out.up hb)
          have m0 := Blk.cell (i := 0) (v := .int .i64 0) KR2.out rfl
          have m1 := Blk.cell (i := 1) (v := .int .i64 0) KR2.out rfl
          have m2 := Blk.cell (i := 2) (v := .slice none 0 0) KR2.out rfl
          have m3 := Blk.cell (i := 3) (v := .slice none 0 0) KR2.out rfl
          have m4 := Blk.cell (i := 4) (v := .slice none 0 0) KR2.out rfl
          have m5 := Blk.cell (i := 5) (v := .slice none 0 0) KR2.out rfl
          have m6 := Blk.cell (i := 6) (v := .slice none 0 0) KR2.out rfl
          have fR := Blk.frozen KR2.out
          have lR := Blk.lt KR2.out
          have n0 := Blk.cell (i := 0) (v := .int .i64 (patA p).states) hbl rfl
          have n1 := Blk.cell (i := 1) (v := .int .i64 (patA p).start) hbl rfl
          have n2 := Blk.cell (i := 2) (v := .slice B0 (patA p).finals.length e0) hbl rfl
          have n3 := Blk.cell (i := 3) (v := .slice B1 (patA p).next.length e1) hbl rfl
          have n4 := Blk.cell (i := 4) (v := .slice B2 xs.length e2) hbl rfl
          have n5 := Blk.cell (i := 5) (v := .slice B3 ls.length e3) hbl rfl
          have n6 := Blk.cell (i := 6) (v := .slice B4 (mapsOf (patA p).next xs).length e4) hbl rfl
          have lQ := Blk.lt hbl
          have z2 : w.heap.size + 1 < w2.heap.size := Blk.lt KR.out
          have HZ2 := Lib.hid z2
          clear hl hb hbl hr yG lG z2
          go_wp2_with fail
          refine bodyPost_ret (v := .tuple #[.agg #[.int .i64 (patA p).states, .int .i64 (patA p).start, .slice B0 (patA p).finals.length e0, .slice B1 (patA p).next.length e1, .slice B2 xs.length e2, .slice B3 ls.length e3, .slice B4 (mapsOf (patA p).next xs).length e4], .int .i64 0]) (by simp [results, Try.results36, go_sem, m0, m1, m2, m3, m4, m5, m6]) rfl ⟨setRide (Below.tr HB.out HBm.out) (by omega) _ _ _ _ _ _ _, Or.inr ⟨by rw [Hc.out, HC.out], _, ls, rfl, Hl.out, Hg.out, Hw.out, Hp.out.1, Hp.out.2, ?_⟩⟩
          refine RideS.v (RideS.more (HRm.out.keep (setRideK (K := w.heap.size + 1) (fun h => by have := HZ2.out; rcases h with h | h <;> omega) _ _ _ _ _ _ _)) (fun b h => ?_))
          rw [setRideZ]
          have h1 := HB.out.size
          have h2 := HBm.out.size
          rcases h with h | h <;> omega
      · have hcn : (c != 0) = true := by simpa using hc0
        have Hc0 := Lib.hid hc0
        clear hc hc0
        go_wp2_with fail
        refine bodyPost_ret (v := .tuple #[.agg zRide, .int .i64 c]) (by simp [results, Try.results36, go_sem, m0, m1, m2, m3, m4, m5, m6, zRide]) rfl (Hbad.out c Hc0.out (by rw [Hc.out, HC.out]))
section
variable {w wx w' : World} {b M M' B : Nat} {v : Value} {xs : List GRule}
end
theorem four {wx : World} {R : Nat} {a0 a1 a2 a3 : Value} {t : TypeId} (h : Blk wx R #[a0, a1, a2, a3] t) (v0 v1 v2 v3 : Value) :
    let W := (((wx.setCell ⟨R, 0, none⟩ v0).setCell ⟨R, 1, none⟩ v1).setCell ⟨R, 2, none⟩ v2).setCell ⟨R, 3, none⟩ v3
    Blk W R #[v0, v1, v2, v3] t ∧ (∀ k, k ≠ R → W.heap[k]? = wx.heap[k]?) ∧ Below R wx W := by
  intro W
  exact ⟨(((h.set 0 v0).set 1 v1).set 2 v2).set 3 v3,
    fun k hk => (Below.heap_setCell _ ⟨R, 3, none⟩ v3 k hk).trans ((Below.heap_setCell _ ⟨R, 2, none⟩ v2 k hk).trans ((Below.heap_setCell _ ⟨R, 1, none⟩ v1 k hk).trans (Below.heap_setCell _ ⟨R, 0, none⟩ v0 k hk))),
    ((((Below.refl _ wx).setCell (p := ⟨R, 0, none⟩) (Nat.le_refl _) v0).setCell (p := ⟨R, 1, none⟩) (Nat.le_refl _) v1).setCell (p := ⟨R, 2, none⟩) (Nat.le_refl _) v2).setCell (p := ⟨R, 3, none⟩) (Nat.le_refl _) v3⟩
section
variable {w w' : World} {b : Nat} {l : List Int}
end
def endV (p : ByteArray) (w : List UInt8) (i : Int) : Int := ffrV (patA p).next p.size 0 w (i + (p.size : Int) - 1).toNat
def nextV (xs : List GRule) (p : ByteArray) (i : Int) : Int := if seekC xs p ≠ 0 then 0 else if inR i 0 (gramLen xs) = false then 0 else if endV p (wordG xs) i < 0 then 0 else endV p (wordG xs) i - p.size
def nextC (xs : List GRule) (p : ByteArray) (i : Int) : Int := if seekC xs p ≠ 0 then seekC xs p else if inR i 0 (gramLen xs) = false then 2 else if endV p (wordG xs) i < 0 then 6 else 0
def nextR (xs : List GRule) (p : ByteArray) (i : Int) : Value := .tuple #[.int .i64 (nextV xs p i), .int .i64 (nextC xs p i)]
def endsN (p : ByteArray) (xs : List GRule) (ls : List Int) (j : Nat) : Nat := timesV (patA p).finals (visOut (patA p) xs ls (j : Int))
theorem ends_vis {p : ByteArray} (hp : p.size ≤ 20) {xs : List GRule} {ls : List Int} (hl : lens xs = some ls) (j : Nat) : endsN p xs ls j = visV (patA p).next p.size 0 ((wordG xs).take j) := by
  have h := (visOut_word (patA_ok hp) (by show 0 < ((List.range (p.size + 1)).map (rowP p)).length; simp) hl (j := (j : Int)) (pieces_mem hl 0 _)).2 p.size
  rw [cut_take, Int.toNat_natCast] at h
  unfold endsN timesV
  show ([(p.size : Int)].map _).sum = _
  rw [List.map_cons, List.map_nil, List.sum_cons, List.sum_nil, Nat.add_zero, Int.toNat_natCast, h]
  rfl
theorem next_imp {p : ByteArray} (hp : p.size ≤ 20) (hp0 : 0 < p.size) {xs : List GRule} {ls : List Int} (hl : lens xs = some ls) {n k : Nat} {i : Int} (hn : lastI ls = n) (hi : 0 ≤ i) (hk : (k : Int) = min (n : Int) (i + (p.size : Int) - 1)) :
    (endsN p xs ls n < endsN p xs ls k + 1 → endV p (wordG xs) i = -1) ∧ (endsN p xs ls k + 1 ≤ endsN p xs ls n → endV p (wordG xs) i = (leastB (endsN p xs ls) (endsN p xs ls k + 1) n 0 n : Nat)) := by
  have hw := wordG_len hl
  have hwn : (wordG xs).length = n := by omega
  have hof : endsN p xs ls = fun j => visV (patA p).next p.size 0 ((wordG xs).take j) := funext (ends_vis hp hl)
  by_cases c : i + (p.size : Int) - 1 ≤ n
  · have e : (i + (p.size : Int) - 1).toNat = k := by omega
    obtain ⟨f1, f2⟩ := least_ffr (patA p).next p.size 0 (wordG xs) (k := k) (f := n) (by omega) (by omega)
    rw [hwn] at f1 f2
    unfold endV
    rw [e, hof]
    exact ⟨f1, f2⟩
  · have e : k = n := by omega
    subst e
    refine ⟨fun _ => ?_, fun h => absurd h (by omega)⟩
    unfold endV
    exact ffrV_out _ _ _ _ (by omega)
theorem endV_bounds {p : ByteArray} {w : List UInt8} {i : Int} (hp0 : 0 < p.size) (hi : 0 ≤ i) : endV p w i = -1 ∨ ((p.size : Int) ≤ endV p w i ∧ endV p w i ≤ w.length) := by
  unfold endV ffrV behind
  rcases fstV_vis (patA p).next p.size (w.drop (i + (p.size : Int) - 1).toNat) (readW (patA p).next 0 (w.take (i + (p.size : Int) - 1).toNat)) with ⟨h, _⟩ | ⟨m, h, h1, h2, _⟩
  · rw [h]; exact Or.inl rfl
  · rw [h, if_neg (by omega)]
    rw [List.length_drop] at h2
    exact Or.inr (by omega)
def fstRow (next : List (List Int)) (goal : Nat) (v : List UInt8) : List Int := (List.range next.length).map fun s => fstV next goal s v
def fstT (next : List (List Int)) (goal : Nat) (xs : List GRule) (k : Nat) : List (List Int) := (List.range k).map fun r => fstRow next goal (W1 xs r)
theorem fstT_len (next : List (List Int)) (goal : Nat) (xs : List GRule) (k : Nat) : (fstT next goal xs k).length = k := by simp [fstT]
theorem fstT_snoc (next : List (List Int)) (goal : Nat) (xs : List GRule) (k : Nat) : fstT next goal xs (k + 1) = fstT next goal xs k ++ [fstRow next goal (W1 xs k)] := by
  unfold fstT; rw [List.range_succ, List.map_append]; rfl
theorem fstT_row (next : List (List Int)) (goal : Nat) (xs : List GRule) {k r : Nat} (h : r < k) : (fstT next goal xs k).getD r [] = fstRow next goal (W1 xs r) := by
  unfold fstT; rw [List.getD_eq_getElem?_getD, List.getElem?_map, List.getElem?_range h]; rfl
theorem fstRow_len (next : List (List Int)) (goal : Nat) (v : List UInt8) : (fstRow next goal v).length = next.length := by simp [fstRow]
theorem fstRow_get (next : List (List Int)) (goal : Nat) (v : List UInt8) {s : Nat} (h : s < next.length) : (fstRow next goal v).getD s 0 = fstV next goal s v := by
  unfold fstRow; rw [List.getD_eq_getElem?_getD, List.getElem?_map, List.getElem?_range h]; rfl
theorem fstV_range (next : List (List Int)) (goal s : Nat) (v : List UInt8) : fstV next goal s v = -1 ∨ (1 ≤ fstV next goal s v ∧ fstV next goal s v ≤ v.length) := by
  rcases fstV_vis next goal v s with ⟨h, _⟩ | ⟨m, h, h1, h2, _⟩
  · exact Or.inl h
  · exact Or.inr (by omega)
theorem fst_pair {a : GAuto} (ha : autoOk a = true) {xs : List GRule} {ls : List Int} (hl : lens xs = some ls) (goal : Nat) {r s : Nat} (hr : r < xs.length) (hs : s < a.next.length) (hp : (getR xs r).pair = true) :
    fstV a.next goal s (W1 xs r) = if fstV a.next goal s (W1 xs (getR xs r).left.toNat) < 0 ∧ 0 ≤ fstV a.next goal (stepM (mapsOf a.next xs) s (getR xs r).left.toNat) (W1 xs (getR xs r).right.toNat) then ls.getD (getR xs r).left.toNat 0 + fstV a.next goal (stepM (mapsOf a.next xs) s (getR xs r).left.toNat) (W1 xs (getR xs r).right.toNat) else fstV a.next goal s (W1 xs (getR xs r).left.toNat) := by
  obtain ⟨q1, q2, q3, q4, q5⟩ := lens_pair hl hr hp
  have eL := W1_len hl (getR xs r).left.toNat (by omega)
  rw [W1_pair hl hr hp, fstV_app, stepM_word ha hl (getR xs r).left.toNat s (by omega) hs]
  have h0 := fstV_range a.next goal s (W1 xs (getR xs r).left.toNat)
  generalize fstV a.next goal s (W1 xs (getR xs r).left.toNat) = x at h0 ⊢
  generalize fstV a.next goal _ (W1 xs (getR xs r).right.toNat) = y
  unfold behind
  by_cases hx : x < 0
  · rw [if_pos hx]
    by_cases hy : y < 0
    · rw [if_pos hy, if_neg (by omega)]; omega
    · rw [if_neg hy, if_pos (by omega), eL]
  · rw [if_neg hx, if_neg (by omega)]
theorem fst_letter {a : GAuto} (ha : autoOk a = true) {xs : List GRule} {ls : List Int} (hl : lens xs = some ls) (goal : Nat) {r s : Nat} (hr : r < xs.length) (hs : s < a.next.length) (hp : (getR xs r).pair = false) :
    fstV a.next goal s (W1 xs r) = if stepM (mapsOf a.next xs) s r = goal then 1 else -1 := by
  have e := stepM_word ha hl r s hr hs
  have h1 := W1_len hl r hr
  rw [lens_letter hl hr hp] at h1
  obtain ⟨c, hc⟩ : ∃ c, W1 xs r = [c] := by
    cases h : W1 xs r with
    | nil => rw [h] at h1; simp at h1
    | cons c v =>
      cases v with
      | nil => exact ⟨c, rfl⟩
      | cons d v => rw [h] at h1; simp at h1; omega
  rw [hc] at e ⊢
  rw [e, fstV, fstV]
  show (if stepW a.next s (c.toNat - 97) = goal then (1 : Int) else if (-1 : Int) < 0 then -1 else _) = if stepW a.next s (c.toNat - 97) = goal then 1 else -1
  rw [if_pos (show (-1 : Int) < 0 by omega)]
theorem keepR7 {wr W : World} {x : Nat} {t : TypeId} {c0 c1 c2 c3 c4 c5 c6 : Value} (hx : Blk wr x #[c0, c1, c2, c3, c4, c5, c6] t) (h : Below wr.heap.size wr W) :
    Below wr.heap.size wr W ∧ W.cell? ⟨x, 0, none⟩ = some c0 ∧ W.cell? ⟨x, 1, none⟩ = some c1 ∧ W.cell? ⟨x, 2, none⟩ = some c2 ∧ W.cell? ⟨x, 3, none⟩ = some c3 ∧ W.cell? ⟨x, 4, none⟩ = some c4 ∧ W.cell? ⟨x, 5, none⟩ = some c5 ∧ W.cell? ⟨x, 6, none⟩ = some c6 := by
  have h2 := hx.up h
  exact ⟨h, h2.cell rfl, h2.cell rfl, h2.cell rfl, h2.cell rfl, h2.cell rfl, h2.cell rfl, h2.cell rfl⟩
theorem sizeNp_any (s : ByteArray) (w : World) : Calls Try.prog 40 #[.string s] w fun r w' => r = .returned (.int .i64 s.size) ∧ w = w' := by
  go_enter Try.func40, Try.ntmps40
  go_wp2
  go_ret
  exact ⟨rfl, rfl⟩
set_option maxRecDepth 100000 in
set_option maxHeartbeats 2000000 in
theorem leastM_any (v : Value) (a : GAuto) (xs : List GRule) (ls : List Int) (n c : Nat) (F : FuncId) (cap : Value) (of : Nat → Nat) (w : World) (h : RideV w w.heap.size v a xs ls) (hn : lastI ls = n) (hn2 : n ≤ 1000000000000000)
    (eg : ∀ args w, (callFunc F args).run Try.prog w = .ok (.enter F args) w) (hof : ∀ (j : Nat) (W : World), Below w.heap.size w W → j ≤ n → Calls Try.prog F #[cap, .int .i64 (j : Int)] W fun e W' => e = .returned (.int .i64 (of j : Nat)) ∧ Below W.heap.size W W') :
    Calls Try.prog 41 #[v, .int .i64 c, .func (.func F) #[cap] #[]] w fun e w' => e = .returned (leastR of c n) ∧ Below w.heap.size w w' := by
  have Hr := Lib.hid h
  have Hn := Lib.hid hn
  have HO := Lib.hid hof
  clear hn hof
  obtain ⟨vF, vN, vR, vL, vM, rfl, h1, h2, h3, h4, h5⟩ := h
  obtain ⟨B0, e0, rfl, _⟩ := h1
  obtain ⟨B1', e1, rfl, _⟩ := h2
  obtain ⟨B2', e2, rfl, _⟩ := h3
  obtain ⟨B3, e3, rfl, _⟩ := h4
  obtain ⟨B4, e4, rfl, _⟩ := h5
  go_enter Try.func41, Try.ntmps41
  go_wp2_with fail
  have ba := (Below.refl w.heap.size w).alloc (Nat.le_refl _) (Obj.cells #[.int .i64 a.states, .int .i64 a.start, .slice B0 a.finals.length e0, .slice B1' a.next.length e1, .slice B2' xs.length e2, .slice B3 ls.length e3, .slice B4 (mapsOf a.next xs).length e4] 68)
  refine (rideLength_any _ a xs ls _ (Hr.out.up ba)).mono ?_
  rintro e w3 ⟨rfl, hb3⟩
  have B3' := Lib.hid (ba.trans (hb3.mono ba.size))
  rw [Hn.out]
  clear ba hb3
  go_wp2_with fail
  refine (HO.out n w3 B3'.out (Nat.le_refl _)).mono ?_
  rintro e w4 ⟨rfl, hb4⟩
  have B4' := Lib.hid (B3'.out.trans (hb4.mono B3'.out.size))
  clear hb4
  by_cases hc : of n < c
  · have hcI : ((of n : Nat) : Int) < (c : Int) := by omega
    have HC := Lib.hid hc
    clear hc
    go_wp2_with fail
    go_ret2
    exact ⟨by rw [leastR, if_pos HC.out]; rfl, B4'.out⟩
  · have hcI : decide (of n < c) = false := decide_eq_false hc
    obtain ⟨R, hR⟩ : ∃ R, leastB of c n 0 n = R := ⟨_, rfl⟩
    have HR := Lib.hid hR
    have HC := Lib.hid hc
    clear hR hc
    go_wp2_with fail
    clear hcI
    go_loopw [8, 9] (fun lo hi wx => ∃ (l hh f : Nat), l ≤ hh ∧ hh ≤ n ∧ hh - l ≤ f ∧ lo = .int .i64 l ∧ hi = .int .i64 hh ∧ Hid (leastB of c f l hh = R) ∧ Below w.heap.size w wx) (fun lo hi _ => (intOf hi - intOf lo).toNat)
    case atStart => exact ⟨0, n, n, Nat.zero_le _, Nat.le_refl _, by omega, rfl, rfl, HR, B4'.out⟩
    case round =>
      obtain ⟨l, hh, f, hlh, hhn, hf, rfl, rfl, HL, hb⟩ := hrel
      have HB := Lib.hid hb
      clear hb
      by_cases hlt : l < hh
      · have hltI : (l : Int) < (hh : Int) := by omega
        obtain ⟨f', rfl⟩ : ∃ f', f = f' + 1 := ⟨f - 1, by omega⟩
        have hw1 : IntKind.i64.wrap ((l : Int) + (hh : Int)) = (l : Int) + (hh : Int) := IntWalk.i64_in _ (by omega)
        obtain ⟨m, hm⟩ : ∃ m : Nat, (l + hh) / 2 = m := ⟨_, rfl⟩
        have hq : ((l : Int) + (hh : Int)) / 2 = (m : Int) := by omega
        have hq2 : Int.tdiv ((l : Int) + (hh : Int)) 2 = (m : Int) := by rw [Int.tdiv_eq_ediv_of_nonneg (by omega)]; exact hq
        have hmn : m < hh := by omega
        have hlm : l ≤ m := by omega
        have e9 := HL.out
        rw [leastB, if_pos hlt, hm] at e9
        have HE := Lib.hid e9
        clear hm e9 HL
        go_wp2_with fail
        refine (HO.out m wr HB.out (by omega)).mono ?_
        rintro e w5 ⟨rfl, hb5⟩
        have HB5 := Lib.hid (HB.out.trans (hb5.mono HB.out.size))
        clear hb5
        by_cases hcm : c ≤ of m
        · have hcmI : (c : Int) ≤ ((of m : Nat) : Int) := by omega
          have e8 := HE.out
          rw [if_pos hcm] at e8
          have HE8 := Lib.hid e8
          clear e8 hcm HE
          go_wp2_with fail
          go_roundw
          case rel => exact ⟨l, m, f', by omega, by omega, by omega, rfl, rfl, HE8, HB5.out⟩
          case measure => simp [intOf]; omega
        · have hcmI : ¬ (c : Int) ≤ ((of m : Nat) : Int) := by omega
          have e8 := HE.out
          rw [if_neg hcm] at e8
          have HE8 := Lib.hid e8
          clear e8 hcm HE
          go_wp2_with fail
          go_roundw
          case rel => exact ⟨m + 1, hh, f', by omega, by omega, by omega, by go_num, rfl, HE8, HB5.out⟩
          case measure => simp [intOf]; omega
      · have hltI : ¬ (l : Int) < (hh : Int) := by omega
        have e9 : l = R := by
          have := HL.out
          cases f with
          | zero => exact this
          | succ f => rw [leastB, if_neg hlt] at this; exact this
        have HE := Lib.hid e9
        clear e9
        go_wp2_with fail
        go_ret2
        exact ⟨by rw [leastR, if_neg HC.out, HR.out, HE.out]; rfl, HB.out⟩
set_option maxRecDepth 100000 in
set_option maxHeartbeats 4000000 in
theorem implNext_any (vR : Value) (xs : List GRule) (p : ByteArray) (i : Int) (w : World) (hR : Sl RuleE w w.heap.size vR xs) (hn : xs.length ≤ 1048576) (hp : p.size ≤ maxLen) :
    Calls Try.prog 9 #[.agg #[vR], .string p, .int .i64 i] w fun e w' => e = .returned (nextR xs p i) ∧ Below w.heap.size w w' := by
  have HR := Lib.hid hR
  obtain ⟨AR, cR, rfl, _⟩ := hR
  go_enter Try.func9, Try.ntmps9
  go_wp2_with fail
  refine (seek_any _ xs p _ (HR.out.up ((Below.refl w.heap.size w).alloc (Nat.le_refl _) _)) hn hp).mono ?_
  rintro e w1 ⟨hb1, h1⟩
  have B1 := Lib.hid (Below.tr ((Below.refl w.heap.size w).alloc (Nat.le_refl _) _) hb1)
  clear hb1
  rcases h1 with ⟨hc, rfl⟩ | ⟨hc, v, ls, rfl, hl, hg, hw, hp0, hp20, hr⟩
  · have hcn : (seekC xs p != 0) = true := by simpa using hc
    have Hc := Lib.hid hc
    obtain ⟨c, hcc⟩ : ∃ c, seekC xs p = c := ⟨_, rfl⟩
    rw [hcc] at hcn
    rw [hcc]
    have HC := Lib.hid hcc
    unfold zRide
    clear hc hcc
    go_wp2_with fail
    go_ret2
    exact ⟨by rw [nextR, nextV, nextC, if_pos Hc.out, if_pos Hc.out, HC.out]; rfl, B1.out.alloc B1.out.size _⟩
  · have Hc := Lib.hid hc
    have Hl := Lib.hid hl
    have Hp := Lib.hid (And.intro hp0 hp20)
    have Hok := Lib.hid (patA_ok hp20)
    have hr0 := hr
    obtain ⟨vF, vN, vR', vL, vM, rfl, j1, j2, j3, j4, j5⟩ := hr
    obtain ⟨B0, e0, rfl, _⟩ := j1
    obtain ⟨B1', e1, rfl, _⟩ := j2
    obtain ⟨B2', e2, rfl, _⟩ := j3
    obtain ⟨B3, e3, rfl, _⟩ := j4
    obtain ⟨B4, e4, rfl, _⟩ := j5
    have hgl := gramLen_of hl
    obtain ⟨n, hnn⟩ : ∃ n : Nat, lastI ls = n := ⟨(lastI ls).toNat, by have := (lastI_bounds hl).1; omega⟩
    have hn2 : n ≤ 1000000000000000 := by have := (lastI_bounds hl).2; omega
    have Hn := Lib.hid hnn
    rw [hnn] at hgl
    have Hgl := Lib.hid hgl
    have ka := (Below.refl w1.heap.size w1).alloc (Nat.le_refl _) (Obj.cells #[.int .i64 (patA p).states, .int .i64 (patA p).start, .slice B0 (patA p).finals.length e0, .slice B1' (patA p).next.length e1, .slice B2' xs.length e2, .slice B3 ls.length e3, .slice B4 (mapsOf (patA p).next xs).length e4] 68)
    have kb := Blk.new w1 #[.int .i64 (patA p).states, .int .i64 (patA p).start, .slice B0 (patA p).finals.length e0, .slice B1' (patA p).next.length e1, .slice B2' xs.length e2, .slice B3 ls.length e3, .slice B4 (mapsOf (patA p).next xs).length e4] 68
    go_upto_region 2 with fail
    generalize w1.alloc (Obj.cells #[.int .i64 (patA p).states, .int .i64 (patA p).start, .slice B0 (patA p).finals.length e0, .slice B1' (patA p).next.length e1, .slice B2' xs.length e2, .slice B3 ls.length e3, .slice B4 (mapsOf (patA p).next xs).length e4] 68) = w2 at *
    have Hr2 := Lib.hid (hr0.up ka)
    have B2 := Lib.hid (Below.tr B1.out ka)
    have K2 := Lib.hid kb
    have m0 := Blk.cell (i := 0) (v := .int .i64 (patA p).states) kb rfl
    have m1 := Blk.cell (i := 1) (v := .int .i64 (patA p).start) kb rfl
    have m2 := Blk.cell (i := 2) (v := .slice B0 (patA p).finals.length e0) kb rfl
    have m3 := Blk.cell (i := 3) (v := .slice B1' (patA p).next.length e1) kb rfl
    have m4 := Blk.cell (i := 4) (v := .slice B2' xs.length e2) kb rfl
    have m5 := Blk.cell (i := 5) (v := .slice B3 ls.length e3) kb rfl
    have m6 := Blk.cell (i := 6) (v := .slice B4 (mapsOf (patA p).next xs).length e4) kb rfl
    have l2 := Blk.lt kb
    clear hc hl hg hw hnn hgl ka kb hr0
    go_wp2_with fail
    refine (rideLength_any _ _ xs ls _ Hr2.out).mono ?_
    rintro e w3 ⟨rfl, hb3⟩
    have Hr3 := Lib.hid (Hr2.out.up hb3)
    have B3' := Lib.hid (Below.tr B2.out hb3)
    have K3 := Lib.hid (K2.out.up hb3)
    rw [Hn.out]
    clear hb3 m0 m1 m2 m3 m4 m5 m6
    by_cases hin : inR i 0 n = true
    · have Hin := Lib.hid hin
      have hi0 : 0 ≤ i ∧ i ≤ n := by simpa [inR] using hin
      clear hin
      go_wp2_with fail
      refine (within_yes _ _ _ _ Hin.out).mono ?_
      rintro e w4 ⟨rfl, rfl⟩
      have m0 := Blk.cell (i := 0) (v := .int .i64 (patA p).states) K3.out rfl
      have m1 := Blk.cell (i := 1) (v := .int .i64 (patA p).start) K3.out rfl
      have m2 := Blk.cell (i := 2) (v := .slice B0 (patA p).finals.length e0) K3.out rfl
      have m3 := Blk.cell (i := 3) (v := .slice B1' (patA p).next.length e1) K3.out rfl
      have m4 := Blk.cell (i := 4) (v := .slice B2' xs.length e2) K3.out rfl
      have m5 := Blk.cell (i := 5) (v := .slice B3 ls.length e3) K3.out rfl
      have m6 := Blk.cell (i := 6) (v := .slice B4 (mapsOf (patA p).next xs).length e4) K3.out rfl
      have l3 := Blk.lt K3.out
      have hw1 : IntKind.i64.wrap (i + (p.size : Int)) = i + (p.size : Int) := IntWalk.i64_in _ (by omega)
      have hw2 : IntKind.i64.wrap (i + (p.size : Int) - 1) = i + (p.size : Int) - 1 := IntWalk.i64_in _ (by omega)
      obtain ⟨k, hk⟩ : ∃ k : Nat, (k : Int) = min (n : Int) (i + (p.size : Int) - 1) := ⟨(min (n : Int) (i + (p.size : Int) - 1)).toNat, by omega⟩
      have Hk := Lib.hid hk
      have z3 : Below w3.heap.size w3 w3.drew := Below.drew (Below.refl _ _)
      clear hk
      go_wp2_with fail
      go_region_held3 (fun w' => Below w3.heap.size w3 w' ∧ w'.cell? ⟨w1.heap.size, 0, none⟩ = some (.int .i64 (patA p).states) ∧ w'.cell? ⟨w1.heap.size, 1, none⟩ = some (.int .i64 (patA p).start) ∧ w'.cell? ⟨w1.heap.size, 2, none⟩ = some (.slice B0 (patA p).finals.length e0) ∧ w'.cell? ⟨w1.heap.size, 3, none⟩ = some (.slice B1' (patA p).next.length e1) ∧ w'.cell? ⟨w1.heap.size, 4, none⟩ = some (.slice B2' xs.length e2) ∧ w'.cell? ⟨w1.heap.size, 5, none⟩ = some (.slice B3 ls.length e3) ∧ w'.cell? ⟨w1.heap.size, 6, none⟩ = some (.slice B4 (mapsOf (patA p).next xs).length e4))
        (first | (with_reducible exact keepR7 K3.out z3) | (with_reducible exact keepR7 K3.out (Below.tr z3 hb4)) | (with_reducible exact keepR7 K3.out (Below.tr (Below.tr z3 hb4) hb5)))
        (first
          | (go_at_call 38; refine (rideLength_any _ _ xs ls _ (Hr3.out.up z3)).mono ?_; rintro e w4 ⟨rfl, hb4⟩; rw [Hn.out])
          | (go_at_call 40; refine (sizeNp_any p _).mono ?_; rintro e w9 ⟨rfl, rfl⟩)
          | (go_at_call 39; refine (rideEnds_any _ (patA p) xs ls _ _ (Hr3.out.up (Below.tr z3 hb4)) Hok.out Hl.out (by omega)).mono ?_; rintro e w5 ⟨rfl, hb5⟩))
      have hkk : visOut (patA p) xs ls (min (n : Int) (i + (p.size : Int) - 1)) = visOut (patA p) xs ls (k : Int) := by rw [Hk.out]
      obtain ⟨c, hc⟩ : ∃ c, endsN p xs ls k = c := ⟨_, rfl⟩
      have hcc : timesV (patA p).finals (visOut (patA p) xs ls (min (n : Int) (i + (p.size : Int) - 1))) = c := by rw [hkk]; exact hc
      rw [hcc]
      have hcb : c ≤ 24 * 1000000000000000 := by
        rw [← hc]
        exact Nat.le_trans (timesV_le (visOut_le Hok.out Hl.out _)) (Nat.mul_le_mul_right _ (fin_few Hok.out))
      have HC := Lib.hid hc
      have Hr5 := Lib.hid (Hr3.out.up (Below.tr (Below.tr z3 hb4) hb5))
      have B5 := Lib.hid (Below.tr B3'.out (Below.tr (Below.tr z3 hb4) hb5))
      have K5 := Lib.hid (K3.out.up (Below.tr (Below.tr z3 hb4) hb5))
      have hw3 : IntKind.i64.wrap ((c : Int) + 1) = ((c + 1 : Nat) : Int) := by rw [IntWalk.i64_in _ (by omega)]; omega
      clear hkk hc hcc hcb m0 m1 m2 m3 m4 m5 m6 l3 z3 hb4 hb5
      have m0 := Blk.cell (i := 0) (v := .int .i64 (patA p).states) K5.out rfl
      have m1 := Blk.cell (i := 1) (v := .int .i64 (patA p).start) K5.out rfl
      have m2 := Blk.cell (i := 2) (v := .slice B0 (patA p).finals.length e0) K5.out rfl
      have m3 := Blk.cell (i := 3) (v := .slice B1' (patA p).next.length e1) K5.out rfl
      have m4 := Blk.cell (i := 4) (v := .slice B2' xs.length e2) K5.out rfl
      have m5 := Blk.cell (i := 5) (v := .slice B3 ls.length e3) K5.out rfl
      have m6 := Blk.cell (i := 6) (v := .slice B4 (mapsOf (patA p).next xs).length e4) K5.out rfl
      have l5 := Blk.lt K5.out
      go_wp2_with fail
      refine (leastM_any _ (patA p) xs ls n (c + 1) 39 _ (endsN p xs ls) w5 Hr5.out Hn.out hn2 (enters_of Try.func39 (by kernel_rfl) rfl) (fun j W hb _ => rideEnds_any _ (patA p) xs ls _ _ (Hr5.out.up hb) Hok.out Hl.out (by omega))).mono ?_
      rintro e w6 ⟨rfl, hb6⟩
      have B6 := Lib.hid (Below.tr B5.out hb6)
      have hnx := next_imp Hp.out.2 Hp.out.1 Hl.out Hn.out hi0.1 Hk.out
      rw [HC.out] at hnx
      obtain ⟨h1, h2⟩ := hnx
      have hin2 : ¬ inR i 0 (gramLen xs) = false := by rw [Hgl.out, Hin.out]; simp
      have Hin2 := Lib.hid hin2
      clear hb6 m0 m1 m2 m3 m4 m5 m6 l5 hw3 hin2
      unfold leastR
      by_cases hcn : endsN p xs ls n < c + 1
      · have he := h1 hcn
        rw [if_pos hcn]
        have He := Lib.hid he
        clear h1 h2 he hcn
        go_wp2_with fail
        go_ret2
        exact ⟨by rw [nextR, nextV, nextC, if_neg (show ¬ seekC xs p ≠ 0 by rw [Hc.out]; simp), if_neg (show ¬ seekC xs p ≠ 0 by rw [Hc.out]; simp), if_neg Hin2.out, if_neg Hin2.out, if_pos (show endV p (wordG xs) i < 0 by rw [He.out]; decide), if_pos (show endV p (wordG xs) i < 0 by rw [He.out]; decide)]; rfl, B6.out⟩
      · have he := h2 (by omega)
        rw [if_neg hcn]
        have hbd := endV_bounds (p := p) (w := wordG xs) (i := i) Hp.out.1 hi0.1
        have hwl := wordG_len Hl.out
        have hnn := Hn.out
        rw [he] at hbd
        have He := Lib.hid he
        obtain ⟨R, hR⟩ : ∃ R, leastB (endsN p xs ls) (c + 1) n 0 n = R := ⟨_, rfl⟩
        rw [hR] at He hbd
        rw [hR]
        have hw5 : IntKind.i64.wrap ((R : Int) - (p.size : Int)) = (R : Int) - (p.size : Int) := IntWalk.i64_in _ (by omega)
        clear h1 h2 he hcn hR hbd hwl hnn
        go_wp2_with fail
        refine (sizeNp_any p _).mono ?_
        rintro e w9 ⟨rfl, rfl⟩
        go_wp2_with fail
        go_ret2
        exact ⟨by rw [nextR, nextV, nextC, if_neg (show ¬ seekC xs p ≠ 0 by rw [Hc.out]; simp), if_neg (show ¬ seekC xs p ≠ 0 by rw [Hc.out]; simp), if_neg Hin2.out, if_neg Hin2.out, if_neg (show ¬ endV p (wordG xs) i < 0 by rw [He.out]; omega), if_neg (show ¬ endV p (wordG xs) i < 0 by rw [He.out]; omega), He.out]; rfl, B6.out⟩
    · have hin' : inR i 0 n = false := by simpa using hin
      have Hin := Lib.hid hin'
      clear hin hin'
      go_wp2_with fail
      refine (within_no _ _ _ _ Hin.out).mono ?_
      rintro e w4 ⟨rfl, rfl⟩
      go_wp2_with fail
      go_ret2
      exact ⟨by rw [nextR, nextV, nextC, if_neg (show ¬ seekC xs p ≠ 0 by rw [Hc.out]; simp), if_neg (show ¬ seekC xs p ≠ 0 by rw [Hc.out]; simp), Hgl.out, if_pos Hin.out, if_pos Hin.out]; rfl, B3'.out⟩
set_option maxRecDepth 100000 in
set_option maxHeartbeats 8000000 in
theorem l04First_any (vN vR vL : Value) (bg og goal : Nat) (a : GAuto) (xs : List GRule) (ls : List Int) (w : World) (hN : Sl (SliceE IntE) w w.heap.size vN a.next) (hR : Sl RuleE w w.heap.size vR xs) (hL : Sl IntE w w.heap.size vL ls) (ha : autoOk a = true) (hl : lens xs = some ls) (hn : xs.length ≤ 1099511627776) (hp : w.cell? ⟨bg, og, none⟩ = some vR) (hbg : bg < w.heap.size) :
    Calls Try.prog 33 #[vN, .pointer (some ⟨bg, og, none⟩), vL, .int .i64 (goal : Int)] w (MapsPost w (fstT a.next goal xs xs.length)) := by
  have HNn := Lib.hid hN
  have HRr := Lib.hid hR
  have hll := lens_length hl
  obtain ⟨AN, cN, rfl, _, hmN, _⟩ := hN
  obtain ⟨AR, cR, rfl, _, _, hrowR⟩ := hR
  obtain ⟨AL, cL, rfl, _, _, hrowL⟩ := hL
  obtain ⟨n1, n2, n3, n4⟩ := autoOk_get ha
  have hnext : a.next.length ≤ 24 := by omega
  have hnext0 : 1 ≤ a.next.length := by omega
  have Hl := Lib.hid hl
  have Ha := Lib.hid ha
  have HR := Lib.hid hrowR
  have HL := Lib.hid hrowL
  have Hll := Lib.hid hll
  have Hp := Lib.hid hp
  clear n3 n4 hl ha hrowR hrowL hll
  go_enter Try.func33, Try.ntmps33
  go_wp2_with fail
  refine (l04Maps_any _ _ bg og a xs ls _ HNn.out HRr.out Ha.out Hl.out hn hp hbg).mono ?_
  rintro e w1 ⟨vM, rfl, hM, hb1⟩
  have HM := Lib.hid hM
  have HB1 := Lib.hid hb1
  have z1 := hb1.size
  obtain ⟨AM, cM, rfl, _⟩ := hM
  have hml : (mapsOf a.next xs).length = xs.length := mapsOf_len _ _
  have Hml := Lib.hid hml
  clear hb1 hp hml
  go_wp2_with fail
  go_loopw [10, 11] (fun out i wr => ∃ (k : Nat) (vs : List Value), k ≤ xs.length ∧ i = .int .i64 k ∧ Below w1.heap.size w1 wr ∧ wr.ownsRow (w1.heap.size) 34 1 out k vs ∧
    Each IntE wr (fun b => w1.heap.size ≤ b ∧ b < wr.heap.size ∧ some b ≠ out.ownBlock) vs (fstT a.next goal xs k)) (fun _ i _ => xs.length - (intOf i).toNat)
  case atStart => exact ⟨0, [], Nat.zero_le _, rfl, (Below.refl _ _).alloc (Nat.le_refl _) _, ownSl_empty rfl (Nat.le_refl _), Each.nil⟩
  case round =>
    obtain ⟨k, vs, hk, rfl, hb, hown, hea⟩ := hrel
    obtain ⟨wo, rfl⟩ : ∃ wo : World, wo = wr := ⟨_, rfl⟩
    have hsz : w1.heap.size ≤ wo.heap.size := hb.size
    have hB : Below w.heap.size w wo := Below.tr HB1.out hb
    have hpg := (hB.cell (p := ⟨bg, og, none⟩) hbg).trans Hp.out
    have hbg2 : bg < wo.heap.size := by omega
    have HB := Lib.hid hb
    have HBB := Lib.hid hB
    have Hown := Lib.hid hown
    have Hea := Lib.hid hea
    clear hb hB hown hea
    by_cases hlt : k < xs.length
    · obtain ⟨b2, o2, rfl, hb2, hcellR⟩ := HR.out.rule (k := k) hlt
      have hrk := getR_at hlt
      obtain ⟨k0, k1, k2⟩ := hcellR k _ hrk
      have hc0 := (HBB.out.cell (p := ⟨b2, o2 + k * 3, none⟩) hb2).trans k0
      have hc1 := (HBB.out.cell (p := ⟨b2, o2 + k * 3 + 1, none⟩) hb2).trans k1
      have hc2 := (HBB.out.cell (p := ⟨b2, o2 + k * 3 + 2, none⟩) hb2).trans k2
      have hok := (lens_steps Hl.out k _ hrk).1
      have hki : (k : Int) < (xs.length : Int) := by omega
      have Hok := Lib.hid hok
      have hsl : SlS (SliceE IntE) wo (fun b => b < wo.heap.size) u10 (fstT a.next goal xs k) :=
        (Hea.out.more (S' := fun b => b < wo.heap.size) fun b h => h.2.1).sl (by rw [fstT_len]; exact Hown.out) fun g hg => (World.ownsRow.lt Hown.out g hg).2
      have Hsl := Lib.hid hsl
      obtain ⟨Ao, co, hvo, _⟩ := hsl
      rw [fstT_len] at hvo
      subst hvo
      have Hlet := Lib.hid (fun s hs hp => fst_letter (s := s) Ha.out Hl.out goal hlt hs hp)
      have Hpair := Lib.hid (fun s hs hp => fst_pair (s := s) Ha.out Hl.out goal hlt hs hp)
      have hWR := fstV_range a.next goal
      have HWR := Lib.hid hWR
      have Hlen := Lib.hid (W1_len Hl.out k hlt)
      clear hok hrk k0 k1 k2 hcellR hWR
      obtain ⟨R, hR⟩ : ∃ R, getR xs k = R := ⟨_, rfl⟩
      rw [hR] at hc0 hc1 hc2 Hok Hlet Hpair
      have HRk := Lib.hid hR
      clear hR
      have Hsn : Hid (fstT a.next goal xs (k + 1) = fstT a.next goal xs k ++ [fstRow a.next goal (W1 xs k)]) := fstT_snoc _ _ _ _
      obtain ⟨rs, rl, rr⟩ := R
      simp only at hc0 hc1 hc2
      go_upto_region 7 with fail
      have kB := (Below.refl wo.heap.size wo).alloc (Nat.le_refl _) (Obj.cells #[.string rs, .int .i64 rl, .int .i64 rr] 111)
      have kX := Blk.new wo #[.string rs, .int .i64 rl, .int .i64 rr] 111
      have kz : (wo.alloc (Obj.cells #[.string rs, .int .i64 rl, .int .i64 rr] 111)).heap.size = wo.heap.size + 1 := by simp
      generalize wo.alloc (Obj.cells #[.string rs, .int .i64 rl, .int .i64 rr] 111) = w2 at *
      have KX := Lib.hid kX
      have KB := Lib.hid kB
      have kz2 : wo.heap.size < w2.heap.size := by omega
      clear kB kX kz hc0 hc1 hc2
      go_wp2_with fail
      go_loopw [13, 14] (fun row i wi => ∃ j : Nat, j ≤ a.next.length ∧ i = .int .i64 j ∧ Below w2.heap.size w2 wi ∧
        OwnInts wi w2.heap.size row ((List.range j).map fun s => fstV a.next goal s (W1 xs k))) (fun _ i _ => a.next.length - (intOf i).toNat)
      case atStart => exact ⟨0, Nat.zero_le _, rfl, (Below.refl _ _).alloc (Nat.le_refl _) _, OwnInts.empty rfl (Nat.le_refl _)⟩
      case round =>
        obtain ⟨j, hj, rfl, hbi, howni⟩ := hrel
        have Hbi := Lib.hid hbi
        have zi := hbi.size
        obtain ⟨L, hL⟩ : ∃ L, (List.range j).map (fun s => fstV a.next goal s (W1 xs k)) = L := ⟨_, rfl⟩
        rw [hL] at howni
        have hLl : L.length = j := by rw [← hL]; simp
        have HLl := Lib.hid hLl
        have HLe := Lib.hid hL
        have Howni := Lib.hid howni
        obtain ⟨Ar, cr, rfl, _⟩ := own_nil howni
        have KXi := Lib.hid (KX.out.up hbi)
        have d0 := Blk.cell (i := 0) (v := .string rs) KXi.out rfl
        have d1 := Blk.cell (i := 1) (v := .int .i64 rl) KXi.out rfl
        have d2 := Blk.cell (i := 2) (v := .int .i64 rr) KXi.out rfl
        have lX := Blk.lt KXi.out
        clear hbi howni hL hLl
        by_cases hjl : j < a.next.length
        · have Hnx : Hid ((List.range (j + 1)).map (fun s => fstV a.next goal s (W1 xs k)) = L ++ [fstV a.next goal j (W1 xs k)]) := by rw [Hid, List.range_succ, List.map_append, HLe.out]; rfl
          have i3 : (j : Int) < (a.next.length : Int) := by omega
          have hLle : L.length ≤ 1099511627776 := by rw [HLl.out]; omega
          have hbase : w2.heap.size ≤ wr.heap.size := zi
          -- the maps and the rows so far, in this world
          have hM2 := (HM.out.keep (Keep.mono (Keep.of_below (HB.out.trans (((KB.out.trans (Hbi.out.mono (by omega))).mono hsz)))) (fun b h => h.2)))
          obtain ⟨AM2, cM2, hvM2, _, _, hrM⟩ := hM2
          have eM : AM = AM2 := by injection hvM2
          subst eM
          obtain ⟨bm, om, rfl, hbm, hcm⟩ := cells2 hrM (by rw [Hml.out]; omega)
          have hok2 := mapsOf_ok Ha.out Hl.out xs.length (Nat.le_refl _)
          rw [List.take_length] at hok2
          clear hvM2 hrM
          by_cases hp : (⟨rs, rl, rr⟩ : GRule).pair = true
          · obtain ⟨p1, p2, p3, p4⟩ := pair_of_ok Hok.out hp
            have hemp : rs.toList.isEmpty = true := by rw [isEmpty_size]; exact hp
            have hval := Hpair.out j hjl hp
            obtain ⟨l, hl⟩ := Int.eq_ofNat_of_zero_le p1
            obtain ⟨q, hq⟩ := Int.eq_ofNat_of_zero_le p3
            simp only at hl hq p2 p4 hval
            rw [hl, Int.toNat_natCast] at p2
            rw [hq, Int.toNat_natCast] at p4
            rw [hl, hq, Int.toNat_natCast, Int.toNat_natCast] at hval
            rw [hl] at d1
            rw [hq] at d2
            obtain ⟨Ao2, co2, hv2, _, _, hrow2⟩ := (Hsl.out.keep (Keep.of_below (KB.out.trans (Hbi.out.mono (by omega)))))
            have ea : Ao = Ao2 := by injection hv2
            subst ea
            obtain ⟨b, o, rfl, hbb, hcells⟩ := cells2 hrow2 (by rw [fstT_len]; omega)
            clear hv2 hrow2
            obtain ⟨r1, r2⟩ := hok2 l (by rw [mapsOf_len]; omega)
            obtain ⟨m1, hm1⟩ : ∃ m1 : Nat, ((mapsOf a.next xs).getD l []).getD j 0 = m1 := ⟨(((mapsOf a.next xs).getD l []).getD j 0).toNat, by have := (r2 j hjl).1; omega⟩
            have hm1l : m1 < a.next.length := by have := (r2 j hjl).2; omega
            have hst : stepM (mapsOf a.next xs) j l = m1 := by unfold stepM; rw [hm1]; rfl
            rw [hst] at hval
            obtain ⟨b1, o1, c1, e1, e2, e3⟩ := hcells l j (by rw [fstT_len]; omega) (by rw [fstT_row _ _ _ p2, fstRow_len]; exact hjl)
            obtain ⟨b3, o3, c3, f1, f2, f3⟩ := hcells q m1 (by rw [fstT_len]; omega) (by rw [fstT_row _ _ _ p4, fstRow_len]; exact hm1l)
            obtain ⟨b4, o4, c4, g1, g2, g3⟩ := hcm l j (by rw [Hml.out]; omega) (by rw [r1]; exact hjl)
            rw [fstT_row _ _ _ p2, fstRow_len] at e1
            rw [fstT_row _ _ _ p2, fstRow_get _ _ _ hjl] at e3
            rw [fstT_row _ _ _ p4, fstRow_len] at f1
            rw [fstT_row _ _ _ p4, fstRow_get _ _ _ hm1l] at f3
            rw [r1] at g1
            rw [hm1] at g3
            obtain ⟨bl, ol, hAL, hbl, hcl⟩ := HL.out.int (k := l) (by rw [Hll.out]; omega)
            have gl := (((HBB.out.trans ((KB.out.trans (Hbi.out.mono (by omega))).mono (by omega)))).cell (p := ⟨bl, ol + l, none⟩) hbl).trans (hcl l (by rw [Hll.out]; omega))
            have hlb := lens_pos' Hl.out (r := l) (by omega)
            have hlv := W1_len Hl.out l (by omega)
            have hqv := W1_len Hl.out q (by omega)
            have hqb := lens_pos' Hl.out (r := q) (by omega)
            have hx := HWR.out j (W1 xs l)
            have hy := HWR.out m1 (W1 xs q)
            have i1 : (l : Int) < (k : Int) := by omega
            have i2 : (q : Int) < (k : Int) := by omega
            have i4 : (m1 : Int) < (a.next.length : Int) := by omega
            have i5 : (l : Int) < (xs.length : Int) := by omega
            have i6 : (l : Int) < (ls.length : Int) := by rw [Hll.out]; exact i5
            have him : (l : Int) < ((mapsOf a.next xs).length : Int) := by rw [Hml.out]; exact i5
            generalize fstV a.next goal j (W1 xs l) = x at *
            generalize fstV a.next goal m1 (W1 xs q) = y at *
            generalize ls.getD l 0 = z at *
            subst hAL
            have Hval := Lib.hid hval
            have hst' := hok2
            -- @V p
            by_cases hc : x < 0 ∧ 0 ≤ y
            · rw [if_pos hc] at Hval
              -- @V p.a
              obtain ⟨hx0, hy0⟩ := hc
              have hwr : IntKind.i64.wrap (z + y) = z + y := IntWalk.i64_in _ (by omega)
              clear hcells hcm r1 r2 hm1 hst hval hcl hlv hqv hlb hqb hx hy hok2 hst' hl hq
              go_wp2_with fail
              go_quiet (fail)
              go_wp2_with (first | (at_builtin; refine push_ints (base := w2.heap.size) (v := .slice Ar L.length cr) (l := L) (y := z + y) rfl _ _ rfl rfl rfl rfl (OwnInts.drewN Howni.out _) hLle hbase ?_; intro v6 w6 own6 hg6 hb6))
              go_roundw
              case rel => exact ⟨j + 1, by omega, by go_num, (by first | exact Hbi.out.trans hb6 | exact (below_drewN Hbi.out _).trans hb6), by rw [Hnx.out, Hval.out]; exact own6⟩
              case measure => simp [intOf]; omega
            · rw [if_neg hc] at Hval
              clear hcells hcm r1 r2 hm1 hst hval hcl hlv hqv hlb hqb hx hy hok2 hst' hl hq
              by_cases hx0 : x < 0
              · -- @V p.b
                have hy0 : ¬ 0 ≤ y := fun h => hc ⟨hx0, h⟩
                clear hc
                go_wp2_with fail
                go_quiet (fail)
                go_wp2_with (first | (at_builtin; refine push_ints (base := w2.heap.size) (v := .slice Ar L.length cr) (l := L) (y := x) rfl _ _ rfl rfl rfl rfl (OwnInts.drewN Howni.out _) hLle hbase ?_; intro v6 w6 own6 hg6 hb6))
                go_roundw
                case rel => exact ⟨j + 1, by omega, by go_num, (by first | exact Hbi.out.trans hb6 | exact (below_drewN Hbi.out _).trans hb6), by rw [Hnx.out, Hval.out]; exact own6⟩
                case measure => simp [intOf]; omega
              · -- @V p.c
                clear hc
                go_wp2_with fail
                go_quiet (fail)
                go_wp2_with (first | (at_builtin; refine push_ints (base := w2.heap.size) (v := .slice Ar L.length cr) (l := L) (y := x) rfl _ _ rfl rfl rfl rfl (OwnInts.drewN Howni.out _) hLle hbase ?_; intro v6 w6 own6 hg6 hb6))
                go_roundw
                case rel => exact ⟨j + 1, by omega, by go_num, (by first | exact Hbi.out.trans hb6 | exact (below_drewN Hbi.out _).trans hb6), by rw [Hnx.out, Hval.out]; exact own6⟩
                case measure => simp [intOf]; omega
          · have hp' : (⟨rs, rl, rr⟩ : GRule).pair = false := by simpa using hp
            have hemp : rs.toList.isEmpty = false := by rw [isEmpty_size]; simpa [GRule.pair] using hp'
            have hval := Hlet.out j hjl hp'
            obtain ⟨r1, r2⟩ := hok2 k (by rw [mapsOf_len]; exact hlt)
            obtain ⟨m1, hm1⟩ : ∃ m1 : Nat, ((mapsOf a.next xs).getD k []).getD j 0 = m1 := ⟨(((mapsOf a.next xs).getD k []).getD j 0).toNat, by have := (r2 j hjl).1; omega⟩
            have hst : stepM (mapsOf a.next xs) j k = m1 := by unfold stepM; rw [hm1]; rfl
            rw [hst] at hval
            obtain ⟨b4, o4, c4, g1, g2, g3⟩ := hcm k j (by rw [Hml.out]; omega) (by rw [r1]; exact hjl)
            rw [r1] at g1
            rw [hm1] at g3
            have him : (k : Int) < ((mapsOf a.next xs).length : Int) := by rw [Hml.out]; exact hki
            by_cases hgo : m1 = goal
            · -- @V d
              have hgo2 : ((m1 : Int) == (goal : Int)) = true := by simp [hgo]
              rw [if_pos hgo] at hval
              have Hval := Lib.hid hval
              clear hcm r1 r2 hm1 hst hval hok2 hp hp' hgo
              go_wp2_with (first | (at_builtin; refine push_ints (base := w2.heap.size) (v := .slice Ar L.length cr) (l := L) (y := 1) rfl _ _ rfl rfl rfl rfl Howni.out hLle hbase ?_; intro v6 w6 own6 hg6 hb6))
              go_roundw
              case rel => exact ⟨j + 1, by omega, by go_num, (by first | exact Hbi.out.trans hb6 | exact (below_drewN Hbi.out _).trans hb6), by rw [Hnx.out, Hval.out]; exact own6⟩
              case measure => simp [intOf]; omega
            · -- @V e
              have hgo2 : ((m1 : Int) == (goal : Int)) = false := by simp; omega
              rw [if_neg hgo] at hval
              have Hval := Lib.hid hval
              clear hcm r1 r2 hm1 hst hval hok2 hp hp' hgo
              go_wp2_with (first | (at_builtin; refine push_ints (base := w2.heap.size) (v := .slice Ar L.length cr) (l := L) (y := -1) rfl _ _ rfl rfl rfl rfl Howni.out hLle hbase ?_; intro v6 w6 own6 hg6 hb6))
              go_roundw
              case rel => exact ⟨j + 1, by omega, by go_num, (by first | exact Hbi.out.trans hb6 | exact (below_drewN Hbi.out _).trans hb6), by rw [Hnx.out, Hval.out]; exact own6⟩
              case measure => simp [intOf]; omega
        · -- @V f
          have hjn : j = a.next.length := by omega
          have hB2 : Below wo.heap.size wo wr := KB.out.trans (Hbi.out.mono (by omega))
          have HB2 := Lib.hid hB2
          have Hown3 := Lib.hid (ownsRow_below Hown.out hB2)
          have Hrow : Hid (L = fstRow a.next goal (W1 xs k)) := by rw [Hid, ← HLe.out, hjn, fstRow]
          have hzz : w1.heap.size ≤ wr.heap.size := by omega
          have hk9 : k ≤ 1099511627776 := by omega
          clear hB2
          go_wp2_with (at_builtin; go_must (refine push_sl (W := wr) (N := wr.heap.size) (base := w1.heap.size) rfl _ _ rfl rfl rfl rfl rfl (by exact Hown3.out) hk9 hzz ?_); intro v' w3 hown2 hgrow hblk)
          have Hea2 := Lib.hid (maps_push (B := w2.heap.size) (row := L) hsz (by omega) Hown.out Hea.out HB2.out Howni.out hgrow hblk)
          have Hown2 := Lib.hid hown2
          have B2 := Lib.hid (HB.out.trans (((HB2.out.mono hsz).alloc hzz _).grown hgrow (by simp; omega) (fun g hg => (World.ownsRow.lt Hown.out g hg).1)))
          clear hown2 hgrow hblk
          go_roundw
          case rel => exact ⟨k + 1, _, by omega, by go_num, B2.out, Hown2.out, by rw [Hsn.out, ← Hrow.out]; exact Hea2.out⟩
          case measure => simp [intOf]; omega
    · -- @V g
      have hkn : k = xs.length := by omega
      subst hkn
      have Hsl : Hid (SlS (SliceE IntE) wo (fun b => w.heap.size ≤ b ∧ b < wo.heap.size) u10 (fstT a.next goal xs xs.length)) :=
        (Hea.out.more (S' := fun b => w.heap.size ≤ b ∧ b < wo.heap.size) fun b h => ⟨by have := h.1; omega, h.2.1⟩).sl (by rw [fstT_len]; exact Hown.out) fun g hg => by have := World.ownsRow.lt Hown.out g hg; omega
      go_wp2_with fail
      go_ret
      exact ⟨_, rfl, Hsl.out, HBB.out⟩
theorem tab_cell {w : World} {S : Nat → Prop} {A : Option Addr} {l : List (List Int)} {n c : Nat} (h : SlS (SliceE IntE) w S (.slice A n c) l) (hl : 0 < l.length) :
    ∃ b o, A = some ⟨b, o, none⟩ ∧ S b ∧ ∀ (t d m : Nat) (x : Int), t < l.length → (l.getD t []).length = m → d < m → (l.getD t []).getD d 0 = x → ∃ b' o' c', w.cell? ⟨b, o + t, none⟩ = some (.slice (some ⟨b', o', none⟩) m c') ∧ S b' ∧ w.cell? ⟨b', o' + d, none⟩ = some (.int .i64 x) := by
  obtain ⟨A2, c2, hv, _, _, hr⟩ := h
  obtain ⟨b, o, e, hb, hc⟩ := cells2 hr hl
  have ea : A = A2 := by injection hv
  subst ea
  refine ⟨b, o, e, hb, fun t d m x ht hm hd hx => ?_⟩
  obtain ⟨b', o', c', h1, h2, h3⟩ := hc t d ht (by omega)
  rw [hm] at h1
  rw [hx] at h3
  exact ⟨b', o', c', h1, h2, h3⟩
theorem row_cell {w : World} {S : Nat → Prop} {A : Option Addr} {l : List Int} {n c : Nat} (h : SlS IntE w S (.slice A n c) l) (hl : 0 < l.length) :
    ∃ b o, A = some ⟨b, o, none⟩ ∧ S b ∧ ∀ (d : Nat) (x : Int), d < l.length → l.getD d 0 = x → w.cell? ⟨b, o + d, none⟩ = some (.int .i64 x) := by
  obtain ⟨A2, c2, hv, _, _, hr⟩ := h
  obtain ⟨b, o, e, hb, hc⟩ := hr.int (k := 0) hl
  have ea : A = A2 := by injection hv
  subst ea
  refine ⟨b, o, e, hb, fun d x hd hx => ?_⟩
  have := hc d hd
  rw [hx] at this
  exact this
theorem rule_cell {w : World} {S : Nat → Prop} {A : Option Addr} {l : List GRule} {n c : Nat} (h : SlS RuleE w S (.slice A n c) l) {k : Nat} (hk : k < l.length) :
    ∃ b o, A = some ⟨b, o, none⟩ ∧ S b ∧ w.cell? ⟨b, o + k * 3, none⟩ = some (.string (getR l k).letter) ∧ w.cell? ⟨b, o + k * 3 + 1, none⟩ = some (.int .i64 (getR l k).left) ∧ w.cell? ⟨b, o + k * 3 + 2, none⟩ = some (.int .i64 (getR l k).right) := by
  obtain ⟨A2, c2, hv, _, _, hr⟩ := h
  obtain ⟨b, o, e, hb, hc⟩ := hr.rule (k := k) hk
  have ea : A = A2 := by injection hv
  subst ea
  obtain ⟨h0, h1, h2⟩ := hc k _ (getR_at hk)
  exact ⟨b, o, e, hb, h0, h1, h2⟩
set_option maxRecDepth 100000 in
set_option maxHeartbeats 8000000 in
theorem find_any (bx bg goal r0 s0 : Nat) (frm0 : Int) (vR vL vM vF : Value) (t : TypeId) (a : GAuto) (xs : List GRule) (ls : List Int) (w : World) (hR : Sl RuleE w w.heap.size vR xs) (hL : Sl IntE w w.heap.size vL ls) (hM : Sl (SliceE IntE) w w.heap.size vM (mapsOf a.next xs)) (hF : Sl (SliceE IntE) w w.heap.size vF (fstT a.next goal xs xs.length))
    (ha : autoOk a = true) (hl : lens xs = some ls) (hn : xs.length ≤ 1099511627776) (hp : w.cell? ⟨bg, 0, none⟩ = some vR) (hbg : bg < w.heap.size) (hx : Blk w bx #[.pointer (some ⟨bg, 0, none⟩), vL, vM, vF] t) (hr0 : r0 < xs.length) (hs0 : s0 < a.next.length) (hf0 : 0 ≤ frm0 ∧ frm0 ≤ 2000000000000000) :
    Calls Try.prog 34 #[.pointer (some ⟨bx, 0, none⟩), .int .i64 (r0 : Int), .int .i64 (s0 : Int), .int .i64 frm0] w fun e w' =>
      e = .returned (.int .i64 (findD xs ls (mapsOf a.next xs) (fun r s => fstV a.next goal s (W1 xs r)) (r0 + 1) r0 s0 frm0 0 (-1))) ∧ Below w.heap.size w w' := by
  have HR := Lib.hid hR
  have HL := Lib.hid hL
  have HM := Lib.hid hM
  have HF := Lib.hid hF
  have Hx := Lib.hid hx
  have Ha := Lib.hid ha
  have Hl := Lib.hid hl
  have Hp := Lib.hid hp
  have Hll := Lib.hid (lens_length hl)
  have Hml := Lib.hid (mapsOf_len a.next xs)
  obtain ⟨AR, cR, rfl, _⟩ := hR
  obtain ⟨AL, cL, rfl, _⟩ := hL
  obtain ⟨AM, cM, rfl, _⟩ := hM
  obtain ⟨AF, cF, rfl, _⟩ := hF
  have hok2 := mapsOf_ok ha hl xs.length (Nat.le_refl _)
  rw [List.take_length] at hok2
  have Hok2 := Lib.hid hok2
  obtain ⟨RES, hRES⟩ : ∃ RES, findD xs ls (mapsOf a.next xs) (fun r s => fstV a.next goal s (W1 xs r)) (r0 + 1) r0 s0 frm0 0 (-1) = RES := ⟨_, rfl⟩
  rw [hRES]
  have HRES := Lib.hid hRES
  have hlr := lens_pos' hl hr0
  clear ha hl hp hx hok2 hRES
  go_enter Try.func34, Try.ntmps34
  go_wp2_with fail
  go_loopw [1, 2, 3, 9, 10] (fun vr vs vf vb vt wx => ∃ (r s f : Nat) (frm base best : Int), vr = .int .i64 (r : Int) ∧ vs = .int .i64 (s : Int) ∧ vf = .int .i64 frm ∧ vb = .int .i64 base ∧ vt = .int .i64 best ∧ r < f ∧ r < xs.length ∧ s < a.next.length ∧
      0 ≤ frm ∧ frm ≤ 2000000000000000 ∧ 0 ≤ base ∧ base + ls.getD r 0 ≤ 1000000000000000 ∧ Hid (findD xs ls (mapsOf a.next xs) (fun r s => fstV a.next goal s (W1 xs r)) f r s frm base best = RES) ∧ Below w.heap.size w wx) (fun vr _ _ _ _ _ => (intOf vr).toNat)
  case atStart => exact ⟨r0, s0, r0 + 1, frm0, 0, -1, rfl, rfl, rfl, rfl, rfl, by omega, hr0, hs0, hf0.1, hf0.2, by omega, by omega, HRES, Below.refl _ _⟩
  case round =>
    obtain ⟨r, s, f, frm, base, best, rfl, rfl, rfl, rfl, rfl, hf, hr, hs, hm0, hm1, hb0, hb1, HE, hb⟩ := hrel
    have HB := Lib.hid hb
    have Kx := Lib.hid (Hx.out.up hb)
    have x0 := Blk.cell (i := 0) (v := .pointer (some ⟨bg, 0, none⟩)) Kx.out rfl
    have x1 := Blk.cell (i := 1) (v := .slice AL ls.length cL) Kx.out rfl
    have x2 := Blk.cell (i := 2) (v := .slice AM (mapsOf a.next xs).length cM) Kx.out rfl
    have x3 := Blk.cell (i := 3) (v := .slice AF (fstT a.next goal xs xs.length).length cF) Kx.out rfl
    have xg := (hb.cell (p := ⟨bg, 0, none⟩) hbg).trans Hp.out
    have lx := Blk.lt Kx.out
    rw [Hml.out] at x2
    rw [fstT_len] at x3
    have HRw := Lib.hid (HR.out.below hb)
    have HLw := Lib.hid (HL.out.below hb)
    have HMw := Lib.hid (HM.out.below hb)
    have HFw := Lib.hid (HF.out.below hb)
    have hwz := hb.size
    clear hb
    have hri : (r : Int) < (xs.length : Int) := by omega
    have hri2 : (r : Int) < (ls.length : Int) := by rw [Hll.out]; exact hri
    have hsi : (s : Int) < (a.next.length : Int) := by omega
    obtain ⟨f', rfl⟩ : ∃ f', f = f' + 1 := ⟨f - 1, by omega⟩
    have he := HE.out
    rw [findD] at he
    by_cases c1 : frm ≤ 0
    · rw [if_pos c1] at he
      obtain ⟨b, o, e1, e2, hcF⟩ := tab_cell HFw.out (by rw [fstT_len]; omega)
      obtain ⟨b', o', c', e3, e4, e5⟩ := hcF r s a.next.length (fstV a.next goal s (W1 xs r)) (by rw [fstT_len]; exact hr) (by rw [fstT_row _ _ _ hr, fstRow_len]) hs (by rw [fstT_row _ _ _ hr, fstRow_get _ _ _ hs])
      subst e1
      clear hcF
      have hrg := fstV_range a.next goal s (W1 xs r)
      have hlen := W1_len Hl.out r hr
      generalize fstV a.next goal s (W1 xs r) = y at *
      by_cases c2 : 0 ≤ y
      · -- @V a
        rw [if_pos c2] at he
        have hwr : IntKind.i64.wrap (base + y) = base + y := IntWalk.i64_in _ (by omega)
        have Hee := Lib.hid he
        clear he HE
        go_wp2_with fail
        go_ret
        exact ⟨ret_int Hee.out, HB.out⟩
      · -- @V b
        rw [if_neg c2] at he
        have Hee := Lib.hid he
        clear he HE
        go_wp2_with fail
        go_ret
        exact ⟨ret_int Hee.out, HB.out⟩
    · rw [if_neg c1] at he
      obtain ⟨bl, ol, e1, e2, hcL⟩ := row_cell HLw.out (by rw [Hll.out]; omega)
      have e3 := hcL r _ (by rw [Hll.out]; exact hr) rfl
      subst e1
      have hlz := lens_pos' Hl.out hr
      by_cases c2 : ls.getD r 0 ≤ frm
      · -- @V c
        rw [if_pos c2] at he
        have Hee := Lib.hid he
        clear he HE hcL
        generalize ls.getD r 0 = z at *
        go_wp2_with fail
        go_ret
        exact ⟨ret_int Hee.out, HB.out⟩
      · rw [if_neg c2] at he
        cases hpr : (getR xs r).pair with
        | false => rw [lens_letter Hl.out hr hpr] at c2; omega
        | true =>
          obtain ⟨q1, q2, q3, q4, q5⟩ := lens_pair Hl.out hr hpr
          obtain ⟨bR, oR, e6, e7, k0, k1, k2⟩ := rule_cell HRw.out hr
          subst e6
          obtain ⟨l, hl⟩ := Int.eq_ofNat_of_zero_le (show 0 ≤ (getR xs r).left by omega)
          obtain ⟨q, hq⟩ := Int.eq_ofNat_of_zero_le (show 0 ≤ (getR xs r).right by omega)
          rw [hl] at k1 q2 q5 he
          rw [hq] at k2 q4 q5 he
          simp only [Int.toNat_natCast] at q2 q4 q5 he
          have hlx : l < xs.length := by omega
          have hqx : q < xs.length := by omega
          obtain ⟨r1, r2⟩ := Hok2.out l (by rw [Hml.out]; exact hlx)
          obtain ⟨m1, hm1e⟩ : ∃ m1 : Nat, ((mapsOf a.next xs).getD l []).getD s 0 = m1 := ⟨(((mapsOf a.next xs).getD l []).getD s 0).toNat, by have := (r2 s hs).1; omega⟩
          have hm1l : m1 < a.next.length := by have := (r2 s hs).2; omega
          have hst : stepM (mapsOf a.next xs) s l = m1 := by unfold stepM; rw [hm1e]; rfl
          rw [hst] at he
          obtain ⟨bm, om, em, hbm, hcM⟩ := tab_cell HMw.out (by rw [Hml.out]; omega)
          obtain ⟨b4, o4, c4, g1, g2, g3⟩ := hcM l s a.next.length m1 (by rw [Hml.out]; exact hlx) r1 hs hm1e
          subst em
          have gL := hcL l _ (by rw [Hll.out]; exact hlx) rfl
          have hzl := lens_pos' Hl.out hlx
          have hzq := lens_pos' Hl.out hqx
          obtain ⟨z, hz⟩ : ∃ z, ls.getD l 0 = z := ⟨_, rfl⟩
          rw [hz] at he gL hzl q5
          have Hz := Lib.hid hz
          obtain ⟨letr, hletr⟩ : ∃ x, (getR xs r).letter = x := ⟨_, rfl⟩
          rw [hletr] at k0
          have i1 : (l : Int) < (xs.length : Int) := by omega
          have i2 : (q : Int) < (xs.length : Int) := by omega
          have i3 : (l : Int) < (ls.length : Int) := by rw [Hll.out]; exact i1
          have i4 : (m1 : Int) < (a.next.length : Int) := by omega
          clear hcM r1 r2 hm1e hst hz hletr hcL hl hq hpr
          go_upto_region 10 with fail
          have kB := (Below.refl wr.heap.size wr).alloc (Nat.le_refl _) (Obj.cells #[.string letr, .int .i64 (l : Int), .int .i64 (q : Int)] 111)
          have kN := Blk.new wr #[.string letr, .int .i64 (l : Int), .int .i64 (q : Int)] 111
          generalize wr.alloc (Obj.cells #[.string letr, .int .i64 (l : Int), .int .i64 (q : Int)] 111) = w2 at *
          have d1 := Blk.cell (i := 1) (v := .int .i64 (l : Int)) kN rfl
          have d2 := Blk.cell (i := 2) (v := .int .i64 (q : Int)) kN rfl
          have ln := Blk.lt kN
          have KB := Lib.hid kB
          have y0 := (kB.cell (p := ⟨bx, 0, none⟩) lx).trans x0
          have y1 := (kB.cell (p := ⟨bx, 1, none⟩) lx).trans x1
          have y2 := (kB.cell (p := ⟨bx, 2, none⟩) lx).trans x2
          have y3 := (kB.cell (p := ⟨bx, 3, none⟩) lx).trans x3
          have h1 := (kB.cell (p := ⟨bm, om + l, none⟩) (by show bm < _; omega)).trans g1
          have h2 := (kB.cell (p := ⟨b4, o4 + s, none⟩) (by show b4 < _; omega)).trans g3
          have h3 := (kB.cell (p := ⟨bl, ol + l, none⟩) (by show bl < _; omega)).trans gL
          have hFw2 := Lib.hid (HFw.out.keep (Keep.mono (Keep.of_below kB) (fun b h => by show b < _; have : b < w.heap.size := h; omega)))
          clear x0 x1 x2 x3 xg g1 g3 gL k0 k1 k2 e3 kB kN
          go_quiet (fail)
          go_wp2_with fail
          go_quiet (fail)
          by_cases c3 : z ≤ frm
          · -- @V m
            rw [if_pos c3] at he
            have Hee := Lib.hid he
            have hw1 : IntKind.i64.wrap (base + z) = base + z := IntWalk.i64_in _ (by omega)
            have hw2 : IntKind.i64.wrap (frm - z) = frm - z := IntWalk.i64_in _ (by omega)
            clear he HE
            go_wp2_with fail
            go_roundw
            case rel => exact ⟨q, m1, f', frm - z, base + z, best, rfl, rfl, rfl, rfl, rfl, by omega, hqx, hm1l, by omega, by omega, by omega, by omega, Hee, (by repeat (first | exact Below.tr HB.out KB.out | (refine Below.alloc ?_ (by first | omega | (simp; done) | (simp; omega)) _) | refine below_drewN ?_ _ | refine Below.drew ?_))⟩
            case measure => simp [intOf]; omega
          · -- @V n
            rw [if_neg c3] at he
            obtain ⟨bf, of, ef, hbf, hcF⟩ := tab_cell hFw2.out (by rw [fstT_len]; omega)
            obtain ⟨b5, o5, c5, j1, j2, j3⟩ := hcF q m1 a.next.length (fstV a.next goal m1 (W1 xs q)) (by rw [fstT_len]; exact hqx) (by rw [fstT_row _ _ _ hqx, fstRow_len]) hm1l (by rw [fstT_row _ _ _ hqx, fstRow_get _ _ _ hm1l])
            subst ef
            have hrg := fstV_range a.next goal m1 (W1 xs q)
            have hlen := W1_len Hl.out q hqx
            generalize fstV a.next goal m1 (W1 xs q) = y at *
            have hw1 : IntKind.i64.wrap (base + z) = base + z := IntWalk.i64_in _ (by omega)
            by_cases c4 : 0 ≤ y
            · -- @V n.a
              rw [if_pos c4] at he
              have Hee := Lib.hid he
              have hw2 : IntKind.i64.wrap (base + z + y) = base + z + y := IntWalk.i64_in _ (by omega)
              clear he HE hcF hrg hlen
              go_wp2_with fail
              go_quiet (fail)
              go_wp2_with fail
              go_quiet (fail)
              go_wp2_with fail
              go_roundw
              case rel => exact ⟨l, s, f', frm, base, base + z + y, rfl, rfl, rfl, rfl, rfl, by omega, hlx, hs, hm0, hm1, hb0, by rw [Hz.out]; omega, Hee, (by repeat (first | exact Below.tr HB.out KB.out | (refine Below.alloc ?_ (by first | omega | (simp; done) | (simp; omega)) _) | refine below_drewN ?_ _ | refine Below.drew ?_))⟩
              case measure => simp [intOf]; omega
            · -- @V n.b
              rw [if_neg c4] at he
              have Hee := Lib.hid he
              clear he HE hcF hrg hlen
              go_wp2_with fail
              go_quiet (fail)
              go_wp2_with fail
              go_roundw
              case rel => exact ⟨l, s, f', frm, base, best, rfl, rfl, rfl, rfl, rfl, by omega, hlx, hs, hm0, hm1, hb0, by rw [Hz.out]; omega, Hee, (by repeat (first | exact Below.tr HB.out KB.out | (refine Below.alloc ?_ (by first | omega | (simp; done) | (simp; omega)) _) | refine below_drewN ?_ _ | refine Below.drew ?_))⟩
              case measure => simp [intOf]; omega
end Go.Proofs.Ytfkijaamfmpboaa
