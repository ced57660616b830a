import Derived.Test.YtbifijlenbibmaaGreatDoorM17
import Derived.Test.YtbifijlenbibmaaGreatDoorM9
import Derived.Test.YtbifijlenbibmaaGreatDoorM2
import Derived.Test.YtbifijlenbibmaaGreatDoorM16
import Derived.Test.YtbifijlenbibmaaGreatDoorM12
import Derived.Test.YtbifijlenbibmaaGreatDoorM15
import Derived.Test.YtbifijlenbibmaaGreatDoorM1
import Derived.Test.YtbifijlenbibmaaGreatDoorM11
import Derived.Test.YtbifijlenbibmaaGreatDoorM6
import Derived.Test.YtbifijlenbibmaaGreatDoorM8
import Derived.Test.YtbifijlenbibmaaGreatDoorM5
namespace Go.Proofs.YtbifijlenbibmaaGreatDoor
open Go.RowKit
def DrEPost (b N : Nat) (w : World) (r : Ending) (w' : World) : Prop :=
  ∃ v vR e, r = .returned v ∧ v = .agg #[.int .i64 e.kind, .int .i64 e.i, .int .i64 e.j, .int .i64 e.k, vR, .string e.map] ∧ SlS RuleE w' (fun k => k ≠ b ∧ w.heap.size < k ∧ k < w'.heap.size) vR e.part ∧ (e.part.length ≤ 14 ∧ gramLen e.part ≤ 5) ∧ SmallL e.part ∧ editOk e = true ∧ e.map.size ≤ 4 ∧ Src w' b (N + 240) ∧ But b w w'
theorem drok1 {i : Int} {xs : List GRule} (h : 0 ≤ i ∧ i ≤ 1000000000000000) (hg : gramOk xs = true) (hl : 0 < xs.length) : editOk ⟨1, i, 0, 0, xs, ⟨#[]⟩⟩ = true := by
  have : (⟨#[]⟩ : ByteArray).size = 0 := rfl
  simp [editOk, inR, numOk, usesJ, usesK, hg, hl, h.1, h.2, this]
theorem drok2 {k i j : Int} (hk : k = 2 ∨ k = 5) (h : 0 ≤ i ∧ i ≤ j ∧ j ≤ 1000000000000000) : editOk ⟨k, i, j, 0, [], ⟨#[]⟩⟩ = true := by
  have : (⟨#[]⟩ : ByteArray).size = 0 := rfl
  have g0 : gramOk [] = true := rfl
  rcases hk with rfl | rfl <;> simp [editOk, inR, numOk, usesJ, usesK, g0, this] <;> omega
theorem drok3 {k i j q : Int} (hk : k = 3 ∨ k = 4 ∨ k = 6) (h : 0 ≤ i ∧ i ≤ j ∧ j ≤ 1000000000000000) (hq : 0 ≤ q ∧ q ≤ 1000000000000000) : editOk ⟨k, i, j, q, [], ⟨#[]⟩⟩ = true := by
  have : (⟨#[]⟩ : ByteArray).size = 0 := rfl
  have g0 : gramOk [] = true := rfl
  rcases hk with rfl | rfl | rfl <;> simp [editOk, inR, numOk, usesJ, usesK, g0, this] <;> omega
theorem drok7 {i j : Int} {m : ByteArray} (h : 0 ≤ i ∧ i ≤ j ∧ j ≤ 1000000000000000) (hm : m.size = 4) (hw : wordOk m = true) : editOk ⟨7, i, j, 0, [], m⟩ = true := by
  have g0 : gramOk [] = true := rfl
  simp [editOk, inR, numOk, usesJ, usesK, g0, hm, hw] <;> omega
theorem lit_ints {W : World} {b N : Nat} (l : List Int) (hb : b < W.heap.size) (hN : N = W.heap.size) (hl : l.length ≤ 1000) :
    SlS IntE (W.alloc (.cells (l.map (Value.int .i64)).toArray 2)) (fun k => k ≠ b ∧ k < (W.alloc (.cells (l.map (Value.int .i64)).toArray 2)).heap.size) (.slice (some ⟨N, 0, none⟩) l.length l.length) l := by
  subst hN
  have h : OwnInts (W.alloc (.cells (l.map (Value.int .i64)).toArray 2)) W.heap.size (.slice (some ⟨W.heap.size, 0, none⟩) l.length l.length) l := by
    have := World.ownsRow_lit W (l.map (Value.int .i64)).toArray l.length (Nat.le_refl _) (by simp only [maxLen]; omega) (e := 2) (size := 1) (by simp)
    simpa [OwnInts] using this
  exact h.slS fun g hg => by simp [Value.ownBlock] at hg; subst hg; exact ⟨by omega, by simp⟩
theorem lit_strs {W : World} {b N : Nat} (l : List ByteArray) (hb : b < W.heap.size) (hN : N = W.heap.size) (hl : l.length ≤ 1000) :
    SlS StrE (W.alloc (.cells (l.map Value.string).toArray 9)) (fun k => k ≠ b ∧ k < (W.alloc (.cells (l.map Value.string).toArray 9)).heap.size) (.slice (some ⟨N, 0, none⟩) l.length l.length) l := by
  subst hN
  have h := World.ownsRow_lit W (l.map Value.string).toArray l.length (Nat.le_refl _) (by simp only [maxLen]; omega) (e := 9) (size := 1) (by simp)
  refine ⟨_, _, rfl, Nat.le_refl _, by simp only [maxLen]; omega, Row.of_own (E := StrE) h rfl (fun g hg => by simp [Value.ownBlock] at hg; subst hg; exact ⟨by omega, by simp⟩) fun k x hx => ⟨[.string x], rfl, fun j u hu => ?_⟩⟩
  cases j with
  | zero => simp at hu; subst hu; simp [StrE, hx]
  | succ j => simp at hu
def mapTexts : List ByteArray := [⟨#[98, 97, 99, 100]⟩, ⟨#[97, 97, 97, 97]⟩, ⟨#[98, 99, 100, 97]⟩, ⟨#[97, 98, 99, 100]⟩, ⟨#[100, 99, 98, 97]⟩]
theorem mapTexts_ok : ∀ m ∈ mapTexts, m.size = 4 ∧ wordOk m = true := by decide
structure EdSt (w : World) (b M E : Nat) (wx : World) (k i j q : Int) (vP : Value) (xs : List GRule) (m : ByteArray) : Prop where
  src : Src wx b M
  but : But b w wx
  box : Blk wx w.heap.size (#[.int .i64 0, .int .i64 0, .int .i64 0, .int .i64 0, .slice none 0 0, .string ⟨#[]⟩] : Array Value) 46
  blk : Blk wx E #[.int .i64 k, .int .i64 i, .int .i64 j, .int .i64 q, vP, .string m] 46
  part : SlS RuleE wx (fun k => k ≠ b ∧ k ≠ E ∧ w.heap.size < k ∧ k < wx.heap.size) vP xs
section
variable {w wx w' : World} {b M M' E : Nat} {k i j q : Int} {vP : Value} {xs : List GRule} {m : ByteArray}
theorem EdSt.pick (h : EdSt w b M E wx k i j q vP xs m) (hb : But b wx w') (hs : Src w' b M') (hlt : b < w.heap.size) (hE : w.heap.size < E) : EdSt w b M' E w' k i j q vP xs m :=
  ⟨hs, h.but.trans hb, h.box.but hb (by omega), h.blk.but hb (by omega), (h.part.keep fun k hk => hb.block k hk.2.2.2 hk.1).more fun k hk => ⟨hk.1, hk.2.1, hk.2.2.1, Nat.lt_of_lt_of_le hk.2.2.2 hb.size⟩⟩
theorem EdSt.up (h : EdSt w b M E wx k i j q vP xs m) (hb : Below wx.heap.size wx w') (hlt : b < w.heap.size) (hE : w.heap.size < E) : EdSt w b M E w' k i j q vP xs m := h.pick (But.of hb) (h.src.keep hb) hlt hE
theorem EdSt.more (h : EdSt w b M E wx k i j q vP xs m) (hM : M ≤ M') : EdSt w b M' E wx k i j q vP xs m := ⟨h.src.more hM, h.but, h.box, h.blk, h.part⟩
theorem EdSt.put (h : EdSt w b M E wx k i j q vP xs m) (hlt : b < w.heap.size) (hE : w.heap.size < E) (o : Nat) (v : Value) {k' i' j' q' : Int} {vP' : Value} {xs' : List GRule} {m' : ByteArray}
    (hp : SlS RuleE wx (fun k => k ≠ b ∧ k ≠ E ∧ w.heap.size < k ∧ k < wx.heap.size) vP' xs')
    (ha : (#[.int .i64 k, .int .i64 i, .int .i64 j, .int .i64 q, vP, .string m] : Array Value).setIfInBounds o v = #[.int .i64 k', .int .i64 i', .int .i64 j', .int .i64 q', vP', .string m']) : EdSt w b M E (wx.setCell ⟨E, o, none⟩ v) k' i' j' q' vP' xs' m' := by
  have hb : Below E wx (wx.setCell ⟨E, o, none⟩ v) := (Below.refl _ _).setCell (p := ⟨E, o, none⟩) (Nat.le_refl _) _
  refine ⟨h.src.keepB hb (by omega), h.but.up hb (by omega), h.box.other (p := ⟨E, o, none⟩) (by show w.heap.size ≠ E; omega) v, ?_, ?_⟩
  · have := h.blk.set o v
    rw [ha] at this; exact this
  · exact (hp.keep fun k hk => Below.heap_setCell wx ⟨E, o, none⟩ v k hk.2.1).more fun k hk => ⟨hk.1, hk.2.1, hk.2.2.1, Nat.lt_of_lt_of_le hk.2.2.2 hb.size⟩
theorem EdSt.fin (h : EdSt w b M E wx k i j q vP xs m) (hlt : b < w.heap.size) (v0 v1 v2 v3 v4 v5 : Value) :
    let W := (((((wx.setCell ⟨w.heap.size, 0, none⟩ v0).setCell ⟨w.heap.size, 1, none⟩ v1).setCell ⟨w.heap.size, 2, none⟩ v2).setCell ⟨w.heap.size, 3, none⟩ v3).setCell ⟨w.heap.size, 4, none⟩ v4).setCell ⟨w.heap.size, 5, none⟩ v5
    SlS RuleE W (fun k => k ≠ b ∧ w.heap.size < k ∧ k < W.heap.size) vP xs ∧ Src W b M ∧ But b w W ∧ Blk W w.heap.size #[v0, v1, v2, v3, v4, v5] 46 := by
  intro W
  have hb : Below w.heap.size wx W := ((((((Below.refl _ wx).setCell (p := ⟨w.heap.size, 0, none⟩) (Nat.le_refl _) v0).setCell (p := ⟨w.heap.size, 1, none⟩) (Nat.le_refl _) v1).setCell (p := ⟨w.heap.size, 2, none⟩) (Nat.le_refl _) v2).setCell (p := ⟨w.heap.size, 3, none⟩) (Nat.le_refl _) v3).setCell (p := ⟨w.heap.size, 4, none⟩) (Nat.le_refl _) v4).setCell (p := ⟨w.heap.size, 5, none⟩) (Nat.le_refl _) v5
  have hk : ∀ k, k ≠ w.heap.size → W.heap[k]? = wx.heap[k]? := fun k hk =>
    (Below.heap_setCell _ ⟨w.heap.size, 5, none⟩ v5 k hk).trans ((Below.heap_setCell _ ⟨w.heap.size, 4, none⟩ v4 k hk).trans ((Below.heap_setCell _ ⟨w.heap.size, 3, none⟩ v3 k hk).trans ((Below.heap_setCell _ ⟨w.heap.size, 2, none⟩ v2 k hk).trans ((Below.heap_setCell _ ⟨w.heap.size, 1, none⟩ v1 k hk).trans (Below.heap_setCell _ ⟨w.heap.size, 0, none⟩ v0 k hk)))))
  exact ⟨(h.part.keep fun k hx => hk k (Nat.ne_of_gt hx.2.2.1)).more fun k hx => ⟨hx.1, hx.2.2.1, Nat.lt_of_lt_of_le hx.2.2.2 hb.size⟩, h.src.keepB hb hlt, h.but.up hb (Nat.le_refl _), (((((h.box.set 0 v0).set 1 v1).set 2 v2).set 3 v3).set 4 v4).set 5 v5⟩
end
def JOk (k : Int) (y j n : Nat) : Prop := (usesJ k = false ∧ j = 0) ∨ (usesJ k = true ∧ y ≤ j ∧ j ≤ n ∧ j ≤ 131070)
def KOk (k q : Int) : Prop := (usesK k = false ∧ q = 0) ∨ (usesK k = true ∧ 0 ≤ q ∧ q ≤ 1000000000000000)
def POk (k : Int) (xs : List GRule) : Prop := (k ≠ 1 ∧ xs = []) ∨ (k = 1 ∧ gramOk xs = true ∧ 0 < xs.length ∧ SmallL xs ∧ (xs.length ≤ 14 ∧ gramLen xs ≤ 5))
def MOk (k : Int) (m : ByteArray) : Prop := (k ≠ 7 ∧ m = ⟨#[]⟩) ∨ (k = 7 ∧ m ∈ mapTexts)
theorem dr_ok {k q : Int} {y j n : Nat} {xs : List GRule} {m : ByteArray} (hk7 : inR k 1 7 = true) (hy : y ≤ 65535) (hj : JOk k y j n) (hq : KOk k q) (hx : POk k xs) (hm : MOk k m) :
    editOk ⟨k, y, j, q, xs, m⟩ = true ∧ m.size ≤ 4 ∧ (xs.length ≤ 14 ∧ gramLen xs ≤ 5) ∧ SmallL xs := by
  have nS : SmallL [] := fun r hr => absurd hr (by simp)
  have s0 : (⟨#[]⟩ : ByteArray).size ≤ 4 := by decide
  rcases kind7 hk7 with rfl | rfl | rfl | rfl | rfl | rfl | rfl <;> simp [JOk, KOk, POk, MOk, usesJ, usesK] at hj hq hx hm
  · subst hj hq hm
    exact ⟨drok1 ⟨by omega, by omega⟩ hx.1 hx.2.1, s0, hx.2.2.2, hx.2.2.1⟩
  · subst hq hm hx
    exact ⟨drok2 (.inl rfl) ⟨by omega, by omega, by omega⟩, s0, ⟨by simp, by decide⟩, nS⟩
  · subst hm hx
    exact ⟨drok3 (.inl rfl) ⟨by omega, by omega, by omega⟩ hq, s0, ⟨by simp, by decide⟩, nS⟩
  · subst hm hx
    exact ⟨drok3 (.inr (.inl rfl)) ⟨by omega, by omega, by omega⟩ hq, s0, ⟨by simp, by decide⟩, nS⟩
  · subst hq hm hx
    exact ⟨drok2 (.inr rfl) ⟨by omega, by omega, by omega⟩, s0, ⟨by simp, by decide⟩, nS⟩
  · subst hm hx
    exact ⟨drok3 (.inr (.inr rfl)) ⟨by omega, by omega, by omega⟩ hq, s0, ⟨by simp, by decide⟩, nS⟩
  · subst hq hx
    have h4 := mapTexts_ok _ hm
    exact ⟨drok7 ⟨by omega, by omega, by omega⟩ h4.1 h4.2, by omega, ⟨by simp, by decide⟩, nS⟩
set_option maxRecDepth 100000 in
set_option maxHeartbeats 8000000 in
theorem l07Drawn_any (b N : Nat) (n : Int) (w : World) (h : Src w b N) (hN : N ≤ 700000) (hn : 0 ≤ n ∧ n ≤ 2000000000000000) :
    Calls Tryz.prog 88 #[.pointer (some ⟨b, 0, none⟩), .int .i64 n] w (DrEPost b N w) := by
  have hlt := h.lt
  have HS := Lib.hid h
  clear h
  obtain ⟨n, rfl⟩ := Int.eq_ofNat_of_zero_le hn.1
  have hn9 : n ≤ 2000000000000000 := by omega
  clear hn
  have wn : IntKind.i64.wrap ((n : Int) + 1) = (n : Int) + 1 := IntWalk.i64_in _ (by omega)
  have HS0 := Lib.hid (HS.out.keep ((Below.refl _ w).alloc (Nat.le_refl _) (.cells #[.int .i64 0, .int .i64 0, .int .i64 0, .int .i64 0, .slice none 0 0, .string ⟨#[]⟩] 46)))
  go_enter Tryz.func88, Tryz.ntmps88
  go_wp2_with fail
  refine (pick_any b N 7 _ HS0.out (by omega)).mono ?_
  rintro r w1 ⟨x, rfl, hx, _, hs1, hb1⟩
  have HR1 := Lib.hid (Blk.but (Blk.new w (#[.int .i64 0, .int .i64 0, .int .i64 0, .int .i64 0, .slice none 0 0, .string ⟨#[]⟩] : Array Value) 46) hb1 (by omega))
  have HB1 := Lib.hid ((But.of ((Below.refl _ w).alloc (Nat.le_refl _) (.cells #[.int .i64 0, .int .i64 0, .int .i64 0, .int .i64 0, .slice none 0 0, .string ⟨#[]⟩] 46))).trans hb1)
  have z1 : w.heap.size < w1.heap.size := HR1.out.lt
  have hx6 : x ≤ 6 := by omega
  have wk : IntKind.i64.wrap (1 + (x : Int)) = 1 + (x : Int) := IntWalk.i64_in _ (by omega)
  have HS1 := Lib.hid hs1
  clear hs1 hb1 hx HS0 HS
  go_wp2_with fail
  have ba := (Below.refl _ w1).alloc (Nat.le_refl _) (.cells #[.int .i64 (1 + (x : Int)), .int .i64 0, .int .i64 0, .int .i64 0, .slice none 0 0, .string ⟨#[]⟩] 46)
  have st0 : EdSt w b (N + 2) w1.heap.size (w1.alloc (.cells #[.int .i64 (1 + (x : Int)), .int .i64 0, .int .i64 0, .int .i64 0, .slice none 0 0, .string ⟨#[]⟩] 46)) (1 + (x : Int)) 0 0 0 (.slice none 0 0) [] ⟨#[]⟩ :=
    ⟨HS1.out.keep ba, HB1.out.tr ba, HR1.out.alloc _, Blk.new _ _ _, SlS.nil _ _⟩
  refine (pick_any b (N + 2) ((n : Int) + 1) _ st0.src (by omega)).mono ?_
  rintro r w2 ⟨y, rfl, hy, hy6, hs2, hb2⟩
  have st2 := st0.pick hb2 hs2 hlt z1
  have hyn : y ≤ n := by omega
  obtain ⟨k, hk⟩ : ∃ k : Int, 1 + (x : Int) = k := ⟨_, rfl⟩
  obtain ⟨E, hE⟩ : ∃ E, w1.heap.size = E := ⟨_, rfl⟩
  have hk7 : inR k 1 7 = true := by rw [← hk]; simp [inR]; omega
  rw [hk, hE] at st2
  rw [hE] at z1
  rw [hk, hE]
  clear st0 ba HS1 HR1 HB1 hs2 hb2 hy wk
  have fz := Blk.frozen st2.blk 1
  have ce := Blk.cell (i := 1) (v := .int .i64 0) st2.blk rfl
  have cK := Blk.cell (i := 0) (v := .int .i64 k) st2.blk rfl
  have St2 := Lib.hid st2
  clear st2
  go_wp2_with fail
  have st3 := St2.out.put hlt z1 1 (.int .i64 (y : Int)) St2.out.part rfl
  refine (l07Uses_any k _ hk7).mono ?_
  rintro r w3 ⟨rfl, hb3⟩
  have st4 := st3.up hb3 hlt z1
  clear st3 St2 hb3 fz ce cK
  obtain ⟨uJ, uK, uP, uM, uS⟩ := uses_has hk7
  obtain ⟨S, hS⟩ : ∃ S, usesS k = S := ⟨_, rfl⟩
  rw [hS] at uJ uK uP uM uS
  rw [hS]
  have hSm : S.size ≤ maxLen := by simp only [maxLen]; omega
  have CJ := l07Has_lit S 74 74 _ hSm rfl uJ
  have CK := l07Has_lit S 75 75 _ hSm rfl uK
  have CP := l07Has_lit S 80 80 _ hSm rfl uP
  have CM := l07Has_lit S 77 77 _ hSm rfl uM
  clear hS uJ uK uP uM uS hk hE
  have St4 := Lib.hid st4
  clear st4
  go_upto_if 20 with (first
    | (go_at_call 70; refine (CJ.out _).mono ?_; rintro r wh ⟨rfl, rfl⟩))
  go_cut [] (fun wx => ∃ j : Nat, JOk k y j n ∧ EdSt w b (N + 14) E wx k y j 0 (.slice none 0 0) [] ⟨#[]⟩)
  case first =>
    cases hJ : usesJ k with
    | false =>
      go_wp2
      go_meet
      exact ⟨0, .inl ⟨hJ, rfl⟩, St4.out.more (by omega)⟩
    | true =>
      have wj1 : IntKind.i64.wrap ((n : Int) - y) = ((n - y : Nat) : Int) := by rw [IntWalk.i64_in _ (by omega)]; omega
      have wj2 : IntKind.i64.wrap (((n - y : Nat) : Int) + 1) = ((n - y : Nat) : Int) + 1 := IntWalk.i64_in _ (by omega)
      have ce := Blk.cell (i := 1) (v := .int .i64 (y : Int)) St4.out.blk rfl
      have ced : w3.drew.cell? ⟨E, 1, none⟩ = some (.int .i64 (y : Int)) := ce
      have St5 := Lib.hid (fun (w5 : World) (M : Nat) (hb : But b w3 w5) (hs : Src w5 b M) => St4.out.pick hb hs hlt z1)
      go_upto_region 5 with fail
      go_region_held3 (fun w' => w'.cell? ⟨E, 1, none⟩ = some (.int .i64 (y : Int)))
        (first | (with_reducible exact ced) | (with_reducible exact ce) | (with_reducible exact ce5) | (with_reducible exact (ce6 _)))
        (first
          | (go_at_call 123; refine (pick_any b (N + 4) (((n - y : Nat) : Int) + 1) _ (St4.out.src.keep (by repeat (first | exact Below.refl _ _ | (refine Below.alloc ?_ (by first | omega | (simp; done) | (simp; omega)) _) | (refine Below.setCell ?_ (by first | exact Nat.le_refl _ | (show _ ≤ _; omega) | (simp; done) | (simp; omega)) _) | refine below_drewN ?_ _ | refine Below.drew ?_))) (by omega)).mono ?_; rintro r w5 ⟨z, rfl, hz, _, hs5, hb5⟩; have st5 := St5.out _ _ (But.trans (But.of (by repeat (first | exact Below.refl _ _ | (refine Below.alloc ?_ (by first | omega | (simp; done) | (simp; omega)) _) | (refine Below.setCell ?_ (by first | exact Nat.le_refl _ | (show _ ≤ _; omega) | (simp; done) | (simp; omega)) _) | refine below_drewN ?_ _ | refine Below.drew ?_))) hb5) hs5; have ce5 := Blk.cell (i := 1) (v := .int .i64 (y : Int)) st5.blk rfl; have fz5 := Blk.frozen st5.blk 2; have cj5 := Blk.cell (i := 2) (v := .int .i64 0) st5.blk rfl; have ce6 := fun v => Blk.cell (i := 1) (v := .int .i64 (y : Int)) (st5.blk.set 2 v) rfl; have wj3 : IntKind.i64.wrap ((y : Int) + z) = ((y + z : Nat) : Int) := (by rw [IntWalk.i64_in _ (by omega)]; omega)))
      go_wp2_with fail
      have St6 := Lib.hid (st5.put hlt z1 2 (.int .i64 ((y + z : Nat) : Int)) st5.part rfl)
      have wj4 : IntKind.i64.wrap (((y + z : Nat) : Int) - y) = (z : Int) := by rw [IntWalk.i64_in _ (by omega)]; omega
      refine (one_any b _ 3 _ St6.out.src (by omega)).mono ?_
      rintro r w7 ⟨t, rfl, hs7, hb7⟩
      have st7 := St6.out.pick hb7 hs7 hlt z1
      clear hs7 hb7 St6 st5 ce5 fz5 cj5 ce6 St5 ce ced hs5 hb5
      have c1 := Blk.cell (i := 1) (v := .int .i64 (y : Int)) st7.blk rfl
      have c2 := Blk.cell (i := 2) (v := .int .i64 ((y + z : Nat) : Int)) st7.blk rfl
      have f2 := Blk.frozen st7.blk 2
      have St7 := Lib.hid st7
      clear st7
      cases t with
      | false =>
        go_wp2_with fail
        go_meet
        exact ⟨y + z, .inr ⟨hJ, by omega, by omega, by omega⟩, St7.out.more (by omega)⟩
      | true =>
        by_cases h5 : (5 : Int) < (z : Int)
        · have c1d : w7.drew.cell? ⟨E, 1, none⟩ = some (.int .i64 (y : Int)) := c1
          have St8 := Lib.hid (fun (w5 : World) (M : Nat) (hb : But b w7 w5) (hs : Src w5 b M) => St7.out.pick hb hs hlt z1)
          go_upto_region 7 with fail
          go_region_held3 (fun w' => w'.cell? ⟨E, 1, none⟩ = some (.int .i64 (y : Int)))
            (first | (with_reducible exact c1d) | (with_reducible exact c1) | (with_reducible exact ce5) | (with_reducible exact (ce6 _)))
            (first
              | (go_at_call 123; refine (pick_any b (N + 8) 6 _ (St7.out.src.keep (by repeat (first | exact Below.refl _ _ | (refine Below.alloc ?_ (by first | omega | (simp; done) | (simp; omega)) _) | (refine Below.setCell ?_ (by first | exact Nat.le_refl _ | (show _ ≤ _; omega) | (simp; done) | (simp; omega)) _) | refine below_drewN ?_ _ | refine Below.drew ?_))) (by omega)).mono ?_; rintro r w8 ⟨u, rfl, hu, _, hs5, hb5⟩; have st5 := St8.out _ _ (But.trans (But.of (by repeat (first | exact Below.refl _ _ | (refine Below.alloc ?_ (by first | omega | (simp; done) | (simp; omega)) _) | (refine Below.setCell ?_ (by first | exact Nat.le_refl _ | (show _ ≤ _; omega) | (simp; done) | (simp; omega)) _) | refine below_drewN ?_ _ | refine Below.drew ?_))) hb5) hs5; have ce5 := Blk.cell (i := 1) (v := .int .i64 (y : Int)) st5.blk rfl; have fz5 := Blk.frozen st5.blk 2; have cj5 := Blk.cell (i := 2) (v := .int .i64 ((y + z : Nat) : Int)) st5.blk rfl; have ce6 := fun v => Blk.cell (i := 1) (v := .int .i64 (y : Int)) (st5.blk.set 2 v) rfl; have wj3 : IntKind.i64.wrap ((y : Int) + u) = ((y + u : Nat) : Int) := (by rw [IntWalk.i64_in _ (by omega)]; omega)))
          go_wp2_with fail
          go_meet
          exact ⟨y + u, .inr ⟨hJ, by omega, by omega, by omega⟩, (st5.put hlt z1 2 (.int .i64 ((y + u : Nat) : Int)) st5.part rfl).more (by omega)⟩
        · go_wp2_with fail
          go_meet
          exact ⟨y + z, .inr ⟨hJ, by omega, by omega, by omega⟩, St7.out.more (by omega)⟩
  case rest =>
    obtain ⟨j, hj, st8⟩ := hcut
    have St8 := Lib.hid st8
    clear st8 St4 CJ
    go_upto_if 49 with (first
      | (go_at_call 70; refine (CK.out _).mono ?_; rintro r wh ⟨rfl, rfl⟩))
    go_cut [] (fun wx => ∃ q : Int, KOk k q ∧ EdSt w b (N + 28) E wx k y j q (.slice none 0 0) [] ⟨#[]⟩)
    case first =>
      cases hK : usesK k with
      | false =>
        go_wp2_with fail
        go_meet
        exact ⟨0, .inl ⟨hK, rfl⟩, St8.out.more (by omega)⟩
      | true =>
        go_wp2_with fail
        refine (pick_any b _ ((n : Int) + 1) _ St8.out.src (by omega)).mono ?_
        rintro r w9 ⟨κ, rfl, hκ, _, hs9, hb9⟩
        have st9 := St8.out.pick hb9 hs9 hlt z1
        have hκn : κ ≤ n := by omega
        have hjn : j ≤ n := by rcases hj with hj | hj <;> omega
        have hj13 : j ≤ 131070 := by rcases hj with hj | hj <;> omega
        clear hs9 hb9 St8 hκ
        have c3 := Blk.cell (i := 3) (v := .int .i64 0) st9.blk rfl
        have f3 := Blk.frozen st9.blk 3
        have c0 := Blk.cell (i := 0) (v := .int .i64 k) st9.blk rfl
        have St9 := Lib.hid (st9.put hlt z1 3 (.int .i64 (κ : Int)) st9.part rfl)
        have d0 := Blk.cell (i := 0) (v := .int .i64 k) St9.out.blk rfl
        have d1 := Blk.cell (i := 1) (v := .int .i64 (y : Int)) St9.out.blk rfl
        have d2 := Blk.cell (i := 2) (v := .int .i64 (j : Int)) St9.out.blk rfl
        have d3 := Blk.cell (i := 3) (v := .int .i64 (κ : Int)) St9.out.blk rfl
        have e3 := Blk.frozen St9.out.blk 3
        clear st9
        have hk3 : k = 3 ∨ k = 4 ∨ k = 6 := by
          simp only [usesK, Bool.or_eq_true, beq_iff_eq] at hK
          omega
        rcases hk3 with rfl | rfl | rfl
        · go_wp2_with fail
          go_meet
          exact ⟨κ, .inr ⟨hK, by omega, by omega⟩, St9.out.more (by omega)⟩
        · by_cases k1 : (y : Int) < (κ : Int)
          · by_cases k2 : (κ : Int) < (j : Int)
            · go_wp2_with fail
              go_meet
              exact ⟨j, .inr ⟨hK, by omega, by omega⟩, (St9.out.put hlt z1 3 (.int .i64 (j : Int)) St9.out.part rfl).more (by omega)⟩
            · go_wp2_with fail
              go_meet
              exact ⟨κ, .inr ⟨hK, by omega, by omega⟩, St9.out.more (by omega)⟩
          · go_wp2_with fail
            go_meet
            exact ⟨κ, .inr ⟨hK, by omega, by omega⟩, St9.out.more (by omega)⟩
        · go_wp2_with fail
          refine (pick_any b _ 4 _ St9.out.src (by omega)).mono ?_
          rintro r w10 ⟨ρ, rfl, hρ, _, hs10, hb10⟩
          have st10 := St9.out.pick hb10 hs10 hlt z1
          have hρn : ρ ≤ 3 := by omega
          clear hs10 hb10 St9 hρ d0 d1 d2 d3 e3
          have c3 := Blk.cell (i := 3) (v := .int .i64 (κ : Int)) st10.blk rfl
          have f3 := Blk.frozen st10.blk 3
          have St10 := Lib.hid (st10.put hlt z1 3 (.int .i64 (ρ : Int)) st10.part rfl)
          clear st10
          go_wp2_with fail
          refine (one_any b _ 12 _ St10.out.src (by omega)).mono ?_
          rintro r w11 ⟨t2, rfl, hs11, hb11⟩
          have St11 := Lib.hid (St10.out.pick hb11 hs11 hlt z1)
          clear hs11 hb11 St10 c3 f3
          cases t2 with
          | false =>
            go_wp2_with fail
            go_meet
            exact ⟨ρ, .inr ⟨hK, by omega, by omega⟩, St11.out.more (by omega)⟩
          | true =>
            go_wp2_with fail
            have ba := (Below.refl _ w11).alloc (Nat.le_refl _) (.cells #[.int .i64 1000, .int .i64 1000000000000000, .int .i64 100000] 2)
            refine (among_any b _ _ [1000, 1000000000000000, 100000] _ (St11.out.src.keep ba) (by omega) (lit_ints [1000, 1000000000000000, 100000] St11.out.src.lt rfl (by decide)) (by decide) (by decide)).mono ?_
            rintro r w12 ⟨q, hq, rfl, hs12, hb12⟩
            have st12 := (St11.out.up ba hlt z1).pick hb12 hs12 hlt z1
            have hq2 : 0 ≤ q ∧ q ≤ 1000000000000000 := by simp at hq; omega
            have c3 := Blk.cell (i := 3) (v := .int .i64 (ρ : Int)) st12.blk rfl
            have f3 := Blk.frozen st12.blk 3
            have St12 := Lib.hid st12
            clear hs12 hb12 St11 ba st12
            go_wp2_with fail
            go_meet
            exact ⟨q, .inr ⟨hK, hq2⟩, (St12.out.put hlt z1 3 (.int .i64 q) St12.out.part rfl).more (by omega)⟩
    case rest =>
      obtain ⟨q, hq, st9⟩ := hcut
      have St9 := Lib.hid st9
      clear st9 St8 CK
      go_upto_if 88 with (first
        | (go_at_call 70; refine (CP.out _).mono ?_; rintro r wh ⟨rfl, rfl⟩))
      go_cut [] (fun wx => ∃ (A : Option Addr) (c : Nat) (xs : List GRule), POk k xs ∧ EdSt w b (N + 228) E wx k y j q (.slice A xs.length c) xs ⟨#[]⟩)
      case first =>
        cases hP : (k == 1) with
        | false =>
          go_wp2_with fail
          go_meet
          exact ⟨none, 0, [], .inl ⟨by simpa using hP, rfl⟩, St9.out.more (by omega)⟩
        | true =>
          go_wp2_with fail
          refine (l02Drawn_any b _ 5 _ St9.out.src (by omega)).mono ?_
          rintro r w10 ⟨v9, xs, rfl, hsl9, hok9, hl9, hs9, hb9⟩
          have st10 := St9.out.pick hb9 hs9 hlt z1
          have zE := St9.out.blk.lt
          have hsl : SlS RuleE w10 (fun k => k ≠ b ∧ k ≠ E ∧ w.heap.size < k ∧ k < w10.heap.size) v9 xs := hsl9.more fun k hk => ⟨by omega, by omega, by omega, hk.2⟩
          obtain ⟨A9, c9, rfl, _⟩ := hsl9
          have c4 := Blk.cell (i := 4) (v := .slice none 0 0) st10.blk rfl
          have f4 := Blk.frozen st10.blk 4
          have St10 := Lib.hid (st10.put hlt z1 4 (.slice A9 xs.length c9) hsl rfl)
          clear hs9 hb9 St9 st10 hsl
          go_wp2_with fail
          go_meet
          exact ⟨A9, c9, xs, .inr ⟨by simpa using hP, hok9.1, hok9.2.1, hok9.2.2.2, hl9, hok9.2.2.1 (by decide)⟩, St10.out.more (by omega)⟩
      case rest =>
        obtain ⟨A, c, xs, hx, st10⟩ := hcut
        have St10 := Lib.hid st10
        clear st10 St9 CP
        go_upto_if 93 with (first
          | (go_at_call 70; refine (CM.out _).mono ?_; rintro r wh ⟨rfl, rfl⟩))
        go_cut [] (fun wx => ∃ m : ByteArray, MOk k m ∧ EdSt w b (N + 240) E wx k y j q (.slice A xs.length c) xs m)
        case first =>
          cases hM : (k == 7) with
          | false =>
            go_wp2_with fail
            go_meet
            exact ⟨_, .inl ⟨by simpa using hM, rfl⟩, St10.out.more (by omega)⟩
          | true =>
            go_wp2_with fail
            have ba := (Below.refl _ wc).alloc (Nat.le_refl _) (.cells (mapTexts.map Value.string).toArray 9)
            refine (text_any b _ _ mapTexts _ (St10.out.src.keep ba) (by omega) (lit_strs mapTexts St10.out.src.lt rfl (by decide)) (by decide) (by decide)).mono ?_
            rintro r w12 ⟨m, hm, rfl, hs12, hb12⟩
            have st12 := (St10.out.up ba hlt z1).pick hb12 hs12 hlt z1
            have c5 := Blk.cell (i := 5) (v := .string ⟨#[]⟩) st12.blk rfl
            have f5 := Blk.frozen st12.blk 5
            have St12 := Lib.hid st12
            clear hs12 hb12 St10 ba st12
            go_wp2_with fail
            go_meet
            exact ⟨m, .inr ⟨by simpa using hM, hm⟩, (St12.out.put hlt z1 5 (.string m) St12.out.part rfl).more (by omega)⟩
        case rest =>
          obtain ⟨m, hm, st11⟩ := hcut
          have St11 := Lib.hid st11
          have g0 := Blk.cell (i := 0) (v := .int .i64 k) st11.blk rfl
          have g1 := Blk.cell (i := 1) (v := .int .i64 (y : Int)) st11.blk rfl
          have g2 := Blk.cell (i := 2) (v := .int .i64 (j : Int)) st11.blk rfl
          have g3 := Blk.cell (i := 3) (v := .int .i64 q) st11.blk rfl
          have g4 := Blk.cell (i := 4) (v := .slice A xs.length c) st11.blk rfl
          have g5 := Blk.cell (i := 5) (v := .string m) st11.blk rfl
          have r0 := Blk.cell (i := 0) (v := .int .i64 0) st11.box rfl
          have r1 := Blk.cell (i := 1) (v := .int .i64 0) st11.box rfl
          have r2 := Blk.cell (i := 2) (v := .int .i64 0) st11.box rfl
          have r3 := Blk.cell (i := 3) (v := .int .i64 0) st11.box rfl
          have r4 := Blk.cell (i := 4) (v := .slice none 0 0) st11.box rfl
          have r5 := Blk.cell (i := 5) (v := .string ⟨#[]⟩) st11.box rfl
          have q0 := Blk.frozen st11.box 0
          have q1 := Blk.frozen st11.box 1
          have q2 := Blk.frozen st11.box 2
          have q3 := Blk.frozen st11.box 3
          have q4 := Blk.frozen st11.box 4
          have q5 := Blk.frozen st11.box 5
          clear st11 St10 CM
          go_wp2_with fail
          obtain ⟨hsl, hsr, hbt, hbk⟩ := St11.out.fin hlt (.int .i64 k) (.int .i64 (y : Int)) (.int .i64 (j : Int)) (.int .i64 q) (.slice A xs.length c) (.string m)
          obtain ⟨ho, hms, hxl, hxs⟩ := dr_ok hk7 hy6 hj hq hx hm
          clear g0 g1 g2 g3 g4 g5 r0 r1 r2 r3 r4 r5 q0 q1 q2 q3 q4 q5 St11
          revert hsl hsr hbt hbk
          generalize (((((wc.setCell ⟨w.heap.size, 0, none⟩ (.int .i64 k)).setCell ⟨w.heap.size, 1, none⟩ (.int .i64 (y : Int))).setCell ⟨w.heap.size, 2, none⟩ (.int .i64 (j : Int))).setCell ⟨w.heap.size, 3, none⟩ (.int .i64 q)).setCell ⟨w.heap.size, 4, none⟩ (.slice A xs.length c)).setCell ⟨w.heap.size, 5, none⟩ (.string m) = W
          intro hsl hsr hbt hbk
          have x0 := Blk.cell (i := 0) (v := .int .i64 k) hbk rfl
          have x1 := Blk.cell (i := 1) (v := .int .i64 (y : Int)) hbk rfl
          have x2 := Blk.cell (i := 2) (v := .int .i64 (j : Int)) hbk rfl
          have x3 := Blk.cell (i := 3) (v := .int .i64 q) hbk rfl
          have x4 := Blk.cell (i := 4) (v := .slice A xs.length c) hbk rfl
          have x5 := Blk.cell (i := 5) (v := .string m) hbk rfl
          exact bodyPost_ret (v := .agg #[.int .i64 k, .int .i64 (y : Int), .int .i64 (j : Int), .int .i64 q, .slice A xs.length c, .string m]) (by simp [results, Tryz.results88, go_sem, x0, x1, x2, x3, x4, x5]) rfl ⟨_, _, ⟨k, y, j, q, xs, m⟩, rfl, rfl, hsl, hxl, hxs, ho, hms, hsr, hbt⟩
set_option maxRecDepth 100000 in
theorem a2Long_any (v v' : Value) (l l' : List UInt8) (w : World) (h : Sl ByteE w w.heap.size v l) (h' : Sl ByteE w w.heap.size v' l') :
    Calls Tryz.prog 13 #[v, v'] w fun e w' => e = .returned (.bool (decide ((3000 : Int) < l.length) || decide ((3000 : Int) < l'.length))) ∧ w = w' := by
  obtain ⟨A, c, rfl, _⟩ := h
  obtain ⟨A', c', rfl, _⟩ := h'
  by_cases h1 : (3000 : Int) < (l.length : Int)
  · go_enter Tryz.func13, Tryz.ntmps13
    go_wp2_with fail
    go_ret
    exact ⟨ret_bool (by simp [h1]), rfl⟩
  · have e1 : decide ((3000 : Int) < (l.length : Int)) = false := by simp; omega
    go_enter Tryz.func13, Tryz.ntmps13
    go_wp2_with fail
    go_ret
    exact ⟨ret_bool (by first | rfl | (simp [e1]; done) | simp), rfl⟩
theorem A2Grammar_any (v : Value) (l : List UInt8) (most : Int) (w : World) (h : Sl ByteE w w.heap.size v l) :
    Calls Tryz.prog 14 #[v, .int .i64 most] w fun e w' => ∃ u xs, e = .returned (.agg #[u]) ∧ Sl RuleE w' w'.heap.size u xs ∧ DrawnOk most xs ∧ xs.length ≤ 14 ∧ Below w.heap.size w w' := by
  have HL := Lib.hid h
  obtain ⟨A, c, rfl, _⟩ := h
  go_enter Tryz.func14, Tryz.ntmps14
  go_wp2_with fail
  have ba := (Below.refl _ w).alloc (Nat.le_refl _) (.cells #[.slice none 0 0] 30)
  refine (from_any _ l _ (HL.out.up ba)).mono ?_
  rintro r w1 ⟨b, rfl, hb, hs, hb1⟩
  have KR1 := Lib.hid (Blk.up (Blk.new w #[.slice none 0 0] 30) hb1)
  have hbz : w.heap.size < b := by simp at hb; omega
  have HS := Lib.hid hs
  have HB := Lib.hid (ba.trans (hb1.mono ba.size))
  have hz1 : w.heap.size < w1.heap.size := KR1.out.lt
  clear hs hb1 ba hb
  go_wp2_with fail
  refine (l02Drawn_any b 0 most _ HS.out (by omega)).mono ?_
  rintro r w2 ⟨u, xs, rfl, hsl, hok, hl, _, hb2⟩
  have KR2 := KR1.out.but hb2 (by omega)
  have cR := Blk.cell (i := 0) (v := .slice none 0 0) KR2 rfl
  have zR := Blk.frozen KR2 0
  have hz2 := hb2.size
  have HB2 := Lib.hid (HB.out.trans (hb2.below (B := w.heap.size) (by omega) (by omega)))
  have HSL := Lib.hid hsl
  clear hsl hb2 KR2
  obtain ⟨AX, cX, rfl, _⟩ := HSL.out
  go_wp2_with fail
  exact bodyPost_ret (v := .agg #[.slice AX xs.length cX]) (by simp [results, Tryz.results14, go_sem, cR]) rfl
    ⟨_, xs, rfl, (HSL.out.keep fun k hk => Below.heap_setCell w2 ⟨w.heap.size, 0, none⟩ _ k (by show k ≠ w.heap.size; omega)).more fun k hk => by simpa using hk.2, hok, hl, HB2.out.setCell (p := ⟨w.heap.size, 0, none⟩) (Nat.le_refl _) _⟩
theorem six {wx : World} {R : Nat} {a0 a1 a2 a3 a4 a5 : Value} (h : Blk wx R #[a0, a1, a2, a3, a4, a5] 46) (v0 v1 v2 v3 v4 v5 : Value) :
    let W := (((((wx.setCell ⟨R, 0, none⟩ v0).setCell ⟨R, 1, none⟩ v1).setCell ⟨R, 2, none⟩ v2).setCell ⟨R, 3, none⟩ v3).setCell ⟨R, 4, none⟩ v4).setCell ⟨R, 5, none⟩ v5
    Blk W R #[v0, v1, v2, v3, v4, v5] 46 ∧ (∀ k, k ≠ R → W.heap[k]? = wx.heap[k]?) ∧ Below R wx W := by
  intro W
  exact ⟨(((((h.set 0 v0).set 1 v1).set 2 v2).set 3 v3).set 4 v4).set 5 v5,
    fun k hk => (Below.heap_setCell _ ⟨R, 5, none⟩ v5 k hk).trans ((Below.heap_setCell _ ⟨R, 4, none⟩ v4 k hk).trans ((Below.heap_setCell _ ⟨R, 3, none⟩ v3 k hk).trans ((Below.heap_setCell _ ⟨R, 2, none⟩ v2 k hk).trans ((Below.heap_setCell _ ⟨R, 1, none⟩ v1 k hk).trans (Below.heap_setCell _ ⟨R, 0, none⟩ v0 k hk))))),
    ((((((Below.refl _ wx).setCell (p := ⟨R, 0, none⟩) (Nat.le_refl _) v0).setCell (p := ⟨R, 1, none⟩) (Nat.le_refl _) v1).setCell (p := ⟨R, 2, none⟩) (Nat.le_refl _) v2).setCell (p := ⟨R, 3, none⟩) (Nat.le_refl _) v3).setCell (p := ⟨R, 4, none⟩) (Nat.le_refl _) v4).setCell (p := ⟨R, 5, none⟩) (Nat.le_refl _) v5⟩
def QS (w : World) (b c lo : Nat) (v : Value) : Nat → Prop := fun k => k ≠ b ∧ k ≠ c ∧ v.ownBlock ≠ some k ∧ lo ≤ k ∧ k < w.heap.size
def OEdQ (w : World) (b c lo : Nat) (v : Value) (es : List GEdit) : Prop :=
  ∃ ps : List (GEdit × Value), ps.map Prod.fst = es ∧ w.ownsRow lo 46 6 v es.length (ps.flatMap epCells) ∧ (∀ g, v.ownBlock = some g → g ≠ b ∧ g ≠ c) ∧ ∀ p ∈ ps, SlS RuleE w (QS w b c lo v) p.2 p.1.part
theorem oedq_empty {W : World} {b c lo N : Nat} (hN : N = W.heap.size) (h : lo ≤ W.heap.size) (hb : b < W.heap.size) (hc : c ≠ W.heap.size) : OEdQ (W.alloc (Obj.cells #[] 46)) b c lo (.slice (some ⟨N, 0, none⟩) 0 0) [] := by
  subst hN
  exact ⟨[], rfl, World.ownsRow_lit W #[] 0 h (Nat.zero_le _) rfl, fun g hg => by simp [Value.ownBlock] at hg; omega, fun p hp => absurd hp (by simp)⟩
section
variable {w w' : World} {b c lo : Nat} {v : Value} {es : List GEdit}
theorem OEdQ.same (h : OEdQ w b c lo v es) (hs : w.heap.size ≤ w'.heap.size) (hb : ∀ k, k ≠ b → k ≠ c → k < w.heap.size → w'.heap[k]? = w.heap[k]?) : OEdQ w' b c lo v es := by
  obtain ⟨ps, h1, h2, h4, h3⟩ := h
  refine ⟨ps, h1, own_keep h2 fun g hg => hb g (h4 g hg).1 (h4 g hg).2 (World.ownsRow.lt h2 g hg).2, h4, fun p hp => ?_⟩
  exact ((h3 p hp).keep fun k hk => hb k hk.1 hk.2.1 hk.2.2.2.2).more fun k hk => ⟨hk.1, hk.2.1, hk.2.2.1, hk.2.2.2.1, Nat.lt_of_lt_of_le hk.2.2.2.2 hs⟩
theorem OEdQ.but (h : OEdQ w b c lo v es) (hb : But b w w') : OEdQ w' b c lo v es := h.same hb.size fun k h1 _ h3 => hb.block k h3 h1
theorem OEdQ.up (h : OEdQ w b c lo v es) (hb : Below w.heap.size w w') : OEdQ w' b c lo v es := h.but (But.of hb)
theorem OEdQ.put (h : OEdQ w b c lo v es) (o : Nat) (u : Value) : OEdQ (w.setCell ⟨c, o, none⟩ u) b c lo v es :=
  h.same (by simp [World.setCell]) fun k _ h2 _ => Below.heap_setCell w ⟨c, o, none⟩ u k h2
theorem OEdQ.form (h : OEdQ w b c lo v es) : ∃ A cap, v = .slice A es.length cap := by
  obtain ⟨ps, rfl, h2, _, _⟩ := h
  obtain ⟨A, cap, rfl, _, _⟩ := own_nil h2
  exact ⟨A, cap, rfl⟩
theorem OEdQ.own (h : OEdQ w b c lo v es) : ∀ g, v.ownBlock = some g → g < w.heap.size := by
  obtain ⟨ps, rfl, h2, _, _⟩ := h
  exact fun g hg => (World.ownsRow.lt h2 g hg).2
theorem OEdQ.sl (h : OEdQ w b c lo v es) : Sl EditE w w.heap.size v es := by
  obtain ⟨ps, rfl, h2, h4, h3⟩ := h
  obtain ⟨A, cap, rfl, c1, c2⟩ := own_nil h2
  refine ⟨A, cap, rfl, c1, c2, Row.of_own (E := EditE) h2 rfl (fun g hg => (World.ownsRow.lt h2 g hg).2) fun k e hx => ?_⟩
  obtain ⟨u, hu⟩ := ps_at hx
  refine ⟨epCells (e, u), ⟨u, rfl, (h3 _ (List.mem_of_getElem? hu)).more fun k hk => hk.2.2.2.2⟩, fun j x hj => ?_⟩
  have hj6 : j < 6 := by have := (List.getElem?_eq_some_iff.1 hj).1; simpa [epCells] using this
  show (ps.flatMap epCells)[k * 6 + j]? = some x
  rw [ep_at ps k _ hu j hj6]; exact hj
end
theorem push_drawn {W : World} {ops : Array Oper} {rest : List Oper} {o : Oper} {a : Act} {Q : Exit → Act → World → Prop} (hgd : o.guard = none) (s x : Operand)
    (ho : o.op = .call { callee := .builtin .append, args := #[s, x], argTypes := #[37, 37] }) {e : GEdit} {u : Value} {b c lo : Nat} {v : Value} {es : List GEdit}
    (hs : a.eval s = v) {N : Nat} (hx : a.eval x = .slice (some ⟨N, 0, none⟩) 1 1) (hN : N = W.heap.size) (hown : OEdQ W b c lo v es) (hlen : es.length ≤ 1048576) (hbase : lo ≤ W.heap.size) (hb : b < W.heap.size) (hc : c < W.heap.size)
    (hu : SlS RuleE W (QS W b c lo v) u e.part)
    (h : ∀ g' c' w', OEdQ w' b c lo (.slice (some ⟨g', 0, none⟩) (es.length + 1) c') (es ++ [e]) → TK (fun t => t ≠ 46) W w' → (∀ k, k < W.heap.size → v.ownBlock ≠ some k → w'.heap[k]? = W.heap[k]?) → Below lo W w' → wpList Tryz.prog ops Q rest (a.put o.dst (.slice (some ⟨g', 0, none⟩) (es.length + 1) c')) w') :
    wpList Tryz.prog ops Q (o :: rest) a (W.alloc (.cells #[.int .i64 e.kind, .int .i64 e.i, .int .i64 e.j, .int .i64 e.k, u, .string e.map] 46)) := by
  subst hN
  obtain ⟨ps, hm, hrow, hne, hP⟩ := hown
  obtain ⟨i0, hi0, hz0, hz1, hz2⟩ := info_parts Tryz.infoEd
  have hu1 : u.oneCell' = true := by obtain ⟨_, _, rfl, _⟩ := hu; rfl
  refine wpList_push2 hgd s x 37 ho i0 _ 6 72 Tryz.underlying37 hi0 hz0 hz1 hz2 rfl (by decide) hs hx rfl (by simp [Value.oneCell'] at hu1 ⊢; exact hu1) hrow (by omega) (by omega) hbase ?_
  intro v' w' k1 k2 k3
  have hg : W.grownBy w' v.ownBlock := ⟨k2.os, k2.tape, k2.output, Nat.le_trans (by simp) k2.size, fun y hy hne => (k2.block y (by simp; omega) hne).trans (Below.heap_alloc W _ y hy)⟩
  have hbl : Below lo W w' := (Below.refl lo W).grown hg hbase (fun y hy => (World.ownsRow.lt hrow y hy).1)
  have k1' : w'.ownsRow lo 46 6 v' (es.length + 1) ((ps ++ [(e, u)]).flatMap epCells) := by simpa [epCells] using k1
  obtain ⟨g', c', rfl, _⟩ := own_form k1' (by omega)
  have k3' : v.ownBlock = some g' ∨ g' = W.heap.size + 1 := k3.imp (fun q => q.symm.trans rfl) (fun q => by simpa [Value.ownBlock] using q)
  have hkeep : ∀ k, k < W.heap.size → v.ownBlock ≠ some k → w'.heap[k]? = W.heap[k]? := fun k hk hv => hg.block k hk (fun q => hv q.symm)
  have hgs := hg.size
  refine h g' c' w' ⟨ps ++ [(e, u)], by rw [List.map_append, hm]; rfl, by simpa using k1', fun g hg' => ?_, fun p hp => ?_⟩ (TK.grown hrow hg fun t ht => ht) hkeep hbl
  · have : g = g' := by simpa [Value.ownBlock] using hg'.symm
    subst this
    rcases k3' with k3' | k3'
    · exact hne _ k3'
    · omega
  · have hall : SlS RuleE W (QS W b c lo v) p.2 p.1.part := by
      rcases List.mem_append.1 hp with hp | hp
      · exact hP p hp
      · simp at hp; subst hp; exact hu
    refine (hall.keep fun k hk => hkeep k hk.2.2.2.2 hk.2.2.1).more fun k hk => ⟨hk.1, hk.2.1, fun q => ?_, hk.2.2.2.1, Nat.lt_of_lt_of_le hk.2.2.2.2 hgs⟩
    have : g' = k := by simpa [Value.ownBlock] using q
    subst this
    rcases k3' with k3' | k3'
    · exact hk.2.2.1 k3'
    · have := hk.2.2.2.2; omega
def DrE (e : GEdit) : Prop := (e.part.length ≤ 14 ∧ gramLen e.part ≤ 5) ∧ SmallL e.part ∧ editOk e = true ∧ e.map.size ≤ 4
theorem gram_small {xs : List GRule} (h : gramOk xs = true) : SmallL xs := by
  obtain ⟨_, ls, hl⟩ := gram_lens h
  exact fun r hr => Nat.le_trans (okAll_small (okAll_lens hl) r hr) (by decide)
def EdQ (b n M E : Nat) (w4 wx : World) : Prop :=
  ∃ (e : GEdit) (A5 : Option Addr) (c5 : Nat), DrE e ∧ Blk wx E (editCells e (.slice A5 e.part.length c5)) 46 ∧ SlS RuleE wx (fun k => k ≠ b ∧ n < k ∧ k < wx.heap.size) (.slice A5 e.part.length c5) e.part ∧ Src wx b M ∧ But b w4 wx
structure SmSt (w : World) (b c M : Nat) (wx : World) (A : Option Addr) (cA : Nat) (xs : List GRule) (v : Value) (es : List GEdit) : Prop where
  src : Src wx b M
  bel : But b w wx
  box : Blk wx c #[.slice A xs.length cA] 30
  own : OwnRules wx w.heap.size (.slice A xs.length cA) xs
  row : OEdQ wx b c w.heap.size v es
section
variable {w wx w' : World} {b c M M' : Nat} {A : Option Addr} {cA : Nat} {xs : List GRule} {v : Value} {es : List GEdit}
theorem SmSt.pick (h : SmSt w b c M wx A cA xs v es) (hb : But b wx w') (hs : Src w' b M') (hlt : b < w.heap.size) (hc : w.heap.size ≤ c) : SmSt w b c M' w' A cA xs v es :=
  ⟨hs, h.bel.trans hb, h.box.but hb (by omega), OwnRules.but h.own hb hlt, h.row.but hb⟩
theorem SmSt.up (h : SmSt w b c M wx A cA xs v es) (hb : Below wx.heap.size wx w') (hlt : b < w.heap.size) (hc : w.heap.size ≤ c) : SmSt w b c M w' A cA xs v es := h.pick (But.of hb) (h.src.keep hb) hlt hc
end
set_option maxRecDepth 100000 in
set_option maxHeartbeats 8000000 in
theorem l07Some_any (b N P oP : Nat) (most : Int) (vG : Value) (xs0 : List GRule) (w : World) (hs : Src w b N) (hN : N ≤ 100000) (hP : C1 w ⟨P, oP, none⟩ vG) (hG : Sl RuleE w w.heap.size vG xs0) (hg : gramOk xs0 = true) (hm : 0 ≤ most ∧ most ≤ 6) :
    Calls Tryz.prog 58 #[.pointer (some ⟨b, 0, none⟩), .pointer (some ⟨P, oP, none⟩), .int .i64 most] w fun r w' => ∃ v es c, r = .returned v ∧ OEdQ w' b c w.heap.size v es ∧ es.length ≤ 6 ∧ (∀ e ∈ es, DrE e) ∧ But b w w' := by
  have hlt := hs.lt
  have HS := Lib.hid hs
  have HG := Lib.hid hG
  have h4 := (gram_lens hg).1
  have HGG := Lib.hid hg
  have wm : IntKind.i64.wrap (most + 1) = most + 1 := IntWalk.i64_in _ (by omega)
  have ba := (Below.refl _ w).alloc (Nat.le_refl _) (Obj.cells #[] 46)
  have HP := Lib.hid (hP.up ba)
  have HBA := Lib.hid ba
  clear hs hG hP ba hg
  go_enter Tryz.func58, Tryz.ntmps58
  go_wp2_with fail
  refine (l02Own_any P oP _ xs0 _ HP.out.c HP.out.lt (HG.out.up HBA.out) (by omega)).mono ?_
  rintro r w1 ⟨vN, rfl, ownN, hb1⟩
  obtain ⟨AN, cN, rfl, _⟩ := own_nil ownN
  have z1 : w.heap.size < w1.heap.size := Nat.lt_of_lt_of_le (by simp) hb1.size
  have st1 : SmSt w b w1.heap.size N (w1.alloc (Obj.cells #[.slice AN xs0.length cN] 30)) AN cN xs0 (.slice (some ⟨w.heap.size, 0, none⟩) 0 0) [] := by
    have bb := (Below.refl _ w1).alloc (Nat.le_refl _) (Obj.cells #[.slice AN xs0.length cN] 30)
    refine ⟨(HS.out.keep HBA.out).keepB hb1 (by simp; omega) |>.keep bb, (But.of HBA.out).trans ((But.of hb1).trans (But.of bb)), Blk.new _ _ _, ?_, ?_⟩
    · exact World.ownsRow.alloc (ownsRow_more ownN (by simp)) _
    · exact ((oedq_empty (b := b) (c := w1.heap.size) rfl (Nat.le_refl _) hlt (by omega)).up hb1).up bb
  have St1 := Lib.hid st1
  clear st1 ownN
  go_wp2_with fail
  refine (pick_any b N (most + 1) _ St1.out.src (by omega)).mono ?_
  rintro r w2 ⟨x, rfl, hx, _, hs2, hb2⟩
  have St2 := Lib.hid (St1.out.pick hb2 hs2 hlt (by omega))
  obtain ⟨c, hc⟩ : ∃ c, w1.heap.size = c := ⟨_, rfl⟩
  rw [hc] at St2 z1
  rw [hc]
  clear St1 hs2 hb2 hb1 hc
  have hx6 : x ≤ 6 := by omega
  clear hx
  go_wp2_with fail
  go_loopw [7, 9] (fun o k wx => ∃ (m M : Nat) (A : Option Addr) (cA : Nat) (xs : List GRule) (Av : Option Addr) (cv : Nat) (es : List GEdit), o = .slice Av es.length cv ∧ k = .int .i64 m ∧ m + es.length ≤ 6 ∧ M ≤ N + 2 + 700 * es.length ∧ gramOk xs = true ∧ Hid (∀ e ∈ es, DrE e) ∧ Hid (SmSt w b c M wx A cA xs (.slice Av es.length cv) es)) (fun _ k _ => (intOf k).toNat)
  case atStart => exact ⟨x, N + 2, AN, cN, xs0, _, _, [], rfl, rfl, by simp; omega, by simp, HGG.out, Lib.hid (fun e he => absurd he (by simp)), St2⟩
  case round =>
    obtain ⟨m, M, A, cA, xs, Av, cv, es, rfl, rfl, hml, hM, hgx, HD, St⟩ := hrel
    by_cases h0 : m = 0
    · subst h0
      go_wp2_with fail
      go_ret
      exact ⟨_, es, c, rfl, St.out.row, by omega, HD.out, St.out.bel⟩
    · have hm0 : (0 : Int) < (m : Int) := by omega
      obtain ⟨hx4, ls, hl⟩ := gram_lens hgx
      have hlb := gramLen_bounds xs
      rw [gramLen_of hl] at hlb
      have HL := Lib.hid hl
      have HX := Lib.hid hgx
      have hsx := Lib.hid (gram_small hgx)
      have cN1 := Blk.cell (i := 0) (v := .slice A xs.length cA) St.out.box rfl
      have lN1 := Blk.lt St.out.box
      clear hl hgx h0
      go_wp2_with fail
      refine (l02Length_any c 0 _ xs ls _ HL.out cN1 lN1 St.out.own.sl hsx.out (by omega)).mono ?_
      rintro r w3 ⟨rfl, hb3⟩
      obtain ⟨n, hn⟩ : ∃ n, lastI ls = n := ⟨_, rfl⟩
      rw [hn] at hlb
      rw [hn]
      have HLN := Lib.hid hn
      have St3 := Lib.hid (St.out.up hb3 hlt (by omega))
      clear hn cN1 lN1 hb3
      have z3 : c < w3.heap.size := St3.out.box.lt
      have hown3 := St3.out.row.own
      go_wp2_with fail
      refine (l07Drawn_any b M n _ St3.out.src (by omega) (by omega)).mono ?_
      rintro r w4 ⟨_, vR, e, rfl, rfl, hsl4, h14, hsm4, hok4, hm4, hs4, hb4⟩
      have St4 := Lib.hid (St3.out.pick hb4 hs4 hlt (by omega))
      have hsl4b := hsl4
      obtain ⟨AR, cR, rfl, _⟩ := hsl4b
      have bE := (Below.refl _ w4).alloc (Nat.le_refl _) (Obj.cells #[.int .i64 e.kind, .int .i64 e.i, .int .i64 e.j, .int .i64 e.k, .slice AR e.part.length cR, .string e.map] 46)
      have zE : w3.heap.size ≤ w4.heap.size := hb4.size
      have Q5 : Hid (EdQ b w3.heap.size (M + 240) w4.heap.size w4 (w4.alloc (Obj.cells #[.int .i64 e.kind, .int .i64 e.i, .int .i64 e.j, .int .i64 e.k, .slice AR e.part.length cR, .string e.map] 46))) :=
        ⟨e, AR, cR, ⟨h14, hsm4, hok4, hm4⟩, Blk.new _ _ _, (hsl4.keep fun k hk => bE.block k hk.2.2).more fun k hk => ⟨hk.1, hk.2.1, Nat.lt_of_lt_of_le hk.2.2 bE.size⟩, hs4.keep bE, But.of bE⟩
      have HKE := Lib.hid (Blk.new w4 (editCells e (.slice AR e.part.length cR)) 46)
      have HN5 := Lib.hid (St4.out.up bE hlt (by omega))
      clear hsl4 h14 hsm4 hok4 hm4 hs4 hb4 bE
      go_upto_region 7 with fail
      revert Q5 HKE HN5
      generalize (w4.alloc (Obj.cells #[.int .i64 e.kind, .int .i64 e.i, .int .i64 e.j, .int .i64 e.k, .slice AR e.part.length cR, .string e.map] 46)) = w5
      intro Q5 HKE HN5
      obtain ⟨E, hE⟩ : ∃ E, w4.heap.size = E := ⟨_, rfl⟩
      rw [hE] at Q5 HKE zE
      rw [hE]
      have hs5 : Hid (Src w5 b (M + 240)) := by obtain ⟨_, _, _, _, _, _, h, _⟩ := Q5.out; exact h
      have hb5 : Hid (But b w4 w5) := by obtain ⟨_, _, _, _, _, _, _, h⟩ := Q5.out; exact h
      go_wp2_with fail
      refine (one_any b (M + 240) 12 _ hs5.out (by omega)).mono ?_
      rintro r w6 ⟨t, rfl, hs6, hb6⟩
      go_upto_if 28 with fail
      have Q6 : Hid (EdQ b w3.heap.size (M + 242) E w4 w6) := by
        obtain ⟨e', A5, c5, q1, q2, q3, q4, q5⟩ := Q5.out
        exact ⟨e', A5, c5, q1, q2.but hb6 (by omega), (q3.keep fun k hk => hb6.block k hk.2.2 hk.1).more fun k hk => ⟨hk.1, hk.2.1, Nat.lt_of_lt_of_le hk.2.2 hb6.size⟩, hs6, q5.trans hb6⟩
      have HN6 := Lib.hid (HN5.out.pick hb6 hs6 hlt (by omega))
      clear hs6 hb6 Q5 HKE HN5 hs5 hb5
      go_cut [] (fun wx => EdQ b w3.heap.size (M + 500) E w4 wx)
      case first =>
        cases t with
        | false =>
          go_wp2_with fail
          go_meet
          obtain ⟨e', A5, c5, q1, q2, q3, q4, q5⟩ := Q6.out
          exact ⟨e', A5, c5, q1, q2, q3, q4.more (by omega), q5⟩
        | true =>
          have cN1 := Blk.cell (i := 0) (v := .slice A xs.length cA) HN6.out.box rfl
          have lN1 := Blk.lt HN6.out.box
          go_wp2_with fail
          refine (l02Length_any c 0 _ xs ls _ HL.out cN1 lN1 HN6.out.own.sl hsx.out (by omega)).mono ?_
          rintro r w7 ⟨rfl, hb7⟩
          rw [HLN.out]
          have HN7 := Lib.hid (HN6.out.up hb7 hlt (by omega))
          have Q7 : Hid (EdQ b w3.heap.size (M + 242) E w4 w7) := by
            obtain ⟨e', A5, c5, q1, q2, q3, q4, q5⟩ := Q6.out
            exact ⟨e', A5, c5, q1, q2.up hb7, (q3.keep fun k hk => hb7.block k hk.2.2).more fun k hk => ⟨hk.1, hk.2.1, Nat.lt_of_lt_of_le hk.2.2 hb7.size⟩, q4.keep hb7, q5.trans (But.of hb7)⟩
          have z7 : w3.heap.size ≤ w7.heap.size := by
            obtain ⟨_, _, _, _, _, _, _, q5⟩ := Q7.out
            have := q5.size
            omega
          have w3n : IntKind.i64.wrap (n + 3) = n + 3 := IntWalk.i64_in _ (by omega)
          clear cN1 lN1 hb7 Q6 HN6
          go_wp2_with fail
          refine (l07Drawn_any b (M + 242) (n + 3) _ HN7.out.src (by omega) (by omega)).mono ?_
          rintro r w8 ⟨_, vR8, e8, rfl, rfl, hsl8, h14, hsm8, hok8, hm8, hs8, hb8⟩
          have hsl8b := hsl8
          obtain ⟨A8, c8, rfl, _⟩ := hsl8b
          obtain ⟨e', A5, c5, q1, q2, q3, q4, q5⟩ := Q7.out
          have k8 := q2.but hb8 (by omega)
          have z8 : E < w8.heap.size := k8.lt
          have zE7 : E < w7.heap.size := q2.lt
          have HQ8 := Lib.hid (show DrE e8 ∧ SlS RuleE w8 (fun k => k ≠ b ∧ w7.heap.size < k ∧ k < w8.heap.size) (.slice A8 e8.part.length c8) e8.part ∧ Src w8 b (M + 482) ∧ But b w4 w8 from ⟨⟨h14, hsm8, hok8, hm8⟩, hsl8, hs8, q5.trans hb8⟩)
          have HK8 := Lib.hid k8
          have f0 := Blk.frozen k8 0
          have f1 := Blk.frozen k8 1
          have f2 := Blk.frozen k8 2
          have f3 := Blk.frozen k8 3
          have f4 := Blk.frozen k8 4
          have f5 := Blk.frozen k8 5
          have g0 := Blk.cell (i := 0) k8 rfl
          have g1 := Blk.cell (i := 1) k8 rfl
          have g2 := Blk.cell (i := 2) k8 rfl
          have g3 := Blk.cell (i := 3) k8 rfl
          have g4 := Blk.cell (i := 4) k8 rfl
          have g5 := Blk.cell (i := 5) k8 rfl
          clear hsl8 h14 hsm8 hok8 hm8 hs8 hb8 q1 q2 q3 q4 q5 k8 Q7
          go_wp2_with fail
          go_meet
          obtain ⟨r1, r2, r3, r4⟩ := HQ8.out
          obtain ⟨s1, s2, s3⟩ := six HK8.out (.int .i64 e8.kind) (.int .i64 e8.i) (.int .i64 e8.j) (.int .i64 e8.k) (.slice A8 e8.part.length c8) (.string e8.map)
          exact ⟨e8, A8, c8, r1, s1, (r2.keep fun k hk => s2 k (by have := hk.2.1; omega)).more fun k hk => ⟨hk.1, by have := hk.2.1; omega, Nat.lt_of_lt_of_le hk.2.2 s3.size⟩, (r3.keepB s3 (by omega)).more (by omega), r4.up s3 (by omega)⟩
      case rest =>
        revert hcut
        generalize wc = wC
        intro hcut
        obtain ⟨e', A5, c5, q1, q2, q3, q4, q5⟩ := hcut
        have StC := Lib.hid (St4.out.pick q5 q4 hlt (by omega))
        have HQ := Lib.hid (And.intro q1 (And.intro q2 q3))
        have zC : E < wC.heap.size := q2.lt
        have hnC : ∀ g, (Value.slice Av es.length cv).ownBlock = some g → g < w3.heap.size := hown3
        have HNC := Lib.hid hnC
        have c0 := Blk.cell (i := 0) (v := .int .i64 e'.kind) q2 rfl
        have c1 := Blk.cell (i := 1) (v := .int .i64 e'.i) q2 rfl
        have c2 := Blk.cell (i := 2) (v := .int .i64 e'.j) q2 rfl
        have c3 := Blk.cell (i := 3) (v := .int .i64 e'.k) q2 rfl
        have c4 := Blk.cell (i := 4) (v := .slice A5 e'.part.length c5) q2 rfl
        have c5' := Blk.cell (i := 5) (v := .string e'.map) q2 rfl
        have hpart : SlS RuleE wC (QS wC b c w.heap.size (.slice Av es.length cv)) (.slice A5 e'.part.length c5) e'.part := q3.more fun k hk => ⟨hk.1, by omega, fun q => by have := hnC k q; omega, by omega, hk.2.2⟩
        have HP5 := Lib.hid hpart
        have hles : es.length ≤ 1048576 := by omega
        have hloC : w.heap.size ≤ wC.heap.size := by omega
        have hbC : b < wC.heap.size := by omega
        have hcC : c < wC.heap.size := by omega
        clear q1 q2 q3 q4 q5 hpart HN6 Q6 St4 hown3 hnC
        go_wp2_with (first
          | (at_builtin; refine push_drawn (e := e') (u := .slice A5 e'.part.length c5) rfl _ _ rfl (by rfl) (by rfl) rfl StC.out.row hles hloC hbC hcC HP5.out ?_; intro g9 c9 w9 row9 tk9 kp9 hb9))
        obtain ⟨q1, q2, q3⟩ := HQ.out
        have kE9 : Blk w9 E (editCells e' (.slice A5 e'.part.length c5)) 46 := (kp9 E zC (fun q => by have := HNC.out E q; omega)).trans q2
        have hp9 : Sl RuleE w9 w9.heap.size (.slice A5 e'.part.length c5) e'.part := (q3.keep fun k hk => kp9 k hk.2.2 (fun q => by have := HNC.out k q; omega)).more fun k hk => Nat.lt_of_lt_of_le hk.2.2 hb9.size
        have el : (es ++ [e']).length = es.length + 1 := by simp
        have St9 : SmSt w b c (M + 500) w9 A cA xs (.slice (some ⟨g9, 0, none⟩) (es ++ [e']).length c9) (es ++ [e']) :=
          ⟨StC.out.src.keepB hb9 hlt, StC.out.bel.up hb9 (Nat.le_refl _), TK.blk StC.out.box tk9 (by decide), TK.row StC.out.own tk9 (by decide), by rw [el]; exact row9⟩
        have HS9 := Lib.hid St9
        have HE9 := Lib.hid (EC.of kE9)
        have HP9 := Lib.hid hp9
        have HD9 : Hid (∀ x ∈ es ++ [e'], DrE x) := fun x hx => by
          rcases List.mem_append.1 hx with hx | hx
          · exact HD.out x hx
          · simp at hx; subst hx; exact q1
        have hok' := q1.2.2.1
        have HOK := Lib.hid hok'
        have cN9 := Blk.cell (i := 0) (v := .slice A xs.length cA) St9.box rfl
        have lN9 := Blk.lt St9.box
        clear q1 q2 q3 kE9 hp9 row9 tk9 kp9 hb9 St9 c0 c1 c2 c3 c4 c5' HP5 hok' HQ
        go_wp2_with fail
        refine (l07Apply_any c 0 E 0 _ _ xs e' _ ⟨cN9, lN9⟩ HE9.out HS9.out.own.sl HP9.out HX.out HOK.out).mono ?_
        rintro r w10 ⟨hb10, v10, own10, rfl⟩
        obtain ⟨A10, c10, rfl, _⟩ := own_nil own10
        have b11 := hb10.alloc hb10.size (Obj.cells #[.slice A10 (applyOut xs e').length c10] 30)
        have HS11 := Lib.hid (HS9.out.up b11 hlt (by omega))
        have z10 := hb10.size
        have HO10 := Lib.hid own10
        have HS10 := Lib.hid (HS9.out.up hb10 hlt (by omega))
        clear hb10 own10 b11 cN9 HE9 HP9
        by_cases hc : applyCode xs e' = 0
        · rw [hc]
          have xN := HS11.out.box.cell (i := 0) (v := .slice A xs.length cA) rfl
          have fN := HS11.out.box.frozen 0
          have lN11 : c < w10.heap.size := by omega
          have hgo := applyOut_ok xs e'
          clear hc
          have HGO := Lib.hid hgo
          clear hgo
          go_wp2_with fail
          go_roundw
          case rel =>
            refine ⟨m - 1, M + 500, A10, c10, applyOut xs e', some ⟨g9, 0, none⟩, c9, es ++ [e'], by rw [el], by go_num, by rw [el]; omega, by rw [el]; omega, HGO.out, HD9, Lib.hid ?_⟩
            have bs : Below c w10 (w10.setCell ⟨c, 0, none⟩ (.slice A10 (applyOut xs e').length c10)) := (Below.refl c _).setCell (p := ⟨c, 0, none⟩) (Nat.le_refl _) _
            have st : SmSt w b c (M + 500) (w10.setCell ⟨c, 0, none⟩ (.slice A10 (applyOut xs e').length c10)) A10 c10 (applyOut xs e') (.slice (some ⟨g9, 0, none⟩) (es ++ [e']).length c9) (es ++ [e']) :=
              ⟨HS10.out.src.keepB bs (by omega), HS10.out.bel.up bs (by omega), HS10.out.box.set 0 _, ownsRow_more (ownsRow_setCell_below HO10.out (a := ⟨c, 0, none⟩) (by show c < _; omega) _) (by omega), HS10.out.row.put 0 _⟩
            exact st.up ((Below.refl _ _).alloc (Nat.le_refl _) _) hlt (by omega)
          case measure => simp [intOf]; omega
        · have hcb : (applyCode xs e' == 0) = false := by simp [hc]
          go_wp2_with fail
          go_roundw
          case rel => exact ⟨m - 1, M + 500, A, cA, xs, some ⟨g9, 0, none⟩, c9, es ++ [e'], by rw [el], by go_num, by rw [el]; omega, by rw [el]; omega, HX.out, HD9, HS11⟩
          case measure => simp [intOf]; omega
set_option maxRecDepth 100000 in
theorem A2Edits_any (v u : Value) (l : List UInt8) (xs : List GRule) (w : World) (h : Sl ByteE w w.heap.size v l) (hG : Sl RuleE w w.heap.size u xs) (hg : gramOk xs = true) :
    Calls Tryz.prog 15 #[v, .agg #[u]] w fun r w' => ∃ vE es, r = .returned vE ∧ Sl EditE w' w'.heap.size vE es ∧ es.length ≤ 6 ∧ (∀ e ∈ es, DrE e) ∧ Below w.heap.size w w' := by
  have HL := Lib.hid h
  have HG := Lib.hid hG
  have HGG := Lib.hid hg
  obtain ⟨A, c, rfl, _⟩ := h
  obtain ⟨A', c', rfl, _⟩ := hG
  clear hg
  have ba := (Below.refl _ w).alloc (Nat.le_refl _) (.cells #[.slice A' xs.length c'] 30)
  have HC := Lib.hid (show C1 (w.alloc (.cells #[.slice A' xs.length c'] 30)) ⟨w.heap.size, 0, none⟩ (.slice A' xs.length c') from ⟨Blk.cell (i := 0) (Blk.new w _ _) rfl, by simp⟩)
  have HBA := Lib.hid ba
  clear ba
  go_enter Tryz.func15, Tryz.ntmps15
  go_wp2_with fail
  refine (from_any _ l _ (HL.out.up HBA.out)).mono ?_
  rintro r w1 ⟨b, rfl, hb, hs, hb1⟩
  have HB1 := Lib.hid (Below.tr HBA.out hb1)
  have HS1 := Lib.hid hs
  have HC1 := Lib.hid (HC.out.up hb1)
  have hbz : w.heap.size ≤ b := by simp at hb; omega
  have hz1 := HB1.out.size
  clear hs hb1 hb
  go_wp2_with fail
  refine (l07Some_any b 0 w.heap.size 0 6 _ xs _ HS1.out (by omega) HC1.out (HG.out.up HB1.out) HGG.out (by omega)).mono ?_
  rintro r w2 ⟨vE, es, c2, rfl, ho, h6, hd, hb2⟩
  obtain ⟨AE, cE, rfl⟩ := ho.form
  have HR := Lib.hid (show Sl EditE w2 w2.heap.size _ es ∧ es.length ≤ 6 ∧ (∀ e ∈ es, DrE e) ∧ Below w.heap.size w w2 from ⟨ho.sl, h6, hd, HB1.out.trans (hb2.below (B := w.heap.size) (by omega) (by omega))⟩)
  clear ho h6 hd hb2
  go_wp2_with fail
  go_ret
  exact ⟨_, es, rfl, HR.out.1, HR.out.2.1, HR.out.2.2.1, HR.out.2.2.2⟩
theorem drawnW {most : Int} {xs : List GRule} (h : DrawnOk most xs) (h1 : 1 ≤ most) (h2 : most ≤ 2000) : upV xs = wordG xs ∧ upC xs = 0 ∧ ((wordG xs).length : Int) = gramLen xs ∧ ((wordG xs).length : Int) ≤ most := by
  obtain ⟨hg, h0, hm, _⟩ := h
  obtain ⟨h4, ls, hl⟩ := gram_lens hg
  have hw := wordG_len hl
  have hgl := gramLen_of hl
  have := hm h1
  obtain ⟨k1, k2⟩ := up_ok hg (by omega)
  exact ⟨k1, k2, by omega, by omega⟩
set_option maxRecDepth 100000 in
theorem specValidGrammar_any (v : Value) (xs : List GRule) (w : World) (h : Sl RuleE w w.heap.size v xs) (hsm : SmallL xs) :
    Calls Tryz.prog 27 #[.agg #[v]] w fun e w' => e = .returned (.bool (gramOk xs)) ∧ Below w.heap.size w w' := by
  have HG := Lib.hid h
  obtain ⟨A, c, rfl, _⟩ := h
  have ba := (Below.refl _ w).alloc (Nat.le_refl _) (.cells #[.slice A xs.length c] 30)
  have HA := Lib.hid (HG.out.up ba)
  have KB := Blk.new w #[.slice A xs.length c] 30
  have cB := Blk.cell (i := 0) (v := .slice A xs.length c) KB rfl
  have lB := KB.lt
  have HBA := Lib.hid ba
  clear ba KB
  go_enter Tryz.func27, Tryz.ntmps27
  go_wp2_with fail
  refine (l02Ok_any w.heap.size 0 _ xs _ cB lB HA.out hsm).mono ?_
  rintro r w1 ⟨rfl, hb1⟩
  have HB := Lib.hid (Below.tr HBA.out hb1)
  go_wp2_with fail
  go_ret
  exact ⟨rfl, HB.out⟩
set_option maxRecDepth 100000 in
set_option maxHeartbeats 4000000 in
theorem implApplyEdits_any (vG vE : Value) (xs : List GRule) (es : List GEdit) (w : World) (hG : Sl RuleE w w.heap.size vG xs) (hE : Sl EditE w w.heap.size vE es) (hn : xs.length ≤ 1048576) (hs : ∀ e ∈ es, e.part.length ≤ 1048576 ∧ e.map.size ≤ maxLen) (htab : Lib.TabIs Tryz.prog w "math/bits.deBruijn64tab" .u8 deB64) :
    Calls Tryz.prog 19 #[.agg #[vG], vE] w (ARes (aesOut xs es) (aesN xs es) (aesCode xs es) w) := by
  have HG := Lib.hid hG
  have HE := Lib.hid hE
  have HS := Lib.hid hs
  have HT := Lib.hid htab
  clear htab
  obtain ⟨AG, cG, rfl, _⟩ := hG
  obtain ⟨AE, cE, rfl, hcE, hmE, _⟩ := hE
  unfold maxLen at hmE
  clear hs
  have b1 := (Below.refl w.heap.size w).alloc (Nat.le_refl _) (Obj.cells #[.slice AG xs.length cG] 30)
  have b2 := b1.alloc b1.size (Obj.cells #[.slice none 0 0] 30)
  have KP : Blk ((w.alloc (Obj.cells #[.slice AG xs.length cG] 30)).alloc (Obj.cells #[.slice none 0 0] 30)) w.heap.size #[.slice AG xs.length cG] 30 := (Blk.new w _ _).alloc _
  have KR : Blk ((w.alloc (Obj.cells #[.slice AG xs.length cG] 30)).alloc (Obj.cells #[.slice none 0 0] 30)) (w.heap.size + 1) #[.slice none 0 0] 30 := by
    have := (Blk.new (w.alloc (Obj.cells #[.slice AG xs.length cG] 30)) #[.slice none 0 0] 30)
    simpa [Blk] using this
  go_enter Tryz.func19, Tryz.ntmps19
  go_upto_region 1 with fail
  generalize ((w.alloc (Obj.cells #[.slice AG xs.length cG] 30)).alloc (Obj.cells #[.slice none 0 0] 30)) = w0 at *
  have KB := Lib.hid b2
  clear b1 b2
  have cP0_1 := Blk.cell (i := 0) (v := .slice AG xs.length cG) KP rfl
  have lP_2 := Blk.lt KP
  go_wp2_with fail
  refine (ValidGrammar_any _ xs _ (HG.out.up KB.out) (by omega)).mono ?_
  rintro e w1 ⟨rfl, hb_3⟩
  have z_w1 : w0.heap.size ≤ w1.heap.size := hb_3.size
  have KB_4 := Lib.hid (Below.tr KB.out hb_3)
  have KP_5 := Blk.up KP hb_3
  have KR_6 := Blk.up KR hb_3
  clear cP0_1 lP_2 KB KP KR
  cases hg : gramOk xs with
  | false =>
    have hc : aesCode xs es = 1 := by simp [aesCode, hg]
    have HQ := Lib.hid (show aesOut xs es = [] ∧ aesN xs es = 0 ∧ aesCode xs es = 1 by unfold aesOut aesN; rw [hc]; exact ⟨rfl, rfl, rfl⟩)
    clear hg hc
    have cR0_7 := Blk.cell (i := 0) (v := .slice none 0 0) KR_6 rfl
    have zR0_8 := Blk.frozen KR_6 0
    have lR_9 := Blk.lt KR_6
    go_wp2_with fail
    refine bodyPost_ret (v := .tuple #[.agg #[.slice none 0 0], .int .i64 0, .int .i64 1]) (by simp [results, Tryz.results19, go_sem, cR0_7]) rfl ⟨Below.setCell KB_4.out (show w.heap.size ≤ w.heap.size + 1 by omega) _, .slice none 0 0, by rw [HQ.out.1]; exact World.ownsRow_nil _ _ _ _, by rw [HQ.out.2.1, HQ.out.2.2]⟩
  | true =>
    have HGG := Lib.hid hg
    clear hg
    have cR0_10 := Blk.cell (i := 0) (v := .slice none 0 0) KR_6 rfl
    have lR_11 := Blk.lt KR_6
    go_wp2_with fail
    refine (areEdits_any _ es _ (HE.out.up KB_4.out) HS.out).mono ?_
    rintro e w2 ⟨rfl, hb_12⟩
    have z_w2 : w1.heap.size ≤ w2.heap.size := hb_12.size
    have KB_13 := Lib.hid (Below.tr KB_4.out hb_12)
    have KP_14 := Blk.up KP_5 hb_12
    have KR_15 := Blk.up KR_6 hb_12
    clear hb_3 cR0_10 lR_11 KB_4 KP_5 KR_6
    cases ha : es.all editOk with
    | false =>
      have hc : aesCode xs es = 1 := by simp [aesCode, ha]
      have HQ := Lib.hid (show aesOut xs es = [] ∧ aesN xs es = 0 ∧ aesCode xs es = 1 by unfold aesOut aesN; rw [hc]; exact ⟨rfl, rfl, rfl⟩)
      clear ha hc
      have cR0_16 := Blk.cell (i := 0) (v := .slice none 0 0) KR_15 rfl
      have zR0_17 := Blk.frozen KR_15 0
      have lR_18 := Blk.lt KR_15
      go_wp2_with fail
      refine bodyPost_ret (v := .tuple #[.agg #[.slice none 0 0], .int .i64 0, .int .i64 1]) (by simp [results, Tryz.results19, go_sem, cR0_16]) rfl ⟨Below.setCell KB_13.out (show w.heap.size ≤ w.heap.size + 1 by omega) _, .slice none 0 0, by rw [HQ.out.1]; exact World.ownsRow_nil _ _ _ _, by rw [HQ.out.2.1, HQ.out.2.2]⟩
    | true =>
      have HAA := Lib.hid ha
      clear ha
      by_cases hl : 60 < es.length
      · have hc : aesCode xs es = 2 := by unfold aesCode; rw [HGG.out, HAA.out, if_pos (by rfl), if_pos hl]
        have HQ := Lib.hid (show aesOut xs es = [] ∧ aesN xs es = 0 ∧ aesCode xs es = 2 by unfold aesOut aesN; rw [hc]; exact ⟨rfl, rfl, rfl⟩)
        have hli : (60 : Int) < (es.length : Int) := by omega
        clear hc
        have cR0_19 := Blk.cell (i := 0) (v := .slice none 0 0) KR_15 rfl
        have zR0_20 := Blk.frozen KR_15 0
        have lR_21 := Blk.lt KR_15
        go_wp2_with fail
        refine bodyPost_ret (v := .tuple #[.agg #[.slice none 0 0], .int .i64 0, .int .i64 2]) (by simp [results, Tryz.results19, go_sem, cR0_19]) rfl ⟨Below.setCell KB_13.out (show w.heap.size ≤ w.heap.size + 1 by omega) _, .slice none 0 0, by rw [HQ.out.1]; exact World.ownsRow_nil _ _ _ _, by rw [HQ.out.2.1, HQ.out.2.2]⟩
      · have hc : aesCode xs es = 0 := by unfold aesCode; rw [HGG.out, HAA.out, if_pos (by rfl), if_neg hl]
        have HQ := Lib.hid (show aesOut xs es = (foldE xs es).1 ∧ aesN xs es = (foldE xs es).2 ∧ aesCode xs es = 0 by unfold aesOut aesN; rw [hc]; exact ⟨rfl, rfl, rfl⟩)
        have hli : ¬ (60 : Int) < (es.length : Int) := by omega
        have hx4 := gram_len400 HGG.out
        clear hc
        have hs2 : w.heap.size + 2 ≤ w2.heap.size := Blk.lt KR_15
        have cR0_22 := Blk.cell (i := 0) (v := .slice none 0 0) KR_15 rfl
        have lR_23 := Blk.lt KR_15
        have cP0_24 := Blk.cell (i := 0) (v := .slice AG xs.length cG) KP_14 rfl
        have lP_25 := Blk.lt KP_14
        go_wp2_with fail
        refine (copied_any _ xs _ (HG.out.up KB_13.out) (by omega)).mono ?_
        rintro e w3 ⟨vN, rfl, ownN, hb_26⟩
        have z_w3 : w2.heap.size ≤ w3.heap.size := hb_26.size
        have KB_27 := Lib.hid (Below.tr KB_13.out hb_26)
        have KP_28 := Blk.up KP_14 hb_26
        have KR_29 := Blk.up KR_15 hb_26
        clear hb_12 cR0_22 lR_23 cP0_24 lP_25 KB_13 KP_14 KR_15
        obtain ⟨AN, cN, rfl, _⟩ := own_nil ownN
        have bZ := (Below.refl w3.heap.size w3).alloc (Nat.le_refl _) (Obj.cells #[.slice AN xs.length cN] 30)
        have KN := Blk.new w3 #[.slice AN xs.length cN] 30
        have KO := OwnRules.below ownN bZ
        have hsz := Below.size KB_27.out
        have lR := Blk.lt KR_29
        have lP := Blk.lt KP_28
        have KBZ := Lib.hid (Below.tr KB_27.out bZ)
        have KRZ := Lib.hid (Blk.up KR_29 bZ)
        have KOZ := Lib.hid KO
        have KNZ := Lib.hid KN
        clear ownN KO KN bZ
        go_wp2_with fail
        go_loopw [8, 32] (fun d i wx => ∃ (k : Nat) (A : Option Addr) (c : Nat), k ≤ es.length ∧ d = .int .i64 (foldE xs (es.take k)).2 ∧ i = .int .i64 k ∧ Hid (Blk wx w3.heap.size #[.slice A (foldE xs (es.take k)).1.length c] 30) ∧ Hid (Blk wx (w.heap.size + 1) #[.slice none 0 0] 30) ∧ Hid (OwnRules wx (w.heap.size + 2) (.slice A (foldE xs (es.take k)).1.length c) (foldE xs (es.take k)).1) ∧ Hid (Below w.heap.size w wx)) (fun _ i _ => es.length - (intOf i).toNat)
        case atStart => exact ⟨0, AN, cN, Nat.zero_le _, rfl, rfl, KNZ, KRZ, Lib.hid (ownsRow_more KOZ.out (by omega)), KBZ⟩
        case round =>
          obtain ⟨k, A, c, hk, rfl, rfl, HN, HR, HO, HB⟩ := hrel
          by_cases hlt : k < es.length
          · obtain ⟨_, _, hAE, _, _, hrow⟩ := HE.out.up HB.out
            injection hAE with hA1 hA2 hA3
            subst hA1 hA3
            obtain ⟨b, o, rfl, hbl, hcell⟩ := hrow.edit (fun _ h => h) hlt
            obtain ⟨e, he⟩ : ∃ e, es[k]? = some e := ⟨_, List.getElem?_eq_getElem hlt⟩
            obtain ⟨vR, hec, hR⟩ := hcell k e he
            have heok := List.all_eq_true.1 HAA.out e (List.mem_of_getElem? he)
            have HFT := Lib.hid (foldE_take (xs := xs) he)
            have hgo := foldE_ok (es.take k) HGG.out
            have hnum := foldE_num xs (es.take k)
            rw [List.length_take] at hnum
            obtain ⟨out, n, hon⟩ : ∃ out n, foldE xs (es.take k) = (out, n) := ⟨_, _, rfl⟩
            rw [hon] at HN HO HFT hgo hnum ⊢
            simp only at HN HO hgo hnum ⊢
            have HON := Lib.hid hon
            have HEC := Lib.hid hec
            have HRR := Lib.hid hR
            have HEO := Lib.hid heok
            have HGO := Lib.hid hgo
            have lN := HN.out.lt
            have lR2 := HR.out.lt
            have hbz := HB.out.size
            have hi : (k : Int) < (es.length : Int) := by omega
            have hse := HS.out e (List.mem_of_getElem? he)
            have ho4 := gram_len400 hgo
            obtain ⟨AR, cR, rfl, _⟩ := hR
            obtain ⟨x0, x1, x2, x3, x4, x5, xl⟩ := HEC.out
            have xN := HN.out.cell (i := 0) (v := .slice A out.length c) rfl
            clear hcell he hec heok hgo hon
            go_wp2_with fail
            refine (implApply_any _ _ out e _ (HO.out.sl.up (by repeat (first | exact Below.refl _ _ | (refine Below.alloc ?_ (by first | omega | (simp; done) | (simp; omega)) _) | (refine Below.setCell ?_ (by first | exact Nat.le_refl _ | (show _ ≤ _; omega) | (simp; done) | (simp; omega)) _) | refine below_drewN ?_ _ | refine Below.drew ?_))) ⟨_, rfl, HRR.out.up (by repeat (first | exact Below.refl _ _ | (refine Below.alloc ?_ (by first | omega | (simp; done) | (simp; omega)) _) | (refine Below.setCell ?_ (by first | exact Nat.le_refl _ | (show _ ≤ _; omega) | (simp; done) | (simp; omega)) _) | refine below_drewN ?_ _ | refine Below.drew ?_))⟩ (by omega) hse.1 hse.2 (tabB HT.out (by repeat (first | exact HB.out | (refine Below.alloc ?_ (by first | omega | (simp; done) | (simp; omega)) _) | (refine Below.setCell ?_ (by first | exact Nat.le_refl _ | (show _ ≤ _; omega) | (simp; done) | (simp; omega)) _) | refine below_drewN ?_ _ | refine Below.drew ?_)))).mono ?_
            rintro r w4 ⟨hb4', v4, own4', rfl⟩
            have hb4 := (Below.unalloc hb4').1
            have own4 : OwnRules w4 wr.heap.size v4 (applyOut out e) := ownsRow_more own4' (by simp)
            clear hb4' own4' x0 x1 x2 x3 x4 x5 xl xN
            obtain ⟨A4, c4, rfl, _⟩ := own_nil own4
            have HN4 := Lib.hid (HN.out.up hb4)
            have HR4 := Lib.hid (HR.out.up hb4)
            have HB4 := Lib.hid (Below.tr HB.out hb4)
            have HO4 := Lib.hid own4
            have bZ := hb4.alloc hb4.size (Obj.cells #[.slice A4 (applyOut out e).length c4] 30)
            have HN5 := Lib.hid (HN.out.up bZ)
            have HR5 := Lib.hid (HR.out.up bZ)
            have HO5 := Lib.hid (OwnRules.below HO.out bZ)
            have HB5 := Lib.hid (Below.tr HB.out bZ)
            have z4 := hb4.size
            clear hb4 own4 bZ HN HR HO
            by_cases hc : applyCode out e = 0
            · have HFT2 := Lib.hid (show foldE xs (es.take (k + 1)) = (applyOut out e, n + 1) by rw [HFT.out]; unfold stepE; rw [if_pos hc])
              rw [hc]
              clear hc
              have ws : IntKind.i64.wrap (n + 1) = n + 1 := IntWalk.i64_in _ (by omega)
              have xN := HN5.out.cell (i := 0) (v := .slice A out.length c) rfl
              have fN := HN5.out.frozen 0
              have lN5 : w3.heap.size < w4.heap.size := by omega
              go_wp2_with fail
              go_roundw
              case rel =>
                refine ⟨k + 1, A4, c4, by omega, by rw [HFT2.out], by go_num, ?_, ?_, ?_, ?_⟩
                · rw [HFT2.out]; exact Lib.hid ((HN4.out.set 0 _).alloc _)
                · exact Lib.hid ((HR4.out.other (p := ⟨w3.heap.size, 0, none⟩) (by show w.heap.size + 1 ≠ w3.heap.size; omega) _).alloc _)
                · rw [HFT2.out]; exact Lib.hid (World.ownsRow.alloc (ownsRow_more (ownsRow_setCell_below HO4.out (a := ⟨w3.heap.size, 0, none⟩) lN _) (by omega)) _)
                · exact Lib.hid ((Below.setCell HB4.out (by show w.heap.size ≤ w3.heap.size; omega) _).alloc (by show w.heap.size ≤ _; have := HB4.out.size; simp [World.setCell]; omega) _)
              case measure => simp [intOf]; omega
            · have HFT2 := Lib.hid (show foldE xs (es.take (k + 1)) = (out, n) by rw [HFT.out]; unfold stepE; rw [if_neg hc])
              have hcb : (applyCode out e == 0) = false := by simp [hc]
              go_wp2_with fail
              go_roundw
              case rel => exact ⟨k + 1, A, c, by omega, by rw [HFT2.out], by go_num, by rw [HFT2.out]; exact HN5, HR5, by rw [HFT2.out]; exact HO5, HB5⟩
              case measure => simp [intOf]; omega
          · have hkn : k = es.length := by omega
            subst hkn
            rw [List.take_length] at HN HO ⊢
            have xN := HN.out.cell (i := 0) (v := .slice A (foldE xs es).1.length c) rfl
            have lN := HN.out.lt
            have xR := HR.out.cell (i := 0) (v := .slice none 0 0) rfl
            have fR := HR.out.frozen 0
            have lR2 := HR.out.lt
            go_wp2_with fail
            refine bodyPost_ret (v := .tuple #[.agg #[.slice A (foldE xs es).1.length c], .int .i64 (foldE xs es).2, .int .i64 0]) (by simp [results, Tryz.results19, go_sem, xR]) rfl ⟨Below.setCell HB.out (by show w.heap.size ≤ w.heap.size + 1; omega) _, .slice A (foldE xs es).1.length c, ?_, by rw [HQ.out.2.1, HQ.out.2.2]⟩
            rw [HQ.out.1]
            exact ownsRow_more (ownsRow_setCell_below HO.out (a := ⟨w.heap.size + 1, 0, none⟩) (by show w.heap.size + 1 < w.heap.size + 2; omega) _) (by omega)
end Go.Proofs.YtbifijlenbibmaaGreatDoor
