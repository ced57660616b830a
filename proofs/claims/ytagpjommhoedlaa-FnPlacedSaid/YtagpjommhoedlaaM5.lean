import Derived.Test.YtagpjommhoedlaaM4
import Derived.Test.YtagpjommhoedlaaM3
import Derived.Test.YtagpjommhoedlaaM2
namespace Go.Proofs.Ytagpjommhoedlaa
open Go.RowKit

/-- What is drawn: a right edit, whose rules are not the source's. -/
def DrEPost (b N : Nat) (w : World) (r : Ending) (w' : World) : Prop :=
  ∃ v vR e, r = .returned v ∧ v = .agg #[.int .i64 e.kind, .int .i64 e.i, .int .i64 e.j, .int .i64 e.k, vR, .string e.map] ∧ SlS RuleE w' (fun k => k ≠ b ∧ w.heap.size < k ∧ k < w'.heap.size) vR e.part ∧ e.part.length ≤ 14 ∧ SmallL e.part ∧ editOk e = true ∧ e.map.size ≤ 4 ∧ Src w' b (N + 240) ∧ But b w w'
theorem drok1 {i : Int} {xs : List GRule} (h : 0 ≤ i ∧ i ≤ 1000000000000000) (hg : gramOk xs = true) (hl : 0 < xs.length) : editOk ⟨1, i, 0, 0, xs, ⟨#[]⟩⟩ = true := by
  have : (⟨#[]⟩ : ByteArray).size = 0 := rfl
  simp [editOk, inR, numOk, usesJ, usesK, hg, hl, h.1, h.2, this]
theorem drok2 {k i j : Int} (hk : k = 2 ∨ k = 5) (h : 0 ≤ i ∧ i ≤ j ∧ j ≤ 1000000000000000) : editOk ⟨k, i, j, 0, [], ⟨#[]⟩⟩ = true := by
  have : (⟨#[]⟩ : ByteArray).size = 0 := rfl
  have g0 : gramOk [] = true := rfl
  rcases hk with rfl | rfl <;> simp [editOk, inR, numOk, usesJ, usesK, g0, this] <;> omega
theorem drok3 {k i j q : Int} (hk : k = 3 ∨ k = 4 ∨ k = 6) (h : 0 ≤ i ∧ i ≤ j ∧ j ≤ 1000000000000000) (hq : 0 ≤ q ∧ q ≤ 1000000000000000) : editOk ⟨k, i, j, q, [], ⟨#[]⟩⟩ = true := by
  have : (⟨#[]⟩ : ByteArray).size = 0 := rfl
  have g0 : gramOk [] = true := rfl
  rcases hk with rfl | rfl | rfl <;> simp [editOk, inR, numOk, usesJ, usesK, g0, this] <;> omega
theorem drok7 {i j : Int} {m : ByteArray} (h : 0 ≤ i ∧ i ≤ j ∧ j ≤ 1000000000000000) (hm : m.size = 4) (hw : wordOk m = true) : editOk ⟨7, i, j, 0, [], m⟩ = true := by
  have g0 : gramOk [] = true := rfl
  simp [editOk, inR, numOk, usesJ, usesK, g0, hm, hw] <;> omega
theorem lit_ints {W : World} {b N : Nat} (l : List Int) (hb : b < W.heap.size) (hN : N = W.heap.size) (hl : l.length ≤ 1000) :
    SlS IntE (W.alloc (.cells (l.map (Value.int .i64)).toArray 2)) (fun k => k ≠ b ∧ k < (W.alloc (.cells (l.map (Value.int .i64)).toArray 2)).heap.size) (.slice (some ⟨N, 0, none⟩) l.length l.length) l := by
  subst hN
  have h : OwnInts (W.alloc (.cells (l.map (Value.int .i64)).toArray 2)) W.heap.size (.slice (some ⟨W.heap.size, 0, none⟩) l.length l.length) l := by
    have := World.ownsRow_lit W (l.map (Value.int .i64)).toArray l.length (Nat.le_refl _) (by simp only [maxLen]; omega) (e := 2) (size := 1) (by simp)
    simpa [OwnInts] using this
  exact h.slS fun g hg => by simp [Value.ownBlock] at hg; subst hg; exact ⟨by omega, by simp⟩
theorem lit_strs {W : World} {b N : Nat} (l : List ByteArray) (hb : b < W.heap.size) (hN : N = W.heap.size) (hl : l.length ≤ 1000) :
    SlS StrE (W.alloc (.cells (l.map Value.string).toArray 9)) (fun k => k ≠ b ∧ k < (W.alloc (.cells (l.map Value.string).toArray 9)).heap.size) (.slice (some ⟨N, 0, none⟩) l.length l.length) l := by
  subst hN
  have h := World.ownsRow_lit W (l.map Value.string).toArray l.length (Nat.le_refl _) (by simp only [maxLen]; omega) (e := 9) (size := 1) (by simp)
  refine ⟨_, _, rfl, Nat.le_refl _, by simp only [maxLen]; omega, Row.of_own (E := StrE) h rfl (fun g hg => by simp [Value.ownBlock] at hg; subst hg; exact ⟨by omega, by simp⟩) fun k x hx => ⟨[.string x], rfl, fun j u hu => ?_⟩⟩
  cases j with
  | zero => simp at hu; subst hu; simp [StrE, hx]
  | succ j => simp at hu
def mapTexts : List ByteArray := [⟨#[98, 97, 99, 100]⟩, ⟨#[97, 97, 97, 97]⟩, ⟨#[98, 99, 100, 97]⟩, ⟨#[97, 98, 99, 100]⟩, ⟨#[100, 99, 98, 97]⟩]
theorem mapTexts_ok : ∀ m ∈ mapTexts, m.size = 4 ∧ wordOk m = true := by decide
/-- The state of the drawing of an edit. -/
structure EdSt (w : World) (b M E : Nat) (wx : World) (k i j q : Int) (vP : Value) (xs : List GRule) (m : ByteArray) : Prop where
  src : Src wx b M
  but : But b w wx
  box : Blk wx w.heap.size (#[.int .i64 0, .int .i64 0, .int .i64 0, .int .i64 0, .slice none 0 0, .string ⟨#[]⟩] : Array Value) 30
  blk : Blk wx E #[.int .i64 k, .int .i64 i, .int .i64 j, .int .i64 q, vP, .string m] 30
  part : SlS RuleE wx (fun k => k ≠ b ∧ k ≠ E ∧ w.heap.size < k ∧ k < wx.heap.size) vP xs
section
variable {w wx w' : World} {b M M' E : Nat} {k i j q : Int} {vP : Value} {xs : List GRule} {m : ByteArray}
theorem EdSt.pick (h : EdSt w b M E wx k i j q vP xs m) (hb : But b wx w') (hs : Src w' b M') (hlt : b < w.heap.size) (hE : w.heap.size < E) : EdSt w b M' E w' k i j q vP xs m :=
  ⟨hs, h.but.trans hb, h.box.but hb (by omega), h.blk.but hb (by omega), (h.part.keep fun k hk => hb.block k hk.2.2.2 hk.1).more fun k hk => ⟨hk.1, hk.2.1, hk.2.2.1, Nat.lt_of_lt_of_le hk.2.2.2 hb.size⟩⟩
theorem EdSt.up (h : EdSt w b M E wx k i j q vP xs m) (hb : Below wx.heap.size wx w') (hlt : b < w.heap.size) (hE : w.heap.size < E) : EdSt w b M E w' k i j q vP xs m := h.pick (But.of hb) (h.src.keep hb) hlt hE
theorem EdSt.more (h : EdSt w b M E wx k i j q vP xs m) (hM : M ≤ M') : EdSt w b M' E wx k i j q vP xs m := ⟨h.src.more hM, h.but, h.box, h.blk, h.part⟩
theorem EdSt.put (h : EdSt w b M E wx k i j q vP xs m) (hlt : b < w.heap.size) (hE : w.heap.size < E) (o : Nat) (v : Value) {k' i' j' q' : Int} {vP' : Value} {xs' : List GRule} {m' : ByteArray}
    (hp : SlS RuleE wx (fun k => k ≠ b ∧ k ≠ E ∧ w.heap.size < k ∧ k < wx.heap.size) vP' xs')
    (ha : (#[.int .i64 k, .int .i64 i, .int .i64 j, .int .i64 q, vP, .string m] : Array Value).setIfInBounds o v = #[.int .i64 k', .int .i64 i', .int .i64 j', .int .i64 q', vP', .string m']) : EdSt w b M E (wx.setCell ⟨E, o, none⟩ v) k' i' j' q' vP' xs' m' := by
  have hb : Below E wx (wx.setCell ⟨E, o, none⟩ v) := (Below.refl _ _).setCell (p := ⟨E, o, none⟩) (Nat.le_refl _) _
  refine ⟨h.src.keepB hb (by omega), h.but.up hb (by omega), h.box.other (p := ⟨E, o, none⟩) (by show w.heap.size ≠ E; omega) v, ?_, ?_⟩
  · have := h.blk.set o v
    rw [ha] at this; exact this
  · exact (hp.keep fun k hk => Below.heap_setCell wx ⟨E, o, none⟩ v k hk.2.1).more fun k hk => ⟨hk.1, hk.2.1, hk.2.2.1, Nat.lt_of_lt_of_le hk.2.2.2 hb.size⟩
theorem EdSt.fin (h : EdSt w b M E wx k i j q vP xs m) (hlt : b < w.heap.size) (v0 v1 v2 v3 v4 v5 : Value) :
    let W := (((((wx.setCell ⟨w.heap.size, 0, none⟩ v0).setCell ⟨w.heap.size, 1, none⟩ v1).setCell ⟨w.heap.size, 2, none⟩ v2).setCell ⟨w.heap.size, 3, none⟩ v3).setCell ⟨w.heap.size, 4, none⟩ v4).setCell ⟨w.heap.size, 5, none⟩ v5
    SlS RuleE W (fun k => k ≠ b ∧ w.heap.size < k ∧ k < W.heap.size) vP xs ∧ Src W b M ∧ But b w W ∧ Blk W w.heap.size #[v0, v1, v2, v3, v4, v5] 30 := by
  intro W
  have hb : Below w.heap.size wx W := ((((((Below.refl _ wx).setCell (p := ⟨w.heap.size, 0, none⟩) (Nat.le_refl _) v0).setCell (p := ⟨w.heap.size, 1, none⟩) (Nat.le_refl _) v1).setCell (p := ⟨w.heap.size, 2, none⟩) (Nat.le_refl _) v2).setCell (p := ⟨w.heap.size, 3, none⟩) (Nat.le_refl _) v3).setCell (p := ⟨w.heap.size, 4, none⟩) (Nat.le_refl _) v4).setCell (p := ⟨w.heap.size, 5, none⟩) (Nat.le_refl _) v5
  have hk : ∀ k, k ≠ w.heap.size → W.heap[k]? = wx.heap[k]? := fun k hk =>
    (Below.heap_setCell _ ⟨w.heap.size, 5, none⟩ v5 k hk).trans ((Below.heap_setCell _ ⟨w.heap.size, 4, none⟩ v4 k hk).trans ((Below.heap_setCell _ ⟨w.heap.size, 3, none⟩ v3 k hk).trans ((Below.heap_setCell _ ⟨w.heap.size, 2, none⟩ v2 k hk).trans ((Below.heap_setCell _ ⟨w.heap.size, 1, none⟩ v1 k hk).trans (Below.heap_setCell _ ⟨w.heap.size, 0, none⟩ v0 k hk)))))
  exact ⟨(h.part.keep fun k hx => hk k (Nat.ne_of_gt hx.2.2.1)).more fun k hx => ⟨hx.1, hx.2.2.1, Nat.lt_of_lt_of_le hx.2.2.2 hb.size⟩, h.src.keepB hb hlt, h.but.up hb (Nat.le_refl _), (((((h.box.set 0 v0).set 1 v1).set 2 v2).set 3 v3).set 4 v4).set 5 v5⟩
end
def JOk (k : Int) (y j n : Nat) : Prop := (usesJ k = false ∧ j = 0) ∨ (usesJ k = true ∧ y ≤ j ∧ j ≤ n)
def KOk (k q : Int) : Prop := (usesK k = false ∧ q = 0) ∨ (usesK k = true ∧ 0 ≤ q ∧ q ≤ 1000000000000000)
def POk (k : Int) (xs : List GRule) : Prop := (k ≠ 1 ∧ xs = []) ∨ (k = 1 ∧ gramOk xs = true ∧ 0 < xs.length ∧ SmallL xs ∧ xs.length ≤ 14)
def MOk (k : Int) (m : ByteArray) : Prop := (k ≠ 7 ∧ m = ⟨#[]⟩) ∨ (k = 7 ∧ m ∈ mapTexts)
theorem dr_ok {k q : Int} {y j n : Nat} {xs : List GRule} {m : ByteArray} (hk7 : inR k 1 7 = true) (hn : n ≤ 1000000000) (hy : y ≤ n) (hj : JOk k y j n) (hq : KOk k q) (hx : POk k xs) (hm : MOk k m) :
    editOk ⟨k, y, j, q, xs, m⟩ = true ∧ m.size ≤ 4 ∧ xs.length ≤ 14 ∧ SmallL xs := by
  have nS : SmallL [] := fun r hr => absurd hr (by simp)
  have s0 : (⟨#[]⟩ : ByteArray).size ≤ 4 := by decide
  rcases kind7 hk7 with rfl | rfl | rfl | rfl | rfl | rfl | rfl <;> simp [JOk, KOk, POk, MOk, usesJ, usesK] at hj hq hx hm
  · subst hj hq hm
    exact ⟨drok1 ⟨by omega, by omega⟩ hx.1 hx.2.1, s0, hx.2.2.2, hx.2.2.1⟩
  · subst hq hm hx
    exact ⟨drok2 (.inl rfl) ⟨by omega, by omega, by omega⟩, s0, by simp, nS⟩
  · subst hm hx
    exact ⟨drok3 (.inl rfl) ⟨by omega, by omega, by omega⟩ hq, s0, by simp, nS⟩
  · subst hm hx
    exact ⟨drok3 (.inr (.inl rfl)) ⟨by omega, by omega, by omega⟩ hq, s0, by simp, nS⟩
  · subst hq hm hx
    exact ⟨drok2 (.inr rfl) ⟨by omega, by omega, by omega⟩, s0, by simp, nS⟩
  · subst hm hx
    exact ⟨drok3 (.inr (.inr rfl)) ⟨by omega, by omega, by omega⟩ hq, s0, by simp, nS⟩
  · subst hq hx
    have h4 := mapTexts_ok _ hm
    exact ⟨drok7 ⟨by omega, by omega, by omega⟩ h4.1 h4.2, by omega, by simp, nS⟩
set_option maxRecDepth 100000 in
set_option maxHeartbeats 8000000 in
theorem l07Drawn_any (b N : Nat) (n : Int) (w : World) (h : Src w b N) (hN : N ≤ 700000) (hn : 0 ≤ n ∧ n ≤ 1000000000) :
    Calls Try.prog 45 #[.pointer (some ⟨b, 0, none⟩), .int .i64 n] w (DrEPost b N w) := by
  have hlt := h.lt
  have HS := Lib.hid h
  clear h
  obtain ⟨n, rfl⟩ := Int.eq_ofNat_of_zero_le hn.1
  have hn9 : n ≤ 1000000000 := by omega
  clear hn
  have wn : IntKind.i64.wrap ((n : Int) + 1) = (n : Int) + 1 := IntWalk.i64_in _ (by omega)
  have HS0 := Lib.hid (HS.out.keep ((Below.refl _ w).alloc (Nat.le_refl _) (.cells #[.int .i64 0, .int .i64 0, .int .i64 0, .int .i64 0, .slice none 0 0, .string ⟨#[]⟩] 30)))
  go_enter Try.func45, Try.ntmps45
  go_wp2_with fail
  refine (pick_any b N 7 _ HS0.out (by omega)).mono ?_
  rintro r w1 ⟨x, rfl, hx, _, hs1, hb1⟩
  have HR1 := Lib.hid (Blk.but (Blk.new w (#[.int .i64 0, .int .i64 0, .int .i64 0, .int .i64 0, .slice none 0 0, .string ⟨#[]⟩] : Array Value) 30) hb1 (by omega))
  have HB1 := Lib.hid ((But.of ((Below.refl _ w).alloc (Nat.le_refl _) (.cells #[.int .i64 0, .int .i64 0, .int .i64 0, .int .i64 0, .slice none 0 0, .string ⟨#[]⟩] 30))).trans hb1)
  have z1 : w.heap.size < w1.heap.size := HR1.out.lt
  have hx6 : x ≤ 6 := by omega
  have wk : IntKind.i64.wrap (1 + (x : Int)) = 1 + (x : Int) := IntWalk.i64_in _ (by omega)
  have HS1 := Lib.hid hs1
  clear hs1 hb1 hx HS0 HS
  go_wp2_with fail
  have ba := (Below.refl _ w1).alloc (Nat.le_refl _) (.cells #[.int .i64 (1 + (x : Int)), .int .i64 0, .int .i64 0, .int .i64 0, .slice none 0 0, .string ⟨#[]⟩] 30)
  have st0 : EdSt w b (N + 2) w1.heap.size (w1.alloc (.cells #[.int .i64 (1 + (x : Int)), .int .i64 0, .int .i64 0, .int .i64 0, .slice none 0 0, .string ⟨#[]⟩] 30)) (1 + (x : Int)) 0 0 0 (.slice none 0 0) [] ⟨#[]⟩ :=
    ⟨HS1.out.keep ba, HB1.out.tr ba, HR1.out.alloc _, Blk.new _ _ _, SlS.nil _ _⟩
  refine (pick_any b (N + 2) ((n : Int) + 1) _ st0.src (by omega)).mono ?_
  rintro r w2 ⟨y, rfl, hy, _, hs2, hb2⟩
  have st2 := st0.pick hb2 hs2 hlt z1
  have hyn : y ≤ n := by omega
  obtain ⟨k, hk⟩ : ∃ k : Int, 1 + (x : Int) = k := ⟨_, rfl⟩
  obtain ⟨E, hE⟩ : ∃ E, w1.heap.size = E := ⟨_, rfl⟩
  have hk7 : inR k 1 7 = true := by rw [← hk]; simp [inR]; omega
  rw [hk, hE] at st2
  rw [hE] at z1
  rw [hk, hE]
  clear st0 ba HS1 HR1 HB1 hs2 hb2 hy wk
  have fz := Blk.frozen st2.blk 1
  have ce := Blk.cell (i := 1) (v := .int .i64 0) st2.blk rfl
  have cK := Blk.cell (i := 0) (v := .int .i64 k) st2.blk rfl
  have St2 := Lib.hid st2
  clear st2
  go_wp2_with fail
  have st3 := St2.out.put hlt z1 1 (.int .i64 (y : Int)) St2.out.part rfl
  refine (l07Uses_any k _ hk7).mono ?_
  rintro r w3 ⟨rfl, hb3⟩
  have st4 := st3.up hb3 hlt z1
  clear st3 St2 hb3 fz ce cK
  obtain ⟨uJ, uK, uP, uM, uS⟩ := uses_has hk7
  obtain ⟨S, hS⟩ : ∃ S, usesS k = S := ⟨_, rfl⟩
  rw [hS] at uJ uK uP uM uS
  rw [hS]
  have hSm : S.size ≤ maxLen := by simp only [maxLen]; omega
  have CJ := l07Has_lit S 74 74 _ hSm rfl uJ
  have CK := l07Has_lit S 75 75 _ hSm rfl uK
  have CP := l07Has_lit S 80 80 _ hSm rfl uP
  have CM := l07Has_lit S 77 77 _ hSm rfl uM
  clear hS uJ uK uP uM uS hk hE
  have St4 := Lib.hid st4
  clear st4
  go_upto_if 20 with (first
    | (go_at_call 101; refine (CJ.out _).mono ?_; rintro r wh ⟨rfl, rfl⟩))
  go_cut [] (fun wx => ∃ j : Nat, JOk k y j n ∧ EdSt w b (N + 14) E wx k y j 0 (.slice none 0 0) [] ⟨#[]⟩)
  case first =>
    cases hJ : usesJ k with
    | false =>
      go_wp2
      go_meet
      exact ⟨0, .inl ⟨hJ, rfl⟩, St4.out.more (by omega)⟩
    | true =>
      have wj1 : IntKind.i64.wrap ((n : Int) - y) = ((n - y : Nat) : Int) := by rw [IntWalk.i64_in _ (by omega)]; omega
      have wj2 : IntKind.i64.wrap (((n - y : Nat) : Int) + 1) = ((n - y : Nat) : Int) + 1 := IntWalk.i64_in _ (by omega)
      have ce := Blk.cell (i := 1) (v := .int .i64 (y : Int)) St4.out.blk rfl
      have ced : w3.drew.cell? ⟨E, 1, none⟩ = some (.int .i64 (y : Int)) := ce
      have St5 := Lib.hid (fun (w5 : World) (M : Nat) (hb : But b w3 w5) (hs : Src w5 b M) => St4.out.pick hb hs hlt z1)
      go_upto_region 5 with fail
      go_region_held3 (fun w' => w'.cell? ⟨E, 1, none⟩ = some (.int .i64 (y : Int)))
        (first | (with_reducible exact ced) | (with_reducible exact ce) | (with_reducible exact ce5) | (with_reducible exact (ce6 _)))
        (first
          | (go_at_call 81; refine (pick_any b (N + 4) (((n - y : Nat) : Int) + 1) _ (St4.out.src.keep (by repeat (first | exact Below.refl _ _ | (refine Below.alloc ?_ (by first | omega | (simp; done) | (simp; omega)) _) | (refine Below.setCell ?_ (by first | exact Nat.le_refl _ | (show _ ≤ _; omega) | (simp; done) | (simp; omega)) _) | refine below_drewN ?_ _ | refine Below.drew ?_))) (by omega)).mono ?_; rintro r w5 ⟨z, rfl, hz, _, hs5, hb5⟩; have st5 := St5.out _ _ (But.trans (But.of (by repeat (first | exact Below.refl _ _ | (refine Below.alloc ?_ (by first | omega | (simp; done) | (simp; omega)) _) | (refine Below.setCell ?_ (by first | exact Nat.le_refl _ | (show _ ≤ _; omega) | (simp; done) | (simp; omega)) _) | refine below_drewN ?_ _ | refine Below.drew ?_))) hb5) hs5; have ce5 := Blk.cell (i := 1) (v := .int .i64 (y : Int)) st5.blk rfl; have fz5 := Blk.frozen st5.blk 2; have cj5 := Blk.cell (i := 2) (v := .int .i64 0) st5.blk rfl; have ce6 := fun v => Blk.cell (i := 1) (v := .int .i64 (y : Int)) (st5.blk.set 2 v) rfl; have wj3 : IntKind.i64.wrap ((y : Int) + z) = ((y + z : Nat) : Int) := (by rw [IntWalk.i64_in _ (by omega)]; omega)))
      go_wp2_with fail
      have St6 := Lib.hid (st5.put hlt z1 2 (.int .i64 ((y + z : Nat) : Int)) st5.part rfl)
      have wj4 : IntKind.i64.wrap (((y + z : Nat) : Int) - y) = (z : Int) := by rw [IntWalk.i64_in _ (by omega)]; omega
      refine (one_any b _ 3 _ St6.out.src (by omega)).mono ?_
      rintro r w7 ⟨t, rfl, hs7, hb7⟩
      have st7 := St6.out.pick hb7 hs7 hlt z1
      clear hs7 hb7 St6 st5 ce5 fz5 cj5 ce6 St5 ce ced hs5 hb5
      have c1 := Blk.cell (i := 1) (v := .int .i64 (y : Int)) st7.blk rfl
      have c2 := Blk.cell (i := 2) (v := .int .i64 ((y + z : Nat) : Int)) st7.blk rfl
      have f2 := Blk.frozen st7.blk 2
      have St7 := Lib.hid st7
      clear st7
      cases t with
      | false =>
        go_wp2_with fail
        go_meet
        exact ⟨y + z, .inr ⟨hJ, by omega, by omega⟩, St7.out.more (by omega)⟩
      | true =>
        by_cases h5 : (5 : Int) < (z : Int)
        · have c1d : w7.drew.cell? ⟨E, 1, none⟩ = some (.int .i64 (y : Int)) := c1
          have St8 := Lib.hid (fun (w5 : World) (M : Nat) (hb : But b w7 w5) (hs : Src w5 b M) => St7.out.pick hb hs hlt z1)
          go_upto_region 7 with fail
          go_region_held3 (fun w' => w'.cell? ⟨E, 1, none⟩ = some (.int .i64 (y : Int)))
            (first | (with_reducible exact c1d) | (with_reducible exact c1) | (with_reducible exact ce5) | (with_reducible exact (ce6 _)))
            (first
              | (go_at_call 81; refine (pick_any b (N + 8) 6 _ (St7.out.src.keep (by repeat (first | exact Below.refl _ _ | (refine Below.alloc ?_ (by first | omega | (simp; done) | (simp; omega)) _) | (refine Below.setCell ?_ (by first | exact Nat.le_refl _ | (show _ ≤ _; omega) | (simp; done) | (simp; omega)) _) | refine below_drewN ?_ _ | refine Below.drew ?_))) (by omega)).mono ?_; rintro r w8 ⟨u, rfl, hu, _, hs5, hb5⟩; have st5 := St8.out _ _ (But.trans (But.of (by repeat (first | exact Below.refl _ _ | (refine Below.alloc ?_ (by first | omega | (simp; done) | (simp; omega)) _) | (refine Below.setCell ?_ (by first | exact Nat.le_refl _ | (show _ ≤ _; omega) | (simp; done) | (simp; omega)) _) | refine below_drewN ?_ _ | refine Below.drew ?_))) hb5) hs5; have ce5 := Blk.cell (i := 1) (v := .int .i64 (y : Int)) st5.blk rfl; have fz5 := Blk.frozen st5.blk 2; have cj5 := Blk.cell (i := 2) (v := .int .i64 ((y + z : Nat) : Int)) st5.blk rfl; have ce6 := fun v => Blk.cell (i := 1) (v := .int .i64 (y : Int)) (st5.blk.set 2 v) rfl; have wj3 : IntKind.i64.wrap ((y : Int) + u) = ((y + u : Nat) : Int) := (by rw [IntWalk.i64_in _ (by omega)]; omega)))
          go_wp2_with fail
          go_meet
          exact ⟨y + u, .inr ⟨hJ, by omega, by omega⟩, (st5.put hlt z1 2 (.int .i64 ((y + u : Nat) : Int)) st5.part rfl).more (by omega)⟩
        · go_wp2_with fail
          go_meet
          exact ⟨y + z, .inr ⟨hJ, by omega, by omega⟩, St7.out.more (by omega)⟩
  case rest =>
    obtain ⟨j, hj, st8⟩ := hcut
    have St8 := Lib.hid st8
    clear st8 St4 CJ
    go_upto_if 49 with (first
      | (go_at_call 101; refine (CK.out _).mono ?_; rintro r wh ⟨rfl, rfl⟩))
    go_cut [] (fun wx => ∃ q : Int, KOk k q ∧ EdSt w b (N + 28) E wx k y j q (.slice none 0 0) [] ⟨#[]⟩)
    case first =>
      cases hK : usesK k with
      | false =>
        go_wp2_with fail
        go_meet
        exact ⟨0, .inl ⟨hK, rfl⟩, St8.out.more (by omega)⟩
      | true =>
        go_wp2_with fail
        refine (pick_any b _ ((n : Int) + 1) _ St8.out.src (by omega)).mono ?_
        rintro r w9 ⟨κ, rfl, hκ, _, hs9, hb9⟩
        have st9 := St8.out.pick hb9 hs9 hlt z1
        have hκn : κ ≤ n := by omega
        have hjn : j ≤ n := by rcases hj with hj | hj <;> omega
        clear hs9 hb9 St8 hκ
        have c3 := Blk.cell (i := 3) (v := .int .i64 0) st9.blk rfl
        have f3 := Blk.frozen st9.blk 3
        have c0 := Blk.cell (i := 0) (v := .int .i64 k) st9.blk rfl
        have St9 := Lib.hid (st9.put hlt z1 3 (.int .i64 (κ : Int)) st9.part rfl)
        have d0 := Blk.cell (i := 0) (v := .int .i64 k) St9.out.blk rfl
        have d1 := Blk.cell (i := 1) (v := .int .i64 (y : Int)) St9.out.blk rfl
        have d2 := Blk.cell (i := 2) (v := .int .i64 (j : Int)) St9.out.blk rfl
        have d3 := Blk.cell (i := 3) (v := .int .i64 (κ : Int)) St9.out.blk rfl
        have e3 := Blk.frozen St9.out.blk 3
        clear st9
        have hk3 : k = 3 ∨ k = 4 ∨ k = 6 := by
          simp only [usesK, Bool.or_eq_true, beq_iff_eq] at hK
          omega
        rcases hk3 with rfl | rfl | rfl
        · go_wp2_with fail
          go_meet
          exact ⟨κ, .inr ⟨hK, by omega, by omega⟩, St9.out.more (by omega)⟩
        · by_cases k1 : (y : Int) < (κ : Int)
          · by_cases k2 : (κ : Int) < (j : Int)
            · go_wp2_with fail
              go_meet
              exact ⟨j, .inr ⟨hK, by omega, by omega⟩, (St9.out.put hlt z1 3 (.int .i64 (j : Int)) St9.out.part rfl).more (by omega)⟩
            · go_wp2_with fail
              go_meet
              exact ⟨κ, .inr ⟨hK, by omega, by omega⟩, St9.out.more (by omega)⟩
          · go_wp2_with fail
            go_meet
            exact ⟨κ, .inr ⟨hK, by omega, by omega⟩, St9.out.more (by omega)⟩
        · go_wp2_with fail
          refine (pick_any b _ 4 _ St9.out.src (by omega)).mono ?_
          rintro r w10 ⟨ρ, rfl, hρ, _, hs10, hb10⟩
          have st10 := St9.out.pick hb10 hs10 hlt z1
          have hρn : ρ ≤ 3 := by omega
          clear hs10 hb10 St9 hρ d0 d1 d2 d3 e3
          have c3 := Blk.cell (i := 3) (v := .int .i64 (κ : Int)) st10.blk rfl
          have f3 := Blk.frozen st10.blk 3
          have St10 := Lib.hid (st10.put hlt z1 3 (.int .i64 (ρ : Int)) st10.part rfl)
          clear st10
          go_wp2_with fail
          refine (one_any b _ 12 _ St10.out.src (by omega)).mono ?_
          rintro r w11 ⟨t2, rfl, hs11, hb11⟩
          have St11 := Lib.hid (St10.out.pick hb11 hs11 hlt z1)
          clear hs11 hb11 St10 c3 f3
          cases t2 with
          | false =>
            go_wp2_with fail
            go_meet
            exact ⟨ρ, .inr ⟨hK, by omega, by omega⟩, St11.out.more (by omega)⟩
          | true =>
            go_wp2_with fail
            have ba := (Below.refl _ w11).alloc (Nat.le_refl _) (.cells #[.int .i64 1000, .int .i64 1000000000000000, .int .i64 100000] 2)
            refine (among_any b _ _ [1000, 1000000000000000, 100000] _ (St11.out.src.keep ba) (by omega) (lit_ints [1000, 1000000000000000, 100000] St11.out.src.lt rfl (by decide)) (by decide) (by decide)).mono ?_
            rintro r w12 ⟨q, hq, rfl, hs12, hb12⟩
            have st12 := (St11.out.up ba hlt z1).pick hb12 hs12 hlt z1
            have hq2 : 0 ≤ q ∧ q ≤ 1000000000000000 := by simp at hq; omega
            have c3 := Blk.cell (i := 3) (v := .int .i64 (ρ : Int)) st12.blk rfl
            have f3 := Blk.frozen st12.blk 3
            have St12 := Lib.hid st12
            clear hs12 hb12 St11 ba st12
            go_wp2_with fail
            go_meet
            exact ⟨q, .inr ⟨hK, hq2⟩, (St12.out.put hlt z1 3 (.int .i64 q) St12.out.part rfl).more (by omega)⟩
    case rest =>
      obtain ⟨q, hq, st9⟩ := hcut
      have St9 := Lib.hid st9
      clear st9 St8 CK
      go_upto_if 88 with (first
        | (go_at_call 101; refine (CP.out _).mono ?_; rintro r wh ⟨rfl, rfl⟩))
      go_cut [] (fun wx => ∃ (A : Option Addr) (c : Nat) (xs : List GRule), POk k xs ∧ EdSt w b (N + 228) E wx k y j q (.slice A xs.length c) xs ⟨#[]⟩)
      case first =>
        cases hP : (k == 1) with
        | false =>
          go_wp2_with fail
          go_meet
          exact ⟨none, 0, [], .inl ⟨by simpa using hP, rfl⟩, St9.out.more (by omega)⟩
        | true =>
          go_wp2_with fail
          refine (l02Drawn_any b _ 5 _ St9.out.src (by omega)).mono ?_
          rintro r w10 ⟨v9, xs, rfl, hsl9, hok9, hl9, hs9, hb9⟩
          have st10 := St9.out.pick hb9 hs9 hlt z1
          have zE := St9.out.blk.lt
          have hsl : SlS RuleE w10 (fun k => k ≠ b ∧ k ≠ E ∧ w.heap.size < k ∧ k < w10.heap.size) v9 xs := hsl9.more fun k hk => ⟨by omega, by omega, by omega, hk.2⟩
          obtain ⟨A9, c9, rfl, _⟩ := hsl9
          have c4 := Blk.cell (i := 4) (v := .slice none 0 0) st10.blk rfl
          have f4 := Blk.frozen st10.blk 4
          have St10 := Lib.hid (st10.put hlt z1 4 (.slice A9 xs.length c9) hsl rfl)
          clear hs9 hb9 St9 st10 hsl
          go_wp2_with fail
          go_meet
          exact ⟨A9, c9, xs, .inr ⟨by simpa using hP, hok9.1, hok9.2.1, hok9.2.2.2, hl9⟩, St10.out.more (by omega)⟩
      case rest =>
        obtain ⟨A, c, xs, hx, st10⟩ := hcut
        have St10 := Lib.hid st10
        clear st10 St9 CP
        go_upto_if 93 with (first
          | (go_at_call 101; refine (CM.out _).mono ?_; rintro r wh ⟨rfl, rfl⟩))
        go_cut [] (fun wx => ∃ m : ByteArray, MOk k m ∧ EdSt w b (N + 240) E wx k y j q (.slice A xs.length c) xs m)
        case first =>
          cases hM : (k == 7) with
          | false =>
            go_wp2_with fail
            go_meet
            exact ⟨_, .inl ⟨by simpa using hM, rfl⟩, St10.out.more (by omega)⟩
          | true =>
            go_wp2_with fail
            have ba := (Below.refl _ wc).alloc (Nat.le_refl _) (.cells (mapTexts.map Value.string).toArray 9)
            refine (text_any b _ _ mapTexts _ (St10.out.src.keep ba) (by omega) (lit_strs mapTexts St10.out.src.lt rfl (by decide)) (by decide) (by decide)).mono ?_
            rintro r w12 ⟨m, hm, rfl, hs12, hb12⟩
            have st12 := (St10.out.up ba hlt z1).pick hb12 hs12 hlt z1
            have c5 := Blk.cell (i := 5) (v := .string ⟨#[]⟩) st12.blk rfl
            have f5 := Blk.frozen st12.blk 5
            have St12 := Lib.hid st12
            clear hs12 hb12 St10 ba st12
            go_wp2_with fail
            go_meet
            exact ⟨m, .inr ⟨by simpa using hM, hm⟩, (St12.out.put hlt z1 5 (.string m) St12.out.part rfl).more (by omega)⟩
        case rest =>
          obtain ⟨m, hm, st11⟩ := hcut
          have St11 := Lib.hid st11
          have g0 := Blk.cell (i := 0) (v := .int .i64 k) st11.blk rfl
          have g1 := Blk.cell (i := 1) (v := .int .i64 (y : Int)) st11.blk rfl
          have g2 := Blk.cell (i := 2) (v := .int .i64 (j : Int)) st11.blk rfl
          have g3 := Blk.cell (i := 3) (v := .int .i64 q) st11.blk rfl
          have g4 := Blk.cell (i := 4) (v := .slice A xs.length c) st11.blk rfl
          have g5 := Blk.cell (i := 5) (v := .string m) st11.blk rfl
          have r0 := Blk.cell (i := 0) (v := .int .i64 0) st11.box rfl
          have r1 := Blk.cell (i := 1) (v := .int .i64 0) st11.box rfl
          have r2 := Blk.cell (i := 2) (v := .int .i64 0) st11.box rfl
          have r3 := Blk.cell (i := 3) (v := .int .i64 0) st11.box rfl
          have r4 := Blk.cell (i := 4) (v := .slice none 0 0) st11.box rfl
          have r5 := Blk.cell (i := 5) (v := .string ⟨#[]⟩) st11.box rfl
          have q0 := Blk.frozen st11.box 0
          have q1 := Blk.frozen st11.box 1
          have q2 := Blk.frozen st11.box 2
          have q3 := Blk.frozen st11.box 3
          have q4 := Blk.frozen st11.box 4
          have q5 := Blk.frozen st11.box 5
          clear st11 St10 CM
          go_wp2_with fail
          obtain ⟨hsl, hsr, hbt, hbk⟩ := St11.out.fin hlt (.int .i64 k) (.int .i64 (y : Int)) (.int .i64 (j : Int)) (.int .i64 q) (.slice A xs.length c) (.string m)
          obtain ⟨ho, hms, hxl, hxs⟩ := dr_ok hk7 hn9 hyn hj hq hx hm
          clear g0 g1 g2 g3 g4 g5 r0 r1 r2 r3 r4 r5 q0 q1 q2 q3 q4 q5 St11
          revert hsl hsr hbt hbk
          generalize (((((wc.setCell ⟨w.heap.size, 0, none⟩ (.int .i64 k)).setCell ⟨w.heap.size, 1, none⟩ (.int .i64 (y : Int))).setCell ⟨w.heap.size, 2, none⟩ (.int .i64 (j : Int))).setCell ⟨w.heap.size, 3, none⟩ (.int .i64 q)).setCell ⟨w.heap.size, 4, none⟩ (.slice A xs.length c)).setCell ⟨w.heap.size, 5, none⟩ (.string m) = W
          intro hsl hsr hbt hbk
          have x0 := Blk.cell (i := 0) (v := .int .i64 k) hbk rfl
          have x1 := Blk.cell (i := 1) (v := .int .i64 (y : Int)) hbk rfl
          have x2 := Blk.cell (i := 2) (v := .int .i64 (j : Int)) hbk rfl
          have x3 := Blk.cell (i := 3) (v := .int .i64 q) hbk rfl
          have x4 := Blk.cell (i := 4) (v := .slice A xs.length c) hbk rfl
          have x5 := Blk.cell (i := 5) (v := .string m) hbk rfl
          exact bodyPost_ret (v := .agg #[.int .i64 k, .int .i64 (y : Int), .int .i64 (j : Int), .int .i64 q, .slice A xs.length c, .string m]) (by simp [results, Try.results45, go_sem, x0, x1, x2, x3, x4, x5]) rfl ⟨_, _, ⟨k, y, j, q, xs, m⟩, rfl, rfl, hsl, hxl, hxs, ho, hms, hsr, hbt⟩
end Go.Proofs.Ytagpjommhoedlaa

namespace Go.Proofs.Ytagpjommhoedlaa
open Go.RowKit

set_option maxRecDepth 100000 in
set_option maxHeartbeats 4000000 in
theorem l07Place_any (b : Nat) (vR : Value) (e : GEdit) (n p : Int) (w : World) (h : EditAt w w.heap.size b e vR) (he : editOk e = true) (hsm : SmallL e.part) (hn : e.part.length ≤ 1099511627776) (hp : 0 ≤ p ∧ p ≤ n) (hn1 : n ≤ 1000000000000000) (hf : editFits e n = true) (hl : editLen e n ≤ 1000000000000000) :
    Calls Try.prog 61 #[.pointer (some ⟨b, 0, none⟩), .int .i64 p] w fun r w' => r = .returned (.int .i64 (placeP e p)) ∧ Below w.heap.size w w' := by
  obtain ⟨g1, g2, g3, g4, g5, g6, g7⟩ := editOk_get he
  clear he
  have HH := Lib.hid h
  have hless : ∀ q, 0 ≤ q ∧ q ≤ 1000000000000000 → ∀ W, EditAt W W.heap.size b e vR → Calls Try.prog 109 #[.pointer (some ⟨b, 0, none⟩), .int .i64 q] W fun r w' => r = .returned (.int .i64 (lessP e q)) ∧ Below W.heap.size W w' :=
    fun q hq W hW => l07Less_any b vR e q W hW hq g2 g3
  have HLs := Lib.hid hless
  clear hless
  have hbd : ∀ q, 0 ≤ q ∧ q ≤ 1000000000000000 → -1000000000000000 ≤ lessP e q ∧ lessP e q ≤ 2000000000000000 := by
    intro q hq; unfold lessP; split
    · omega
    · split <;> omega
  obtain ⟨k, i, j, kk, part, map⟩ := e
  obtain ⟨⟨x0, x1, x2, x3, x4, x5⟩, hlt, hR⟩ := h
  have HR := Lib.hid hR
  simp only at g1 g2 g3 g4 g5 g6 g7 hn hsm x0 x1 x2 x3 x4 x5
  have hlb := gramLen_bounds part
  obtain ⟨_, ls, hll⟩ := gram_lens g7
  have Hl := Lib.hid hll
  have hgl := gramLen_of hll
  have wji : IntKind.i64.wrap (j - i) = j - i := IntWalk.i64_in _ (by omega)
  have Hbd := Lib.hid hbd
  have HF := Lib.hid hf
  have HL := Lib.hid hl
  clear hll g7 hf hR hl hbd
  have go1 : ∀ (ins : Bool), (decide (i < p) && decide (p < j)) = ins → True := fun _ _ => trivial
  clear go1
  rcases kind7 g1 with rfl | rfl | rfl | rfl | rfl | rfl | rfl
  · -- insert
    have hj0 : j = 0 := g6 rfl
    subst hj0
    have wng : IntKind.i64.wrap (-i) = -i := IntWalk.i64_in _ (by omega)
    have wn : IntKind.i64.wrap (p + lastI ls) = p + lastI ls := IntWalk.i64_in _ (by omega)
    have HG := Lib.hid hgl
    clear hgl
    by_cases c : i < p
    · have c1 : decide (i < p) = true := by simp [c]
      have c2 : decide (p < 0) = false := by simp; omega
      go_enter Try.func61, Try.ntmps61
      go_wp2_with fail
      go_quiet (fail)
      go_wp2_with fail
      refine (l02Length_any b 4 _ part ls _ Hl.out (by simpa using x4) (by simpa using hlt) (HR.out.up (below_drewN (Below.refl _ _) _)) hsm hn).mono ?_
      rintro r w1 ⟨rfl, hb1⟩
      go_wp2_with fail
      go_ret
      exact ⟨ret_int (by simp [placeP, HG.out, c]), (below_drewN (Below.refl _ _) _).trans hb1⟩
    · have c1 : decide (i < p) = false := by simp; omega
      go_enter Try.func61, Try.ntmps61
      go_wp2_with fail
      go_quiet (fail)
      go_wp2_with fail
      go_ret
      exact ⟨ret_int (by simp [placeP, of_decide_eq_false c1]), (by repeat (first | exact Below.refl _ _ | (refine Below.alloc ?_ (by first | omega | (simp; done) | (simp; omega)) _) | refine below_drewN ?_ _ | refine Below.drew ?_))⟩
  · -- kind 2
    by_cases cA : i < p
    · have a1 : decide (i < p) = true := by simp [cA]
      have HA := Lib.hid cA
      by_cases cB : p < j
      · have b1 : decide (p < j) = true := by simp [cB]
        have HB := Lib.hid cB
        clear cA cB
        go_enter Try.func61, Try.ntmps61
        go_wp2_with fail
        go_quiet (fail)
        go_wp2_with fail
        refine (HLs.out p (by omega) _ (HH.out.up (below_drewN (Below.refl _ _) _))).mono ?_
        rintro r w1 ⟨rfl, hb1⟩
        go_wp2_with fail
        go_ret
        exact ⟨ret_int (by simp [placeP]), (below_drewN (Below.refl _ _) _).trans hb1⟩
      · have b1 : decide (p < j) = false := by simp; omega
        have HB := Lib.hid cB
        clear cA cB
        go_enter Try.func61, Try.ntmps61
        go_wp2_with fail
        go_quiet (fail)
        go_wp2_with fail
        refine (HLs.out p (by omega) _ (HH.out.up (below_drewN (Below.refl _ _) _))).mono ?_
        rintro r w1 ⟨rfl, hb1⟩
        go_wp2_with fail
        go_ret
        exact ⟨ret_int (by simp [placeP]), (below_drewN (Below.refl _ _) _).trans hb1⟩
    · have a1 : decide (i < p) = false := by simp; omega
      have HA := Lib.hid cA
      clear cA
      go_enter Try.func61, Try.ntmps61
      go_wp2_with fail
      go_quiet (fail)
      go_wp2_with fail
      refine (HLs.out p (by omega) _ (HH.out.up (below_drewN (Below.refl _ _) _))).mono ?_
      rintro r w1 ⟨rfl, hb1⟩
      go_wp2_with fail
      go_ret
      exact ⟨ret_int (by simp [placeP]), (below_drewN (Below.refl _ _) _).trans hb1⟩
  · -- kind 3
    have wc3 : IntKind.i64.wrap (p + (j - i)) = p + (j - i) := IntWalk.i64_in _ (by omega)
    by_cases cA : i < p
    · have a1 : decide (i < p) = true := by simp [cA]
      have HA := Lib.hid cA
      by_cases cB : p < j
      · have b1 : decide (p < j) = true := by simp [cB]
        have HB := Lib.hid cB
        clear cA cB
        by_cases cC : kk < p
        · have HC := Lib.hid cC
          go_enter Try.func61, Try.ntmps61
          go_wp2_with fail
          go_quiet (fail)
          go_wp2_with fail
          go_ret
          exact ⟨ret_int (by simp [placeP, HC.out]), (by repeat (first | exact Below.refl _ _ | (refine Below.alloc ?_ (by first | omega | (simp; done) | (simp; omega)) _) | refine below_drewN ?_ _ | refine Below.drew ?_))⟩
        · have HC := Lib.hid cC
          have d1 : decide (kk < p) = false := by simp; omega
          go_enter Try.func61, Try.ntmps61
          go_wp2_with fail
          go_quiet (fail)
          go_wp2_with fail
          go_ret
          exact ⟨ret_int (by simp [placeP, of_decide_eq_false d1]), (by repeat (first | exact Below.refl _ _ | (refine Below.alloc ?_ (by first | omega | (simp; done) | (simp; omega)) _) | refine below_drewN ?_ _ | refine Below.drew ?_))⟩
      · have b1 : decide (p < j) = false := by simp; omega
        have HB := Lib.hid cB
        clear cA cB
        by_cases cC : kk < p
        · have HC := Lib.hid cC
          go_enter Try.func61, Try.ntmps61
          go_wp2_with fail
          go_quiet (fail)
          go_wp2_with fail
          go_ret
          exact ⟨ret_int (by simp [placeP, HC.out]), (by repeat (first | exact Below.refl _ _ | (refine Below.alloc ?_ (by first | omega | (simp; done) | (simp; omega)) _) | refine below_drewN ?_ _ | refine Below.drew ?_))⟩
        · have HC := Lib.hid cC
          have d1 : decide (kk < p) = false := by simp; omega
          go_enter Try.func61, Try.ntmps61
          go_wp2_with fail
          go_quiet (fail)
          go_wp2_with fail
          go_ret
          exact ⟨ret_int (by simp [placeP, of_decide_eq_false d1]), (by repeat (first | exact Below.refl _ _ | (refine Below.alloc ?_ (by first | omega | (simp; done) | (simp; omega)) _) | refine below_drewN ?_ _ | refine Below.drew ?_))⟩
    · have a1 : decide (i < p) = false := by simp; omega
      have HA := Lib.hid cA
      clear cA
      by_cases cC : kk < p
      · have HC := Lib.hid cC
        go_enter Try.func61, Try.ntmps61
        go_wp2_with fail
        go_quiet (fail)
        go_wp2_with fail
        go_ret
        exact ⟨ret_int (by simp [placeP, HC.out]), (by repeat (first | exact Below.refl _ _ | (refine Below.alloc ?_ (by first | omega | (simp; done) | (simp; omega)) _) | refine below_drewN ?_ _ | refine Below.drew ?_))⟩
      · have HC := Lib.hid cC
        have d1 : decide (kk < p) = false := by simp; omega
        go_enter Try.func61, Try.ntmps61
        go_wp2_with fail
        go_quiet (fail)
        go_wp2_with fail
        go_ret
        exact ⟨ret_int (by simp [placeP, of_decide_eq_false d1]), (by repeat (first | exact Below.refl _ _ | (refine Below.alloc ?_ (by first | omega | (simp; done) | (simp; omega)) _) | refine below_drewN ?_ _ | refine Below.drew ?_))⟩
  · -- kind 4
    by_cases cA : i < p
    · have a1 : decide (i < p) = true := by simp [cA]
      have HA := Lib.hid cA
      by_cases cB : p < j
      · have b1 : decide (p < j) = true := by simp [cB]
        have HB := Lib.hid cB
        clear cA cB
        have b0 := Hbd.out kk (by omega)
        go_enter Try.func61, Try.ntmps61
        go_wp2_with fail
        go_quiet (fail)
        go_wp2_with fail
        refine (HLs.out kk (by omega) _ (HH.out.up (below_drewN (Below.refl _ _) _))).mono ?_
        rintro r w1 ⟨rfl, hb1⟩
        have x1' := (hb1.cell (p := ⟨b, 1, none⟩) hlt).trans (show (w.drewN _).cell? ⟨b, 1, none⟩ = _ from x1)
        have HB1 := Lib.hid ((below_drewN (Below.refl _ _) _).trans hb1)
        have HH1 := Lib.hid ((HH.out.up (below_drewN (Below.refl _ _) _)).up hb1)
        clear hb1 x0 x1 x2 x3 x4 x5
        obtain ⟨T, hT⟩ : ∃ T, lessP ⟨4, i, j, kk, part, map⟩ kk = T := ⟨_, rfl⟩
        rw [hT] at b0
        rw [hT]
        have wa : IntKind.i64.wrap (T + p) = T + p := IntWalk.i64_in _ (by omega)
        have wb : IntKind.i64.wrap (T + p - i) = T + p - i := IntWalk.i64_in _ (by omega)
        have HT := Lib.hid hT
        clear hT
        go_wp2_with fail
        go_ret
        exact ⟨ret_int (by simp [placeP, HA.out, HB.out, HT.out]), HB1.out⟩
      · have b1 : decide (p < j) = false := by simp; omega
        have HB := Lib.hid cB
        clear cA cB
        have b0 := Hbd.out kk (by omega)
        go_enter Try.func61, Try.ntmps61
        go_wp2_with fail
        go_quiet (fail)
        go_wp2_with fail
        refine (HLs.out kk (by omega) _ (HH.out.up (below_drewN (Below.refl _ _) _))).mono ?_
        rintro r w1 ⟨rfl, hb1⟩
        have x1' := (hb1.cell (p := ⟨b, 1, none⟩) hlt).trans (show (w.drewN _).cell? ⟨b, 1, none⟩ = _ from x1)
        have HB1 := Lib.hid ((below_drewN (Below.refl _ _) _).trans hb1)
        have HH1 := Lib.hid ((HH.out.up (below_drewN (Below.refl _ _) _)).up hb1)
        clear hb1 x0 x1 x2 x3 x4 x5
        obtain ⟨T, hT⟩ : ∃ T, lessP ⟨4, i, j, kk, part, map⟩ kk = T := ⟨_, rfl⟩
        rw [hT] at b0
        rw [hT]
        have HT := Lib.hid hT
        clear hT
        have c0 := Hbd.out p (by omega)
        go_wp2_with fail
        refine (HLs.out p (by omega) _ HH1.out).mono ?_
        rintro r w2 ⟨rfl, hb2⟩
        have HB2 := Lib.hid (HB1.out.trans (hb2.mono HB1.out.size))
        clear hb2
        obtain ⟨Q, hQ⟩ : ∃ Q, lessP ⟨4, i, j, kk, part, map⟩ p = Q := ⟨_, rfl⟩
        rw [hQ] at c0
        rw [hQ]
        have HQ := Lib.hid hQ
        clear hQ
        have wa : IntKind.i64.wrap (Q + (j - i)) = Q + (j - i) := IntWalk.i64_in _ (by omega)
        by_cases cD : T < Q
        · have HD := Lib.hid cD
          go_wp2_with fail
          go_ret
          exact ⟨ret_int (by simp only [placeP]; rw [if_neg (by decide), if_neg (by decide), if_neg (by decide), if_pos trivial, if_neg (fun h => of_decide_eq_false b1 h.2), HT.out, HQ.out, if_pos HD.out]), HB2.out⟩
        · have HD := Lib.hid cD
          have d1 : decide (T < Q) = false := by simp; omega
          go_wp2_with fail
          go_ret
          exact ⟨ret_int (by simp only [placeP]; rw [if_neg (by decide), if_neg (by decide), if_neg (by decide), if_pos trivial, if_neg (fun h => of_decide_eq_false b1 h.2), HT.out, HQ.out, if_neg (of_decide_eq_false d1)]), HB2.out⟩
    · have a1 : decide (i < p) = false := by simp; omega
      have HA := Lib.hid cA
      clear cA
      have b0 := Hbd.out kk (by omega)
      go_enter Try.func61, Try.ntmps61
      go_wp2_with fail
      go_quiet (fail)
      go_wp2_with fail
      refine (HLs.out kk (by omega) _ (HH.out.up (below_drewN (Below.refl _ _) _))).mono ?_
      rintro r w1 ⟨rfl, hb1⟩
      have x1' := (hb1.cell (p := ⟨b, 1, none⟩) hlt).trans (show (w.drewN _).cell? ⟨b, 1, none⟩ = _ from x1)
      have HB1 := Lib.hid ((below_drewN (Below.refl _ _) _).trans hb1)
      have HH1 := Lib.hid ((HH.out.up (below_drewN (Below.refl _ _) _)).up hb1)
      clear hb1 x0 x1 x2 x3 x4 x5
      obtain ⟨T, hT⟩ : ∃ T, lessP ⟨4, i, j, kk, part, map⟩ kk = T := ⟨_, rfl⟩
      rw [hT] at b0
      rw [hT]
      have HT := Lib.hid hT
      clear hT
      have c0 := Hbd.out p (by omega)
      go_wp2_with fail
      refine (HLs.out p (by omega) _ HH1.out).mono ?_
      rintro r w2 ⟨rfl, hb2⟩
      have HB2 := Lib.hid (HB1.out.trans (hb2.mono HB1.out.size))
      clear hb2
      obtain ⟨Q, hQ⟩ : ∃ Q, lessP ⟨4, i, j, kk, part, map⟩ p = Q := ⟨_, rfl⟩
      rw [hQ] at c0
      rw [hQ]
      have HQ := Lib.hid hQ
      clear hQ
      have wa : IntKind.i64.wrap (Q + (j - i)) = Q + (j - i) := IntWalk.i64_in _ (by omega)
      by_cases cD : T < Q
      · have HD := Lib.hid cD
        go_wp2_with fail
        go_ret
        exact ⟨ret_int (by simp only [placeP]; rw [if_neg (by decide), if_neg (by decide), if_neg (by decide), if_pos trivial, if_neg (fun h => of_decide_eq_false a1 h.1), HT.out, HQ.out, if_pos HD.out]), HB2.out⟩
      · have HD := Lib.hid cD
        have d1 : decide (T < Q) = false := by simp; omega
        go_wp2_with fail
        go_ret
        exact ⟨ret_int (by simp only [placeP]; rw [if_neg (by decide), if_neg (by decide), if_neg (by decide), if_pos trivial, if_neg (fun h => of_decide_eq_false a1 h.1), HT.out, HQ.out, if_neg (of_decide_eq_false d1)]), HB2.out⟩
  · -- kind 5
    by_cases cA : i < p
    · have a1 : decide (i < p) = true := by simp [cA]
      have HA := Lib.hid cA
      by_cases cB : p < j
      · have b1 : decide (p < j) = true := by simp [cB]
        have HB := Lib.hid cB
        clear cA cB
        have wa : IntKind.i64.wrap (i + j) = i + j := IntWalk.i64_in _ (by omega)
        have wb : IntKind.i64.wrap (i + j - p) = i + j - p := IntWalk.i64_in _ (by omega)
        go_enter Try.func61, Try.ntmps61
        go_wp2_with fail
        go_quiet (fail)
        go_wp2_with fail
        go_quiet (fail)
        go_wp2_with fail
        go_ret
        exact ⟨ret_int (by simp [placeP, HA.out, HB.out]), (by repeat (first | exact Below.refl _ _ | (refine Below.alloc ?_ (by first | omega | (simp; done) | (simp; omega)) _) | refine below_drewN ?_ _ | refine Below.drew ?_))⟩
      · have b1 : decide (p < j) = false := by simp; omega
        have HB := Lib.hid cB
        clear cA cB
        go_enter Try.func61, Try.ntmps61
        go_wp2_with fail
        go_quiet (fail)
        go_wp2_with fail
        go_ret
        exact ⟨ret_int (by rw [placeP]; simp; intro h1 h2; exact absurd h2 (of_decide_eq_false b1)), (by repeat (first | exact Below.refl _ _ | (refine Below.alloc ?_ (by first | omega | (simp; done) | (simp; omega)) _) | refine below_drewN ?_ _ | refine Below.drew ?_))⟩
    · have a1 : decide (i < p) = false := by simp; omega
      have HA := Lib.hid cA
      clear cA
      go_enter Try.func61, Try.ntmps61
      go_wp2_with fail
      go_quiet (fail)
      go_wp2_with fail
      go_ret
      exact ⟨ret_int (by rw [placeP]; simp; intro h1 h2; exact absurd h1 (of_decide_eq_false a1)), (by repeat (first | exact Below.refl _ _ | (refine Below.alloc ?_ (by first | omega | (simp; done) | (simp; omega)) _) | refine below_drewN ?_ _ | refine Below.drew ?_))⟩
  · -- kind 6
    by_cases cA : i < p
    · have a1 : decide (i < p) = true := by simp [cA]
      have HA := Lib.hid cA
      by_cases cB : p < j
      · have b1 : decide (p < j) = true := by simp [cB]
        have HB := Lib.hid cB
        clear cA cB
        have e1 : decide (j ≤ p) = false := by have := HB.out; simp; omega
        by_cases cE : kk = 0
        · have e2 : (kk == 0) = true := by simp [cE]
          have HE := Lib.hid cE
          clear cE
          go_enter Try.func61, Try.ntmps61
          go_wp2_with fail
          go_quiet (fail)
          go_wp2_with fail
          go_ret
          exact ⟨ret_int (by simp only [placeP]; rw [if_neg (by decide), if_neg (by decide), if_neg (by decide), if_neg (by decide), if_neg (by decide), if_pos trivial, if_neg (of_decide_eq_false e1), if_pos ⟨⟨HA.out, HB.out⟩, HE.out⟩]), (by repeat (first | exact Below.refl _ _ | (refine Below.alloc ?_ (by first | omega | (simp; done) | (simp; omega)) _) | refine below_drewN ?_ _ | refine Below.drew ?_))⟩
        · have e2 : (kk == 0) = false := by simp [cE]
          have HE := Lib.hid cE
          clear cE
          go_enter Try.func61, Try.ntmps61
          go_wp2_with fail
          go_quiet (fail)
          go_wp2_with fail
          go_ret
          exact ⟨ret_int (by simp only [placeP]; rw [if_neg (by decide), if_neg (by decide), if_neg (by decide), if_neg (by decide), if_neg (by decide), if_pos trivial, if_neg (of_decide_eq_false e1), if_neg (fun h => HE.out h.2)]), (by repeat (first | exact Below.refl _ _ | (refine Below.alloc ?_ (by first | omega | (simp; done) | (simp; omega)) _) | refine below_drewN ?_ _ | refine Below.drew ?_))⟩
      · have b1 : decide (p < j) = false := by simp; omega
        have HB := Lib.hid cB
        clear cA cB
        have hL6 : n - (j - i) + (j - i) * kk ≤ 1000000000000000 := by simpa [editLen] using HL.out
        have hF6 : j ≤ n := by simpa [editFits] using HF.out
        have hm0 : 0 ≤ (j - i) * kk := Int.mul_nonneg (by have := g5 (by omega); omega) g4.1
        have wa : IntKind.i64.wrap (p - (j - i)) = p - (j - i) := IntWalk.i64_in _ (by omega)
        have wb : IntKind.i64.wrap ((j - i) * kk) = (j - i) * kk := IntWalk.i64_in _ (by omega)
        have wc : IntKind.i64.wrap (p - (j - i) + (j - i) * kk) = p - (j - i) + (j - i) * kk := IntWalk.i64_in _ (by omega)
        have e1 : decide (j ≤ p) = true := by have := HB.out; simp; omega
        have e1' : j ≤ p := by have := HB.out; omega
        have HE := Lib.hid e1'
        clear hL6
        go_enter Try.func61, Try.ntmps61
        go_wp2_with fail
        go_quiet (fail)
        go_wp2_with fail
        go_ret
        exact ⟨ret_int (by simp [placeP, HE.out]), (by repeat (first | exact Below.refl _ _ | (refine Below.alloc ?_ (by first | omega | (simp; done) | (simp; omega)) _) | refine below_drewN ?_ _ | refine Below.drew ?_))⟩
    · have a1 : decide (i < p) = false := by simp; omega
      have HA := Lib.hid cA
      clear cA
      have hij := g5 (by omega)
      by_cases cE : j ≤ p
      · have hL6 : n - (j - i) + (j - i) * kk ≤ 1000000000000000 := by simpa [editLen] using HL.out
        have hF6 : j ≤ n := by simpa [editFits] using HF.out
        have hm0 : 0 ≤ (j - i) * kk := Int.mul_nonneg (by omega) g4.1
        have wa : IntKind.i64.wrap (p - (j - i)) = p - (j - i) := IntWalk.i64_in _ (by omega)
        have wb : IntKind.i64.wrap ((j - i) * kk) = (j - i) * kk := IntWalk.i64_in _ (by omega)
        have wc : IntKind.i64.wrap (p - (j - i) + (j - i) * kk) = p - (j - i) + (j - i) * kk := IntWalk.i64_in _ (by omega)
        have HE := Lib.hid cE
        clear hL6
        go_enter Try.func61, Try.ntmps61
        go_wp2_with fail
        go_quiet (fail)
        go_wp2_with fail
        go_ret
        exact ⟨ret_int (by simp [placeP, HE.out]), (by repeat (first | exact Below.refl _ _ | (refine Below.alloc ?_ (by first | omega | (simp; done) | (simp; omega)) _) | refine below_drewN ?_ _ | refine Below.drew ?_))⟩
      · have e1 : decide (j ≤ p) = false := by simp; omega
        go_enter Try.func61, Try.ntmps61
        go_wp2_with fail
        go_quiet (fail)
        go_wp2_with fail
        go_ret
        exact ⟨ret_int (by simp only [placeP]; rw [if_neg (by decide), if_neg (by decide), if_neg (by decide), if_neg (by decide), if_neg (by decide), if_pos trivial, if_neg (of_decide_eq_false e1), if_neg (fun h => of_decide_eq_false a1 h.1.1)]), (by repeat (first | exact Below.refl _ _ | (refine Below.alloc ?_ (by first | omega | (simp; done) | (simp; omega)) _) | refine below_drewN ?_ _ | refine Below.drew ?_))⟩
  · -- kind 7
    by_cases cA : i < p
    · have a1 : decide (i < p) = true := by simp [cA]
      have HA := Lib.hid cA
      by_cases cB : p < j
      · have b1 : decide (p < j) = true := by simp [cB]
        have HB := Lib.hid cB
        clear cA cB
        go_enter Try.func61, Try.ntmps61
        go_wp2_with fail
        go_quiet (fail)
        go_wp2_with fail
        go_ret
        exact ⟨ret_int (by simp [placeP]), (by repeat (first | exact Below.refl _ _ | (refine Below.alloc ?_ (by first | omega | (simp; done) | (simp; omega)) _) | refine below_drewN ?_ _ | refine Below.drew ?_))⟩
      · have b1 : decide (p < j) = false := by simp; omega
        have HB := Lib.hid cB
        clear cA cB
        go_enter Try.func61, Try.ntmps61
        go_wp2_with fail
        go_quiet (fail)
        go_wp2_with fail
        go_ret
        exact ⟨ret_int (by simp [placeP]), (by repeat (first | exact Below.refl _ _ | (refine Below.alloc ?_ (by first | omega | (simp; done) | (simp; omega)) _) | refine below_drewN ?_ _ | refine Below.drew ?_))⟩
    · have a1 : decide (i < p) = false := by simp; omega
      have HA := Lib.hid cA
      clear cA
      go_enter Try.func61, Try.ntmps61
      go_wp2_with fail
      go_quiet (fail)
      go_wp2_with fail
      go_ret
      exact ⟨ret_int (by simp [placeP]), (by repeat (first | exact Below.refl _ _ | (refine Below.alloc ?_ (by first | omega | (simp; done) | (simp; omega)) _) | refine below_drewN ?_ _ | refine Below.drew ?_))⟩
end Go.Proofs.Ytagpjommhoedlaa

namespace Go.Proofs.Ytagpjommhoedlaa
open Go.RowKit

theorem paC_1 {n : Int} {e : GEdit} {p : Int} (h : editOk e = false) : paC n e p = 1 ∧ paV n e p = 0 := by
  have : paC n e p = 1 := by simp [paC, h]
  exact ⟨this, by simp [paV, this]⟩
theorem paC_2 {n : Int} {e : GEdit} {p : Int} (h : editOk e = true) (h2 : (inR n 0 1000000000000000 && inR p 0 n && editFits e n) = false) : paC n e p = 2 ∧ paV n e p = 0 := by
  have : paC n e p = 2 := by simp only [paC, h, h2]; simp
  exact ⟨this, by simp [paV, this]⟩
theorem paC_3 {n : Int} {e : GEdit} {p : Int} (h : editOk e = true) (h2 : (inR n 0 1000000000000000 && inR p 0 n && editFits e n) = true) (h3 : ¬ editLen e n ≤ 1000000000000000) : paC n e p = 3 ∧ paV n e p = 0 := by
  have : paC n e p = 3 := by simp only [paC, h, h2]; simp [h3]
  exact ⟨this, by simp [paV, this]⟩
theorem paC_0 {n : Int} {e : GEdit} {p : Int} (h : editOk e = true) (h2 : (inR n 0 1000000000000000 && inR p 0 n && editFits e n) = true) (h3 : editLen e n ≤ 1000000000000000) : paC n e p = 0 ∧ paV n e p = placeP e p := by
  have : paC n e p = 0 := by simp only [paC, h, h2]; simp [h3]
  exact ⟨this, by simp [paV, this]⟩

set_option maxRecDepth 100000 in
set_option maxHeartbeats 4000000 in
theorem implPlaceAfter_any (n : Int) (v : Value) (e : GEdit) (p : Int) (w : World) (h : EditV w w.heap.size v e) (hn : e.part.length ≤ 1099511627776) (hm : e.map.size ≤ maxLen) :
    Calls Try.prog 13 #[.int .i64 n, v, .int .i64 p] w fun r w' => r = .returned (.tuple #[.int .i64 (paV n e p), .int .i64 (paC n e p)]) ∧ Below w.heap.size w w' := by
  have hV := fun o => (h.below ((Below.refl w.heap.size w).alloc (Nat.le_refl _) o)).le (B' := (w.alloc o).heap.size) (by simp)
  have HV := Lib.hid hV
  clear hV
  obtain ⟨vR, rfl, hR⟩ := h
  obtain ⟨AR, cR, rfl, _⟩ := hR
  go_enter Try.func13, Try.ntmps13
  go_wp2_with fail
  refine (implValidEdit_any _ e _ (HV.out _) hn hm).mono ?_
  rintro r w1 ⟨rfl, hb1⟩
  have z1 : w.heap.size < w1.heap.size := Nat.lt_of_lt_of_le (by simp) hb1.size
  have X1 := Lib.hid (Box6.new hb1)
  have V1 := Lib.hid ((HV.out _).up hb1)
  have B1 := Lib.hid (((Below.refl w.heap.size w).alloc (Nat.le_refl _) _).trans (hb1.mono (by simp)))
  clear hb1
  obtain ⟨x0, x1, x2, x3, x4, x5⟩ := X1.out
  by_cases he : editOk e = true
  · have HE := Lib.hid he
    have g0 : (!editOk e) = false := by simp [he]
    have hG := editOk_get he
    clear he
    by_cases c1 : inR n 0 1000000000000000 = true
    · have C1 := Lib.hid c1
      have hn0 : 0 ≤ n ∧ n ≤ 1000000000000000 := by simpa [inR] using c1
      clear c1
      go_wp2_with fail
      refine (within_yes _ _ _ _ C1.out).mono ?_
      rintro r w' ⟨rfl, rfl⟩
      by_cases c2 : inR p 0 n = true
      · have C2 := Lib.hid c2
        have hp0 : 0 ≤ p ∧ p ≤ n := by simpa [inR] using c2
        clear c2
        go_wp2_with fail
        refine (within_yes _ _ _ _ C2.out).mono ?_
        rintro r w' ⟨rfl, rfl⟩
        go_wp2_with fail
        refine (fits_any _ e n _ V1.out hG.1 hG.2.2.2.2.1).mono ?_
        rintro r w2 ⟨rfl, hb2⟩
        have z2 : w.heap.size < w2.heap.size := Nat.lt_of_lt_of_le z1 hb2.size
        have X2 := Lib.hid (X1.out.up hb2 z1)
        have V2 := Lib.hid (V1.out.up hb2)
        have B2 := Lib.hid (B1.out.trans (hb2.mono B1.out.size))
        clear hb2 x0 x1 x2 x3 x4 x5 X1 V1
        obtain ⟨x0, x1, x2, x3, x4, x5⟩ := X2.out
        by_cases c3 : editFits e n = true
        · have C3 := Lib.hid c3
          have g3 : (!editFits e n) = false := by simp [c3]
          clear c3
          have hall : (inR n 0 1000000000000000 && inR p 0 n && editFits e n) = true := by rw [C1.out, C2.out, C3.out]; rfl
          have Hall := Lib.hid hall
          clear hall
          go_wp2_with fail
          refine (grows_any _ e n _ V2.out HE.out hn hn0.1 hn0.2 C3.out).mono ?_
          rintro r w3 ⟨out, rfl, hout, hb3⟩
          have z3 : w.heap.size < w3.heap.size := Nat.lt_of_lt_of_le z2 hb3.size
          have X3 := Lib.hid (X2.out.up hb3 z2)
          have V3 := Lib.hid (V2.out.up hb3)
          have B3 := Lib.hid (B2.out.trans (hb3.mono B2.out.size))
          clear hb3 x0 x1 x2 x3 x4 x5 X2 V2
          obtain ⟨x0, x1, x2, x3, x4, x5⟩ := X3.out
          by_cases c4 : editLen e n ≤ 1000000000000000
          · have C4 := Lib.hid c4
            have g4 : decide (editLen e n ≤ 1000000000000000) = true := by simp [c4]
            have ho := hout c4
            rw [g4]
            clear c4 hout g4
            obtain ⟨pc, pv⟩ := paC_0 (p := p) HE.out Hall.out C4.out
            have PC := Lib.hid pc
            have PV := Lib.hid pv
            clear pc pv g0 g3
            have hbd : ∀ q, 0 ≤ q ∧ q ≤ 1000000000000000 → -1000000000000000 ≤ lessP e q ∧ lessP e q ≤ 2000000000000000 := by
              intro q hq; unfold lessP; split
              · omega
              · split <;> omega
            have Hbd := Lib.hid hbd
            clear hbd
            have hrem : ∀ W, EditV W W.heap.size (.agg #[.int .i64 e.kind, .int .i64 e.i, .int .i64 e.j, .int .i64 e.k, .slice AR e.part.length cR, .string e.map]) e → e.i ≤ e.j → ∀ q, 0 ≤ q ∧ q ≤ 1000000000000000 → Calls Try.prog 59 #[.agg #[.int .i64 e.kind, .int .i64 e.i, .int .i64 e.j, .int .i64 e.k, .slice AR e.part.length cR, .string e.map], .int .i64 q] W fun r w' => r = .returned (.int .i64 (lessP e q)) ∧ Below W.heap.size W w' :=
              fun W hW hij q hq => removed_any _ e q W hW (by simp [inR]; omega) (by simp [inR]; omega) hij hG.2.1.1 hG.2.2.1.2
            have Hrem := Lib.hid hrem
            clear hrem
            obtain ⟨g1, g2, g3, g4, g5, g6, g7⟩ := hG
            have hlb := gramLen_bounds e.part
            obtain ⟨k, i, j, kk, part, map⟩ := e
            simp only at g1 g2 g3 g4 g5 g6 g7 hn x0 x1 x2 x3 x4 x5 ho hlb
            have wji : IntKind.i64.wrap (j - i) = j - i := IntWalk.i64_in _ (by omega)
            clear g7 hm
            rcases kind7 g1 with rfl | rfl | rfl | rfl | rfl | rfl | rfl
            · have hj0 : j = 0 := g6 rfl
              subst hj0
              have wng : IntKind.i64.wrap (-i) = -i := IntWalk.i64_in _ (by omega)
              have hout : out = gramLen part := by simp [editLen] at ho; omega
              have Hout := Lib.hid hout
              have wn : IntKind.i64.wrap (p + out) = p + out := IntWalk.i64_in _ (by omega)
              clear ho hout
              by_cases cA : i < p
              · have a1 : decide (i < p) = true := by simp [cA]
                have b1 : decide (p < 0) = false := by simp; omega
                have HA := Lib.hid cA
                go_wp2_with fail
                go_quiet (fail)
                go_wp2_with fail
                go_ret2
                exact ⟨by rw [PC.out, PV.out]; simp [placeP, HA.out, Hout.out], B3.out.trans ((below_drewN (Below.refl _ _) _).mono B3.out.size)⟩
              · have a1 : decide (i < p) = false := by simp; omega
                have HA := Lib.hid cA
                go_wp2_with fail
                go_quiet (fail)
                go_wp2_with fail
                go_ret2
                exact ⟨by rw [PC.out, PV.out]; simp [placeP, of_decide_eq_false a1], B3.out.trans ((below_drewN (Below.refl _ _) _).mono B3.out.size)⟩
            · clear ho
              by_cases cA : i < p
              · have a1 : decide (i < p) = true := by simp [cA]
                have HA := Lib.hid cA
                by_cases cB : p < j
                · have b1 : decide (p < j) = true := by simp [cB]
                  have HB := Lib.hid cB
                  clear cA cB
                  go_wp2_with fail
                  go_quiet (fail)
                  go_wp2_with fail
                  refine (Hrem.out _ (V3.out.up (below_drewN (Below.refl _ _) _)) (g5 (by omega)) p (by omega)).mono ?_
                  rintro r w4 ⟨rfl, hb4⟩
                  have B4 := Lib.hid (B3.out.trans (((below_drewN (Below.refl w3.heap.size w3) _).trans hb4).mono B3.out.size))
                  clear hb4
                  go_wp2_with fail
                  go_ret2
                  exact ⟨by rw [PC.out, PV.out]; simp [placeP], B4.out⟩
                · have b1 : decide (p < j) = false := by simp; omega
                  have HB := Lib.hid cB
                  clear cA cB
                  go_wp2_with fail
                  go_quiet (fail)
                  go_wp2_with fail
                  refine (Hrem.out _ (V3.out.up (below_drewN (Below.refl _ _) _)) (g5 (by omega)) p (by omega)).mono ?_
                  rintro r w4 ⟨rfl, hb4⟩
                  have B4 := Lib.hid (B3.out.trans (((below_drewN (Below.refl w3.heap.size w3) _).trans hb4).mono B3.out.size))
                  clear hb4
                  go_wp2_with fail
                  go_ret2
                  exact ⟨by rw [PC.out, PV.out]; simp [placeP], B4.out⟩
              · have a1 : decide (i < p) = false := by simp; omega
                have HA := Lib.hid cA
                clear cA
                go_wp2_with fail
                go_quiet (fail)
                go_wp2_with fail
                refine (Hrem.out _ (V3.out.up (below_drewN (Below.refl _ _) _)) (g5 (by omega)) p (by omega)).mono ?_
                rintro r w4 ⟨rfl, hb4⟩
                have B4 := Lib.hid (B3.out.trans (((below_drewN (Below.refl w3.heap.size w3) _).trans hb4).mono B3.out.size))
                clear hb4
                go_wp2_with fail
                go_ret2
                exact ⟨by rw [PC.out, PV.out]; simp [placeP], B4.out⟩
            · have hout : out = j - i := by simp [editLen] at ho; omega
              have Hout := Lib.hid hout
              have wn : IntKind.i64.wrap (p + out) = p + out := IntWalk.i64_in _ (by have := g5 (by omega); omega)
              clear ho hout
              by_cases cA : i < p
              · have a1 : decide (i < p) = true := by simp [cA]
                have HA := Lib.hid cA
                by_cases cB : p < j
                · have b1 : decide (p < j) = true := by simp [cB]
                  have HB := Lib.hid cB
                  clear cA cB
                  by_cases cC : kk < p
                  · have HC := Lib.hid cC
                    go_wp2_with fail
                    go_quiet (fail)
                    go_wp2_with fail
                    go_ret2
                    exact ⟨by rw [PC.out, PV.out]; simp [placeP, HC.out, Hout.out], B3.out.trans ((below_drewN (Below.refl _ _) _).mono B3.out.size)⟩
                  · have d1 : decide (kk < p) = false := by simp; omega
                    go_wp2_with fail
                    go_quiet (fail)
                    go_wp2_with fail
                    go_ret2
                    exact ⟨by rw [PC.out, PV.out]; simp [placeP, of_decide_eq_false d1], B3.out.trans ((below_drewN (Below.refl _ _) _).mono B3.out.size)⟩
                · have b1 : decide (p < j) = false := by simp; omega
                  have HB := Lib.hid cB
                  clear cA cB
                  by_cases cC : kk < p
                  · have HC := Lib.hid cC
                    go_wp2_with fail
                    go_quiet (fail)
                    go_wp2_with fail
                    go_ret2
                    exact ⟨by rw [PC.out, PV.out]; simp [placeP, HC.out, Hout.out], B3.out.trans ((below_drewN (Below.refl _ _) _).mono B3.out.size)⟩
                  · have d1 : decide (kk < p) = false := by simp; omega
                    go_wp2_with fail
                    go_quiet (fail)
                    go_wp2_with fail
                    go_ret2
                    exact ⟨by rw [PC.out, PV.out]; simp [placeP, of_decide_eq_false d1], B3.out.trans ((below_drewN (Below.refl _ _) _).mono B3.out.size)⟩
              · have a1 : decide (i < p) = false := by simp; omega
                have HA := Lib.hid cA
                clear cA
                by_cases cC : kk < p
                · have HC := Lib.hid cC
                  go_wp2_with fail
                  go_quiet (fail)
                  go_wp2_with fail
                  go_ret2
                  exact ⟨by rw [PC.out, PV.out]; simp [placeP, HC.out, Hout.out], B3.out.trans ((below_drewN (Below.refl _ _) _).mono B3.out.size)⟩
                · have d1 : decide (kk < p) = false := by simp; omega
                  go_wp2_with fail
                  go_quiet (fail)
                  go_wp2_with fail
                  go_ret2
                  exact ⟨by rw [PC.out, PV.out]; simp [placeP, of_decide_eq_false d1], B3.out.trans ((below_drewN (Below.refl _ _) _).mono B3.out.size)⟩
            · clear ho
              by_cases cA : i < p
              · have a1 : decide (i < p) = true := by simp [cA]
                have HA := Lib.hid cA
                by_cases cB : p < j
                · have b1 : decide (p < j) = true := by simp [cB]
                  have HB := Lib.hid cB
                  by_cases cK : kk ≤ i
                  · have k1' : decide (i < kk) = false := by simp; omega
                    have hT : lessP ⟨4, i, j, kk, part, map⟩ kk = kk := by simp [lessP, cK]
                    have hTb := Hbd.out kk (by omega)
                    rw [hT] at hTb
                    have HT := Lib.hid hT
                    clear hT cK
                    have wa : IntKind.i64.wrap (kk + p) = kk + p := IntWalk.i64_in _ (by omega)
                    have wb : IntKind.i64.wrap (kk + p - i) = kk + p - i := IntWalk.i64_in _ (by omega)
                    clear cA cB
                    go_wp2_with fail
                    go_quiet (fail)
                    go_wp2_with fail
                    go_ret2
                    exact ⟨by rw [PC.out, PV.out]; simp [placeP, HA.out, HB.out, HT.out], B3.out.trans ((below_drewN (Below.refl _ _) _).mono B3.out.size)⟩
                  · have k1' : decide (i < kk) = true := by simp; omega
                    have hkj : j ≤ kk := by rcases (show kk ≤ i ∨ j ≤ kk by have := C3.out; simp [editFits] at this; omega) with h | h <;> omega
                    have hT : lessP ⟨4, i, j, kk, part, map⟩ kk = kk - (j - i) := by simp only [lessP]; rw [if_neg (by omega), if_neg (by omega)]
                    have wk : IntKind.i64.wrap (kk - (j - i)) = kk - (j - i) := IntWalk.i64_in _ (by omega)
                    have hTb := Hbd.out kk (by omega)
                    rw [hT] at hTb
                    have HT := Lib.hid hT
                    clear hT cK
                    have wa : IntKind.i64.wrap ((kk - (j - i)) + p) = (kk - (j - i)) + p := IntWalk.i64_in _ (by omega)
                    have wb : IntKind.i64.wrap ((kk - (j - i)) + p - i) = (kk - (j - i)) + p - i := IntWalk.i64_in _ (by omega)
                    clear cA cB
                    go_wp2_with fail
                    go_quiet (fail)
                    go_wp2_with fail
                    go_ret2
                    exact ⟨by rw [PC.out, PV.out]; simp [placeP, HA.out, HB.out, HT.out], B3.out.trans ((below_drewN (Below.refl _ _) _).mono B3.out.size)⟩
                · have b1 : decide (p < j) = false := by simp; omega
                  have HB := Lib.hid cB
                  by_cases cK : kk ≤ i
                  · have k1' : decide (i < kk) = false := by simp; omega
                    have hT : lessP ⟨4, i, j, kk, part, map⟩ kk = kk := by simp [lessP, cK]
                    have hTb := Hbd.out kk (by omega)
                    rw [hT] at hTb
                    have HT := Lib.hid hT
                    clear hT cK
                    clear cA cB
                    go_wp2_with fail
                    go_quiet (fail)
                    go_wp2_with fail
                    refine (Hrem.out _ (V3.out.up (below_drewN (Below.refl _ _) _)) (g5 (by omega)) p (by omega)).mono ?_
                    rintro r w4 ⟨rfl, hb4⟩
                    have B4 := Lib.hid (B3.out.trans (((below_drewN (Below.refl w3.heap.size w3) _).trans hb4).mono B3.out.size))
                    clear hb4
                    have c0 := Hbd.out p (by omega)
                    obtain ⟨Q, hQ⟩ : ∃ Q, lessP ⟨4, i, j, kk, part, map⟩ p = Q := ⟨_, rfl⟩
                    rw [hQ] at c0
                    rw [hQ]
                    have HQ := Lib.hid hQ
                    clear hQ
                    have wa : IntKind.i64.wrap (Q + (j - i)) = Q + (j - i) := IntWalk.i64_in _ (by have := g5 (by omega); omega)
                    by_cases cD : kk < Q
                    · have HD := Lib.hid cD
                      go_wp2_with fail
                      go_ret2
                      exact ⟨by rw [PC.out, PV.out, show placeP ⟨4, i, j, kk, part, map⟩ p = Q + (j - i) from by simp only [placeP]; rw [if_neg (by decide), if_neg (by decide), if_neg (by decide), if_pos trivial, if_neg (fun h => of_decide_eq_false b1 h.2), HT.out, HQ.out, if_pos HD.out]]; rfl, B4.out⟩
                    · have d1 : decide (kk < Q) = false := by simp; omega
                      have HD := Lib.hid cD
                      go_wp2_with fail
                      go_ret2
                      exact ⟨by rw [PC.out, PV.out, show placeP ⟨4, i, j, kk, part, map⟩ p = Q from by simp only [placeP]; rw [if_neg (by decide), if_neg (by decide), if_neg (by decide), if_pos trivial, if_neg (fun h => of_decide_eq_false b1 h.2), HT.out, HQ.out, if_neg (of_decide_eq_false d1)]]; rfl, B4.out⟩
                  · have k1' : decide (i < kk) = true := by simp; omega
                    have hkj : j ≤ kk := by rcases (show kk ≤ i ∨ j ≤ kk by have := C3.out; simp [editFits] at this; omega) with h | h <;> omega
                    have hT : lessP ⟨4, i, j, kk, part, map⟩ kk = kk - (j - i) := by simp only [lessP]; rw [if_neg (by omega), if_neg (by omega)]
                    have wk : IntKind.i64.wrap (kk - (j - i)) = kk - (j - i) := IntWalk.i64_in _ (by omega)
                    have hTb := Hbd.out kk (by omega)
                    rw [hT] at hTb
                    have HT := Lib.hid hT
                    clear hT cK
                    clear cA cB
                    go_wp2_with fail
                    go_quiet (fail)
                    go_wp2_with fail
                    refine (Hrem.out _ (V3.out.up (below_drewN (Below.refl _ _) _)) (g5 (by omega)) p (by omega)).mono ?_
                    rintro r w4 ⟨rfl, hb4⟩
                    have B4 := Lib.hid (B3.out.trans (((below_drewN (Below.refl w3.heap.size w3) _).trans hb4).mono B3.out.size))
                    clear hb4
                    have c0 := Hbd.out p (by omega)
                    obtain ⟨Q, hQ⟩ : ∃ Q, lessP ⟨4, i, j, kk, part, map⟩ p = Q := ⟨_, rfl⟩
                    rw [hQ] at c0
                    rw [hQ]
                    have HQ := Lib.hid hQ
                    clear hQ
                    have wa : IntKind.i64.wrap (Q + (j - i)) = Q + (j - i) := IntWalk.i64_in _ (by have := g5 (by omega); omega)
                    by_cases cD : (kk - (j - i)) < Q
                    · have HD := Lib.hid cD
                      go_wp2_with fail
                      go_ret2
                      exact ⟨by rw [PC.out, PV.out, show placeP ⟨4, i, j, kk, part, map⟩ p = Q + (j - i) from by simp only [placeP]; rw [if_neg (by decide), if_neg (by decide), if_neg (by decide), if_pos trivial, if_neg (fun h => of_decide_eq_false b1 h.2), HT.out, HQ.out, if_pos HD.out]]; rfl, B4.out⟩
                    · have d1 : decide ((kk - (j - i)) < Q) = false := by simp; omega
                      have HD := Lib.hid cD
                      go_wp2_with fail
                      go_ret2
                      exact ⟨by rw [PC.out, PV.out, show placeP ⟨4, i, j, kk, part, map⟩ p = Q from by simp only [placeP]; rw [if_neg (by decide), if_neg (by decide), if_neg (by decide), if_pos trivial, if_neg (fun h => of_decide_eq_false b1 h.2), HT.out, HQ.out, if_neg (of_decide_eq_false d1)]]; rfl, B4.out⟩
              · have a1 : decide (i < p) = false := by simp; omega
                have HA := Lib.hid cA
                by_cases cK : kk ≤ i
                · have k1' : decide (i < kk) = false := by simp; omega
                  have hT : lessP ⟨4, i, j, kk, part, map⟩ kk = kk := by simp [lessP, cK]
                  have hTb := Hbd.out kk (by omega)
                  rw [hT] at hTb
                  have HT := Lib.hid hT
                  clear hT cK
                  clear cA
                  go_wp2_with fail
                  go_quiet (fail)
                  go_wp2_with fail
                  refine (Hrem.out _ (V3.out.up (below_drewN (Below.refl _ _) _)) (g5 (by omega)) p (by omega)).mono ?_
                  rintro r w4 ⟨rfl, hb4⟩
                  have B4 := Lib.hid (B3.out.trans (((below_drewN (Below.refl w3.heap.size w3) _).trans hb4).mono B3.out.size))
                  clear hb4
                  have c0 := Hbd.out p (by omega)
                  obtain ⟨Q, hQ⟩ : ∃ Q, lessP ⟨4, i, j, kk, part, map⟩ p = Q := ⟨_, rfl⟩
                  rw [hQ] at c0
                  rw [hQ]
                  have HQ := Lib.hid hQ
                  clear hQ
                  have wa : IntKind.i64.wrap (Q + (j - i)) = Q + (j - i) := IntWalk.i64_in _ (by have := g5 (by omega); omega)
                  by_cases cD : kk < Q
                  · have HD := Lib.hid cD
                    go_wp2_with fail
                    go_ret2
                    exact ⟨by rw [PC.out, PV.out, show placeP ⟨4, i, j, kk, part, map⟩ p = Q + (j - i) from by simp only [placeP]; rw [if_neg (by decide), if_neg (by decide), if_neg (by decide), if_pos trivial, if_neg (fun h => of_decide_eq_false a1 h.1), HT.out, HQ.out, if_pos HD.out]]; rfl, B4.out⟩
                  · have d1 : decide (kk < Q) = false := by simp; omega
                    have HD := Lib.hid cD
                    go_wp2_with fail
                    go_ret2
                    exact ⟨by rw [PC.out, PV.out, show placeP ⟨4, i, j, kk, part, map⟩ p = Q from by simp only [placeP]; rw [if_neg (by decide), if_neg (by decide), if_neg (by decide), if_pos trivial, if_neg (fun h => of_decide_eq_false a1 h.1), HT.out, HQ.out, if_neg (of_decide_eq_false d1)]]; rfl, B4.out⟩
                · have k1' : decide (i < kk) = true := by simp; omega
                  have hkj : j ≤ kk := by rcases (show kk ≤ i ∨ j ≤ kk by have := C3.out; simp [editFits] at this; omega) with h | h <;> omega
                  have hT : lessP ⟨4, i, j, kk, part, map⟩ kk = kk - (j - i) := by simp only [lessP]; rw [if_neg (by omega), if_neg (by omega)]
                  have wk : IntKind.i64.wrap (kk - (j - i)) = kk - (j - i) := IntWalk.i64_in _ (by omega)
                  have hTb := Hbd.out kk (by omega)
                  rw [hT] at hTb
                  have HT := Lib.hid hT
                  clear hT cK
                  clear cA
                  go_wp2_with fail
                  go_quiet (fail)
                  go_wp2_with fail
                  refine (Hrem.out _ (V3.out.up (below_drewN (Below.refl _ _) _)) (g5 (by omega)) p (by omega)).mono ?_
                  rintro r w4 ⟨rfl, hb4⟩
                  have B4 := Lib.hid (B3.out.trans (((below_drewN (Below.refl w3.heap.size w3) _).trans hb4).mono B3.out.size))
                  clear hb4
                  have c0 := Hbd.out p (by omega)
                  obtain ⟨Q, hQ⟩ : ∃ Q, lessP ⟨4, i, j, kk, part, map⟩ p = Q := ⟨_, rfl⟩
                  rw [hQ] at c0
                  rw [hQ]
                  have HQ := Lib.hid hQ
                  clear hQ
                  have wa : IntKind.i64.wrap (Q + (j - i)) = Q + (j - i) := IntWalk.i64_in _ (by have := g5 (by omega); omega)
                  by_cases cD : (kk - (j - i)) < Q
                  · have HD := Lib.hid cD
                    go_wp2_with fail
                    go_ret2
                    exact ⟨by rw [PC.out, PV.out, show placeP ⟨4, i, j, kk, part, map⟩ p = Q + (j - i) from by simp only [placeP]; rw [if_neg (by decide), if_neg (by decide), if_neg (by decide), if_pos trivial, if_neg (fun h => of_decide_eq_false a1 h.1), HT.out, HQ.out, if_pos HD.out]]; rfl, B4.out⟩
                  · have d1 : decide ((kk - (j - i)) < Q) = false := by simp; omega
                    have HD := Lib.hid cD
                    go_wp2_with fail
                    go_ret2
                    exact ⟨by rw [PC.out, PV.out, show placeP ⟨4, i, j, kk, part, map⟩ p = Q from by simp only [placeP]; rw [if_neg (by decide), if_neg (by decide), if_neg (by decide), if_pos trivial, if_neg (fun h => of_decide_eq_false a1 h.1), HT.out, HQ.out, if_neg (of_decide_eq_false d1)]]; rfl, B4.out⟩
            · clear ho
              by_cases cA : i < p
              · have a1 : decide (i < p) = true := by simp [cA]
                have HA := Lib.hid cA
                by_cases cB : p < j
                · have b1 : decide (p < j) = true := by simp [cB]
                  have HB := Lib.hid cB
                  have wa : IntKind.i64.wrap (i + j) = i + j := IntWalk.i64_in _ (by omega)
                  have wb : IntKind.i64.wrap (i + j - p) = i + j - p := IntWalk.i64_in _ (by omega)
                  clear cA cB
                  go_wp2_with fail
                  go_quiet (fail)
                  go_wp2_with fail
                  go_ret2
                  exact ⟨by rw [PC.out, PV.out]; simp [placeP, HA.out, HB.out], B3.out.trans ((below_drewN (Below.refl _ _) _).mono B3.out.size)⟩
                · have b1 : decide (p < j) = false := by simp; omega
                  have HB := Lib.hid cB
                  clear cA cB
                  go_wp2_with fail
                  go_quiet (fail)
                  go_wp2_with fail
                  go_ret2
                  exact ⟨by rw [PC.out, PV.out]; simp [placeP]; intro h1 h2; exact absurd h2 (of_decide_eq_false b1), B3.out.trans ((below_drewN (Below.refl _ _) _).mono B3.out.size)⟩
              · have a1 : decide (i < p) = false := by simp; omega
                have HA := Lib.hid cA
                clear cA
                go_wp2_with fail
                go_quiet (fail)
                go_wp2_with fail
                go_ret2
                exact ⟨by rw [PC.out, PV.out]; simp [placeP]; intro h1 h2; exact absurd h1 (of_decide_eq_false a1), B3.out.trans ((below_drewN (Below.refl _ _) _).mono B3.out.size)⟩
            · have hout : out = -(j - i) + (j - i) * kk := by simp [editLen] at ho; omega
              have hL6 : n - (j - i) + (j - i) * kk ≤ 1000000000000000 := by simpa [editLen] using C4.out
              have hF6 : j ≤ n := by simpa [editFits] using C3.out
              have hij := g5 (by omega)
              have hm0 : 0 ≤ (j - i) * kk := Int.mul_nonneg (by omega) g4.1
              have hob : -1000000000000000 ≤ out ∧ out ≤ 2000000000000000 := by omega
              have Hout := Lib.hid hout
              clear ho hout hL6
              by_cases cA : i < p
              · have a1 : decide (i < p) = true := by simp [cA]
                have HA := Lib.hid cA
                by_cases cB : p < j
                · have b1 : decide (p < j) = true := by simp [cB]
                  have HB := Lib.hid cB
                  have e1 : decide (j ≤ p) = false := by simp; omega
                  clear hm0
                  by_cases cE : kk = 0
                  · have e2 : (kk == 0) = true := by simp [cE]
                    have HE1 := Lib.hid cE
                    clear cE cA cB
                    go_wp2_with fail
                    go_quiet (fail)
                    go_wp2_with fail
                    go_ret2
                    exact ⟨by rw [PC.out, PV.out, show placeP ⟨6, i, j, kk, part, map⟩ p = i from by simp only [placeP]; rw [if_neg (by decide), if_neg (by decide), if_neg (by decide), if_neg (by decide), if_neg (by decide), if_pos trivial, if_neg (of_decide_eq_false e1), if_pos ⟨⟨HA.out, HB.out⟩, HE1.out⟩]]; rfl, B3.out.trans ((below_drewN (Below.refl _ _) _).mono B3.out.size)⟩
                  · have e2 : (kk == 0) = false := by simp [cE]
                    have HE1 := Lib.hid cE
                    clear cE cA cB
                    go_wp2_with fail
                    go_quiet (fail)
                    go_wp2_with fail
                    go_ret2
                    exact ⟨by rw [PC.out, PV.out, show placeP ⟨6, i, j, kk, part, map⟩ p = p from by simp only [placeP]; rw [if_neg (by decide), if_neg (by decide), if_neg (by decide), if_neg (by decide), if_neg (by decide), if_pos trivial, if_neg (of_decide_eq_false e1), if_neg (fun h => HE1.out h.2)]]; rfl, B3.out.trans ((below_drewN (Below.refl _ _) _).mono B3.out.size)⟩
                · have b1 : decide (p < j) = false := by simp; omega
                  have HB := Lib.hid cB
                  have e1' : j ≤ p := by omega
                  have HE1 := Lib.hid e1'
                  have wa : IntKind.i64.wrap (p + out) = p + out := IntWalk.i64_in _ (by omega)
                  clear cA cB hm0
                  go_wp2_with fail
                  go_quiet (fail)
                  go_wp2_with fail
                  go_ret2
                  exact ⟨by rw [PC.out, PV.out]; simp [placeP, HE1.out, Hout.out]; omega, B3.out.trans ((below_drewN (Below.refl _ _) _).mono B3.out.size)⟩
              · have a1 : decide (i < p) = false := by simp; omega
                have HA := Lib.hid cA
                by_cases cE : j ≤ p
                · have HE1 := Lib.hid cE
                  have wa : IntKind.i64.wrap (p + out) = p + out := IntWalk.i64_in _ (by omega)
                  clear cA hm0
                  go_wp2_with fail
                  go_quiet (fail)
                  go_wp2_with fail
                  go_ret2
                  exact ⟨by rw [PC.out, PV.out]; simp [placeP, HE1.out, Hout.out]; omega, B3.out.trans ((below_drewN (Below.refl _ _) _).mono B3.out.size)⟩
                · have e1 : decide (j ≤ p) = false := by simp; omega
                  clear cA cE hm0
                  go_wp2_with fail
                  go_quiet (fail)
                  go_wp2_with fail
                  go_ret2
                  exact ⟨by rw [PC.out, PV.out, show placeP ⟨6, i, j, kk, part, map⟩ p = p from by simp only [placeP]; rw [if_neg (by decide), if_neg (by decide), if_neg (by decide), if_neg (by decide), if_neg (by decide), if_pos trivial, if_neg (of_decide_eq_false e1), if_neg (fun h => of_decide_eq_false a1 h.1.1)]]; rfl, B3.out.trans ((below_drewN (Below.refl _ _) _).mono B3.out.size)⟩
            · clear ho
              by_cases cA : i < p
              · have a1 : decide (i < p) = true := by simp [cA]
                have HA := Lib.hid cA
                by_cases cB : p < j
                · have b1 : decide (p < j) = true := by simp [cB]
                  have HB := Lib.hid cB
                  clear cA cB
                  go_wp2_with fail
                  go_quiet (fail)
                  go_wp2_with fail
                  go_ret2
                  exact ⟨by rw [PC.out, PV.out]; simp [placeP], B3.out.trans ((below_drewN (Below.refl _ _) _).mono B3.out.size)⟩
                · have b1 : decide (p < j) = false := by simp; omega
                  have HB := Lib.hid cB
                  clear cA cB
                  go_wp2_with fail
                  go_quiet (fail)
                  go_wp2_with fail
                  go_ret2
                  exact ⟨by rw [PC.out, PV.out]; simp [placeP], B3.out.trans ((below_drewN (Below.refl _ _) _).mono B3.out.size)⟩
              · have a1 : decide (i < p) = false := by simp; omega
                have HA := Lib.hid cA
                clear cA
                go_wp2_with fail
                go_quiet (fail)
                go_wp2_with fail
                go_ret2
                exact ⟨by rw [PC.out, PV.out]; simp [placeP], B3.out.trans ((below_drewN (Below.refl _ _) _).mono B3.out.size)⟩
          · have g4 : decide (editLen e n ≤ 1000000000000000) = false := by simp; omega
            rw [g4]
            obtain ⟨pc, pv⟩ := paC_3 (p := p) HE.out Hall.out c4
            have PC := Lib.hid pc
            have PV := Lib.hid pv
            clear pc pv c4 hout g4
            go_wp2_with fail
            go_ret2
            exact ⟨by rw [PC.out, PV.out]; rfl, B3.out⟩
        · have c3' : editFits e n = false := by simpa using c3
          have g3 : (!editFits e n) = true := by simp [c3']
          obtain ⟨pc, pv⟩ := paC_2 (n := n) (p := p) HE.out (by rw [C1.out, C2.out, c3']; rfl)
          have PC := Lib.hid pc
          have PV := Lib.hid pv
          clear pc pv c3 c3'
          go_wp2_with fail
          go_ret2
          exact ⟨by rw [PC.out, PV.out]; rfl, B2.out⟩
      · have c2' : inR p 0 n = false := by simpa using c2
        obtain ⟨pc, pv⟩ := paC_2 (n := n) (p := p) HE.out (by rw [C1.out, c2']; rfl)
        have PC := Lib.hid pc
        have PV := Lib.hid pv
        have C2 := Lib.hid c2'
        clear pc pv c2 c2'
        go_wp2_with fail
        refine (within_no _ _ _ _ C2.out).mono ?_
        rintro r w' ⟨rfl, rfl⟩
        go_wp2_with fail
        go_ret2
        exact ⟨by rw [PC.out, PV.out]; rfl, B1.out⟩
    · have c1' : inR n 0 1000000000000000 = false := by simpa using c1
      obtain ⟨pc, pv⟩ := paC_2 (n := n) (p := p) HE.out (by rw [c1']; rfl)
      have PC := Lib.hid pc
      have PV := Lib.hid pv
      have C1 := Lib.hid c1'
      clear pc pv c1 c1'
      go_wp2_with fail
      refine (within_no _ _ _ _ C1.out).mono ?_
      rintro r w' ⟨rfl, rfl⟩
      go_wp2_with fail
      go_ret2
      exact ⟨by rw [PC.out, PV.out]; rfl, B1.out⟩
  · have he' : editOk e = false := by simpa using he
    have g0 : (!editOk e) = true := by simp [he']
    obtain ⟨pc, pv⟩ := paC_1 (n := n) (p := p) he'
    have PC := Lib.hid pc
    have PV := Lib.hid pv
    clear pc pv he he'
    go_wp2_with fail
    go_ret2
    exact ⟨by rw [PC.out, PV.out]; rfl, B1.out⟩
end Go.Proofs.Ytagpjommhoedlaa

namespace Go.Proofs.Ytagpjommhoedlaa
open Go.RowKit

set_option maxRecDepth 100000 in
set_option maxHeartbeats 4000000 in
theorem specPlaceAfter_any (n : Int) (v : Value) (e : GEdit) (p : Int) (w : World) (h : EditV w w.heap.size v e) (hsm : SmallL e.part) (hn : e.part.length ≤ 1099511627776) (hm : e.map.size ≤ maxLen) :
    Calls Try.prog 14 #[.int .i64 n, v, .int .i64 p] w fun r w' => r = .returned (.tuple #[.int .i64 (paV n e p), .int .i64 (paC n e p)]) ∧ Below w.heap.size w w' := by
  obtain ⟨vR, rfl, hR⟩ := h
  have hA : ∀ c : Obj, c = Obj.cells #[.int .i64 e.kind, .int .i64 e.i, .int .i64 e.j, .int .i64 e.k, vR, .string e.map] 30 → EditAt (w.alloc c) (w.alloc c).heap.size w.heap.size e vR := by
    rintro c rfl
    exact ⟨Box6.new (Below.refl _ _), by simp, (hR.below ((Below.refl _ _).alloc (Nat.le_refl _) _)).le (by simp)⟩
  have HA := Lib.hid hA
  clear hA hR
  go_enter Try.func14, Try.ntmps14
  go_wp2_with fail
  refine (l07Ok_any _ vR e _ (HA.out _ rfl) hsm hn hm).mono ?_
  rintro r w1 ⟨rfl, hb1⟩
  have E1 := Lib.hid ((HA.out _ rfl).up hb1)
  have B1 := Lib.hid (((Below.refl w.heap.size w).alloc (Nat.le_refl _) _).trans (hb1.mono (by simp)))
  clear hb1
  by_cases he : editOk e = true
  · have HE := Lib.hid he
    have g0 : (!editOk e) = false := by simp [he]
    have hG := (editOk_get he).1
    have HG := Lib.hid hG
    clear he hG
    by_cases c1 : inR n 0 1000000000000000 = true
    · have C1 := Lib.hid c1
      have hn0 : 0 ≤ n ∧ n ≤ 1000000000000000 := by simpa [inR] using c1
      have Hn := Lib.hid hn0
      clear c1 hn0
      go_wp2_with fail
      refine (l00In_yes _ _ _ _ C1.out).mono ?_
      rintro r w' ⟨rfl, rfl⟩
      by_cases c2 : inR p 0 n = true
      · have C2 := Lib.hid c2
        have hp0 : 0 ≤ p ∧ p ≤ n := by simpa [inR] using c2
        have Hp := Lib.hid hp0
        clear c2 hp0
        go_wp2_with fail
        refine (l00In_yes _ _ _ _ C2.out).mono ?_
        rintro r w' ⟨rfl, rfl⟩
        go_wp2_with fail
        refine (l07Range_any _ vR e n _ E1.out HG.out).mono ?_
        rintro r w2 ⟨rfl, hb2⟩
        have E2 := Lib.hid (E1.out.up hb2)
        have B2 := Lib.hid (B1.out.trans (hb2.mono B1.out.size))
        clear hb2
        by_cases c3 : editFits e n = true
        · have C3 := Lib.hid c3
          have g3 : (!editFits e n) = false := by simp [c3]
          clear c3
          have hall : (inR n 0 1000000000000000 && inR p 0 n && editFits e n) = true := by rw [C1.out, C2.out, C3.out]; rfl
          have Hall := Lib.hid hall
          clear hall
          go_wp2_with fail
          refine (l07Grows_any _ vR e n 1000000000000000 _ E2.out HE.out hsm hn Hn.out.1 Hn.out.2 (by omega) C3.out).mono ?_
          rintro r w3 ⟨rfl, hb3⟩
          have E3 := Lib.hid (E2.out.up hb3)
          have B3 := Lib.hid (B2.out.trans (hb3.mono B2.out.size))
          clear hb3
          have hlow : 0 ≤ editLen e n ∨ ¬ editLen e n ≤ 1000000000000000 := by
            by_cases c : editLen e n ≤ 1000000000000000
            · left; exact editLen_nonneg HE.out C3.out Hn.out.1
            · right; exact c
          by_cases c4 : editLen e n ≤ 1000000000000000
          · have C4 := Lib.hid c4
            have g4 : decide (growV e n 1000000000000000 < 0) = false := by
              have : growV e n 1000000000000000 = editLen e n := by rw [growV, if_pos c4]
              rw [this]; simp; omega
            obtain ⟨G, hGv⟩ : ∃ G, growV e n 1000000000000000 = G := ⟨_, rfl⟩
            rw [hGv] at g4
            rw [hGv]
            obtain ⟨pc, pv⟩ := paC_0 (p := p) HE.out Hall.out C4.out
            have PC := Lib.hid pc
            have PV := Lib.hid pv
            clear pc pv c4 hlow hGv g0 g3
            go_wp2_with fail
            refine (l07Place_any _ vR e n p _ E3.out HE.out hsm hn Hp.out Hn.out.2 C3.out C4.out).mono ?_
            rintro r w4 ⟨rfl, hb4⟩
            have B4 := Lib.hid (B3.out.trans (hb4.mono B3.out.size))
            clear hb4
            go_wp2_with fail
            go_ret2
            exact ⟨by rw [PC.out, PV.out]; rfl, B4.out⟩
          · have g4 : decide (growV e n 1000000000000000 < 0) = true := by
              have : growV e n 1000000000000000 = -1 := by rw [growV, if_neg c4]
              rw [this]; simp
            obtain ⟨G, hGv⟩ : ∃ G, growV e n 1000000000000000 = G := ⟨_, rfl⟩
            rw [hGv] at g4
            rw [hGv]
            obtain ⟨pc, pv⟩ := paC_3 (p := p) HE.out Hall.out c4
            have PC := Lib.hid pc
            have PV := Lib.hid pv
            clear pc pv c4 hlow hGv g0 g3
            go_wp2_with fail
            go_ret2
            exact ⟨by rw [PC.out, PV.out]; rfl, B3.out⟩
        · have c3' : editFits e n = false := by simpa using c3
          have g3 : (!editFits e n) = true := by simp [c3']
          obtain ⟨pc, pv⟩ := paC_2 (n := n) (p := p) HE.out (by rw [C1.out, C2.out, c3']; rfl)
          have PC := Lib.hid pc
          have PV := Lib.hid pv
          clear pc pv c3 c3'
          go_wp2_with fail
          go_ret2
          exact ⟨by rw [PC.out, PV.out]; rfl, B2.out⟩
      · have c2' : inR p 0 n = false := by simpa using c2
        obtain ⟨pc, pv⟩ := paC_2 (n := n) (p := p) HE.out (by rw [C1.out, c2']; rfl)
        have PC := Lib.hid pc
        have PV := Lib.hid pv
        have C2 := Lib.hid c2'
        clear pc pv c2 c2'
        go_wp2_with fail
        refine (l00In_no _ _ _ _ C2.out).mono ?_
        rintro r w' ⟨rfl, rfl⟩
        go_wp2_with fail
        go_ret2
        exact ⟨by rw [PC.out, PV.out]; rfl, B1.out⟩
    · have c1' : inR n 0 1000000000000000 = false := by simpa using c1
      obtain ⟨pc, pv⟩ := paC_2 (n := n) (p := p) HE.out (by rw [c1']; rfl)
      have PC := Lib.hid pc
      have PV := Lib.hid pv
      have C1 := Lib.hid c1'
      clear pc pv c1 c1'
      go_wp2_with fail
      refine (l00In_no _ _ _ _ C1.out).mono ?_
      rintro r w' ⟨rfl, rfl⟩
      go_wp2_with fail
      go_ret2
      exact ⟨by rw [PC.out, PV.out]; rfl, B1.out⟩
  · have he' : editOk e = false := by simpa using he
    have g0 : (!editOk e) = true := by simp [he']
    obtain ⟨pc, pv⟩ := paC_1 (n := n) (p := p) he'
    have PC := Lib.hid pc
    have PV := Lib.hid pv
    clear pc pv he he'
    go_wp2_with fail
    go_ret2
    exact ⟨by rw [PC.out, PV.out]; rfl, B1.out⟩
end Go.Proofs.Ytagpjommhoedlaa

