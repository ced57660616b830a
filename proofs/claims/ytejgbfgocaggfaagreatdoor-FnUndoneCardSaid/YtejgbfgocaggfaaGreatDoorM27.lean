import Derived.Test.YtejgbfgocaggfaaGreatDoorM26
import Derived.Shelf.SlicesE.Reverse
import Derived.Lib.ConvBytes
import Derived.Lib.RowBridge
import Derived.Laws.IdiomCopy
import Derived.Lib.LazyBuf
set_option maxRecDepth 100000
set_option maxHeartbeats 8000000
namespace Go.Proofs.YtejgbfgocaggfaaGreatDoor
open Go.RowKit
def zpl (b N : Nat) (w : World) (r : Ending) (w' : World) : Prop :=
 ∃ v vR e, r = .returned v /\ v = .agg #[.int .i64 e.kind, .int .i64 e.i, .int .i64 e.j, .int .i64 e.k, vR, .string e.map] /\ SlS zar w' (fun k => k ≠ b /\ w.heap.size < k /\ k < w'.heap.size) vR e.part /\ (e.part.length <= 14 /\ zaF e.part <= 5) /\ zaY e.part /\ zat e = true /\ e.map.size <= 4 /\ Src w' b (N + 240) /\ But b w w'
theorem znA {i : Int} {xs : List zaa} (h : 0 <= i /\ i <= 1000000000000000) (hg : zag xs = true) (hl : 0 < xs.length) : zat ⟨1, i, 0, 0, xs, ⟨#[]⟩⟩ = true := by
 have : (⟨#[]⟩ : ByteArray).size = 0 := rfl; simp [zat, inR, zaK, zbq, zbu, hg, hl, h.1, h.2, this]
theorem zkD {k i j : Int} (hk : k = 2 \/ k = 5) (h : 0 <= i /\ i <= j /\ j <= 1000000000000000) : zat ⟨k, i, j, 0, [], ⟨#[]⟩⟩ = true := by
 have : (⟨#[]⟩ : ByteArray).size = 0 := rfl; have g0 : zag [] = true := rfl; rcases hk with rfl | rfl <;> simp [zat, inR, zaK, zbq, zbu, g0, this] <;> omega
theorem znB {k i j q : Int} (hk : k = 3 \/ k = 4 \/ k = 6) (h : 0 <= i /\ i <= j /\ j <= 1000000000000000) (hq : 0 <= q /\ q <= 1000000000000000) : zat ⟨k, i, j, q, [], ⟨#[]⟩⟩ = true := by
 have : (⟨#[]⟩ : ByteArray).size = 0 := rfl; have g0 : zag [] = true := rfl; rcases hk with rfl | rfl | rfl <;> simp [zat, inR, zaK, zbq, zbu, g0, this] <;> omega
theorem zqe {i j : Int} {m : ByteArray} (h : 0 <= i /\ i <= j /\ j <= 1000000000000000) (hm : m.size = 4) (hw : zaB m = true) : zat ⟨7, i, j, 0, [], m⟩ = true := by
 have g0 : zag [] = true := rfl; simp [zat, inR, zaK, zbq, zbu, g0, hm, hw] <;> omega
theorem zou {W : World} {b N : Nat} (l : List Int) (hb : b < W.heap.size) (hN : N = W.heap.size) (hl : l.length <= 1000) :
  SlS zgt (W.alloc (.cells (l.map (Value.int .i64)).toArray 2)) (fun k => k ≠ b /\ k < (W.alloc (.cells (l.map (Value.int .i64)).toArray 2)).heap.size) (.slice (some ⟨N, 0, none⟩) l.length l.length) l := by
 subst hN
 have h : zan (W.alloc (.cells (l.map (Value.int .i64)).toArray 2)) W.heap.size (.slice (some ⟨W.heap.size, 0, none⟩) l.length l.length) l := by
  have := World.ownsRow_lit W (l.map (Value.int .i64)).toArray l.length yL (by simp only [maxLen]; omega) (e := 2) (size := 1) yS; simpa [zan] using this
 exact h.slS fun g hg => by simp [Value.ownBlock] at hg; subst hg; exact ⟨by omega, by simp⟩
theorem zov {W : World} {b N : Nat} (l : List ByteArray) (hb : b < W.heap.size) (hN : N = W.heap.size) (hl : l.length <= 1000) :
  SlS zic (W.alloc (.cells (l.map Value.string).toArray 9)) (fun k => k ≠ b /\ k < (W.alloc (.cells (l.map Value.string).toArray 9)).heap.size) (.slice (some ⟨N, 0, none⟩) l.length l.length) l := by
 subst hN; have h := World.ownsRow_lit W (l.map Value.string).toArray l.length yL (by simp only [maxLen]; omega) (e := 9) (size := 1) yS; refine ⟨_, _, rfl, Nat.le_refl _, by simp only [maxLen]; omega, Row.of_own (E := zic) h rfl (fun g hg => by simp [Value.ownBlock] at hg; subst hg; exact ⟨by omega, by simp⟩) fun k x hx => ⟨[.string x], rfl, fun j u hu => ?_⟩⟩
 cases j with
 | zero => simp at hu; subst hu; simp [zic, hx]
 | succ j => simp at hu
def zfM : List ByteArray := [⟨#[98, 97, 99, 100]⟩, ⟨#[97, 97, 97, 97]⟩, ⟨#[98, 99, 100, 97]⟩, ⟨#[97, 98, 99, 100]⟩, ⟨#[100, 99, 98, 97]⟩]
theorem zkE : ∀ m ∈ zfM, m.size = 4 /\ zaB m = true := by decide
structure ziW (w : World) (b M E : Nat) (wx : World) (k i j q : Int) (vP : Value) (xs : List zaa) (m : ByteArray) : Prop where
 src : Src wx b M
 but : But b w wx
 box : Blk wx w.heap.size (#[.int .i64 0, .int .i64 0, .int .i64 0, .int .i64 0, .slice none 0 0, .string ⟨#[]⟩] : Array Value) 37
 blk : Blk wx E #[.int .i64 k, .int .i64 i, .int .i64 j, .int .i64 q, vP, .string m] 37
 part : SlS zar wx (fun k => k ≠ b /\ k ≠ E /\ w.heap.size < k /\ k < wx.heap.size) vP xs
section
variable {w wx w' : World} {b M M' E : Nat} {k i j q : Int} {vP : Value} {xs : List zaa} {m : ByteArray}
theorem ziW.pick (h : ziW w b M E wx k i j q vP xs m) (hb : But b wx w') (hs : Src w' b M') (hlt : b < w.heap.size) (hE : w.heap.size < E) : ziW w b M' E w' k i j q vP xs m :=
 ⟨hs, h.but.trans hb, h.box.but hb yO, h.blk.but hb yO, (h.part.keep fun k hk => hb.block k hk.2.2.2 hk.1).more fun k hk => ⟨hk.1, hk.2.1, hk.2.2.1, Nat.lt_of_lt_of_le hk.2.2.2 hb.size⟩⟩
theorem ziW.up (h : ziW w b M E wx k i j q vP xs m) (hb : Below wx.heap.size wx w') (hlt : b < w.heap.size) (hE : w.heap.size < E) : ziW w b M E w' k i j q vP xs m := h.pick (But.of hb) (h.src.keep hb) hlt hE
theorem ziW.more (h : ziW w b M E wx k i j q vP xs m) (hM : M <= M') : ziW w b M' E wx k i j q vP xs m := ⟨h.src.more hM, h.but, h.box, h.blk, h.part⟩
theorem ziW.put (h : ziW w b M E wx k i j q vP xs m) (hlt : b < w.heap.size) (hE : w.heap.size < E) (o : Nat) (v : Value) {k' i' j' q' : Int} {vP' : Value} {xs' : List zaa} {m' : ByteArray}
  (hp : SlS zar wx (fun k => k ≠ b /\ k ≠ E /\ w.heap.size < k /\ k < wx.heap.size) vP' xs')
  (ha : (#[.int .i64 k, .int .i64 i, .int .i64 j, .int .i64 q, vP, .string m] : Array Value).setIfInBounds o v = #[.int .i64 k', .int .i64 i', .int .i64 j', .int .i64 q', vP', .string m']) : ziW w b M E (wx.setCell ⟨E, o, none⟩ v) k' i' j' q' vP' xs' m' := by
 have hb : Below E wx (wx.setCell ⟨E, o, none⟩ v) := (Below.refl _ _).setCell (p := ⟨E, o, none⟩) yL _; refine ⟨h.src.keepB hb yO, h.but.up hb yO, h.box.other (p := ⟨E, o, none⟩) (by show w.heap.size ≠ E; omega) v, ?_, ?_⟩
 · have := h.blk.set o v
   rw [ha] at this; exact this
 · exact (hp.keep fun k hk => Below.heap_setCell wx ⟨E, o, none⟩ v k hk.2.1).more fun k hk => ⟨hk.1, hk.2.1, hk.2.2.1, Nat.lt_of_lt_of_le hk.2.2.2 hb.size⟩
theorem ziW.fin (h : ziW w b M E wx k i j q vP xs m) (hlt : b < w.heap.size) (v0 v1 v2 v3 v4 v5 : Value) :
  let W := (((((wx.setCell ⟨w.heap.size, 0, none⟩ v0).setCell ⟨w.heap.size, 1, none⟩ v1).setCell ⟨w.heap.size, 2, none⟩ v2).setCell ⟨w.heap.size, 3, none⟩ v3).setCell ⟨w.heap.size, 4, none⟩ v4).setCell ⟨w.heap.size, 5, none⟩ v5
  SlS zar W (fun k => k ≠ b /\ w.heap.size < k /\ k < W.heap.size) vP xs /\ Src W b M /\ But b w W /\ Blk W w.heap.size #[v0, v1, v2, v3, v4, v5] 37 := by
 intro W; have hb : Below w.heap.size wx W := ((((((Below.refl _ wx).setCell (p := ⟨w.heap.size, 0, none⟩) yL v0).setCell (p := ⟨w.heap.size, 1, none⟩) yL v1).setCell (p := ⟨w.heap.size, 2, none⟩) yL v2).setCell (p := ⟨w.heap.size, 3, none⟩) yL v3).setCell (p := ⟨w.heap.size, 4, none⟩) yL v4).setCell (p := ⟨w.heap.size, 5, none⟩) yL v5
 have hk : ∀ k, k ≠ w.heap.size -> W.heap[k]? = wx.heap[k]? := fun k hk =>
  (Below.heap_setCell _ ⟨w.heap.size, 5, none⟩ v5 k hk).trans ((Below.heap_setCell _ ⟨w.heap.size, 4, none⟩ v4 k hk).trans ((Below.heap_setCell _ ⟨w.heap.size, 3, none⟩ v3 k hk).trans ((Below.heap_setCell _ ⟨w.heap.size, 2, none⟩ v2 k hk).trans ((Below.heap_setCell _ ⟨w.heap.size, 1, none⟩ v1 k hk).trans (Below.heap_setCell _ ⟨w.heap.size, 0, none⟩ v0 k hk)))))
 exact ⟨(h.part.keep fun k hx => hk k (Nat.ne_of_gt hx.2.2.1)).more fun k hx => ⟨hx.1, hx.2.2.1, Nat.lt_of_lt_of_le hx.2.2.2 hb.size⟩, h.src.keepB hb hlt, h.but.up hb yL, (((((h.box.set 0 v0).set 1 v1).set 2 v2).set 3 v3).set 4 v4).set 5 v5⟩
end
def JOk (k : Int) (y j n : Nat) : Prop := (zbq k = false /\ j = 0) \/ (zbq k = true /\ y <= j /\ j <= n /\ j <= 131070)
def KOk (k q : Int) : Prop := (zbu k = false /\ q = 0) \/ (zbu k = true /\ 0 <= q /\ q <= 1000000000000000)
def POk (k : Int) (xs : List zaa) : Prop := (k ≠ 1 /\ xs = []) \/ (k = 1 /\ zag xs = true /\ 0 < xs.length /\ zaY xs /\ (xs.length <= 14 /\ zaF xs <= 5))
def MOk (k : Int) (m : ByteArray) : Prop := (k ≠ 7 /\ m = ⟨#[]⟩) \/ (k = 7 /\ m ∈ zfM)
theorem zqf {k q : Int} {y j n : Nat} {xs : List zaa} {m : ByteArray} (hk7 : inR k 1 7 = true) (hy : y <= 65535) (hj : JOk k y j n) (hq : KOk k q) (hx : POk k xs) (hm : MOk k m) :
  zat ⟨k, y, j, q, xs, m⟩ = true /\ m.size <= 4 /\ (xs.length <= 14 /\ zaF xs <= 5) /\ zaY xs := by
 have nS : zaY [] := fun r hr => absurd hr yS; have s0 : (⟨#[]⟩ : ByteArray).size <= 4 := by decide
 rcases zeo hk7 with rfl | rfl | rfl | rfl | rfl | rfl | rfl <;> simp [JOk, KOk, POk, MOk, zbq, zbu] at hj hq hx hm
 · subst hj hq hm
   exact ⟨znA ⟨by omega, by omega⟩ hx.1 hx.2.1, s0, hx.2.2.2, hx.2.2.1⟩
 · subst hq hm hx
   exact ⟨zkD (.inl rfl) ⟨by omega, by omega, by omega⟩, s0, ⟨by simp, by decide⟩, nS⟩
 · subst hm hx
   exact ⟨znB (.inl rfl) ⟨by omega, by omega, by omega⟩ hq, s0, ⟨by simp, by decide⟩, nS⟩
 · subst hm hx
   exact ⟨znB (.inr (.inl rfl)) ⟨by omega, by omega, by omega⟩ hq, s0, ⟨by simp, by decide⟩, nS⟩
 · subst hq hm hx
   exact ⟨zkD (.inr rfl) ⟨by omega, by omega, by omega⟩, s0, ⟨by simp, by decide⟩, nS⟩
 · subst hm hx
   exact ⟨znB (.inr (.inr rfl)) ⟨by omega, by omega, by omega⟩ hq, s0, ⟨by simp, by decide⟩, nS⟩
 · subst hq hx
   have h4 := zkE _ hm; exact ⟨zqe ⟨by omega, by omega, by omega⟩ h4.1 h4.2, by omega, ⟨by simp, by decide⟩, nS⟩
theorem zgs (b N : Nat) (n : Int) (w : World) (h : Src w b N) (hN : N <= 700000) (hn : 0 <= n /\ n <= 2000000000000000) :
  Calls Tryz.prog 51 #[.pointer (some ⟨b, 0, none⟩), .int .i64 n] w (zpl b N w) := by
 have hlt := h.lt; have HS := yq h; clear h; obtain ⟨n, rfl⟩ := Int.eq_ofNat_of_zero_le hn.1; have hn9 : n <= 2000000000000000 := by omega
 clear hn; have wn : IntKind.i64.wrap ((n : Int) + 1) = (n : Int) + 1 := IntWalk.i64_in _ yO; have HS0 := yq (HS.o.keep ((Below.refl _ w).alloc yL (.cells #[.int .i64 0, .int .i64 0, .int .i64 0, .int .i64 0, .slice none 0 0, .string ⟨#[]⟩] 37))); go_enter Tryz.func51, Tryz.ntmps51
 go_wp2_with fail
 refine (zb2 b N 7 _ HS0.o yO).mono ?_
 rintro r w1 ⟨x, rfl, hx, _, hs1, hb1⟩; have HR1 := yq (Blk.but (Blk.new w (#[.int .i64 0, .int .i64 0, .int .i64 0, .int .i64 0, .slice none 0 0, .string ⟨#[]⟩] : Array Value) 37) hb1 yO); have HB1 := yq ((But.of ((Below.refl _ w).alloc yL (.cells #[.int .i64 0, .int .i64 0, .int .i64 0, .int .i64 0, .slice none 0 0, .string ⟨#[]⟩] 37))).trans hb1); have z1 : w.heap.size < w1.heap.size := HR1.o.lt; have hx6 : x <= 6 := by omega
 have wk : IntKind.i64.wrap (1 + (x : Int)) = 1 + (x : Int) := IntWalk.i64_in _ yO; have HS1 := yq hs1; clear hs1 hb1 hx HS0 HS; go_wp2_with fail
 have ba := (Below.refl _ w1).alloc yL (.cells #[.int .i64 (1 + (x : Int)), .int .i64 0, .int .i64 0, .int .i64 0, .slice none 0 0, .string ⟨#[]⟩] 37)
 have st0 : ziW w b (N + 2) w1.heap.size (w1.alloc (.cells #[.int .i64 (1 + (x : Int)), .int .i64 0, .int .i64 0, .int .i64 0, .slice none 0 0, .string ⟨#[]⟩] 37)) (1 + (x : Int)) 0 0 0 (.slice none 0 0) [] ⟨#[]⟩ :=
  ⟨HS1.o.keep ba, HB1.o.tr ba, HR1.o.alloc _, Blk.new _ _ _, SlS.nil _ _⟩
 refine (zb2 b (N + 2) ((n : Int) + 1) _ st0.src yO).mono ?_
 rintro r w2 ⟨y, rfl, hy, hy6, hs2, hb2⟩; have st2 := st0.pick hb2 hs2 hlt z1; have hyn : y <= n := by omega
 obtain ⟨k, hk⟩ : ∃ k : Int, 1 + (x : Int) = k := ⟨_, rfl⟩
 obtain ⟨E, hE⟩ : ∃ E, w1.heap.size = E := ⟨_, rfl⟩
 have hk7 : inR k 1 7 = true := by rw [<- hk]; simp [inR]; omega
 rw [hk, hE] at st2; rw [hE] at z1; rw [hk, hE]; clear st0 ba HS1 HR1 HB1 hs2 hb2 hy wk; have fz := Blk.frozen st2.blk 1; have ce := Blk.cell (i := 1) (v := .int .i64 0) st2.blk rfl; have cK := Blk.cell (i := 0) (v := .int .i64 k) st2.blk rfl; have St2 := yq st2; clear st2; go_wp2_with fail
 have st3 := St2.o.put hlt z1 1 (.int .i64 (y : Int)) St2.o.part rfl; refine (zd4 k _ hk7).mono ?_
 rintro r w3 ⟨rfl, hb3⟩; have st4 := st3.up hb3 hlt z1; clear st3 St2 hb3 fz ce cK; obtain ⟨uJ, uK, uP, uM, uS⟩ := zgC hk7; obtain ⟨S, hS⟩ : ∃ S, zcN k = S := ⟨_, rfl⟩
 rw [hS] at uJ uK uP uM uS; rw [hS]; have hSm : S.size <= maxLen := by simp only [maxLen]; omega
 have CJ := zaw S 74 74 _ hSm rfl uJ; have CK := zaw S 75 75 _ hSm rfl uK; have CP := zaw S 80 80 _ hSm rfl uP; have CM := zaw S 77 77 _ hSm rfl uM; clear hS uJ uK uP uM uS hk hE; have St4 := yq st4; clear st4
 go_upto_if 20 with (first
  | (go_at_call 36; refine (CJ.o _).mono ?_; rintro r wh ⟨rfl, rfl⟩))
 go_cut [] (fun wx => ∃ j : Nat, JOk k y j n /\ ziW w b (N + 14) E wx k y j 0 (.slice none 0 0) [] ⟨#[]⟩)
 case first =>
  cases hJ : zbq k with
  | false =>
    go_wp2
    go_meet
    exact ⟨0, .inl ⟨hJ, rfl⟩, St4.o.more yO⟩
  | true =>
    have wj1 : IntKind.i64.wrap ((n : Int) - y) = ((n - y : Nat) : Int) := by rw [IntWalk.i64_in _ yO]; omega
    have wj2 : IntKind.i64.wrap (((n - y : Nat) : Int) + 1) = ((n - y : Nat) : Int) + 1 := IntWalk.i64_in _ yO; have ce := Blk.cell (i := 1) (v := .int .i64 (y : Int)) St4.o.blk rfl; have ced : w3.drew.cell? ⟨E, 1, none⟩ = some (.int .i64 (y : Int)) := ce; have St5 := yq (fun (w5 : World) (M : Nat) (hb : But b w3 w5) (hs : Src w5 b M) => St4.o.pick hb hs hlt z1); go_upto_region 5 with fail
    go_region_held3 (fun w' => w'.cell? ⟨E, 1, none⟩ = some (.int .i64 (y : Int)))
     (first | (with_reducible exact ced) | (with_reducible exact ce) | (with_reducible exact ce5) | (with_reducible exact (ce6 _)))
     (first
       | (go_at_call 49; refine (zb2 b (N + 4) (((n - y : Nat) : Int) + 1) _ (St4.o.src.keep yb) yO).mono ?_; rintro r w5 ⟨z, rfl, hz, _, hs5, hb5⟩; have st5 := St5.o _ _ (But.trans (But.of yb) hb5) hs5; have ce5 := Blk.cell (i := 1) (v := .int .i64 (y : Int)) st5.blk rfl; have fz5 := Blk.frozen st5.blk 2; have cj5 := Blk.cell (i := 2) (v := .int .i64 0) st5.blk rfl; have ce6 := fun v => Blk.cell (i := 1) (v := .int .i64 (y : Int)) (st5.blk.set 2 v) rfl; have wj3 : IntKind.i64.wrap ((y : Int) + z) = ((y + z : Nat) : Int) := (by rw [IntWalk.i64_in _ yO]; omega)))
    go_wp2_with fail
    have St6 := yq (st5.put hlt z1 2 (.int .i64 ((y + z : Nat) : Int)) st5.part rfl); have wj4 : IntKind.i64.wrap (((y + z : Nat) : Int) - y) = (z : Int) := by rw [IntWalk.i64_in _ yO]; omega
    refine (zhn b _ 3 _ St6.o.src yO).mono ?_
    rintro r w7 ⟨t, rfl, hs7, hb7⟩; have st7 := St6.o.pick hb7 hs7 hlt z1; clear hs7 hb7 St6 st5 ce5 fz5 cj5 ce6 St5 ce ced hs5 hb5; have c1 := Blk.cell (i := 1) (v := .int .i64 (y : Int)) st7.blk rfl; have c2 := Blk.cell (i := 2) (v := .int .i64 ((y + z : Nat) : Int)) st7.blk rfl; have f2 := Blk.frozen st7.blk 2; have St7 := yq st7; clear st7; cases t with
    | false =>
      go_wp2_with fail
      go_meet
      exact ⟨y + z, .inr ⟨hJ, by omega, by omega, by omega⟩, St7.o.more yO⟩
    | true =>
      by_cases h5 : (5 : Int) < (z : Int)
      · have c1d : w7.drew.cell? ⟨E, 1, none⟩ = some (.int .i64 (y : Int)) := c1
        have St8 := yq (fun (w5 : World) (M : Nat) (hb : But b w7 w5) (hs : Src w5 b M) => St7.o.pick hb hs hlt z1); go_upto_region 7 with fail
        go_region_held3 (fun w' => w'.cell? ⟨E, 1, none⟩ = some (.int .i64 (y : Int)))
         (first | (with_reducible exact c1d) | (with_reducible exact c1) | (with_reducible exact ce5) | (with_reducible exact (ce6 _)))
         (first
           | (go_at_call 49; refine (zb2 b (N + 8) 6 _ (St7.o.src.keep yb) yO).mono ?_; rintro r w8 ⟨u, rfl, hu, _, hs5, hb5⟩; have st5 := St8.o _ _ (But.trans (But.of yb) hb5) hs5; have ce5 := Blk.cell (i := 1) (v := .int .i64 (y : Int)) st5.blk rfl; have fz5 := Blk.frozen st5.blk 2; have cj5 := Blk.cell (i := 2) (v := .int .i64 ((y + z : Nat) : Int)) st5.blk rfl; have ce6 := fun v => Blk.cell (i := 1) (v := .int .i64 (y : Int)) (st5.blk.set 2 v) rfl; have wj3 : IntKind.i64.wrap ((y : Int) + u) = ((y + u : Nat) : Int) := (by rw [IntWalk.i64_in _ yO]; omega)))
        go_wp2_with fail
        go_meet
        exact ⟨y + u, .inr ⟨hJ, by omega, by omega, by omega⟩, (st5.put hlt z1 2 (.int .i64 ((y + u : Nat) : Int)) st5.part rfl).more yO⟩
      · go_wp2_with fail
        go_meet
        exact ⟨y + z, .inr ⟨hJ, by omega, by omega, by omega⟩, St7.o.more yO⟩
 case rest =>
  obtain ⟨j, hj, st8⟩ := hcut; have St8 := yq st8; clear st8 St4 CJ
  go_upto_if 49 with (first
   | (go_at_call 36; refine (CK.o _).mono ?_; rintro r wh ⟨rfl, rfl⟩))
  go_cut [] (fun wx => ∃ q : Int, KOk k q /\ ziW w b (N + 28) E wx k y j q (.slice none 0 0) [] ⟨#[]⟩)
  case first =>
   cases hK : zbu k with
   | false =>
     go_wp2_with fail
     go_meet
     exact ⟨0, .inl ⟨hK, rfl⟩, St8.o.more yO⟩
   | true =>
     go_wp2_with fail
     refine (zb2 b _ ((n : Int) + 1) _ St8.o.src yO).mono ?_
     rintro r w9 ⟨κ, rfl, hκ, _, hs9, hb9⟩; have st9 := St8.o.pick hb9 hs9 hlt z1; have hκn : κ <= n := by omega
     have hjn : j <= n := by rcases hj with hj | hj <;> omega
     have hj13 : j <= 131070 := by rcases hj with hj | hj <;> omega
     clear hs9 hb9 St8 hκ; have c3 := Blk.cell (i := 3) (v := .int .i64 0) st9.blk rfl; have f3 := Blk.frozen st9.blk 3; have c0 := Blk.cell (i := 0) (v := .int .i64 k) st9.blk rfl; have St9 := yq (st9.put hlt z1 3 (.int .i64 (κ : Int)) st9.part rfl); have d0 := Blk.cell (i := 0) (v := .int .i64 k) St9.o.blk rfl; have d1 := Blk.cell (i := 1) (v := .int .i64 (y : Int)) St9.o.blk rfl; have d2 := Blk.cell (i := 2) (v := .int .i64 (j : Int)) St9.o.blk rfl; have d3 := Blk.cell (i := 3) (v := .int .i64 (κ : Int)) St9.o.blk rfl; have e3 := Blk.frozen St9.o.blk 3; clear st9
     have hk3 : k = 3 \/ k = 4 \/ k = 6 := by
      simp only [zbu, Bool.or_eq_true, beq_iff_eq] at hK
      omega
     rcases hk3 with rfl | rfl | rfl
     · go_wp2_with fail
       go_meet
       exact ⟨κ, .inr ⟨hK, by omega, by omega⟩, St9.o.more yO⟩
     · by_cases k1 : (y : Int) < (κ : Int)
       · by_cases k2 : (κ : Int) < (j : Int)
         · go_wp2_with fail
           go_meet
           exact ⟨j, .inr ⟨hK, by omega, by omega⟩, (St9.o.put hlt z1 3 (.int .i64 (j : Int)) St9.o.part rfl).more yO⟩
         · go_wp2_with fail
           go_meet
           exact ⟨κ, .inr ⟨hK, by omega, by omega⟩, St9.o.more yO⟩
       · go_wp2_with fail
         go_meet
         exact ⟨κ, .inr ⟨hK, by omega, by omega⟩, St9.o.more yO⟩
     · go_wp2_with fail
       refine (zb2 b _ 4 _ St9.o.src yO).mono ?_
       rintro r w10 ⟨ρ, rfl, hρ, _, hs10, hb10⟩; have st10 := St9.o.pick hb10 hs10 hlt z1; have hρn : ρ <= 3 := by omega
       clear hs10 hb10 St9 hρ d0 d1 d2 d3 e3; have c3 := Blk.cell (i := 3) (v := .int .i64 (κ : Int)) st10.blk rfl; have f3 := Blk.frozen st10.blk 3; have St10 := yq (st10.put hlt z1 3 (.int .i64 (ρ : Int)) st10.part rfl); clear st10; go_wp2_with fail
       refine (zhn b _ 12 _ St10.o.src yO).mono ?_
       rintro r w11 ⟨t2, rfl, hs11, hb11⟩; have St11 := yq (St10.o.pick hb11 hs11 hlt z1); clear hs11 hb11 St10 c3 f3; cases t2 with
       | false =>
         go_wp2_with fail
         go_meet
         exact ⟨ρ, .inr ⟨hK, by omega, by omega⟩, St11.o.more yO⟩
       | true =>
         go_wp2_with fail
         have ba := (Below.refl _ w11).alloc yL (.cells #[.int .i64 1000, .int .i64 1000000000000000, .int .i64 100000] 2); refine (znv b _ _ [1000, 1000000000000000, 100000] _ (St11.o.src.keep ba) yO (zou [1000, 1000000000000000, 100000] St11.o.src.lt rfl (by decide)) (by decide) (by decide)).mono ?_
         rintro r w12 ⟨q, hq, rfl, hs12, hb12⟩; have st12 := (St11.o.up ba hlt z1).pick hb12 hs12 hlt z1; have hq2 : 0 <= q /\ q <= 1000000000000000 := by simp at hq; omega
         have c3 := Blk.cell (i := 3) (v := .int .i64 (ρ : Int)) st12.blk rfl; have f3 := Blk.frozen st12.blk 3; have St12 := yq st12; clear hs12 hb12 St11 ba st12; go_wp2_with fail
         go_meet
         exact ⟨q, .inr ⟨hK, hq2⟩, (St12.o.put hlt z1 3 (.int .i64 q) St12.o.part rfl).more yO⟩
  case rest =>
   obtain ⟨q, hq, st9⟩ := hcut; have St9 := yq st9; clear st9 St8 CK
   go_upto_if 88 with (first
    | (go_at_call 36; refine (CP.o _).mono ?_; rintro r wh ⟨rfl, rfl⟩))
   go_cut [] (fun wx => ∃ (A : Option Addr) (c : Nat) (xs : List zaa), POk k xs /\ ziW w b (N + 228) E wx k y j q (.slice A xs.length c) xs ⟨#[]⟩)
   case first =>
    cases hP : (k == 1) with
    | false =>
      go_wp2_with fail
      go_meet
      exact ⟨none, 0, [], .inl ⟨by simpa using hP, rfl⟩, St9.o.more yO⟩
    | true =>
      go_wp2_with fail
      refine (zgr b _ 5 _ St9.o.src yO).mono ?_
      rintro r w10 ⟨v9, xs, rfl, hsl9, hok9, hl9, hs9, hb9⟩; have st10 := St9.o.pick hb9 hs9 hlt z1; have zE := St9.o.blk.lt; have hsl : SlS zar w10 (fun k => k ≠ b /\ k ≠ E /\ w.heap.size < k /\ k < w10.heap.size) v9 xs := hsl9.more fun k hk => ⟨by omega, by omega, by omega, hk.2⟩
      obtain ⟨A9, c9, rfl, _⟩ := hsl9; have c4 := Blk.cell (i := 4) (v := .slice none 0 0) st10.blk rfl; have f4 := Blk.frozen st10.blk 4; have St10 := yq (st10.put hlt z1 4 (.slice A9 xs.length c9) hsl rfl); clear hs9 hb9 St9 st10 hsl; go_wp2_with fail
      go_meet
      exact ⟨A9, c9, xs, .inr ⟨by simpa using hP, hok9.1, hok9.2.1, hok9.2.2.2, hl9, hok9.2.2.1 (by decide)⟩, St10.o.more yO⟩
   case rest =>
    obtain ⟨A, c, xs, hx, st10⟩ := hcut; have St10 := yq st10; clear st10 St9 CP
    go_upto_if 93 with (first
     | (go_at_call 36; refine (CM.o _).mono ?_; rintro r wh ⟨rfl, rfl⟩))
    go_cut [] (fun wx => ∃ m : ByteArray, MOk k m /\ ziW w b (N + 240) E wx k y j q (.slice A xs.length c) xs m)
    case first =>
     cases hM : (k == 7) with
     | false =>
       go_wp2_with fail
       go_meet
       exact ⟨_, .inl ⟨by simpa using hM, rfl⟩, St10.o.more yO⟩
     | true =>
       go_wp2_with fail
       have ba := (Below.refl _ wc).alloc yL (.cells (zfM.map Value.string).toArray 9); refine (zos b _ _ zfM _ (St10.o.src.keep ba) yO (zov zfM St10.o.src.lt rfl (by decide)) (by decide) (by decide)).mono ?_
       rintro r w12 ⟨m, hm, rfl, hs12, hb12⟩; have st12 := (St10.o.up ba hlt z1).pick hb12 hs12 hlt z1; have c5 := Blk.cell (i := 5) (v := .string ⟨#[]⟩) st12.blk rfl; have f5 := Blk.frozen st12.blk 5; have St12 := yq st12; clear hs12 hb12 St10 ba st12; go_wp2_with fail
       go_meet
       exact ⟨m, .inr ⟨by simpa using hM, hm⟩, (St12.o.put hlt z1 5 (.string m) St12.o.part rfl).more yO⟩
    case rest =>
     obtain ⟨m, hm, st11⟩ := hcut; have St11 := yq st11; have g0 := Blk.cell (i := 0) (v := .int .i64 k) st11.blk rfl; have g1 := Blk.cell (i := 1) (v := .int .i64 (y : Int)) st11.blk rfl; have g2 := Blk.cell (i := 2) (v := .int .i64 (j : Int)) st11.blk rfl; have g3 := Blk.cell (i := 3) (v := .int .i64 q) st11.blk rfl; have g4 := Blk.cell (i := 4) (v := .slice A xs.length c) st11.blk rfl; have g5 := Blk.cell (i := 5) (v := .string m) st11.blk rfl; have r0 := Blk.cell (i := 0) (v := .int .i64 0) st11.box rfl; have r1 := Blk.cell (i := 1) (v := .int .i64 0) st11.box rfl; have r2 := Blk.cell (i := 2) (v := .int .i64 0) st11.box rfl; have r3 := Blk.cell (i := 3) (v := .int .i64 0) st11.box rfl; have r4 := Blk.cell (i := 4) (v := .slice none 0 0) st11.box rfl; have r5 := Blk.cell (i := 5) (v := .string ⟨#[]⟩) st11.box rfl; have q0 := Blk.frozen st11.box 0; have q1 := Blk.frozen st11.box 1; have q2 := Blk.frozen st11.box 2; have q3 := Blk.frozen st11.box 3; have q4 := Blk.frozen st11.box 4; have q5 := Blk.frozen st11.box 5; clear st11 St10 CM; go_wp2_with fail
     obtain ⟨hsl, hsr, hbt, hbk⟩ := St11.o.fin hlt (.int .i64 k) (.int .i64 (y : Int)) (.int .i64 (j : Int)) (.int .i64 q) (.slice A xs.length c) (.string m); obtain ⟨ho, hms, hxl, hxs⟩ := zqf hk7 hy6 hj hq hx hm; clear g0 g1 g2 g3 g4 g5 r0 r1 r2 r3 r4 r5 q0 q1 q2 q3 q4 q5 St11; revert hsl hsr hbt hbk; generalize (((((wc.setCell ⟨w.heap.size, 0, none⟩ (.int .i64 k)).setCell ⟨w.heap.size, 1, none⟩ (.int .i64 (y : Int))).setCell ⟨w.heap.size, 2, none⟩ (.int .i64 (j : Int))).setCell ⟨w.heap.size, 3, none⟩ (.int .i64 q)).setCell ⟨w.heap.size, 4, none⟩ (.slice A xs.length c)).setCell ⟨w.heap.size, 5, none⟩ (.string m) = W; intro hsl hsr hbt hbk; have x0 := Blk.cell (i := 0) (v := .int .i64 k) hbk rfl; have x1 := Blk.cell (i := 1) (v := .int .i64 (y : Int)) hbk rfl; have x2 := Blk.cell (i := 2) (v := .int .i64 (j : Int)) hbk rfl; have x3 := Blk.cell (i := 3) (v := .int .i64 q) hbk rfl; have x4 := Blk.cell (i := 4) (v := .slice A xs.length c) hbk rfl; have x5 := Blk.cell (i := 5) (v := .string m) hbk rfl; exact bodyPost_ret (v := .agg #[.int .i64 k, .int .i64 (y : Int), .int .i64 (j : Int), .int .i64 q, .slice A xs.length c, .string m]) (by simp [results, Tryz.results51, go_sem, x0, x1, x2, x3, x4, x5]) rfl ⟨_, _, ⟨k, y, j, q, xs, m⟩, rfl, rfl, hsl, hxl, hxs, ho, hms, hsr, hbt⟩
theorem zpW {xs : List zaa} {e : zam} {bs : List zam} (ha : zah xs e = 0) (hb : zc1 xs (zde xs) e = some bs) : (∀ b ∈ bs, zat b = true) /\ bs.length <= 2 := by
 have hE := zdg ha; obtain ⟨h1, h2, h3⟩ := zbw ha; obtain ⟨_, ls, hl⟩ := zai h1; have hlq : zde xs = ls := by simp [zde, hl]
 have hgl := zaD hl; have hwl := zbf hl; have hxb := za4 xs; obtain ⟨_, lo, hlo⟩ := zai (zd8 xs e); have hob := za4 (zak xs e); rw [zaD hlo, <- zbf hlo] at hob; obtain ⟨hk, hi, hj, hq, hij, hj0, hgp⟩ := zcI h2; rw [hlq] at hb; rw [hgl] at h3 hxb; unfold zbp at h3; unfold EwP at hE; unfold zc1 at hb; obtain ⟨_, lp, hlp⟩ := zai hgp; have hpl : zaF e.part = (zau e.part).length := by rw [zaD hlp, zbf hlp]
 generalize hU : zau (zak xs e) = U at hE hob; generalize hW : zau xs = W at hE hwl; have hcl : ∀ {i j : Int}, 0 <= i -> i <= j -> j <= W.length -> ((zb4 W i j).length : Int) = j - i := fun a b c => zeS a b c
 have hpart : ∀ {i j : Int}, 0 <= i -> i < j -> j <= zao ls -> 0 < (zap xs ls i j).length := fun {i j} a b c => by
  obtain ⟨lq, hq1, q⟩ := zeY hl a (Int.le_of_lt b) c; rcases Nat.eq_zero_or_pos (zap xs ls i j).length with h0 | h0
  · exfalso
    have hnil : zap xs ls i j = [] := yn h0; rw [hnil, hW] at q; have := hcl a (Int.le_of_lt b) yO; rw [<- q] at this; simp [zau] at this
    omega
  · exact h0
 have one : ∀ {b : zam}, zat b = true -> (∀ x ∈ [b], zat x = true) /\ [b].length <= 2 := fun {b} h => ⟨fun x hx => by simp at hx; subst hx; exact h, by simp⟩
 have two : ∀ {b c : zam}, zat b = true -> zat c = true -> (∀ x ∈ [b, c], zat x = true) /\ [b, c].length <= 2 := fun {b c} h h' => ⟨fun x hx => by simp at hx; rcases hx with rfl | rfl; exact h; exact h', by simp⟩
 have non : (∀ x ∈ ([] : List zam), zat x = true) /\ ([] : List zam).length <= 2 := ⟨fun x hx => absurd hx yS, by simp⟩
 rcases zeo hk with k1 | k1 | k1 | k1 | k1 | k1 | k1
 · rw [if_pos k1] at h3 hE hb
   have h3 : e.i <= zao ls := by simpa using h3
   cases hb
   have hUl := congrArg List.length hE; rw [List.length_append, List.length_append] at hUl; have := hcl (Int.le_refl 0) hi.1 yO; have := hcl hi.1 (show e.i <= (W.length : Nat) by omega) (Int.le_refl _); exact one (zkD (.inl rfl) ⟨hi.1, by omega, by omega⟩)
 · rw [if_neg yO, if_neg yO, if_neg yO] at h3
   have h3 : e.j <= zao ls := by simpa using h3
   have hij := hij yO; rw [if_neg yO] at hb; by_cases h0 : e.j - e.i = 0
   · rw [if_pos h0] at hb; cases hb; exact non
   · rw [if_neg h0, if_neg yO, if_neg yO, if_neg yO] at hb
     split at hb
     · rename_i hg
       cases hb
       unfold zfo; rw [if_pos k1, List.nil_append]; exact one (znA ⟨hi.1, hi.2⟩ hg (hpart hi.1 yO h3))
     · cases hb
 · rw [if_neg yO, if_neg yO, if_pos k1] at hE
   rw [if_neg yO, if_pos k1] at h3; have h3 : e.j <= zao ls /\ e.k <= zao ls := by simpa using h3
   have hij := hij yO; rw [if_neg yO] at hb; by_cases h0 : e.j - e.i = 0
   · rw [if_pos h0] at hb; cases hb; exact non
   · rw [if_neg h0, if_pos k1] at hb
     cases hb
     have hUl := congrArg List.length hE; rw [List.length_append, List.length_append] at hUl; have := hcl (Int.le_refl 0) hq.1 yO; have := hcl hi.1 hij yO; have := hcl hq.1 (show e.k <= (W.length : Nat) by omega) (Int.le_refl _); exact one (zkD (.inl rfl) ⟨hq.1, by omega, by omega⟩)
 · rw [if_neg yO, if_neg yO, if_pos k1] at h3
   have h3 : e.j <= zao ls /\ (e.k <= e.i \/ (e.j <= e.k /\ e.k <= zao ls)) := by simpa using h3
   have hij := hij yO; rw [if_neg yO] at hb; by_cases h0 : e.j - e.i = 0
   · rw [if_pos h0] at hb; cases hb; exact non
   · rw [if_neg h0, if_neg yO, if_pos k1] at hb
     split at hb
     · cases hb
       exact one (znB (.inr (.inl rfl)) ⟨hq.1, by omega, by omega⟩ ⟨hj.1, hj.2⟩)
     · cases hb
       exact one (znB (.inr (.inl rfl)) ⟨by omega, by omega, hq.2⟩ ⟨hi.1, hi.2⟩)
 all_goals
  rw [if_neg yO, if_neg yO, if_neg yO, if_neg yO] at hE; rw [if_neg yO, if_neg yO, if_neg yO] at h3; have h3 : e.j <= zao ls := by simpa using h3
  have hij := hij yO; obtain ⟨M', hE, t5, t6, t7⟩ := hE; rw [if_neg yO] at hb; by_cases h0 : e.j - e.i = 0
  · rw [if_pos h0] at hb; cases hb; exact non
  rw [if_neg h0, if_neg yO, if_neg yO] at hb
 · rw [if_pos k1] at hb
   cases hb
   exact one (zkD (.inr rfl) ⟨hi.1, hij, hj.2⟩)
 · rw [if_neg yO] at hb
   split at hb
   · rename_i hg
     cases hb
     unfold zfo; rw [if_neg yO, if_pos k1]; have hins := znA ⟨hi.1, hi.2⟩ hg (hpart hi.1 yO h3); by_cases hz : 0 < (e.j - e.i) * e.k
     · rw [if_pos hz, List.singleton_append]
       have hrl : (M'.length : Int) = (e.j - e.i) * e.k := by
        rw [t6 k1, ziI, Int.natCast_mul, hcl hi.1 hij yO, Int.mul_comm]; congr 1
        omega
       have hUl := congrArg List.length hE; rw [List.length_append, List.length_append] at hUl; have := hcl (Int.le_refl 0) hi.1 yO; exact two (zkD (.inl rfl) ⟨hi.1, by omega, by omega⟩) hins
     · rw [if_neg hz, List.nil_append]
       exact one hins
   · cases hb
 · rw [if_neg yO] at hb
   split at hb
   · rename_i hg
     cases hb
     unfold zfo; rw [if_neg yO, if_neg yO, List.singleton_append]; exact two (zkD (.inl rfl) ⟨hi.1, hij, hj.2⟩) (znA ⟨hi.1, hi.2⟩ hg (hpart hi.1 yO h3))
   · cases hb
theorem zl2 {xs : List zaa} {es : List zam} {gs : List (List zaa)} (h : zbg xs es = some gs) : ∀ (n : Nat) (bs : List zam), n <= es.length -> zbD gs es n = some bs -> (∀ b ∈ bs, zat b = true) /\ bs.length <= 2 * n := by
 intro n
 induction n with
 | zero =>
   intro bs _ hb; have : bs = [] := by unfold zbD at hb; simp at hb; exact hb
   subst this; exact ⟨fun x hx => absurd hx yS, by simp⟩
 | succ n ih =>
   intro bs hn hb; rw [zca] at hb; cases hb0 : zbD gs es n with
   | none => rw [hb0] at hb; cases hb
   | some b0 =>
     rw [hb0] at hb; unfold zb9 at hb; simp only [Option.bind_some] at hb
     split at hb
     · rename_i hic
       cases hb
       obtain ⟨a1, _⟩ := (zd9 h (es.length - 1 - n) yO).2 yO; obtain ⟨i1, i2⟩ := ih b0 yO hb0
       have hinv : zc1 (gs.getD (es.length - 1 - n) []) (zde (gs.getD (es.length - 1 - n) [])) (es.getD (es.length - 1 - n) noE) = some (zaJ (gs.getD (es.length - 1 - n) []) (es.getD (es.length - 1 - n) noE)) := by
        unfold zay at hic; rw [if_pos a1] at hic; unfold zaJ; rw [if_pos a1]; cases hL : zc1 (gs.getD (es.length - 1 - n) []) (zde (gs.getD (es.length - 1 - n) [])) (es.getD (es.length - 1 - n) noE) with
        | none => rw [hL] at hic; simp at hic
        | some b => rfl
       obtain ⟨j1, j2⟩ := zpW a1 hinv; refine ⟨fun b hb => ?_, by rw [List.length_append]; omega⟩
       rcases List.mem_append.1 hb with hb | hb
       · exact i1 b hb
       · exact j1 b hb
     · cases hb
theorem zpm {xs : List zaa} {es : List zam} {count : Nat} (hx : zag xs = true) (hes : ∀ e ∈ es, zat e = true) (h6 : es.length <= 6) (hcn : count <= es.length) (h : zbE xs es count = 0) :
  zaS (za9 xs es) (zdj xs es count) = 0 /\ (zdj xs es count).length <= 12 /\ (zhl (za9 xs es) (zdj xs es count) = ((zdj xs es count).length : Int) -> zau (za9 (za9 xs es) (zdj xs es count)) = zau (za9 xs (es.take count))) := by
 have hall : (es.all zat) = true := List.all_eq_true.2 hes; have hOut := h; unfold zbE at h; rw [if_pos (by simp [hx, hall]), if_neg yO] at h; unfold zdj; rw [if_pos hOut]; unfold zpt at h |-
 cases hf : zbg xs es with
 | none => rw [hf] at h; simp at h
 | some gs =>
   rw [hf] at h; simp only [Option.map_some, Int.toNat_natCast] at h |-
   cases hb : zbD gs es (es.length - count) with
   | none => rw [hb] at h; simp at h
   | some bs =>
     simp only [Option.getD_some]
     obtain ⟨b1, b2⟩ := zl2 hf _ bs yO hb
     have hnow : za9 xs es = gs.getD es.length [] := by
      have := (zd9 hf es.length yL).1; rw [List.take_length] at this; unfold za9; rw [if_pos (by unfold zaS; rw [if_pos (by simp [hx, hall]), if_neg yO]), this]
     have hallT : ((es.take count).all zat) = true := List.all_eq_true.2 fun e he => hes e (List.mem_of_mem_take he)
     have hold : za9 xs (es.take count) = gs.getD count [] := by
      have := (zd9 hf count hcn).1; unfold za9; rw [if_pos (by unfold zaS; rw [if_pos (by simp [hx, hallT]), if_neg (by rw [List.length_take]; omega)]), this]
     have hg : zag (gs.getD es.length []) = true := by
      rw [yg, ye (by rw [zhm hf]; omega)]; exact zdS hx hf _ (List.getElem_mem _)
     have hc0 : zaS (gs.getD es.length []) bs = 0 := by
      unfold zaS; rw [if_pos (by simp only [hg, Bool.true_and]; exact List.all_eq_true.2 b1), if_neg yO]
     rw [hnow, hold]; refine ⟨hc0, by omega, fun hN => ?_⟩
     unfold zhl at hN; rw [if_pos hc0] at hN; unfold za9; rw [if_pos hc0]; have := zop hf _ bs yO hb hN; rw [show es.length - (es.length - count) = count by omega] at this; exact this
theorem zpn {x : ByteArray} (hw : zaB x = true) (h5 : x.size <= 5) : zag (zaM x) = true := by
 have hO := zcW hw; have hlen := zdM x
 have hW : ∀ f r, (zcD (zaM x) f r).length <= 2 ^ f := by
  intro f
  induction f with
  | zero => intro r; simp [zcD]
  | succ f ih =>
    intro r; rw [zcD]; split
    · have a := ih (zaA (zaM x) r).left.toNat
      have b := ih (zaA (zaM x) r).right.toNat; rw [List.length_append, Nat.pow_succ]; omega
    · rename_i hp
      have h1 : 1 <= 2 ^ (f + 1) := Nat.one_le_two_pow; by_cases hr : r < (zaM x).length
      · have hk := hO r _ (zcm hr)
        have := (zce hk (by simpa using hp)).1; have e : (zaA (zaM x) r).letter.data.toList.length = (zaA (zaM x) r).letter.size := by rw [Array.length_toList]; rfl
        omega
      · exfalso
        apply hp
        unfold zaA; rw [yg, List.getElem?_eq_none yO]
        rfl
 obtain ⟨ls, hl⟩ := zij hO fun r hr => by
  have h1 := hW (r + 1) r; have h2 : 2 ^ (r + 1) <= 2 ^ 9 := Nat.pow_le_pow_right (by decide) yO; have h3 : (2 : Nat) ^ 9 = 512 := by decide
  show ((zcD (zaM x) (r + 1) r).length : Int) <= ze2
  unfold ze2; omega
 unfold zag; rw [hl]; simp
 omega
theorem zpo {e : zam} (h : zat e = true) (h5 : zaF e.part <= 5) : ∃ e', zcY (zoq e) = some e' := by
 obtain ⟨hk, hi, hj, hq, hij, hj0, hgp⟩ := zcI h; obtain ⟨_, lp, hlp⟩ := zai hgp; have hpl : zaF e.part = (zau e.part).length := by rw [zaD hlp, zbf hlp]
 have hw2 : (zau e.part).length <= 5 := by omega
 have het : etV e = etL e := by
  unfold etV; rw [if_pos h]; have : (e.kind == 1 && decide (2000 < (zau e.part).length)) = false := by simp; intro _; omega
  rw [this]; simp
 have hcut : zcl 32 (zoq e) = (zgw e).map (fun u => (⟨u.toArray⟩ : ByteArray)) := by
  unfold zcl zoq; show (spl 32 [] (etV e)).map _ = _
  rw [het, ziK hk, zkX _ (by simp [zgw]) (zjB h)]
 have hd : ∀ {n : Int}, 0 <= n -> n <= 1000000000000000 -> zfP (dec n) = true /\ zff (dec n) = n := fun a b => zkZ a b
 have hkf : kf (⟨(zcO e.kind).toArray⟩ : ByteArray) 8 = e.kind := by
  obtain ⟨κ, hκ⟩ := Int.eq_ofNat_of_zero_le (show 0 <= e.kind by have : 1 <= e.kind /\ e.kind <= 7 := (by simpa [inR] using hk); omega); have hk' : 1 <= e.kind /\ e.kind <= 7 := by simpa [inR] using hk
  rw [hκ]; exact zo9 yO yO rfl
 have hk0 : ¬ e.kind = 0 := by
  have : 1 <= e.kind /\ e.kind <= 7 := by simpa [inR] using hk
  omega
 have huse : (zcN e.kind).size = (zcN e.kind).data.toList.length := by rw [Array.length_toList]; rfl
 have hraw := h; unfold zat at hraw; simp only [Bool.and_eq_true] at hraw
 obtain ⟨⟨⟨⟨⟨⟨⟨_, _⟩, nj⟩, nk⟩, _⟩, np⟩, _⟩, nm⟩ := hraw
 have s0 : ∀ (x : ByteArray), x.size = 0 -> x = ⟨#[]⟩ := fun x hx => by
  apply ByteArray.ext
  exact Array.eq_empty_of_size_eq_zero hx
 rcases zmZ hk with ⟨s1, s2, s3, s4, s5⟩ | ⟨s1, s2, s3, s4, s5⟩ | ⟨s1, s2, s3, s4, s5⟩ | ⟨s1, s2, s3, s4, s5⟩
 · have hL : zcl 32 (zoq e) = [⟨(zcO e.kind).toArray⟩, ⟨(dec e.i).toArray⟩, ⟨(zau e.part).toArray⟩] := by
    rw [hcut]; simp [zgw, s1, s2, s3, s4]
   have hk1 : e.kind = 1 := by simpa using s3
   have hpos : 0 < e.part.length := by rw [s3] at np; simpa using np
   have hok := zpx hlp (e.part.length - 1) yO; rw [<- za6 hpos] at hok; have hsz : (⟨(zau e.part).toArray⟩ : ByteArray).size = (zau e.part).length := by show (zau e.part).toArray.size = _; simp
   have hwx : zaB (⟨(zau e.part).toArray⟩ : ByteArray) = true := by
    unfold zaB; simp only [Bool.and_eq_true, decide_eq_true_eq]
    refine ⟨by omega, by simpa using hok⟩
   have hpg := zpn hwx yO; have hge := zjA hwx
   have hwp : 0 < (zau e.part).length := by
    have h1 := zeb hlp (e.part.length - 1) yO; have h2 := zaO hlp (r := e.part.length - 1) yO; rw [<- za6 hpos] at h1; omega
   rw [zfF hL hkf]; unfold rdK; rw [if_neg hk0, if_neg (by rw [huse, s5]; simp), s5]
   have hrun := (zm0 (κ := e.kind) (x1 := ⟨(dec e.i).toArray⟩) (x2 := ⟨(zau e.part).toArray⟩) (e := ⟨e.kind, e.i, 0, 0, zaM ⟨(zau e.part).toArray⟩, ⟨#[]⟩⟩)).2 ⟨⟨by simpa using (hd hi.1 hi.2).1, hwx, by omega⟩, by
    have := (hd hi.1 hi.2).2
    simp [this]⟩
   rw [show ([⟨(zcO e.kind).toArray⟩, ⟨(dec e.i).toArray⟩, ⟨(zau e.part).toArray⟩] : List ByteArray).tail = [⟨(dec e.i).toArray⟩, ⟨(zau e.part).toArray⟩] from rfl, hrun]
   have hfin : zat ⟨e.kind, e.i, 0, 0, zaM ⟨(zau e.part).toArray⟩, ⟨#[]⟩⟩ = true := by
    rw [hk1]; exact znA ⟨hi.1, hi.2⟩ hpg yO
   exact ⟨_, by simp only [hfin, if_true]; rfl⟩
 · have hL : zcl 32 (zoq e) = [⟨(zcO e.kind).toArray⟩, ⟨(dec e.i).toArray⟩, ⟨(dec e.j).toArray⟩] := by
    rw [hcut]; simp [zgw, s1, s2, s3, s4]
   rw [zfF hL hkf]; unfold rdK; rw [if_neg hk0, if_neg (by rw [huse, s5]; simp), s5]
   have hrun := (zm1 (κ := e.kind) (x1 := ⟨(dec e.i).toArray⟩) (x2 := ⟨(dec e.j).toArray⟩) (e := ⟨e.kind, e.i, e.j, 0, [], ⟨#[]⟩⟩)).2 ⟨⟨by simpa using (hd hi.1 hi.2).1, by simpa using (hd hj.1 hj.2).1⟩, by
    have := (hd hi.1 hi.2).2; have := (hd hj.1 hj.2).2
    simp [*]⟩
   rw [show ([⟨(zcO e.kind).toArray⟩, ⟨(dec e.i).toArray⟩, ⟨(dec e.j).toArray⟩] : List ByteArray).tail = [⟨(dec e.i).toArray⟩, ⟨(dec e.j).toArray⟩] from rfl, hrun]; have hk0' : e.k = 0 := by rw [s2] at nk; simpa [zaK] using nk
   have hp0 : e.part = [] := by rw [s3] at np; exact yn (by simpa using np)
   have hm0 : e.map = ⟨#[]⟩ := by rw [s4] at nm; exact s0 _ (by simpa using nm)
   have : (⟨e.kind, e.i, e.j, 0, [], ⟨#[]⟩⟩ : zam) = e := by
    obtain ⟨a, b, c, d, p, m⟩ := e; simp only at hk0' hp0 hm0
    subst hk0' hp0 hm0; rfl
   rw [this]; exact ⟨e, by simp only [h, if_true]⟩
 · have hL : zcl 32 (zoq e) = [⟨(zcO e.kind).toArray⟩, ⟨(dec e.i).toArray⟩, ⟨(dec e.j).toArray⟩, ⟨(dec e.k).toArray⟩] := by
    rw [hcut]; simp [zgw, s1, s2, s3, s4]
   rw [zfF hL hkf]; unfold rdK; rw [if_neg hk0, if_neg (by rw [huse, s5]; simp), s5]
   have hrun := (zkp (κ := e.kind) (x1 := ⟨(dec e.i).toArray⟩) (x2 := ⟨(dec e.j).toArray⟩) (x3 := ⟨(dec e.k).toArray⟩) (e := ⟨e.kind, e.i, e.j, e.k, [], ⟨#[]⟩⟩)).2 ⟨⟨by simpa using (hd hi.1 hi.2).1, by simpa using (hd hj.1 hj.2).1, by simpa using (hd hq.1 hq.2).1⟩, by
    have := (hd hi.1 hi.2).2; have := (hd hj.1 hj.2).2; have := (hd hq.1 hq.2).2
    simp [*]⟩
   rw [show ([⟨(zcO e.kind).toArray⟩, ⟨(dec e.i).toArray⟩, ⟨(dec e.j).toArray⟩, ⟨(dec e.k).toArray⟩] : List ByteArray).tail = [⟨(dec e.i).toArray⟩, ⟨(dec e.j).toArray⟩, ⟨(dec e.k).toArray⟩] from rfl, hrun]; have hp0 : e.part = [] := by rw [s3] at np; exact yn (by simpa using np)
   have hm0 : e.map = ⟨#[]⟩ := by rw [s4] at nm; exact s0 _ (by simpa using nm)
   have : (⟨e.kind, e.i, e.j, e.k, [], ⟨#[]⟩⟩ : zam) = e := by
    obtain ⟨a, b, c, d, p, m⟩ := e; simp only at hp0 hm0
    subst hp0 hm0; rfl
   rw [this]; exact ⟨e, by simp only [h, if_true]⟩
 · have hL : zcl 32 (zoq e) = [⟨(zcO e.kind).toArray⟩, ⟨(dec e.i).toArray⟩, ⟨(dec e.j).toArray⟩, e.map] := by
    rw [hcut]; simp [zgw, s1, s2, s3, s4]
   rw [zfF hL hkf]; unfold rdK; rw [if_neg hk0, if_neg (by rw [huse, s5]; simp), s5]
   have hrun := (zkq (κ := e.kind) (x1 := ⟨(dec e.i).toArray⟩) (x2 := ⟨(dec e.j).toArray⟩) (x3 := e.map) (e := ⟨e.kind, e.i, e.j, 0, [], e.map⟩)).2 ⟨⟨by simpa using (hd hi.1 hi.2).1, by simpa using (hd hj.1 hj.2).1⟩, by
    have := (hd hi.1 hi.2).2; have := (hd hj.1 hj.2).2
    simp [*]⟩
   rw [show ([⟨(zcO e.kind).toArray⟩, ⟨(dec e.i).toArray⟩, ⟨(dec e.j).toArray⟩, e.map] : List ByteArray).tail = [⟨(dec e.i).toArray⟩, ⟨(dec e.j).toArray⟩, e.map] from rfl, hrun]; have hk0' : e.k = 0 := by rw [s2] at nk; simpa [zaK] using nk
   have hp0 : e.part = [] := by rw [s3] at np; exact yn (by simpa using np)
   have : (⟨e.kind, e.i, e.j, 0, [], e.map⟩ : zam) = e := by
    obtain ⟨a, b, c, d, p, m⟩ := e; simp only at hk0' hp0
    subst hk0' hp0; rfl
   rw [this]; exact ⟨e, by simp only [h, if_true]⟩
end Go.Proofs.YtejgbfgocaggfaaGreatDoor
namespace Go.Proofs
open Go.Shelf
end Go.Proofs
namespace Go.Proofs.YtejgbfgocaggfaaGreatDoor
open Go.RowKit
section
variable {α : Type} {E : Enc α} {w w1 w2 : World} {o : Obj} {v : Value} {xs : List α}
end
theorem zl3 (v v' : Value) (l l' : List UInt8) (w : World) (h : Sl zfl w w.heap.size v l) (h' : Sl zfl w w.heap.size v' l') :
  Calls Tryz.prog 4 #[v, v'] w fun e w' => e = .returned (.bool (decide ((3000 : Int) < l.length) || decide ((3000 : Int) < l'.length))) /\ w = w' := by
 obtain ⟨A, c, rfl, _⟩ := h; obtain ⟨A', c', rfl, _⟩ := h'; by_cases h1 : (3000 : Int) < (l.length : Int)
 · go_enter Tryz.func4, Tryz.ntmps4
   go_wp2_with fail
   go_ret
   exact ⟨zaf (by simp [h1]), rfl⟩
 · have e1 : decide ((3000 : Int) < (l.length : Int)) = false := by simp; omega
   go_enter Tryz.func4, Tryz.ntmps4
   go_wp2_with fail
   go_ret
   exact ⟨zaf (by first | rfl | (simp [e1]; done) | simp), rfl⟩
theorem zow (v : Value) (l : List UInt8) (i n : Int) (w : World) (h : Sl zfl w w.heap.size v l) (hi : 0 <= i) (hn : n <= 1000000000000000) :
  Calls Tryz.prog 7 #[v, .int .i64 i, .int .i64 n] w fun e w' => ∃ x : Int, e = .returned (.int .i64 x) /\ 0 <= x /\ (x = 0 \/ x < n) /\ w = w' := by
 have HL := yq h; obtain ⟨A, c, rfl, _⟩ := h; obtain ⟨i, rfl⟩ := Int.eq_ofNat_of_zero_le hi; by_cases h1 : (l.length : Int) <= (i : Int)
 · go_enter Tryz.func7, Tryz.ntmps7
   go_wp2_with fail
   go_ret
   exact ⟨0, rfl, by omega, .inl rfl, rfl⟩
 · by_cases h2 : n < 1
   · go_enter Tryz.func7, Tryz.ntmps7
     go_wp2_with fail
     go_ret
     exact ⟨0, rfl, by omega, .inl rfl, rfl⟩
   · obtain ⟨m, rfl⟩ := Int.eq_ofNat_of_zero_le (show 0 <= n by omega)
     have hm0 : ¬ (m : Int) = 0 := by omega
     obtain ⟨_, _, ev, _, _, hrow⟩ := HL.o; injection ev with ev1 ev2 ev3; subst ev1; obtain ⟨bc, oc, rfl, hbc, hcs⟩ := hrow yO; have hlt : i < l.length := by omega
     obtain ⟨cs, hcs1, hcs2⟩ := hcs i l[i] (ye hlt); have hcs1' : cs = [.int .u8 (l[i].toNat : Int)] := hcs1; subst hcs1'; have hcx := hcs2 0 _ rfl; have e1 : oc + (i * zfl.size + 0) = oc + i := by show oc + (i * 1 + 0) = oc + i; omega
     rw [e1] at hcx; have hb := l[i].toNat_lt; obtain ⟨z, hz⟩ : ∃ z : Nat, l[i].toNat = z := ⟨_, rfl⟩
     rw [hz] at hcx hb; clear hcs hcs1 hcs2 hrow e1 hz; go_enter Tryz.func7, Tryz.ntmps7
     go_wp2_with fail
     go_ret
     refine ⟨((z % m : Nat) : Int), rfl, by omega, .inr ?_, rfl⟩
     have := Nat.mod_lt z (show 0 < m by omega); omega
theorem ziX (v : Value) (l : List UInt8) (most : Int) (w : World) (h : Sl zfl w w.heap.size v l) :
  Calls Tryz.prog 5 #[v, .int .i64 most] w fun e w' => ∃ u xs, e = .returned (.agg #[u]) /\ Sl zar w' w'.heap.size u xs /\ zhp most xs /\ xs.length <= 14 /\ Below w.heap.size w w' := by
 have HL := yq h; obtain ⟨A, c, rfl, _⟩ := h; go_enter Tryz.func5, Tryz.ntmps5
 go_wp2_with fail
 have ba := (Below.refl _ w).alloc yL (.cells #[.slice none 0 0] 26); refine (zk9 _ l _ (HL.o.up ba)).mono ?_
 rintro r w1 ⟨b, rfl, hb, hs, hb1⟩; have KR1 := yq (Blk.up (Blk.new w #[.slice none 0 0] 26) hb1); have hbz : w.heap.size < b := by simp at hb; omega
 have HS := yq hs; have HB := yq (ba.trans (hb1.mono ba.size)); have hz1 : w.heap.size < w1.heap.size := KR1.o.lt; clear hs hb1 ba hb; go_wp2_with fail
 refine (zgr b 0 most _ HS.o yO).mono ?_
 rintro r w2 ⟨u, xs, rfl, hsl, hok, hl, _, hb2⟩; have KR2 := KR1.o.but hb2 yO; have cR := Blk.cell (i := 0) (v := .slice none 0 0) KR2 rfl; have zR := Blk.frozen KR2 0; have hz2 := hb2.size; have HB2 := yq (HB.o.trans (hb2.below (B := w.heap.size) yO yO)); have HSL := yq hsl; clear hsl hb2 KR2; obtain ⟨AX, cX, rfl, _⟩ := HSL.o; go_wp2_with fail
 exact bodyPost_ret (v := .agg #[.slice AX xs.length cX]) (by simp [results, Tryz.results5, go_sem, cR]) rfl
  ⟨_, xs, rfl, (HSL.o.keep fun k hk => Below.heap_setCell w2 ⟨w.heap.size, 0, none⟩ _ k (by show k ≠ w.heap.size; omega)).more fun k hk => by simpa using hk.2, hok, hl, HB2.o.setCell (p := ⟨w.heap.size, 0, none⟩) yL _⟩
theorem six {wx : World} {R : Nat} {a0 a1 a2 a3 a4 a5 : Value} (h : Blk wx R #[a0, a1, a2, a3, a4, a5] 37) (v0 v1 v2 v3 v4 v5 : Value) :
  let W := (((((wx.setCell ⟨R, 0, none⟩ v0).setCell ⟨R, 1, none⟩ v1).setCell ⟨R, 2, none⟩ v2).setCell ⟨R, 3, none⟩ v3).setCell ⟨R, 4, none⟩ v4).setCell ⟨R, 5, none⟩ v5
  Blk W R #[v0, v1, v2, v3, v4, v5] 37 /\ (∀ k, k ≠ R -> W.heap[k]? = wx.heap[k]?) /\ Below R wx W := by
 intro W
 exact ⟨(((((h.set 0 v0).set 1 v1).set 2 v2).set 3 v3).set 4 v4).set 5 v5,
  fun k hk => (Below.heap_setCell _ ⟨R, 5, none⟩ v5 k hk).trans ((Below.heap_setCell _ ⟨R, 4, none⟩ v4 k hk).trans ((Below.heap_setCell _ ⟨R, 3, none⟩ v3 k hk).trans ((Below.heap_setCell _ ⟨R, 2, none⟩ v2 k hk).trans ((Below.heap_setCell _ ⟨R, 1, none⟩ v1 k hk).trans (Below.heap_setCell _ ⟨R, 0, none⟩ v0 k hk))))),
  ((((((Below.refl _ wx).setCell (p := ⟨R, 0, none⟩) yL v0).setCell (p := ⟨R, 1, none⟩) yL v1).setCell (p := ⟨R, 2, none⟩) yL v2).setCell (p := ⟨R, 3, none⟩) yL v3).setCell (p := ⟨R, 4, none⟩) yL v4).setCell (p := ⟨R, 5, none⟩) yL v5⟩
def QS (w : World) (b c lo : Nat) (v : Value) : Nat -> Prop := fun k => k ≠ b /\ k ≠ c /\ v.ownBlock ≠ some k /\ lo <= k /\ k < w.heap.size
def zhq (w : World) (b c lo : Nat) (v : Value) (es : List zam) : Prop :=
 ∃ ps : List (zam × Value), ps.map Prod.fst = es /\ w.ownsRow lo 37 6 v es.length (ps.flatMap za1) /\ (∀ g, v.ownBlock = some g -> g ≠ b /\ g ≠ c) /\ ∀ p ∈ ps, SlS zar w (QS w b c lo v) p.2 p.1.part
theorem zl4 {W : World} {b c lo N : Nat} (hN : N = W.heap.size) (h : lo <= W.heap.size) (hb : b < W.heap.size) (hc : c ≠ W.heap.size) : zhq (W.alloc (Obj.cells #[] 37)) b c lo (.slice (some ⟨N, 0, none⟩) 0 0) [] := by
 subst hN; exact ⟨[], rfl, World.ownsRow_lit W #[] 0 h (Nat.zero_le _) rfl, fun g hg => by simp [Value.ownBlock] at hg; omega, fun p hp => absurd hp yS⟩
section
variable {w w' : World} {b c lo : Nat} {v : Value} {es : List zam}
theorem zhq.same (h : zhq w b c lo v es) (hs : w.heap.size <= w'.heap.size) (hb : ∀ k, k ≠ b -> k ≠ c -> k < w.heap.size -> w'.heap[k]? = w.heap[k]?) : zhq w' b c lo v es := by
 obtain ⟨ps, h1, h2, h4, h3⟩ := h; refine ⟨ps, h1, za7 h2 fun g hg => hb g (h4 g hg).1 (h4 g hg).2 (World.ownsRow.lt h2 g hg).2, h4, fun p hp => ?_⟩
 exact ((h3 p hp).keep fun k hk => hb k hk.1 hk.2.1 hk.2.2.2.2).more fun k hk => ⟨hk.1, hk.2.1, hk.2.2.1, hk.2.2.2.1, Nat.lt_of_lt_of_le hk.2.2.2.2 hs⟩
theorem zhq.but (h : zhq w b c lo v es) (hb : But b w w') : zhq w' b c lo v es := h.same hb.size fun k h1 _ h3 => hb.block k h3 h1
theorem zhq.up (h : zhq w b c lo v es) (hb : Below w.heap.size w w') : zhq w' b c lo v es := h.but (But.of hb)
theorem zhq.put (h : zhq w b c lo v es) (o : Nat) (u : Value) : zhq (w.setCell ⟨c, o, none⟩ u) b c lo v es :=
 h.same (by simp [World.setCell]) fun k _ h2 _ => Below.heap_setCell w ⟨c, o, none⟩ u k h2
theorem zhq.form (h : zhq w b c lo v es) : ∃ A cap, v = .slice A es.length cap := by
 obtain ⟨ps, rfl, h2, _, _⟩ := h; obtain ⟨A, cap, rfl, _, _⟩ := zae h2; exact ⟨A, cap, rfl⟩
theorem zhq.own (h : zhq w b c lo v es) : ∀ g, v.ownBlock = some g -> g < w.heap.size := by
 obtain ⟨ps, rfl, h2, _, _⟩ := h; exact fun g hg => (World.ownsRow.lt h2 g hg).2
theorem zhq.sl (h : zhq w b c lo v es) : Sl zdB w w.heap.size v es := by
 obtain ⟨ps, rfl, h2, h4, h3⟩ := h; obtain ⟨A, cap, rfl, c1, c2⟩ := zae h2; refine ⟨A, cap, rfl, c1, c2, Row.of_own (E := zdB) h2 rfl (fun g hg => (World.ownsRow.lt h2 g hg).2) fun k e hx => ?_⟩
 obtain ⟨u, hu⟩ := zpO hx; refine ⟨za1 (e, u), ⟨u, rfl, (h3 _ (List.mem_of_getElem? hu)).more fun k hk => hk.2.2.2.2⟩, fun j x hj => ?_⟩
 have hj6 : j < 6 := by have := (List.getElem?_eq_some_iff.1 hj).1; simpa [za1] using this
 show (ps.flatMap za1)[k * 6 + j]? = some x
 rw [zpN ps k _ hu j hj6]; exact hj
end
theorem zl5 {W : World} {ops : Array Oper} {rest : List Oper} {o : Oper} {a : Act} {Q : Exit -> Act -> World -> Prop} (hgd : o.guard = none) (s x : Operand)
  (ho : o.op = .call { callee := .builtin .append, args := #[s, x], argTypes := #[28, 28] }) {e : zam} {u : Value} {b c lo : Nat} {v : Value} {es : List zam}
  (hs : a.eval s = v) {N : Nat} (hx : a.eval x = .slice (some ⟨N, 0, none⟩) 1 1) (hN : N = W.heap.size) (hown : zhq W b c lo v es) (hlen : es.length <= 1048576) (hbase : lo <= W.heap.size) (hb : b < W.heap.size) (hc : c < W.heap.size)
  (hu : SlS zar W (QS W b c lo v) u e.part)
  (h : ∀ g' c' w', zhq w' b c lo (.slice (some ⟨g', 0, none⟩) (es.length + 1) c') (es ++ [e]) -> TK (fun t => t ≠ 37) W w' -> (∀ k, k < W.heap.size -> v.ownBlock ≠ some k -> w'.heap[k]? = W.heap[k]?) -> Below lo W w' -> wpList Tryz.prog ops Q rest (a.put o.dst (.slice (some ⟨g', 0, none⟩) (es.length + 1) c')) w') :
  wpList Tryz.prog ops Q (o :: rest) a (W.alloc (.cells #[.int .i64 e.kind, .int .i64 e.i, .int .i64 e.j, .int .i64 e.k, u, .string e.map] 37)) := by
 subst hN; obtain ⟨ps, hm, hrow, hne, hP⟩ := hown; obtain ⟨i0, hi0, hz0, hz1, hz2⟩ := info_parts Tryz.infoEd; have hu1 : u.oneCell' = true := by obtain ⟨_, _, rfl, _⟩ := hu; rfl
 refine zem hgd s x 28 ho i0 _ 6 72 Tryz.underlying28 hi0 hz0 hz1 hz2 rfl (by decide) hs hx rfl (by simp [Value.oneCell'] at hu1 |-; exact hu1) hrow yO yO hbase ?_
 intro v' w' k1 k2 k3; have hg : W.grownBy w' v.ownBlock := ⟨k2.os, k2.tape, k2.output, Nat.le_trans yS k2.size, fun y hy hne => (k2.block y (by simp; omega) hne).trans (Below.heap_alloc W _ y hy)⟩
 have hbl : Below lo W w' := (Below.refl lo W).grown hg hbase (fun y hy => (World.ownsRow.lt hrow y hy).1); have k1' : w'.ownsRow lo 37 6 v' (es.length + 1) ((ps ++ [(e, u)]).flatMap za1) := by simpa [za1] using k1
 obtain ⟨g', c', rfl, _⟩ := zbI k1' yO; have k3' : v.ownBlock = some g' \/ g' = W.heap.size + 1 := k3.imp (fun q => q.symm.trans rfl) (fun q => by simpa [Value.ownBlock] using q); have hkeep : ∀ k, k < W.heap.size -> v.ownBlock ≠ some k -> w'.heap[k]? = W.heap[k]? := fun k hk hv => hg.block k hk (fun q => hv q.symm); have hgs := hg.size; refine h g' c' w' ⟨ps ++ [(e, u)], by rw [List.map_append, hm]; rfl, by simpa using k1', fun g hg' => ?_, fun p hp => ?_⟩ (TK.grown hrow hg fun t ht => ht) hkeep hbl
 · have : g = g' := by simpa [Value.ownBlock] using hg'.symm
   subst this; rcases k3' with k3' | k3'
   · exact hne _ k3'
   · omega
 · have hall : SlS zar W (QS W b c lo v) p.2 p.1.part := by
    rcases List.mem_append.1 hp with hp | hp
    · exact hP p hp
    · simp at hp; subst hp; exact hu
   refine (hall.keep fun k hk => hkeep k hk.2.2.2.2 hk.2.2.1).more fun k hk => ⟨hk.1, hk.2.1, fun q => ?_, hk.2.2.2.1, Nat.lt_of_lt_of_le hk.2.2.2.2 hgs⟩
   have : g' = k := by simpa [Value.ownBlock] using q
   subst this; rcases k3' with k3' | k3'
   · exact hk.2.2.1 k3'
   · have := hk.2.2.2.2; omega
end Go.Proofs.YtejgbfgocaggfaaGreatDoor
