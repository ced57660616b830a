import Derived.Test.YtejgbfgocaggfaaGreatDoorM8
import Derived.ArgAppend
import Derived.Deep.CutBlock
set_option maxRecDepth 100000
set_option maxHeartbeats 8000000
namespace Go.Proofs.YtejgbfgocaggfaaGreatDoor
open Go.RowKit
theorem zfA {W : World} {ops : Array Oper} {o : Oper} {a : Act} {K : Act -> World -> Prop} {Q : Exit -> Act -> World -> Prop} {E : Prop} (hgd : o.guard = none) (s x : Operand)
  (ho : o.op = .call { callee := .builtin .append, args := #[s, x], argTypes := #[24, 24] }) {ys : List zaa} {base : Nat} {v sv : Value} {l : List zaa} {S : Nat -> Prop}
  (hs : a.eval s = v) (hx : a.eval x = sv) (hown : zac W base v l) (hsl : SlS zar W S sv ys) (hlen : l.length + ys.length <= 1099511627776) (hbase : base <= W.heap.size)
  (h : ∀ v' w', zac w' base v' (l ++ ys) -> W.grownBy w' v.ownBlock -> (v'.ownBlock = v.ownBlock \/ W.grownBy w' none) -> Below base W w' -> K (a.put o.dst v') w') :
  if Region.wanted o (yielded ops a.tmps) = true then Oper.wp Tryz.prog o a W K Q else E := by
 have hw : Region.wanted o (yielded ops a.tmps) = true := by simp [Region.wanted, hgd]
 rw [if_pos hw]; obtain ⟨i0, hi0, hz0, hz1, hz2⟩ := info_parts Tryz.infoR; obtain ⟨A, c, rfl, hc, hm, hrow⟩ := hsl
 have H : ∃ v' w', (Builtin.append_ #[24, 24] o.type #[v, .slice A ys.length c]).run Tryz.prog W = .ok v' w' /\ zac w' base v' (l ++ ys) /\ W.grownBy w' v.ownBlock /\ (v'.ownBlock = v.ownBlock \/ W.grownBy w' none) := by
  rcases A with _ | ad
  · have h0 : ys = [] := by
     rcases Nat.eq_zero_or_pos ys.length with h0 | h0
     · exact yn h0
     · obtain ⟨b, o, h, _⟩ := hrow h0; cases h
    subst h0; exact ⟨v, W, zcc W base _ _ 88 i0 3 Tryz.underlying24 hi0 v _ _ hown c, by simpa using hown, World.grownBy.refl W _, .inl rfl⟩
  · obtain ⟨v', w', hrun, h2, h3, _, h5⟩ := run_append_own_at (P := Tryz.prog) W base 24 o.type 88 i0 _ 3 32 Tryz.underlying24 hi0 hz0 hz1 hz2 rfl (by decide) v _ _ hown ad ys.length c (ys.flatMap zaa.cells)
     (zcU ys) (zcF hrow) (zej ys) (by simp only [maxLen]; omega) yO hbase
    refine ⟨v', w', hrun, by unfold zac; simpa using h2, h3, ?_⟩
    rcases h5 with h5 | h5
    · exact .inl h5
    · right
      rcases hown.2 with ⟨rfl, _⟩ | ⟨g, cap, cur, rfl, hg1, hg2, hg3, hg4, hg5, hg6⟩
      · exact h3
      · -- the row has moved: it did not fit
        rcases Nat.lt_or_ge cap (l.length + ys.length) with hlt | hge
        · obtain ⟨v2, w2, hr2, _, h6⟩ := run_append_arg_grows (P := Tryz.prog) W 24 o.type 88 i0 _ 3 32 Tryz.underlying24 hi0 hz0 hz1 hz2 rfl (by decide) ⟨g, 0, none⟩ l.length cap (l.flatMap zaa.cells) hown.1
           (fun j u hu => by
             have hj : j < (l.flatMap zaa.cells).length := (List.getElem?_eq_some_iff.1 hu).1
             rw [hown.1] at hj; have := hown.cellAt j hj
             simpa [Addr.add_lit, hu] using this)
           ad ys.length c (ys.flatMap zaa.cells) (zcU ys) (zcF hrow) hlt (by simp only [maxLen]; omega) yO
          rw [hrun] at hr2; cases hr2
          exact h6
        · have hr2 := run_append_room (P := Tryz.prog) W 24 o.type 88 i0 Tryz.underlying24 hi0 g l.length cap cur hg2 ad ys.length c (ys.flatMap zaa.cells) (by rw [hz1]; exact zcU ys) (zcF hrow) (zej ys) hge
           (by rw [hz1, hg5, zcU, <- Nat.add_mul]; exact Nat.mul_le_mul_right _ hge)
          rw [hrun] at hr2; cases hr2
          have : g = W.heap.size := by simpa [Value.ownBlock] using h5
          have h7 := (Array.getElem?_eq_some_iff.1 hg2).1
          omega
 obtain ⟨v', w', hrun, h2, h3, h4⟩ := H; unfold Oper.wp execOp; simp only [ho, resolve, invoke, builtin, Sem.run_bind, Sem.run_pure, Result.andThen_ok, List.map_toArray, List.map_cons, List.map_nil, hs, hx, hrun]
 exact h v' w' h2 h3 h4 ((Below.refl base W).grown h3 hbase (fun k hk => (World.ownsRow.lt hown k hk).1))
theorem zgW {W : World} {ops : Array Oper} {o : Oper} {a : Act} {K : Act -> World -> Prop} {Q : Exit -> Act -> World -> Prop} {E : Prop} (hgd : o.guard = none) (s x : Operand)
  (ho : o.op = .call { callee := .builtin .append, args := #[s, x], argTypes := #[24, 24] }) {t : ByteArray} {p q : Int} {base : Nat} {v : Value} {l : List zaa}
  (hs : a.eval s = v) {N : Nat} (hx : a.eval x = .slice (some ⟨N, 0, none⟩) 1 1) (hN : N = W.heap.size) (hown : zac W base v l) (hlen : l.length <= 1099511627775) (hbase : base <= W.heap.size)
  (h : ∀ v' w', zac w' base v' (l ++ [⟨t, p, q⟩]) -> (W.alloc (.cells #[.string t, .int .i64 p, .int .i64 q] 88)).grownBy w' v.ownBlock -> (v'.ownBlock = v.ownBlock \/ (W.alloc (.cells #[.string t, .int .i64 p, .int .i64 q] 88)).grownBy w' none) ->
    Below base (W.alloc (.cells #[.string t, .int .i64 p, .int .i64 q] 88)) w' -> K (a.put o.dst v') w') :
  if Region.wanted o (yielded ops a.tmps) = true then Oper.wp Tryz.prog o a (W.alloc (.cells #[.string t, .int .i64 p, .int .i64 q] 88)) K Q else E := by
 subst hN; refine zfA (ys := [⟨t, p, q⟩]) (S := fun b => b = W.heap.size) hgd s x ho hs hx (hown.alloc _) ⟨_, 1, rfl, Nat.le_refl _, by simp [maxLen], fun _ => ⟨W.heap.size, 0, rfl, rfl, fun k r hk => ⟨r.cells, rfl, fun j u hu => ?_⟩⟩⟩ (by simp; omega) (by simp; omega) h
 have hk0 : k = 0 := by
  have := (List.getElem?_eq_some_iff.1 hk).1
  simp at this; exact this
 subst hk0; simp at hk
 subst hk; have hc : (W.alloc (.cells #[.string t, .int .i64 p, .int .i64 q] 88)).cell? ⟨W.heap.size, j, none⟩ = (#[Value.string t, .int .i64 p, .int .i64 q] : Array Value)[j]? := cell_of_row _ _ _ _ 88 (0, 0) (heap_alloc_new W _); simp only [Nat.zero_mul, Nat.zero_add]
 rw [hc]; simpa [zaa.cells] using hu
theorem Boxed.grownO {w w' : World} {B base e s n : Nat} {t : TypeId} {v u : Value} {xs : List Value} {o : Obj} (h : Boxed w B t u) (hte : t ≠ e) (own : w.ownsRow base e s v n xs) (hg : (w.alloc o).grownBy w' v.ownBlock) : Boxed w' B t u := (h.alloc o).kept hg (h.not_row hte own)
theorem zmA {W w' : World} {g n c base : Nat} {v v' : Value} {L R : List zaa} {S : Nat -> Prop} (hL : SlS zar W S (.slice (some ⟨g, 0, none⟩) n c) L) (hS : ∀ b, S b -> b < W.heap.size) {l' : List zaa} (own' : zac w' base v' l') (el : l' = L ++ R) (hg : W.grownBy w' v.ownBlock)
  (hor : v'.ownBlock = v.ownBlock \/ W.grownBy w' none) : SlS zar w' S (.slice (some ⟨g, 0, none⟩) n c) L := by
 have own : w'.ownsRow base 88 3 v' (L ++ R).length ((L ++ R).flatMap zaa.cells) := by rw [<- el]; exact own'
 obtain ⟨A, c', e, h1, h2, hrow⟩ := hL; injection e with e1 e2 e3; subst e1; subst e2; subst e3; refine ⟨_, c, rfl, h1, h2, fun hn => ?_⟩
 obtain ⟨b, o, eb, hSb, hc⟩ := hrow hn; injection eb with eb; injection eb with eb1 eb2; subst eb1; subst eb2; have hlt := hS _ hSb; refine ⟨g, 0, rfl, hSb, fun k x hx => ⟨x.cells, rfl, fun j u hu => ?_⟩⟩
 have hold : some g ≠ v.ownBlock \/ W.grownBy w' none -> w'.cell? ⟨g, 0 + (k * zar.size + j), none⟩ = some u := fun hh => by
  obtain ⟨cs, hcs, hcell⟩ := hc k x hx; have ecs : cs = x.cells := hcs; subst ecs
  have hb : w'.heap[g]? = W.heap[g]? := by
   rcases hh with hh | hh
   · exact hg.block g hlt hh
   · exact hh.block g hlt yS
  rw [World.cell?_of_block (a := ⟨g, _, none⟩) hb]
  exact hcell j u hu
 rcases hor with hor | hor
 · by_cases hgv : some g = v.ownBlock
   · -- the same row, grown in place
     have hxl : (L ++ R)[k]? = some x := by rw [List.getElem?_append_left (List.getElem?_eq_some_iff.1 hx).1]; exact hx
     have hpos : 0 < (L ++ R).length := by have := (List.getElem?_eq_some_iff.1 hxl).1; omega
     obtain ⟨g2, cap, hv, _, _, _, hcell⟩ := zbI own hpos
     have : g2 = g := by
      have h3 : v'.ownBlock = some g2 := by rw [hv]; rfl
      rw [h3, <- hgv] at hor; exact Option.some.inj hor
     subst this; obtain ⟨c0, c1, c2⟩ := zhN (L ++ R) k x hxl
     match j, hu with
     | 0, hu => simp [zaa.cells] at hu; subst hu; simpa [zar] using hcell _ _ c0
     | 1, hu => simp [zaa.cells] at hu; subst hu; simpa [zar] using hcell _ _ c1
     | 2, hu => simp [zaa.cells] at hu; subst hu; simpa [zar] using hcell _ _ c2
     | j + 3, hu => simp [zaa.cells] at hu
   · exact hold (.inl hgv)
 · exact hold (.inr hor)
def ixB (s : ByteArray) (k : Nat) : Int := Lib.indexByte s.data.toList (ltr k)
theorem zoY {s : ByteArray} {k : Nat} (h : zhW s (ltr k) = true) : 0 <= ixB s k := by
 have h1 := Lib.indexByte_ge s.data.toList (ltr k); rcases Int.lt_or_le (ixB s k) 0 with hn | hn
 · have hm : ixB s k = -1 := by unfold ixB at hn |-; omega
   have := Lib.indexByte_none hm; unfold zhW at h; rw [List.contains_iff_mem] at h; obtain ⟨j, hj⟩ := List.mem_iff_getElem?.1 h; exact absurd hj (this j)
 · exact hn
theorem zpB {s : ByteArray} {k : Nat} (h : ¬ zhW s (ltr k) = true) : ixB s k < 0 := by
 rcases Int.lt_or_le (ixB s k) 0 with hn | hn
 · exact hn
 · obtain ⟨o, ho⟩ := Int.eq_ofNat_of_zero_le hn
   have := (Lib.indexByte_some (show Lib.indexByte s.data.toList (ltr k) = (o : Int) from ho)).1; exact absurd (List.contains_iff_mem.2 (List.mem_of_getElem? this)) h
theorem zgX {k : Nat} (h : k < 4) : ((97 + k : Nat) : Int) = ((ltr k).toNat : Int) := by
 have : k = 0 \/ k = 1 \/ k = 2 \/ k = 3 := by omega
 rcases this with rfl | rfl | rfl | rfl <;> rfl
theorem zfB (s : ByteArray) (k : Nat) (c : Int) (w : World) (hk : k < 4) (hc : c = 97 + k) : Calls Tryz.prog 117 #[.string s, .int .u8 c] w fun e w' => e = .returned (.int .i64 (ixB s k)) /\ w = w' := by
 have h2 := zgX hk
 have h3 : c.toNat.toUInt8 = ltr k := by
  have : k = 0 \/ k = 1 \/ k = 2 \/ k = 3 := by omega
  subst hc; rcases this with rfl | rfl | rfl | rfl <;> rfl
 refine (Tryz.strings_IndexByte s c w).mono fun e w' h => ⟨?_, h.2.symm⟩
 rw [h.1, h3]; rfl
theorem zls (k : Nat) (c : Int) (w : World) (hk : k < 4) (hc : c = 97 + k) : Calls Tryz.prog 118 #[.int .u8 c] w fun e w' => e = .returned (.agg #[.string (zdn (ltr k)).letter, .int .i64 0, .int .i64 0]) /\ Below w.heap.size w w' := by
 have h2 := zgX hk; have : c = ((ltr k).toNat : Int) := by omega
 subst this; exact zfX _ _
theorem Blk.new' {w : World} {b : Nat} {a : Array Value} {t : TypeId} (h : b = w.heap.size) : Blk (w.alloc (.cells a t)) b a t := by subst h; exact Blk.new _ _ _
theorem zmB {s : ByteArray} (hw : zaB s = true) {i : Nat} (h : i < s.size) : zoX (zbb s 4) (zdn s[i]) = ((zhw s s[i] : Nat) : Int) := by
 have := zdc hw h; unfold zoX zhw at *; rw [if_pos this]
theorem zgY (s : ByteArray) (i L N : Nat) (vL : Value) (w : World) (hi : i < s.size) (hw : zaB s = true) (hL : Blk w L #[vL] 24) (hN : Blk w N #[.string s] 9) (hS : Sl zar w w.heap.size vL (zbb s 4)) :
  Calls Tryz.prog 119 #[.int .i64 (i : Int), .pointer (some ⟨L, 0, none⟩), .pointer (some ⟨N, 0, none⟩)] w fun e w' => e = .returned (.int .i64 ((zhw s (s[i]'hi) : Nat) : Int)) /\ Below w.heap.size w w' := by
 have HI := yq (zmB hw hi); have HS := yq hS; obtain ⟨AL, cL, rfl, _⟩ := hS; have cL0 := hL.cell (i := 0) (v := .slice AL (zbb s 4).length cL) rfl; have cN0 := hN.cell (i := 0) (v := .string s) rfl; have lL := hL.lt; have lN := hN.lt; have hi2 : (i : Int) < (s.size : Int) := by omega
 clear hL hN hw; go_enter Tryz.func119, Tryz.ntmps119
 go_wp2_with fail
 have KB := And.intro (show Below w.heap.size w w.drew from Below.drew (Below.refl _ _)) (And.intro (show w.drew.cell? ⟨L, 0, none⟩ = _ from cL0) (show w.drew.cell? ⟨N, 0, none⟩ = _ from cN0))
 go_region_held3 (fun w' => Below w.heap.size w w' /\ w'.cell? ⟨L, 0, none⟩ = some (.slice AL (zbb s 4).length cL) /\ w'.cell? ⟨N, 0, none⟩ = some (.string s))
  (first | (with_reducible exact KB) | (with_reducible exact zhv KB hb1 lL lN) | (with_reducible exact zhv (zhv KB hb1 lL lN) hb2 lL lN))
  (first
    | (go_at_call 118; (refine (zfX _ _).mono ?_); rintro e w1 ⟨rfl, hb1⟩)
    | (go_at_call 120; (refine (ze6 _ (zbb s 4) (zdn (s[i]'hi)) _ ((HS.o.up yb).up hb1)).mono ?_); rintro e w2 ⟨rfl, hb2⟩))
 have HZ := yq (zhv (zhv KB hb1 lL lN) hb2 lL lN).1; clear KB hb1 hb2; go_wp2
 go_ret
 exact ⟨zdt HI.o, HZ.o⟩
theorem zjg (s : ByteArray) (w : World) (hs : zaB s = true) :
  Calls Tryz.prog 76 #[.string s] w (znO (zaM s) w) := by
 have hsz : s.size <= 2000 := by unfold zaB at hs; simp only [Bool.and_eq_true, decide_eq_true_eq] at hs; omega
 have HS := yq hs; clear hs; go_enter Tryz.func76, Tryz.ntmps76
 go_wp2_with fail
 go_loopw [4] (fun c wr => ∃ (k : Nat) (vo : Value), k <= 4 /\ c = .int .u8 ((97 + k : Nat) : Int) /\ Below w.heap.size w wr /\ Blk wr w.heap.size #[.string s] 9 /\ Blk wr (w.heap.size + 1) #[.slice none 0 0] 26 /\ Boxed wr (w.heap.size + 2) 26 vo /\ zac wr (w.heap.size + 3) vo (zbb s k)) (fun c _ => 101 - (intOf c).toNat)
 case atStart =>
  refine ⟨0, .slice none 0 0, by omega, rfl, yb, ?_, ?_, ?_, World.ownsRow_nil _ _ _ _⟩
  · repeat (first | (apply Blk.new'; simp; done) | apply Blk.alloc | apply Blk.drew)
  · repeat (first | (apply Blk.new'; simp; done) | apply Blk.alloc | apply Blk.drew)
  · show Blk _ _ #[.slice none 0 0] _
    repeat (first | (apply Blk.new'; simp; done) | apply Blk.alloc | apply Blk.drew)
 case round =>
  obtain ⟨k, vo, hk, rfl, hb, h0, h1, hbox, hown⟩ := hrel; have HB := yq hb; have H0 := yq h0; have H1 := yq h1; have Hbox := yq hbox; have Hown := yq hown; have c0 := h0.cell (i := 0) (v := .string s) rfl; have cb := hbox.cell; have fb := hbox.frozen; have lb := hbox.lt; have l0 := h0.lt; obtain ⟨Ao, co, rfl, _⟩ := zae hown; have HL := yq (show (zbb s k).length <= 1099511627775 by have := zew s k; omega); clear hb h0 h1 hbox hown; by_cases hlt : k < 4
  · have HSu := yq (zhX s k)
    by_cases hc : zhW s (ltr k) = true
    · have hix := zoY hc
      have HC := yq hc; clear hc
      go_wp2_with (first
       | (go_at_call 117; refine (zfB s k _ _ hlt yO).mono ?_; rintro e w' ⟨rfl, rfl⟩))
      go_region_law (first
       | (refine zbc (base := w.heap.size + 3) yR _ _ yR yR (by first | rfl | simp) rfl (zac.below Hown.o.drew hb2) HL.o yO ?_; intro v3 w3 own3 hg3 hb3; have bx3 : Boxed w3 (w.heap.size + 2) 26 _ := Boxed.grown (Boxed.up (Boxed.mk' Hbox.o) hb2 lb) (by decide) (zac.below Hown.o.drew hb2) hg3; obtain ⟨A3, c3, rfl, _⟩ := zae own3; have hcb3 := bx3.cell; have hfb3 := bx3.frozen)
       | (go_simp; go_at_call 118; refine (zls k _ _ hlt yO).mono ?_; rintro e w2 ⟨rfl, hb2⟩; have bx2 := Boxed.up (Boxed.mk' Hbox.o) hb2 lb; have hcb2 := bx2.cell; have hfb2 := bx2.frozen; have hlb2 := bx2.lt))
      all_goals
       have z2 : wr.heap.size <= w2.heap.size := hb2.size; have hbz : Below (w.heap.size + 3) wr w3 := (Below.drew (Below.refl _ _)).trans (((hb2.mono (by show w.heap.size + 3 <= wr.heap.size; omega)).alloc yO _).trans hb3); have HBZ := yq hbz; have HO3 := yq own3; have HX3 := yq bx3; clear hbz own3 bx3 hb3 hb2 hg3 bx2; go_wp2
       go_roundw
       case rel =>
        refine ⟨k + 1, _, by omega, by go_num, (HB.o.trans (HBZ.o.mono yO)).setCell (by show w.heap.size <= w.heap.size + 2; omega) _, (H0.o.upB HBZ.o yO).other (by show w.heap.size ≠ w.heap.size + 2; omega) _, (H1.o.upB HBZ.o yO).other (by show w.heap.size + 1 ≠ w.heap.size + 2; omega) _, Boxed.set _ HX3.o, ?_⟩
        rw [HSu.o, if_pos HC.o]; exact zcK HX3.o HO3.o rfl yS
       case measure => simp [intOf]; omega
    · have hix := zpB hc
      have HC := yq hc; clear hc
      go_wp2_with (first
       | (go_at_call 117; refine (zfB s k _ _ hlt yO).mono ?_; rintro e w' ⟨rfl, rfl⟩))
      go_roundw
      case rel => exact ⟨k + 1, _, by omega, by go_num, HB.o, H0.o, H1.o, Hbox.o, by rw [HSu.o, if_neg HC.o]; exact Hown.o⟩
      case measure => simp [intOf]; omega
  · have hk4 : k = 4 := by omega
    subst hk4; rw [show ((97 + 4 : Nat) : Int) = 101 from rfl]; have hlen4 := zew s 4; obtain ⟨wo, rfl⟩ : ∃ wo : World, wo = wr := ⟨_, rfl⟩
    have hL0 := yq (Hown.o.slS (S := fun b => w.heap.size + 3 <= b /\ b < wo.heap.size) fun g hg => World.ownsRow.lt Hown.o g hg)
    have hAo := yq (show 0 < (zbb s 4).length -> ∃ g, Ao = some ⟨g, 0, none⟩ from fun hp => by
     obtain ⟨g, cap, e, _⟩ := zbI Hown.o hp; injection e with e1
     exact ⟨g, e1⟩)
    go_wp2_with fail
    go_loopw [7] (fun q wx => ∃ (i : Nat) (vo : Value), 1 <= i /\ (i <= s.size \/ i = 1) /\ q = .int .i64 (i : Int) /\ Below w.heap.size w wx /\ Blk wx w.heap.size #[.string s] 9 /\ Blk wx (w.heap.size + 1) #[.slice none 0 0] 26 /\
     Blk wx wo.heap.size #[.slice Ao (zbb s 4).length co] 24 /\ Boxed wx (w.heap.size + 2) 26 vo /\ zac wx (w.heap.size + 3) vo (zbJ s (i - 1)) /\ SlS zar wx (fun b => w.heap.size + 3 <= b /\ b < wo.heap.size) (.slice Ao (zbb s 4).length co) (zbb s 4)) (fun q _ => s.size + 1 - (intOf q).toNat)
    case atStart =>
     refine ⟨1, _, Nat.le_refl _, .inr rfl, rfl, HB.o.alloc HB.o.size _, H0.o.alloc _, H1.o.alloc _, Blk.new _ _ _, Boxed.alloc Hbox.o _, ?_, hL0.o.keep (zgy.of_below (B := wo.heap.size) ((Below.refl _ _).alloc yL _) |>.mono fun _ hb => hb.2)⟩
     rw [show 1 - 1 = 0 from rfl, zcp]; exact Hown.o.alloc _
    case round =>
     obtain ⟨i, vo, hi1, hi2, rfl, hb, h0, h1, hL, hbox, hown, hsl⟩ := hrel; have zr : w.heap.size + 2 < wr.heap.size := hbox.lt; have zo : wo.heap.size < wr.heap.size := hL.lt; have HB2 := yq hb; have HK0 := yq h0; have HK1 := yq h1; have HKL := yq hL; have HX := yq hbox; have HO := yq hown; have HSl := yq hsl; have HSl2 := yq (show Sl zar wr wr.heap.size _ _ from hsl.more fun b hb => by omega); have c0' := h0.cell (i := 0) (v := .string s) rfl; have l0' := h0.lt; have cb' := hbox.cell; have fb' := hbox.frozen; have hlp := yq (zcM s (i - 1)); obtain ⟨A2, c2, rfl, _⟩ := zae hown; clear hb h0 h1 hL hbox hown hsl HB H0 H1 Hbox Hown cb fb c0 l0; by_cases hlt2 : i < s.size
     · have HP := yq (zd0 s (i - 1))
       have HLn := yq (show (zbJ s (i - 1)).length <= 1099511627775 by rw [hlp.o]; omega); have hpos : 0 < s.size := by omega
       have hpl1 : 1 <= (zbJ s (i - 1)).length := by have := zdc HS.o hpos; rw [hlp.o]; omega
       have hpl2 : (zbJ s (i - 1)).length <= 4000 := by rw [hlp.o]; omega
       obtain ⟨I, hI⟩ : ∃ I : Nat, I = zhw s (s.data.getD i 0) := ⟨_, rfl⟩
       have hidx : ∀ W (hb : Below wr.heap.size wr W), Calls Tryz.prog 119 #[.int .i64 (i : Int), .pointer (some ⟨wo.heap.size, 0, none⟩), .pointer (some ⟨w.heap.size, 0, none⟩)] W fun e w' => e = .returned (.int .i64 (I : Int)) /\ Below W.heap.size W w' := fun W hb => by
        rw [hI, zbQ hlt2]; exact zgY s i wo.heap.size w.heap.size _ W hlt2 HS.o (HKL.o.up hb) (HK0.o.up hb) (HSl2.o.up hb)
       have OF1 := yq hidx; clear hidx; obtain ⟨B, hB⟩ : ∃ B : Nat, (if i - 1 = 0 then (zhw s (s.data.getD 0 0) : Nat) else (zbb s 4).length + (i - 1) - 1) = B := ⟨_, rfl⟩
       have hBp : zev s (i - 1) = zaP (B : Int) (I : Int) := by
        unfold zev; rw [show i - 1 + 1 = i by omega, <- hB, <- hI]; split <;> rfl
       have HBp := yq hBp; have HBq := yq hB; clear hBp hB hI; go_upto_if 39 with fail
       go_cut [8] (fun u8 wx => u8 = .int .i64 (B : Int) /\ Below wr.heap.size wr wx)
       case first =>
        by_cases h1i : i = 1
        · subst h1i
          have OF0 := yq (zgY s 0 wo.heap.size w.heap.size _ wr hpos HS.o HKL.o HK0.o HSl2.o)
          go_wp2_with (first
           | (go_at_call 119; (refine OF0.o.mono ?_); rintro e w2 ⟨rfl, hb2⟩))
          go_meet
          exact ⟨by rw [<- HBq.o, if_pos trivial, zbQ hpos], hb2⟩
        · have hb1 : ((i : Int) == 1) = false := by rw [beq_eq_false_iff_ne]; omega
          go_wp2
          go_meet
          refine ⟨?_, Below.refl _ _⟩
          rw [<- HBq.o, if_neg yO, hlp.o]; congr 1; omega
       case rest =>
        obtain ⟨rfl, hbc⟩ := hcut; have HC0 := yq hbc; have HKX := yq (Boxed.up HX.o hbc HX.o.lt); have cb2 := HKX.o.cell; have fb2 := HKX.o.frozen; have lb2 := HKX.o.lt; have HO1 := yq (zac.below HO.o hbc); clear hbc cb' fb' c0'; go_wp2_with fail
        go_region_law (first
         | (go_simp; go_at_call 119; refine (OF1.o _ (by repeat (first | exact HC0.o | refine Below.drew ?_))).mono ?_; rintro e w2 ⟨rfl, hb2⟩; have bx2 := Boxed.up (Boxed.mk' HKX.o) hb2 lb2; have hcb2 := bx2.cell; have hfb2 := bx2.frozen; have lb3 := bx2.lt)
         | (go_simp; go_at_call 121; refine (zdW _ _ _).mono ?_; rintro e w3 ⟨rfl, hb3⟩; have bx3 := Boxed.up bx2 hb3 lb3; have hcb3 := bx3.cell; have hfb3 := bx3.frozen; have lb4 := bx3.lt)
         | (refine zgW (base := w.heap.size + 3) yR _ _ yR yR (by first | rfl | simp) rfl (zac.below (zac.below HO1.o.drew hb2) hb3) HLn.o yO ?_; intro v4 w4 own4 hg4 hor4 hb4; have bx4 : Boxed w4 (w.heap.size + 2) 26 _ := Boxed.grown (Boxed.up (Boxed.up (Boxed.mk' HKX.o) hb2 lb2) hb3 lb3) (by decide) (zac.below (zac.below HO1.o.drew hb2) hb3) hg4; obtain ⟨A4, c4, rfl, _⟩ := zae own4; have hcb4 := bx4.cell; have hfb4 := bx4.frozen))
        all_goals
         have z2 : wc.heap.size <= w2.heap.size := hb2.size; have z3 : w2.heap.size <= w3.heap.size := hb3.size; have zc : wr.heap.size <= wc.heap.size := HC0.o.size; have h23 : Below wc.heap.size wc w3 := Below.tr (Below.undrew hb2) hb3; have hbz : Below (w.heap.size + 3) wr w4 := (HC0.o.mono yO).trans ((h23.mono yO).trans (((Below.refl _ _).alloc yO _).trans hb4)); have OWN := zac.below (zac.below HO1.o.drew hb2) hb3; have bL : Boxed w4 wo.heap.size 24 _ := Boxed.grownO (t := 24) (((HKL.o.up HC0.o).up h23)) (by decide) OWN hg4; have HBL := yq bL; have HBZ := yq hbz; have HO4 := yq own4; have HX4 := yq bx4; obtain ⟨g, hg⟩ := hAo.o (by have := zdc HS.o hpos; omega)
         have hsl3 : SlS zar (w3.alloc (.cells #[.string ⟨#[]⟩, .int .i64 (B : Int), .int .i64 (I : Int)] 88)) (fun b => w.heap.size + 3 <= b /\ b < wo.heap.size) (.slice Ao (zbb s 4).length co) (zbb s 4) :=
          HSl.o.keep ((zgy.of_below ((Below.tr HC0.o h23).alloc yO _)).mono fun _ hb => by omega)
         have e4 : zbJ s (i - 1) ++ [⟨⟨#[]⟩, (B : Int), (I : Int)⟩] = zbb s 4 ++ ((List.range (i - 1)).map (zev s) ++ [⟨⟨#[]⟩, (B : Int), (I : Int)⟩]) := by rw [zbJ, List.append_assoc]
         have hsl4 : SlS zar w4 (fun b => w.heap.size + 3 <= b /\ b < wo.heap.size) (.slice Ao (zbb s 4).length co) (zbb s 4) := by
          rw [hg] at hsl3 |-
          exact zmA hsl3 (fun b hb => by simp; omega) own4 e4 hg4 hor4
         have HSL4 := yq hsl4; clear hsl3 hsl4 e4 hg bL hbz own4 bx4 OWN h23 hb2 hb3 hb4 hg4 hor4 bx2 bx3; go_wp2
         go_roundw
         case rel =>
          refine ⟨i + 1, _, by omega, .inl yO, by go_num, (HB2.o.trans (HBZ.o.mono yO)).setCell (by show w.heap.size <= w.heap.size + 2; omega) _, (HK0.o.upB HBZ.o yO).other (by show w.heap.size ≠ w.heap.size + 2; omega) _, (HK1.o.upB HBZ.o yO).other (by show w.heap.size + 1 ≠ w.heap.size + 2; omega) _,
           Blk.other HBL.o (by show wo.heap.size ≠ w.heap.size + 2; omega) _, Boxed.set _ HX4.o, ?_, HSL4.o.keep fun b hb => Below.heap_setCell _ _ _ _ (by show b ≠ w.heap.size + 2; omega)⟩
          rw [show i + 1 - 1 = (i - 1) + 1 by omega, HP.o, HBp.o]; exact zcK HX4.o HO4.o rfl yS
         case measure => simp [intOf]; omega
     · have hb0 : 1 <= i := hi1
       have HE := yq (show zbJ s (i - 1) = zaM s by rw [zaM]; congr 1; omega); have r1 := HK1.o.cell (i := 0) (v := .slice none 0 0) rfl; have r2 := HK1.o.frozen 0; have r3 := HK1.o.lt; go_wp2
       rw [HE.o] at HO HX; refine bodyPost_ret (v := .agg #[.slice A2 (zaM s).length c2]) (by simp [results, Tryz.results76, go_sem, r1, HE.o]) rfl ⟨HB2.o.setCell (by show w.heap.size <= w.heap.size + 1; omega) _, _, ?_, rfl⟩
       exact zad (ownsRow_setCell_below HO.o (a := ⟨w.heap.size + 1, 0, none⟩) (by show w.heap.size + 1 < w.heap.size + 3; omega) _) yO
theorem zjh {n k : Nat} {r : zaa} (h : zaC k r = true) : zaC (n + k) (zaH n r) = true := by
 unfold zaH; cases hp : r.pair with
 | true =>
   obtain ⟨q1, q2, q3, q4⟩ := zbs h hp; rw [if_pos rfl]; have hl : r.letter.size = 0 := by simpa [zaa.pair] using hp
   unfold zaC; rw [if_pos (show (zaa.pair ⟨r.letter, r.left + n, r.right + n⟩) = true by simpa [zaa.pair] using hl)]; show (decide (0 <= r.left + n) && decide (r.left + n <= ((n + k : Nat) : Int) - 1) && decide (0 <= r.right + n) && decide (r.right + n <= ((n + k : Nat) : Int) - 1)) = true
   rw [decide_eq_true yO, decide_eq_true yO, decide_eq_true yO, decide_eq_true yO]; rfl
 | false =>
   rw [if_neg yS]; unfold zaC at h |-
   rw [if_neg (by simp [hp])] at h |-
   exact h
theorem zgZ {xs ys : List zaa} (h : za2 xs) (h' : za2 ys) : za2 (xs ++ ys.map (zaH xs.length)) := by
 intro k r hk; rcases Nat.lt_or_ge k xs.length with hlt | hge
 · rw [List.getElem?_append_left hlt] at hk; exact h k r hk
 · rw [List.getElem?_append_right hge, List.getElem?_map] at hk
   rcases hy : ys[k - xs.length]? with _ | y
   · rw [hy] at hk; cases hk
   · rw [hy] at hk
     have : zaH xs.length y = r := by simpa using hk
     rw [<- this, show k = xs.length + (k - xs.length) by omega]; exact zjh (h' _ y hy)
theorem zji : za2 [] := fun k r h => by simp at h
theorem zgf {xs : List zaa} (h : za2 xs) (hl : xs.length <= 1099511627776) : zi6 xs := by
 intro r hr hp; obtain ⟨k, hk⟩ := List.mem_iff_getElem?.1 hr; have h1 := zbs (h k r hk) hp; have h2 := (List.getElem?_eq_some_iff.1 hk).1
 omega
theorem zcX {S : List Int} {i : Nat} (h : i < S.length) : ((S.map (Value.int .i64)).toArray)[i]? = some (.int .i64 (S.getD i 0)) := by
 rw [List.getElem?_toArray, List.getElem?_map, yg, ye h]; rfl
theorem zip (S : List Int) (i : Nat) (v : Int) : ((S.map (Value.int .i64)).toArray).setIfInBounds i (.int .i64 v) = ((S.set i v).map (Value.int .i64)).toArray := by
 rw [List.map_set]; simp
structure zpC (k : Nat) (p : List zaa × List Int) : Prop where
 ok : za2 p.1
 len : p.1.length <= 2004 * k
 l4 : p.2.length = 4
 low : ∀ i, i < 4 -> -1 <= p.2.getD i 0 /\ p.2.getD i 0 < p.1.length
theorem zeU (xs : List zaa) (ws : List ByteArray) (k : Nat) : zbO xs ws (k + 1) = zbV xs ws (zbO xs ws k) k := by
 unfold zbO; rw [List.range_succ, List.foldl_append]; rfl
theorem ziq {l : List Int} {i j : Nat} {v : Int} (hi : i < l.length) : (l.set i v).getD j 0 = if i = j then v else l.getD j 0 := by
 by_cases h : i = j
 · subst h; rw [if_pos rfl, yg, List.getElem?_set, if_pos rfl, if_pos hi]; rfl
 · rw [if_neg h]; exact zgT h
theorem zkc (xs : List zaa) (ws : List ByteArray) (hw : ∀ s ∈ ws, zaB s = true) (hl : ws.length = 4) : ∀ k, k <= 4 -> zpC k (zbO xs ws k) := by
 intro k
 induction k with
 | zero => intro _; refine ⟨zji, by simp [zbO], rfl, fun i hi => ?_⟩; have : i = 0 \/ i = 1 \/ i = 2 \/ i = 3 := by omega
           rcases this with rfl | rfl | rfl | rfl <;> simp [zbO]
 | succ k ih =>
   intro hk; have H := ih yO; rw [zeU]; obtain ⟨O, S, hp⟩ : ∃ O S, zbO xs ws k = (O, S) := ⟨_, _, rfl⟩
   rw [hp] at H |-
   have hO : za2 O := H.ok; have hlO : O.length <= 2004 * k := H.len; have hS : S.length = 4 := H.l4; have hlow : ∀ i, i < 4 -> -1 <= S.getD i 0 /\ S.getD i 0 < (O.length : Int) := H.low
   have hwk : zaB (ws.getD k ⟨#[]⟩) = true := by
    rw [yg, ye yO]; exact hw _ (List.getElem_mem _)
   have hsz : (ws.getD k ⟨#[]⟩).size <= 2000 := by unfold zaB at hwk; simp only [Bool.and_eq_true, decide_eq_true_eq] at hwk; omega
   have hpl := zdM (ws.getD k ⟨#[]⟩); unfold zbV; split
   · refine ⟨zgZ hO (zcW hwk), ?_, by simp [hS], ?_⟩
     · show (O ++ _).length <= _
       rw [List.length_append, List.length_map]; omega
     · intro i hi
       show -1 <= (S.set k _).getD i 0 /\ (S.set k _).getD i 0 < ((O ++ _).length : Int)
       rw [ziq yO, List.length_append, List.length_map]; have := hlow i hi; have e0 : ((O, S) : List zaa × List Int).fst.length = O.length := rfl; split <;> omega
   · exact ⟨hO, by show O.length <= _; omega, hS, hlow⟩
structure zoZ (B k : Nat) (p : List zaa × List Int) : Prop where
 ok : za2 p.1
 len : p.1.length <= B + k
 ls : p.2.length = k
 low : ∀ i, i < k -> -1 <= p.2.getD i 0 /\ p.2.getD i 0 < p.1.length
theorem zd1 {xs : List zaa} {ws : List ByteArray} {k : Nat} {r : zaa} (h : xs[k]? = some r) : zb7 xs ws (k + 1) = zbj (zbO xs ws 4).2 (zb7 xs ws k) r := by
 unfold zb7; exact zcw _ _ _ _ _ h
theorem zgA {S : List Int} {v : Int} {m : Nat} (h : ∀ i, i < S.length -> -1 <= S.getD i 0 /\ S.getD i 0 < (m : Int)) {m' : Nat} (hm : m <= m') (hv : -1 <= v /\ v < (m' : Int)) : ∀ i, i < S.length + 1 -> -1 <= (S ++ [v]).getD i 0 /\ (S ++ [v]).getD i 0 < (m' : Int) := by
 intro i hi; rcases Nat.lt_or_ge i S.length with hlt | hge
 · rw [zb6 hlt]; have := h i hlt; omega
 · have : i = S.length := by omega
   subst this; rw [zdG]; exact hv
theorem zeV {r : zaa} {k : Nat} (h : zaC k r = true) (hp : r.pair = false) : 97 <= (r.letter.data.getD 0 0).toNat /\ (r.letter.data.getD 0 0).toNat <= 100 := by
 unfold zaC at h; rw [if_neg (by simp [hp])] at h; simp [zeh] at h
 have h1 := h.1.1.1.2; have h2 := h.1.1.2; simp only [Array.getD_eq_getD_getElem?]
 omega
theorem zkT (xs : List zaa) (ws : List ByteArray) (hw : ∀ s ∈ ws, zaB s = true) (hl : ws.length = 4) (hx : za2 xs) : ∀ k, k <= xs.length -> zoZ 8016 k (zb7 xs ws k) := by
 have HB := zkc xs ws hw hl 4 yL; intro k
 induction k with
 | zero => intro _; exact ⟨HB.ok, by have := HB.len; show (zbO xs ws 4).1.length <= _; omega, rfl, fun i hi => absurd hi yO⟩
 | succ k ih =>
   intro hk; have H := ih yO; obtain ⟨r, hr⟩ : ∃ r, xs[k]? = some r := ⟨_, ye yO⟩
   have hor := hx k r hr
   have hB4 : (zbO xs ws 4).1.length <= (zb7 xs ws k).1.length := by
    clear H hor; unfold zb7
    suffices G : ∀ (l : List zaa) (p : List zaa × List Int), p.1.length <= (l.foldl (zbj (zbO xs ws 4).2) p).1.length by exact G (xs.take k) ((zbO xs ws 4).1, [])
    intro l
    induction l with
    | nil => intro p; exact Nat.le_refl _
    | cons a l ih2 =>
      intro p; refine Nat.le_trans ?_ (ih2 _)
      unfold zbj; split
      · split
        · exact Nat.le_refl _
        · split
          · exact Nat.le_refl _
          · simp
      · exact Nat.le_refl _
   rw [zd1 hr]; obtain ⟨O, S, hp⟩ : ∃ O S, zb7 xs ws k = (O, S) := ⟨_, _, rfl⟩
   rw [hp] at H hB4 |-
   have hO : za2 O := H.ok; have hlO : O.length <= 8016 + k := H.len; have hS : S.length = k := H.ls; have hlow : ∀ i, i < k -> -1 <= S.getD i 0 /\ S.getD i 0 < (O.length : Int) := H.low; have hlow' : ∀ i, i < S.length -> -1 <= S.getD i 0 /\ S.getD i 0 < (O.length : Int) := fun i hi => hlow i yO; unfold zbj; cases hpr : r.pair with
   | true =>
     obtain ⟨q1, q2, q3, q4⟩ := zbs hor hpr; rw [if_pos rfl]; have a := hlow _ q2; have b := hlow _ q4; split
     · exact ⟨hO, by show O.length <= _; omega, by simp [hS], by rw [<- hS]; exact zgA hlow' yL b⟩
     · split
       · exact ⟨hO, by show O.length <= _; omega, by simp [hS], by rw [<- hS]; exact zgA hlow' yL a⟩
       · rename_i c1 c2
         have c1' : ¬ S.getD r.left.toNat 0 < 0 := c1; have c2' : ¬ S.getD r.right.toNat 0 < 0 := c2; refine ⟨hO.snoc (zco ⟨by omega, a.2⟩ ⟨by omega, b.2⟩), by show (O ++ _).length <= _; simp; omega, by simp [hS], ?_⟩
         rw [<- hS]; show ∀ i, i < S.length + 1 -> -1 <= (S ++ [(O.length : Int)]).getD i 0 /\ (S ++ [(O.length : Int)]).getD i 0 < (((O ++ [zaP (S.getD r.left.toNat 0) (S.getD r.right.toNat 0)]).length : Nat) : Int)
         exact zgA hlow' yS (by simp; omega)
   | false =>
     rw [if_neg yS]; have hc := zeV hor hpr; have hb := HB.low ((r.letter.data.getD 0 0).toNat - 97) yO; exact ⟨hO, by show O.length <= _; omega, by simp [hS], by rw [<- hS]; exact zgA hlow' yL ⟨hb.1, by show _ < (O.length : Int); have : (zbO xs ws 4).1.length <= O.length := hB4; omega⟩⟩
def zec (xs : List zaa) (ws : List ByteArray) : List zaa :=
 if 400 < (zin xs ws).1.length then [] else if xs.length = 0 \/ zao (zin xs ws).2 < 0 then [] else zav (zaQ ((zin xs ws).1.take ((zao (zin xs ws).2).toNat + 1)))
def zdd (xs : List zaa) (ws : List ByteArray) : Int :=
 if 400 < (zin xs ws).1.length then 3 else if xs.length = 0 \/ zao (zin xs ws).2 < 0 then 0 else zas (zaQ ((zin xs ws).1.take ((zao (zin xs ws).2).toNat + 1)))
end Go.Proofs.YtejgbfgocaggfaaGreatDoor
