import Derived.Test.YtdacndamehiglaaGreatDoorM15
set_option maxRecDepth 100000
set_option maxHeartbeats 8000000
namespace Go.Proofs.YtdacndamehiglaaGreatDoor
open Go.RowKit
def zjy (xs : List zaa) (k i : Nat) : Bool := (xs.take i).any fun r => decide (r.letter = (zcA (ltr k)).letter)
theorem zkV {xs : List zaa} {k i : Nat} {r : zaa} (h : xs[i]? = some r) : zjy xs k (i + 1) = (zjy xs k i || decide (r.letter = (zcA (ltr k)).letter)) := by
 unfold zjy; rw [List.take_add_one, h, List.any_append]; simp
theorem zl3 {xs : List zaa} (hx : zaS xs) (k : Nat) : zjy xs k xs.length = zgT xs k := by
 unfold zjy zgT; rw [List.take_length, Bool.eq_iff_iff, List.any_eq_true, List.contains_iff_mem]; constructor
 · rintro ⟨r, hr, he⟩
   have he2 : r.letter = (zcA (ltr k)).letter := by simpa using he
   obtain ⟨i, hi⟩ := List.mem_iff_getElem?.1 hr
   have hp : r.pair = false := by
    unfold zaa.pair; rw [he2]; rfl
   obtain ⟨q1, q2, q3⟩ := zb9 (hx i r hi) hp
   have : r = zcA (ltr k) := by
    cases r
    simp only at he2 q2 q3
    simp [zcA, he2, q2, q3]
   rw [<- this]; exact hr
 · intro h
   exact ⟨_, h, by simp⟩
theorem zcb {xs : List zaa} (h : zaS xs) : za5 xs := by
 intro r hr; obtain ⟨k, hk⟩ := List.mem_iff_getElem?.1 hr; cases hp : r.pair with
 | true => have : r.letter.size = 0 := by simpa [zaa.pair] using hp
           omega
 | false => have := (zb9 (h k r hk) hp).1
            omega
theorem zdN {w2 W w3 : World} {M : Nat} {vs vo : Value} {T : List Int} {P : List zaa} {a : Array Value} {t : TypeId} {o : Obj} (hb : Below M w2 W) (hbox : Boxed W M 26 vo) (hown : zab W (M + 2) vo P) (hi : zal W (M + 2) vs T) (hst : Blk W (M + 1) a t)
  (hg : (W.alloc o).grownBy w3 vs.ownBlock) (hM : M + 2 <= W.heap.size) : Below M w2 w3 /\ Boxed w3 M 26 vo /\ zab w3 (M + 2) vo P /\ Blk w3 (M + 1) a t := by
 have hlt : ∀ k, vs.ownBlock = some k -> M + 2 <= k := fun k hk => (World.ownsRow.lt hi k hk).1; refine ⟨(hb.alloc yO o).grown hg (by simp; omega) (fun k hk => by have := hlt k hk; omega), Boxed.kept (Boxed.alloc hbox o) hg (fun e => by have := hlt M e.symm; omega), zfn hown hi hg, ?_⟩
 exact (hg.block (M + 1) (by simp; omega) (fun e => by have := hlt (M + 1) e.symm; omega)).trans (hst.alloc o)
theorem zkW {x Z : Nat} {wr w2 w3 : World} {o : Obj} {v7 v3 vZ vG : Value} {G : List zaa} {t : TypeId} (hb : Below wr.heap.size wr w2) (hg : (w2.alloc o).grownBy w3 v7.ownBlock) (hor : v3.ownBlock = v7.ownBlock \/ v3.ownBlock = some (w2.heap.size + 1))
  (hob : ∀ g, v7.ownBlock = some g -> g < x \/ Z < g) (hz : Blk wr Z #[vZ] t) (hs : SlS zas wr (fun b => x <= b /\ b < Z) vG G) (hx : x <= Z) : Blk w3 Z #[vZ] t /\ SlS zas w3 (fun b => x <= b /\ b < Z) vG G /\ ∀ g, v3.ownBlock = some g -> g < x \/ Z < g := by
 have hZ := hz.lt; have h2 := hb.size; have hne : ∀ b', x <= b' -> b' <= Z -> some b' ≠ v7.ownBlock := fun b' h1 h2 e => by rcases hob b' e.symm with h | h <;> omega
 refine ⟨(hg.block Z (by simp; omega) (hne Z hx yL)).trans ((hz.up hb).alloc _), hs.keep (fun b hb' => (hg.block b (by simp; omega) (hne b hb'.1 yO)).trans ((Below.heap_alloc _ _ _ yO).trans (hb.block b yO))), fun g hg' => ?_⟩
 rcases hor with h | h
 · exact hob g (h.symm.trans hg')
 · have h8 := Option.some.inj (h.symm.trans hg')
   right; omega
theorem zgC {W : World} {ops : Array Oper} {o : Oper} {a : Act} {K : Act -> World -> Prop} {Q : Exit -> Act -> World -> Prop} {E : Prop} (hgd : o.guard = none) (s x : Operand)
  (ho : o.op = .call { callee := .builtin .append, args := #[s, x], argTypes := #[24, 24] }) {t : ByteArray} {p q : Int} {base : Nat} {v : Value} {l : List zaa}
  (hs : a.eval s = v) {N : Nat} (hx : a.eval x = .slice (some ⟨N, 0, none⟩) 1 1) (hN : N = W.heap.size) (hown : zab W base v l) (hlen : l.length <= 1099511627775) (hbase : base <= W.heap.size)
  (h : ∀ v' w', zab w' base v' (l ++ [⟨t, p, q⟩]) -> (W.alloc (.cells #[.string t, .int .i64 p, .int .i64 q] 112)).grownBy w' v.ownBlock -> (v'.ownBlock = v.ownBlock \/ v'.ownBlock = some (W.heap.size + 1)) ->
    Below base (W.alloc (.cells #[.string t, .int .i64 p, .int .i64 q] 112)) w' -> K (a.put o.dst v') w') :
  if Region.wanted o (yielded ops a.tmps) = true then Oper.wp Tryz.prog o a (W.alloc (.cells #[.string t, .int .i64 p, .int .i64 q] 112)) K Q else E := by
 subst hN; have hw : Region.wanted o (yielded ops a.tmps) = true := by simp [Region.wanted, hgd]
 rw [if_pos hw]; obtain ⟨i0, hi0, hz0, hz1, hz2⟩ := info_parts Tryz.infoR
 have hsl : SlS zas (W.alloc (.cells #[.string t, .int .i64 p, .int .i64 q] 112)) (fun b => b = W.heap.size) (.slice (some ⟨W.heap.size, 0, none⟩) 1 1) [⟨t, p, q⟩] := ⟨_, 1, rfl, Nat.le_refl _, by simp [maxLen], fun _ => ⟨W.heap.size, 0, rfl, rfl, fun k r hk => ⟨r.cells, rfl, fun j u hu => by
  have hk0 : k = 0 := by
   have := (List.getElem?_eq_some_iff.1 hk).1
   simp at this; exact this
  subst hk0; simp at hk
  subst hk; have hc : (W.alloc (.cells #[.string t, .int .i64 p, .int .i64 q] 112)).cell? ⟨W.heap.size, j, none⟩ = (#[Value.string t, .int .i64 p, .int .i64 q] : Array Value)[j]? := cell_of_row _ _ _ _ 112 (0, 0) (heap_alloc_new W _); simp only [Nat.zero_mul, Nat.zero_add]
  rw [hc]
  simpa [zaa.cells] using hu⟩⟩⟩
 obtain ⟨A, c, e, hc, hm, hrow⟩ := hsl; injection e with e1 e2 e3; subst e1
 obtain ⟨v', w', hrun, h2, h3, _, h5⟩ := run_append_own_at (P := Tryz.prog) (W.alloc (.cells #[.string t, .int .i64 p, .int .i64 q] 112)) base 24 o.type 112 i0 _ 3 32 Tryz.underlying24 hi0 hz0 hz1 hz2 rfl (by decide) v _ _ (World.ownsRow.alloc hown _) ⟨W.heap.size, 0, none⟩ 1 1 (([⟨t, p, q⟩] : List zaa).flatMap zaa.cells)
  (zcC _) (zcq hrow) (zdY _) (by simp only [maxLen]; omega) yO (by simp; omega)
 unfold Oper.wp execOp; simp only [ho, resolve, invoke, builtin, Sem.run_bind, Sem.run_pure, Result.andThen_ok, List.map_toArray, List.map_cons, List.map_nil, hs, hx, hrun]
 refine h v' w' (by unfold zab; simpa using h2) h3 ?_ ((Below.refl base _).grown h3 (by simp; omega) (fun k hk => (World.ownsRow.lt hown k hk).1))
 simpa using h5
theorem zjz (v vW : Value) (xs : List zaa) (ws : List ByteArray) (w : World) (h : Sl zas w w.heap.size v xs) (hW : Sl zhs w w.heap.size vW ws) (hsm : za5 xs) (hx : zaf xs = true) (hws : ∀ s ∈ ws, zay s = true) (hl4 : ws.length = 4) :
  Calls Tryz.prog 135 #[.agg #[v], vW] w (zlp (zdR xs ws) (zcW xs ws) w) := by
 have HS := yq h; have HW := yq hW; have HX := yq hx; have HWS := yq hws; have HL4 := yq hl4; have hn4 : xs.length <= 400 := (zag hx).1; have hokx := yq (zaz (zag hx).2.choose_spec); have HSM := yq hsm; obtain ⟨A, c, rfl, _⟩ := h; obtain ⟨AW, cW, rfl, _⟩ := hW; rw [hl4]; clear hx hws hl4 hsm; go_enter Tryz.func135, Tryz.ntmps135
 go_wp2_with fail
 refine (zbf w.heap.size 0 _ xs _ (by simp [go_sem]) (by simp; omega) (HS.o.up yb) HSM.o).mono ?_
 rintro e w1 ⟨rfl, hb_1⟩; have KQ_2 : Blk w1 (w.heap.size + 1) #[.slice none 0 0] 26 := by have := (Below.unalloc hb_1).2; simpa [Blk] using this
 replace hb_1 := (Below.unalloc hb_1).1
 have KP_3 : Blk w1 (w.heap.size) #[.slice A xs.length c] 26 := by have := (Below.unalloc hb_1).2; simpa [Blk] using this
 replace hb_1 := (Below.unalloc hb_1).1
 have z_w1 : w.heap.size <= w1.heap.size := hb_1.size; have KB_4 := yq hb_1; rw [HX.o]; have HK0 := yq KP_3; have HK1 := yq KQ_2; have HB2 := yq KB_4.o; have HW2 := yq (show Sl zhs w1 w1.heap.size (.slice AW 4 cW) ws by have := HW.o.up HB2.o; rw [HL4.o] at this; exact this); have HS2 := yq (HS.o.up HB2.o); go_wp2_with fail
 go_loopw [6] (fun q wr => ∃ k : Nat, k <= 4 /\ q = .int .i64 (k : Int) /\ wr = w1) (fun q _ => 4 - (intOf q).toNat)
 case atStart => exact ⟨0, by omega, rfl, rfl⟩
 case round =>
  obtain ⟨k, hk, rfl, rfl⟩ := hrel; by_cases hlt : k < 4
  · obtain ⟨s, hs⟩ : ∃ s, ws[k]? = some s := ⟨_, ye (by rw [HL4.o]; exact hlt)⟩
    obtain ⟨AW', cW', eW, _, _, hrow⟩ := HW2.o; injection eW with eW1 eW2 eW3; subst eW1; obtain ⟨b, o, rfl, hbl, hcell⟩ := hrow.str (k := k) (by rw [HL4.o]; exact hlt); have hcw := hcell k s hs; have hki : (k : Int) < 4 := by omega
    have HWk := yq (HWS.o s (List.mem_of_getElem? hs)); clear hcell hrow hs eW2 eW3; go_wp2_with fail
    refine (zeQ s _ (by have h1 := HWk.o; unfold zay at h1; simp only [Bool.and_eq_true, decide_eq_true_eq] at h1; unfold maxLen; omega)).mono ?_
    rintro e w' ⟨rfl, rfl⟩; rw [HWk.o]; go_wp2_with fail
    go_roundw
    case rel => exact ⟨k + 1, by omega, by go_num, trivial⟩
    case measure => simp [intOf]; omega
  · have hk4 : k = 4 := by omega
    subst hk4; rw [show ((4 : Nat) : Int) = 4 from rfl]; obtain ⟨wo, rfl⟩ : ∃ wo : World, wo = wr := ⟨_, rfl⟩
    go_wp2_with fail
    obtain ⟨M, hM⟩ : ∃ M, M = wo.heap.size := ⟨_, rfl⟩
    have HM := yq hM; rw [<- hM]
    have hSt : Blk ((wo.alloc (Obj.cells #[Value.slice none 0 0] 26)).alloc (Obj.cells #[Value.int IntKind.i64 (-1), Value.int IntKind.i64 (-1), Value.int IntKind.i64 (-1), Value.int IntKind.i64 (-1)] 2)) (M + 1) #[Value.int IntKind.i64 (-1), Value.int IntKind.i64 (-1), Value.int IntKind.i64 (-1), Value.int IntKind.i64 (-1)] 2 := by
     rw [hM]; repeat (first | (apply Blk.new'; simp; done) | apply Blk.alloc | apply Blk.drew)
    have hOut : Blk ((wo.alloc (Obj.cells #[Value.slice none 0 0] 26)).alloc (Obj.cells #[Value.int IntKind.i64 (-1), Value.int IntKind.i64 (-1), Value.int IntKind.i64 (-1), Value.int IntKind.i64 (-1)] 2)) M #[.slice none 0 0] 26 := by
     rw [hM]; repeat (first | (apply Blk.new'; simp; done) | apply Blk.alloc | apply Blk.drew)
    have HSt := yq hSt; have HOut := yq hOut; have z20 : w.heap.size <= M := by rw [hM]; exact HB2.o.size
    have z21 : w.heap.size + 1 < M := by rw [hM]; exact HK1.o.lt
    clear hSt hOut hM KQ_2 KP_3 hb_1 z_w1 KB_4; go_loopw [9, 10, 11, 12, 13, 14] (fun q _ _ _ _ _ wr => ∃ (k : Nat) (vo : Value), k <= 4 /\ q = .int .i64 (k : Int) /\ Below M wo wr /\ Boxed wr M 26 vo /\ zab wr (M + 2) vo (za9 xs ws k).1 /\ Blk wr (M + 1) (((za9 xs ws k).2.map (Value.int .i64)).toArray) 2) (fun q _ _ _ _ _ _ => 4 - (intOf q).toNat)
    case atStart =>
     refine ⟨0, _, by omega, rfl, ?_, HOut.o, World.ownsRow_nil _ _ _ _, HSt.o⟩
     rw [HM.o]; exact yb
    case round =>
     obtain ⟨k, vo, hk, rfl, hb, hbox, hown, hst⟩ := hrel; have hbase := zjp xs ws HWS.o HL4.o k hk; have hlen1 := hbase.len; have hlen2 := hbase.l4; have HBA := yq hbase; have HBs := yq (zds xs ws k); clear hbase; obtain ⟨O, S, hOS⟩ : ∃ O S, za9 xs ws k = (O, S) := ⟨_, _, rfl⟩
     rw [hOS] at hown hst hlen1 hlen2
     replace hown : zab wr (M + 2) vo O := hown
     replace hst : Blk wr (M + 1) ((S.map (Value.int .i64)).toArray) 2 := hst
     replace hlen1 : O.length <= 2004 * k := hlen1
     replace hlen2 : S.length = 4 := hlen2
     have HOS := yq hOS; have HB := yq hb; have HX1 := yq hbox; have HO := yq hown; have HST := yq hst; have HS4 := yq hlen2; have c0 : wr.cell? ⟨w.heap.size, 0, none⟩ = some (.slice A xs.length c) := (HK0.o.upB hb yO).cell rfl; have lMw : M + 1 < wr.heap.size := hst.lt; obtain ⟨Ao, co, rfl, _⟩ := zae hown; clear hb hbox hown hst hOS hlen2; by_cases hlt : k < 4
     · have hcv : ∀ W : World, (convert 22 9 (.slice (some ⟨W.heap.size, 0, none⟩) 1 1)).run Tryz.prog (W.alloc (.cells #[.int .u8 (97 + (k : Int))] 5)).drew = .ok (.string (zcA (ltr k)).letter) (W.alloc (.cells #[.int .u8 (97 + (k : Int))] 5)).drew := fun W => by
        have := zn9 W.drew _ rfl (ltr k); rw [<- zgu hlt, show ((97 + k : Nat) : Int) = 97 + (k : Int) by omega] at this; exact this
       obtain ⟨wq, rfl⟩ : ∃ wq : World, wq = wr := ⟨_, rfl⟩
       go_wp2_with fail
       go_loopw [10, 11] (fun u10 q wx => ∃ i : Nat, i <= xs.length /\ q = .int .i64 (i : Int) /\ u10 = .bool (zjy xs k i) /\ Below wq.heap.size wq wx) (fun _ q _ => xs.length - (intOf q).toNat)
       case atStart => exact ⟨0, by omega, rfl, rfl, Below.refl _ _⟩
       case round =>
        obtain ⟨i, hi, rfl, rfl, hbx⟩ := hrel; have HBX := yq hbx; have c0' : wr.cell? ⟨w.heap.size, 0, none⟩ = some (.slice A xs.length c) := (hbx.cell (p := ⟨w.heap.size, 0, none⟩) (by show w.heap.size < wq.heap.size; omega)).trans c0; have zq : wq.heap.size <= wr.heap.size := hbx.size; by_cases hlt2 : i < xs.length
        · obtain ⟨AG, cG, eG, _, _, hrow⟩ := HS2.o
          injection eG with eG1 eG2 eG3; subst eG1; obtain ⟨b, o, rfl, hbl, hcell⟩ := hrow.rule hlt2; obtain ⟨r, hr⟩ : ∃ r, xs[i]? = some r := ⟨_, ye hlt2⟩
          obtain ⟨g0, g1, g2⟩ := hcell i r hr; have hbl2 : b < M := by rw [HM.o]; exact hbl
          have hc0 := (hbx.cell (p := ⟨b, o + i * 3, none⟩) (by show b < wq.heap.size; omega)).trans ((HB.o.cell (p := ⟨b, o + i * 3, none⟩) hbl2).trans g0); have lbw : b < wr.heap.size := by omega
          have lP : w.heap.size < wr.heap.size := by omega
          have hs1 : IntKind.i64.wrap (97 + (k : Int)) = 97 + (k : Int) := IntWalk.i64_in _ yO; have hs2 : IntKind.u8.wrap (97 + (k : Int)) = 97 + (k : Int) := by rw [IntKind.wrap_u8]; omega
          have HU := yq (zkV (k := k) hr); have hki : (i : Int) < (xs.length : Int) := by omega
          clear hcell hrow g0 g1 g2 hr eG2 eG3 hbx c0; cases hu : zjy xs k i with
          | true =>
            rw [hu] at HU; clear hu; go_wp2_with fail
            go_region
            all_goals
             go_wp2_with fail
             go_roundw
             case rel => exact ⟨i + 1, by omega, by go_num, by rw [HU.o]; rfl, Below.drew HBX.o⟩
             case measure => simp [intOf]; omega
          | false =>
            rw [hu] at HU; clear hu; go_wp2_with fail
            by_cases hrl : r.letter = (zcA (ltr k)).letter
            · have hdl : decide (r.letter = (zcA (ltr k)).letter) = true := by simp [hrl]
              rw [hdl] at HU; go_region
              all_goals
               go_wp2_with fail
               go_roundw
               case rel => exact ⟨i + 1, by omega, by go_num, by rw [HU.o]; rfl, Below.drew (HBX.o.alloc zq _)⟩
               case measure => simp [intOf]; omega
            · have hdl : decide (r.letter = (zcA (ltr k)).letter) = false := by simp [hrl]
              have hdl2 : (r.letter.toList == (zcA (ltr k)).letter.toList) = false := by
               rw [beq_eq_false_iff_ne, ByteArray.toList_eq, ByteArray.toList_eq]; exact fun h => hrl (ByteArray.ext (Array.toList_inj.mp h))
              rw [hdl] at HU; go_region
              all_goals
               go_wp2_with fail
               go_roundw
               case rel => exact ⟨i + 1, by omega, by go_num, by rw [HU.o]; rfl, Below.drew (HBX.o.alloc zq _)⟩
               case measure => simp [intOf]; omega
        · have hik : i = xs.length := by omega
          subst hik; rw [zl3 hokx.o k]; obtain ⟨ws3, rfl⟩ : ∃ ws3 : World, ws3 = wr := ⟨_, rfl⟩
          obtain ⟨s, hs⟩ : ∃ s, ws[k]? = some s := ⟨_, ye (by rw [HL4.o]; exact hlt)⟩
          have hsg : ws.getD k ⟨#[]⟩ = s := by rw [yg, hs]; rfl
          obtain ⟨AW', cW', eW, _, _, hrow⟩ := HW2.o; injection eW with eW1 eW2 eW3; subst eW1; obtain ⟨b, o, rfl, hbl, hcell⟩ := hrow.str (k := k) (by rw [HL4.o]; exact hlt); have hbl2 : b < M := by rw [HM.o]; exact hbl
          have hcw : ws3.cell? ⟨b, o + k, none⟩ = some (.string s) := (hbx.cell (p := ⟨b, o + k, none⟩) (by show b < wq.heap.size; omega)).trans ((HB.o.cell (p := ⟨b, o + k, none⟩) hbl2).trans (hcell k s hs)); have lbw : b < ws3.heap.size := by omega
          have hki : (k : Int) < 4 := by omega
          have HWk := yq (HWS.o s (List.mem_of_getElem? hs)); have HSG := yq hsg; have HXr := yq (Boxed.up HX1.o hbx HX1.o.lt); have HOr := yq (zab.below HO.o hbx); have HSTr := yq (HST.o.up hbx); have HBr := yq (HB.o.trans (hbx.mono yO)); have lP : w.heap.size < ws3.heap.size := by omega
          clear hcell hrow hs hsg eW2 eW3 hbx HBX; by_cases hcd : s.size ≠ 0 /\ zgT xs k = true
          · have he1 : s.toList.isEmpty = false := by rw [zan]; simp [hcd.1]
            have hL := hcd.2; rw [hL]; have HCD := yq hcd; clear hcd; have cX := HXr.o.cell; have lX := HXr.o.lt; go_wp2_with fail
            refine (ziC s _ HWk.o).mono ?_
            rintro e w4 ⟨hb4, v4, own4, rfl⟩; have HXp := yq (Boxed.up HXr.o hb4 HXr.o.lt); have HOp := yq (zab.below HOr.o hb4); have HSTp := yq (HSTr.o.up hb4); have HBp := yq (HBr.o.trans (hb4.mono yO)); have hsz : s.size <= 2000 := by have := HWk.o; unfold zay at this; simp only [Bool.and_eq_true, decide_eq_true_eq] at this; omega
            have hpl := zfq s; have HP := yq (zfQ (zcF HWk.o) yO); have hO8 : O.length <= 8016 := by omega
            obtain ⟨G, hG⟩ : ∃ G, zcn s = G := ⟨_, rfl⟩
            have HG := yq hG; rw [hG] at hpl HP own4; obtain ⟨A4, c4, rfl, _⟩ := zae own4; have z4 : ws3.heap.size <= w4.heap.size := hb4.size; have HG4 := yq (zab.slS own4 (S := fun b => ws3.heap.size <= b /\ b < w4.heap.size) fun g hg => World.ownsRow.lt own4 g hg); have cX4 := HXp.o.cell; have lX4 := HXp.o.lt; have hOB := yq (fun g (hg : (Value.slice Ao O.length co).ownBlock = some g) => (World.ownsRow.lt HOr.o g hg).2); clear hG hb4 own4 cX lX hcw; go_wp2_with fail
            obtain ⟨Z, hZ⟩ : ∃ Z, Z = w4.heap.size := ⟨_, rfl⟩
            have hZc : Blk (w4.alloc (Obj.cells #[Value.slice A4 G.length c4] 26)) Z #[.slice A4 G.length c4] 26 := by rw [hZ]; exact Blk.new _ _ _
            have HZc := yq hZc; have HZ := yq hZ; rw [<- hZ]; rw [<- hZ] at z4 lX4; clear hZ hZc
            go_loopw [14] (fun q wx => ∃ (i : Nat) (vo : Value), i <= G.length /\ q = .int .i64 (i : Int) /\ Below M wo wx /\ Boxed wx M 26 vo /\ zab wx (M + 2) vo (O ++ (G.take i).map (zaC O.length)) /\ Blk wx (M + 1) ((S.map (Value.int .i64)).toArray) 2 /\
             Blk wx Z #[.slice A4 G.length c4] 26 /\ SlS zas wx (fun b => ws3.heap.size <= b /\ b < Z) (.slice A4 G.length c4) G /\ (∀ g, vo.ownBlock = some g -> g < ws3.heap.size \/ Z < g)) (fun q _ => G.length - (intOf q).toNat)
            case atStart =>
             refine ⟨0, _, Nat.zero_le _, rfl, HBp.o.alloc (by rw [<- HZ.o]; omega) _, Boxed.alloc HXp.o _, ?_, HSTp.o.alloc _, HZc.o, ?_, fun g hg => .inl (hOB.o g hg)⟩
             · rw [List.take_zero, List.map_nil, List.append_nil]; exact HOp.o.alloc _
             · rw [HZ.o]; exact HG4.o.keep ((zeu.of_below (B := w4.heap.size) ((Below.refl _ _).alloc yL _)).mono fun _ hb => hb.2)
            case round =>
             obtain ⟨i, vo, hi, rfl, hb, hbox, hown, hst, hzc, hsl, hob⟩ := hrel; obtain ⟨L, hL9⟩ : ∃ L, L = O ++ (G.take i).map (zaC O.length) := ⟨_, rfl⟩
             rw [<- hL9] at hown; have hlk : L.length = O.length + i := by rw [hL9]; simp; omega
             have HL9 := yq hL9; have HB7 := yq hb; have HX7 := yq hbox; have HO7 := yq hown; have HST7 := yq hst; have HZ7 := yq hzc; have HS7 := yq hsl; have HOB7 := yq hob; have cO := hbox.cell; have fO := hbox.frozen; have lO := hbox.lt; have cZ := hzc.cell (i := 0) (v := .slice A4 G.length c4) rfl; have lZ := hzc.lt; have l1 := hst.lt; obtain ⟨A7, c7, rfl, _⟩ := zae hown; have HLl := yq (show L.length <= 1099511627775 by omega); have HLK := yq hlk; clear hb hbox hown hst hzc hob hL9 hlk; by_cases hlt3 : i < G.length
             · obtain ⟨AZ, cZ', eZ, _, _, hrowZ⟩ := HS7.o
               injection eZ with eZ1 eZ2 eZ3; subst eZ1; obtain ⟨b2, o2, rfl, hbl3, hcell⟩ := hrowZ.rule hlt3; obtain ⟨r, hr⟩ : ∃ r, G[i]? = some r := ⟨_, ye hlt3⟩
               obtain ⟨hg0, hg1, hg2⟩ := hcell i r hr; have lb2 : b2 < wr.heap.size := by omega
               have hgi : (i : Int) < (G.length : Int) := by omega
               have HPr := yq (HP.o r (List.mem_of_getElem? hr)); have hnx : O ++ (G.take (i + 1)).map (zaC O.length) = L ++ [zaC O.length r] := by rw [List.take_add_one, hr, List.map_append, <- List.append_assoc, <- HL9.o]; rfl
               have HNX := yq hnx; clear hcell hrowZ hr hsl eZ2 eZ3 hnx; go_wp2_with fail
               go_region_law (first
                | (refine zgC (base := M + 2) (v := .slice A7 L.length c7) yR _ _ yR yR (by first | rfl | simp) rfl (zab.below HO7.o.drew hb2) HLl.o yO ?_; intro v3 w3 own3 hg3 hor3 hb3; have bx3 : Boxed w3 M 26 _ := Boxed.grown (Boxed.up (Boxed.mk' HX7.o) hb2 lO) (by decide) (zab.below HO7.o.drew hb2) hg3; obtain ⟨A3, c3, rfl, _⟩ := zae own3; have hcb3 := bx3.cell; have hfb3 := bx3.frozen)
                | (go_simp; go_at_call 177; refine (zeX r O.length _ yO HPr.o).mono ?_; rintro e w2 ⟨rfl, hb2⟩; have bx2 := Boxed.up (Boxed.mk' HX7.o) hb2 lO; have hcb2 := bx2.cell; have hfb2 := bx2.frozen; have hlb2 := bx2.lt; have z2 : wr.heap.size <= w2.heap.size := hb2.size))
               all_goals
                have h2 : Below wr.heap.size wr w2 := Below.undrew hb2; have hbz : Below (M + 2) wr w3 := (h2.mono yO).trans (((Below.refl _ _).alloc yO _).trans hb3); obtain ⟨kZ, kS, kOB⟩ := zkW h2 hg3 hor3 HOB7.o HZ7.o HS7.o z4; have HBZ := yq hbz; have HO8 := yq own3; have HX8 := yq bx3; have HKZ := yq kZ; have HKS := yq kS; have HKO := yq kOB; clear hbz own3 bx3 hb2 hb3 hg3 hor3 h2 kZ kS kOB bx2; go_wp2_with fail
                go_roundw
                case rel =>
                 refine ⟨i + 1, .slice A3 (L.length + 1) c3, by omega, by go_num, (HB7.o.trans (HBZ.o.mono yO)).setCell (by show M <= M; omega) _, Boxed.set _ HX8.o, ?_, (HST7.o.upB HBZ.o yO).other (by show M + 1 ≠ M; omega) _, HKZ.o.other (by show Z ≠ M; omega) _, HKS.o.keep fun b hb => Below.heap_setCell _ _ _ _ (by show b ≠ M; omega), fun g hg => HKO.o g (by rw [List.length_append]; exact hg)⟩
                 rw [HNX.o]; exact zcs HX8.o HO8.o rfl yS
                case measure => simp [intOf]; omega
             · have hig : i = G.length := by omega
               subst hig; have cS := HST7.o.cell (i := k) (v := .int .i64 (S.getD k 0)) (zcG (by rw [HS4.o]; exact hlt)); have fS := HST7.o.frozen k; have hO9 : L.length <= 12000 := by rw [HLK.o]; omega
               have hHL : L = O ++ G.map (zaC O.length) := by rw [HL9.o, List.take_length]
               have HHL := yq hHL; clear hHL; go_wp2_with fail
               go_roundw
               case rel =>
                have ebs : za9 xs ws (k + 1) = (L, S.set k ((L.length : Int) - 1)) := by
                 rw [HBs.o, zbI, HSG.o, if_pos HCD.o, HOS.o, HG.o, HHL.o, List.length_append, List.length_map]
                refine ⟨k + 1, _, by omega, by go_num, HB7.o.setCell (by show M <= M + 1; omega) _, Blk.other HX7.o (by show M ≠ M + 1; omega) _, ?_, ?_⟩
                · rw [ebs]
                  exact ownsRow_setCell_below (a := ⟨M + 1, k, none⟩) HO7.o (by show M + 1 < M + 2; omega) _
                · rw [ebs, <- zhB]
                  exact HST7.o.set k _
               case measure => simp [intOf]; omega
          · have e0 : ¬ ((ws.getD k ⟨#[]⟩).size ≠ 0 /\ zgT xs k = true) := by rw [HSG.o]; exact hcd
            have E0 := yq e0; cases hL : zgT xs k with
            | false =>
              go_wp2_with fail
              go_roundw
              case rel => exact ⟨k + 1, _, by omega, by go_num, HBr.o, HXr.o, by rw [HBs.o, zbI, if_neg E0.o, HOS.o]; exact HOr.o, by rw [HBs.o, zbI, if_neg E0.o, HOS.o]; exact HSTr.o⟩
              case measure => simp [intOf]; omega
            | true =>
              have hs0 : s.size = 0 := by
               rcases Nat.eq_zero_or_pos s.size with h | h
               · exact h
               · exact absurd ⟨by omega, hL⟩ hcd
              have hse : s = ⟨#[]⟩ := ByteArray.ext (Array.eq_empty_of_size_eq_zero hs0); have HSE := yq hse; rw [hse] at hcw; clear hse hs0; go_wp2_with fail
              go_roundw
              case rel => exact ⟨k + 1, _, by omega, by go_num, HBr.o, HXr.o, by rw [HBs.o, zbI, if_neg E0.o, HOS.o]; exact HOr.o, by rw [HBs.o, zbI, if_neg E0.o, HOS.o]; exact HSTr.o⟩
              case measure => simp [intOf]; omega
     · have hk4 : k = 4 := by omega
       subst hk4; obtain ⟨wq, rfl⟩ : ∃ wq : World, wq = wr := ⟨_, rfl⟩
       have HBO := yq (show (za9 xs ws 4).2 = S by rw [HOS.o]); have HSK := yq (fun k hk => zj4 xs ws HWS.o HL4.o hokx.o k hk); have HBl := yq (fun i hi => HBA.o.low i hi); rw [HOS.o] at HBl; have hS0 := yq (show zbE xs ws 0 = (O, []) by unfold zbE; rw [HOS.o]; rfl); go_wp2_with fail
       go_loopw [15, 16, 17, 18, 19] (fun sv q _ _ _ wr => ∃ (k : Nat) (vo : Value), k <= xs.length /\ q = .int .i64 (k : Int) /\ Below M wo wr /\ Boxed wr M 26 vo /\ zab wr (M + 2) vo (zbE xs ws k).1 /\ zal wr (M + 2) sv (zbE xs ws k).2 /\ Blk wr (M + 1) ((S.map (Value.int .i64)).toArray) 2) (fun _ q _ _ _ _ => xs.length - (intOf q).toNat)
       case atStart =>
        refine ⟨0, _, Nat.zero_le _, rfl, HB.o.alloc yO _, Boxed.alloc HX1.o _, ?_, ?_, HST.o.alloc _⟩
        · rw [hS0.o]; exact HO.o.alloc _
        · rw [hS0.o]; exact zal.empty rfl yO
       case round =>
        obtain ⟨k, vo, hk, rfl, hb, hbox, hown, hi, hst⟩ := hrel; have hsk := HSK.o k hk; have hlO := hsk.len; have hlS := hsk.ls; have hlow := hsk.low; have HOK := yq hsk.ok; have HNx := yq (fun r hr => zcV (xs := xs) (ws := ws) (k := k) (r := r) hr); rw [HBO.o] at HNx; obtain ⟨P, T, hPT⟩ : ∃ P T, zbE xs ws k = (P, T) := ⟨_, _, rfl⟩
        have HPT := yq hPT; rw [hPT] at hown hi hlO hlS hlow HOK HNx
        replace hown : zab wr (M + 2) vo P := hown
        replace hi : zal wr (M + 2) u15 T := hi
        replace hlO : P.length <= 8016 + k := hlO
        replace hlS : T.length = k := hlS
        have HTl := yq hlS; have HLow := yq hlow; have HB5 := yq hb; have HX5 := yq hbox; have HO5 := yq hown; have HI5 := yq hi; have HST5 := yq hst; have c05 : wr.cell? ⟨w.heap.size, 0, none⟩ = some (.slice A xs.length c) := (HK0.o.upB hb yO).cell rfl; have cb5 := hbox.cell; have fb5 := hbox.frozen; have lb5 := hbox.lt; have l15 := hst.lt; obtain ⟨A5, c5, rfl, _⟩ := zae hown; obtain ⟨A7, c7, rfl, _⟩ := zae hi; have HTl2 := yq (show T.length <= 1099511627775 by rw [hlS]; omega); have HPl2 := yq (show P.length <= 1099511627775 by omega); clear hb hbox hown hi hst hPT hsk hlow hlS c0; by_cases hlt2 : k < xs.length
        · obtain ⟨AG, cG, eG, _, _, hrow⟩ := HS2.o
          injection eG with eG1 eG2 eG3; subst eG1; obtain ⟨b, o, rfl, hbl, hcell⟩ := hrow.rule hlt2; obtain ⟨r, hr⟩ : ∃ r, xs[k]? = some r := ⟨_, ye hlt2⟩
          obtain ⟨g0, g1, g2⟩ := hcell k r hr; have hbl2 : b < M := by rw [HM.o]; exact hbl
          have hc0 := (HB5.o.cell (p := ⟨b, o + k * 3, none⟩) hbl2).trans g0; have hc1 := (HB5.o.cell (p := ⟨b, o + k * 3 + 1, none⟩) hbl2).trans g1; have hc2 := (HB5.o.cell (p := ⟨b, o + k * 3 + 2, none⟩) hbl2).trans g2; have lbw : b < wr.heap.size := by omega
          have Hr := yq hr; have hor := hokx.o k r hr; have HN := yq (HNx.o r hr); have hki : (k : Int) < (xs.length : Int) := by omega
          clear hcell hrow g0 g1 g2 hr eG2 eG3 HNx; cases hpr : r.pair with
          | false =>
            have he1 : r.letter.toList.isEmpty = false := by rw [zan]; simpa [zaa.pair] using hpr
            have he2 : (!r.letter.toList.isEmpty) = true := by rw [he1]; rfl
            obtain ⟨q1, q2, q3⟩ := zb9 hor hpr; have hidx := zeq hor hpr; have hpos : 0 < r.letter.size := by omega
            rw [zbJ hpos] at hidx; obtain ⟨j, hj⟩ : ∃ j, j = r.letter[0].toNat - 97 := ⟨_, rfl⟩
            have hn1 : ((r.letter[0].toNat : Int) - 97) % 256 = (j : Int) := by omega
            have hw1 : IntKind.u8.wrap ((r.letter[0].toNat : Int) - 97) = (j : Int) := hn1; have hj4 : (j : Int) < 4 := by omega
            have cS := Blk.cell (i := j) (v := .int .i64 (S.getD j 0)) HST5.o (zcG (by rw [HS4.o]; omega)); obtain ⟨v, hv⟩ : ∃ v, S.getD j 0 = v := ⟨_, rfl⟩
            rw [hv] at cS
            have hst9 : zaY S (P, T) r = (P, T ++ [v]) := by
             unfold zaY; rw [if_neg (by simp [hpr]), zbJ hpos, <- hj, hv]
            rw [hst9] at HN; have Hq1 := yq q1; have hs1 : (r.letter.size : Int) = 1 := by omega
            clear hst9 hv hor q1 q2 q3 hj hidx; go_wp2_with (at_builtin; go_must (refine zbi (base := M + 2) (v := .slice A7 T.length c7) (l := T) rfl _ _ rfl rfl rfl yS HI5.o HTl2.o yO ?_); intro v3 w3 own3 hg3 hv3; obtain ⟨A3, c3, rfl, _⟩ := zae own3)
            obtain ⟨t1, t2, t3, t4⟩ := zdN HB5.o HX5.o HO5.o HI5.o HST5.o hg3 yO; exact ⟨⟨k + 1, _, by omega, by go_num, t1, t2, by rw [HN.o]; exact t3, by rw [HN.o]; exact zdg own3, t4⟩, by simp [intOf]; omega⟩
          | true =>
            have he1 : r.letter.toList.isEmpty = true := by rw [zan]; exact hpr
            have he2 : (!r.letter.toList.isEmpty) = false := by rw [he1]; rfl
            obtain ⟨q1, q2, q3, q4⟩ := zbk hor hpr; obtain ⟨l1, hl1⟩ := Int.eq_ofNat_of_zero_le q1; obtain ⟨l2, hl2⟩ := Int.eq_ofNat_of_zero_le q3; have h1k : l1 < T.length := by rw [HTl.o]; omega
            have h2k : l2 < T.length := by rw [HTl.o]; omega
            obtain ⟨g, cap, e1, hgb, hgl, _, hgc⟩ := zal.at_ HI5.o (j := l1) h1k; injection e1 with e11 e12 e13; subst e11; have ca := hgc l1 h1k; have cb' := hgc l2 h2k; have hLa := HLow.o l1 (by rw [<- HTl.o]; exact h1k); have hLb := HLow.o l2 (by rw [<- HTl.o]; exact h2k)
            replace hLa : -1 <= T.getD l1 0 /\ T.getD l1 0 < (P.length : Int) := hLa
            replace hLb : -1 <= T.getD l2 0 /\ T.getD l2 0 < (P.length : Int) := hLb
            obtain ⟨a, ha⟩ : ∃ a, T.getD l1 0 = a := ⟨_, rfl⟩
            obtain ⟨bb, hbb⟩ : ∃ a, T.getD l2 0 = a := ⟨_, rfl⟩
            rw [ha] at ca hLa; rw [hbb] at cb' hLb
            have hst9 : zaY S (P, T) r = if a < 0 then (P, T ++ [bb]) else if bb < 0 then (P, T ++ [a]) else (P ++ [zaK a bb], T ++ [(P.length : Int)]) := by
             unfold zaY; rw [if_pos hpr, hl1, hl2, Int.toNat_natCast, Int.toNat_natCast, ha, hbb]
            rw [hst9] at HN; rw [hl1] at hc1; rw [hl2] at hc2; have h1i : (l1 : Int) < (T.length : Int) := by omega
            have h2i : (l2 : Int) < (T.length : Int) := by omega
            clear hst9 hor q1 q2 q3 q4 hl1 hl2 ha hbb hgc e12 e13; by_cases hA : a < 0
            · rw [if_pos hA] at HN
              go_wp2_with (at_builtin; go_must (refine zbi (base := M + 2) (v := .slice (some ⟨g, 0, none⟩) T.length c7) (l := T) rfl _ _ rfl rfl rfl yS HI5.o HTl2.o yO ?_); intro v3 w3 own3 hg3 hv3; obtain ⟨A3, c3, rfl, _⟩ := zae own3)
              obtain ⟨t1, t2, t3, t4⟩ := zdN HB5.o HX5.o HO5.o HI5.o HST5.o hg3 yO; exact ⟨⟨k + 1, _, by omega, by go_num, t1, t2, by rw [HN.o]; exact t3, by rw [HN.o]; exact zdg own3, t4⟩, by simp [intOf]; omega⟩
            · rw [if_neg hA] at HN
              by_cases hB : bb < 0
              · rw [if_pos hB] at HN
                go_wp2_with (at_builtin; go_must (refine zbi (base := M + 2) (v := .slice (some ⟨g, 0, none⟩) T.length c7) (l := T) rfl _ _ rfl rfl rfl yS HI5.o HTl2.o yO ?_); intro v3 w3 own3 hg3 hv3; obtain ⟨A3, c3, rfl, _⟩ := zae own3)
                obtain ⟨t1, t2, t3, t4⟩ := zdN HB5.o HX5.o HO5.o HI5.o HST5.o hg3 yO; exact ⟨⟨k + 1, _, by omega, by go_num, t1, t2, by rw [HN.o]; exact t3, by rw [HN.o]; exact zdg own3, t4⟩, by simp [intOf]; omega⟩
              · rw [if_neg hB] at HN
                have hp8 : P.length <= 8500 := by omega
                go_wp2_with (first
                 | (at_builtin; refine za6 (base := M + 2) (t := ⟨#[]⟩) (p := a) (q := bb) (v := .slice A5 P.length c5) (l := P) rfl _ _ rfl rfl rfl yS HO5.o HPl2.o yO ?_; intro v5 w5 own5 hg5 hb5; have own4 : zal w5 (M + 2) (.slice (some ⟨g, 0, none⟩) T.length c7) T := zgn HI5.o HO5.o hg5; have bx5 : Boxed w5 M 26 _ := Boxed.grown HX5.o (by decide) HO5.o hg5; obtain ⟨A9, c9, rfl, _⟩ := zae own5; have cb9 := bx5.cell; have fb9 := bx5.frozen; have lb9 := bx5.lt; have lg9 := (World.ownsRow.lt own4 g rfl); have hbz : Below (M + 2) wr w5 := ((Below.refl _ _).alloc yO _).trans hb5; have HO9 := yq own5; have HI9 := yq own4; have HX9 := yq bx5; have HBZ := yq hbz; clear own5 own4 hg5 hb5 hbz bx5)
                 | (at_builtin; go_must (refine zbi (base := M + 2) (v := .slice (some ⟨g, 0, none⟩) T.length c7) (l := T) rfl _ _ rfl rfl rfl yS (ownsRow_setCell_below HI9.o (by show M < M + 2; omega) _) HTl2.o (by simp; omega) ?_); intro v3 w3 own3 hg3 hv3; obtain ⟨A3, c3, rfl, _⟩ := zae own3))
                obtain ⟨t1, t2, t3, t4⟩ := zdN (((HB5.o.trans (HBZ.o.mono yO)).setCell (by show M <= M; omega) _)) (Boxed.set _ HX9.o) (zcs HX9.o HO9.o rfl yS) (ownsRow_setCell_below HI9.o (by show M < M + 2; omega) _) ((HST5.o.upB HBZ.o yO).other (by show M + 1 ≠ M; omega) _) hg3 (by simp; omega); refine ⟨⟨k + 1, _, by omega, by go_num, t1, t2, by rw [HN.o]; exact t3, ?_, t4⟩, by simp [intOf]; omega⟩
                rw [HN.o]; have e8 : (P.length : Int) + 1 - 1 = (P.length : Int) := by omega
                first
                 | exact zdg own3
                 | (rw [e8] at own3; exact zdg own3)
        · have hkn : k = xs.length := by omega
          subst hkn; have HPM := yq (show zf5 xs ws = (P, T) from HPT.o); have hmo : zdR xs ws = if 400 < P.length then [] else if xs.length = 0 \/ zai T < 0 then [] else zaH (zaO (P.take ((zai T).toNat + 1))) := by unfold zdR; rw [HPM.o]
          have hmc : zcW xs ws = if 400 < P.length then 3 else if xs.length = 0 \/ zai T < 0 then 0 else zaB (zaO (P.take ((zai T).toNat + 1))) := by unfold zcW; rw [HPM.o]
          have HMO := yq hmo; have HMC := yq hmc; have hKR := HK1.o.upB HB5.o z21; have r1 := hKR.cell (i := 0) (v := .slice none 0 0) rfl; have r2 := hKR.frozen 0; have r3 := hKR.lt; have HKR := yq hKR; have HBw := yq (HB2.o.trans (HB5.o.mono yO)); clear hmo hmc hKR; by_cases h400 : 400 < P.length
          · rw [if_pos h400] at HMO HMC
            go_wp2
            refine bodyPost_ret (v := .tuple #[.agg #[.slice none 0 0], .int .i64 3]) (by simp [results, Tryz.results135, go_sem, r1]) rfl ⟨HBw.o.setCell (by show w.heap.size <= w.heap.size + 1; omega) _, _, ?_, by rw [HMC.o]⟩
            rw [HMO.o]; exact World.ownsRow_nil _ _ _ _
          · rw [if_neg h400] at HMO HMC
            have hTx := HTl.o; by_cases hx0 : xs.length = 0
            · rw [if_pos (.inl hx0)] at HMO HMC
              have g0 : ((T.length : Int) == 0) = true := by rw [beq_iff_eq]; omega
              have HX0 := yq hx0; clear hx0 hTx; go_wp2
              refine bodyPost_ret (v := .tuple #[.agg #[.slice none 0 0], .int .i64 0]) (by simp [results, Tryz.results135, go_sem, r1]) rfl ⟨HBw.o.setCell (by show w.heap.size <= w.heap.size + 1; omega) _, _, ?_, by rw [HMC.o]⟩
              rw [HMO.o]; exact World.ownsRow_nil _ _ _ _
            · have g0 : ((T.length : Int) == 0) = false := by rw [beq_eq_false_iff_ne]; omega
              have hlq := HLow.o (xs.length - 1) yO
              replace hlq : -1 <= T.getD (xs.length - 1) 0 /\ T.getD (xs.length - 1) 0 < (P.length : Int) := hlq
              have hlT : zai T = T.getD (xs.length - 1) 0 := by rw [zai, hTx]
              rw [<- hlT] at hlq; obtain ⟨g, cap, e1, hgb, hgl, _, hgc⟩ := zal.at_ HI5.o (j := T.length - 1) yO; injection e1 with e11 e12 e13; subst e11; have cL := hgc (T.length - 1) yO; obtain ⟨q, hq⟩ : ∃ q, zai T = q := ⟨_, rfl⟩
              have hq2 : T.getD (T.length - 1) 0 = q := hq; rw [hq2] at cL; rw [hq] at hlq HMO HMC; have hix : ((T.length : Int) - 1).toNat = T.length - 1 := by omega
              have hi0 : 0 <= (T.length : Int) - 1 := by omega
              have hi1 : (T.length : Int) - 1 < T.length := by omega
              have hiw : IntKind.i64.wrap ((T.length : Int) - 1) = (T.length : Int) - 1 := IntWalk.i64_in _ yO; clear hlT hTx hq hq2 hgc e12 e13; by_cases hq0 : q < 0
              · rw [if_pos (.inr hq0)] at HMO HMC
                go_wp2_with fail
                refine bodyPost_ret (v := .tuple #[.agg #[.slice none 0 0], .int .i64 0]) (by simp [results, Tryz.results135, go_sem, r1]) rfl ⟨HBw.o.setCell (by show w.heap.size <= w.heap.size + 1; omega) _, _, ?_, by rw [HMC.o]⟩
                rw [HMO.o]; exact World.ownsRow_nil _ _ _ _
              · rw [if_neg (fun h => h.elim hx0 hq0)] at HMO HMC
                obtain ⟨n, rfl⟩ := Int.eq_ofNat_of_zero_le (show 0 <= q by omega); rw [Int.toNat_natCast] at HMO HMC; have hnP : n + 1 <= P.length := by omega
                have hTrl : (zaO (P.take (n + 1))).length <= 8500 := by
                 have h1 := zeU (P.take (n + 1)); rw [List.length_take] at h1; omega
                have HSmT := yq (show za5 (zaO (P.take (n + 1))) from zgg (zdm HOK.o (n + 1))); obtain ⟨Q9, hQ9⟩ : ∃ Q9, P.take (n + 1) = Q9 := ⟨_, rfl⟩
                have HQl := yq (show Q9.length <= 4194304 by rw [<- hQ9, List.length_take]; omega); have HQok := yq (show zaS (P.take (n + 1)) from zdm HOK.o (n + 1)); rw [hQ9] at HMO HMC HSmT HQok; have HSlq := yq (fun v => (zhv (zab.sl (show zab (wr.setCell ⟨M, 0, none⟩ v) (M + 2) (.slice A5 P.length c5) P from ownsRow_setCell_below HO5.o (a := ⟨M, 0, none⟩) (by show M < M + 2; omega) v)) (m := n + 1) hnP)); rw [hQ9] at HSlq; have hcP : (P.length : Int) <= c5 := by omega
                have htn : ((n : Int) + 1).toNat = n + 1 := by omega
                have j1 : 0 <= (n : Int) + 1 := by omega
                have j2 : (n : Int) + 1 <= (c5 : Int) := by omega
                have j3 : IntKind.i64.wrap ((n : Int) + 1) = (n : Int) + 1 := IntWalk.i64_in _ yO; clear hQ9 hq0 hlq; go_wp2_with fail
                go_region
                all_goals
                 go_wp2_with fail
                 refine (zbC M 0 (.slice A5 (n + 1) c5) Q9 _ (by simp [go_sem, cb5]) (by simp [World.drew]; omega) (SlS.dr (HSlq.o _)) HQl.o HQok.o).mono ?_
                 rintro e w6 ⟨hb6, v6, own6, rfl⟩
                 have hKR6 : Blk w6 (w.heap.size + 1) #[.slice none 0 0] 26 := by
                  refine Blk.up ?_ hb6
                  exact HKR.o.other (p := ⟨M, 0, none⟩) (by show w.heap.size + 1 ≠ M; omega) _
                 have hB6 : Below w.heap.size w w6 := by
                  refine Below.trans ?_ (hb6.mono (by simp [World.drew]; omega))
                  first
                   | exact (Below.setCell HBw.o (show w.heap.size <= (⟨M, 0, none⟩ : Addr).block from (by show w.heap.size <= M; omega)) _).drew
                   | exact Below.setCell (HBw.o.drew) (show w.heap.size <= (⟨M, 0, none⟩ : Addr).block from (by show w.heap.size <= M; omega)) _
                 have HB6 := yq hB6; obtain ⟨A6, c6, rfl, _⟩ := zae own6; clear hB6 r1 r2 r3 cb5 fb5 cL; go_wp2_with fail
                 refine (zdG _ _ _ _ own6 HSmT.o).mono ?_
                 rintro e w7 ⟨hb7, v7, own7, rfl⟩; have hKR7 := hKR6.up hb7; have HB7 := yq (HB6.o.trans (hb7.mono HB6.o.size)); have s1 := hKR7.cell (i := 0) (v := .slice none 0 0) rfl; have s2 := hKR7.frozen 0; have s3 := hKR7.lt; obtain ⟨A7', c7', rfl, _⟩ := zae own7; have HO7 := yq own7; clear hb6 hb7 own6 own7; go_wp2_with fail
                 refine bodyPost_ret (v := .tuple #[.agg #[.slice A7' (zaH (zaO Q9)).length c7'], .int .i64 (zaB (zaO Q9))]) (by simp [results, Tryz.results135, go_sem, s1]) rfl ⟨HB7.o.setCell (by show w.heap.size <= w.heap.size + 1; omega) _, _, ?_, by rw [HMC.o]⟩
                 rw [HMO.o]; exact zac (ownsRow_setCell_below HO7.o (a := ⟨w.heap.size + 1, 0, none⟩) (by simp [World.drew]; omega) _) (by simp [World.drew]; omega)
theorem zhN (n : Nat) (r : zaa) : (zaC n r).letter = r.letter := by unfold zaC; split <;> rfl
theorem zjA {xs ys : List zaa} (h : za5 xs) (h' : za5 ys) : za5 (za8 xs ys) := by
 unfold za8; split
 · exact h'
 split
 · exact h
 rename_i h0 h0'
 intro r hr; rcases List.mem_append.1 hr with hr | hr
 · rcases List.mem_append.1 hr with hr | hr
   · exact h r hr
   · obtain ⟨a, ha, rfl⟩ := List.mem_map.1 hr
     rw [zhN]; exact h' a ha
 · rw [List.mem_singleton] at hr; subst hr; exact (by decide : (0 : Nat) <= 9223372036854775807)
theorem ziD (v u : Value) (xs ys : List zaa) (w : World) (h : Sl zas w w.heap.size v xs) (h' : Sl zas w w.heap.size u ys) (hn : xs.length <= 1048576) (hn' : ys.length <= 1048576) (hs : za5 xs) (hs' : za5 ys) :
  Calls Tryz.prog 132 #[.agg #[v], .agg #[u]] w (zlp (zdc xs ys) (zc6 xs ys) w) := by
 have h1 := fun o o' o'' => (h.below ((((Below.refl w.heap.size w).alloc yL o).alloc yS o').alloc yo o'')).le (B' := (((w.alloc o).alloc o').alloc o'').heap.size) (by simp; omega); have h2 := fun o o' o'' => (h'.below ((((Below.refl w.heap.size w).alloc yL o).alloc yS o').alloc yo o'')).le (B' := (((w.alloc o).alloc o').alloc o'').heap.size) (by simp; omega); have H1 := yq h1; have H2 := yq h2; have Hs := yq hs; have Hs' := yq hs'; clear h1 h2 hs hs'; obtain ⟨A, c, rfl, hc, hm, hrow⟩ := h; obtain ⟨A', c', rfl, hc', hm', hrow'⟩ := h'; clear hm hm' hrow hrow'; go_enter Tryz.func132, Tryz.ntmps132
 go_wp2_with fail
 refine (zbf _ _ _ _ _ (by simp [go_sem]) yo (H1.o _ _ _) Hs.o).mono ?_
 rintro e w1 ⟨rfl, hb1⟩; obtain ⟨hc1, hf1⟩ := zda hb1; have hz1 : w.heap.size + 2 < w1.heap.size := by have := hb1.size; simp at this; omega
 have a1 : w1.cell? ⟨w.heap.size, 0, none⟩ = some (.slice A xs.length c) := by rw [hc1 _ _ yo]; simp [go_sem]
 have b1 : w1.cell? ⟨w.heap.size + 1, 0, none⟩ = some (.slice A' ys.length c') := by rw [hc1 _ _ yo]; simp [go_sem]
 have c1 : w1.cell? ⟨w.heap.size + 2, 0, none⟩ = some (.slice none 0 0) := by rw [hc1 _ _ yo]; simp [go_sem]
 have f1 : w1.frozen? ⟨w.heap.size + 2, 0, none⟩ = false := by rw [hf1 _ _ yo]; simp [go_sem]
 have S1 := yq ((H1.o (Obj.cells #[Value.slice A xs.length c] 26) (Obj.cells #[Value.slice A' ys.length c'] 26) (Obj.cells #[Value.slice none 0 0] 26)).up hb1); have T1 := yq ((H2.o (Obj.cells #[Value.slice A xs.length c] 26) (Obj.cells #[Value.slice A' ys.length c'] 26) (Obj.cells #[Value.slice none 0 0] 26)).up hb1); have B1 := yq ((((Below.refl w.heap.size w).alloc yL (Obj.cells #[Value.slice A xs.length c] 26)).alloc yS (Obj.cells #[Value.slice A' ys.length c'] 26)).alloc (by simp; omega) (Obj.cells #[Value.slice none 0 0] 26) |>.trans (hb1.mono (by simp; omega))); clear hc1 hf1 hb1; by_cases hok : zaf xs = true
 · have hok2 : (!zaf xs) = false := by simp [hok]
   have Hok := yq hok; clear hok; go_wp2_with fail
   refine (zbf _ _ _ _ _ b1 yO T1.o Hs'.o).mono ?_
   rintro e w2 ⟨rfl, hb2⟩; have z2 : w1.heap.size <= w2.heap.size := hb2.size; have hz2 : w.heap.size + 2 < w2.heap.size := by omega
   have a2 := zbU a1 hb2 yO; have b2 := zbU b1 hb2 yO; have c2 := zbU c1 hb2 yO; have f2 : w2.frozen? ⟨w.heap.size + 2, 0, none⟩ = false := by rw [hb2.frozen hz1, f1]
   have S2 := yq (S1.o.up hb2); have T2 := yq (T1.o.up hb2); have B2 := yq (B1.o.trans (hb2.mono yO)); clear a1 b1 c1 f1 hb2; by_cases hoky : zaf ys = true
   · have hoky2 : (!zaf ys) = false := by simp [hoky]
     have Hoky := yq hoky; clear hoky; go_wp2_with fail
     refine (zje _ _ _ _ _ _ _ _ _ a2 b2 yO yO S2.o T2.o hn hn' (zgh Hoky.o)).mono ?_
     rintro e w3 ⟨hb3, v3, own3, rfl⟩; have z3 : w2.heap.size <= w3.heap.size := hb3.size; have hz3 : w.heap.size + 2 < w3.heap.size := by omega
     have c3 := zbU c2 hb3 yO; have f3 : w3.frozen? ⟨w.heap.size + 2, 0, none⟩ = false := by rw [hb3.frozen hz2, f2]
     have B3 := yq (B2.o.trans (hb3.mono yO)); have O3 := yq own3; clear a2 b2 c2 f2 hb3 own3; go_wp2_with fail
     refine (zdG _ _ _ _ O3.o (zjA Hs.o Hs'.o)).mono ?_
     rintro e w4 ⟨hb4, v4, own4, rfl⟩; obtain ⟨A4, k4, rfl, _⟩ := zae own4; have c4 := zbU c3 hb4 yO; have f4 : w4.frozen? ⟨w.heap.size + 2, 0, none⟩ = false := by rw [hb4.frozen hz3, f3]
     have B4 := yq (B3.o.trans (hb4.mono yO)); have O4 := yq own4; clear c3 f3 hb4 own4; have e1 : zdc xs ys = zaH (za8 xs ys) := by rw [zdc, Hok.o, Hoky.o]; rfl
     have e2 : zc6 xs ys = zaB (za8 xs ys) := by rw [zc6, Hok.o, Hoky.o]; rfl
     have E1 := yq e1; have E2 := yq e2; clear e1 e2; go_wp2
     refine bodyPost_ret (v := .tuple #[.agg #[.slice A4 (zaH (za8 xs ys)).length k4], .int .i64 (zaB (za8 xs ys))]) (by simp [results, Tryz.results132, go_sem, c4]) rfl ⟨?_, _, ?_, by rw [E2.o]⟩
     · exact B4.o.setCell (by show w.heap.size <= w.heap.size + 2; omega) _
     · rw [E1.o]
       exact zac (ownsRow_setCell_below O4.o (a := ⟨w.heap.size + 2, 0, none⟩) (by show w.heap.size + 2 < w2.heap.size; omega) _) yO
   · have hoky2 : (!zaf ys) = true := by simp [hoky]
     have Hoky := yq hoky; clear hoky; go_wp2
     refine bodyPost_ret (v := .tuple #[.agg #[.slice none 0 0], .int .i64 1]) (by simp [results, Tryz.results132, go_sem, c2]) rfl ⟨?_, _, ?_, by rw [zc6, if_neg (by simp [Hoky.o])]⟩
     · exact B2.o.setCell (by show w.heap.size <= w.heap.size + 2; omega) _
     · rw [zdc, if_neg (by simp [Hoky.o])]; exact World.ownsRow_nil _ _ _ _
 · have hok2 : (!zaf xs) = true := by simp [hok]
   have Hok := yq hok; clear hok; go_wp2
   refine bodyPost_ret (v := .tuple #[.agg #[.slice none 0 0], .int .i64 1]) (by simp [results, Tryz.results132, go_sem, c1]) rfl ⟨?_, _, ?_, by rw [zc6, if_neg (by simp [Hok.o])]⟩
   · exact B1.o.setCell (by show w.heap.size <= w.heap.size + 2; omega) _
   · rw [zdc, if_neg (by simp [Hok.o])]; exact World.ownsRow_nil _ _ _ _
def Mk (w : World) (b P oP : Nat) (s : Option (List zaa)) : Prop :=
 ∃ vO out, Blk w b #[.pointer (some ⟨P, oP, none⟩), vO, .bool s.isNone] 124 /\ zab w (b + 1) vO out /\ (∀ o, s = some o -> o = out) /\ zaf out = true
theorem Mk.lt {w : World} {b P oP : Nat} {s : Option (List zaa)} (h : Mk w b P oP s) : b < w.heap.size := by
 obtain ⟨_, _, h, _⟩ := h; exact h.lt
theorem Mk.up {w w' : World} {b P oP : Nat} {s : Option (List zaa)} (h : Mk w b P oP s) (hb : Below w.heap.size w w') : Mk w' b P oP s := by
 obtain ⟨vO, out, h1, h2, h3, h4⟩ := h; exact ⟨vO, out, h1.up hb, zab.below h2 hb, h3, h4⟩
theorem zeb (b P oP : Nat) (s g : Option (List zaa)) (vN : Value) (ys : List zaa) (cN : Int) (w : World) (h : Mk w b P oP s) (hN : SlS zas w (fun k => k ≠ b /\ k < w.heap.size) vN ys) (hg : zev g ys cN) :
  Calls Tryz.prog 89 #[.pointer (some ⟨b, 0, none⟩), .agg #[vN], .int .i64 cN] w fun e w' => zkH e /\ But b w w' /\ Mk w' b P oP (zbu s g) := by
 obtain ⟨vO, out, hB, hO, hs, hok⟩ := h; have hlt := hB.lt; have HB0 := yq hB; have HO := yq hO; have HN := yq hN; have HK := yq hok; obtain ⟨AN, kN, rfl, _⟩ := hN; obtain ⟨AO, kO, rfl, _⟩ := zae hO; clear hO; rcases hg with ⟨rfl, rfl, hgy⟩ | ⟨rfl, rfl⟩
 · cases s with
   | none =>
     rw [zcU (.inl rfl)]; have c2 := hB.cell (i := 2) (v := .bool true) rfl; have f2 := hB.frozen 2; clear hB; go_enter Tryz.func89, Tryz.ntmps89
     go_wp2_with fail
     have hbb : ∀ o, But b w ((w.setCell ⟨b, 2, none⟩ (.bool true)).alloc o) := fun o => ((But.refl b w).setCell _).alloc _; refine bodyPost_ret (v := .tuple #[]) (by simp [results, Tryz.results89, go_sem]) rfl ⟨rfl, hbb _, .slice AO out.length kO, out, ((HB0.o.set 2 _).alloc _), World.ownsRow.alloc (ownsRow_setCell_below HO.o (by show b < b + 1; omega) _) _, (fun _ h => nomatch h), HK.o⟩
   | some o =>
     have e := hs o rfl; subst e; have c1 := hB.cell (i := 1) (v := .slice AO o.length kO) rfl; have c2 := hB.cell (i := 2) (v := .bool false) rfl; have f2 := hB.frozen 2; have HGY := yq hgy; have KN := yq (Blk.new w #[Value.slice AN ys.length kN] 26); clear hB hgy; go_enter Tryz.func89, Tryz.ntmps89
     go_wp2_with fail
     have hBW : Blk (w.alloc (Obj.cells #[Value.slice AN ys.length kN] 26)) b _ _ := HB0.o.alloc _; have hNW : SlS zas (w.alloc (Obj.cells #[Value.slice AN ys.length kN] 26)) (fun k => k ≠ b /\ k < w.heap.size) (.slice AN ys.length kN) ys := HN.o.keep fun k hk => Below.heap_alloc _ _ _ hk.2; have hOW : zab (w.alloc (Obj.cells #[Value.slice AN ys.length kN] 26)) (b + 1) (.slice AO o.length kO) o := World.ownsRow.alloc HO.o _; have hbW : But b w (w.alloc (Obj.cells #[Value.slice AN ys.length kN] 26)) := (But.refl b w).alloc _; have hzW : w.heap.size < (w.alloc (Obj.cells #[Value.slice AN ys.length kN] 26)).heap.size := by simp
     clear c1 c2 f2; generalize (w.alloc (Obj.cells #[Value.slice AN ys.length kN] 26)) = W at *; have c1 := hBW.cell (i := 1) (v := .slice AO o.length kO) rfl; have c3 := KN.o.cell (i := 0) (v := .slice AN ys.length kN) rfl; have lW := hBW.lt; have HBW := yq hBW; have HNW := yq (hNW.more (S' := (· < W.heap.size)) fun k hk => by have := hk.2; omega); have HOW := yq hOW; have HbW := yq hbW; have l1 : o.length <= 1048576 := by have := zaG hok; omega
     have l2 : ys.length <= 1048576 := by have := zaG HGY.o; omega
     have sm1 := yq (zcb (zaz (zag hok).2.choose_spec)); have sm2 := yq (zcb (zaz (zag HGY.o).2.choose_spec)); clear hBW hNW hOW hbW; go_cut [6, 7] (fun s6 s7 wx => ∃ (Z : Nat) (A9 : Option Addr) (c9 : Nat), s6 = .pointer (some ⟨Z, 0, none⟩) /\ s7 = .int .i64 (zc6 o ys) /\ Z ≠ b /\ Below W.heap.size W wx /\ Blk wx Z #[.slice A9 (zdc o ys).length c9] 26 /\ zab wx W.heap.size (.slice A9 (zdc o ys).length c9) (zdc o ys))
     case first =>
      go_region_law (go_simp; go_at_call 132; (refine (ziD _ _ o ys _ (HOW.o.sl.up yb) (HNW.o.up yb) l1 l2 sm1.o sm2.o).mono ?_); rintro e w1 ⟨hb1, v1, own1, rfl⟩; obtain ⟨A9, c9, rfl, _⟩ := zae own1; (try (obtain ⟨hbz, KR⟩ := Below.unalloc (Below.undrew hb1); have cz := Blk.cell (i := 0) (v := .slice none 0 0) KR rfl; have fz := Blk.frozen KR 0; have lz := Blk.lt KR)))
      all_goals
       go_wp2_with fail
       go_meet
       have hz1 : W.heap.size <= w1.heap.size := by have := hb1.size; first | exact this | (simp [World.drew] at this; omega)
       first
        | exact ⟨w1.heap.size, A9, c9, rfl, rfl, by omega, (Below.undrew hb1).alloc hz1 _, Blk.new _ _ _, World.ownsRow.alloc own1 _⟩
        | exact ⟨W.heap.size, A9, c9, rfl, rfl, by omega, Below.setCell hbz (show W.heap.size <= (⟨W.heap.size, 0, none⟩ : Addr).block from Nat.le_refl _) _, Blk.set KR 0 _, zac (ownsRow_setCell_below own1 (a := ⟨W.heap.size, 0, none⟩) (by simp [World.drew]) _) (by simp [World.drew])⟩
     case rest =>
      obtain ⟨Z, A9, c9, rfl, rfl, hne, hb, hZ, hown⟩ := hcut; have hj : zdc o ys = zaH (za8 o ys) /\ zc6 o ys = zaB (za8 o ys) := by simp [zdc, zc6, HK.o, HGY.o]
      rw [hj.1] at hZ hown; rw [hj.2]; have hKB := HBW.o.up hb; have HKB := yq hKB; have HO9 := yq (zac hown (base' := b + 1) yO); have HbC := yq (HbW.o.tr hb); have d1 := hKB.cell (i := 1) (v := .slice AO o.length kO) rfl; have d2 := hKB.cell (i := 2) (v := .bool false) rfl; have f1 := hKB.frozen 1; have f2 := hKB.frozen 2; have lb := hKB.lt; have dz := hZ.cell (i := 0) (v := .slice A9 (zaH (za8 o ys)).length c9) rfl; have lz := hZ.lt; have hne' : b ≠ Z := fun h => hne h.symm; have HLok := yq (zgp (za8 o ys)); clear hKB hb hZ hown hj c1 c3; cases hg : zaf (za8 o ys) with
      | true =>
        have q1 : zaB (za8 o ys) = 0 := by unfold zaB; rw [hg]; rfl
        have q2 : zbu (some o) (some ys) = some (zaH (za8 o ys)) := by rw [zj1]; unfold zbj zaH; rw [hg]; rfl
        have Q2 := yq q2; rw [q1]; clear q1 q2 hg; go_wp2_with fail
        go_end0
        rw [Q2.o]; exact ⟨rfl, (HbC.o.setCell _).setCell _, .slice A9 (zaH (za8 o ys)).length c9, zaH (za8 o ys), ((HKB.o.set 1 _).set 2 _), ownsRow_setCell_below (ownsRow_setCell_below HO9.o (by show b < b + 1; omega) _) (by show b < b + 1; omega) _, (fun _ h => (Option.some.inj h).symm), HLok.o⟩
      | false =>
        have q1 : zaB (za8 o ys) = 3 := by unfold zaB; rw [hg]; rfl
        have q2 : zbu (some o) (some ys) = none := by rw [zj1]; unfold zbj; rw [hg]; rfl
        have Q2 := yq q2; rw [q1]; clear q1 q2 hg; go_wp2_with fail
        go_end0
        rw [Q2.o]; exact ⟨rfl, (HbC.o.setCell _).setCell _, .slice A9 (zaH (za8 o ys)).length c9, zaH (za8 o ys), ((HKB.o.set 1 _).set 2 _), ownsRow_setCell_below (ownsRow_setCell_below HO9.o (by show b < b + 1; omega) _) (by show b < b + 1; omega) _, (fun _ h => nomatch h), HLok.o⟩
 · rw [zcU (.inr rfl)]
   have c2 := hB.cell (i := 2) (v := .bool s.isNone) rfl; have f2 := hB.frozen 2; clear hB; go_enter Tryz.func89, Tryz.ntmps89
   go_wp2_with fail
   have hbb : ∀ o, But b w ((w.setCell ⟨b, 2, none⟩ (.bool true)).alloc o) := fun o => ((But.refl b w).setCell _).alloc _; refine bodyPost_ret (v := .tuple #[]) (by simp [results, Tryz.results89, go_sem]) rfl ⟨rfl, hbb _, .slice AO out.length kO, out, ((HB0.o.set 2 _).alloc _), World.ownsRow.alloc (ownsRow_setCell_below HO.o (by show b < b + 1; omega) _) _, (fun _ h => nomatch h), HK.o⟩
theorem zaU (b P oP : Nat) (vG : Value) (xs : List zaa) (ls : List Int) (s : Option (List zaa)) (i j : Int) (w : World) (h : Mk w b P oP s) (hP : w.cell? ⟨P, oP, none⟩ = some vG) (hPl : P < w.heap.size) (hG : Sl zas w b vG xs) (hg : zaf xs = true) (hl : zaX xs = some ls) (hi : 0 <= i /\ i <= j /\ j <= zai ls) :
  Calls Tryz.prog 88 #[.pointer (some ⟨b, 0, none⟩), .int .i64 i, .int .i64 j] w fun e w' => zkH e /\ But b w w' /\ Mk w' b P oP (zbu s (zbj (zam xs ls i j))) := by
 have hlt := h.lt; have HM := yq h; have HG := yq (hG.le (Nat.le_of_lt hlt)); have sm := zcb (zaz (zag hg).2.choose_spec); have hn : xs.length <= 1048576 := by have := zaG hg; omega
 have HY := yq (zb7 hg hl hi); obtain ⟨AG, cG, rfl, _⟩ := hG; obtain ⟨vO, out, hB, _⟩ := h; have c0 := hB.cell (i := 0) (v := .pointer (some ⟨P, oP, none⟩)) rfl; have cP := hP; have lP := hPl; clear hB hP hl hi; go_enter Tryz.func88, Tryz.ntmps88
 go_wp2_with fail
 refine (zfN _ xs i j _ (HG.o.up yb) hn sm).mono ?_
 rintro e w1 ⟨hb1, v1, own1, rfl⟩; rw [HY.o.1] at own1; rw [HY.o.2]; have HB1 := yq hb1; have HO1 := yq own1; obtain ⟨A1, k1, rfl, _⟩ := zae own1; clear hb1 own1; go_wp2_with fail
 refine (zeb b P oP s _ _ _ _ _ (HM.o.up HB1.o) (zeF HO1.o hlt) (zcR (zam xs ls i j))).mono ?_
 rintro e w2 ⟨rfl, hb2, ha2⟩; go_wp2
 go_end0
 exact ⟨rfl, (But.of HB1.o).trans hb2, ha2⟩
end Go.Proofs.YtdacndamehiglaaGreatDoor
namespace Go.Proofs
theorem Tryz.infoW : (Tryz.prog.info? 9).map (fun i => (i.zero, i.size, i.bytes)) = some (some (.string ⟨#[]⟩), 1, 16) := by kernel_rfl
end Go.Proofs
namespace Go.Proofs.YtdacndamehiglaaGreatDoor
open Go.RowKit
def zkX (w : World) (base : Nat) (v : Value) (l : List ByteArray) : Prop := w.ownsRow base 9 1 v l.length (l.map Value.string)
theorem zkX.empty {w : World} {base N : Nat} (hN : N = w.heap.size) (hb : base <= w.heap.size) : zkX (w.alloc (Obj.cells #[] 9)) base (Value.slice (some ⟨N, 0, none⟩) 0 0) [] := by
 subst hN; exact World.ownsRow_lit w #[] 0 hb (Nat.zero_le _) rfl
theorem zkX.sl {w : World} {base : Nat} {v : Value} {l : List ByteArray} (h : zkX w base v l) : Sl zhs w w.heap.size v l := by
 have hh : w.ownsRow base 9 1 v l.length (l.map Value.string) := h; obtain ⟨A, cap, rfl, h1, h2⟩ := zae hh; refine ⟨A, cap, rfl, h1, h2, Row.of_own (E := zhs) hh rfl (fun g hg => (World.ownsRow.lt hh g hg).2) fun k x hx => ⟨[.string x], rfl, fun j u hu => ?_⟩⟩
 cases j with
 | zero => simp at hu; subst hu; simp [zhs, hx]
 | succ j => simp at hu
theorem zl4 {W : World} {ops : Array Oper} {rest : List Oper} {o : Oper} {a : Act} {Q : Exit -> Act -> World -> Prop} (hgd : o.guard = none) (s x : Operand)
  (ho : o.op = .call { callee := .builtin .append, args := #[s, x], argTypes := #[97, 97] }) {y : ByteArray} {base : Nat} {v : Value} {l : List ByteArray}
  (hs : a.eval s = v) {N : Nat} (hx : a.eval x = .slice (some ⟨N, 0, none⟩) 1 1) (hN : N = W.heap.size) (hown : zkX W base v l) (hlen : l.length <= 1099511627776) (hbase : base <= W.heap.size)
  (h : ∀ g' c' w', zkX w' base (.slice (some ⟨g', 0, none⟩) (l.length + 1) c') (l ++ [y]) -> Below base W w' -> wpList Tryz.prog ops Q rest (a.put o.dst (.slice (some ⟨g', 0, none⟩) (l.length + 1) c')) w') :
  wpList Tryz.prog ops Q (o :: rest) a (W.alloc (.cells #[.string y] 9)) := by
 subst hN; obtain ⟨i0, hi0, hz0, hz1, hz2⟩ := info_parts Tryz.infoW; refine zdA hgd s x 97 ho i0 (.string ⟨#[]⟩) 1 16 Tryz.underlying97 hi0 hz0 hz1 hz2 rfl (by decide) hs hx rfl (by simp [Value.oneCell']) hown yO yO hbase ?_
 intro v' w' h1 h2 h3; have h4 : zkX w' base v' (l ++ [y]) := by unfold zkX; simpa using h1
 obtain ⟨g', c', rfl, _⟩ := zcx (show w'.ownsRow base 9 1 v' (l ++ [y]).length ((l ++ [y]).map Value.string) from h4) yS; have e : (l ++ [y]).length = l.length + 1 := by simp
 rw [e] at h4 |-
 exact h g' c' w' h4 h3
theorem zl5 {t : ByteArray} {k : Nat} (hk : k < t.size) : (zft t).take (k + 1) = (zft t).take k ++ [t.extract k (k + 1)] := by
 have h : (zft t)[k]? = some (t.extract k (k + 1)) := by
  unfold zft Lib.charsB Lib.charsUpTo; rw [List.getElem?_map, List.getElem?_range hk]; rfl
 rw [List.take_add_one, h]; rfl
end Go.Proofs.YtdacndamehiglaaGreatDoor
