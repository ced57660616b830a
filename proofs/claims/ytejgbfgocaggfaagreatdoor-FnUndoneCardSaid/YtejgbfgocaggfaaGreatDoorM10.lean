import Derived.Test.YtejgbfgocaggfaaGreatDoorM9
import Derived.Shelf.Strconv.Itoa0
import Derived.Shelf.Strconv.Itoa1
import Derived.Shelf.Strconv.Itoa2
import Derived.Shelf.Strconv.Itoa3
import Derived.Shelf.Strconv.Itoa4
import Derived.Lib.LaidTab
import Derived.WalkSmall
set_option maxRecDepth 100000
set_option maxHeartbeats 8000000
namespace Go.Proofs.YtejgbfgocaggfaaGreatDoor
open Go.RowKit
theorem zir (v : Value) (xs : List ByteArray) (F : FuncId) (cap : Array Value) (p : ByteArray -> Bool) (w : World) (h : Sl zic w w.heap.size v xs)
  (eg : ∀ args w, (callFunc F args).run Tryz.prog w = .ok (.enter F args) w) (hf : ∀ (W : World) x, Below w.heap.size w W -> x ∈ xs -> Calls Tryz.prog F (#[.string x] ++ cap) W fun e w' => e = .returned (.bool (p x)) /\ Below W.heap.size W w') :
  Calls Tryz.prog 164 #[v, .func (.func F) #[] cap] w fun e w' => e = .returned (.int .i64 (zgG p xs)) /\ Below w.heap.size w w' := by
 obtain ⟨A, c, rfl, hc, hm, hrow⟩ := h; unfold maxLen at hm; have Hf := yq hf; clear hf; go_enter Tryz.func164, Tryz.ntmps164
 go_wp2_with fail
 go_loopw [8] (fun i wr => ∃ k : Nat, k <= xs.length /\ i = .int .i64 k /\ Below w.heap.size w wr /\ ∀ (j : Nat) y, j < k -> xs[j]? = some y -> p y = false) (fun i _ => xs.length - (intOf i).toNat)
 case atStart => exact ⟨0, Nat.zero_le _, rfl, Below.refl _ _, fun j y hj => absurd hj yO⟩
 case round =>
  obtain ⟨k, hk, rfl, hb, hno⟩ := hrel; have Hno := yq hno; clear hno; by_cases hlt : k < xs.length
  · obtain ⟨b, o, rfl, hbl, hcell⟩ := hrow.str hlt
    obtain ⟨x, hx⟩ : ∃ x, xs[k]? = some x := ⟨_, ye hlt⟩
    have hc0 : wr.cell? ⟨b, o + k, none⟩ = some (.string x) := (hb.cell hbl).trans (hcell k x hx); have Hx := yq hx; clear hcell hx; go_wp2_with fail
    refine (Hf.o _ x hb (List.mem_of_getElem? Hx.o)).mono ?_
    rintro e w2 ⟨rfl, hb2⟩; by_cases hp : p x = true
    · have Hp := yq hp
      go_wp2
      go_ret
      exact ⟨zdt (by rw [zhQ Hno.o Hx.o Hp.o]), hb.trans (hb2.mono hb.size)⟩
    · have hp2 : p x = false := by simpa using hp
      have Hp := yq hp2; clear hp; go_wp2
      go_roundw
      case rel =>
       refine ⟨k + 1, by omega, by go_num, hb.trans (hb2.mono hb.size), fun j y hj hy => ?_⟩
       by_cases e : j = k
       · subst e
         have := Hx.o; rw [hy] at this; injection this with this; rw [this]; exact Hp.o
       · exact Hno.o j y yO hy
      case measure => simp [intOf]; omega
  · go_wp2
    go_ret
    exact ⟨zdt (by
     rw [zhP]; intro x hx; obtain ⟨j, hj, rfl⟩ := List.getElem_of_mem hx
     exact Hno.o j _ yO (ye hj)), hb⟩
theorem zgu (v : Value) (xs : List ByteArray) (F : FuncId) (cap : Array Value) (p : ByteArray -> Bool) (w : World) (h : Sl zic w w.heap.size v xs)
  (eg : ∀ args w, (callFunc F args).run Tryz.prog w = .ok (.enter F args) w) (hf : ∀ (W : World) x, Below w.heap.size w W -> x ∈ xs -> Calls Tryz.prog F (#[.string x] ++ cap) W fun e w' => e = .returned (.bool (p x)) /\ Below W.heap.size W w') :
  Calls Tryz.prog 134 #[v, .func (.func F) #[] cap] w fun e w' => e = .returned (.bool (xs.any p)) /\ Below w.heap.size w w' := by
 have H := yq (zir v xs F cap p w h eg hf); clear hf eg; obtain ⟨A, c, rfl, _⟩ := h; go_enter Tryz.func134, Tryz.ntmps134
 go_wp2_with fail
 refine H.o.mono ?_
 rintro e w2 ⟨rfl, hb2⟩; go_wp2
 go_ret
 exact ⟨zaf (zi4 p xs), hb2⟩
theorem zkd (s : ByteArray) (w : World) (hs : s.size <= maxLen) : Calls Tryz.prog 135 #[.string s] w fun e w' => e = .returned (.bool (!zaB s)) /\ Below w.heap.size w w' := by
 go_enter Tryz.func135, Tryz.ntmps135
 go_wp2_with fail
 refine (zc2 s _ hs).mono ?_
 rintro e w' ⟨rfl, rfl⟩; go_wp2
 go_ret
 exact ⟨rfl, Below.refl _ _⟩
theorem zis (v : Value) (ws : List ByteArray) (w : World) (h : Sl zic w w.heap.size v ws) (hw : ∀ s ∈ ws, zaB s = true) :
  Calls Tryz.prog 134 #[v, .func (.func 135) #[] #[]] w fun e w' => e = .returned (.bool false) /\ Below w.heap.size w w' := by
 refine (zgu v ws 135 #[] (fun s => !zaB s) w h (enters_of Tryz.func135 yk rfl) (fun W x _ hx => ?_)).mono ?_
 · have h1 := hw x hx
   have h2 : x.size <= maxLen := by
    unfold zaB at h1; simp only [Bool.and_eq_true, decide_eq_true_eq] at h1; unfold maxLen; omega
   exact zkd x W h2
 · rintro e w' ⟨rfl, hb⟩
   refine ⟨zaf ?_, hb⟩
   rw [List.any_eq_false]; intro x hx; simp [hw x hx]
theorem zeW {w2 W w3 : World} {M : Nat} {vs vo : Value} {T : List Int} {P : List zaa} {a : Array Value} {o : Obj} (hb : Below M w2 W) (hbox : Boxed W M 26 vo) (hown : zac W (M + 2) vo P) (hi : zan W (M + 2) vs T) (hst : Blk W (M + 1) a 173)
  (hg : (W.alloc o).grownBy w3 vs.ownBlock) (hM : M + 2 <= W.heap.size) : Below M w2 w3 /\ Boxed w3 M 26 vo /\ zac w3 (M + 2) vo P /\ Blk w3 (M + 1) a 173 := by
 have hlt : ∀ k, vs.ownBlock = some k -> M + 2 <= k := fun k hk => (World.ownsRow.lt hi k hk).1; refine ⟨(hb.alloc yO o).grown hg (by simp; omega) (fun k hk => by have := hlt k hk; omega), Boxed.kept (Boxed.alloc hbox o) hg (fun e => by have := hlt M e.symm; omega), zfW hown hi hg, ?_⟩
 exact (hg.block (M + 1) (by simp; omega) (fun e => by have := hlt (M + 1) e.symm; omega)).trans (hst.alloc o)
theorem zdy {w : World} {base c : Nat} {A : Option Addr} {T : List Int} {v : Int} (h : zan w base (.slice A (T ++ [v]).length c) (T ++ [v])) : zan w base (.slice A (T.length + 1) c) (T ++ [v]) := by
 have e : (T ++ [v]).length = T.length + 1 := by simp
 rw [<- e]; exact h
theorem zlt (A : Option Addr) (n c : Nat) (W : World) : (Instr.field 26 (.agg #[.slice A n c]) 0).run Tryz.prog W = .ok (.slice A n c) W := by kernel_rfl
theorem zke (v vW : Value) (xs : List zaa) (ws : List ByteArray) (w : World) (h : Sl zar w w.heap.size v xs) (hW : Sl zic w w.heap.size vW ws) (hx : zag xs = true) (hws : ∀ s ∈ ws, zaB s = true) (hl4 : ws.length = 4) :
  Calls Tryz.prog 104 #[.agg #[v], vW] w (zl8 (zec xs ws) (zdd xs ws) w) := by
 have HS := yq h; have HW := yq hW; have HX := yq hx; have HWS := yq hws; have HL4 := yq hl4; have hn4 : xs.length <= 400 := (zai hx).1; have hokx := yq (zaz (zai hx).2.choose_spec); obtain ⟨A, c, rfl, _⟩ := h; obtain ⟨AW, cW, rfl, _⟩ := hW; rw [hl4]; clear hx hws hl4; go_enter Tryz.func104, Tryz.ntmps104
 go_wp2_with fail
 refine (zbG _ xs _ (HS.o.up yb) yO).mono ?_
 rintro e w1 ⟨rfl, hb1⟩; rw [HX.o]; obtain ⟨hb1', K1⟩ := Below.unalloc hb1; obtain ⟨hb1'', K0⟩ := Below.unalloc hb1'; have K1' : Blk w1 (w.heap.size + 1) #[.slice none 0 0] 26 := by simpa [Blk] using K1
 have K0' : Blk w1 w.heap.size #[.slice A xs.length c] 26 := by simpa [Blk] using K0
 have HB1 := yq hb1''; clear hb1 hb1' hb1'' K1 K0; have HW1 := yq (show Sl zic w1 w1.heap.size (.slice AW 4 cW) ws by have := HW.o.up HB1.o; rw [HL4.o] at this; exact this); go_wp2_with fail
 refine (zis _ ws _ HW1.o HWS.o).mono ?_
 rintro e w2 ⟨rfl, hb2⟩; have HK0 := yq (K0'.up hb2); have HK1 := yq (K1'.up hb2); have HB2 := yq (Below.tr HB1.o hb2); have HW2 := yq (HW1.o.up hb2); have HS2 := yq (HS.o.up HB2.o); clear K0' K1' hb2 HB1 HW1 HW HS; go_wp2_with fail
 obtain ⟨M, hM⟩ : ∃ M, M = w2.heap.size := ⟨_, rfl⟩
 have HM := yq hM; rw [<- hM]
 have hSt : Blk ((w2.alloc (Obj.cells #[Value.slice none 0 0] 26)).alloc (Obj.cells #[Value.int IntKind.i64 (-1), Value.int IntKind.i64 (-1), Value.int IntKind.i64 (-1), Value.int IntKind.i64 (-1)] 173)) (M + 1) #[Value.int IntKind.i64 (-1), Value.int IntKind.i64 (-1), Value.int IntKind.i64 (-1), Value.int IntKind.i64 (-1)] 173 := by
  rw [hM]; repeat (first | (apply Blk.new'; simp; done) | apply Blk.alloc | apply Blk.drew)
 have hOut : Blk ((w2.alloc (Obj.cells #[Value.slice none 0 0] 26)).alloc (Obj.cells #[Value.int IntKind.i64 (-1), Value.int IntKind.i64 (-1), Value.int IntKind.i64 (-1), Value.int IntKind.i64 (-1)] 173)) M #[.slice none 0 0] 26 := by
  rw [hM]; repeat (first | (apply Blk.new'; simp; done) | apply Blk.alloc | apply Blk.drew)
 have HSt := yq hSt; have HOut := yq hOut; have z20 : w.heap.size <= M := by rw [hM]; exact HB2.o.size
 have z21 : w.heap.size + 1 < M := by rw [hM]; exact HK1.o.lt
 clear hSt hOut hM; go_loopw [31] (fun q wr => ∃ (k : Nat) (vo : Value), k <= 4 /\ q = .int .i64 (k : Int) /\ Below M w2 wr /\ Boxed wr M 26 vo /\ zac wr (M + 2) vo (zbO xs ws k).1 /\ Blk wr (M + 1) (((zbO xs ws k).2.map (Value.int .i64)).toArray) 173) (fun q _ => 4 - (intOf q).toNat)
 case atStart =>
  refine ⟨0, _, by omega, rfl, ?_, HOut.o, World.ownsRow_nil _ _ _ _, HSt.o⟩
  rw [HM.o]; exact yb
 case round =>
  obtain ⟨k, vo, hk, rfl, hb, hbox, hown, hst⟩ := hrel; have hbase := zkc xs ws HWS.o HL4.o k hk; have hlen1 := hbase.len; have hlen2 := hbase.l4; have HBA := yq hbase; have HBs := yq (zeU xs ws k); clear hbase; obtain ⟨O, S, hOS⟩ : ∃ O S, zbO xs ws k = (O, S) := ⟨_, _, rfl⟩
  rw [hOS] at hown hst hlen1 hlen2
  replace hown : zac wr (M + 2) vo O := hown
  replace hst : Blk wr (M + 1) ((S.map (Value.int .i64)).toArray) 173 := hst
  replace hlen1 : O.length <= 2004 * k := hlen1
  replace hlen2 : S.length = 4 := hlen2
  have HOS := yq hOS; have HB := yq hb; have HX1 := yq hbox; have HO := yq hown; have HST := yq hst; have HS4 := yq hlen2; have cb := hbox.cell; have fb := hbox.frozen; have lb := hbox.lt; have c0 : wr.cell? ⟨w.heap.size, 0, none⟩ = some (.slice A xs.length c) := (HK0.o.upB hb yO).cell rfl; obtain ⟨Ao, co, rfl, _⟩ := zae hown; clear hb hbox hown hOS hlen2; by_cases hlt : k < 4
  · obtain ⟨s, hs⟩ : ∃ s, ws[k]? = some s := ⟨_, ye (by rw [HL4.o]; exact hlt)⟩
    have hsg : ws.getD k ⟨#[]⟩ = s := by rw [yg, hs]; rfl
    obtain ⟨AW', cW', eW, _, _, hrow⟩ := HW2.o; injection eW with eW1 eW2 eW3; subst eW1; obtain ⟨b, o, rfl, hbl, hcell⟩ := hrow.str (k := k) (by rw [HL4.o]; exact hlt); have hbl2 : b < M := by rw [HM.o]; exact hbl
    have hcw : wr.cell? ⟨b, o + k, none⟩ = some (.string s) := (HB.o.cell (p := ⟨b, o + k, none⟩) hbl2).trans (hcell k s hs); have lbw : b < wr.heap.size := by omega
    have hki : (k : Int) < 4 := by omega
    have HWk := yq (HWS.o s (List.mem_of_getElem? hs)); have HSG := yq hsg; clear hcell hrow hs hsg eW2 eW3; by_cases hs0 : s.size = 0
    · have he1 : s.toList.isEmpty = true := by rw [zaq]; simp [hs0]
      have he2 : (!s.toList.isEmpty) = false := by rw [he1]; rfl
      have HS0 := yq hs0; clear hs0; go_wp2_with fail
      go_roundw
      case rel =>
       refine ⟨k + 1, _, by omega, by go_num, HB.o, HX1.o, ?_, ?_⟩
       · rw [HBs.o, zbV, HSG.o, if_neg (by intro h; exact h.1 HS0.o), HOS.o]; exact HO.o
       · rw [HBs.o, zbV, HSG.o, if_neg (by intro h; exact h.1 HS0.o), HOS.o]; exact HST.o
      case measure => simp [intOf]; omega
    · have he1 : s.toList.isEmpty = false := by rw [zaq]; simp [hs0]
      have he2 : (!s.toList.isEmpty) = true := by rw [he1]; rfl
      have HS0 := yq hs0; clear hs0; have HSx := yq (show Sl zar wr wr.heap.size (.slice A xs.length c) xs from (HS2.o.below (by rw [<- HM.o]; exact HB.o)).le (by rw [<- HM.o]; omega)); go_wp2_with fail
      refine (zio _ xs k _ HSx.o hlt).mono ?_
      rintro e w3 ⟨rfl, hb3⟩; have HX3 := yq (Boxed.up HX1.o hb3 lb); have HO3 := yq (zac.below HO.o hb3); have HST3 := yq (HST.o.up hb3); have HB3 := yq (HB.o.trans (hb3.mono yO)); have cb3 := HX3.o.cell; have fb3 := HX3.o.frozen; have lb3 := HX3.o.lt; have z3 : wr.heap.size <= w3.heap.size := hb3.size; have l13 := HST3.o.lt; clear hb3 cb fb c0 hcw; by_cases hL : zkb xs k = true
      · have HLk := yq hL
        have hsz : s.size <= 2000 := by have := HWk.o; unfold zaB at this; simp only [Bool.and_eq_true, decide_eq_true_eq] at this; omega
        have hpl := zdM s; have HP := yq (zgf (zcW HWk.o) yO); have HLe := yq (show O.length + ((zaM s).map (zaH O.length)).length <= 1099511627776 by rw [List.length_map]; omega); have hO8 : O.length <= 8016 := by omega
        obtain ⟨G, hG⟩ : ∃ G, zaM s = G := ⟨_, rfl⟩
        have HG := yq hG; rw [hG] at hpl HP HLe; have PL := yq (fun W => zjg s W HWk.o); rw [hG] at PL; rw [hL]; clear hL hG; have hfd := zlt; go_wp2_with fail
        go_region_law (first
         | (refine zbx (base := M + 2) yR _ _ yR yR yR (zac.below (zac.below HO3.o.drew hb4) hb5) own5.sl HLe.o yO ?_; intro v6 w6 own6 hg6 hb6; have bx6 : Boxed w6 M 26 _ := Boxed.kept (Boxed.up (Boxed.up (Boxed.mk' HX3.o) hb4 lb3) hb5 lb4) hg6 (Boxed.not_row (Boxed.up (Boxed.up (Boxed.mk' HX3.o) hb4 lb3) hb5 lb4) (by decide) (zac.below (zac.below HO3.o.drew hb4) hb5)); obtain ⟨A6, c6, rfl, _⟩ := zae own6; have cb6 := bx6.cell; have fb6 := bx6.frozen)
         | (go_simp; go_at_call 76; refine (PL.o _).mono ?_; rintro e w4 ⟨hb4, v4, own4, rfl⟩; obtain ⟨A4, c4, rfl, _⟩ := zae own4; have bx4 := Boxed.up (Boxed.mk' HX3.o) hb4 lb3; have cb4 := bx4.cell; have fb4 := bx4.frozen; have lb4 := bx4.lt)
         | (go_simp; go_at_call 137; refine (zhR _ G O.length _ own4.sl yO yO HP.o).mono ?_; rintro e w5 ⟨v5, rfl, own5, hb5⟩; have bx5 := Boxed.up bx4 hb5 lb4; have cb5 := bx5.cell; have fb5 := bx5.frozen; have lb5 := bx5.lt; have z5 : w4.heap.size <= w5.heap.size := hb5.size; have z4 : w3.heap.size <= w4.heap.size := hb4.size))
        all_goals
         have h45 : Below w3.heap.size w3 w5 := Below.tr (Below.undrew hb4) hb5; have hbz : Below (M + 2) w3 w6 := (h45.mono yO).trans hb6; have kst6 := HST3.o.upB hbz yO; have cS := Blk.cell (i := k) (v := .int .i64 (S.getD k 0)) kst6 (zcX (by rw [HS4.o]; exact hlt)); have fS := Blk.frozen kst6 k; have lS := kst6.lt; have HBZ := yq hbz; have HO6 := yq own6; have HX6 := yq bx6; have HST6 := yq kst6; clear h45 hbz kst6 own6 bx6 hb4 hb5 hb6 own4 own5 bx4 bx5 hg6 cb4 fb4 cb5 fb5; go_wp2
         go_roundw
         case rel =>
          have e9 : (((O.length + G.length : Nat) : Int) - 1) = (O.length : Int) + G.length - 1 := by omega
          refine ⟨k + 1, .slice A6 (O.length + G.length) c6, by omega, by go_num, ?_, ?_, ?_, ?_⟩
          · exact ((HB3.o.trans (HBZ.o.mono yO)).setCell (by show M <= M; omega) _).setCell (by show M <= M + 1; omega) _
          · exact Blk.other (Boxed.set _ HX6.o) (by show M ≠ M + 1; omega) _
          · rw [HBs.o, zbV, HSG.o, if_pos ⟨HS0.o, HLk.o⟩, HOS.o, HG.o]
            exact ownsRow_setCell_below (a := ⟨M + 1, k, none⟩) (zcK HX6.o HO6.o rfl yS) (by show M + 1 < M + 2; omega) _
          · rw [HBs.o, zbV, HSG.o, if_pos ⟨HS0.o, HLk.o⟩, HOS.o, HG.o]
            have h9 := (HST6.o.other (p := ⟨M, 0, none⟩) (by show M + 1 ≠ M; omega) (.slice A6 (O.length + G.length) c6)).set k (.int .i64 ((O.length : Int) + G.length - 1)); rw [zip, <- e9] at h9; rw [<- e9]; exact h9
         case measure => simp [intOf]; omega
      · rw [show zkb xs k = false by simpa using hL]
        have HLk := yq hL; clear hL; go_wp2_with fail
        go_roundw
        case rel =>
         have e0 : ¬ ((ws.getD k ⟨#[]⟩).size ≠ 0 /\ zkb xs k = true) := fun h => HLk.o h.2; refine ⟨k + 1, _, by omega, by go_num, HB3.o, HX3.o, ?_, ?_⟩
         · rw [HBs.o, zbV, if_neg e0, HOS.o]; exact HO3.o
         · rw [HBs.o, zbV, if_neg e0, HOS.o]; exact HST3.o
        case measure => simp [intOf]; omega
  · have hk4 : k = 4 := by omega
    subst hk4; obtain ⟨wo, rfl⟩ : ∃ wo : World, wo = wr := ⟨_, rfl⟩
    have l13 := HST.o.lt; have l00 : w.heap.size < wo.heap.size := by omega
    have HBO := yq (show (zbO xs ws 4).2 = S by rw [HOS.o]); have HSK := yq (fun k hk => zkT xs ws HWS.o HL4.o hokx.o k hk); have HBl := yq (fun i hi => HBA.o.low i hi); rw [HOS.o] at HBl; have hS0 := yq (show zb7 xs ws 0 = (O, []) by unfold zb7; rw [HOS.o]; rfl); go_wp2_with fail
    go_loopw [10, 67] (fun sv q wr => ∃ (k : Nat) (vo : Value), k <= xs.length /\ q = .int .i64 (k : Int) /\ Below M w2 wr /\ Boxed wr M 26 vo /\ zac wr (M + 2) vo (zb7 xs ws k).1 /\ zan wr (M + 2) sv (zb7 xs ws k).2 /\ Blk wr (M + 1) ((S.map (Value.int .i64)).toArray) 173) (fun _ q _ => xs.length - (intOf q).toNat)
    case atStart =>
     refine ⟨0, _, Nat.zero_le _, rfl, HB.o.alloc yO _, Boxed.alloc HX1.o _, ?_, ?_, HST.o.alloc _⟩
     · rw [hS0.o]; exact HO.o.alloc _
     · rw [hS0.o]; exact zan.empty rfl yO
    case round =>
     obtain ⟨k, vo, hk, rfl, hb, hbox, hown, hi, hst⟩ := hrel; have hsk := HSK.o k hk; have hlO := hsk.len; have hlS := hsk.ls; have hlow := hsk.low; have HOK := yq hsk.ok; have HNx := yq (fun r hr => zd1 (xs := xs) (ws := ws) (k := k) (r := r) hr); rw [HBO.o] at HNx; obtain ⟨P, T, hPT⟩ : ∃ P T, zb7 xs ws k = (P, T) := ⟨_, _, rfl⟩
     have HPT := yq hPT; rw [hPT] at hown hi hlO hlS hlow HOK HNx
     replace hown : zac wr (M + 2) vo P := hown
     replace hi : zan wr (M + 2) u10 T := hi
     replace hlO : P.length <= 8016 + k := hlO
     replace hlS : T.length = k := hlS
     have HTl := yq hlS; have HLow := yq hlow; have HB5 := yq hb; have HX5 := yq hbox; have HO5 := yq hown; have HI5 := yq hi; have HST5 := yq hst; have cb5 := hbox.cell; have fb5 := hbox.frozen; have lb5 := hbox.lt; have l15 := hst.lt; obtain ⟨A5, c5, rfl, _⟩ := zae hown; obtain ⟨A7, c7, rfl, _⟩ := zae hi; have HTl2 := yq (show T.length <= 1099511627775 by rw [hlS]; omega); have HPl2 := yq (show P.length <= 1099511627775 by omega); clear hb hbox hown hi hst hPT hsk hlow hlS; by_cases hlt2 : k < xs.length
     · obtain ⟨AG, cG, eG, _, _, hrow⟩ := HS2.o
       injection eG with eG1 eG2 eG3; subst eG1; obtain ⟨b, o, rfl, hbl, hcell⟩ := hrow.rule hlt2; obtain ⟨r, hr⟩ : ∃ r, xs[k]? = some r := ⟨_, ye hlt2⟩
       obtain ⟨g0, g1, g2⟩ := hcell k r hr; have hbl2 : b < M := by rw [HM.o]; exact hbl
       have hc0 := (HB5.o.cell (p := ⟨b, o + k * 3, none⟩) hbl2).trans g0; have hc1 := (HB5.o.cell (p := ⟨b, o + k * 3 + 1, none⟩) hbl2).trans g1; have hc2 := (HB5.o.cell (p := ⟨b, o + k * 3 + 2, none⟩) hbl2).trans g2; have lbw : b < wr.heap.size := by omega
       have Hr := yq hr; have hor := hokx.o k r hr; have HN := yq (HNx.o r hr); have hki : (k : Int) < (xs.length : Int) := by omega
       clear hcell hrow g0 g1 g2 hr eG2 eG3 HNx; cases hpr : r.pair with
       | false =>
         have he1 : r.letter.toList.isEmpty = false := by rw [zaq]; simpa [zaa.pair] using hpr
         have he2 : (!r.letter.toList.isEmpty) = true := by rw [he1]; rfl
         obtain ⟨q1, q2, q3⟩ := zce hor hpr; have hidx := zeV hor hpr; have hpos : 0 < r.letter.size := by omega
         rw [zbQ hpos] at hidx; have cS := Blk.cell (i := r.letter[0].toNat - 97) (v := .int .i64 (S.getD (r.letter[0].toNat - 97) 0)) HST5.o (zcX (by rw [HS4.o]; omega)); obtain ⟨v, hv⟩ : ∃ v, S.getD (r.letter[0].toNat - 97) 0 = v := ⟨_, rfl⟩
         rw [hv] at cS
         have hst9 : zbj S (P, T) r = (P, T ++ [v]) := by
          unfold zbj; rw [if_neg (by simp [hpr]), zbQ hpos, hv]
         rw [hst9] at HN; have Hq1 := yq q1; have hs1 : (r.letter.size : Int) = 1 := by omega
         clear hst9 hv hor q1 q2 q3
         go_wp2_with (first
          | (go_at_call 93; refine (zbF _ _ _ _).mono ?_; rintro e w' ⟨rfl, rfl⟩)
          | (at_builtin; go_must (refine zbn (base := M + 2) (v := .slice A7 T.length c7) (l := T) rfl _ _ rfl rfl rfl yS ((HI5.o.alloc _).alloc _) HTl2.o (by simp; omega) ?_); intro v3 w3 own3 hg3 hv3; obtain ⟨A3, c3, rfl, _⟩ := zae own3))
         obtain ⟨t1, t2, t3, t4⟩ := zeW ((HB5.o.alloc yO _).alloc (by simp; omega) _) (Boxed.alloc (Boxed.alloc HX5.o _) _) ((HO5.o.alloc _).alloc _) ((HI5.o.alloc _).alloc _) ((HST5.o.alloc _).alloc _) hg3 (by simp; omega); exact ⟨⟨k + 1, _, by omega, by go_num, t1, t2, by rw [HN.o]; exact t3, by rw [HN.o]; exact zdy own3, t4⟩, by simp [intOf]; omega⟩
       | true =>
         have he1 : r.letter.toList.isEmpty = true := by rw [zaq]; exact hpr
         have he2 : (!r.letter.toList.isEmpty) = false := by rw [he1]; rfl
         obtain ⟨q1, q2, q3, q4⟩ := zbs hor hpr; obtain ⟨l1, hl1⟩ := Int.eq_ofNat_of_zero_le q1; obtain ⟨l2, hl2⟩ := Int.eq_ofNat_of_zero_le q3; have h1k : l1 < T.length := by rw [HTl.o]; omega
         have h2k : l2 < T.length := by rw [HTl.o]; omega
         obtain ⟨g, cap, e1, hgb, hgl, _, hgc⟩ := zan.at_ HI5.o (j := l1) h1k; injection e1 with e11 e12 e13; subst e11; have ca := hgc l1 h1k; have cb' := hgc l2 h2k; have hLa := HLow.o l1 (by rw [<- HTl.o]; exact h1k); have hLb := HLow.o l2 (by rw [<- HTl.o]; exact h2k)
         replace hLa : -1 <= T.getD l1 0 /\ T.getD l1 0 < (P.length : Int) := hLa
         replace hLb : -1 <= T.getD l2 0 /\ T.getD l2 0 < (P.length : Int) := hLb
         obtain ⟨a, ha⟩ : ∃ a, T.getD l1 0 = a := ⟨_, rfl⟩
         obtain ⟨bb, hbb⟩ : ∃ a, T.getD l2 0 = a := ⟨_, rfl⟩
         rw [ha] at ca hLa; rw [hbb] at cb' hLb
         have hst9 : zbj S (P, T) r = if a < 0 then (P, T ++ [bb]) else if bb < 0 then (P, T ++ [a]) else (P ++ [zaP a bb], T ++ [(P.length : Int)]) := by
          unfold zbj; rw [if_pos hpr, hl1, hl2, Int.toNat_natCast, Int.toNat_natCast, ha, hbb]
         rw [hst9] at HN; rw [hl1] at hc1; rw [hl2] at hc2; have h1i : (l1 : Int) < (T.length : Int) := by omega
         have h2i : (l2 : Int) < (T.length : Int) := by omega
         clear hst9 hor q1 q2 q3 q4 hl1 hl2 ha hbb hgc e12 e13; by_cases hA : a < 0
         · rw [if_pos hA] at HN
           go_wp2_with (first
            | (go_at_call 93; refine (zbF _ _ _ _).mono ?_; rintro e w' ⟨rfl, rfl⟩)
            | (at_builtin; go_must (refine zbn (base := M + 2) (v := .slice (some ⟨g, 0, none⟩) T.length c7) (l := T) rfl _ _ rfl rfl rfl yS ((HI5.o.alloc _).alloc _) HTl2.o (by simp; omega) ?_); intro v3 w3 own3 hg3 hv3; obtain ⟨A3, c3, rfl, _⟩ := zae own3))
           obtain ⟨t1, t2, t3, t4⟩ := zeW ((HB5.o.alloc yO _).alloc (by simp; omega) _) (Boxed.alloc (Boxed.alloc HX5.o _) _) ((HO5.o.alloc _).alloc _) ((HI5.o.alloc _).alloc _) ((HST5.o.alloc _).alloc _) hg3 (by simp; omega); exact ⟨⟨k + 1, _, by omega, by go_num, t1, t2, by rw [HN.o]; exact t3, by rw [HN.o]; exact zdy own3, t4⟩, by simp [intOf]; omega⟩
         · rw [if_neg hA] at HN
           by_cases hB : bb < 0
           · rw [if_pos hB] at HN
             go_wp2_with (first
              | (go_at_call 93; refine (zbF _ _ _ _).mono ?_; rintro e w' ⟨rfl, rfl⟩)
              | (at_builtin; go_must (refine zbn (base := M + 2) (v := .slice (some ⟨g, 0, none⟩) T.length c7) (l := T) rfl _ _ rfl rfl rfl yS ((HI5.o.alloc _).alloc _) HTl2.o (by simp; omega) ?_); intro v3 w3 own3 hg3 hv3; obtain ⟨A3, c3, rfl, _⟩ := zae own3))
             obtain ⟨t1, t2, t3, t4⟩ := zeW ((HB5.o.alloc yO _).alloc (by simp; omega) _) (Boxed.alloc (Boxed.alloc HX5.o _) _) ((HO5.o.alloc _).alloc _) ((HI5.o.alloc _).alloc _) ((HST5.o.alloc _).alloc _) hg3 (by simp; omega); exact ⟨⟨k + 1, _, by omega, by go_num, t1, t2, by rw [HN.o]; exact t3, by rw [HN.o]; exact zdy own3, t4⟩, by simp [intOf]; omega⟩
           · rw [if_neg hB] at HN
             go_wp2_with (first
              | (go_at_call 93; refine (zbF _ _ _ _).mono ?_; rintro e w' ⟨rfl, rfl⟩))
             have f1 : Below M w2 ((wr.alloc (Obj.cells #[Value.string r.letter, Value.int IntKind.i64 l1, Value.int IntKind.i64 l2] 88)).alloc (Obj.cells #[Value.string r.letter, Value.int IntKind.i64 l1, Value.int IntKind.i64 l2] 88)) := (HB5.o.alloc yO _).alloc (by simp; omega) _; have f2 : Boxed ((wr.alloc (Obj.cells #[Value.string r.letter, Value.int IntKind.i64 l1, Value.int IntKind.i64 l2] 88)).alloc (Obj.cells #[Value.string r.letter, Value.int IntKind.i64 l1, Value.int IntKind.i64 l2] 88)) M 26 (.slice A5 P.length c5) := Boxed.alloc (Boxed.alloc HX5.o _) _; have f3 : zac ((wr.alloc (Obj.cells #[Value.string r.letter, Value.int IntKind.i64 l1, Value.int IntKind.i64 l2] 88)).alloc (Obj.cells #[Value.string r.letter, Value.int IntKind.i64 l1, Value.int IntKind.i64 l2] 88)) (M + 2) (.slice A5 P.length c5) P := (HO5.o.alloc _).alloc _; have f4 : zan ((wr.alloc (Obj.cells #[Value.string r.letter, Value.int IntKind.i64 l1, Value.int IntKind.i64 l2] 88)).alloc (Obj.cells #[Value.string r.letter, Value.int IntKind.i64 l1, Value.int IntKind.i64 l2] 88)) (M + 2) (.slice (some ⟨g, 0, none⟩) T.length c7) T := (HI5.o.alloc _).alloc _; have f5 : Blk ((wr.alloc (Obj.cells #[Value.string r.letter, Value.int IntKind.i64 l1, Value.int IntKind.i64 l2] 88)).alloc (Obj.cells #[Value.string r.letter, Value.int IntKind.i64 l1, Value.int IntKind.i64 l2] 88)) (M + 1) ((S.map (Value.int .i64)).toArray) 173 := (HST5.o.alloc _).alloc _; have f6 : Blk ((wr.alloc (Obj.cells #[Value.string r.letter, Value.int IntKind.i64 l1, Value.int IntKind.i64 l2] 88)).alloc (Obj.cells #[Value.string r.letter, Value.int IntKind.i64 l1, Value.int IntKind.i64 l2] 88)) wr.heap.size #[.string r.letter, .int .i64 l1, .int .i64 l2] 88 := by repeat (first | (apply Blk.new'; simp; done) | apply Blk.alloc | apply Blk.drew)
             have f7 : ((wr.alloc (Obj.cells #[Value.string r.letter, Value.int IntKind.i64 l1, Value.int IntKind.i64 l2] 88)).alloc (Obj.cells #[Value.string r.letter, Value.int IntKind.i64 l1, Value.int IntKind.i64 l2] 88)).cell? ⟨g, l1, none⟩ = some (.int .i64 a) := by simp [go_sem, ca, hgl]
             have f8 : ((wr.alloc (Obj.cells #[Value.string r.letter, Value.int IntKind.i64 l1, Value.int IntKind.i64 l2] 88)).alloc (Obj.cells #[Value.string r.letter, Value.int IntKind.i64 l1, Value.int IntKind.i64 l2] 88)).cell? ⟨g, l2, none⟩ = some (.int .i64 bb) := by simp [go_sem, cb', hgl]
             have f9 : wr.heap.size + 2 <= ((wr.alloc (Obj.cells #[Value.string r.letter, Value.int IntKind.i64 l1, Value.int IntKind.i64 l2] 88)).alloc (Obj.cells #[Value.string r.letter, Value.int IntKind.i64 l1, Value.int IntKind.i64 l2] 88)).heap.size := by simp
             clear ca cb' cb5 fb5 hc0 hc1 hc2; generalize ((wr.alloc (Obj.cells #[Value.string r.letter, Value.int IntKind.i64 l1, Value.int IntKind.i64 l2] 88)).alloc (Obj.cells #[Value.string r.letter, Value.int IntKind.i64 l1, Value.int IntKind.i64 l2] 88)) = W1 at *; have HF1 := yq f1; have HF2 := yq f2; have HF3 := yq f3; have HF4 := yq f4; have HF5 := yq f5; have d0 := f6.cell (i := 0) (v := .string r.letter) rfl; have d1 := f6.cell (i := 1) (v := .int .i64 l1) rfl; have d2 := f6.cell (i := 2) (v := .int .i64 l2) rfl; have d3 := f6.lt; have e0 := f2.cell; have e1 := f2.frozen; have e2 := f2.lt; have e3 : g < W1.heap.size := by omega
             clear f1 f2 f3 f4 f5 f6; have e4 := Nat.le_trans (Nat.le_add_left 2 M |> fun _ => (by omega : M + 2 <= wr.heap.size + 2)) f9; go_cut [] (fun wx => ∃ (A9 : Option Addr) (c9 : Nat), Below M w2 wx /\ Boxed wx M 26 (.slice A9 (P.length + 1) c9) /\ zac wx (M + 2) (.slice A9 (P.length + 1) c9) (P ++ [zaP a bb]) /\ zan wx (M + 2) (.slice (some ⟨g, 0, none⟩) T.length c7) T /\ Blk wx (M + 1) ((S.map (Value.int .i64)).toArray) 173)
             case first =>
              go_region_law (first
               | (refine zbc (base := M + 2) yR _ _ yR yR (by first | rfl | simp) rfl (zac.below HF3.o.drew hb4) HPl2.o yO ?_; intro v5 w5 own5 hg5 hb5; have bx5 : Boxed w5 M 26 _ := Boxed.grown (Boxed.up (Boxed.mk' HF2.o) hb4 e2) (by decide) (zac.below HF3.o.drew hb4) hg5; obtain ⟨A9, c9, rfl, _⟩ := zae own5; have e5 := bx5.cell; have e6 := bx5.frozen)
               | (go_simp; go_at_call 138; refine (zdZ _ _ _).mono ?_; rintro e w4 ⟨rfl, hb4⟩; have bx4 := Boxed.up (Boxed.mk' HF2.o) hb4 e2; have e7 := bx4.cell; have e8 := bx4.frozen; have e9 := bx4.lt; have z4 : W1.heap.size <= w4.heap.size := hb4.size))
              all_goals
               have own4 : zan w5 (M + 2) (.slice (some ⟨g, 0, none⟩) T.length c7) T := zgQ (zaI HF4.o.drew hb4) (zac.below HF3.o.drew hb4) hg5; have hbz : Below (M + 2) W1 w5 := (Below.drew (Below.refl _ _)).trans (((hb4.mono (by show M + 2 <= W1.heap.size; omega)).alloc yO _).trans hb5); have HX9 := yq bx5; have HO9 := yq own5; have HI9 := yq own4; have HB9 := yq (HF1.o.trans (hbz.mono yO)); have HST9 := yq (HF5.o.upB hbz yO); clear own4 hbz own5 hb4 hb5 hg5 bx4 d0 d1 d2 e0 e1 f7 f8 e7 e8; go_wp2_with fail
               go_meet
               refine ⟨A9, c9, HB9.o.setCell yL _, Boxed.set _ bx5, zcK bx5 HO9.o rfl yS, ownsRow_setCell_below HI9.o (by show M < M + 2; omega) _, HST9.o.other (by show M + 1 ≠ M; omega) _⟩
             case rest =>
              obtain ⟨A9, c9, hq1, hq2, hq3, hq4, hq5⟩ := hcut; have hz9 : M + 2 <= wc.heap.size := by have := (World.ownsRow.lt hq4 g rfl).2; omega
              have HQ1 := yq hq1; have HQ2 := yq hq2; have HQ3 := yq hq3; have HQ4 := yq hq4; have HQ5 := yq hq5; have w0 := hq2.cell; have w3 := hq2.lt; have hp8 : P.length <= 8500 := by omega
              clear hq1 hq2 hq3 hq4 hq5 d0 d1 d2 e0 e1 f7 f8
              go_wp2_with (first
               | (at_builtin; go_must (refine zbn (base := M + 2) (v := .slice (some ⟨g, 0, none⟩) T.length c7) (l := T) rfl _ _ rfl rfl rfl yS HQ4.o HTl2.o hz9 ?_); intro v3 w3 own3 hg3 hv3; obtain ⟨A3, c3, rfl, _⟩ := zae own3))
              obtain ⟨t1, t2, t3, t4⟩ := zeW HQ1.o HQ2.o HQ3.o HQ4.o HQ5.o hg3 hz9; refine ⟨⟨k + 1, _, by omega, by go_num, t1, t2, by rw [HN.o]; exact t3, ?_, t4⟩, by simp [intOf]; omega⟩
              rw [HN.o]; have e8 : (P.length : Int) + 1 - 1 = (P.length : Int) := by omega
              first
               | exact zdy own3
               | (rw [e8] at own3; exact zdy own3)
     · have hkn : k = xs.length := by omega
       subst hkn; have HPM := yq (show zin xs ws = (P, T) from HPT.o); have hmo : zec xs ws = if 400 < P.length then [] else if xs.length = 0 \/ zao T < 0 then [] else zav (zaQ (P.take ((zao T).toNat + 1))) := by unfold zec; rw [HPM.o]
       have hmc : zdd xs ws = if 400 < P.length then 3 else if xs.length = 0 \/ zao T < 0 then 0 else zas (zaQ (P.take ((zao T).toNat + 1))) := by unfold zdd; rw [HPM.o]
       have HMO := yq hmo; have HMC := yq hmc; have hKR := HK1.o.upB HB5.o z21; have r1 := hKR.cell (i := 0) (v := .slice none 0 0) rfl; have r2 := hKR.frozen 0; have r3 := hKR.lt; have HBw := yq (HB2.o.trans (HB5.o.mono yO)); clear hmo hmc hKR; by_cases h400 : 400 < P.length
       · rw [if_pos h400] at HMO HMC
         go_wp2
         refine bodyPost_ret (v := .tuple #[.agg #[.slice none 0 0], .int .i64 3]) (by simp [results, Tryz.results104, go_sem, r1]) rfl ⟨HBw.o.setCell (by show w.heap.size <= w.heap.size + 1; omega) _, _, ?_, by rw [HMC.o]⟩
         rw [HMO.o]; exact World.ownsRow_nil _ _ _ _
       · rw [if_neg h400] at HMO HMC
         have hTx := HTl.o; by_cases hx0 : xs.length = 0
         · rw [if_pos (.inl hx0)] at HMO HMC
           have g0 : ((T.length : Int) == 0) = true := by rw [beq_iff_eq]; omega
           have HX0 := yq hx0; clear hx0 hTx; go_wp2
           refine bodyPost_ret (v := .tuple #[.agg #[.slice none 0 0], .int .i64 0]) (by simp [results, Tryz.results104, go_sem, r1]) rfl ⟨HBw.o.setCell (by show w.heap.size <= w.heap.size + 1; omega) _, _, ?_, by rw [HMC.o]⟩
           rw [HMO.o]; exact World.ownsRow_nil _ _ _ _
         · have g0 : ((T.length : Int) == 0) = false := by rw [beq_eq_false_iff_ne]; omega
           have hlq := HLow.o (xs.length - 1) yO
           replace hlq : -1 <= T.getD (xs.length - 1) 0 /\ T.getD (xs.length - 1) 0 < (P.length : Int) := hlq
           have hlT : zao T = T.getD (xs.length - 1) 0 := by rw [zao, hTx]
           rw [<- hlT] at hlq; have HSI := yq (show Sl zgt wr wr.heap.size (.slice A7 T.length c7) T from zan.sl HI5.o); obtain ⟨q, hq⟩ : ∃ q, zao T = q := ⟨_, rfl⟩
           have LA := yq (fun W (hb : Below wr.heap.size wr W) => zdX _ T W (HSI.o.up hb)); rw [hq] at LA hlq HMO HMC; clear hlT hTx hq; by_cases hq0 : q < 0
           · rw [if_pos (.inr hq0)] at HMO HMC
             go_wp2_with (first
              | (go_at_call 96; refine (LA.o _ (Below.refl _ _)).mono ?_; rintro e w' ⟨rfl, rfl⟩))
             refine bodyPost_ret (v := .tuple #[.agg #[.slice none 0 0], .int .i64 0]) (by simp [results, Tryz.results104, go_sem, r1]) rfl ⟨HBw.o.setCell (by show w.heap.size <= w.heap.size + 1; omega) _, _, ?_, by rw [HMC.o]⟩
             rw [HMO.o]; exact World.ownsRow_nil _ _ _ _
           · rw [if_neg (fun h => h.elim hx0 hq0)] at HMO HMC
             obtain ⟨n, rfl⟩ := Int.eq_ofNat_of_zero_le (show 0 <= q by omega); rw [Int.toNat_natCast] at HMO HMC; have hnP : n + 1 <= P.length := by omega
             have TR := yq (fun W (hb : Below wr.heap.size wr W) => zbz (.slice A5 (n + 1) c5) (P.take (n + 1)) W ((zif (HO5.o.sl) (m := n + 1) hnP).up hb) (by rw [List.length_take]; omega) (zdJ HOK.o (n + 1)))
             have hTrl : (zaQ (P.take (n + 1))).length <= 8500 := by
              have h1 := zfs (P.take (n + 1)); rw [List.length_take] at h1; omega
             obtain ⟨R, hR⟩ : ∃ R, zaQ (P.take (n + 1)) = R := ⟨_, rfl⟩
             rw [hR] at TR HMO HMC hTrl; have hcP : (P.length : Int) <= c5 := by omega
             have htn : ((n : Int) + 1).toNat = n + 1 := by omega
             clear hR hq0 hlq
             go_wp2_with (first
              | (go_at_call 96; refine (LA.o _ (Below.refl _ _)).mono ?_; rintro e w' ⟨rfl, rfl⟩))
             have cb7 := HX5.o.cell; have lb7 := HX5.o.lt; have j1 : 0 <= (n : Int) + 1 := by omega
             have j2 : (n : Int) + 1 <= (c5 : Int) := by omega
             have j3 : IntKind.i64.wrap ((n : Int) + 1) = (n : Int) + 1 := IntWalk.i64_in _ yO; have HR := yq (show R.length <= 1099511627776 by omega)
             go_region_law (first
              | (go_simp; go_at_call 96; refine (LA.o _ (by repeat (first | exact Below.refl _ _ | refine Below.drew ?_))).mono ?_; rintro e w' ⟨rfl, rfl⟩)
              | (go_simp; go_at_call 106; refine (TR.o _ (by repeat (first | exact Below.refl _ _ | refine Below.drew ?_))).mono ?_; rintro e w6 ⟨hb6, v6, own6, rfl⟩)
              | (go_simp; go_at_call 75; refine (zcJ _ _ _ _ own6 HR.o).mono ?_; rintro e w7 ⟨hb7, v7, own7, rfl⟩; obtain ⟨A7', c7', rfl, _⟩ := zae own7; have hb8 : Below wr.heap.size wr w7 := Below.tr (Below.undrew hb6) hb7; have hKR8 := (HK1.o.upB HB5.o z21).up hb8; have s1 := hKR8.cell (i := 0) (v := .slice none 0 0) rfl; have s2 := hKR8.frozen 0; have s3 := hKR8.lt))
             all_goals
              have HB8 := yq (Below.tr HBw.o hb8); have HO8 := yq own7; have hz8 : wr.drew.heap.size = wr.heap.size := rfl; clear hb6 hb7 hb8 own6 own7 r1 r2 r3 j1 j2 j3 htn; go_wp2
              refine bodyPost_ret (v := .tuple #[.agg #[.slice A7' (zav R).length c7'], .int .i64 (zas R)]) (by simp [results, Tryz.results104, go_sem, s1]) rfl ⟨HB8.o.setCell (by show w.heap.size <= w.heap.size + 1; omega) _, _, ?_, by rw [HMC.o]⟩
              rw [HMO.o]; exact zad (ownsRow_setCell_below HO8.o (a := ⟨w.heap.size + 1, 0, none⟩) (by show w.heap.size + 1 < wr.heap.size; omega) _) (by show w.heap.size <= wr.heap.size; omega)
end Go.Proofs.YtejgbfgocaggfaaGreatDoor
namespace Go.Proofs
open Go.Shelf Go.RowKit
def Tryz.laysM173_ren : Go.Shelf.Ren := ⟨fun | 173 => 78 | 246 => 122 | 283 => 151 | 284 => 152 | 285 => 153 | 286 => 154 | 129 => 174 | 317 => 173 | 318 => 175 | 319 => 176 | 320 => 177 | 337 => 181 | 338 => 182 | n => n, fun | 2 => 2 | 3 => 3 | 9 => 9 | 4 => 4 | 171 => 189 | 0 => 0 | 53 => 90 | 37 => 22 | 5 => 5 | 173 => 192 | 212 => 210 | 51 => 211 | 20 => 20 | 213 => 212 | 46 => 149 | 232 => 226 | 233 => 227 | n => n, fun | 17 => 3 | 18 => 6 | 19 => 7 | n => n⟩
theorem Tryz.laysM173 : Go.Proofs.LaysM.n173 Tryz.prog Tryz.laysM173_ren := {
 mixed := by kernel_rfl
 f129 := Tryz.func174.trans (congrArg some (by kernel_rfl))
 f173 := Tryz.func78.trans (congrArg some (by kernel_rfl))
 f246 := Tryz.func122.trans (congrArg some (by kernel_rfl))
 f283 := Tryz.func151.trans (congrArg some (by kernel_rfl))
 f284 := Tryz.func152.trans (congrArg some (by kernel_rfl))
 f285 := Tryz.func153.trans (congrArg some (by kernel_rfl))
 f286 := Tryz.func154.trans (congrArg some (by kernel_rfl))
 f317 := Tryz.func173.trans (congrArg some (by kernel_rfl))
 f318 := Tryz.func175.trans (congrArg some (by kernel_rfl))
 f319 := Tryz.func176.trans (congrArg some (by kernel_rfl))
 f320 := Tryz.func177.trans (congrArg some (by kernel_rfl))
 f337 := Tryz.func181.trans (congrArg some (by kernel_rfl))
 f338 := Tryz.func182.trans (congrArg some (by kernel_rfl))
 t0 := Tryz.underlying0
 a0 := Tryz.isAgg0
 z0 := Tryz.sizeOf0
 v0 := Tryz.zeroValue0
 t2 := Tryz.underlying2
 a2 := Tryz.isAgg2
 z2 := Tryz.sizeOf2
 v2 := Tryz.zeroValue2
 t3 := Tryz.underlying3
 a3 := Tryz.isAgg3
 z3 := Tryz.sizeOf3
 v3 := Tryz.zeroValue3
 t4 := Tryz.underlying4
 a4 := Tryz.isAgg4
 z4 := Tryz.sizeOf4
 v4 := Tryz.zeroValue4
 t5 := Tryz.underlying5
 a5 := Tryz.isAgg5
 z5 := Tryz.sizeOf5
 v5 := Tryz.zeroValue5
 t9 := Tryz.underlying9
 a9 := Tryz.isAgg9
 z9 := Tryz.sizeOf9
 v9 := Tryz.zeroValue9
 t20 := Tryz.underlying20
 a20 := Tryz.isAgg20
 z20 := Tryz.sizeOf20
 v20 := Tryz.zeroValue20
 t37 := Tryz.underlying22
 a37 := Tryz.isAgg22
 z37 := Tryz.sizeOf22
 v37 := Tryz.zeroValue22
 t46 := Tryz.underlying149
 a46 := Tryz.isAgg149
 z46 := Tryz.sizeOf149
 v46 := Tryz.zeroValue149
 t51 := Tryz.underlying211
 a51 := Tryz.isAgg211
 z51 := Tryz.sizeOf211
 v51 := Tryz.zeroValue211
 t53 := Tryz.underlying90
 a53 := Tryz.isAgg90
 z53 := Tryz.sizeOf90
 v53 := Tryz.zeroValue90
 t171 := Tryz.underlying189
 a171 := Tryz.isAgg189
 z171 := Tryz.sizeOf189
 v171 := Tryz.zeroValue189
 t173 := Tryz.underlying192
 a173 := Tryz.isAgg192
 z173 := Tryz.sizeOf192
 v173 := Tryz.zeroValue192
 t212 := Tryz.underlying210
 a212 := Tryz.isAgg210
 z212 := Tryz.sizeOf210
 v212 := Tryz.zeroValue210
 t213 := Tryz.underlying212
 a213 := Tryz.isAgg212
 z213 := Tryz.sizeOf212
 t232 := Tryz.underlying226
 a232 := Tryz.isAgg226
 z232 := Tryz.sizeOf226
 v232 := Tryz.zeroValue226
 t233 := Tryz.underlying227
 a233 := Tryz.isAgg227
 z233 := Tryz.sizeOf227
 v233 := Tryz.zeroValue227
 g17 := by kernel_rfl
 g18 := by kernel_rfl
 g19 := by kernel_rfl
 i0 := by kernel_rfl
 i2 := by kernel_rfl
 i3 := by kernel_rfl
 i4 := by kernel_rfl
 i5 := by kernel_rfl
 i9 := by kernel_rfl
 i20 := by kernel_rfl
 i37 := by kernel_rfl
 i46 := by kernel_rfl
 i51 := by kernel_rfl
 i53 := by kernel_rfl
 i171 := by kernel_rfl
 i173 := by kernel_rfl
 i212 := by kernel_rfl
 i232 := by kernel_rfl
 i233 := by kernel_rfl
 m17 := by kernel_rfl
 m18 := by kernel_rfl
 m19 := by kernel_rfl }
open Go.RowKit Go.Sort Go.Lib in
theorem Tryz.strconv_FormatInt_10 (n : Int) (h0 : -9223372036854775808 ≤ n) (h1 : n ≤ 9223372036854775807) (w : World) (htab : Lib.TabIs Tryz.prog w "internal/strconv.uint64pow10" .u64 Lib.pow10Tab) :
  Calls Tryz.prog 78 #[.int .i64 n, .int .i64 10] w fun e w' => e = .returned (.string ⟨(Lib.itoa n).toArray⟩) ∧ ∃ k os, w' = grow (w.drewN k) os := Any.strconv_FormatInt_10 Tryz.laysM173 n h0 h1 w htab
end Go.Proofs
namespace Go.Proofs.YtejgbfgocaggfaaGreatDoor
open Go.RowKit
theorem zdN {P : Program} {w w' : World} {nm : String} {k : IntKind} {zs : List Int} (h : Lib.TabIs P w nm k zs) (hb : Below w.heap.size w w') : Lib.TabIs P w' nm k zs := by
 unfold Lib.TabIs World.var? at h |-
 obtain ⟨g, hg, h2⟩ := Option.bind_eq_some_iff.1 h; rw [hg]; simp only [Option.bind_some]
 have hlt : g < w.heap.size := by
  rcases Nat.lt_or_ge g w.heap.size with h' | h'
  · exact h'
  · rw [Array.getElem?_eq_none h'] at h2; cases h2
 rw [hb.block g hlt]; exact h2
theorem zlu {w : World} {k : Nat} {os : Array Obj} : Below w.heap.size w (Go.Sort.grow (w.drewN k) os) :=
 ⟨rfl, rfl, rfl, by simp [Go.Sort.grow, World.drewN], fun b hb => by simp [Go.Sort.grow, World.drewN, Array.getElem?_append_left, hb]⟩
def dec (n : Int) : List UInt8 := Lib.decDigits n.toNat
theorem zfb (n : Int) (w : World) (h : 0 <= n /\ n <= 1000000000000000) (htab : Lib.TabIs Tryz.prog w "internal/strconv.uint64pow10" .u64 Lib.pow10Tab) :
  Calls Tryz.prog 45 #[.int .i64 n] w fun e w' => e = .returned (.string ⟨(dec n).toArray⟩) /\ Below w.heap.size w w' := by
 have hd : Lib.itoa n = dec n := by rw [Lib.itoa, if_neg yO]; rfl
 have Hd := yq hd; have HT := yq htab; clear hd htab; go_enter Tryz.func45, Tryz.ntmps45
 go_wp2_with fail
 refine (Tryz.strconv_FormatInt_10 n yO yO _ HT.o).mono ?_
 rintro e w' ⟨rfl, k, os, rfl⟩; rw [Hd.o]; go_wp2_with fail
 go_ret
 exact ⟨rfl, zlu⟩
theorem zdz (a b : List UInt8) : (⟨a.toArray⟩ : ByteArray) ++ ⟨b.toArray⟩ = ⟨(a ++ b).toArray⟩ := by
 apply ByteArray.ext
 simp [ByteArray.data_append]
theorem zhY : ∀ (k m : Nat), m < 10 ^ (k + 1) -> Lib.nDigits m <= k + 1 := by
 intro k
 induction k with
 | zero => intro m h; rw [Lib.nDigits]; split
           · omega
           · rename_i h2; simp at h; omega
 | succ k ih =>
   intro m h; rw [Lib.nDigits]; split
   · omega
   · have := ih (m / 10) (by rw [Nat.pow_succ] at h; exact Nat.div_lt_of_lt_mul (by rw [Nat.mul_comm]; exact h))
     omega
theorem zmC (x : Nat) (hx : x < 256) (W : World) (b : Nat) (h : W.cell? ⟨b, 0, none⟩ = some (.int .u8 (x : Int))) :
  (convert 22 9 (.slice (some ⟨b, 0, none⟩) 1 1)).run Tryz.prog W = .ok (.string ⟨#[UInt8.ofNat x]⟩) W :=
 run_convert_bytes_back (P := Tryz.prog) W 22 9 5 ⟨b, 0, none⟩ 1 [UInt8.ofNat x] Tryz.underlying22 Tryz.underlying5 Tryz.underlying9 (fun j hj => by
  have : j = 0 := by simp at hj; omega
  subst this; have e : ((UInt8.ofNat x).toNat : Int) = x := by rw [UInt8.toNat_ofNat']; omega
  simp only [List.getElem_cons_zero, e]
  simpa [Addr.add] using h)
theorem zkf : ∀ (n : Nat), n < 10000000000000000 -> ∀ (w : World), Calls Tryz.prog 34 #[.int .i64 n] w fun e w' => e = .returned (.string ⟨(Lib.decDigits n).toArray⟩) /\ Below w.heap.size w w' := by
 intro n
 induction n using Nat.strongRecOn with
 | ind n ih =>
   intro hn w; by_cases c : n < 10
   · have hd : Lib.decDigits n = [UInt8.ofNat (48 + n)] := Lib.decDigits_one c
     have Hd := yq hd; have c' : ¬ (10 <= (n : Int)) := by omega
     have hcv := zmC (48 + n) yO; rw [show ((48 + n : Nat) : Int) = 48 + (n : Int) by omega] at hcv; obtain ⟨q, hq⟩ : ∃ q, UInt8.ofNat (48 + n) = q := ⟨_, rfl⟩
     rw [hq] at hcv Hd; clear ih hd hq; go_enter Tryz.func34, Tryz.ntmps34
     go_wp2_with fail
     go_ret
     exact ⟨by rw [Hd.o]; rfl, yb⟩
   · have ih' := ih (n / 10) yO yO
     rw [show ((n / 10 : Nat) : Int) = (n : Int) / 10 by omega] at ih'; have c' : 10 <= (n : Int) := by omega
     have hd : Lib.decDigits n = Lib.decDigits (n / 10) ++ [UInt8.ofNat (48 + n % 10)] := by rw [Lib.decDigits, dif_neg c]
     have Hd := yq hd; have hcv := zmC (48 + n % 10) yO; rw [show ((48 + n % 10 : Nat) : Int) = 48 + (n : Int) % 10 by omega] at hcv; obtain ⟨q, hq⟩ : ∃ q, UInt8.ofNat (48 + n % 10) = q := ⟨_, rfl⟩
     rw [hq] at hcv Hd; have hlen : (Lib.decDigits (n / 10)).length <= 16 := by rw [Lib.decDigits_length]; exact zhY 15 (n / 10) yO
     obtain ⟨D, hD⟩ : ∃ D, Lib.decDigits (n / 10) = D := ⟨_, rfl⟩
     rw [hD] at hlen Hd ih'; have Ih := yq ih'
     have ihA : ∀ (W : World) (u : Value), Calls Tryz.prog 34 #[.int .i64 ((n : Int) / 10)] (W.alloc (Obj.cells #[u] 5)).drew fun e w' => e = .returned (.string ⟨D.toArray⟩) /\ Below (W.alloc (Obj.cells #[u] 5)).drew.heap.size (W.alloc (Obj.cells #[u] 5)).drew w' /\ w'.cell? ⟨W.heap.size, 0, none⟩ = some u :=
      fun W u => (Ih.o _).mono fun e w' ⟨h1, h2⟩ => ⟨h1, h2, (h2.cell (p := ⟨W.heap.size, 0, none⟩) yS).trans (by simp [go_sem])⟩
     have IhA := yq ihA; have hn3 : ¬ (9223372036854775807 < D.length + 1) := by omega
     have hdv : IntKind.i64.wrap ((n : Int) / 10) = (n : Int) / 10 := IntWalk.i64_in _ yO; have hmd : (n : Int).tmod 10 = (n : Int) % 10 := Int.tmod_eq_emod_of_nonneg yO; have had : IntKind.i64.wrap (48 + (n : Int) % 10) = 48 + (n : Int) % 10 := IntWalk.i64_in _ yO; have hu8 : IntKind.u8.wrap (48 + (n : Int) % 10) = 48 + (n : Int) % 10 := IntWalk.u8_in _ yO; clear ih ih' hd hq ihA hD hlen; go_enter Tryz.func34, Tryz.ntmps34
     go_wp2_with fail
     go_region_law (go_simp; go_at_call 34; first | (with_reducible refine (IhA.o _ _).mono ?_; rintro e w2 ⟨rfl, hb2, hq⟩; have hq' : w2.cell? ⟨w.heap.size, 0, none⟩ = _ := hq) | (with_reducible refine (Ih.o _).mono ?_; rintro e w2 ⟨rfl, hb2⟩))
     all_goals
      go_wp2_with fail
      go_ret
      refine ⟨?_, ?_⟩
      · show Ending.returned (Value.string ((⟨D.toArray⟩ : ByteArray) ++ ⟨[q].toArray⟩)) = _
        rw [Hd.o, zdz]
      · first
        | (have hB := (Below.drew (Below.refl w.heap.size w)).trans hb2
           have hs := hB.size
           exact (have yx := hB; yb))
        | (have hA := Below.drew ((Below.refl w.heap.size w).alloc yL (Obj.cells #[Value.int .u8 (48 + (n : Int) % 10)] 5))
           have hB := hA.trans (hb2.mono hA.size); have hs := hB.size
           exact (have yx := hB; yb))
def ze1 (n : Nat) : List UInt8 := if h : n < 2 then [UInt8.ofNat (48 + n)] else ze1 (n / 2) ++ [UInt8.ofNat (48 + n % 2)]
termination_by n
decreasing_by omega
theorem zd2 {n : Nat} (h : n < 2) : ze1 n = [UInt8.ofNat (48 + n)] := by rw [ze1, dif_pos h]
theorem zd3 {n : Nat} (h : ¬ n < 2) : ze1 n = ze1 (n / 2) ++ [UInt8.ofNat (48 + n % 2)] := by rw [ze1, dif_neg h]
def zfc : List Int := [0, 1, 56, 2, 57, 49, 28, 3, 61, 58, 42, 50, 38, 29, 17, 4, 62, 47, 59, 36, 45, 43, 51, 22, 53, 39, 33, 30, 24, 18, 12, 5, 63, 55, 48, 27, 60, 41, 37, 16, 46, 35, 44, 21, 52, 32, 23, 11, 54, 26, 40, 15, 34, 20, 31, 10, 25, 14, 19, 9, 13, 8, 7, 6]
theorem zpD (w : World) (htab : Lib.TabIs Tryz.prog w "math/bits.deBruijn64tab" .u8 zfc) :
  Calls Tryz.prog 177 #[.int .u64 2] w fun e w' => e = .returned (.int .i64 1) /\ w = w' := by
 have hc0 := htab.cell (g := 7) yk 1 (by decide); have hc : w.cell? ⟨7, 1, none⟩ = some (.int .u8 1) := hc0; clear hc0; have e1 : IntKind.u64.wrap (-2) = 18446744073709551614 := by decide
 have e2 : bits BinOp.and IntKind.u64 2 18446744073709551614 = 2 := by decide
 have e3 : IntKind.u64.wrap (2 * 285870213051353865) = 571740426102707730 := by decide
 clear htab; go_enter Tryz.func177, Tryz.ntmps177
 go_wp2
 go_ret
 exact ⟨rfl, rfl⟩
theorem zn0 (w : World) : Calls Tryz.prog 176 #[.int .i64 2] w fun e w' => e = .returned (.bool true) /\ w = w' := by
 have e2 : bits BinOp.and IntKind.i64 2 1 = 0 := by decide
 go_enter Tryz.func176, Tryz.ntmps176
 go_wp2
 go_ret
 exact ⟨rfl, rfl⟩
theorem zpE (L : List UInt8) (b p n c : Nat) (W : World) (hn : n = L.length) (h : ∀ t (ht : t < L.length), W.cell? ⟨b, p + t, none⟩ = some (.int .u8 (L[t].toNat : Int))) :
  (convert 22 9 (.slice (some ⟨b, p, none⟩) n c)).run Tryz.prog W = .ok (.string ⟨L.toArray⟩) W := by
 subst hn
 exact run_convert_bytes_back (P := Tryz.prog) W 22 9 5 ⟨b, p, none⟩ c L Tryz.underlying22 Tryz.underlying5 Tryz.underlying9 (fun j hj => by
  have e : (⟨b, p, none⟩ : Addr).add j = ⟨b, p + j, none⟩ := by unfold Addr.add; split <;> simp_all
  rw [e]; exact h j hj)
theorem zhy (n : Nat) (hn : n < 1152921504606846976) (w : World) (htab : Lib.TabIs Tryz.prog w "math/bits.deBruijn64tab" .u8 zfc) :
  Calls Tryz.prog 154 #[.slice none 0 0, .int .u64 n, .int .i64 2, .bool false, .bool false] w fun e w' => e = .returned (.tuple #[.slice none 0 0, .string ⟨(ze1 n).toArray⟩]) /\ Below w.heap.size w w' := by
 have HT := yq htab; clear htab; go_enter Tryz.func154, Tryz.ntmps154
 go_wp2_with fail
 refine (zn0 _).mono ?_
 rintro e w' ⟨rfl, rfl⟩; go_wp2_with fail
 refine (zpD _ (zdN HT.o ((Below.refl _ _).alloc yL _))).mono ?_
 rintro e w' ⟨rfl, rfl⟩; go_wp2_with fail
 go_loopw [1, 13] (fun u i wr => ∃ (m : Nat) (S : List UInt8) (arr : Array Value), u = .int .u64 m /\ i = .int .i64 (65 - (S.length : Int)) /\ m < 2 ^ (60 - S.length) /\ S.length <= 60 /\ yh (ze1 n = ze1 m ++ S) /\ arr.size = 65 /\ yh (∀ t (h : t < S.length), arr[65 - S.length + t]? = some (.int .u8 (S[t].toNat : Int))) /\ wr = w.alloc (.cells arr 212)) (fun u _ _ => (intOf u).toNat)
 case atStart => exact ⟨n, [], Tryz.zeroCells212, rfl, rfl, hn, by simp, by simp [yh], by kernel_rfl, fun t h => absurd h yS, rfl⟩
 case round =>
  obtain ⟨m, S, arr, rfl, rfl, hm, hS, hbin, hsz, harr, rfl⟩ := hrel; by_cases c : 2 <= m
  · have c' : (2 : Int) <= m := by omega
    have hS58 : S.length <= 58 := by
     rcases Nat.lt_or_ge S.length 59 with h | h
     · omega
     · have : 60 - S.length <= 1 := by omega
       have := Nat.pow_le_pow_right (show 0 < 2 by omega) this; omega
    obtain ⟨p, hp⟩ : ∃ p : Nat, 65 - (S.length : Int) - 1 = (p : Int) := ⟨64 - S.length, by omega⟩
    have hwi : IntKind.i64.wrap (65 - (S.length : Int) - 1) = (p : Int) := by rw [hp]; exact IntWalk.i64_in _ yO
    have hp65 : p < 65 := by omega
    have hpa : p < arr.size := by omega
    have hpi : (p : Int) < 65 := by omega
    have HP := yq hp; obtain ⟨d, hd⟩ : ∃ d : Nat, m % 2 = d := ⟨_, rfl⟩
    have hd2 : d = 0 \/ d = 1 := by omega
    have hand : bits BinOp.and IntKind.u64 (m : Int) 1 = (d : Int) := by rw [and_one_u64 _ yO (by have := Nat.pow_le_pow_right (show 0 < 2 by omega) (show 60 - S.length <= 60 by omega); omega)]; omega
    have Hd := yq hd; clear hp hd
    have hmp : m < 2 ^ (60 - S.length - 1) * 2 := by
     have e : 60 - S.length = (60 - S.length - 1) + 1 := by omega
     rw [e, Nat.pow_succ] at hm; exact hm
    have Hmp := yq hmp; have Hsz := yq hsz; have HS58 := yq hS58; clear hmp hm; rcases hd2 with rfl | rfl
    all_goals
     go_wp2_with fail
     have hp' := HP.o; have hL := HS58.o; have hz := Hsz.o; refine ⟨⟨m / 2, UInt8.ofNat (48 + m % 2) :: S, arr.setIfInBounds p (.int .u8 ((UInt8.ofNat (48 + m % 2)).toNat : Int)), ?_, ?_, ?_, ?_, ?_, ?_, ?_, ?_⟩, ?_⟩
     · rw [show ((m / 2 : Nat) : Int) = (m : Int) / 2 by omega]
     · simp only [List.length_cons]; congr 1; omega
     · have := Hmp.o
       simp only [List.length_cons]
       rw [show 60 - (S.length + 1) = 60 - S.length - 1 by omega]; omega
     · simp only [List.length_cons]; omega
     · show ze1 n = _
       rw [hbin.o, zd3 (show ¬ m < 2 by omega)]; simp
     · simp [hz]
     · intro t ht
       simp only [List.length_cons] at ht |-
       cases t with
       | zero =>
         rw [show 65 - (S.length + 1) + 0 = p by omega, Array.getElem?_setIfInBounds_self_of_lt yO]
         simp
       | succ t =>
         rw [show 65 - (S.length + 1) + (t + 1) = 65 - S.length + t by omega, Array.getElem?_setIfInBounds_ne yO, harr.o t yO]
         simp
     · rw [Hd.o]; rfl
     · simp [intOf]; omega
  · have hbm : ze1 m = [UInt8.ofNat (48 + m)] := zd2 yO
    have c' : ¬ ((2 : Int) <= m) := by omega
    obtain ⟨p, hp⟩ : ∃ p : Nat, 65 - (S.length : Int) - 1 = (p : Int) := ⟨64 - S.length, by omega⟩
    have hwi : IntKind.i64.wrap (65 - (S.length : Int) - 1) = (p : Int) := by rw [hp]; exact IntWalk.i64_in _ yO
    have hp65 : p < 65 := by omega
    have hp65' : p <= 65 := by omega
    have hpa : p < arr.size := by omega
    have hpi : (p : Int) < 65 := by omega
    have hpi' : (p : Int) <= 65 := by omega
    have HP := yq hp; have Hsz := yq hsz; have Hbm := yq hbm; have hm2 : m = 0 \/ m = 1 := by omega
    clear hp hm hbm; rcases hm2 with rfl | rfl
    all_goals
     go_wp2_with fail
     have hp' := HP.o; have hz := Hsz.o
    · rw [zpE (UInt8.ofNat (48 + 0) :: S) w.heap.size p _ _ _ (by simp only [List.length_cons]; omega) ?_]
      · go_wp2_with fail
        go_ret2
        refine ⟨?_, yb⟩
        rw [hbin.o, Hbm.o]; rfl
      · intro t ht
        simp only [List.length_cons] at ht
        rw [World.cell?_alloc_mark]
        cases t with
        | zero => exact Array.getElem?_setIfInBounds_self_of_lt yO
        | succ t => rw [Array.getElem?_setIfInBounds_ne yO, show p + (t + 1) = 65 - S.length + t by omega, harr.o t yO]; rfl
    · rw [zpE (UInt8.ofNat (48 + 1) :: S) w.heap.size p _ _ _ (by simp only [List.length_cons]; omega) ?_]
      · go_wp2_with fail
        go_ret2
        refine ⟨?_, yb⟩
        rw [hbin.o, Hbm.o]; rfl
      · intro t ht
        simp only [List.length_cons] at ht
        rw [World.cell?_alloc_mark]
        cases t with
        | zero => exact Array.getElem?_setIfInBounds_self_of_lt yO
        | succ t => rw [Array.getElem?_setIfInBounds_ne yO, show p + (t + 1) = 65 - S.length + t by omega, harr.o t yO]; rfl
theorem zhz (n : Nat) (hn : n < 1152921504606846976) (w : World) (htab : Lib.TabIs Tryz.prog w "math/bits.deBruijn64tab" .u8 zfc) :
  Calls Tryz.prog 122 #[.int .i64 n, .int .i64 2] w fun e w' => e = .returned (.string ⟨(ze1 n).toArray⟩) /\ Below w.heap.size w w' := by
 have HT := yq htab; have hw : IntKind.u64.wrap (n : Int) = (n : Int) := IntWalk.u64_in _ yO; have h0 : ¬ ((n : Int) < 0) := by omega
 clear htab; go_enter Tryz.func122, Tryz.ntmps122
 go_wp2_with fail
 refine (zhy n hn _ HT.o).mono ?_
 rintro e w1 ⟨rfl, hb1⟩; go_wp2_with fail
 go_ret
 exact ⟨rfl, hb1⟩
theorem zit (n : Nat) (hn : n < 1152921504606846976) (w : World) (htab : Lib.TabIs Tryz.prog w "math/bits.deBruijn64tab" .u8 zfc) :
  Calls Tryz.prog 78 #[.int .i64 n, .int .i64 2] w fun e w' => e = .returned (.string ⟨(ze1 n).toArray⟩) /\ Below w.heap.size w w' := by
 have HT := yq htab; clear htab; go_enter Tryz.func78, Tryz.ntmps78
 go_wp2_with fail
 refine (zhz n hn _ HT.o).mono ?_
 rintro e w1 ⟨rfl, hb1⟩; go_wp2_with fail
 go_ret
 exact ⟨rfl, hb1⟩
end Go.Proofs.YtejgbfgocaggfaaGreatDoor
