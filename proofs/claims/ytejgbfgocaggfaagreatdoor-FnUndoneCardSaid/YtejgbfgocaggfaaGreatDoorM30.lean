import Derived.Test.YtejgbfgocaggfaaGreatDoorM29
import Derived.Below
import Derived.ChangeSame
import Derived.Lib.SmallJoins
import Derived.Carry
import Derived.WideKeyArgs
import Derived.OpenShut
import Derived.Deep.Slices
import Derived.Deep.Fields
import Derived.SevenTiedAt
set_option maxRecDepth 100000
set_option maxHeartbeats 8000000
namespace Go.Proofs.YtejgbfgocaggfaaGreatDoor
open Go.RowKit
theorem znE (g c k L : Nat) (A : Option Addr) (n m : Nat) (w : World) (hL : L = k + 1) (h : w.cell? ⟨g, k, none⟩ = some (.slice A n m)) (hlt : g < w.heap.size) (hk : k <= 1048576) :
  Calls Tryz.prog 29 #[.slice (some ⟨g, 0, none⟩) L c] w fun e w' => e = .returned (.agg #[.slice A n m]) /\ Below w.heap.size w w' := by
 have hw : IntKind.i64.wrap ((L : Int) - 1) = (k : Int) := by rw [IntWalk.i64_in _ yO]; omega
 have hi : (k : Int) < (L : Int) := by omega
 clear hL; go_enter Tryz.func29, Tryz.ntmps29
 go_wp2_with fail
 exact bodyPost_ret (v := .agg #[.slice A n m]) (by simp [results, Tryz.results29, go_sem]) rfl ⟨rfl, yb⟩
theorem zcC {wr W : World} {x : Nat} {t : TypeId} {c0 c1 c2 c3 c4 c5 : Value} (hx : Blk wr x #[c0, c1, c2, c3, c4, c5] t) (h : Below wr.heap.size wr W) :
  Below wr.heap.size wr W /\ W.cell? ⟨x, 0, none⟩ = some c0 /\ W.cell? ⟨x, 1, none⟩ = some c1 /\ W.cell? ⟨x, 2, none⟩ = some c2 /\ W.cell? ⟨x, 3, none⟩ = some c3 /\ W.cell? ⟨x, 4, none⟩ = some c4 /\ W.cell? ⟨x, 5, none⟩ = some c5 := by
 have h2 := hx.up h; exact ⟨h, h2.cell rfl, h2.cell rfl, h2.cell rfl, h2.cell rfl, h2.cell rfl, h2.cell rfl⟩
theorem zoL {wr W : World} {p : Addr} {u vR : Value} {E o : Nat} {e : zam} (h1 : C1 wr p u) (h2 : EC wr E o e vR) (h : Below wr.heap.size wr W) :
  Below wr.heap.size wr W /\ W.cell? p = some u /\ W.cell? ⟨E, o, none⟩ = some (.int .i64 e.kind) /\ W.cell? ⟨E, o + 1, none⟩ = some (.int .i64 e.i) /\ W.cell? ⟨E, o + 2, none⟩ = some (.int .i64 e.j) /\ W.cell? ⟨E, o + 3, none⟩ = some (.int .i64 e.k) /\ W.cell? ⟨E, o + 4, none⟩ = some vR /\ W.cell? ⟨E, o + 5, none⟩ = some (.string e.map) := by
 have k := h2.up h; exact ⟨h, (h1.up h).c, k.c0, k.c1, k.c2, k.c3, k.c4, k.c5⟩
theorem zhM (vG vE : Value) (xs : List zaa) (es : List zam) (count : Int) (w : World) (hG : Sl zar w w.heap.size vG xs) (hE : Sl zdB w w.heap.size vE es) (hn : xs.length <= 1048576) (hs : ∀ e ∈ es, e.part.length <= 1048576 /\ e.map.size <= maxLen) (htab : Lib.TabIs Tryz.prog w "math/bits.deBruijn64tab" .u8 zfc) :
  Calls Tryz.prog 9 #[.agg #[vG], vE, .int .i64 count] w (zcv (zdj xs es count) (zbE xs es count) w) := by
 have HG := yq hG; have HE := yq hE; have HS := yq hs; obtain ⟨AG, cG, rfl, _⟩ := hG; obtain ⟨AE, cE, rfl, hcE, hmE, _⟩ := hE; unfold maxLen at hmE; have HT := yq htab; clear hs htab; have b1 := (Below.refl w.heap.size w).alloc yL (Obj.cells #[.slice AG xs.length cG] 26); have KP := Blk.new w #[.slice AG xs.length cG] 26; go_enter Tryz.func9, Tryz.ntmps9
 go_upto_region 1 with fail
 generalize (w.alloc (Obj.cells #[.slice AG xs.length cG] 26)) = w0 at *; have KB := yq b1; clear b1; have cP0_1 := Blk.cell (i := 0) (v := .slice AG xs.length cG) KP rfl; have lP_2 := Blk.lt KP; go_wp2_with fail
 refine (zbG _ xs _ (HG.o.up KB.o) yO).mono ?_
 rintro e w1 ⟨rfl, hb_3⟩; have z_w1 : w0.heap.size <= w1.heap.size := hb_3.size; have KB_4 := yq (Below.tr KB.o hb_3); have KP_5 := Blk.up KP hb_3; clear cP0_1 lP_2 KB KP; cases hg : zag xs with
 | false =>
   have HQ := yq (zdC (xs := xs) (es := es) (count := count) (c := 1) (by simp [zbE, hg]) (by decide)); clear hg; go_wp2_with fail
   refine bodyPost_ret (v := .tuple #[.slice none 0 0, .int .i64 1]) (by simp [results, Tryz.results9, go_sem]) rfl ?_
   rw [HQ.o.1, HQ.o.2]; exact zcv.mk1 (lo := w1.heap.size) KB_4.o (zbl yL) (Below.size KB_4.o)
 | true =>
   have HGG := yq hg; clear hg; go_wp2_with fail
   refine (zgo _ es _ (HE.o.up KB_4.o) HS.o).mono ?_
   rintro e w2 ⟨rfl, hb_6⟩; have z_w2 : w1.heap.size <= w2.heap.size := hb_6.size; have KB_7 := yq (Below.tr KB_4.o hb_6); have KP_8 := Blk.up KP_5 hb_6; clear hb_3 KB_4 KP_5; cases ha : es.all zat with
   | false =>
     have HQ := yq (zdC (xs := xs) (es := es) (count := count) (c := 1) (by simp [zbE, ha]) (by decide)); clear ha; go_wp2_with fail
     refine bodyPost_ret (v := .tuple #[.slice none 0 0, .int .i64 1]) (by simp [results, Tryz.results9, go_sem]) rfl ?_
     rw [HQ.o.1, HQ.o.2]; exact zcv.mk1 (lo := w2.heap.size) KB_7.o (zbl yL) (Below.size KB_7.o)
   | true =>
     have HAA := yq ha; clear ha; by_cases hl : 60 < es.length
     · have HQ := yq (zdC (xs := xs) (es := es) (count := count) (c := 2) (by unfold zbE; rw [HGG.o, HAA.o, if_pos yR, if_pos (Or.inl hl)]) (by decide))
       have hli : (60 : Int) < (es.length : Int) := by omega
       go_wp2_with fail
       refine bodyPost_ret (v := .tuple #[.slice none 0 0, .int .i64 2]) (by simp [results, Tryz.results9, go_sem]) rfl ?_
       rw [HQ.o.1, HQ.o.2]; exact zcv.mk1 (lo := w2.heap.size) KB_7.o (zbl yL) (Below.size KB_7.o)
     · have hli : ¬ (60 : Int) < (es.length : Int) := by omega
       have HIN := yq (fun (W : World) => zdE count 0 (es.length : Int) W); by_cases hcn : 0 <= count /\ count <= (es.length : Int)
       · have hd : (decide (0 <= count) && decide (count <= (es.length : Int))) = true := by simp [hcn]
         have HCN := yq hcn; have HL := yq hl; clear hcn hl; go_wp2_with fail
         refine (HIN.o _).mono ?_
         rintro r wz ⟨rfl, rfl⟩; rw [hd]; clear hd; have hsz := Below.size KB_7.o; have KOG := yq (zk8 (lo := w.heap.size) rfl hsz (HG.o.up KB_7.o)); have KBZ := yq (Below.alloc KB_7.o hsz (Obj.cells #[.slice AG xs.length cG] 26)); have cP0_9 := Blk.cell (i := 0) (v := .slice AG xs.length cG) KP_8 rfl; have lP_10 := Blk.lt KP_8; go_wp2_with fail
         go_loopw [8, 41] (fun st i wx => ∃ (k : Nat) (gs : List (List zaa)) (g c : Nat), k <= es.length /\ i = .int .i64 k /\ st = .slice (some ⟨g, 0, none⟩) gs.length c /\ yh (zbg xs (es.take k) = some gs) /\ yh (gs.length = k + 1) /\ yh (znJ wx w.heap.size (.slice (some ⟨g, 0, none⟩) gs.length c) gs) /\ yh (Below w.heap.size w wx)) (fun _ i _ => es.length - (intOf i).toNat)
         case atStart => exact ⟨0, [xs], _, _, Nat.zero_le _, rfl, rfl, yq rfl, yq rfl, KOG, KBZ⟩
         case round =>
          obtain ⟨k, gs, g, c, hk, rfl, rfl, HF, HGL, HOG, HB⟩ := hrel; by_cases hlt : k < es.length
          · obtain ⟨_, _, hAE, _, _, hrow⟩ := HE.o.up HB.o
            injection hAE with hA1 hA2 hA3; subst hA1 hA3; obtain ⟨b, o, rfl, hbl, hcell⟩ := hrow.edit (fun _ h => h) hlt; obtain ⟨e, he⟩ : ∃ e, es[k]? = some e := ⟨_, ye hlt⟩
            obtain ⟨vR, hec, hR⟩ := hcell k e he; have heok := List.all_eq_true.1 HAA.o e (List.mem_of_getElem? he); have hse := HS.o e (List.mem_of_getElem? he); obtain ⟨x, hx⟩ : ∃ x, gs[k]? = some x := ⟨_, ye (by have := HGL.o; omega)⟩
            have hxo := zdS HGG.o HF.o x (List.mem_of_getElem? hx); have htop := zhr HGL.o hx; obtain ⟨g', c', u, hv, hg1, hg2, hg3, hg4, hcu, hsu⟩ := HOG.o.at_ hx; injection hv with hv1 hv2 hv3; injection hv1 with hv1; injection hv1 with hv1; subst hv1 hv3; have HFT := yq (zeG (xs := xs) he); rw [HF.o] at HFT; have HTP := yq htop; have HEC := yq hec; have HRR := yq hR; have HEO := yq heok; have HXO := yq hxo; have HCU := yq (show C1 wr ⟨g, k, none⟩ u from ⟨hcu, hg2⟩); have HSU := yq hsu; have hbz := HB.o.size; have hi : (k : Int) < (es.length : Int) := by omega
            have hk1 : (k : Int) < (gs.length : Int) := by have := HGL.o; omega
            unfold maxLen at hg4; clear hcell he hec hR heok hx hxo htop hcu hsu; obtain ⟨AR, cR, rfl, _⟩ := HRR.o; obtain ⟨AU, cU, rfl, _⟩ := HSU.o; have hx4 := zax HXO.o; obtain ⟨x0, x1, x2, x3, x4, x5, xl⟩ := HEC.o; go_upto_region 9 with fail
            clear x0 x1 x2 x3 x4 x5 xl; have hbq := (Below.refl wr.heap.size wr).alloc yL (Obj.cells #[.int .i64 e.kind, .int .i64 e.i, .int .i64 e.j, .int .i64 e.k, .slice AR e.part.length cR, .string e.map] 37); have KEB := Blk.new wr #[.int .i64 e.kind, .int .i64 e.i, .int .i64 e.j, .int .i64 e.k, .slice AR e.part.length cR, .string e.map] 37; generalize (wr.alloc (Obj.cells #[.int .i64 e.kind, .int .i64 e.i, .int .i64 e.j, .int .i64 e.k, .slice AR e.part.length cR, .string e.map] 37)) = wq at *
            replace HCU := yq (HCU.o.up hbq)
            replace HSU := yq (HSU.o.up hbq)
            replace HRR := yq (HRR.o.up hbq)
            replace HOG := yq (HOG.o.up hbq)
            replace HB := yq (Below.tr HB.o hbq)
            have hbz2 := hbq.size; have HKE := yq KEB; clear hbq KEB; go_cut [11, 12] (fun p q wx => ∃ (Z : Nat) (A9 : Option Addr) (c9 : Nat), p = .pointer (some ⟨Z, 0, none⟩) /\ q = .int .i64 (zah x e) /\ wq.heap.size <= Z /\ Below wq.heap.size wq wx /\ Blk wx Z #[.slice A9 (zak x e).length c9] 26 /\ zac wx wq.heap.size (.slice A9 (zak x e).length c9) (zak x e))
            case first =>
             have B0 := Below.drew (Below.refl wq.heap.size wq); have BA := yq (fun (o : Obj) => Below.drew (Below.alloc (Below.refl wq.heap.size wq) yL o)); have lKE := Blk.lt HKE.o
             go_region_held3 (fun w' => Below wq.heap.size wq w' /\ w'.cell? ⟨wr.heap.size, 0, none⟩ = some (.int .i64 e.kind) /\ w'.cell? ⟨wr.heap.size, 1, none⟩ = some (.int .i64 e.i) /\ w'.cell? ⟨wr.heap.size, 2, none⟩ = some (.int .i64 e.j) /\ w'.cell? ⟨wr.heap.size, 3, none⟩ = some (.int .i64 e.k) /\ w'.cell? ⟨wr.heap.size, 4, none⟩ = some (.slice AR e.part.length cR) /\ w'.cell? ⟨wr.heap.size, 5, none⟩ = some (.string e.map))
              (first | (with_reducible exact zcC HKE.o B0) | (with_reducible exact zcC HKE.o (BA.o _)) | (with_reducible exact zcC HKE.o bt) | (with_reducible exact zcC HKE.o (bt.alloc zt _)) | (with_reducible exact zcC HKE.o b1) | (with_reducible exact zcC HKE.o (b1.alloc z1 _)) | (with_reducible exact zcC HKE.o ((b1.alloc z1 _).setCell z1 _)) | (with_reducible exact zcC HKE.o (b1.setCell yL _)) | (with_reducible exact zcC HKE.o (b1.setCell zt _)))
              (first
                | (go_at_call 29; (refine (znE g c k gs.length AU x.length cU _ HGL.o (HCU.o.up yb).c (HCU.o.up yb).lt yO).mono ?_); rintro r ut ⟨rfl, hbt'⟩; have bt : Below wq.heap.size wq ut := (by first | exact Below.undrew hbt' | exact (Below.unalloc (Below.undrew hbt')).1); have zt := bt.size; (try (have KZ : Blk ut wq.heap.size #[.slice none 0 0] 26 := (Below.unalloc (Below.undrew hbt')).2; have lt1 := Blk.lt KZ)))
                | (go_at_call 28; (refine (zd5 _ _ x e _ (HSU.o.up (have yx := bt; yb)) ⟨_, rfl, HRR.o.up (have yx := bt; yb)⟩ yO hse.1 hse.2 (zi0 HT.o (have yx := Below.tr HB.o bt; yb))).mono ?_); rintro r u1 ⟨hb1, v1, own1, rfl⟩; obtain ⟨A9, c9, rfl, _⟩ := zae own1; have c1 : Below ut.heap.size ut u1 := (by first | exact hb1 | exact (Below.unalloc hb1).1); have b1 := Below.tr bt c1; have z1 := b1.size; have y1 := c1.size; (first | (have KZ := Blk.up KZ c1) | (have KZ : Blk u1 ut.heap.size #[.slice none 0 0] 26 := (Below.unalloc hb1).2) | skip); (try (have l1 := Blk.lt KZ; have kz := Blk.cell (i := 0) (v := .slice none 0 0) KZ rfl; have fz := Blk.frozen KZ 0))))
             all_goals
              go_wp2_with fail
              go_meet
              have own5 : zac u1 wq.heap.size _ _ := zad own1 (base' := wq.heap.size) (by first | omega | (simp; omega) | simp)
              first
               | exact ⟨u1.heap.size, A9, c9, rfl, rfl, z1, b1.alloc z1 _, Blk.new _ _ _, World.ownsRow.alloc own5 _⟩
               | exact ⟨ut.heap.size, A9, c9, rfl, rfl, zt, b1.setCell (show wq.heap.size <= (⟨ut.heap.size, 0, none⟩ : Addr).block from zt) _, KZ.set 0 _, zad (ownsRow_setCell_below own1 (a := ⟨ut.heap.size, 0, none⟩) (by first | (show _ < _; omega) | (simp; done) | (simp; omega)) _) (by first | omega | (simp; omega) | simp)⟩
               | exact ⟨wq.heap.size, A9, c9, rfl, rfl, Nat.le_refl _, b1.setCell (show wq.heap.size <= (⟨wq.heap.size, 0, none⟩ : Addr).block from Nat.le_refl _) _, KZ.set 0 _, zad (ownsRow_setCell_below own1 (a := ⟨wq.heap.size, 0, none⟩) (by first | (show _ < _; omega) | (simp; done) | (simp; omega)) _) (by first | omega | (simp; omega) | simp)⟩
            case rest =>
             obtain ⟨Z, A4, c4, rfl, rfl, hZl, hbR, KZ, own4⟩ := hcut; have HOG4 := yq (HOG.o.up hbR); have HB4 := yq (Below.tr HB.o hbR); have HO4 := yq own4; have z4 := hbR.size; have lZ := Blk.lt KZ; have kz := Blk.cell (i := 0) (v := .slice A4 (zak x e).length c4) KZ rfl; clear own4 hbR HOG KZ; revert HOG4 HB4 HO4 z4 lZ kz; generalize wc = w4; intro HOG4 HB4 HO4 z4 lZ kz; by_cases hc : zah x e = 0
             · have HFT2 := yq (show zbg xs (es.take (k + 1)) = some (gs ++ [zak x e]) by rw [HFT.o, zcr (by rw [HTP.o]; exact hc), HTP.o])
               rw [hc]; clear hc; have HGL2 := yq (show (gs ++ [zak x e]).length = k + 1 + 1 by simp [HGL.o]); have HSF := yq (zoK (A := some ⟨g, 0, none⟩) (n := gs.length) (c := c) HO4.o (fun g' hg' => by simp [Value.ownBlock] at hg'; omega)); have hkl : k <= 60 := by have := HL.o; omega
               go_wp2_with (first | (at_builtin; refine zns (W := w4) (N := w4.heap.size) (u := .slice A4 (zak x e).length c4) (y := zak x e) (lo := w.heap.size) (v := .slice (some ⟨g, 0, none⟩) gs.length c) (gs := gs) rfl _ _ rfl rfl rfl rfl HOG4.o (by have := HGL.o; omega) yO (zac.sl HO4.o) HSF.o ?_; intro g5 c5 w5 own5 hg5 hgr5 hb5))
               go_roundw
               case rel => exact ⟨k + 1, gs ++ [zak x e], g5, c5, by omega, by go_num, by simp, HFT2, HGL2, yq (by rw [List.length_append]; exact own5), yq (HB4.o.trans hb5)⟩
               case measure => simp [intOf]; omega
             · have HFT2 := yq (zeH (es := es) (k := k + 1) (show zbg xs (es.take (k + 1)) = none by rw [HFT.o, zcP (by rw [HTP.o]; exact hc)]))
               have hcb : (zah x e != 0) = true := by simp [hc]
               have HQ := yq (zlc (count := count) HGG.o HAA.o HL.o HCN.o.1 HCN.o.2 HFT2.o); go_wp2_with fail
               refine bodyPost_ret (v := .tuple #[.slice none 0 0, .int .i64 4]) (by simp [results, Tryz.results9, go_sem]) rfl ?_
               rw [HQ.o.1, HQ.o.2]; exact zcv.mk1 (lo := w4.heap.size) HB4.o (zbl yL) (Below.size HB4.o)
          · have hkn : k = es.length := by omega
            subst hkn; rw [List.take_length] at HF; have HUS := yq (znC (count := count) HGG.o HAA.o HL.o HCN.o.1 HCN.o.2 HF.o); have HAT := yq (zia HF.o); have HXO := yq (zdS HGG.o HF.o); obtain ⟨wo, rfl⟩ : ∃ wo : World, wo = wr := ⟨_, rfl⟩
            have hbz := HB.o.size; have KE := yq (zch (W := wo) (lo := wo.heap.size) rfl yL); have bo := (Below.refl wo.heap.size wo).alloc yL (Obj.cells #[] 37); have HBO := yq bo; clear bo; obtain ⟨c0, c1⟩ := HCN.o; have HCN2 := HCN; clear HCN; have wle : IntKind.i64.wrap ((es.length : Int) - 1) = (es.length : Int) - 1 := IntWalk.i64_in _ yO; go_wp2_with fail
            go_loopw [13, 14] (fun ot i wx => ∃ (n m : Nat) (l : List zam) (A : Option Addr) (c hp : Nat), n + m = es.length /\ (n : Int) + count <= es.length /\ i = .int .i64 ((m : Int) - 1) /\ ot = .slice A l.length c /\ yh (zbD gs es n = some l) /\ yh (l.length <= 2 * n) /\ yh (zgD wx wo.heap.size hp (.slice A l.length c) l) /\ yh (wo.heap.size <= hp /\ hp <= wx.heap.size) /\ yh (Below wo.heap.size wo wx)) (fun _ i _ => (intOf i + 1).toNat)
            case atStart => exact ⟨0, es.length, [], _, _, wo.heap.size, by omega, by omega, rfl, rfl, yq rfl, yq yS, KE, yq ⟨Nat.le_refl _, by simp⟩, HBO⟩
            case round =>
             obtain ⟨n, m, l, A, c, hp, hnm, hnc, rfl, rfl, HU, HLL, HOE, HHP, HBX⟩ := hrel; by_cases hcm : count <= (m : Int) - 1
             · obtain ⟨m, rfl⟩ : ∃ m', m = m' + 1 := ⟨m - 1, by omega⟩
               have hm0 : ((m + 1 : Nat) : Int) - 1 = (m : Int) := by omega
               rw [hm0] at hcm |-
               clear hm0; have hlt : m < es.length := by omega
               obtain ⟨_, _, hAE, _, _, hrow⟩ := HE.o.up (HB.o.trans (HBX.o.mono hbz)); injection hAE with hA1 hA2 hA3; subst hA1 hA3; obtain ⟨b, o, rfl, hbl, hcell⟩ := hrow.edit (fun _ h => h) hlt; obtain ⟨e, he⟩ : ∃ e, es[m]? = some e := ⟨_, ye hlt⟩
               obtain ⟨vR, hec, hR⟩ := hcell m e he; have heok := List.all_eq_true.1 HAA.o e (List.mem_of_getElem? he); have hse := HS.o e (List.mem_of_getElem? he); obtain ⟨x, hx⟩ : ∃ x, gs[m]? = some x := ⟨_, ye (by have := HGL.o; omega)⟩
               have hxo := HXO.o x (List.mem_of_getElem? hx); obtain ⟨g', c', u, hv, hg1, hg2, hg3, hg4, hcu, hsu⟩ := (HOG.o.up HBX.o).at_ hx; injection hv with hv1 hv2 hv3; injection hv1 with hv1; injection hv1 with hv1; subst hv1 hv3; have hac := HAT.o m x e hx he; have HAC := yq hac; have HY := yq (fun h => zeI (l := l) hx he h); have HN := yq (fun h => ze8 (l := l) hx he h); have HEC := yq hec; have HRR := yq hR; have HEO := yq heok; have HXO2 := yq hxo; have HCU := yq (show C1 wr ⟨g, m, none⟩ u from ⟨hcu, hg2⟩); have HSU := yq hsu; have hi : (m : Int) < (es.length : Int) := by omega
               have hi2 : (m : Int) < (gs.length : Int) := by have := HGL.o; omega
               have hbx := HBX.o.size; unfold maxLen at hg4; clear hcell he hec hR heok hx hxo hcu hsu hac; go_upto_region 18 with fail
               obtain ⟨AR, cR, rfl, _⟩ := HRR.o; obtain ⟨AU, cU, rfl, _⟩ := HSU.o; have hx4 := zax HXO2.o; have HBT := yq (HB.o.trans (HBX.o.mono hbz)); have B0 := Below.drew (Below.refl wr.heap.size wr); have lC := HCU.o.lt; have lE := HEC.o.lt
               go_region_held3 (fun w' => Below wr.heap.size wr w' /\ w'.cell? ⟨g, m, none⟩ = some (.slice AU x.length cU) /\ w'.cell? ⟨b, o + m * 6, none⟩ = some (.int .i64 e.kind) /\ w'.cell? ⟨b, o + m * 6 + 1, none⟩ = some (.int .i64 e.i) /\ w'.cell? ⟨b, o + m * 6 + 2, none⟩ = some (.int .i64 e.j) /\ w'.cell? ⟨b, o + m * 6 + 3, none⟩ = some (.int .i64 e.k) /\ w'.cell? ⟨b, o + m * 6 + 4, none⟩ = some (.slice AR e.part.length cR) /\ w'.cell? ⟨b, o + m * 6 + 5, none⟩ = some (.string e.map))
                (first | (with_reducible exact zoL HCU.o HEC.o B0) | (with_reducible exact zoL HCU.o HEC.o b6))
                (first | (go_at_call 30; (refine (zhs _ _ x e _ (HSU.o.up yb) ⟨_, rfl, HRR.o.up yb⟩ yO hse.1 hse.2 (zi0 HT.o (have yx := HBT.o; yb))).mono ?_); rintro r w6 ⟨hb6', v6, rfl, own6'⟩; have b6 := Below.undrew hb6'))
               have hb6 := b6; have own6 : zh6 w6 wr.heap.size w6.heap.size v6 (zaJ x e) := own6'; clear b6 hb6' own6' B0; obtain ⟨A6, c6, rfl, _⟩ := zh6.sl own6; have HOE6 := yq (HOE.o.keep hb6 HHP.o.2); have HB6 := yq (HBX.o.trans (hb6.mono hbx)); have HO6 := yq own6; have z6 := hb6.size; have HFR := yq (fun g hg => (HOE.o.lt g hg).2); clear hb6 own6; have hle : es.length - 1 - n = m := by omega
               by_cases hc : zay x e = 0
               · have HU2 := yq (show zbD gs es (n + 1) = some (l ++ zaJ x e) by rw [zca, HU.o, hle]; exact HY.o hc)
                 rw [hc]; clear hc; have hsm2 := (zld x e)
                 have HLL2 := yq (show (l ++ zaJ x e).length <= 2 * (n + 1) by have := HLL.o; rw [List.length_append]; omega); have HSM2 := yq hsm2; clear hsm2 hle; go_wp2_with (first | (at_builtin; refine zgq (W := w6) (lo := wo.heap.size) (hp := hp) (lo2 := wr.heap.size) (hi2 := w6.heap.size) (v := .slice A l.length c) (v2 := .slice A6 (zaJ x e).length c6) (es := l) (es2 := zaJ x e) rfl _ _ rfl rfl rfl HOE6.o HO6.o (by have := HLL.o; have := HSM2.o; omega) yO (by have := HHP.o; omega) HFR.o HHP.o.1 z6 yL ?_; intro A7 c7 w7 own7 hg7 hgr7 hb7))
                 rw [<- List.length_append] at own7 |-
                 have hw7 := hgr7.size; go_roundw
                 case rel => exact ⟨n + 1, m, l ++ zaJ x e, A7, c7, w6.heap.size, by omega, by omega, by go_num, rfl, HU2, HLL2, yq own7, yq ⟨by omega, hw7⟩, yq (HB6.o.trans hb7)⟩
                 case measure => first | (simp [intOf]; done) | (simp [intOf]; omega)
               · have hc3 : zay x e = 3 := by rcases zh9 HAC.o with h | h; exact absurd h hc; exact h
                 have HU2 := yq (HUS.o.2 (zgp (k := n + 1) (by rw [zca, HU.o, hle]; exact HN.o hc) _ yO)); have hcb : (zay x e != 0) = true := by simp [hc]
                 go_wp2_with fail
                 refine bodyPost_ret (v := .tuple #[.slice none 0 0, .int .i64 (zay x e)]) (by simp [results, Tryz.results9, go_sem]) rfl ?_
                 rw [HU2.o.1, HU2.o.2, hc3]; have HB7 : Below w.heap.size w w6 := HB.o.trans (HB6.o.mono hbz); exact zcv.mk1 (lo := w6.heap.size) HB7 (zbl yL) HB7.size
             · have hnn : es.length - count.toNat = n := by omega
               have HQ := yq (HUS.o.1 l (by rw [hnn]; exact HU.o)); clear hnn; go_wp2_with fail
               refine bodyPost_ret (v := .tuple #[.slice A l.length c, .int .i64 0]) (by simp [results, Tryz.results9, go_sem]) rfl ?_
               rw [HQ.o.1, HQ.o.2]; exact zcv.mk1 (lo := wo.heap.size) (HB.o.trans (HBX.o.mono hbz)) (HOE.o.oeds HHP.o.2) hbz
       · have hd : (decide (0 <= count) && decide (count <= (es.length : Int))) = false := by rw [<- Bool.not_eq_true]; simp; omega
         have HQ := yq (zdC (xs := xs) (es := es) (count := count) (c := 2) (by unfold zbE; rw [HGG.o, HAA.o, if_pos yR, if_pos yO]) (by decide)); clear hcn; go_wp2_with fail
         refine (HIN.o _).mono ?_
         rintro r wz ⟨rfl, rfl⟩; rw [hd]; go_wp2_with fail
         refine bodyPost_ret (v := .tuple #[.slice none 0 0, .int .i64 2]) (by simp [results, Tryz.results9, go_sem]) rfl ?_
         rw [HQ.o.1, HQ.o.2]; exact zcv.mk1 (lo := w2.heap.size) KB_7.o (zbl yL) (Below.size KB_7.o)
theorem SlS.take {α : Type} {E : Enc α} {w : World} {S : Nat -> Prop} {A : Option Addr} {c n : Nat} {xs : List α} (h : SlS E w S (.slice A xs.length c) xs) (hn : n <= xs.length) : SlS E w S (.slice A n c) (xs.take n) := by
 obtain ⟨A', c', e, h1, h0, h2⟩ := h; injection e with e1 _ e3; subst e1 e3; have el : (xs.take n).length = n := by rw [List.length_take]; omega
 refine ⟨A, c, by rw [el], by omega, h0, ?_⟩
 intro hp; obtain ⟨b, o, rfl, hb, hc⟩ := h2 yO; refine ⟨b, o, rfl, hb, fun k x hk => hc k x ?_⟩
 rw [List.getElem?_take] at hk
 split at hk
 · exact hk
 · cases hk
theorem zjN {e : zam} (h : zat e = true) : e.map.size <= 4 := by
 unfold zat at h; simp only [Bool.and_eq_true] at h
 have := h.2; split at this
 · simp only [Bool.and_eq_true, beq_iff_eq] at this; omega
 · simp only [beq_iff_eq] at this; omega
theorem zpX {e : zam} (h : zat e = true) (h5 : zaF e.part <= 5) : etV e ≠ [] := by
 obtain ⟨hk, hi, hj, hq, hij, hj0, hgp⟩ := zcI h; obtain ⟨_, lp, hlp⟩ := zai hgp; have hpl : zaF e.part = (zau e.part).length := by rw [zaD hlp, zbf hlp]
 have : (e.kind == 1 && decide (2000 < (zau e.part).length)) = false := by simp; intro _; omega
 unfold etV; rw [if_pos h, this]; intro hn; have h1 := congrArg List.length hn; simp [etL] at h1
def UnC (w8 : World) (O : List zaa) (n c : Int) (x y z : Value) (wx : World) : Prop :=
 ∃ N A k, x = .pointer (some ⟨N, 0, none⟩) /\ y = .int .i64 n /\ z = .int .i64 c /\ Blk wx N #[.slice A O.length k] 26 /\ Sl zar wx wx.heap.size (.slice A O.length k) O /\ Below w8.heap.size w8 wx
theorem ziY (v v' : Value) (l l' : List UInt8) (w : World) (h : Sl zfl w w.heap.size v l) (h' : Sl zfl w w.heap.size v' l') (hv : zfG w) (htab : Lib.TabIs Tryz.prog w "math/bits.deBruijn64tab" .u8 zfc) :
  Calls Tryz.prog 3 #[v, v'] w fun r w' => r = .returned (.bool true) /\ Below w.heap.size w w' := by
 have HL := yq h; have HM := yq h'; have HV := yq hv; have HT := yq htab; obtain ⟨A, c, rfl, _⟩ := h; obtain ⟨A', c', rfl, _⟩ := h'; clear hv htab; go_enter Tryz.func3, Tryz.ntmps3
 go_wp2_with fail
 refine (zl3 _ _ l l' _ HL.o HM.o).mono ?_
 rintro r w0 ⟨rfl, rfl⟩; cases hlong : (decide ((3000 : Int) < l.length) || decide ((3000 : Int) < l'.length)) with
 | true =>
   go_wp2_with fail
   go_ret
   exact ⟨rfl, Below.refl _ _⟩
 | false =>
   clear hlong; go_wp2_with fail
   refine (ziX _ l 30 _ HL.o).mono ?_
   rintro r w1 ⟨u1, xs, rfl, hsl, hdr, hl14, hb1⟩; obtain ⟨AX, cX, rfl, _⟩ := (id hsl : Sl zar w1 w1.heap.size u1 xs)
   have HGX := yq hdr.1; have HSX := yq hdr.2.2.2; have ba := (Below.refl _ w1).alloc yL (.cells #[.slice AX xs.length cX] 26); have KG := yq (Blk.new w1 #[.slice AX xs.length cX] 26); have HB1 := yq (Below.tr hb1 ba); have HS1 := yq (hsl.up ba); clear hb1 hdr hsl ba; go_upto_region 4 with fail
   revert KG HB1 HS1; generalize (w1.alloc (.cells #[.slice AX xs.length cX] 26)) = w2; intro KG HB1 HS1; obtain ⟨G, hG⟩ : ∃ G, w1.heap.size = G := ⟨_, rfl⟩
   rw [hG] at KG; rw [hG]; clear hG; have cG := Blk.cell (i := 0) (v := .slice AX xs.length cX) KG.o rfl; have lG := Blk.lt KG.o; go_wp2_with fail
   refine (zkG _ _ l' xs _ (HM.o.up HB1.o) HS1.o HGX.o).mono ?_
   rintro r w3 ⟨vE, es, rfl, hE, h6, hdE, hb3⟩; have HE3 := yq hE; obtain ⟨AE, cE, rfl, hcE, hmE, _⟩ := hE; have HDE := yq hdE; have KG3 := yq (KG.o.up hb3); have HB3 := yq (Below.tr HB1.o hb3); have HS3 := yq (HS1.o.up hb3); have HM3 := yq (HM.o.up HB3.o); clear hb3 KG HB1 HS1 cG lG hdE
   have HEP := yq (fun (e : zam) (he : e ∈ es) => show zaY e.part /\ e.part.length <= 1048576 /\ e.map.size <= maxLen from by
    obtain ⟨d1, d2, d3, d4⟩ := HDE.o e he
    exact ⟨d2, by omega, by unfold maxLen; omega⟩)
   go_wp2_with fail
   refine (zow _ l' 0 _ _ HM3.o (Int.le_refl _) yO).mono ?_
   rintro r w4 ⟨x, rfl, hx0, hx1, rfl⟩; obtain ⟨κ, rfl⟩ : ∃ κ : Nat, x = (κ : Int) := ⟨x.toNat, by omega⟩
   have hκ : κ <= es.length := by omega
   have cG := Blk.cell (i := 0) (v := .slice AX xs.length cX) KG3.o rfl; have lG := Blk.lt KG3.o; clear hx0 hx1; go_wp2_with fail
   refine (zhL _ _ xs es κ _ HS3.o HE3.o HSX.o HEP.o).mono ?_
   rintro r w5 ⟨hb5, v5, rfl, own5⟩; have KG5 := yq (KG3.o.up hb5); have HB5 := yq (Below.tr HB3.o hb5); have HS5 := yq (HS3.o.up hb5); have HE5 := yq (HE3.o.up hb5); clear hb5 cG lG own5; have cG := Blk.cell (i := 0) (v := .slice AX xs.length cX) KG5.o rfl; have lG := Blk.lt KG5.o; go_wp2_with fail
   refine (zhM _ _ xs es κ _ HS5.o HE5.o yO (fun e he => (HEP.o e he).2) (zi0 HT.o HB5.o)).mono ?_
   rintro r w6 ⟨hb6, v6, rfl, own6⟩; have HB6 := yq (Below.tr HB5.o hb6); have KG6 := yq (KG5.o.up hb6); have HS6 := yq (HS5.o.up hb6); have HE6 := yq (HE5.o.up hb6); have HOE := yq own6; clear hb6 own6 cG lG; have cG := Blk.cell (i := 0) (v := .slice AX xs.length cX) KG6.o rfl; have lG := Blk.lt KG6.o; go_wp2_with fail
   refine (zb3 _ _ xs es _ HS6.o HE6.o yO (fun e he => (HEP.o e he).2) (zi0 HT.o HB6.o)).mono ?_
   rintro r w7 ⟨hb7, v7, own7, rfl⟩; obtain ⟨A7, c7, rfl, _⟩ := zae own7; have b8 := hb7.alloc hb7.size (Obj.cells #[.slice A7 (za9 xs es).length c7] 26); have HB8 := yq (Below.tr HB6.o b8); have KG8 := yq (KG6.o.up b8); have HS8 := yq (HS6.o.up b8); have HE8 := yq (HE6.o.up b8); have HOE8 := yq (HOE.o.up b8); have KN8 := yq (Blk.new w7 #[.slice A7 (za9 xs es).length c7] 26); have HN8 := yq ((zac.sl own7).up ((Below.refl _ w7).alloc yL (Obj.cells #[.slice A7 (za9 xs es).length c7] 26))); clear hb7 own7 b8 cG lG; obtain ⟨O1, hO1⟩ : ∃ O, za9 xs es = O := ⟨_, rfl⟩
   rw [hO1] at HB8 KG8 HS8 HE8 HOE8 KN8 HN8; rw [hO1]; have HO1 := yq hO1; clear hO1; go_upto_region 9 with fail
   generalize (w7.alloc (Obj.cells #[.slice A7 O1.length c7] 26)) = w8 at HB8 KG8 HS8 HE8 HOE8 HN8 KN8 |-
   generalize w7.heap.size = N at KN8 |-
   have hκE : (κ : Int) <= (cE : Int) := by omega
   have hκ2 : (κ : Int) <= (es.length : Int) := by omega
   have HEK := yq (SlS.take HE8.o hκ); have HEP2 := yq (fun (e : zam) (he : e ∈ es.take κ) => (HEP.o e (List.mem_of_mem_take he)).2); have KK := yq (fun (W : World) (h : Below w8.heap.size w8 W) => show Below w8.heap.size w8 W /\ W.cell? ⟨G, 0, none⟩ = some (.slice AX xs.length cX) from ⟨h, (KG8.o.up h).cell rfl⟩); have HB8T := yq (zi0 HT.o HB8.o); go_cut [15, 16, 17] from 64 to 72 (fun x y z wx => UnC w8 (za9 xs (es.take κ)) (zhl xs (es.take κ)) (zaS xs (es.take κ)) x y z wx)
   case first =>
    go_region_held3 (fun w' => Below w8.heap.size w8 w' /\ w'.cell? ⟨G, 0, none⟩ = some (.slice AX xs.length cX))
     (((with_reducible refine KK.o _ ?_); (repeat (first | (with_reducible assumption) | (with_reducible exact Below.refl _ _) | (with_reducible refine Below.drew ?_) | (with_reducible refine Below.alloc ?_ ?_ _) | (with_reducible refine Below.setCell ?_ ?_ _) | (exact B9.size) | (exact Nat.le_refl _)))))
     (first
       | (go_at_call 10; (refine (zb3 _ _ xs (es.take κ) _ (HS8.o.up (Below.drew (Below.refl _ _))) (HEK.o.up (Below.drew (Below.refl _ _))) yO HEP2.o (zi0 HB8T.o (Below.drew (Below.refl _ _)))).mono ?_); rintro r w9 ⟨hb9, v9, own9, rfl⟩; obtain ⟨A9, c9, rfl, _⟩ := zae own9; have B9 : Below w8.heap.size w8 w9 := Below.undrew hb9)
       | (go_at_call 10; (refine (zb3 _ _ xs (es.take κ) _ (HS8.o.up (Below.drew (Below.alloc (Below.refl _ _) yL _))) (HEK.o.up (Below.drew (Below.alloc (Below.refl _ _) yL _))) yO HEP2.o (zi0 HB8T.o (Below.drew (Below.alloc (Below.refl _ _) yL _)))).mono ?_); rintro r w9 ⟨hb9, v9, own9, rfl⟩; obtain ⟨A9, c9, rfl, _⟩ := zae own9; have B9 : Below w8.heap.size w8 w9 := (Below.unalloc (Below.undrew hb9)).1; (have kz : Blk w9 w8.heap.size #[.slice none 0 0] 26 := (Below.unalloc (Below.undrew hb9)).2); have kz0 := Blk.cell (i := 0) kz rfl; have kz1 := Blk.frozen kz 0; have kz2 := kz.lt))
    all_goals
     go_wp2_with fail
     go_meet
     first
      | exact ⟨_, A9, c9, rfl, rfl, rfl, Blk.new _ _ _, (zac.sl own9).up ((Below.refl _ _).alloc yL _), B9.alloc B9.size _⟩
      | exact ⟨_, A9, c9, rfl, rfl, rfl, kz.set 0 _, zac.sl (za7 own9 (fun g hg => Below.heap_setCell _ ⟨w8.heap.size, 0, none⟩ _ g (by have h1 := (World.ownsRow.lt own9 g hg).1; simp at h1; show g ≠ w8.heap.size; omega))), B9.setCell yL _⟩
   case rest =>
    obtain ⟨N2, A9, c9, rfl, rfl, rfl, kO, sO, bO⟩ := hcut; have HB9 := yq (Below.tr HB8.o bO); have KN9 := yq (KN8.o.up bO); have HN9 := yq (HN8.o.up bO); have HE9 := yq (HE8.o.up bO); have HOE9 := yq (HOE8.o.up bO); have KO9 := yq kO; have HO9 := yq sO; clear bO kO sO HB8 KN8 HN8 HE8 HOE8 KG8 HS8 KK HEK HB8T; have hallE : (es.all zat) = true := List.all_eq_true.2 fun x hx => (HDE.o x hx).2.2.1; have HC0 := yq (show zaS xs es = 0 by unfold zaS; rw [HGX.o, hallE, if_pos yR, if_neg yO])
    have HC1 := yq (show zaS xs (es.take κ) = 0 by
     unfold zaS
     rw [HGX.o, show (es.take κ).all zat = true from List.all_eq_true.2 fun x hx => (HDE.o x (List.mem_of_mem_take hx)).2.2.1, if_pos yR, if_neg (by rw [List.length_take]; omega)])
    have HAL := yq hallE; clear hallE; rw [HC0.o, HC1.o]; obtain ⟨O2, hO2⟩ : ∃ O, za9 xs (es.take κ) = O := ⟨_, rfl⟩
    rw [hO2] at KO9 HO9; have HO2 := yq hO2; obtain ⟨uc, huc⟩ : ∃ u, zbE xs es κ = u := ⟨_, rfl⟩
    rw [huc]; have HUC := yq huc; clear hO2 huc; go_wp2_with fail
    go_loopw [18] (fun i wx => ∃ k : Nat, k <= es.length /\ i = .int .i64 k /\ yh (Below wc.heap.size wc wx)) (fun i _ => es.length - (intOf i).toNat)
    case atStart => exact ⟨0, Nat.zero_le _, rfl, Below.refl _ _⟩
    case round =>
     obtain ⟨k, hk, rfl, HB⟩ := hrel; by_cases hlt : k < es.length
     · obtain ⟨e, he⟩ : ∃ e, es[k]? = some e := ⟨_, ye hlt⟩
       obtain ⟨_, _, hAE, _, _, hrow⟩ := HE9.o.up HB.o; injection hAE with hA1 hA2 hA3; subst hA1 hA3; obtain ⟨bE, oE, rfl, hbl, hcell⟩ := hrow.edit (fun _ h => h) hlt; obtain ⟨vR, hec, hR⟩ := hcell k e he; have hde := HDE.o e (List.mem_of_getElem? he); have HEV := yq (show ze0 wr wr.heap.size (.agg #[.int .i64 e.kind, .int .i64 e.i, .int .i64 e.j, .int .i64 e.k, vR, .string e.map]) e from ⟨vR, rfl, hR⟩); have HDe := yq hde; have hi : (k : Int) < (es.length : Int) := by omega
       have HEC := yq hec; obtain ⟨e0, e1, e2, e3, e4, e5, elt⟩ := hec; clear hcell hrow hR hde; go_wp2_with fail
       refine (zgv _ e _ HEV.o HDe.o.2.1 (by have := HDe.o.1.1; omega) (by have := HDe.o.2.2.2; unfold maxLen; omega)).mono ?_
       rintro r w10 ⟨rfl, hb10⟩; have HB10 := yq (Below.tr HB.o hb10); have HEC10 := yq (HEC.o.up hb10); have HEV10 := yq (HEV.o.up hb10); have hlen := zpj HDe.o.2.2.2; obtain ⟨e', hr⟩ := zpo HDe.o.2.2.1 HDe.o.1.2; obtain ⟨r1, r2⟩ := ziD hr; have hed := zqd hr; have hne := zpX HDe.o.2.2.1 HDe.o.1.2; have hT0 : zoq e = ⟨(etV e).toArray⟩ := rfl; rw [<- hT0]; obtain ⟨T, hT⟩ : ∃ T, zoq e = T := ⟨_, rfl⟩
       have hTs : T.size <= 1048576 := by rw [<- hT, hT0]; show (etV e).toArray.size <= _; simp; omega
       have hTl : T.data.toList = etV e := by rw [<- hT, hT0]
       rw [hT] at r1 r2 hed; rw [hT]; have HT1 := yq (show (⟨(etV e').toArray⟩ : ByteArray) = T by rw [hed.2]); have HT2 := yq (show (⟨(etV e).toArray⟩ : ByteArray) = T by rw [<- hTl]); have hm4 := zjN hed.1; have hg4 := (zai (zcI hed.1).2.2.2.2.2.2).1
       have hTn : ¬ T.toList = [] := by
        rw [ByteArray.toList_eq, hTl]; exact hne
       have HR1 := yq r1; have HR2 := yq r2; clear hb10 e0 e1 e2 e3 e4 e5 elt HEC HEV HB hr r1 r2 hed hne hT0 hT hTl hlen; go_wp2_with fail
       refine (zjC T _ hTs (HV.o.up (Below.tr HB9.o HB10.o))).mono ?_
       rintro r w11 ⟨hb11, v11, own11, rfl⟩; rw [HR1.o] at own11; rw [HR1.o, HR2.o]; obtain ⟨A11, c11, rfl, _⟩ := zae own11; have b12 := (Below.refl _ w11).alloc yL (Obj.cells #[.int .i64 e'.kind, .int .i64 e'.i, .int .i64 e'.j, .int .i64 e'.k, .slice A11 e'.part.length c11, .string e'.map] 37); have b1012 := Below.tr hb11 b12; have HB12 := yq (Below.tr HB10.o b1012); have HEC12 := yq (HEC10.o.up b1012); have HEV12 := yq (HEV10.o.up b1012); have KX := yq (Blk.new w11 #[.int .i64 e'.kind, .int .i64 e'.i, .int .i64 e'.j, .int .i64 e'.k, .slice A11 e'.part.length c11, .string e'.map] 37); have HX := yq ((zac.sl own11).up b12); clear hb11 own11 b12 b1012 HEC10 HEV10; go_upto_region 17 with fail
       generalize (w11.alloc (Obj.cells #[.int .i64 e'.kind, .int .i64 e'.i, .int .i64 e'.j, .int .i64 e'.k, .slice A11 e'.part.length c11, .string e'.map] 37)) = w12 at HB12 HEC12 HEV12 HX KX |-
       generalize w11.heap.size = N11 at KX |-
       have x0 := Blk.cell (i := 0) (v := .int .i64 e'.kind) KX.o rfl; have x1 := Blk.cell (i := 1) (v := .int .i64 e'.i) KX.o rfl; have x2 := Blk.cell (i := 2) (v := .int .i64 e'.j) KX.o rfl; have x3 := Blk.cell (i := 3) (v := .int .i64 e'.k) KX.o rfl; have x4 := Blk.cell (i := 4) (v := .slice A11 e'.part.length c11) KX.o rfl; have x5 := Blk.cell (i := 5) (v := .string e'.map) KX.o rfl; have xl := Blk.lt KX.o; go_wp2_with fail
       refine (zc0 _ e' _ ⟨_, rfl, HX.o⟩ yO (by unfold maxLen; omega) (HV.o.up (Below.tr HB9.o HB12.o)).tab).mono ?_
       rintro r w13 ⟨rfl, hb13⟩; rw [HT1.o]; have HB13 := yq (Below.tr HB12.o hb13); have HEV13 := yq (HEV12.o.up hb13); obtain ⟨e0, e1, e2, e3, e4, e5, elt⟩ := HEC12.o.up hb13; clear hb13 x0 x1 x2 x3 x4 x5 xl HEC12 HEV12 KX HX; go_wp2_with fail
       refine (zc0 _ e _ HEV13.o (by have := HDe.o.1.1; omega) (by have := HDe.o.2.2.2; unfold maxLen; omega) (HV.o.up (Below.tr HB9.o HB13.o)).tab).mono ?_
       rintro r w14 ⟨rfl, hb14⟩; rw [HT2.o]; have HB14 := yq (Below.tr HB13.o hb14); clear hb14 e0 e1 e2 e3 e4 e5 elt; go_wp2_with fail
       go_roundw
       case rel => exact ⟨k + 1, by omega, by go_num, HB14⟩
       case measure => simp [intOf]; omega
     · have hkn : k = es.length := by omega
       subst hkn; have HBr := yq (Below.tr HB9.o HB.o); have KNr := yq (KN9.o.up HB.o); have KOr := yq (KO9.o.up HB.o); have HNr := yq (HN9.o.up HB.o); have HOr := yq (HO9.o.up HB.o); have HEr := yq (HOE9.o.up HB.o); clear HB hk HB9 KN9 KO9 HN9 HO9 HOE9 HE9 hlt; by_cases hu : uc = 0
       · obtain ⟨u1, u2, u3⟩ := zpm HGX.o (fun e he => (HDE.o e he).2.2.1) h6 hκ (HUC.o.trans hu)
         rw [HO1.o] at u1 u3; rw [HO2.o] at u3
         have ho1 : zag O1 = true := by
          have := zfK es HGX.o; rw [<- HO1.o]; unfold za9; rw [if_pos HC0.o]; exact this
         have ho2 : zag O2 = true := by
          have := zfK (es.take κ) HGX.o; rw [<- HO2.o]; unfold za9; rw [if_pos HC1.o]; exact this
         obtain ⟨bs, hbs⟩ : ∃ bs, zdj xs es κ = bs := ⟨_, rfl⟩
         rw [hbs] at u1 u2 u3 HEr
         have hball : ∀ b ∈ bs, zat b = true := by
          unfold zaS at u1; split at u1
          · rename_i hc
            rw [Bool.and_eq_true] at hc; exact List.all_eq_true.1 hc.2
          · cases u1
         have HBP := yq (fun (b : zam) (hb : b ∈ bs) => show zaY b.part /\ b.part.length <= 1048576 /\ b.map.size <= maxLen from by
          have h1 := hball b hb; have h2 := (zcI h1).2.2.2.2.2.2; have h3 := (zai h2).1; have h4 := zjN h1
          exact ⟨zf6 h2, by omega, by unfold maxLen; omega⟩)
         have HG1 := yq ho1; have HG2 := yq ho2; have HU1 := yq u1; have HU3 := yq u3; have ho14 := (zai ho1).1
         have hoO : zag (za9 O1 bs) = true := by
          have := zfK bs ho1; unfold za9; rw [if_pos u1]; exact this
         have HGO := yq hoO; obtain ⟨AB, cB, rfl, _⟩ := HEr.o.sl; subst hu; clear hbs hball u1 u3 ho1 ho2 hoO HUC HC0 HC1 HO1 HO2 HAL HDE; have cN := Blk.cell (i := 0) (v := .slice A7 O1.length c7) KNr.o rfl; have lN := Blk.lt KNr.o; go_wp2_with fail
         refine (zb3 _ _ O1 bs _ HNr.o HEr.o.sl yO (fun b hb => (HBP.o b hb).2) (zi0 HT.o HBr.o)).mono ?_
         rintro r w20 ⟨hb20, v20, own20, rfl⟩; rw [HU1.o]; obtain ⟨O3, hO3⟩ : ∃ O, za9 O1 bs = O := ⟨_, rfl⟩
         rw [hO3] at own20 HU3 HGO; obtain ⟨A20, c20, rfl, _⟩ := zae own20; have b21 := hb20.alloc hb20.size (Obj.cells #[.slice A20 O3.length c20] 26); have HB21 := yq (Below.tr HBr.o b21); have KN21 := yq (KNr.o.up b21); have KO21 := yq (KOr.o.up b21); have HN21 := yq (HNr.o.up b21); have HO21 := yq (HOr.o.up b21); have HE21 := yq (HEr.o.up b21); have KT21 := yq (Blk.new w20 #[.slice A20 O3.length c20] 26); have HT21 := yq ((zac.sl own20).up ((Below.refl _ w20).alloc yL (Obj.cells #[.slice A20 O3.length c20] 26))); have HO3 := yq hO3; clear hb20 own20 b21 hO3 cN lN KNr KOr HNr HOr HEr HBr; go_upto_region 22 with fail
         generalize (w20.alloc (Obj.cells #[.slice A20 O3.length c20] 26)) = w21 at HB21 KN21 KO21 HN21 HO21 HE21 KT21 HT21 |-
         generalize w20.heap.size = N20 at KT21 |-
         have cN := Blk.cell (i := 0) (v := .slice A7 O1.length c7) KN21.o rfl; have lN := Blk.lt KN21.o; go_wp2_with fail
         refine (zfL _ _ O1 bs _ HN21.o HE21.o.sl (zf6 HG1.o) HBP.o).mono ?_
         rintro r w22 ⟨hb22, v22, own22, rfl⟩; rw [HU1.o]; obtain ⟨A22, c22, rfl, _⟩ := zae own22; have b23 := hb22.alloc hb22.size (Obj.cells #[.slice A22 (za9 O1 bs).length c22] 26); have HB23 := yq (Below.tr HB21.o b23); have KO23 := yq (KO21.o.up b23); have HO23 := yq (HO21.o.up b23); have KT23 := yq (KT21.o.up b23); have HT23 := yq (HT21.o.up b23); clear hb22 own22 b23 cN lN HB21 KN21 KO21 HN21 HO21 HE21 KT21 HT21; go_upto_region 23 with fail
         generalize (w22.alloc (Obj.cells #[.slice A22 (za9 O1 bs).length c22] 26)) = w23 at HB23 KO23 HO23 KT23 HT23 |-
         have cT := Blk.cell (i := 0) (v := .slice A20 O3.length c20) KT23.o rfl; have lT := Blk.lt KT23.o; have cO := Blk.cell (i := 0) (v := .slice A9 O2.length c9) KO23.o rfl; have lO := Blk.lt KO23.o; go_wp2_with fail
         refine (zhI _ _ O3 O2 _ HT23.o HO23.o HGO.o HG2.o).mono ?_
         rintro r w24 ⟨rfl, hb24⟩; have HB24 := yq (Below.tr HB23.o hb24); clear hb24 cT lT cO lO HB23 KO23 HO23 KT23 HT23; by_cases hn : zhl O1 bs = (bs.length : Int)
         · have heq := zpM HGO.o HG2.o (HU3.o hn)
           rw [heq, hn]; clear hn heq; go_wp2_with fail
           go_ret
           exact ⟨rfl, HB24.o⟩
         · obtain ⟨m, hm⟩ : ∃ m, zhl O1 bs = m := ⟨_, rfl⟩
           rw [hm] at hn; rw [hm]; have hne : (m == (bs.length : Int)) = false := by rw [beq_eq_false_iff_ne]; exact hn
           have hne2 : ¬ m = (bs.length : Int) := hn; clear hn hm; go_wp2_with fail
           go_ret
           exact ⟨rfl, HB24.o⟩
       · have hune : (uc == 0) = false := by rw [beq_eq_false_iff_ne]; exact hu
         clear HUC; go_wp2_with fail
         go_ret
         exact ⟨rfl, HBr.o⟩
open Go.RowKit Go.WideShapes Go.ChangeShapes
section
variable {H : Type} {enc : TypeId × Value -> H} {P : Program}
theorem ziZ {f : Func} {s : ChangeSpec} {apart fresh handsOn again : Bool} {W W' : World} {args : Array Value} {v : Value} {ds gs : List (DataW H)} {before pa pv : List MemPlace}
  (hW : DataW.Whole enc P f.params.toList s.vars apart W args.toList ds gs before)
  (hres : ∀ (b : Nat) (sp : Nat -> Bool) (hd : Bool), DataW.TrodAll enc P W' b sp hd f.resultTypes.toList (v.resultList f.resultTypes.size) (s.fn H (ds ++ gs)).results [])
  (hargs : ∀ sp : Nat -> Bool, (∀ p ∈ before, sp p.block = true) -> DataW.TrodAll enc P W' 0 sp true f.params.toList args.toList (s.fn H (ds ++ gs)).args pa)
  (hvars : ∀ sp : Nat -> Bool, (∀ p ∈ before, sp p.block = true) -> DataW.TrodVars enc P W' sp s.vars (s.fn H (ds ++ gs)).vars pv)
  (hps : before = pa ++ pv) (hb : Below W.heap.size W W')
  (hok : ∀ (j : Nat) (t : TypeId) (r : Value), f.resultTypes[j]? = some t -> (v.resultList f.resultTypes.size)[j]? = some r -> Value.okWide P W' .any 0 t r) :
  s.post enc P f apart fresh handsOn again W args v W' := by
 have hlt : ∀ p ∈ before, p.block < W.heap.size := fun p hp => hW.lt p hp; have hold : ∀ p ∈ before, (fun b => decide (b < W.heap.size)) p.block = true := fun p hp => by simpa using hlt p hp
 refine ⟨ds, gs, before, [], pa, pv, hW, hres _ _ _, hargs _ hold, hvars _ hold, World.keptBut_mono (fun p hp => ⟨hp, ?_⟩) (hb.frame (· ∈ before)), fun _ => ?_⟩
 · rw [hps, List.mem_append] at hp
   exact Or.inr hp
 · obtain ⟨_, _, _, _, _, hz, hn⟩ := hW
   refine ⟨hok, _, _, ([] ++ pa) ++ pv, ⟨[] ++ pa, pv, trodAll_append (hargs _ (fun _ _ => rfl)) (hres _ _ _), hvars _ (fun _ _ => rfl), rfl, ?_, ?_⟩, ?_⟩
   · intro b off hp
     have hin : MemPlace.cell b off ∈ before := by rw [hps]; simpa using hp
     rw [hb.frozen (hlt _ hin)]; exact hz b off hin
   · intro ha
     have := hn ha; rw [hps] at this; simpa using this
   · intro p hp _
     rw [hps]; simpa using hp
theorem zfN (hl : laidOutB P = true) {W W' : World} (hb : Below W.heap.size W W') : ∀ {ts : List TypeId} {vs : List Value} {ds : List (DataW H)} {ps : List MemPlace},
  (∀ t ∈ ts, P.readableRec t = true /\ t < P.types.size) -> DataW.TrodAll enc P W 0 (fun _ => true) true ts vs ds ps -> (∀ x ∈ ps, x.block < W.heap.size) -> ∀ sp : Nat -> Bool, (∀ p ∈ ps, sp p.block = true) ->
  DataW.TrodAll enc P W' 0 sp true ts vs ds ps
 | [], _, _, _, _, h, _, _, _ => by
   obtain ⟨rfl, rfl, rfl⟩ := trodAll_nil h; exact trodAll_mk0
 | t :: ts, vs, ds, ps, hts, h, hlt, sp, hsp => by
   obtain ⟨v, vs', d, ds', p, q, rfl, rfl, rfl, h0, r0⟩ := trodAll_cons h; refine trodAll_cons_mk (WideElems.Trod_stays hl (hts t yS).1 (hts t yS).2 h0 (fun x hx => hb.same (hlt x (by simp [hx]))) (fun x hx => hsp x (by simp [hx]))) ?_
   exact zfN hl hb (fun t ht => hts t (by simp [ht])) r0 (fun x hx => hlt x (by simp [hx])) sp (fun x hx => hsp x (by simp [hx]))
end
theorem zpp : laidOutB Tryz.prog = true := by kernel_rfl
theorem own : ownKnob Tryz.prog.godebug = none := by kernel_rfl
open Go.RowKit Go.ChangeShapes Go.WideShapes Go.Deep
section
variable {H : Type} {enc : TypeId × Value -> H} {P : Program} {w : World} {base : Nat} {spare : Nat -> Bool} {held : Bool}
theorem znF (b o n : Nat) : (⟨b, o, none⟩ : Addr).add n = ⟨b, o + n, none⟩ := by unfold Addr.add; split <;> simp_all
theorem znG {a : Addr} {v : Value} (h : w.cell? a = some v) : a = ⟨a.block, a.off, none⟩ /\ a.block < w.heap.size := by
 have hl := World.block_lt_of_cell? w a h; refine ⟨?_, hl⟩
 obtain ⟨b, o, s⟩ := a; unfold World.cell? at h; cases s with
 | none => rfl
 | some s => split at h <;> simp at h
theorem zc4 {α : Type} (f : Nat -> α) (n : Nat) : ((List.range n).map f).length = n := by simp
end
open Go.RowKit Go.ChangeShapes Go.WideShapes Go.Deep
def zox {α : Type} (P : Program) (E : Enc α) (Q : α -> Prop) (t : TypeId) : Prop :=
 ∀ {H : Type} (enc : TypeId × Value -> H) (w : World) (base : Nat) (spare : Nat -> Bool) (held : Bool) (fuel : Nat) (cs : List Value) (x : DataW H × List MemPlace), DataW.trod enc P w base spare held fuel t cs = some x -> ∃ a, E.cells w (· < w.heap.size) a cs /\ Q a
instance : Inhabited zaa := ⟨⟨⟨#[]⟩, 0, 0⟩⟩
theorem zkH {α : Type} {P : Program} {E : Enc α} {Q : α -> Prop} {t e : TypeId} [Inhabited α] (hE : zox P E Q e) (ht : P.underlying t = some (.slice e)) (hC : P.cellsOf e = E.size) : zox P (zoz E) (fun xs => ∀ x ∈ xs, Q x) t := by
 intro H enc w base spare held fuel cs x h; rcases open_slice ht h with ⟨h0, _⟩ | ⟨a, len, cap, m, n, D, Pl, hcs, hb, hl, hm, hmm, hx, hi⟩
 · exact ⟨[], ⟨_, h0, SlS.nil _ _⟩, fun x hx => by simp at hx⟩
 · have hmle : len <= m := by rw [hmm]; split <;> omega
   have Hh : ∀ i, i < len -> ∃ r : α, ∃ cs', E.cells w (· < w.heap.size) r cs' /\ (∀ j u, cs'[j]? = some u -> w.cell? (a.add (i * E.size + j)) = some u) /\ Q r := by
    intro i hil; obtain ⟨cs', hc, ht'⟩ := hi i yO; obtain ⟨r, hr, hq⟩ := hE enc w base spare held n cs' _ ht'; obtain ⟨_, hcl, hat⟩ := World.cells?_some hc
    refine ⟨r, cs', hr, fun j u hu => ?_, hq⟩
    have hj : j < cs'.length := (List.getElem?_eq_some_iff.1 hu).1
    rw [<- Go.Deep.add_add, <- hC, hat j yO, hu]
   obtain ⟨F, hF⟩ := choose_lt Hh; clear Hh; refine ⟨(List.range len).map F, ⟨.slice (some a) len cap, hcs, some a, cap, by rw [zc4], by rw [zc4]; exact hl, hm, fun hn => ?_⟩, ?_⟩
   · rw [zc4] at hn
     obtain ⟨cs', h1, h2, _⟩ := hF 0 hn; have hlen := E.len h1; have hpos := E.pos; have g0 := h2 0 cs'[0] (ye yO); have ha : a.add (0 * E.size + 0) = a := by simp [Addr.add]
     rw [ha] at g0; obtain ⟨hsp, hlt⟩ := znG g0; refine ⟨a.block, a.off, by rw [<- hsp], hlt, fun k r hr => ?_⟩
     have hk : k < len := by
      have := (List.getElem?_eq_some_iff.1 hr).1
      rw [zc4] at this; exact this
     have er : F k = r := by
      rw [List.getElem?_map, List.getElem?_range hk] at hr; simpa using hr
     obtain ⟨cs'', h3, h4, _⟩ := hF k hk; rw [er] at h3; refine ⟨cs'', h3, fun j u hu => ?_⟩
     have := h4 j u hu; rw [hsp, znF] at this; exact this
   · intro r hr
     rw [List.mem_map] at hr; obtain ⟨k, hk, rfl⟩ := hr; exact (hF k (by simpa using hk)).choose_spec.2.2
open Go.ChangeShapes Go.WideShapes Go.ChangeAt Go.RowKit Go.Joins Go.Deep
theorem zl6 {P : Program} {t : TypeId} (ht : P.underlying t = some (.int .u8)) : zox P zfl (fun _ => True) t := by
 intro H enc w base spare held fuel cs x h; obtain ⟨p, e1, _, e2⟩ := DataW.trod_int ht h
 have hp : 0 <= p /\ p < 256 := by
  have h1 : IntKind.u8.min <= p /\ p <= IntKind.u8.max := by simpa [Lit.wf] using e2
  have m1 : IntKind.u8.min = 0 := by decide
  have m2 : IntKind.u8.max = 255 := by decide
  rw [m1, m2] at h1; omega
 refine ⟨UInt8.ofNat p.toNat, ?_, trivial⟩
 rw [e1]; have : (UInt8.ofNat p.toNat).toNat = p.toNat := by rw [UInt8.toNat_ofNat']; omega
 show [Value.int .u8 p] = [.int .u8 ((UInt8.ofNat p.toNat).toNat : Int)]
 rw [this]; congr 2
 omega
instance : Inhabited UInt8 := ⟨0⟩
theorem zl7 : zox Tryz.prog (zoz zfl) (fun xs => ∀ x ∈ xs, True) 22 := zkH (zl6 Tryz.underlying5) Tryz.underlying22 yk
theorem zib {H : Type} {enc : TypeId × Value -> H} {w : World} {base : Nat} {spare : Nat -> Bool} {held : Bool} {r : Reach} {b0 : Nat} {v : Value} {d : DataW H} {p : List MemPlace}
  (hv : Value.okWide Tryz.prog w r b0 22 v) (h : DataW.Trod enc Tryz.prog w base spare held 22 v d p) : ∃ xs, Sl zfl w w.heap.size v xs := by
 obtain ⟨a, len, cap, rfl⟩ := okWide_slice Tryz.underlying22 hv; obtain ⟨fuel, hf⟩ := h; obtain ⟨xs, ⟨u, e1, hsl⟩, _⟩ := zl7 enc w base spare held fuel [.slice a len cap] _ (by simpa [Value.cells] using hf); simp at e1
 subst e1; exact ⟨xs, hsl⟩
theorem znH {P : Program} (h : P.funcs.any Func.goes = false) (f : FuncId) : P.goes f = false := by
 have h1 : ∀ g : Nat, (P.funcs[g]?).any Func.goes = false := by
  intro g; cases hg : P.funcs[g]? with
  | none => rfl
  | some x =>
    obtain ⟨hi, rfl⟩ := Array.getElem?_eq_some_iff.1 hg
    have := Array.any_eq_false.1 h g hi; simpa using this
 unfold Program.goes; rw [h]; simp only [h1]
 simp
theorem zpq {c : OpenClaim} {P : Program} (h : P.funcs.any Func.goes = false) (hs : c.start = .entering) : false = c.goesBy P := by
 unfold OpenClaim.goesBy Program.goesAt Program.goesFrom; rw [hs]; cases P.funcNamed c.func with
 | none => rfl
 | some f => simp [znH h f]
theorem Tryz.no_go : Tryz.pinned.checked.prog.funcs.any Func.goes = false := by kernel_rfl
end Go.Proofs.YtejgbfgocaggfaaGreatDoor
