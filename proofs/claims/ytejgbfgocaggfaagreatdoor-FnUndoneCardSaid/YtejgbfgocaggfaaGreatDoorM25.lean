import Derived.Test.YtejgbfgocaggfaaGreatDoorM24
import Derived.Lib.Builder
set_option maxRecDepth 100000
set_option maxHeartbeats 8000000
namespace Go.Proofs.YtejgbfgocaggfaaGreatDoor
open Go.RowKit
def zb0 (p : List zaa × Int) (e : zam) : List zaa × Int := if zah p.1 e = 0 then (zak p.1 e, p.2 + 1) else p
def zb1 (xs : List zaa) (es : List zam) : List zaa × Int := es.foldl zb0 (xs, 0)
def zaS (xs : List zaa) (es : List zam) : Int := if zag xs && es.all zat then (if 60 < es.length then 2 else 0) else 1
def za9 (xs : List zaa) (es : List zam) : List zaa := if zaS xs es = 0 then (zb1 xs es).1 else []
def zhl (xs : List zaa) (es : List zam) : Int := if zaS xs es = 0 then (zb1 xs es).2 else 0
theorem zom {p : List zaa × Int} {e : zam} (h : zag p.1 = true) : zag (zb0 p e).1 = true := by
 unfold zb0; split
 · exact zd8 _ _
 · exact h
theorem zf4 {xs : List zaa} {es : List zam} {k : Nat} {e : zam} (h : es[k]? = some e) : zb1 xs (es.take (k + 1)) = zb0 (zb1 xs (es.take k)) e := by
 unfold zb1; rw [List.take_add_one, h]; simp
theorem zfK {xs : List zaa} (es : List zam) (h : zag xs = true) : zag (zb1 xs es).1 = true := by
 unfold zb1
 suffices H : ∀ (l : List zam) (p : List zaa × Int), zag p.1 = true -> zag (l.foldl zb0 p).1 = true from H es _ h
 intro l
 induction l with
 | nil => intro p h; exact h
 | cons x xs ih => intro p h; exact ih _ (zom h)
theorem zjL (xs : List zaa) (es : List zam) : 0 <= (zb1 xs es).2 /\ (zb1 xs es).2 <= es.length := by
 unfold zb1
 suffices H : ∀ (l : List zam) (p : List zaa × Int), p.2 <= (l.foldl zb0 p).2 /\ (l.foldl zb0 p).2 <= p.2 + l.length by simpa using H es (xs, 0)
 intro l
 induction l with
 | nil => intro p; simp
 | cons x xs ih =>
   intro p; have h1 := ih (zb0 p x); have h2 : p.2 <= (zb0 p x).2 /\ (zb0 p x).2 <= p.2 + 1 := by unfold zb0; split <;> simp <;> omega
   rw [List.foldl_cons, List.length_cons]; omega
def zqi (out : List zaa) (n c : Int) (w : World) (r : Ending) (w' : World) : Prop :=
 Below w.heap.size w w' /\ ∃ v, zac w' w.heap.size v out /\ r = .returned (.tuple #[.agg #[v], .int .i64 n, .int .i64 c])
theorem zfL (vG vE : Value) (xs : List zaa) (es : List zam) (w : World) (hG : Sl zar w w.heap.size vG xs) (hE : Sl zdB w w.heap.size vE es) (hsm : zaY xs) (hs : ∀ e ∈ es, zaY e.part /\ e.part.length <= 1048576 /\ e.map.size <= maxLen) :
  Calls Tryz.prog 14 #[.agg #[vG], vE] w (zqi (za9 xs es) (zhl xs es) (zaS xs es) w) := by
 have HG := yq hG; have HE := yq hE; have HS := yq hs; obtain ⟨AG, cG, rfl, _⟩ := hG; obtain ⟨AE, cE, rfl, hcE, hmE, _⟩ := hE; unfold maxLen at hmE; clear hs; have b1 := (Below.refl w.heap.size w).alloc yL (Obj.cells #[.slice AG xs.length cG] 26); have b2 := b1.alloc b1.size (Obj.cells #[.slice none 0 0] 26); have KP : Blk ((w.alloc (Obj.cells #[.slice AG xs.length cG] 26)).alloc (Obj.cells #[.slice none 0 0] 26)) w.heap.size #[.slice AG xs.length cG] 26 := (Blk.new w _ _).alloc _
 have KR : Blk ((w.alloc (Obj.cells #[.slice AG xs.length cG] 26)).alloc (Obj.cells #[.slice none 0 0] 26)) (w.heap.size + 1) #[.slice none 0 0] 26 := by
  have := (Blk.new (w.alloc (Obj.cells #[.slice AG xs.length cG] 26)) #[.slice none 0 0] 26)
  simpa [Blk] using this
 go_enter Tryz.func14, Tryz.ntmps14
 go_upto_region 1 with fail
 generalize ((w.alloc (Obj.cells #[.slice AG xs.length cG] 26)).alloc (Obj.cells #[.slice none 0 0] 26)) = w0 at *; have KB := yq b2; clear b1 b2; have cP0_1 := Blk.cell (i := 0) (v := .slice AG xs.length cG) KP rfl; have lP_2 := Blk.lt KP; go_wp2_with fail
 refine (zaZ w.heap.size 0 _ xs _ cP0_1 (Blk.lt KP) (HG.o.up KB.o) hsm).mono ?_
 rintro e w1 ⟨rfl, hb_3⟩; have z_w1 : w0.heap.size <= w1.heap.size := hb_3.size; have KB_4 := yq (Below.tr KB.o hb_3); have KP_5 := Blk.up KP hb_3; have KR_6 := Blk.up KR hb_3; clear cP0_1 lP_2 KB KP KR; cases hg : zag xs with
 | false =>
   have hc : zaS xs es = 1 := by simp [zaS, hg]
   have HQ := yq (show za9 xs es = [] /\ zhl xs es = 0 /\ zaS xs es = 1 by unfold za9 zhl; rw [hc]; exact ⟨rfl, rfl, rfl⟩); clear hg hc; have cR0_7 := Blk.cell (i := 0) (v := .slice none 0 0) KR_6 rfl; have zR0_8 := Blk.frozen KR_6 0; have lR_9 := Blk.lt KR_6; go_wp2_with fail
   refine bodyPost_ret (v := .tuple #[.agg #[.slice none 0 0], .int .i64 0, .int .i64 1]) (by simp [results, Tryz.results14, go_sem, cR0_7]) rfl ⟨Below.setCell KB_4.o (show w.heap.size <= w.heap.size + 1 by omega) _, .slice none 0 0, by rw [HQ.o.1]; exact World.ownsRow_nil _ _ _ _, by rw [HQ.o.2.1, HQ.o.2.2]⟩
 | true =>
   have HGG := yq hg; clear hg; have cR0_10 := Blk.cell (i := 0) (v := .slice none 0 0) KR_6 rfl; have lR_11 := Blk.lt KR_6; go_wp2_with fail
   refine (zh8 _ es _ (HE.o.up KB_4.o) HS.o).mono ?_
   rintro e w2 ⟨rfl, hb_12⟩; have z_w2 : w1.heap.size <= w2.heap.size := hb_12.size; have KB_13 := yq (Below.tr KB_4.o hb_12); have KP_14 := Blk.up KP_5 hb_12; have KR_15 := Blk.up KR_6 hb_12; clear hb_3 cR0_10 lR_11 KB_4 KP_5 KR_6; cases ha : es.all zat with
   | false =>
     have hc : zaS xs es = 1 := by simp [zaS, ha]
     have HQ := yq (show za9 xs es = [] /\ zhl xs es = 0 /\ zaS xs es = 1 by unfold za9 zhl; rw [hc]; exact ⟨rfl, rfl, rfl⟩); clear ha hc; have cR0_16 := Blk.cell (i := 0) (v := .slice none 0 0) KR_15 rfl; have zR0_17 := Blk.frozen KR_15 0; have lR_18 := Blk.lt KR_15; go_wp2_with fail
     refine bodyPost_ret (v := .tuple #[.agg #[.slice none 0 0], .int .i64 0, .int .i64 1]) (by simp [results, Tryz.results14, go_sem, cR0_16]) rfl ⟨Below.setCell KB_13.o (show w.heap.size <= w.heap.size + 1 by omega) _, .slice none 0 0, by rw [HQ.o.1]; exact World.ownsRow_nil _ _ _ _, by rw [HQ.o.2.1, HQ.o.2.2]⟩
   | true =>
     have HAA := yq ha; clear ha; by_cases hl : 60 < es.length
     · have hc : zaS xs es = 2 := by unfold zaS; rw [HGG.o, HAA.o, if_pos yR, if_pos hl]
       have HQ := yq (show za9 xs es = [] /\ zhl xs es = 0 /\ zaS xs es = 2 by unfold za9 zhl; rw [hc]; exact ⟨rfl, rfl, rfl⟩); have hli : (60 : Int) < (es.length : Int) := by omega
       clear hc; have cR0_19 := Blk.cell (i := 0) (v := .slice none 0 0) KR_15 rfl; have zR0_20 := Blk.frozen KR_15 0; have lR_21 := Blk.lt KR_15; go_wp2_with fail
       refine bodyPost_ret (v := .tuple #[.agg #[.slice none 0 0], .int .i64 0, .int .i64 2]) (by simp [results, Tryz.results14, go_sem, cR0_19]) rfl ⟨Below.setCell KB_13.o (show w.heap.size <= w.heap.size + 1 by omega) _, .slice none 0 0, by rw [HQ.o.1]; exact World.ownsRow_nil _ _ _ _, by rw [HQ.o.2.1, HQ.o.2.2]⟩
     · have hc : zaS xs es = 0 := by unfold zaS; rw [HGG.o, HAA.o, if_pos yR, if_neg hl]
       have HQ := yq (show za9 xs es = (zb1 xs es).1 /\ zhl xs es = (zb1 xs es).2 /\ zaS xs es = 0 by unfold za9 zhl; rw [hc]; exact ⟨rfl, rfl, rfl⟩); have hli : ¬ (60 : Int) < (es.length : Int) := by omega
       have hx4 := zax HGG.o; clear hc; have hs2 : w.heap.size + 2 <= w2.heap.size := Blk.lt KR_15; have cR0_22 := Blk.cell (i := 0) (v := .slice none 0 0) KR_15 rfl; have lR_23 := Blk.lt KR_15; have cP0_24 := Blk.cell (i := 0) (v := .slice AG xs.length cG) KP_14 rfl; have lP_25 := Blk.lt KP_14; go_wp2_with fail
       refine (zcd w.heap.size 0 _ xs _ cP0_24 (Blk.lt KP_14) (HG.o.up KB_13.o) yO).mono ?_
       rintro e w3 ⟨vN, rfl, ownN, hb_26⟩; have z_w3 : w2.heap.size <= w3.heap.size := hb_26.size; have KB_27 := yq (Below.tr KB_13.o hb_26); have KP_28 := Blk.up KP_14 hb_26; have KR_29 := Blk.up KR_15 hb_26; clear hb_12 cR0_22 lR_23 cP0_24 lP_25 KB_13 KP_14 KR_15; obtain ⟨AN, cN, rfl, _⟩ := zae ownN; have bZ := (Below.refl w3.heap.size w3).alloc yL (Obj.cells #[.slice AN xs.length cN] 26); have KN := Blk.new w3 #[.slice AN xs.length cN] 26; have KO := zac.below ownN bZ; have hsz := Below.size KB_27.o; have lR := Blk.lt KR_29; have lP := Blk.lt KP_28; have KBZ := yq (Below.tr KB_27.o bZ); have KRZ := yq (Blk.up KR_29 bZ); have KOZ := yq KO; have KNZ := yq KN; clear ownN KO KN bZ; go_wp2_with fail
       go_loopw [8, 9] (fun d i wx => ∃ (k : Nat) (A : Option Addr) (c : Nat), k <= es.length /\ d = .int .i64 (zb1 xs (es.take k)).2 /\ i = .int .i64 k /\ yh (Blk wx w3.heap.size #[.slice A (zb1 xs (es.take k)).1.length c] 26) /\ yh (Blk wx (w.heap.size + 1) #[.slice none 0 0] 26) /\ yh (zac wx (w.heap.size + 2) (.slice A (zb1 xs (es.take k)).1.length c) (zb1 xs (es.take k)).1) /\ yh (Below w.heap.size w wx)) (fun _ i _ => es.length - (intOf i).toNat)
       case atStart => exact ⟨0, AN, cN, Nat.zero_le _, rfl, rfl, KNZ, KRZ, yq (zad KOZ.o yO), KBZ⟩
       case round =>
        obtain ⟨k, A, c, hk, rfl, rfl, HN, HR, HO, HB⟩ := hrel; by_cases hlt : k < es.length
        · obtain ⟨_, _, hAE, _, _, hrow⟩ := HE.o.up HB.o
          injection hAE with hA1 hA2 hA3; subst hA1 hA3; obtain ⟨b, o, rfl, hbl, hcell⟩ := hrow.edit (fun _ h => h) hlt; obtain ⟨e, he⟩ : ∃ e, es[k]? = some e := ⟨_, ye hlt⟩
          obtain ⟨vR, hec, hR⟩ := hcell k e he; have heok := List.all_eq_true.1 HAA.o e (List.mem_of_getElem? he); have HFT := yq (zf4 (xs := xs) he); have hgo := zfK (es.take k) HGG.o; have hnum := zjL xs (es.take k); rw [List.length_take] at hnum; obtain ⟨out, n, hon⟩ : ∃ out n, zb1 xs (es.take k) = (out, n) := ⟨_, _, rfl⟩
          rw [hon] at HN HO HFT hgo hnum |-
          simp only at HN HO hgo hnum |-
          have HON := yq hon; have HEC := yq hec; have HRR := yq hR; have HEO := yq heok; have HGO := yq hgo; have lN := HN.o.lt; have lR2 := HR.o.lt; have hbz := HB.o.size; have hi : (k : Int) < (es.length : Int) := by omega
          clear hcell he hec hR heok hgo hon; go_wp2_with fail
          refine (zds w3.heap.size 0 b (o + k * 6) _ _ out e _ ⟨HN.o.cell rfl, lN⟩ HEC.o HO.o.sl HRR.o HGO.o HEO.o).mono ?_
          rintro r w4 ⟨hb4, v4, own4, rfl⟩; obtain ⟨A4, c4, rfl, _⟩ := zae own4; have HN4 := yq (HN.o.up hb4); have HR4 := yq (HR.o.up hb4); have HB4 := yq (Below.tr HB.o hb4); have HO4 := yq own4; have bZ := hb4.alloc hb4.size (Obj.cells #[.slice A4 (zak out e).length c4] 26); have HN5 := yq (HN.o.up bZ); have HR5 := yq (HR.o.up bZ); have HO5 := yq (zac.below HO.o bZ); have HB5 := yq (Below.tr HB.o bZ); have z4 := hb4.size; clear hb4 own4 bZ HN HR HO; by_cases hc : zah out e = 0
          · have HFT2 := yq (show zb1 xs (es.take (k + 1)) = (zak out e, n + 1) by rw [HFT.o]; unfold zb0; rw [if_pos hc])
            rw [hc]; clear hc; have ws : IntKind.i64.wrap (n + 1) = n + 1 := IntWalk.i64_in _ yO; have xN := HN5.o.cell (i := 0) (v := .slice A out.length c) rfl; have fN := HN5.o.frozen 0; have lN5 : w3.heap.size < w4.heap.size := by omega
            go_wp2_with fail
            go_roundw
            case rel =>
             refine ⟨k + 1, A4, c4, by omega, by rw [HFT2.o], by go_num, ?_, ?_, ?_, ?_⟩
             · rw [HFT2.o]; exact yq ((HN4.o.set 0 _).alloc _)
             · exact yq ((HR4.o.other (p := ⟨w3.heap.size, 0, none⟩) (by show w.heap.size + 1 ≠ w3.heap.size; omega) _).alloc _)
             · rw [HFT2.o]; exact yq (World.ownsRow.alloc (zad (ownsRow_setCell_below HO4.o (a := ⟨w3.heap.size, 0, none⟩) lN _) yO) _)
             · exact yq ((Below.setCell HB4.o (by show w.heap.size <= w3.heap.size; omega) _).alloc (by show w.heap.size <= _; have := HB4.o.size; simp [World.setCell]; omega) _)
            case measure => simp [intOf]; omega
          · have HFT2 := yq (show zb1 xs (es.take (k + 1)) = (out, n) by rw [HFT.o]; unfold zb0; rw [if_neg hc])
            have hcb : (zah out e == 0) = false := by simp [hc]
            go_wp2_with fail
            go_roundw
            case rel => exact ⟨k + 1, A, c, by omega, by rw [HFT2.o], by go_num, by rw [HFT2.o]; exact HN5, HR5, by rw [HFT2.o]; exact HO5, HB5⟩
            case measure => simp [intOf]; omega
        · have hkn : k = es.length := by omega
          subst hkn; rw [List.take_length] at HN HO |-
          have xN := HN.o.cell (i := 0) (v := .slice A (zb1 xs es).1.length c) rfl; have lN := HN.o.lt; have xR := HR.o.cell (i := 0) (v := .slice none 0 0) rfl; have fR := HR.o.frozen 0; have lR2 := HR.o.lt; go_wp2_with fail
          refine bodyPost_ret (v := .tuple #[.agg #[.slice A (zb1 xs es).1.length c], .int .i64 (zb1 xs es).2, .int .i64 0]) (by simp [results, Tryz.results14, go_sem, xR]) rfl ⟨Below.setCell HB.o (by show w.heap.size <= w.heap.size + 1; omega) _, .slice A (zb1 xs es).1.length c, ?_, by rw [HQ.o.2.1, HQ.o.2.2]⟩
          rw [HQ.o.1]; exact zad (ownsRow_setCell_below HO.o (a := ⟨w.heap.size + 1, 0, none⟩) (by show w.heap.size + 1 < w.heap.size + 2; omega) _) yO
def zdh (l : List (List zaa)) : List zaa := l.getD (l.length - 1) []
def zdi (o : Option (List (List zaa))) (e : zam) : Option (List (List zaa)) := o.bind fun l => if zah (zdh l) e = 0 then some (l ++ [zak (zdh l) e]) else none
def zbg (xs : List zaa) (es : List zam) : Option (List (List zaa)) := es.foldl zdi (some [xs])
def noE : zam := ⟨0, 0, 0, 0, [], ⟨#[]⟩⟩
def zb9 (gs : List (List zaa)) (es : List zam) (o : Option (List zam)) (i : Nat) : Option (List zam) :=
 o.bind fun l => if zay (gs.getD i []) (es.getD i noE) = 0 then some (l ++ zaJ (gs.getD i []) (es.getD i noE)) else none
def zbD (gs : List (List zaa)) (es : List zam) (n : Nat) : Option (List zam) := (List.range n).foldl (fun o t => zb9 gs es o (es.length - 1 - t)) (some [])
def zpt (xs : List zaa) (es : List zam) (count : Int) : Option (Option (List zam)) := (zbg xs es).map fun gs => zbD gs es (es.length - count.toNat)
def zbE (xs : List zaa) (es : List zam) (count : Int) : Int :=
 if zag xs && es.all zat then
  (if 60 < es.length \/ count < 0 \/ es.length < count then 2 else match zpt xs es count with | none => 4 | some none => 3 | some (some _) => 0)
 else 1
def zdj (xs : List zaa) (es : List zam) (count : Int) : List zam :=
 if zbE xs es count = 0 then ((zpt xs es count).getD none).getD [] else []
theorem zdC {xs : List zaa} {es : List zam} {count : Int} {c : Int} (h : zbE xs es count = c) (hc : c ≠ 0) : zdj xs es count = [] /\ zbE xs es count = c := ⟨by unfold zdj; rw [if_neg yO], h⟩
theorem zcr {l : List (List zaa)} {e : zam} (h : zah (zdh l) e = 0) : zdi (some l) e = some (l ++ [zak (zdh l) e]) := by simp [zdi, h]
theorem zcP {l : List (List zaa)} {e : zam} (h : ¬ zah (zdh l) e = 0) : zdi (some l) e = none := by simp [zdi, h]
theorem zcZ (es : List zam) : es.foldl zdi none = none := by
 induction es with
 | nil => rfl
 | cons x r ih => exact ih
theorem zeG {xs : List zaa} {es : List zam} {k : Nat} {e : zam} (h : es[k]? = some e) : zbg xs (es.take (k + 1)) = zdi (zbg xs (es.take k)) e := by
 unfold zbg; rw [List.take_add_one, h]; simp
theorem zeH {xs : List zaa} {es : List zam} {k : Nat} (h : zbg xs (es.take k) = none) : zbg xs es = none := by
 unfold zbg at h |-
 rw [<- List.take_append_drop k es, List.foldl_append, h, zcZ]
theorem zhm {xs : List zaa} {es : List zam} {gs : List (List zaa)} (h : zbg xs es = some gs) : gs.length = es.length + 1 := by
 unfold zbg at h
 suffices H : ∀ (l : List zam) (a o : List (List zaa)), l.foldl zdi (some a) = some o -> o.length = a.length + l.length by have := H es _ _ h; simpa [Nat.add_comm] using this
 intro l
 induction l with
 | nil => intro a o h; simp at h; simp [h]
 | cons x r ih =>
   intro a o h; rw [List.foldl_cons] at h; by_cases hc : zah (zdh a) x = 0
   · rw [zcr hc] at h
     have := ih _ _ h; rw [this]; simp; omega
   · rw [zcP hc, zcZ] at h; cases h
theorem zdS {xs : List zaa} {es : List zam} {gs : List (List zaa)} (hx : zag xs = true) (h : zbg xs es = some gs) : ∀ g ∈ gs, zag g = true := by
 unfold zbg at h
 suffices H : ∀ (l : List zam) (a o : List (List zaa)), (∀ g ∈ a, zag g = true) -> l.foldl zdi (some a) = some o -> ∀ g ∈ o, zag g = true from H es _ _ (fun g hg => by simp at hg; rw [hg]; exact hx) h
 intro l
 induction l with
 | nil => intro a o ha h; simp at h; rw [<- h]; exact ha
 | cons x r ih =>
   intro a o ha h; rw [List.foldl_cons] at h; by_cases hc : zah (zdh a) x = 0
   · rw [zcr hc] at h
     refine ih _ _ (fun g hg => ?_) h
     rcases List.mem_append.1 hg with hg | hg
     · exact ha g hg
     · simp at hg; rw [hg]; exact zd8 _ _
   · rw [zcP hc, zcZ] at h; cases h
theorem zca (gs : List (List zaa)) (es : List zam) (n : Nat) : zbD gs es (n + 1) = zb9 gs es (zbD gs es n) (es.length - 1 - n) := by
 unfold zbD; rw [List.range_succ, List.foldl_append]; rfl
theorem zgp {gs : List (List zaa)} {es : List zam} {k : Nat} (h : zbD gs es k = none) : ∀ n, k <= n -> zbD gs es n = none := by
 intro n hn
 induction n with
 | zero => have : k = 0 := by omega
           subst this; exact h
 | succ n ih =>
   rcases Nat.lt_or_ge k (n + 1) with h1 | h1
   · rw [zca, ih yO]; rfl
   · have : k = n + 1 := by omega
     subst this; exact h
theorem zh9 {xs : List zaa} {e : zam} (h : zah xs e = 0) : zay xs e = 0 \/ zay xs e = 3 := by
 unfold zay; rw [if_pos h]; split <;> simp
theorem Tryz.infoGr : (Tryz.prog.info? 26).map (fun i => (i.zero, i.size, i.bytes)) = some (some (.agg #[.slice none 0 0]), 1, 24) := by kernel_rfl
def znJ (w : World) (lo : Nat) (v : Value) (gs : List (List zaa)) : Prop :=
 ∃ us : List Value, us.length = gs.length /\ w.ownsRow lo 26 1 v gs.length us /\ ∀ (i : Nat) u g, us[i]? = some u -> gs[i]? = some g -> SlS zar w (fun b => b < w.heap.size /\ some b ≠ v.ownBlock) u g
theorem znJ.up {w w' : World} {lo : Nat} {v : Value} {gs : List (List zaa)} (h : znJ w lo v gs) (hb : Below w.heap.size w w') : znJ w' lo v gs := by
 obtain ⟨us, h1, h2, h3⟩ := h; refine ⟨us, h1, zaI h2 hb, fun i u g hu hg => ?_⟩
 exact ((h3 i u g hu hg).keep (fun b hb' => hb.block b hb'.1)).more fun b hb' => ⟨Nat.lt_of_lt_of_le hb'.1 hb.size, hb'.2⟩
theorem znJ.at_ {w : World} {lo : Nat} {v : Value} {gs : List (List zaa)} (h : znJ w lo v gs) {i : Nat} {x : List zaa} (hx : gs[i]? = some x) :
  ∃ g cap u, v = .slice (some ⟨g, 0, none⟩) gs.length cap /\ lo <= g /\ g < w.heap.size /\ gs.length <= cap /\ cap <= maxLen /\ w.cell? ⟨g, i, none⟩ = some u /\ Sl zar w w.heap.size u x := by
 obtain ⟨us, h1, h2, h3⟩ := h; have hi : i < gs.length := (List.getElem?_eq_some_iff.1 hx).1
 obtain ⟨g, cap, rfl, h4, h5, h6, h7⟩ := zbI h2 yO; have hu : us[i]? = some us[i] := ye yO; exact ⟨g, cap, us[i], rfl, h4, h5, h6.1, h6.2, h7 i _ hu, (h3 i _ x hu hx).more fun b hb => hb.1⟩
theorem zpR {w : World} {S : Nat -> Prop} {u : Value} {x : List zaa} (h : SlS zar w S u x) : u.oneCell' = true := by
 obtain ⟨A, c, rfl, _⟩ := h; rfl
theorem zk8 {W : World} {lo N : Nat} {u : Value} {x : List zaa} (hN : N = W.heap.size) (h : lo <= W.heap.size) (hu : Sl zar W W.heap.size u x) : znJ (W.alloc (.cells #[u] 26)) lo (.slice (some ⟨N, 0, none⟩) 1 1) [x] := by
 subst hN; refine ⟨[u], rfl, World.ownsRow_lit W #[u] 1 h (by decide) rfl, fun i u' g hu' hg => ?_⟩
 have hi : i = 0 := by
  have := (List.getElem?_eq_some_iff.1 hg).1
  simp at this; exact this
 subst hi; simp at hu' hg
 subst hu' hg; refine (hu.keep (fun b hb => Below.heap_alloc W _ b hb)).more fun b hb => ⟨by simp; omega, ?_⟩
 simp [Value.ownBlock]; omega
theorem zns {W : World} {ops : Array Oper} {rest : List Oper} {o : Oper} {a : Act} {Q : Exit -> Act -> World -> Prop} (hgd : o.guard = none) (s x : Operand)
  (ho : o.op = .call { callee := .builtin .append, args := #[s, x], argTypes := #[51, 51] }) {u : Value} {y : List zaa} {lo : Nat} {v : Value} {gs : List (List zaa)}
  (hs : a.eval s = v) {N : Nat} (hx : a.eval x = .slice (some ⟨N, 0, none⟩) 1 1) (hN : N = W.heap.size) (hown : znJ W lo v gs) (hlen : gs.length <= 1048576) (hbase : lo <= W.heap.size)
  (hu : Sl zar W W.heap.size u y) (hne : ∀ g, v.ownBlock = some g -> SlS zar W (fun b => b < W.heap.size /\ b ≠ g) u y)
  (h : ∀ g' c' w', znJ w' lo (.slice (some ⟨g', 0, none⟩) (gs.length + 1) c') (gs ++ [y]) -> (v.ownBlock = some g' \/ g' = W.heap.size + 1) -> W.grownBy w' v.ownBlock -> Below lo W w' -> wpList Tryz.prog ops Q rest (a.put o.dst (.slice (some ⟨g', 0, none⟩) (gs.length + 1) c')) w') :
  wpList Tryz.prog ops Q (o :: rest) a (W.alloc (.cells #[u] 26)) := by
 subst hN; obtain ⟨us, h1, hrow, h3⟩ := hown; have hu1 : u.oneCell' = true := zpR hu; obtain ⟨i0, hi0, hz0, hz1, hz2⟩ := info_parts Tryz.infoGr; refine zem hgd s x 51 ho i0 _ 1 24 Tryz.underlying51 hi0 hz0 hz1 hz2 rfl (by decide) hs hx rfl (by simpa using hu1) hrow yO yO hbase ?_
 intro v' w' k1 k2 k3; have hg : W.grownBy w' v.ownBlock := ⟨k2.os, k2.tape, k2.output, Nat.le_trans yS k2.size, fun y hy hne => (k2.block y (by simp; omega) hne).trans (Below.heap_alloc W _ y hy)⟩
 have hb : Below lo W w' := (Below.refl lo W).grown hg hbase (fun y hy => (World.ownsRow.lt hrow y hy).1); have k1' : w'.ownsRow lo 26 1 v' (gs.length + 1) (us ++ [u]) := by simpa using k1
 obtain ⟨g', c', rfl, _⟩ := zbI k1' yO; have k3' : v.ownBlock = some g' \/ g' = W.heap.size + 1 := k3.imp (fun q => q.symm.trans rfl) (fun q => by simpa [Value.ownBlock] using q); refine h g' c' w' ⟨us ++ [u], by simp [h1], by simpa using k1', fun i u' g hu' hg' => ?_⟩ k3' hg hb
 have hkeep : ∀ {z : Value} {t : List zaa}, SlS zar W (fun b => b < W.heap.size /\ some b ≠ v.ownBlock) z t -> SlS zar w' (fun b => b < w'.heap.size /\ some b ≠ (Value.slice (some ⟨g', 0, none⟩) (gs.length + 1) c').ownBlock) z t := by
  intro z t ht; refine (ht.keep (fun b hb' => hg.block b hb'.1 hb'.2)).more fun b hb' => ⟨Nat.lt_of_lt_of_le hb'.1 hg.size, ?_⟩
  simp only [Value.ownBlock]
  intro e; simp at e
  rcases k3' with k | k
  · rw [k] at hb'; exact hb'.2 (by rw [e])
  · omega
 rcases Nat.lt_or_ge i us.length with hlt | hge
 · rw [List.getElem?_append_left hlt] at hu'
   rw [List.getElem?_append_left yO] at hg'
   exact hkeep (h3 i u' g hu' hg')
 · rw [List.getElem?_append_right hge] at hu'
   rw [List.getElem?_append_right yO] at hg'
   have hi0 : i - us.length = 0 := by
    have := (List.getElem?_eq_some_iff.1 hu').1
    simp at this; omega
   rw [hi0] at hu'; rw [show i - gs.length = 0 by omega] at hg'; simp at hu' hg'
   subst hu' hg'; refine hkeep ?_
   cases hv : v.ownBlock with
   | none => exact hu.more fun b hb => ⟨hb, by simp⟩
   | some g0 => exact (hne g0 hv).more fun b hb => ⟨hb.1, by simpa using hb.2⟩
theorem zpS {W : World} {lo hi : Nat} {v : Value} {es : List zam} (h : zh6 W lo hi v es) : ∃ ps r A c, ps.map Prod.fst = es /\ v = .slice A es.length c /\ W.ownsRow lo 37 6 v es.length (ps.flatMap za1) /\ zbT W v lo hi r ps /\ (∀ u ∈ ps.flatMap za1, u.oneCell' = true) := by
 obtain ⟨ps, r, h1, h2, h3, h4, h5⟩ := h; obtain ⟨A, c, hv, _⟩ := zae h2; refine ⟨ps, r, A, c, h1, hv, h2, h5, fun u hu => ?_⟩
 obtain ⟨p, hp, hup⟩ := List.mem_flatMap.1 hu; obtain ⟨i, hi, hpi⟩ := List.getElem_of_mem hp; have h6 := (h5.at_ i p (by rw [<- hpi]; exact ye hi)).sl; obtain ⟨A2, c2, e2, _⟩ := h6; simp only [za1, List.mem_cons, List.not_mem_nil, or_false] at hup
 rcases hup with rfl | rfl | rfl | rfl | rfl | rfl <;> first | rfl | (rw [e2]; rfl)
theorem zbT.app {w : World} {v v2 : Value} {lo hi lo2 hi2 : Nat} {r r2 : Nat -> Nat} {ps qs : List (zam × Value)} (h : zbT w v lo hi r ps) (h2 : zbT w v2 lo2 hi2 r2 qs) (h3 : hi <= lo2) (hv : ∀ g, v.ownBlock = some g -> g < lo2 \/ hi2 <= g) (hl : lo <= hi) (hl2 : lo2 <= hi2) : ∃ r', zbT w v lo hi2 r' (ps ++ qs) := by
 refine ⟨fun j => if j < 2 * ps.length then r j else r2 (j - 2 * ps.length), ?_, ?_, ?_, ?_⟩
 · have := h.low
   have a2 := h2.low; have a3 := h2.mono 0 (0 - 2 * ps.length) yO; split <;> omega
 · intro i j hij
   have h4 := h.mono i j hij; have h5 := h.high i; have h6 := h2.mono (i - 2 * ps.length) (j - 2 * ps.length) yO; have h7 := h2.mono 0 (j - 2 * ps.length) yO; have h8 := h2.low
   repeat' split
   all_goals omega
 · intro i
   have h5 := h.high i; have h6 := h2.high (i - 2 * ps.length); split <;> omega
 · intro i p hp
   rcases Nat.lt_or_ge i ps.length with hlt | hge
   · rw [List.getElem?_append_left hlt] at hp
     have := h.at_ i p hp; simp only [show 2 * i < 2 * ps.length by omega, show 2 * i + 1 < 2 * ps.length by omega, if_true]
     exact this
   · rw [List.getElem?_append_right hge] at hp
     have := h2.at_ _ p hp; simp only [show ¬ (2 * i < 2 * ps.length) by omega, show ¬ (2 * i + 1 < 2 * ps.length) by omega, if_false]
     rw [show 2 * i - 2 * ps.length = 2 * (i - ps.length) by omega, show 2 * i + 1 - 2 * ps.length = 2 * (i - ps.length) + 1 by omega]; refine ⟨this.1, fun g hg => ?_⟩
     have k1 := hv g hg; have k2 := h2.low; have k3 := h2.mono 0 (2 * (i - ps.length)) yO; have k4 := h2.high (2 * (i - ps.length) + 1); omega
theorem zgq {W : World} {ops : Array Oper} {rest : List Oper} {o : Oper} {a : Act} {Q : Exit -> Act -> World -> Prop} (hgd : o.guard = none) (s x : Operand)
  (ho : o.op = .call { callee := .builtin .append, args := #[s, x], argTypes := #[28, 28] }) {lo hp lo2 hi2 : Nat} {v v2 : Value} {es es2 : List zam}
  (hs : a.eval s = v) (hx : a.eval x = v2) (hown : zgD W lo hp v es) (hown2 : zh6 W lo2 hi2 v2 es2) (hlen : es.length + es2.length <= 1048576) (hbase : lo <= W.heap.size)
  (h1 : hp <= lo2) (h2 : ∀ g, v.ownBlock = some g -> g < lo2) (h3 : lo <= hp) (h4 : lo2 <= hi2) (h5 : hi2 <= W.heap.size)
  (h : ∀ A' c' w', zgD w' lo hi2 (.slice A' (es.length + es2.length) c') (es ++ es2) -> (∀ g, (Value.slice A' (es.length + es2.length) c').ownBlock = some g -> g < w'.heap.size) -> W.grownBy w' v.ownBlock -> Below lo W w' -> wpList Tryz.prog ops Q rest (a.put o.dst (.slice A' (es.length + es2.length) c')) w') :
  wpList Tryz.prog ops Q (o :: rest) a W := by
 refine wpList_plain hgd fun _ hK => ?_
 obtain ⟨ps, r, hm, hrow, hP⟩ := hown; obtain ⟨qs, r2, A, c, hm2, rfl, hrow2, hP2, hone⟩ := zpS hown2; obtain ⟨i0, hi0, hz0, hz1, hz2⟩ := info_parts Tryz.infoEd; have hps : ps.length = es.length := by rw [<- hm]; simp
 have hqs : qs.length = es2.length := by rw [<- hm2]; simp
 have H : ∃ v' w', (Builtin.append_ #[28, 28] o.type #[v, .slice A es2.length c]).run Tryz.prog W = .ok v' w' /\ w'.ownsRow lo 37 6 v' (es.length + es2.length) ((ps ++ qs).flatMap za1) /\ W.grownBy w' v.ownBlock /\ (v'.ownBlock = v.ownBlock \/ v'.ownBlock = some W.heap.size) := by
  rcases A with _ | ad
  · have h0 : es2 = [] := by
     rcases Nat.eq_zero_or_pos es2.length with h0 | h0
     · exact yn h0
     · obtain ⟨g, cap, h, _⟩ := zbI hrow2 h0; cases h
    subst h0; have hq0 : qs = [] := yn (by simpa using hqs); subst hq0; exact ⟨v, W, zcc W lo _ _ 37 i0 6 Tryz.underlying28 hi0 v _ _ hrow c, by simpa using hrow, World.grownBy.refl W _, .inl rfl⟩
  · have hcells : ∀ j u, (qs.flatMap za1)[j]? = some u -> W.cell? (ad.add j) = some u := by
     intro j u hu; have hjl : j < (qs.flatMap za1).length := (List.getElem?_eq_some_iff.1 hu).1
     rw [zoI] at hjl; obtain ⟨g, cap, hv, _, _, _, hc⟩ := zbI hrow2 yO; have had : ad = ⟨g, 0, none⟩ := by injection hv with hv _ _; injection hv
     have := hc j u hu; rw [had]; have ha : (⟨g, 0, none⟩ : Addr).add j = ⟨g, j, none⟩ := by unfold Addr.add; split <;> simp_all
     rw [ha]; exact this
    obtain ⟨v', w', hrun, h2, h3, _, h5⟩ := run_append_own_at (P := Tryz.prog) W lo 28 o.type 37 i0 _ 6 72 Tryz.underlying28 hi0 hz0 hz1 hz2 rfl (by decide) v _ _ hrow ad es2.length c (qs.flatMap za1)
     (by rw [zoI, hqs]) hcells hone (by simp only [maxLen]; omega) yO hbase
    exact ⟨v', w', hrun, by simpa using h2, h3, h5⟩
 obtain ⟨v', w', hrun, k1, k2, k3⟩ := H; unfold Oper.wp execOp; simp only [ho, resolve, invoke, builtin, Sem.run_bind, Sem.run_pure, Result.andThen_ok, List.map_toArray, List.map_cons, List.map_nil, hs, hx, hrun]
 have hb : Below lo W w' := (Below.refl lo W).grown k2 hbase (fun y hy => (World.ownsRow.lt hrow y hy).1); obtain ⟨A', c', rfl, _⟩ := zae k1; refine hK _ _ (h A' c' w' ?_ (fun g hg => (World.ownsRow.lt k1 g hg).2) k2 hb)
 obtain ⟨r', hr'⟩ := hP.app hP2 h1 (fun g hg => .inl (h2 g hg)) h3 h4; refine ⟨ps ++ qs, r', by rw [List.map_append, hm, hm2], by simpa using k1, ?_⟩
 refine zbT.reval (v := v) (N := W.heap.size) (hr'.keep (fun y _ hy hne => k2.block y yO (fun e => hne e.symm)) k2.size) k3 yO
theorem ziU (l : List zam) : ∀ (h : List zaa) (m : Int), (l.foldl zb0 (h, m)).2 <= m + l.length := by
 induction l with
 | nil => intro h m; simp
 | cons e l ih =>
   intro h m; rw [List.foldl_cons, List.length_cons]; by_cases hc : zah h e = 0
   · rw [show zb0 (h, m) e = (zak h e, m + 1) by unfold zb0; rw [if_pos hc]]
     have := ih (zak h e) (m + 1); omega
   · rw [show zb0 (h, m) e = (h, m) by unfold zb0; rw [if_neg hc]]
     have := ih h m; omega
theorem zcb {e : zam} {l : List zam} {h : List zaa} {m : Int} (hc : ((e :: l).foldl zb0 (h, m)).2 = m + ((e :: l).length : Nat)) :
  zah h e = 0 /\ (e :: l).foldl zb0 (h, m) = l.foldl zb0 (zak h e, m + 1) /\ (l.foldl zb0 (zak h e, m + 1)).2 = (m + 1) + l.length := by
 rw [List.foldl_cons] at hc |-
 by_cases h1 : zah h e = 0
 · have hs : zb0 (h, m) e = (zak h e, m + 1) := by unfold zb0; rw [if_pos h1]
   rw [hs] at hc |-
   refine ⟨h1, rfl, ?_⟩
   rw [hc, List.length_cons]; omega
 · exfalso
   have hs : zb0 (h, m) e = (h, m) := by unfold zb0; rw [if_neg h1]
   rw [hs, List.length_cons] at hc; have := ziU l h m; omega
theorem znt {a b : List zam} {h : List zaa} {m : Int} (hc : ((a ++ b).foldl zb0 (h, m)).2 = m + ((a ++ b).length : Nat)) :
  ∃ h', a.foldl zb0 (h, m) = (h', m + a.length) /\ (b.foldl zb0 (h', m + a.length)).2 = (m + a.length) + b.length := by
 rw [List.foldl_append, List.length_append] at hc; obtain ⟨h', m', hp⟩ : ∃ h' m', a.foldl zb0 (h, m) = (h', m') := ⟨_, _, rfl⟩
 have h1 := ziU a h m; rw [hp] at hc h1; have h2 := ziU b h' m'; have h3 : m' <= m + a.length := h1; have : m' = m + a.length := by omega
 subst this; exact ⟨h', hp, by rw [hc]; omega⟩
theorem zon (n : Nat) : ziG [] n = [] := by unfold ziG; simp
theorem zgE {h : List zaa} {i j : Int} {A M B : List UInt8} (ha : zah h (zfn i j) = 0) (hw : zau h = A ++ (M ++ B)) (hi : i = A.length) (hj : j = A.length + M.length) : zau (zak h (zfn i j)) = A ++ B := by
 have he := zdg ha; unfold EwP zfn at he; dsimp only at he
 rw [if_neg (by decide), if_pos rfl, hw] at he; unfold zfn; rw [he, zdf hi]
 have : zb4 (A ++ (M ++ B)) j ((A ++ (M ++ B)).length : Nat) = B := by
  have := zcB (A := A ++ M) (B := B) (i := j) (j := ((A ++ (M ++ B)).length : Nat)) (by rw [hj, List.length_append]; omega) (by simp only [List.length_append]; omega); rwa [List.append_assoc] at this
 rw [this]
theorem zgF {h p : List zaa} {i : Int} {A B : List UInt8} (ha : zah h (zhf i p) = 0) (hw : zau h = A ++ B) (hi : i = A.length) : zau (zak h (zhf i p)) = A ++ (zau p ++ B) := by
 have he := zdg ha; unfold EwP zhf at he; dsimp only at he
 rw [if_pos rfl, hw] at he; unfold zhf; rw [he, zdf hi, zcB hi yS, List.append_assoc]
theorem zoo {xs h : List zaa} {e : zam} {bs : List zam} {m : Int} (ha : zah xs e = 0) (hb : zc1 xs (zde xs) e = some bs) (hh : zau h = zau (zak xs e)) (hc : (bs.foldl zb0 (h, m)).2 = m + (bs.length : Nat)) :
  zau (bs.foldl zb0 (h, m)).1 = zau xs := by
 have hE := zdg ha; obtain ⟨h1, h2, h3⟩ := zbw ha; obtain ⟨_, ls, hl⟩ := zai h1; have hlq : zde xs = ls := by simp [zde, hl]
 have hgl := zaD hl; have hwl := zbf hl; obtain ⟨hk, hi, hj, hq, hij, hj0, hgp⟩ := zcI h2; rw [<- hh] at hE; rw [hlq] at hb; rw [hgl] at h3; unfold zbp at h3; unfold EwP at hE; unfold zc1 at hb; obtain ⟨_, lp, hlp⟩ := zai hgp; have hpl : zaF e.part = (zau e.part).length := by rw [zaD hlp, zbf hlp]
 generalize hW : zau xs = W at hE hwl
 have hpw : ∀ {i j : Int}, 0 <= i -> i <= j -> j <= zao ls -> zau (zap xs ls i j) = zb4 W i j := fun a b c => by
  obtain ⟨_, _, q⟩ := zeY hl a b c; rw [q, hW]
 rcases zeo hk with k1 | k1 | k1 | k1 | k1 | k1 | k1
 · rw [if_pos k1] at h3 hE hb
   have h3 : e.i <= zao ls := by simpa using h3
   cases hb
   obtain ⟨A, B, rfl, hA⟩ := zjJ W hi.1 yO; rw [zdf hA.symm, zcB hA.symm yS] at hE; obtain ⟨c1, c2, c3⟩ := zcb hc; rw [c2]; exact zgE (A := A) (M := zau e.part) (B := B) c1 (by rw [hE, List.append_assoc]) hA.symm yO
 · rw [if_neg yO, if_pos k1] at hE
   rw [if_neg yO, if_neg yO, if_neg yO] at h3; have h3 : e.j <= zao ls := by simpa using h3
   have hij := hij yO; have hp := hpw hi.1 hij h3; obtain ⟨A, M, B, rfl, hA, hM⟩ := zno W hi.1 hij yO; rw [zdf hA.symm] at hE; rw [zdR hA.symm yO] at hp
   have hB : zb4 (A ++ (M ++ B)) e.j ((A ++ (M ++ B)).length : Nat) = B := by
    have := zcB (A := A ++ M) (B := B) (i := e.j) (j := ((A ++ (M ++ B)).length : Nat)) (by rw [List.length_append]; omega) (by simp only [List.length_append]; omega); rwa [List.append_assoc] at this
   rw [hB] at hE; rw [if_neg yO] at hb; by_cases h0 : e.j - e.i = 0
   · rw [if_pos h0] at hb
     cases hb
     have : M = [] := yn yO; subst this; simpa using hE
   · rw [if_neg h0, if_neg yO, if_neg yO, if_neg yO] at hb
     split at hb
     · cases hb
       unfold zfo at hc |-
       rw [if_pos k1, List.nil_append] at hc |-
       obtain ⟨c1, c2, c3⟩ := zcb hc; rw [c2]; show zau (zak h (zhf e.i (zap xs ls e.i e.j))) = _
       rw [zgF (A := A) (B := B) c1 hE hA.symm, hp]
     · cases hb
 · rw [if_neg yO, if_neg yO, if_pos k1] at hE
   rw [if_neg yO, if_pos k1] at h3; have h3 : e.j <= zao ls /\ e.k <= zao ls := by simpa using h3
   have hij := hij yO; rw [if_neg yO] at hb; obtain ⟨M, hM⟩ : ∃ M, zb4 W e.i e.j = M := ⟨_, rfl⟩
   have hMl : (M.length : Int) = e.j - e.i := by rw [<- hM]; exact zeS hi.1 hij yO
   rw [hM] at hE; obtain ⟨A, B, rfl, hA⟩ := zjJ W hq.1 yO; rw [zdf hA.symm, zcB hA.symm yS] at hE; by_cases h0 : e.j - e.i = 0
   · rw [if_pos h0] at hb
     cases hb
     have : M = [] := yn yO; subst this; simpa using hE
   · rw [if_neg h0, if_pos k1] at hb
     cases hb
     obtain ⟨c1, c2, c3⟩ := zcb hc; rw [c2]; exact zgE (A := A) (M := M) (B := B) c1 (by rw [hE, List.append_assoc]) hA.symm yO
 · rw [if_neg yO, if_neg yO, if_neg yO, if_pos k1] at hE
   rw [if_neg yO, if_neg yO, if_pos k1] at h3; have h3 : e.j <= zao ls /\ (e.k <= e.i \/ (e.j <= e.k /\ e.k <= zao ls)) := by simpa using h3
   have hij := hij yO; rw [if_neg yO] at hb; by_cases hki : e.k <= e.i
   · rw [if_pos hki] at hE
     obtain ⟨P, Q, M, B, rfl, hP, hQ, hM⟩ := zoJ W hq.1 hki hij yO; have hlen : ((P ++ (Q ++ (M ++ B))).length : Int) = P.length + Q.length + M.length + B.length := by simp only [List.length_append]; omega
     have e1 : zb4 (P ++ (Q ++ (M ++ B))) e.i e.j = M := by
      have := zdR (A := P ++ Q) (M := M) (B := B) (i := e.i) (j := e.j) (by rw [List.length_append]; omega) (by rw [List.length_append]; omega); rwa [List.append_assoc] at this
     have e2 : zb4 (P ++ (Q ++ (M ++ B))) e.k e.i = Q := zdR hP.symm yO
     have e3 : zb4 (P ++ (Q ++ (M ++ B))) e.j ((P ++ (Q ++ (M ++ B))).length : Nat) = B := by
      have := zcB (A := P ++ (Q ++ M)) (B := B) (i := e.j) (j := ((P ++ (Q ++ (M ++ B))).length : Nat)) (by simp only [List.length_append]; omega) (by simp only [List.length_append]; omega); simpa only [List.append_assoc] using this
     rw [zdf hP.symm, e1, e2, e3] at hE; by_cases h0 : e.j - e.i = 0
     · rw [if_pos h0] at hb
       cases hb
       have : M = [] := yn yO; subst this; show zau h = _
       simpa using hE
     · rw [if_neg h0, if_neg yO, if_pos k1, if_pos hki] at hb
       cases hb
       obtain ⟨c1, c2, c3⟩ := zcb hc; rw [c2]; have he := zdg c1; unfold EwP zjQ at he; dsimp only at he
       have hE' : zau h = P ++ (M ++ (Q ++ B)) := by rw [hE]; simp only [List.append_assoc]
       rw [if_neg yO, if_neg yO, if_neg yO, if_pos rfl, if_neg yO, hE'] at he; show zau (zak h (zjQ e.k (e.k + (e.j - e.i)) e.j)) = _
       unfold zjQ; rw [he, zdf hP.symm]
       have f1 : zb4 (P ++ (M ++ (Q ++ B))) (e.k + (e.j - e.i)) e.j = Q := by
        have := zdR (A := P ++ M) (M := Q) (B := B) (i := e.k + (e.j - e.i)) (j := e.j) (by rw [List.length_append]; omega) (by rw [List.length_append]; omega); rwa [List.append_assoc] at this
       have f2 : zb4 (P ++ (M ++ (Q ++ B))) e.k (e.k + (e.j - e.i)) = M := zdR hP.symm yO
       have f3 : zb4 (P ++ (M ++ (Q ++ B))) e.j ((P ++ (M ++ (Q ++ B))).length : Nat) = B := by
        have := zcB (A := P ++ (M ++ Q)) (B := B) (i := e.j) (j := ((P ++ (M ++ (Q ++ B))).length : Nat)) (by simp only [List.length_append]; omega) (by simp only [List.length_append]; omega); simpa only [List.append_assoc] using this
       rw [f1, f2, f3]; simp only [List.append_assoc]
   · rw [if_neg hki] at hE
     obtain ⟨d1, d2⟩ : e.j <= e.k /\ e.k <= zao ls := by
      rcases h3.2 with hh | hh
      · exact absurd hh hki
      · exact hh
     obtain ⟨A, M, Q, B, rfl, hA, hM, hQ⟩ := zoJ W hi.1 hij d1 yO
     have e1 : zb4 (A ++ (M ++ (Q ++ B))) e.j e.k = Q := by
      have := zdR (A := A ++ M) (M := Q) (B := B) (i := e.j) (j := e.k) (by rw [List.length_append]; omega) (by rw [List.length_append]; omega); rwa [List.append_assoc] at this
     have e2 : zb4 (A ++ (M ++ (Q ++ B))) e.i e.j = M := zdR hA.symm yO
     have e3 : zb4 (A ++ (M ++ (Q ++ B))) e.k ((A ++ (M ++ (Q ++ B))).length : Nat) = B := by
      have := zcB (A := A ++ (M ++ Q)) (B := B) (i := e.k) (j := ((A ++ (M ++ (Q ++ B))).length : Nat)) (by simp only [List.length_append]; omega) (by simp only [List.length_append]; omega); simpa only [List.append_assoc] using this
     rw [zdf hA.symm, e1, e2, e3] at hE; by_cases h0 : e.j - e.i = 0
     · rw [if_pos h0] at hb
       cases hb
       have : M = [] := yn yO; subst this; show zau h = _
       simpa using hE
     · rw [if_neg h0, if_neg yO, if_pos k1, if_neg hki] at hb
       cases hb
       obtain ⟨c1, c2, c3⟩ := zcb hc; rw [c2]; have he := zdg c1; unfold EwP zjQ at he; dsimp only at he
       have hE' : zau h = A ++ (Q ++ (M ++ B)) := by rw [hE]; simp only [List.append_assoc]
       rw [if_neg yO, if_neg yO, if_neg yO, if_pos rfl, if_pos yO, hE'] at he; show zau (zak h (zjQ (e.k - (e.j - e.i)) e.k e.i)) = _
       unfold zjQ; rw [he, zdf hA.symm]
       have f1 : zb4 (A ++ (Q ++ (M ++ B))) (e.k - (e.j - e.i)) e.k = M := by
        have := zdR (A := A ++ Q) (M := M) (B := B) (i := e.k - (e.j - e.i)) (j := e.k) (by rw [List.length_append]; omega) (by rw [List.length_append]; omega); rwa [List.append_assoc] at this
       have f2 : zb4 (A ++ (Q ++ (M ++ B))) e.i (e.k - (e.j - e.i)) = Q := zdR hA.symm yO
       have f3 : zb4 (A ++ (Q ++ (M ++ B))) e.k ((A ++ (Q ++ (M ++ B))).length : Nat) = B := by
        have := zcB (A := A ++ (Q ++ M)) (B := B) (i := e.k) (j := ((A ++ (Q ++ (M ++ B))).length : Nat)) (by simp only [List.length_append]; omega) (by simp only [List.length_append]; omega); simpa only [List.append_assoc] using this
       rw [f1, f2, f3]; simp only [List.append_assoc]
 all_goals
  rw [if_neg yO, if_neg yO, if_neg yO, if_neg yO] at hE; rw [if_neg yO, if_neg yO, if_neg yO] at h3; have h3 : e.j <= zao ls := by simpa using h3
  have hij := hij yO; have hp := hpw hi.1 hij h3; obtain ⟨M', hE, t5, t6, t7⟩ := hE; obtain ⟨A, M, B, rfl, hA, hM⟩ := zno W hi.1 hij yO; rw [zdR hA.symm yO] at hp t5 t6 t7
  have hB : zb4 (A ++ (M ++ B)) e.j ((A ++ (M ++ B)).length : Nat) = B := by
   have := zcB (A := A ++ M) (B := B) (i := e.j) (j := ((A ++ (M ++ B)).length : Nat)) (by rw [List.length_append]; omega) (by simp only [List.length_append]; omega); rwa [List.append_assoc] at this
  rw [zdf hA.symm, hB] at hE; have hE' : zau h = A ++ (M' ++ B) := by rw [hE, List.append_assoc]
  clear hE hB hpw; rw [if_neg yO] at hb
 · have t5 := t5 k1
   subst t5; by_cases h0 : e.j - e.i = 0
   · rw [if_pos h0] at hb
     cases hb
     have : M = [] := yn yO; subst this; simpa using hE'
   · rw [if_neg h0, if_neg yO, if_neg yO, if_pos k1] at hb
     cases hb
     obtain ⟨c1, c2, c3⟩ := zcb hc; rw [c2]; have he := zdg c1; unfold EwP zkz at he; dsimp only at he
     rw [if_neg yO, if_neg yO, if_neg yO, if_neg yO, hE'] at he; obtain ⟨M2, he, u5, _, _⟩ := he; have u5 := u5 rfl; rw [zdR hA.symm (by rw [List.length_reverse]; omega), List.reverse_reverse] at u5; subst u5; show zau (zak h (zkz e.i e.j)) = _
     unfold zkz
     have hB2 : zb4 (A ++ (M2.reverse ++ B)) e.j ((A ++ (M2.reverse ++ B)).length : Nat) = B := by
      have := zcB (A := A ++ M2.reverse) (B := B) (i := e.j) (j := ((A ++ (M2.reverse ++ B)).length : Nat)) (by rw [List.length_append, List.length_reverse]; omega) (by simp only [List.length_append]; omega); rwa [List.append_assoc] at this
     rw [he, zdf hA.symm, hB2, List.append_assoc]
 · have t6 := t6 k1
   subst t6; by_cases h0 : e.j - e.i = 0
   · rw [if_pos h0] at hb
     cases hb
     have : M = [] := yn yO; subst this; rw [zon] at hE'; exact hE'
   · rw [if_neg h0, if_neg yO, if_neg yO, if_neg yO] at hb
     split at hb
     · cases hb
       unfold zfo at hc |-
       rw [if_neg yO, if_pos k1] at hc |-
       have hrl : ((ziG M e.k.toNat).length : Int) = (e.j - e.i) * e.k := by
        rw [ziI, Int.natCast_mul, hM, Int.mul_comm]; congr 1
        omega
       by_cases hz : 0 < (e.j - e.i) * e.k
       · rw [if_pos hz, List.singleton_append] at hc |-
         obtain ⟨c1, c2, c3⟩ := zcb hc; obtain ⟨g1, g2, g3⟩ := zcb c3; rw [c2, g2]; have hd := zgE (A := A) (M := ziG M e.k.toNat) (B := B) c1 hE' hA.symm yO; show zau (zak (zak h (zfn e.i (e.i + (e.j - e.i) * e.k))) (zhf e.i (zap xs ls e.i e.j))) = _
         rw [zgF (A := A) (B := B) g1 hd hA.symm, hp]
       · rw [if_neg hz, List.nil_append] at hc |-
         have hnil : ziG M e.k.toNat = [] := yn yO; rw [hnil, List.nil_append] at hE'; obtain ⟨c1, c2, c3⟩ := zcb hc; rw [c2]; show zau (zak h (zhf e.i (zap xs ls e.i e.j))) = _
         rw [zgF (A := A) (B := B) c1 hE' hA.symm, hp]
     · cases hb
 · have t7 := t7 k1
   by_cases h0 : e.j - e.i = 0
   · rw [if_pos h0] at hb
     cases hb
     have : M = [] := yn yO; subst this; have : M' = [] := yn (by rw [t7]; rfl); subst this; exact hE'
   · rw [if_neg h0, if_neg yO, if_neg yO, if_neg yO] at hb
     split at hb
     · cases hb
       unfold zfo at hc |-
       rw [if_neg yO, if_neg yO, List.singleton_append] at hc |-
       obtain ⟨c1, c2, c3⟩ := zcb hc; obtain ⟨g1, g2, g3⟩ := zcb c3; rw [c2, g2]; have hd := zgE (A := A) (M := M') (B := B) c1 hE' hA.symm yO; show zau (zak (zak h (zfn e.i e.j)) (zhf e.i (zap xs ls e.i e.j))) = _
       rw [zgF (A := A) (B := B) g1 hd hA.symm, hp]
     · cases hb
theorem zd9 {xs : List zaa} {es : List zam} {gs : List (List zaa)} (h : zbg xs es = some gs) : ∀ k, k <= es.length -> zb1 xs (es.take k) = (gs.getD k [], (k : Int)) /\ (k < es.length -> zah (gs.getD k []) (es.getD k noE) = 0 /\ gs.getD (k + 1) [] = zak (gs.getD k []) (es.getD k noE)) := by
 have hpre : ∀ k, k <= es.length -> ∃ o, zbg xs (es.take k) = some o /\ o.length = k + 1 /\ (∃ t, gs = o ++ t) := by
  intro k hk; cases ho : zbg xs (es.take k) with
  | none => rw [zeH ho] at h; cases h
  | some o =>
    refine ⟨o, rfl, by rw [zhm ho, List.length_take]; omega, ?_⟩
    have h' := h; unfold zbg at h' ho; rw [<- List.take_append_drop k es, List.foldl_append, ho] at h'
    suffices H : ∀ (l : List zam) (a o : List (List zaa)), l.foldl zdi (some a) = some o -> ∃ t, o = a ++ t from H _ _ _ h'
    intro l
    induction l with
    | nil => intro a o h; simp at h; exact ⟨[], by simp [h]⟩
    | cons x r ih =>
      intro a o h; rw [List.foldl_cons] at h; by_cases hc : zah (zdh a) x = 0
      · rw [zcr hc] at h
        obtain ⟨t, ht⟩ := ih _ _ h; exact ⟨[zak (zdh a) x] ++ t, by rw [ht, List.append_assoc]⟩
      · rw [zcP hc, zcZ] at h; cases h
 have hstep : ∀ k, k < es.length -> zah (gs.getD k []) (es.getD k noE) = 0 /\ gs.getD (k + 1) [] = zak (gs.getD k []) (es.getD k noE) := by
  intro k hk; obtain ⟨o, h1, h2, t, h3⟩ := hpre k yO; obtain ⟨o', h1', h2', t', h3'⟩ := hpre (k + 1) yO; have he : es[k]? = some (es.getD k noE) := by rw [yg, ye hk]; rfl
  rw [zeG he, h1] at h1'
  have htop : zdh o = gs.getD k [] := by
   unfold zdh; rw [h3, h2, Nat.add_sub_cancel, yg, yg, List.getElem?_append_left yO]
  by_cases hc : zah (zdh o) (es.getD k noE) = 0
  · rw [zcr hc] at h1'
    cases h1'
    rw [htop] at hc h3'; refine ⟨hc, ?_⟩
    obtain ⟨Y, hY⟩ : ∃ Y, zak (gs.getD k []) (es.getD k noE) = Y := ⟨_, rfl⟩
    rw [hY] at h3' |-
    rw [h3', yg, List.append_assoc, List.getElem?_append_right yO, h2, Nat.sub_self]
    rfl
  · rw [zcP hc] at h1'; cases h1'
 intro k
 induction k with
 | zero =>
   intro _; refine ⟨?_, hstep 0⟩
   obtain ⟨o, h1, h2, t, h3⟩ := hpre 0 yO
   have : o = [xs] := by
    unfold zbg at h1; simp at h1; exact h1.symm
   rw [h3, this]; rfl
 | succ k ih =>
   intro hk; refine ⟨?_, hstep (k + 1)⟩
   obtain ⟨i1, i2⟩ := ih yO; obtain ⟨i3, i4⟩ := i2 yO; have he : es[k]? = some (es.getD k noE) := by rw [yg, ye yO]; rfl
   rw [zf4 he, i1]; unfold zb0; simp only
   rw [if_pos i3, <- i4]; rfl
theorem zop {xs : List zaa} {es : List zam} {gs : List (List zaa)} (h : zbg xs es = some gs) : ∀ (n : Nat) (bs : List zam), n <= es.length -> zbD gs es n = some bs ->
  (bs.foldl zb0 (gs.getD es.length [], 0)).2 = ((bs.length : Nat) : Int) -> zau (bs.foldl zb0 (gs.getD es.length [], 0)).1 = zau (gs.getD (es.length - n) []) := by
 intro n
 induction n with
 | zero =>
   intro bs _ hb _; have : bs = [] := by unfold zbD at hb; simp at hb; exact hb
   subst this; rfl
 | succ n ih =>
   intro bs hn hb hc; rw [zca] at hb; cases hb0 : zbD gs es n with
   | none => rw [hb0] at hb; cases hb
   | some b0 =>
     rw [hb0] at hb; unfold zb9 at hb; simp only [Option.bind_some] at hb
     split at hb
     · rename_i hic
       cases hb
       obtain ⟨a1, a2⟩ := (zd9 h (es.length - 1 - n) yO).2 yO; rw [show es.length - 1 - n + 1 = es.length - n by omega] at a2; obtain ⟨h', s1, s2⟩ := znt (m := 0) (by rw [hc]; omega); have i1 := ih b0 yO hb0 (by rw [s1]; simp); rw [s1] at i1; simp only at i1
       have hinv : zc1 (gs.getD (es.length - 1 - n) []) (zde (gs.getD (es.length - 1 - n) [])) (es.getD (es.length - 1 - n) noE) = some (zaJ (gs.getD (es.length - 1 - n) []) (es.getD (es.length - 1 - n) noE)) := by
        unfold zay at hic; rw [if_pos a1] at hic; unfold zaJ; rw [if_pos a1]; cases hL : zc1 (gs.getD (es.length - 1 - n) []) (zde (gs.getD (es.length - 1 - n) [])) (es.getD (es.length - 1 - n) noE) with
        | none => rw [hL] at hic; simp at hic
        | some b => rfl
       rw [List.foldl_append, s1]; rw [zoo a1 hinv (by rw [i1, a2]) s2]; congr 2
       omega
     · cases hb
def TK (ts : TypeId -> Prop) (w w' : World) : Prop := ∀ (b : Nat) cs t fz, ts t -> w.heap[b]? = some (.cells cs t fz) -> w'.heap[b]? = some (.cells cs t fz)
section
variable {ts ts' : TypeId -> Prop} {w w' w'' : World}
theorem TK.grown {base e size n : Nat} {v : Value} {xs : List Value} (h : w.ownsRow base e size v n xs) (hg : w.grownBy w' v.ownBlock) (he : ∀ t, ts t -> t ≠ e) : TK ts w w' := by
 intro k cs t fz ht hk; refine (hg.block k (Array.getElem?_eq_some_iff.1 hk).1 (fun q => ?_)).trans hk
 rcases h.2 with ⟨rfl, _⟩ | ⟨g, cap, cur, rfl, _, hh, _⟩
 · cases q
 · have : k = g := by simpa [Value.ownBlock] using q
   subst this; rw [hk] at hh; injection hh with hh; injection hh with _ hh _; exact he t ht hh
theorem TK.row {base e size n : Nat} {v : Value} {xs : List Value} (h : w.ownsRow base e size v n xs) (hk : TK ts w w') (he : ts e) : w'.ownsRow base e size v n xs := by
 refine ⟨h.1, ?_⟩
 rcases h.2 with h2 | ⟨g, cap, cur, rfl, hb, hh, r⟩
 · exact .inl h2
 · exact .inr ⟨g, cap, cur, rfl, hb, hk g _ _ _ he hh, r⟩
theorem TK.blk {b : Nat} {a : Array Value} {t : TypeId} (h : Blk w b a t) (hk : TK ts w w') (he : ts t) : Blk w' b a t := hk b _ _ _ he h
end
theorem zqd {t : ByteArray} {e : zam} (h : zcY t = some e) : zat e = true /\ etV e = t.data.toList := by
 have h1 := zh3 h; unfold zhE at h1; split at h1
 · cases h1
 · unfold zfH at h1
   split at h1
   · cases h1
   · split at h1
     · rename_i hb
       cases h1
       rw [Bool.and_eq_true] at hb; exact ⟨hb.1, by simpa using hb.2⟩
     · cases h1
def zoq (e : zam) : ByteArray := ⟨(etV e).toArray⟩
theorem zpj {e : zam} (hm : e.map.size <= 4) : (etV e).length <= 2100 := by
 unfold etV; split
 · rename_i hok
   obtain ⟨hk, hi, hj, hq, _⟩ := zb8 hok; split
   · simp
   · rename_i hb
     have h1 := zg4 hk; have h2 := zcA (by simpa [zaK, inR] using hi : 0 <= e.i /\ e.i <= 1000000000000000); have h3 := zcA (by simpa [zaK, inR] using hj : 0 <= e.j /\ e.j <= 1000000000000000); have h4 := zcA (by simpa [zaK, inR] using hq : 0 <= e.k /\ e.k <= 1000000000000000)
     have h5 : (if e.kind == 1 then 32 :: zau e.part else []).length <= 2001 := by
      split
      · rename_i hk1
        simp [hk1] at hb
        rw [List.length_cons]; omega
      · simp
     have h6 : (if e.kind == 7 then 32 :: e.map.data.toList else []).length <= 5 := by
      split
      · have : e.map.data.toList.length = e.map.size := by rw [Array.length_toList]; rfl
        rw [List.length_cons]; omega
      · simp
     have h7 : (if zbq e.kind then 32 :: dec e.j else []).length <= 17 := by split <;> simp; omega
     have h8 : (if zbu e.kind then 32 :: dec e.k else []).length <= 17 := by split <;> simp; omega
     unfold etL; simp only [List.length_append, List.length_cons]
     omega
 · simp
def zfl : Enc UInt8 where
 size := 1
 pos := by decide
 cells := fun _ _ x cs => cs = [.int .u8 (x.toNat : Int)]
 len := by rintro _ _ _ _ rfl; rfl
 keep := fun h _ => h
 more := fun h _ => h
 one := by rintro _ _ _ _ rfl; simp [Value.oneCell']
def Src (w : World) (b N : Nat) : Prop :=
 ∃ (AC : Option Addr) (l : List UInt8) (cC a d : Nat), w.heap[b]? = some (.cells #[.slice AC l.length cC, .int .i64 (a : Int), .int .u64 (d : Int)] 92 (0, 0)) /\ a <= N /\ d < 18446744073709551616 /\ Sl zfl w b (.slice AC l.length cC) l
theorem Src.lt {w : World} {b N : Nat} (h : Src w b N) : b < w.heap.size := by
 obtain ⟨AC, l, cC, a, d, h, _⟩ := h; exact (Array.getElem?_eq_some_iff.1 h).1
theorem Src.more {w : World} {b N M : Nat} (h : Src w b N) (hM : N <= M) : Src w b M := by
 obtain ⟨AC, l, cC, a, d, h, h1, h2⟩ := h; exact ⟨AC, l, cC, a, d, h, Nat.le_trans h1 hM, h2⟩
theorem Src.keep {w w' : World} {b N : Nat} (h : Src w b N) (hb : Below w.heap.size w w') : Src w' b N := by
 have hlt := h.lt; obtain ⟨AC, l, cC, a, d, h, h1, h2, h3⟩ := h; exact ⟨AC, l, cC, a, d, (hb.block b hlt).trans h, h1, h2, h3.below (hb.mono (Nat.le_of_lt hlt))⟩
theorem znu (n : Int) : ∃ d : Nat, IntKind.u64.wrap n = (d : Int) /\ d < 18446744073709551616 := by
 rw [IntKind.wrap_u64]; refine ⟨(n % 18446744073709551616).toNat, ?_, ?_⟩ <;> omega
theorem Src.stored {w w' : World} {b N a d : Nat} {AC : Option Addr} {l : List UInt8} {cC : Nat} {a' d' : Nat} (hbk : w.heap[b]? = some (.cells #[.slice AC l.length cC, .int .i64 (a : Int), .int .u64 (d : Int)] 92 (0, 0))) (hl : Sl zfl w b (.slice AC l.length cC) l) (ha : a' <= N) (hd : d' < 18446744073709551616)
  (hw : ∃ n m, w' = (((w.drewN n).setCell ⟨b, 1, none⟩ (.int .i64 (a' : Int))).setCell ⟨b, 2, none⟩ (.int .u64 (d' : Int))).drewN m) : Src w' b N /\ But b w w' := by
 obtain ⟨n, m, rfl⟩ := hw; have hB : But b w ((((w.drewN n).setCell ⟨b, 1, none⟩ (.int .i64 (a' : Int))).setCell ⟨b, 2, none⟩ (.int .u64 (d' : Int))).drewN m) := ((((But.refl b w).drewN n).setCell _).setCell _).drewN m; refine ⟨⟨AC, l, cC, a', d', ?_, ha, hd, hl.keep fun k hk => hB.block k (Nat.lt_trans hk (Array.getElem?_eq_some_iff.1 hbk).1) (Nat.ne_of_lt hk)⟩, hB⟩
 simp [World.setCell, World.drewN, Array.getElem?_modify, hbk]
theorem zpT (d : Nat) (hd : d < 18446744073709551616) : ∃ x : Nat, bits .and .u64 ((d : Int) / 1099511627776) 255 = (x : Int) /\ x <= 255 := by
 refine ⟨(d / 1099511627776) &&& 255, ?_, Nat.and_le_right⟩
 have e : (d : Int) / 1099511627776 = ((d / 1099511627776 : Nat) : Int) := by rw [Int.natCast_ediv]; rfl
 rw [e]; exact bits_and_u64_nat _ 255 yO (by decide)
theorem zk9 (v : Value) (l : List UInt8) (w : World) (h : Sl zfl w w.heap.size v l) :
  Calls Tryz.prog 17 #[v] w fun r w' => ∃ b, r = .returned (.pointer (some ⟨b, 0, none⟩)) /\ b = w.heap.size /\ Src w' b 0 /\ Below w.heap.size w w' := by
 have HS := yq h; obtain ⟨A, c, rfl, hc1, hc2, _⟩ := h; go_enter Tryz.func17, Tryz.ntmps17
 go_wp2
 go_ret
 have hb : Below w.heap.size w (w.alloc (.cells #[.slice A l.length c, .int .i64 0, .int .u64 0] 92)) := (Below.refl _ w).alloc yL _; exact ⟨_, rfl, rfl, ⟨A, l, c, 0, 0, heap_alloc_new w _, Nat.le_refl _, by decide, HS.o.below hb⟩, hb⟩
theorem zla (b N : Nat) (w : World) (h : Src w b N) (hN : N <= 1000000) :
  Calls Tryz.prog 83 #[.pointer (some ⟨b, 0, none⟩)] w fun r w' => ∃ x : Nat, r = .returned (.int .i64 (x : Int)) /\ x <= 255 /\ Src w' b (N + 1) /\ But b w w' := by
 obtain ⟨AC, l, cC, a, d, hbk, ha, hd, hl⟩ := h; have c0 : w.cell? ⟨b, 0, none⟩ = some (.slice AC l.length cC) := by rw [Lib.cell_of_heap hbk]; rfl
 have c1 : w.cell? ⟨b, 1, none⟩ = some (.int .i64 (a : Int)) := by rw [Lib.cell_of_heap hbk]; rfl
 have c2 : w.cell? ⟨b, 2, none⟩ = some (.int .u64 (d : Int)) := by rw [Lib.cell_of_heap hbk]; rfl
 have f1 : w.frozen? ⟨b, 1, none⟩ = false := Lib.frozen_of_heap hbk 1; have f2 : w.frozen? ⟨b, 2, none⟩ = false := Lib.frozen_of_heap hbk 2; have HB := yq hbk; have HL := yq hl; obtain ⟨_, _, ev, hc1, hc2, hrow⟩ := hl; clear hbk; go_enter Tryz.func83, Tryz.ntmps83
 go_wp2_with fail
 go_quiet (fail)
 by_cases hlt : a < l.length
 · obtain ⟨bc, oc, rfl, hbc, hcs⟩ := hrow yO
   obtain ⟨cs, hcs1, hcs2⟩ := hcs a l[a] (ye hlt); have hcs1' : cs = [.int .u8 (l[a].toNat : Int)] := hcs1; subst hcs1'; have hcx := hcs2 0 _ rfl; have e1 : oc + (a * zfl.size + 0) = oc + a := by show oc + (a * 1 + 0) = oc + a; omega
   rw [e1] at hcx; have hx := l[a].toNat_lt; obtain ⟨x, hxe⟩ : ∃ x, l[a].toNat = x := ⟨_, rfl⟩
   rw [hxe] at hcx hx; clear hcs hcs1 hcs2 hrow e1 hxe; have hlI : (a : Int) < (l.length : Int) := by omega
   go_wp2_with fail
   go_quiet (fail)
   go_wp2_with fail
   obtain ⟨d2, hd2, hd2b⟩ := znu (IntKind.u64.wrap (IntKind.u64.wrap ((d : Int) * 6364136223846793005) + (x : Int)) + 1442695040888963407); rw [hd2]; have hle : ((a : Int) + 1) <= (l.length : Int) := by omega
   go_wp2_with fail
   go_quiet (fail)
   go_wp2_with fail
   go_ret
   refine ⟨x, rfl, by omega, ?_, ?_⟩
   · exact (Src.stored (N := N + 1) (a' := a + 1) HB.o HL.o yO hd2b ⟨_, _, rfl⟩).1
   · exact (Src.stored (N := N + 1) (a' := a + 1) HB.o HL.o yO hd2b ⟨_, _, rfl⟩).2
 · have hlI : ¬ (a : Int) < (l.length : Int) := by omega
   go_wp2_with fail
   obtain ⟨d2, hd2, hd2b⟩ := znu (IntKind.u64.wrap (IntKind.u64.wrap ((d : Int) * 6364136223846793005)) + 1442695040888963407); rw [hd2]; have hle : ¬ ((a : Int) + 1) <= (l.length : Int) := by omega
   obtain ⟨x, hx, hx2⟩ := zpT d2 hd2b; go_wp2_with fail
   go_quiet (fail)
   go_wp2_with fail
   go_ret
   refine ⟨x, rfl, by omega, ?_, ?_⟩
   · exact (Src.stored (N := N + 1) (a' := a + 1) HB.o HL.o yO hd2b ⟨_, _, rfl⟩).1
   · exact (Src.stored (N := N + 1) (a' := a + 1) HB.o HL.o yO hd2b ⟨_, _, rfl⟩).2
end Go.Proofs.YtejgbfgocaggfaaGreatDoor
