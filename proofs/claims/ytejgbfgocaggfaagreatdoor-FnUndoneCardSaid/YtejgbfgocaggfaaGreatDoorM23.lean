import Derived.Test.YtejgbfgocaggfaaGreatDoorM22
set_option maxRecDepth 100000
set_option maxHeartbeats 8000000
namespace Go.Proofs.YtejgbfgocaggfaaGreatDoor
open Go.RowKit
def zfn (i j : Int) : zam := ⟨2, i, j, 0, [], ⟨#[]⟩⟩
def zhf (i : Int) (p : List zaa) : zam := ⟨1, i, 0, 0, p, ⟨#[]⟩⟩
def zjQ (i j k : Int) : zam := ⟨4, i, j, k, [], ⟨#[]⟩⟩
def zkz (i j : Int) : zam := ⟨5, i, j, 0, [], ⟨#[]⟩⟩
def zfo (e : zam) : List zam :=
 if e.kind = 2 then [] else if e.kind = 6 then (if 0 < (e.j - e.i) * e.k then [zfn e.i (e.i + (e.j - e.i) * e.k)] else []) else [zfn e.i e.j]
def zc1 (xs : List zaa) (ls : List Int) (e : zam) : Option (List zam) :=
 if e.kind = 1 then some [zfn e.i (e.i + zaF e.part)]
 else if e.j - e.i = 0 then some []
 else if e.kind = 3 then some [zfn e.k (e.k + (e.j - e.i))]
 else if e.kind = 4 then (if e.k <= e.i then some [zjQ e.k (e.k + (e.j - e.i)) e.j] else some [zjQ (e.k - (e.j - e.i)) e.k e.i])
 else if e.kind = 5 then some [zkz e.i e.j]
 else if zag (zap xs ls e.i e.j) then some (zfo e ++ [zhf e.i (zap xs ls e.i e.j)]) else none
def zaJ (xs : List zaa) (e : zam) : List zam := if zah xs e = 0 then (zc1 xs (zde xs) e).getD [] else []
def zay (xs : List zaa) (e : zam) : Int := if zah xs e = 0 then (if (zc1 xs (zde xs) e).isSome then 0 else 3) else zah xs e
def zcv (es : List zam) (c : Int) (w : World) (r : Ending) (w' : World) : Prop :=
 Below w.heap.size w w' /\ ∃ v, r = .returned (.tuple #[v, .int .i64 c]) /\ zh6 w' w.heap.size w'.heap.size v es
theorem zhg (s : Option (List zaa)) : zhc s = 0 \/ zhc s = 3 := by cases s <;> simp [zhc]
theorem zeF (xs : List zaa) (e : zam) : zah xs e = 0 \/ zah xs e = 1 \/ zah xs e = 2 \/ zah xs e = 3 := by
 unfold zah; split
 · split
   · rcases zhg (zeD xs e) with h | h <;> simp [h]
   · simp
 · simp
theorem zbw {xs : List zaa} {e : zam} (h : zah xs e = 0) : zag xs = true /\ zat e = true /\ zbp e (zaF xs) = true := by
 unfold zah at h; split at h
 · rename_i h1
   rw [Bool.and_eq_true] at h1; split at h
   · rename_i h2; exact ⟨h1.1, h1.2, h2⟩
   · cases h
 · cases h
theorem zh7 {s g : Option (List zaa)} (h : zbC s g ≠ none) : s ≠ none /\ g ≠ none := by
 constructor
 · rintro rfl; exact h (zdb (.inl rfl))
 · rintro rfl; exact h (zdb (.inr rfl))
theorem zjI {xs : List zaa} {ls : List Int} {e : zam} (h : zah xs e = 0) (hk : e.kind = 6) (hl : zaW xs = some ls) (hp : zaF (zap xs ls e.i e.j) = e.j - e.i) : (e.j - e.i) * e.k <= 1000000000000000 := by
 obtain ⟨h1, h2, h3⟩ := zbw h; have hlq : zde xs = ls := by simp [zde, hl]
 have hs : za0 xs ls (zao ls) e ≠ none := by
  intro hn; unfold zah zeD at h; rw [hlq, hn] at h; simp [h1, h2, h3, zhc] at h
 unfold za0 at hs; rw [if_neg yO, if_neg yO, if_neg yO, if_neg yO] at hs; have h4 := (zh7 (zh7 hs).1).2
 have h5 : zag (zap xs ls e.i e.j) = true := by
  cases hg : zag (zap xs ls e.i e.j) with
  | true => rfl
  | false => exfalso; apply h4; unfold zbt; rw [hg]; rfl
 have h6 : zag (zdT (zap xs ls e.i e.j) e.k.toNat) = true := by
  cases hg : zag (zdT (zap xs ls e.i e.j) e.k.toNat) with
  | true => rfl
  | false => exfalso; apply h4; unfold zbt; rw [h5]; show zed e _ = none; unfold zed; rw [if_neg yO, if_pos hk]; unfold zbt; rw [hg]; rfl
 have h7 := zjz h5 h6; have h8 := za4 (zdT (zap xs ls e.i e.j) e.k.toNat); rw [h7, hp] at h8; have hk0 : 0 <= e.k := by rcases (zfj h2).1 with h | h | h | h | h | ⟨_, h, _⟩ | ⟨h, _⟩ <;> omega
 rw [Int.toNat_of_nonneg hk0] at h8; rw [Int.mul_comm]; omega
theorem zfk {wr W : World} {p q r : Addr} {v1 v2 v3 : Value} (k1 : C1 wr p v1) (k2 : C1 wr q v2) (k3 : C1 wr r v3) (h : Below wr.heap.size wr W) :
  Below wr.heap.size wr W /\ W.cell? p = some v1 /\ W.cell? q = some v2 /\ W.cell? r = some v3 := ⟨h, (k1.up h).c, (k2.up h).c, (k3.up h).c⟩
theorem zcv.mk1 {w W : World} {es : List zam} {c : Int} {lo hi : Nat} {v : Value} (hb : Below w.heap.size w W) (h : zh6 W lo hi v es) (hl : w.heap.size <= lo) : zcv es c w (.returned (.tuple #[v, .int .i64 c])) W := by
 refine ⟨hb, v, rfl, ?_⟩
 obtain ⟨ps, r, h1, h2, h3, h4, h5⟩ := h; exact ⟨ps, r, h1, zad h2 hl, fun g hg => by have := h3 g hg; omega, Nat.le_refl _, h5.le hl h4⟩
theorem zhJ (P oP E oE : Nat) (vG vR : Value) (xs : List zaa) (e : zam) (w : World) (hP : C1 w ⟨P, oP, none⟩ vG) (hE : EC w E oE e vR) (hG : Sl zar w w.heap.size vG xs) (hR : Sl zar w w.heap.size vR e.part) (hg : zag xs = true) (hk : zat e = true) (hsmE : zaY e.part) :
  Calls Tryz.prog 24 #[.pointer (some ⟨P, oP, none⟩), .pointer (some ⟨E, oE, none⟩)] w (zcv (zaJ xs e) (zay xs e) w) := by
 have HG := yq hG; have HR := yq hR; have HP := yq hP; have HE := yq hE; have HOK := yq hg; have HEK := yq hk; have HK := yq (zfj hk); have sm := yq (zbU (zaz (zai hg).2.choose_spec)); have hn : xs.length <= 1048576 := by have := zax hg; omega
 obtain ⟨AG, cG, rfl, _⟩ := hG; obtain ⟨AR, cR, rfl, _⟩ := hR; clear hP hE hg hk; go_enter Tryz.func24, Tryz.ntmps24
 go_wp2_with fail
 refine (zds P oP E oE _ _ xs e _ HP.o HE.o HG.o HR.o HOK.o HEK.o).mono ?_
 rintro e1 w1 ⟨hb1, v1, own1, rfl⟩; obtain ⟨A1, k1, rfl, _⟩ := zae own1; clear own1; have bZ := (Below.refl w1.heap.size w1).alloc yL (Obj.cells #[.slice A1 (zak xs e).length k1] 26); have HE1 := yq ((HE.o.up hb1).up bZ); have HP1 := yq ((HP.o.up hb1).up bZ); have HB1 := yq (Below.tr hb1 bZ); clear bZ hb1 HE HP
 have hbad : ∀ c : Int, zah xs e = c -> c ≠ 0 -> zaJ xs e = [] /\ zay xs e = c := fun c h hc => by
  have hn : ¬ zah xs e = 0 := by omega
  exact ⟨by unfold zaJ; rw [if_neg hn], by unfold zay; rw [if_neg hn]; exact h⟩
 rcases zeF xs e with hc | hc | hc | hc
 case inr.inl => exact absurd hc (by have h1 := HOK.o; have h2 := HEK.o; unfold zah; simp [h1, h2]; split <;> (try split) <;> first | (rcases zhg (zeD xs e) with h | h <;> simp [h]) | simp)
 case inr.inr.inl =>
  have HBD := yq (hbad 2 hc (by decide)); rw [hc]; clear hbad hc; go_wp2_with fail
  have hz := HB1.o.size; refine bodyPost_ret (v := .tuple #[.slice (some ⟨w1.heap.size + 1, 0, none⟩) 0 0, .int .i64 2]) (by simp [results, Tryz.results24, go_sem]) rfl ?_
  rw [HBD.o.1, HBD.o.2]; exact zcv.mk1 (lo := w.heap.size) (hi := _) (HB1.o.alloc hz _) (za8 yS hz) yL
 case inr.inr.inr =>
  have HBD := yq (hbad 3 hc (by decide)); rw [hc]; clear hbad hc; go_wp2_with fail
  have hz := HB1.o.size; refine bodyPost_ret (v := .tuple #[.slice (some ⟨w1.heap.size + 1, 0, none⟩) 0 0, .int .i64 3]) (by simp [results, Tryz.results24, go_sem]) rfl ?_
  rw [HBD.o.1, HBD.o.2]; exact zcv.mk1 (lo := w.heap.size) (hi := _) (HB1.o.alloc hz _) (za8 yS hz) yL
 case inl =>
  have HC0 := yq hc
  have hls : zaW xs = some (zde xs) := by
   obtain ⟨ls, h⟩ := (zai HOK.o).2; simp [zde, h]
  have HIO := yq (show zaJ xs e = (zc1 xs (zde xs) e).getD [] by unfold zaJ; rw [if_pos hc]); have HIC := yq (show zay xs e = (if (zc1 xs (zde xs) e).isSome then 0 else 3) by unfold zay; rw [if_pos hc]); have hgl := zaD hls; have HF := yq (zhe HEK.o (zbw hc).2.2); have hgb := za4 xs; obtain ⟨ls, hlq⟩ : ∃ ls, zde xs = ls := ⟨_, rfl⟩
  rw [hlq] at hls HIO HIC hgl; have HL := yq hls; have HGL := yq hgl; have HGB := yq hgb; rw [hc]; clear hbad hc hls hlq hgl hgb; go_upto_region 4 with fail
  generalize w1.alloc (Obj.cells #[Value.slice A1 (zak xs e).length k1] 26) = w2 at *; have lE := HE1.o.lt; have lP := HP1.o.lt; have hs1 := HB1.o.size; rcases HK.o.1 with hk | hk | hk | hk | hkk
  · have x0 := HE1.o.c0
    rw [hk] at x0; have HQ := yq (show zaJ xs e = [zfn e.i (e.i + zaF e.part)] /\ zay xs e = 0 by rw [HIO.o, HIC.o]; unfold zc1; rw [if_pos hk]; exact ⟨rfl, rfl⟩); obtain ⟨_, lsP, hlP⟩ := zai HK.o.2.1; have hgP := zaD hlP; have hgb2 := za4 e.part; rw [hgP] at HQ hgb2; have HLP := yq hlP; have hF := HF.o; have hi0 : 0 <= e.i /\ e.i <= 1000000000000000 := by have := hF.2.1 hk; have := HGB.o; omega
    have ws : IntKind.i64.wrap (e.i + zao lsP) = e.i + zao lsP := IntWalk.i64_in _ yO; have smP := yq (zbU (zaz hlP)); have hnP : e.part.length <= 1099511627776 := by have := zax HK.o.2.1; omega
    have KI : C1 w2 ⟨E, oE + 1, none⟩ (.int .i64 e.i) := ⟨HE1.o.c1, lE⟩
    clear hgP hgb2 hF hk hlP; go_wp2_with fail
    have KD := And.intro (Below.drew (Below.refl w2.heap.size w2)) (KI.up (Below.drew (Below.refl _ _))).c
    go_region_held3 (fun w' => Below w2.heap.size w2 w' /\ w'.cell? ⟨E, oE + 1, none⟩ = some (.int .i64 e.i))
     (first | (with_reducible exact KD) | (with_reducible exact And.intro b3 (KI.up b3).c) | (with_reducible exact And.intro (b3.alloc b3.size _) (KI.up (b3.alloc b3.size _)).c))
     (first | (go_at_call 37; (refine (zbm E (oE + 4) _ e.part lsP _ HLP.o (HE1.o.up (Below.drew (Below.refl _ _))).c4 lE (HR.o.up (Below.drew HB1.o)) smP.o hnP).mono ?_); rintro r w3 ⟨rfl, hb3⟩; have b3 := Below.undrew hb3))
    have HBW := yq (Below.tr HB1.o b3); clear KD; go_wp2_with fail
    refine bodyPost_ret (v := .tuple #[.slice (some ⟨w3.heap.size, 0, none⟩) 1 1, .int .i64 0]) (by simp [results, Tryz.results24, go_sem]) rfl ?_
    rw [HQ.o.1, HQ.o.2]; exact zcv.mk1 (lo := w.heap.size) (HBW.o.alloc HBW.o.size _) (zcS (e := zfn e.i (e.i + zao lsP)) (u := .slice none 0 0) rfl HBW.o.size (.inl ⟨rfl, none, 0, rfl, Nat.zero_le _⟩)) yL
  · skip
    have x0 := HE1.o.c0; rw [hk] at x0; have HKE := yq hk; have y1 := HE1.o.c1; have y2 := HE1.o.c2; have hF := HF.o; have hG := HGB.o; have hij : 0 <= e.i /\ e.i <= e.j /\ e.j <= 1000000000000000 := by have := hF.2.2.1 yO; omega
    have ws : IntKind.i64.wrap (e.j - e.i) = e.j - e.i := IntWalk.i64_in _ yO; clear hF hG; go_wp2_with fail
    go_quiet (fail)
    have HB3 := yq (zal HB1.o nq); have HE3 := yq (HE1.o.up (zal (Below.refl w2.heap.size w2) nq)); have HP3 := yq (HP1.o.up (zal (Below.refl w2.heap.size w2) nq)); clear HB1 HE1 HP1 x0 y1 y2; generalize w2.drewN nq = w3 at *; have x0 := HE3.o.c0; rw [hk] at x0; have y1 := HE3.o.c1; have y2 := HE3.o.c2; have y3 := HE3.o.c3; have lE3 := HE3.o.lt; have hs3 := HB3.o.size; by_cases hz : e.j - e.i = 0
    · have HQ := yq (show zaJ xs e = [] /\ zay xs e = 0 by rw [HIO.o, HIC.o]; unfold zc1; rw [if_neg yO, if_pos hz]; exact ⟨rfl, rfl⟩)
      clear hk; go_wp2_with fail
      refine bodyPost_ret (v := .tuple #[.slice (some ⟨w3.heap.size, 0, none⟩) 0 0, .int .i64 0]) (by simp [results, Tryz.results24, go_sem]) rfl ?_
      rw [HQ.o.1, HQ.o.2]; exact zcv.mk1 (lo := w.heap.size) (HB3.o.alloc hs3 _) (za8 rfl hs3) yL
    · skip
      have k1 : C1 w3 ⟨P, oP, none⟩ (.slice AG xs.length cG) := HP3.o; have k3 : C1 w3 ⟨E, oE + 1, none⟩ (.int .i64 e.i) := ⟨y1, lE3⟩
      have k4 : C1 w3 ⟨E, oE + 2, none⟩ (.int .i64 e.j) := ⟨y2, lE3⟩
      have lP3 := HP3.o.lt; have hrange : 0 <= e.i /\ e.i <= e.j /\ e.j <= zao ls := by have h1 := HF.o; have h2 := h1.2.2.1 yO; have := HGL.o; omega
      have HY := yq (zbN HOK.o HL.o hrange); have HGP := yq (zcg HL.o hrange.1 hrange.2.1 hrange.2.2); clear hk; go_upto_region 18 with fail
      go_cut [9, 10] (fun s9 s10 wx => ∃ (Z : Nat) (A9 : Option Addr) (c9 : Nat), s9 = .pointer (some ⟨Z, 0, none⟩) /\ s10 = .int .i64 (zas (zap xs ls e.i e.j)) /\ w3.heap.size <= Z /\ Below w3.heap.size w3 wx /\ Blk wx Z #[.slice A9 (zav (zap xs ls e.i e.j)).length c9] 26 /\ zac wx w3.heap.size (.slice A9 (zav (zap xs ls e.i e.j)).length c9) (zav (zap xs ls e.i e.j)))
      case first =>
       have B0 := Below.drew (Below.refl w3.heap.size w3); have BA := yq (fun (o : Obj) => Below.drew (Below.alloc (Below.refl w3.heap.size w3) yL o)); have KD := zfk k1 k3 k4 B0
       go_region_held3 (fun w' => Below w3.heap.size w3 w' /\ w'.cell? ⟨P, oP, none⟩ = some (.slice AG xs.length cG) /\ w'.cell? ⟨E, oE + 1, none⟩ = some (.int .i64 e.i) /\ w'.cell? ⟨E, oE + 2, none⟩ = some (.int .i64 e.j))
        (first | (with_reducible exact KD) | (with_reducible exact zfk k1 k3 k4 (BA.o _)) | (with_reducible exact zfk k1 k3 k4 b1) | (with_reducible exact zfk k1 k3 k4 (b1.alloc z1 _)) | (with_reducible exact zfk k1 k3 k4 (b1.setCell yL _)))
        (first
          | (go_at_call 58; (refine (zcV _ xs e.i e.j _ (HG.o.up (have yx := HB3.o; yb)) hn sm.o).mono ?_); rintro e9 w5 ⟨hb1, v9, own9, rfl⟩; rw [HY.o.1] at own9; rw [HY.o.2]; obtain ⟨A9, c9, rfl, _⟩ := zae own9; have b1 : Below w3.heap.size w3 w5 := (by first | exact Below.undrew hb1 | exact (Below.unalloc (Below.undrew hb1)).1); have z1 := b1.size; (try (obtain ⟨hbz, KR⟩ := Below.unalloc (Below.undrew hb1); have cz := Blk.cell (i := 0) (v := .slice none 0 0) KR rfl; have fz := Blk.frozen KR 0; have lz := Blk.lt KR))))
       all_goals
        go_wp2_with fail
        go_meet
        first
         | exact ⟨w5.heap.size, A9, c9, rfl, rfl, z1, b1.alloc z1 _, Blk.new _ _ _, World.ownsRow.alloc own9 _⟩
         | exact ⟨w3.heap.size, A9, c9, rfl, rfl, Nat.le_refl _, b1.setCell yL _, Blk.set KR 0 _, zad (ownsRow_setCell_below own9 (a := ⟨w3.heap.size, 0, none⟩) (by simp [World.drew]) _) (by simp [World.drew])⟩
      case rest =>
       obtain ⟨Z, A9, c9, rfl, rfl, hZ3, hb, KZ, hown⟩ := hcut; revert hb KZ hown; generalize wc = w4; intro hb KZ hown; have HE4 := yq (HE3.o.up hb); have HZ4 := yq KZ; have HB4 := yq (Below.tr HB3.o hb); have HO4 := yq hown; have lZ := KZ.lt; have lE4 := HE4.o.lt; have hs34 := hb.size; have hs4 := HB4.o.size; clear hb KZ hown k1 k3 k4 x0 y1 y2 y3; cases hq : zag (zap xs ls e.i e.j) with
       | false =>
         have q2 : zas (zap xs ls e.i e.j) = 3 := by unfold zas; rw [hq]; rfl
         have HQ := yq (show zaJ xs e = [] /\ zay xs e = 3 by rw [HIO.o, HIC.o]; unfold zc1; have := HKE.o; rw [if_neg yO, if_neg hz, if_neg yO, if_neg yO, if_neg yO, hq]; exact ⟨rfl, rfl⟩); rw [q2]; clear hq q2; go_wp2_with fail
         refine bodyPost_ret (v := .tuple #[.slice (some ⟨w4.heap.size, 0, none⟩) 0 0, .int .i64 3]) (by simp [results, Tryz.results24, go_sem]) rfl ?_
         rw [HQ.o.1, HQ.o.2]; exact zcv.mk1 (lo := w.heap.size) (HB4.o.alloc hs4 _) (za8 rfl hs4) yL
       | true =>
         have q1 : zav (zap xs ls e.i e.j) = zap xs ls e.i e.j := by unfold zav; rw [hq]; rfl
         have q2 : zas (zap xs ls e.i e.j) = 0 := by unfold zas; rw [hq]; rfl
         have HQ := yq (show zaJ xs e = zfo e ++ [zhf e.i (zap xs ls e.i e.j)] /\ zay xs e = 0 by rw [HIO.o, HIC.o]; unfold zc1; have := HKE.o; rw [if_neg yO, if_neg hz, if_neg yO, if_neg yO, if_neg yO, hq]; exact ⟨rfl, rfl⟩); have HGq := yq hq; rw [q1] at HZ4 HO4; rw [q2]; clear q1 q2 hq HY; generalize hpq : zap xs ls e.i e.j = p at *; have HPQ := yq hpq; clear hpq; have HD := yq (show zfo e = [] by unfold zfo; rw [if_pos HKE.o]); have x0 := HE4.o.c0; rw [HKE.o] at x0; have y1 := HE4.o.c1; have y3 := HE4.o.c3; have c4 := HZ4.o.cell (i := 0) (v := .slice A9 p.length c9) rfl; have bA := (Below.refl w4.heap.size w4).alloc yL (Obj.cells #[] 37); have KO := zch (W := w4) (lo := w3.heap.size) rfl hs34; have HE5 := yq (HE4.o.up bA); have HZ5 := yq (HZ4.o.up bA); have HO5 := yq (zac.below HO4.o bA); have HB5 := yq (Below.tr HB4.o bA); have HKO := yq KO; have hs5 : w4.heap.size < (w4.alloc (Obj.cells #[] 37)).heap.size := by simp
         clear bA KO x0 y1 y3 c4; go_upto_region 23 with fail
         generalize w4.alloc (Obj.cells #[] 37) = w5 at *; have x0 := HE5.o.c0; rw [HKE.o] at x0; have y1 := HE5.o.c1; have y3 := HE5.o.c3; have lE5 := HE5.o.lt; have c5 := HZ5.o.cell (i := 0) (v := .slice A9 p.length c9) rfl; have lZ5 := HZ5.o.lt; go_wp2_with fail
         have KS : ∀ W : World, (∀ x, x < w4.heap.size -> W.heap[x]? = w5.heap[x]?) -> W.cell? ⟨E, oE + 1, none⟩ = some (.int .i64 e.i) /\ W.cell? ⟨Z, 0, none⟩ = some (.slice A9 p.length c9) := fun W hW => And.intro (HE5.o.same (hW E lE4)).c1 (Blk.cell (w := W) (show W.heap[Z]? = _ from (hW Z lZ).trans HZ5.o) rfl); have KD := KS w5.drew (fun _ _ => rfl); have KA := fun (o : Obj) => KS (w5.alloc o).drew (fun x hx => Below.heap_alloc w5 o x yO)
         go_region_held3 (fun w' => w'.cell? ⟨E, oE + 1, none⟩ = some (.int .i64 e.i) /\ w'.cell? ⟨Z, 0, none⟩ = some (.slice A9 p.length c9))
          (first | (with_reducible exact KD) | (with_reducible exact KA _) | (with_reducible exact KS _ k9))
          (first
            | (refine zbZ w5.drew (e := zhf e.i p) (u := .slice A9 p.length c9) yR yR _ _ yR (lo := w3.heap.size) (hp := w3.heap.size) (pa := w3.heap.size) (pb := w4.heap.size) (v := .slice (some ⟨w4.heap.size, 0, none⟩) 0 0) (es := []) yR (by first | rfl | simp) rfl (HKO.o.keep (Below.drew (Below.refl _ _)) yO) yS (show w3.heap.size <= w5.heap.size by omega) (by simp [Value.oneCell']) ⟨.inr ⟨HO5.o, fun g hg => (World.ownsRow.lt HO4.o g hg).2, show w4.heap.size <= w5.heap.size by omega⟩, fun g hg => by simp [Value.ownBlock] at hg; omega⟩ yL hs34 (show w4.heap.size <= w5.heap.size by omega) yL ?_; intro g9 c9' w9 own9 hg9 hgr9 hb9; have k9 : ∀ x, x < w4.heap.size -> w9.heap[x]? = w5.heap[x]? := (fun x hx => hgr9.block x (show x < w5.heap.size by omega) (fun e => by simp [Value.ownBlock] at e; omega))))
         go_wp2_with fail
         refine bodyPost_ret (v := .tuple #[.slice (some ⟨g9, 0, none⟩) 1 c9', .int .i64 0]) (by simp [results, Tryz.results24, go_sem]) rfl ?_
         rw [HQ.o.1, HQ.o.2, HD.o]; exact zcv.mk1 (lo := w3.heap.size) (Below.trans (Below.drew HB5.o) ((hb9.mono (show w.heap.size <= w3.heap.size from hs3)))) (zgD.oeds own9 (by have h : w5.heap.size <= w9.heap.size := hb9.size; omega)) hs3
  · skip
    have x0 := HE1.o.c0; rw [hk] at x0; have HKE := yq hk; have y1 := HE1.o.c1; have y2 := HE1.o.c2; have hF := HF.o; have hG := HGB.o; have hij : 0 <= e.i /\ e.i <= e.j /\ e.j <= 1000000000000000 := by have := hF.2.2.1 yO; omega
    have ws : IntKind.i64.wrap (e.j - e.i) = e.j - e.i := IntWalk.i64_in _ yO; clear hF hG; go_wp2_with fail
    go_quiet (fail)
    have HB3 := yq (zal HB1.o nq); have HE3 := yq (HE1.o.up (zal (Below.refl w2.heap.size w2) nq)); have HP3 := yq (HP1.o.up (zal (Below.refl w2.heap.size w2) nq)); clear HB1 HE1 HP1 x0 y1 y2; generalize w2.drewN nq = w3 at *; have x0 := HE3.o.c0; rw [hk] at x0; have y1 := HE3.o.c1; have y2 := HE3.o.c2; have y3 := HE3.o.c3; have lE3 := HE3.o.lt; have hs3 := HB3.o.size; by_cases hz : e.j - e.i = 0
    · have HQ := yq (show zaJ xs e = [] /\ zay xs e = 0 by rw [HIO.o, HIC.o]; unfold zc1; rw [if_neg yO, if_pos hz]; exact ⟨rfl, rfl⟩)
      clear hk; go_wp2_with fail
      refine bodyPost_ret (v := .tuple #[.slice (some ⟨w3.heap.size, 0, none⟩) 0 0, .int .i64 0]) (by simp [results, Tryz.results24, go_sem]) rfl ?_
      rw [HQ.o.1, HQ.o.2]; exact zcv.mk1 (lo := w.heap.size) (HB3.o.alloc hs3 _) (za8 rfl hs3) yL
    · have HQ := yq (show zaJ xs e = [zfn e.k (e.k + (e.j - e.i))] /\ zay xs e = 0 by rw [HIO.o, HIC.o]; unfold zc1; rw [if_neg yO, if_neg hz, if_pos hk]; exact ⟨rfl, rfl⟩)
      have hkb : 0 <= e.k /\ e.k <= 1000000000000000 := by have h1 := HF.o.2.2.2.1 hk; have := HGB.o; omega
      have wk : IntKind.i64.wrap (e.k + (e.j - e.i)) = e.k + (e.j - e.i) := IntWalk.i64_in _ yO; clear hk; go_wp2_with fail
      go_still_tail 11, yk
      change wpList _ _ _ _ _ w3.drew
      have HBW := yq (Below.drew HB3.o); generalize w3.drew = w4 at *; go_wp2_with fail
      refine bodyPost_ret (v := .tuple #[.slice (some ⟨w4.heap.size, 0, none⟩) 1 1, .int .i64 0]) (by simp [results, Tryz.results24, go_sem]) rfl ?_
      rw [HQ.o.1, HQ.o.2]; exact zcv.mk1 (lo := w.heap.size) (HBW.o.alloc HBW.o.size _) (zcS (e := zfn e.k (e.k + (e.j - e.i))) (u := .slice none 0 0) rfl HBW.o.size (.inl ⟨rfl, none, 0, rfl, Nat.zero_le _⟩)) yL
  · skip
    have x0 := HE1.o.c0; rw [hk] at x0; have HKE := yq hk; have y1 := HE1.o.c1; have y2 := HE1.o.c2; have hF := HF.o; have hG := HGB.o; have hij : 0 <= e.i /\ e.i <= e.j /\ e.j <= 1000000000000000 := by have := hF.2.2.1 yO; omega
    have ws : IntKind.i64.wrap (e.j - e.i) = e.j - e.i := IntWalk.i64_in _ yO; clear hF hG; go_wp2_with fail
    go_quiet (fail)
    have HB3 := yq (zal HB1.o nq); have HE3 := yq (HE1.o.up (zal (Below.refl w2.heap.size w2) nq)); have HP3 := yq (HP1.o.up (zal (Below.refl w2.heap.size w2) nq)); clear HB1 HE1 HP1 x0 y1 y2; generalize w2.drewN nq = w3 at *; have x0 := HE3.o.c0; rw [hk] at x0; have y1 := HE3.o.c1; have y2 := HE3.o.c2; have y3 := HE3.o.c3; have lE3 := HE3.o.lt; have hs3 := HB3.o.size; by_cases hz : e.j - e.i = 0
    · have HQ := yq (show zaJ xs e = [] /\ zay xs e = 0 by rw [HIO.o, HIC.o]; unfold zc1; rw [if_neg yO, if_pos hz]; exact ⟨rfl, rfl⟩)
      clear hk; go_wp2_with fail
      refine bodyPost_ret (v := .tuple #[.slice (some ⟨w3.heap.size, 0, none⟩) 0 0, .int .i64 0]) (by simp [results, Tryz.results24, go_sem]) rfl ?_
      rw [HQ.o.1, HQ.o.2]; exact zcv.mk1 (lo := w.heap.size) (HB3.o.alloc hs3 _) (za8 rfl hs3) yL
    · have hkb : 0 <= e.k /\ e.k <= 1000000000000000 := by have h1 := HF.o.2.2.2.2 hk; have := HGB.o; omega
      have wk : IntKind.i64.wrap (e.k + (e.j - e.i)) = e.k + (e.j - e.i) := IntWalk.i64_in _ yO; have wl : IntKind.i64.wrap (e.k - (e.j - e.i)) = e.k - (e.j - e.i) := IntWalk.i64_in _ yO; by_cases hki : e.k <= e.i
      · have HQ := yq (show zaJ xs e = [zjQ e.k (e.k + (e.j - e.i)) e.j] /\ zay xs e = 0 by rw [HIO.o, HIC.o]; unfold zc1; rw [if_neg yO, if_neg hz, if_neg yO, if_pos hk, if_pos hki]; exact ⟨rfl, rfl⟩)
        clear hk; go_wp2_with fail
        go_quiet (fail)
        have HB5 := yq (zal HB3.o nq); have HE5 := yq (HE3.o.up (zal (Below.refl w3.heap.size w3) nq)); clear x0 y1 y2 y3 HB3 HE3 lE3 hs3; generalize w3.drewN nq = w5 at *; have HB3 := HB5; have y1 := HE5.o.c1; have y2 := HE5.o.c2; have y3 := HE5.o.c3; have lE5 := HE5.o.lt; go_wp2_with fail
        go_still_tail 15, yk
        change wpList _ _ _ _ _ w5.drew
        have HBW := yq (Below.drew HB3.o); generalize w5.drew = w4 at *; go_wp2_with fail
        refine bodyPost_ret (v := .tuple #[.slice (some ⟨w4.heap.size, 0, none⟩) 1 1, .int .i64 0]) (by simp [results, Tryz.results24, go_sem]) rfl ?_
        rw [HQ.o.1, HQ.o.2]; exact zcv.mk1 (lo := w.heap.size) (HBW.o.alloc HBW.o.size _) (zcS (e := zjQ e.k (e.k + (e.j - e.i)) e.j) (u := .slice none 0 0) rfl HBW.o.size (.inl ⟨rfl, none, 0, rfl, Nat.zero_le _⟩)) yL
      · have HQ := yq (show zaJ xs e = [zjQ (e.k - (e.j - e.i)) e.k e.i] /\ zay xs e = 0 by rw [HIO.o, HIC.o]; unfold zc1; rw [if_neg yO, if_neg hz, if_neg yO, if_pos hk, if_neg hki]; exact ⟨rfl, rfl⟩)
        clear hk; go_wp2_with fail
        go_quiet (fail)
        have HB5 := yq (zal HB3.o nq); have HE5 := yq (HE3.o.up (zal (Below.refl w3.heap.size w3) nq)); clear x0 y1 y2 y3 HB3 HE3 lE3 hs3; generalize w3.drewN nq = w5 at *; have HB3 := HB5; have y1 := HE5.o.c1; have y2 := HE5.o.c2; have y3 := HE5.o.c3; have lE5 := HE5.o.lt; go_wp2_with fail
        go_still_tail 15, yk
        change wpList _ _ _ _ _ w5.drew
        have HBW := yq (Below.drew HB3.o); generalize w5.drew = w4 at *; go_wp2_with fail
        refine bodyPost_ret (v := .tuple #[.slice (some ⟨w4.heap.size, 0, none⟩) 1 1, .int .i64 0]) (by simp [results, Tryz.results24, go_sem]) rfl ?_
        rw [HQ.o.1, HQ.o.2]; exact zcv.mk1 (lo := w.heap.size) (HBW.o.alloc HBW.o.size _) (zcS (e := zjQ (e.k - (e.j - e.i)) e.k e.i) (u := .slice none 0 0) rfl HBW.o.size (.inl ⟨rfl, none, 0, rfl, Nat.zero_le _⟩)) yL
  · have HCK := yq hkk
    have hk567 : e.kind = 5 \/ e.kind = 6 \/ e.kind = 7 := by unfold zjF at hkk; omega
    clear hkk; rcases hk567 with hk | hk | hk
    · skip
      have x0 := HE1.o.c0; rw [hk] at x0; have HKE := yq hk; have y1 := HE1.o.c1; have y2 := HE1.o.c2; have hF := HF.o; have hG := HGB.o; have hij : 0 <= e.i /\ e.i <= e.j /\ e.j <= 1000000000000000 := by have := hF.2.2.1 yO; omega
      have ws : IntKind.i64.wrap (e.j - e.i) = e.j - e.i := IntWalk.i64_in _ yO; clear hF hG; go_wp2_with fail
      go_quiet (fail)
      have HB3 := yq (zal HB1.o nq); have HE3 := yq (HE1.o.up (zal (Below.refl w2.heap.size w2) nq)); have HP3 := yq (HP1.o.up (zal (Below.refl w2.heap.size w2) nq)); clear HB1 HE1 HP1 x0 y1 y2; generalize w2.drewN nq = w3 at *; have x0 := HE3.o.c0; rw [hk] at x0; have y1 := HE3.o.c1; have y2 := HE3.o.c2; have y3 := HE3.o.c3; have lE3 := HE3.o.lt; have hs3 := HB3.o.size; by_cases hz : e.j - e.i = 0
      · have HQ := yq (show zaJ xs e = [] /\ zay xs e = 0 by rw [HIO.o, HIC.o]; unfold zc1; rw [if_neg yO, if_pos hz]; exact ⟨rfl, rfl⟩)
        clear hk; go_wp2_with fail
        refine bodyPost_ret (v := .tuple #[.slice (some ⟨w3.heap.size, 0, none⟩) 0 0, .int .i64 0]) (by simp [results, Tryz.results24, go_sem]) rfl ?_
        rw [HQ.o.1, HQ.o.2]; exact zcv.mk1 (lo := w.heap.size) (HB3.o.alloc hs3 _) (za8 rfl hs3) yL
      · have HQ := yq (show zaJ xs e = [zkz e.i e.j] /\ zay xs e = 0 by rw [HIO.o, HIC.o]; unfold zc1; rw [if_neg yO, if_neg hz, if_neg yO, if_neg yO, if_pos hk]; exact ⟨rfl, rfl⟩)
        clear hk; go_wp2_with fail
        go_still_tail 9, yk
        change wpList _ _ _ _ _ w3.drew
        have HBW := yq (Below.drew HB3.o); generalize w3.drew = w4 at *; go_wp2_with fail
        refine bodyPost_ret (v := .tuple #[.slice (some ⟨w4.heap.size, 0, none⟩) 1 1, .int .i64 0]) (by simp [results, Tryz.results24, go_sem]) rfl ?_
        rw [HQ.o.1, HQ.o.2]; exact zcv.mk1 (lo := w.heap.size) (HBW.o.alloc HBW.o.size _) (zcS (e := zkz e.i e.j) (u := .slice none 0 0) rfl HBW.o.size (.inl ⟨rfl, none, 0, rfl, Nat.zero_le _⟩)) yL
    · skip
      have x0 := HE1.o.c0; rw [hk] at x0; have HKE := yq hk; have y1 := HE1.o.c1; have y2 := HE1.o.c2; have hF := HF.o; have hG := HGB.o; have hij : 0 <= e.i /\ e.i <= e.j /\ e.j <= 1000000000000000 := by have := hF.2.2.1 yO; omega
      have ws : IntKind.i64.wrap (e.j - e.i) = e.j - e.i := IntWalk.i64_in _ yO; clear hF hG; go_wp2_with fail
      go_quiet (fail)
      have HB3 := yq (zal HB1.o nq); have HE3 := yq (HE1.o.up (zal (Below.refl w2.heap.size w2) nq)); have HP3 := yq (HP1.o.up (zal (Below.refl w2.heap.size w2) nq)); clear HB1 HE1 HP1 x0 y1 y2; generalize w2.drewN nq = w3 at *; have x0 := HE3.o.c0; rw [hk] at x0; have y1 := HE3.o.c1; have y2 := HE3.o.c2; have y3 := HE3.o.c3; have lE3 := HE3.o.lt; have hs3 := HB3.o.size; by_cases hz : e.j - e.i = 0
      · have HQ := yq (show zaJ xs e = [] /\ zay xs e = 0 by rw [HIO.o, HIC.o]; unfold zc1; rw [if_neg yO, if_pos hz]; exact ⟨rfl, rfl⟩)
        clear hk; go_wp2_with fail
        refine bodyPost_ret (v := .tuple #[.slice (some ⟨w3.heap.size, 0, none⟩) 0 0, .int .i64 0]) (by simp [results, Tryz.results24, go_sem]) rfl ?_
        rw [HQ.o.1, HQ.o.2]; exact zcv.mk1 (lo := w.heap.size) (HB3.o.alloc hs3 _) (za8 rfl hs3) yL
      · skip
        have k1 : C1 w3 ⟨P, oP, none⟩ (.slice AG xs.length cG) := HP3.o; have k3 : C1 w3 ⟨E, oE + 1, none⟩ (.int .i64 e.i) := ⟨y1, lE3⟩
        have k4 : C1 w3 ⟨E, oE + 2, none⟩ (.int .i64 e.j) := ⟨y2, lE3⟩
        have lP3 := HP3.o.lt; have hrange : 0 <= e.i /\ e.i <= e.j /\ e.j <= zao ls := by have h1 := HF.o; have h2 := h1.2.2.1 yO; have := HGL.o; omega
        have HY := yq (zbN HOK.o HL.o hrange); have HGP := yq (zcg HL.o hrange.1 hrange.2.1 hrange.2.2); have HRB := yq (zjI HC0.o HKE.o HL.o HGP.o); clear hk; go_upto_region 18 with fail
        go_cut [9, 10] (fun s9 s10 wx => ∃ (Z : Nat) (A9 : Option Addr) (c9 : Nat), s9 = .pointer (some ⟨Z, 0, none⟩) /\ s10 = .int .i64 (zas (zap xs ls e.i e.j)) /\ w3.heap.size <= Z /\ Below w3.heap.size w3 wx /\ Blk wx Z #[.slice A9 (zav (zap xs ls e.i e.j)).length c9] 26 /\ zac wx w3.heap.size (.slice A9 (zav (zap xs ls e.i e.j)).length c9) (zav (zap xs ls e.i e.j)))
        case first =>
         have B0 := Below.drew (Below.refl w3.heap.size w3); have BA := yq (fun (o : Obj) => Below.drew (Below.alloc (Below.refl w3.heap.size w3) yL o)); have KD := zfk k1 k3 k4 B0
         go_region_held3 (fun w' => Below w3.heap.size w3 w' /\ w'.cell? ⟨P, oP, none⟩ = some (.slice AG xs.length cG) /\ w'.cell? ⟨E, oE + 1, none⟩ = some (.int .i64 e.i) /\ w'.cell? ⟨E, oE + 2, none⟩ = some (.int .i64 e.j))
          (first | (with_reducible exact KD) | (with_reducible exact zfk k1 k3 k4 (BA.o _)) | (with_reducible exact zfk k1 k3 k4 b1) | (with_reducible exact zfk k1 k3 k4 (b1.alloc z1 _)) | (with_reducible exact zfk k1 k3 k4 (b1.setCell yL _)))
          (first
            | (go_at_call 58; (refine (zcV _ xs e.i e.j _ (HG.o.up (have yx := HB3.o; yb)) hn sm.o).mono ?_); rintro e9 w5 ⟨hb1, v9, own9, rfl⟩; rw [HY.o.1] at own9; rw [HY.o.2]; obtain ⟨A9, c9, rfl, _⟩ := zae own9; have b1 : Below w3.heap.size w3 w5 := (by first | exact Below.undrew hb1 | exact (Below.unalloc (Below.undrew hb1)).1); have z1 := b1.size; (try (obtain ⟨hbz, KR⟩ := Below.unalloc (Below.undrew hb1); have cz := Blk.cell (i := 0) (v := .slice none 0 0) KR rfl; have fz := Blk.frozen KR 0; have lz := Blk.lt KR))))
         all_goals
          go_wp2_with fail
          go_meet
          first
           | exact ⟨w5.heap.size, A9, c9, rfl, rfl, z1, b1.alloc z1 _, Blk.new _ _ _, World.ownsRow.alloc own9 _⟩
           | exact ⟨w3.heap.size, A9, c9, rfl, rfl, Nat.le_refl _, b1.setCell yL _, Blk.set KR 0 _, zad (ownsRow_setCell_below own9 (a := ⟨w3.heap.size, 0, none⟩) (by simp [World.drew]) _) (by simp [World.drew])⟩
        case rest =>
         obtain ⟨Z, A9, c9, rfl, rfl, hZ3, hb, KZ, hown⟩ := hcut; revert hb KZ hown; generalize wc = w4; intro hb KZ hown; have HE4 := yq (HE3.o.up hb); have HZ4 := yq KZ; have HB4 := yq (Below.tr HB3.o hb); have HO4 := yq hown; have lZ := KZ.lt; have lE4 := HE4.o.lt; have hs34 := hb.size; have hs4 := HB4.o.size; clear hb KZ hown k1 k3 k4 x0 y1 y2 y3; cases hq : zag (zap xs ls e.i e.j) with
         | false =>
           have q2 : zas (zap xs ls e.i e.j) = 3 := by unfold zas; rw [hq]; rfl
           have HQ := yq (show zaJ xs e = [] /\ zay xs e = 3 by rw [HIO.o, HIC.o]; unfold zc1; have := HKE.o; rw [if_neg yO, if_neg hz, if_neg yO, if_neg yO, if_neg yO, hq]; exact ⟨rfl, rfl⟩); rw [q2]; clear hq q2; go_wp2_with fail
           refine bodyPost_ret (v := .tuple #[.slice (some ⟨w4.heap.size, 0, none⟩) 0 0, .int .i64 3]) (by simp [results, Tryz.results24, go_sem]) rfl ?_
           rw [HQ.o.1, HQ.o.2]; exact zcv.mk1 (lo := w.heap.size) (HB4.o.alloc hs4 _) (za8 rfl hs4) yL
         | true =>
           have q1 : zav (zap xs ls e.i e.j) = zap xs ls e.i e.j := by unfold zav; rw [hq]; rfl
           have q2 : zas (zap xs ls e.i e.j) = 0 := by unfold zas; rw [hq]; rfl
           have HQ := yq (show zaJ xs e = zfo e ++ [zhf e.i (zap xs ls e.i e.j)] /\ zay xs e = 0 by rw [HIO.o, HIC.o]; unfold zc1; have := HKE.o; rw [if_neg yO, if_neg hz, if_neg yO, if_neg yO, if_neg yO, hq]; exact ⟨rfl, rfl⟩); have HGq := yq hq; rw [q1] at HZ4 HO4; rw [q2]; clear q1 q2 hq HY; generalize hpq : zap xs ls e.i e.j = p at *; have HPQ := yq hpq; clear hpq; have hrb := HRB.o; have hk0 : 0 <= e.k := by rcases HCK.o with h | ⟨_, h, _⟩ | ⟨h, _⟩ <;> (have := HKE.o; omega)
           have wm : IntKind.i64.wrap ((e.j - e.i) * e.k) = (e.j - e.i) * e.k := IntWalk.i64_in _ (by have := Int.mul_nonneg (show 0 <= e.j - e.i by omega) hk0; omega); have hm0 : 0 <= (e.j - e.i) * e.k := Int.mul_nonneg yO hk0; obtain ⟨M, hM⟩ : ∃ M, (e.j - e.i) * e.k = M := ⟨_, rfl⟩
           rw [hM] at wm hrb hm0; have HM := yq hM; by_cases h0 : 0 < M
           · have HD := yq (show zfo e = [zfn e.i (e.i + M)] by unfold zfo; rw [if_neg (by have := HKE.o; omega), if_pos HKE.o, hM, if_pos h0])
             have wa : IntKind.i64.wrap (e.i + M) = e.i + M := IntWalk.i64_in _ yO; have x0 := HE4.o.c0; rw [HKE.o] at x0; have y1 := HE4.o.c1; have y3 := HE4.o.c3; have bA := (Below.refl w4.heap.size w4).alloc yL (Obj.cells #[] 37); have KO := zch (W := w4) (lo := w3.heap.size) rfl hs34; have HE5 := yq (HE4.o.up bA); have HZ5 := yq (HZ4.o.up bA); have HO5 := yq (zac.below HO4.o bA); have HB5 := yq (Below.tr HB4.o bA); have HKO := yq KO; have hs5 : w4.heap.size < (w4.alloc (Obj.cells #[] 37)).heap.size := by simp
             clear bA KO x0 y1 y3; go_upto_region 23 with fail
             generalize w4.alloc (Obj.cells #[] 37) = w5 at *; have x0 := HE5.o.c0; rw [HKE.o] at x0; have y1 := HE5.o.c1; have y3 := HE5.o.c3; have lE5 := HE5.o.lt; go_wp2_with fail
             have KS : ∀ W : World, (∀ x, x < w4.heap.size -> W.heap[x]? = w5.heap[x]?) -> W.cell? ⟨E, oE + 1, none⟩ = some (.int .i64 e.i) := fun W hW => (HE5.o.same (hW E lE4)).c1; have KD := KS w5.drew (fun _ _ => rfl); have KA := fun (o : Obj) => KS (w5.alloc o).drew (fun x hx => Below.heap_alloc w5 o x yO)
             go_region_held3 (fun w' => w'.cell? ⟨E, oE + 1, none⟩ = some (.int .i64 e.i))
              (first | (with_reducible exact KD) | (with_reducible exact KA _) | (with_reducible exact KS _ k6))
              (first
                | (refine zbZ w5.drew (e := zfn e.i (e.i + M)) (u := .slice none 0 0) yR yR _ _ yR (lo := w3.heap.size) (hp := w3.heap.size) (pa := w3.heap.size) (pb := w3.heap.size) (v := .slice (some ⟨w4.heap.size, 0, none⟩) 0 0) (es := []) yR (by first | rfl | simp) rfl (HKO.o.keep (Below.drew (Below.refl _ _)) yO) yS (show w3.heap.size <= w5.heap.size by omega) (by simp [Value.oneCell']) ⟨.inl ⟨rfl, none, 0, rfl, Nat.zero_le _⟩, fun g hg => by simp [Value.ownBlock] at hg; omega⟩ yL yL (show w3.heap.size <= w5.heap.size by omega) yL ?_; intro g6 c6 w6 own6 hg6 hgr6 hb6; have k6 : ∀ x, x < w4.heap.size -> w6.heap[x]? = w5.heap[x]? := (fun x hx => hgr6.block x (show x < w5.heap.size by omega) (fun e => by simp [Value.ownBlock] at e; omega))))
             have hs6 := hgr6.size; have hne : ∀ x, x < w4.heap.size -> some x ≠ (Value.slice (some ⟨w4.heap.size, 0, none⟩) 0 0).ownBlock := fun x hx e => by simp [Value.ownBlock] at e; omega
             have zcC : ∀ x, x < w4.heap.size -> w6.heap[x]? = w5.heap[x]? := fun x hx => hgr6.block x (by show x < w5.heap.size; omega) (hne x hx); have HE6 := yq (HE5.o.same (zcC E lE4)); have HZ6 := yq (show Blk w6 Z #[.slice A9 p.length c9] 26 from (zcC Z lZ).trans HZ5.o); have HO6 := yq (za7 HO5.o (fun g hg => zcC g (World.ownsRow.lt HO4.o g hg).2)); have HB6 := yq (Below.trans (Below.drew HB5.o) (hb6.mono hs3)); have HO66 := yq own6
             have hg66 : w4.heap.size <= g6 := by
              rcases hg6 with h | h
              · simp [Value.ownBlock] at h; omega
              · rw [h]; show w4.heap.size <= w5.heap.size + 1; omega
             have hs56 : w5.heap.size <= w6.heap.size := hs6; clear own6 hg6 hgr6 hb6 hs6 hne zcC x0 y1 y3 KS KD KA k6; have x0 := HE6.o.c0; rw [HKE.o] at x0; have y1 := HE6.o.c1; have y3 := HE6.o.c3; have lE6 := HE6.o.lt; have c6' := HZ6.o.cell (i := 0) (v := .slice A9 p.length c9) rfl; have lZ6 := HZ6.o.lt; go_wp2_with fail
             have KS : ∀ W : World, (∀ x, x < w4.heap.size -> W.heap[x]? = w6.heap[x]?) -> W.cell? ⟨E, oE + 1, none⟩ = some (.int .i64 e.i) /\ W.cell? ⟨Z, 0, none⟩ = some (.slice A9 p.length c9) := fun W hW => And.intro (HE6.o.same (hW E lE4)).c1 (Blk.cell (w := W) (show W.heap[Z]? = _ from (hW Z lZ).trans HZ6.o) rfl); have KD := KS w6.drew (fun _ _ => rfl); have KA := fun (o : Obj) => KS (w6.alloc o).drew (fun x hx => Below.heap_alloc w6 o x yO)
             go_region_held3 (fun w' => w'.cell? ⟨E, oE + 1, none⟩ = some (.int .i64 e.i) /\ w'.cell? ⟨Z, 0, none⟩ = some (.slice A9 p.length c9))
              (first | (with_reducible exact KD) | (with_reducible exact KA _) | (with_reducible exact KS _ k9))
              (first
                | (refine zbZ w6.drew (e := zhf e.i p) (u := .slice A9 p.length c9) yR yR _ _ yR (lo := w3.heap.size) (hp := w3.heap.size) (pa := w3.heap.size) (pb := w4.heap.size) (v := .slice (some ⟨g6, 0, none⟩) 1 c6) (es := [zfn e.i (e.i + M)]) yR (by first | rfl | simp) rfl (HO66.o.keep (Below.drew (Below.refl _ _)) yO) yS (show w3.heap.size <= w6.heap.size by omega) (by simp [Value.oneCell']) ⟨.inr ⟨HO6.o, fun g hg => (World.ownsRow.lt HO4.o g hg).2, show w4.heap.size <= w6.heap.size by omega⟩, fun g hg => by simp [Value.ownBlock] at hg; omega⟩ yL hs34 (show w4.heap.size <= w6.heap.size by omega) yL ?_; intro g9 c9' w9 own9 hg9 hgr9 hb9; have k9 : ∀ x, x < w4.heap.size -> w9.heap[x]? = w6.heap[x]? := (fun x hx => hgr9.block x (show x < w6.heap.size by omega) (fun e => by simp [Value.ownBlock] at e; omega))))
             go_wp2_with fail
             refine bodyPost_ret (v := .tuple #[.slice (some ⟨g9, 0, none⟩) 2 c9', .int .i64 0]) (by simp [results, Tryz.results24, go_sem]) rfl ?_
             rw [HQ.o.1, HQ.o.2, HD.o]; exact zcv.mk1 (lo := w3.heap.size) (Below.trans (Below.drew HB6.o) ((hb9.mono (show w.heap.size <= w3.heap.size from hs3)))) (zgD.oeds own9 (by have h : w6.heap.size <= w9.heap.size := hb9.size; omega)) hs3
           · have hM0 : M = 0 := by omega
             have HD := yq (show zfo e = [] by unfold zfo; rw [if_neg (by have := HKE.o; omega), if_pos HKE.o, hM, if_neg h0]); have x0 := HE4.o.c0; rw [HKE.o] at x0; have y1 := HE4.o.c1; have y3 := HE4.o.c3
             skip
             have c4 := HZ4.o.cell (i := 0) (v := .slice A9 p.length c9) rfl; have bA := (Below.refl w4.heap.size w4).alloc yL (Obj.cells #[] 37); have KO := zch (W := w4) (lo := w3.heap.size) rfl hs34; have HE5 := yq (HE4.o.up bA); have HZ5 := yq (HZ4.o.up bA); have HO5 := yq (zac.below HO4.o bA); have HB5 := yq (Below.tr HB4.o bA); have HKO := yq KO; have hs5 : w4.heap.size < (w4.alloc (Obj.cells #[] 37)).heap.size := by simp
             clear bA KO x0 y1 y3 c4; go_upto_region 23 with fail
             generalize w4.alloc (Obj.cells #[] 37) = w5 at *; have x0 := HE5.o.c0; rw [HKE.o] at x0; have y1 := HE5.o.c1; have y3 := HE5.o.c3; have lE5 := HE5.o.lt; have c5 := HZ5.o.cell (i := 0) (v := .slice A9 p.length c9) rfl; have lZ5 := HZ5.o.lt; go_wp2_with fail
             have KS : ∀ W : World, (∀ x, x < w4.heap.size -> W.heap[x]? = w5.heap[x]?) -> W.cell? ⟨E, oE + 1, none⟩ = some (.int .i64 e.i) /\ W.cell? ⟨Z, 0, none⟩ = some (.slice A9 p.length c9) := fun W hW => And.intro (HE5.o.same (hW E lE4)).c1 (Blk.cell (w := W) (show W.heap[Z]? = _ from (hW Z lZ).trans HZ5.o) rfl); have KD := KS w5.drew (fun _ _ => rfl); have KA := fun (o : Obj) => KS (w5.alloc o).drew (fun x hx => Below.heap_alloc w5 o x yO)
             go_region_held3 (fun w' => w'.cell? ⟨E, oE + 1, none⟩ = some (.int .i64 e.i) /\ w'.cell? ⟨Z, 0, none⟩ = some (.slice A9 p.length c9))
              (first | (with_reducible exact KD) | (with_reducible exact KA _) | (with_reducible exact KS _ k9))
              (first
                | (refine zbZ w5.drew (e := zhf e.i p) (u := .slice A9 p.length c9) yR yR _ _ yR (lo := w3.heap.size) (hp := w3.heap.size) (pa := w3.heap.size) (pb := w4.heap.size) (v := .slice (some ⟨w4.heap.size, 0, none⟩) 0 0) (es := []) yR (by first | rfl | simp) rfl (HKO.o.keep (Below.drew (Below.refl _ _)) yO) yS (show w3.heap.size <= w5.heap.size by omega) (by simp [Value.oneCell']) ⟨.inr ⟨HO5.o, fun g hg => (World.ownsRow.lt HO4.o g hg).2, show w4.heap.size <= w5.heap.size by omega⟩, fun g hg => by simp [Value.ownBlock] at hg; omega⟩ yL hs34 (show w4.heap.size <= w5.heap.size by omega) yL ?_; intro g9 c9' w9 own9 hg9 hgr9 hb9; have k9 : ∀ x, x < w4.heap.size -> w9.heap[x]? = w5.heap[x]? := (fun x hx => hgr9.block x (show x < w5.heap.size by omega) (fun e => by simp [Value.ownBlock] at e; omega))))
             go_wp2_with fail
             refine bodyPost_ret (v := .tuple #[.slice (some ⟨g9, 0, none⟩) 1 c9', .int .i64 0]) (by simp [results, Tryz.results24, go_sem]) rfl ?_
             rw [HQ.o.1, HQ.o.2, HD.o]; exact zcv.mk1 (lo := w3.heap.size) (Below.trans (Below.drew HB5.o) ((hb9.mono (show w.heap.size <= w3.heap.size from hs3)))) (zgD.oeds own9 (by have h : w5.heap.size <= w9.heap.size := hb9.size; omega)) hs3
    · skip
      have x0 := HE1.o.c0; rw [hk] at x0; have HKE := yq hk; have y1 := HE1.o.c1; have y2 := HE1.o.c2; have hF := HF.o; have hG := HGB.o; have hij : 0 <= e.i /\ e.i <= e.j /\ e.j <= 1000000000000000 := by have := hF.2.2.1 yO; omega
      have ws : IntKind.i64.wrap (e.j - e.i) = e.j - e.i := IntWalk.i64_in _ yO; clear hF hG; go_wp2_with fail
      go_quiet (fail)
      have HB3 := yq (zal HB1.o nq); have HE3 := yq (HE1.o.up (zal (Below.refl w2.heap.size w2) nq)); have HP3 := yq (HP1.o.up (zal (Below.refl w2.heap.size w2) nq)); clear HB1 HE1 HP1 x0 y1 y2; generalize w2.drewN nq = w3 at *; have x0 := HE3.o.c0; rw [hk] at x0; have y1 := HE3.o.c1; have y2 := HE3.o.c2; have y3 := HE3.o.c3; have lE3 := HE3.o.lt; have hs3 := HB3.o.size; by_cases hz : e.j - e.i = 0
      · have HQ := yq (show zaJ xs e = [] /\ zay xs e = 0 by rw [HIO.o, HIC.o]; unfold zc1; rw [if_neg yO, if_pos hz]; exact ⟨rfl, rfl⟩)
        clear hk; go_wp2_with fail
        refine bodyPost_ret (v := .tuple #[.slice (some ⟨w3.heap.size, 0, none⟩) 0 0, .int .i64 0]) (by simp [results, Tryz.results24, go_sem]) rfl ?_
        rw [HQ.o.1, HQ.o.2]; exact zcv.mk1 (lo := w.heap.size) (HB3.o.alloc hs3 _) (za8 rfl hs3) yL
      · skip
        have k1 : C1 w3 ⟨P, oP, none⟩ (.slice AG xs.length cG) := HP3.o; have k3 : C1 w3 ⟨E, oE + 1, none⟩ (.int .i64 e.i) := ⟨y1, lE3⟩
        have k4 : C1 w3 ⟨E, oE + 2, none⟩ (.int .i64 e.j) := ⟨y2, lE3⟩
        have lP3 := HP3.o.lt; have hrange : 0 <= e.i /\ e.i <= e.j /\ e.j <= zao ls := by have h1 := HF.o; have h2 := h1.2.2.1 yO; have := HGL.o; omega
        have HY := yq (zbN HOK.o HL.o hrange); have HGP := yq (zcg HL.o hrange.1 hrange.2.1 hrange.2.2); clear hk; go_upto_region 18 with fail
        go_cut [9, 10] (fun s9 s10 wx => ∃ (Z : Nat) (A9 : Option Addr) (c9 : Nat), s9 = .pointer (some ⟨Z, 0, none⟩) /\ s10 = .int .i64 (zas (zap xs ls e.i e.j)) /\ w3.heap.size <= Z /\ Below w3.heap.size w3 wx /\ Blk wx Z #[.slice A9 (zav (zap xs ls e.i e.j)).length c9] 26 /\ zac wx w3.heap.size (.slice A9 (zav (zap xs ls e.i e.j)).length c9) (zav (zap xs ls e.i e.j)))
        case first =>
         have B0 := Below.drew (Below.refl w3.heap.size w3); have BA := yq (fun (o : Obj) => Below.drew (Below.alloc (Below.refl w3.heap.size w3) yL o)); have KD := zfk k1 k3 k4 B0
         go_region_held3 (fun w' => Below w3.heap.size w3 w' /\ w'.cell? ⟨P, oP, none⟩ = some (.slice AG xs.length cG) /\ w'.cell? ⟨E, oE + 1, none⟩ = some (.int .i64 e.i) /\ w'.cell? ⟨E, oE + 2, none⟩ = some (.int .i64 e.j))
          (first | (with_reducible exact KD) | (with_reducible exact zfk k1 k3 k4 (BA.o _)) | (with_reducible exact zfk k1 k3 k4 b1) | (with_reducible exact zfk k1 k3 k4 (b1.alloc z1 _)) | (with_reducible exact zfk k1 k3 k4 (b1.setCell yL _)))
          (first
            | (go_at_call 58; (refine (zcV _ xs e.i e.j _ (HG.o.up (have yx := HB3.o; yb)) hn sm.o).mono ?_); rintro e9 w5 ⟨hb1, v9, own9, rfl⟩; rw [HY.o.1] at own9; rw [HY.o.2]; obtain ⟨A9, c9, rfl, _⟩ := zae own9; have b1 : Below w3.heap.size w3 w5 := (by first | exact Below.undrew hb1 | exact (Below.unalloc (Below.undrew hb1)).1); have z1 := b1.size; (try (obtain ⟨hbz, KR⟩ := Below.unalloc (Below.undrew hb1); have cz := Blk.cell (i := 0) (v := .slice none 0 0) KR rfl; have fz := Blk.frozen KR 0; have lz := Blk.lt KR))))
         all_goals
          go_wp2_with fail
          go_meet
          first
           | exact ⟨w5.heap.size, A9, c9, rfl, rfl, z1, b1.alloc z1 _, Blk.new _ _ _, World.ownsRow.alloc own9 _⟩
           | exact ⟨w3.heap.size, A9, c9, rfl, rfl, Nat.le_refl _, b1.setCell yL _, Blk.set KR 0 _, zad (ownsRow_setCell_below own9 (a := ⟨w3.heap.size, 0, none⟩) (by simp [World.drew]) _) (by simp [World.drew])⟩
        case rest =>
         obtain ⟨Z, A9, c9, rfl, rfl, hZ3, hb, KZ, hown⟩ := hcut; revert hb KZ hown; generalize wc = w4; intro hb KZ hown; have HE4 := yq (HE3.o.up hb); have HZ4 := yq KZ; have HB4 := yq (Below.tr HB3.o hb); have HO4 := yq hown; have lZ := KZ.lt; have lE4 := HE4.o.lt; have hs34 := hb.size; have hs4 := HB4.o.size; clear hb KZ hown k1 k3 k4 x0 y1 y2 y3; cases hq : zag (zap xs ls e.i e.j) with
         | false =>
           have q2 : zas (zap xs ls e.i e.j) = 3 := by unfold zas; rw [hq]; rfl
           have HQ := yq (show zaJ xs e = [] /\ zay xs e = 3 by rw [HIO.o, HIC.o]; unfold zc1; have := HKE.o; rw [if_neg yO, if_neg hz, if_neg yO, if_neg yO, if_neg yO, hq]; exact ⟨rfl, rfl⟩); rw [q2]; clear hq q2; go_wp2_with fail
           refine bodyPost_ret (v := .tuple #[.slice (some ⟨w4.heap.size, 0, none⟩) 0 0, .int .i64 3]) (by simp [results, Tryz.results24, go_sem]) rfl ?_
           rw [HQ.o.1, HQ.o.2]; exact zcv.mk1 (lo := w.heap.size) (HB4.o.alloc hs4 _) (za8 rfl hs4) yL
         | true =>
           have q1 : zav (zap xs ls e.i e.j) = zap xs ls e.i e.j := by unfold zav; rw [hq]; rfl
           have q2 : zas (zap xs ls e.i e.j) = 0 := by unfold zas; rw [hq]; rfl
           have HQ := yq (show zaJ xs e = zfo e ++ [zhf e.i (zap xs ls e.i e.j)] /\ zay xs e = 0 by rw [HIO.o, HIC.o]; unfold zc1; have := HKE.o; rw [if_neg yO, if_neg hz, if_neg yO, if_neg yO, if_neg yO, hq]; exact ⟨rfl, rfl⟩); have HGq := yq hq; rw [q1] at HZ4 HO4; rw [q2]; clear q1 q2 hq HY; generalize hpq : zap xs ls e.i e.j = p at *; have HPQ := yq hpq; clear hpq; have hpos : 0 < e.j - e.i := by omega
           have HD := yq (show zfo e = [zfn e.i e.j] by unfold zfo; rw [if_neg (by have := HKE.o; omega), if_neg (by have := HKE.o; omega)]); have wa : IntKind.i64.wrap (e.i + (e.j - e.i)) = e.j := by rw [IntWalk.i64_in _ yO]; omega
           have x0 := HE4.o.c0; rw [HKE.o] at x0; have y1 := HE4.o.c1; have y3 := HE4.o.c3; have bA := (Below.refl w4.heap.size w4).alloc yL (Obj.cells #[] 37); have KO := zch (W := w4) (lo := w3.heap.size) rfl hs34; have HE5 := yq (HE4.o.up bA); have HZ5 := yq (HZ4.o.up bA); have HO5 := yq (zac.below HO4.o bA); have HB5 := yq (Below.tr HB4.o bA); have HKO := yq KO; have hs5 : w4.heap.size < (w4.alloc (Obj.cells #[] 37)).heap.size := by simp
           clear bA KO x0 y1 y3; go_upto_region 23 with fail
           generalize w4.alloc (Obj.cells #[] 37) = w5 at *; have x0 := HE5.o.c0; rw [HKE.o] at x0; have y1 := HE5.o.c1; have y3 := HE5.o.c3; have lE5 := HE5.o.lt; go_wp2_with fail
           have KS : ∀ W : World, (∀ x, x < w4.heap.size -> W.heap[x]? = w5.heap[x]?) -> W.cell? ⟨E, oE + 1, none⟩ = some (.int .i64 e.i) := fun W hW => (HE5.o.same (hW E lE4)).c1; have KD := KS w5.drew (fun _ _ => rfl); have KA := fun (o : Obj) => KS (w5.alloc o).drew (fun x hx => Below.heap_alloc w5 o x yO)
           go_region_held3 (fun w' => w'.cell? ⟨E, oE + 1, none⟩ = some (.int .i64 e.i))
            (first | (with_reducible exact KD) | (with_reducible exact KA _) | (with_reducible exact KS _ k6))
            (first
              | (refine zbZ w5.drew (e := zfn e.i (e.j)) (u := .slice none 0 0) yR yR _ _ yR (lo := w3.heap.size) (hp := w3.heap.size) (pa := w3.heap.size) (pb := w3.heap.size) (v := .slice (some ⟨w4.heap.size, 0, none⟩) 0 0) (es := []) yR (by first | rfl | simp) rfl (HKO.o.keep (Below.drew (Below.refl _ _)) yO) yS (show w3.heap.size <= w5.heap.size by omega) (by simp [Value.oneCell']) ⟨.inl ⟨rfl, none, 0, rfl, Nat.zero_le _⟩, fun g hg => by simp [Value.ownBlock] at hg; omega⟩ yL yL (show w3.heap.size <= w5.heap.size by omega) yL ?_; intro g6 c6 w6 own6 hg6 hgr6 hb6; have k6 : ∀ x, x < w4.heap.size -> w6.heap[x]? = w5.heap[x]? := (fun x hx => hgr6.block x (show x < w5.heap.size by omega) (fun e => by simp [Value.ownBlock] at e; omega))))
           have hs6 := hgr6.size; have hne : ∀ x, x < w4.heap.size -> some x ≠ (Value.slice (some ⟨w4.heap.size, 0, none⟩) 0 0).ownBlock := fun x hx e => by simp [Value.ownBlock] at e; omega
           have zcC : ∀ x, x < w4.heap.size -> w6.heap[x]? = w5.heap[x]? := fun x hx => hgr6.block x (by show x < w5.heap.size; omega) (hne x hx); have HE6 := yq (HE5.o.same (zcC E lE4)); have HZ6 := yq (show Blk w6 Z #[.slice A9 p.length c9] 26 from (zcC Z lZ).trans HZ5.o); have HO6 := yq (za7 HO5.o (fun g hg => zcC g (World.ownsRow.lt HO4.o g hg).2)); have HB6 := yq (Below.trans (Below.drew HB5.o) (hb6.mono hs3)); have HO66 := yq own6
           have hg66 : w4.heap.size <= g6 := by
            rcases hg6 with h | h
            · simp [Value.ownBlock] at h; omega
            · rw [h]; show w4.heap.size <= w5.heap.size + 1; omega
           have hs56 : w5.heap.size <= w6.heap.size := hs6; clear own6 hg6 hgr6 hb6 hs6 hne zcC x0 y1 y3 KS KD KA k6; have x0 := HE6.o.c0; rw [HKE.o] at x0; have y1 := HE6.o.c1; have y3 := HE6.o.c3; have lE6 := HE6.o.lt; have c6' := HZ6.o.cell (i := 0) (v := .slice A9 p.length c9) rfl; have lZ6 := HZ6.o.lt; go_wp2_with fail
           have KS : ∀ W : World, (∀ x, x < w4.heap.size -> W.heap[x]? = w6.heap[x]?) -> W.cell? ⟨E, oE + 1, none⟩ = some (.int .i64 e.i) /\ W.cell? ⟨Z, 0, none⟩ = some (.slice A9 p.length c9) := fun W hW => And.intro (HE6.o.same (hW E lE4)).c1 (Blk.cell (w := W) (show W.heap[Z]? = _ from (hW Z lZ).trans HZ6.o) rfl); have KD := KS w6.drew (fun _ _ => rfl); have KA := fun (o : Obj) => KS (w6.alloc o).drew (fun x hx => Below.heap_alloc w6 o x yO)
           go_region_held3 (fun w' => w'.cell? ⟨E, oE + 1, none⟩ = some (.int .i64 e.i) /\ w'.cell? ⟨Z, 0, none⟩ = some (.slice A9 p.length c9))
            (first | (with_reducible exact KD) | (with_reducible exact KA _) | (with_reducible exact KS _ k9))
            (first
              | (refine zbZ w6.drew (e := zhf e.i p) (u := .slice A9 p.length c9) yR yR _ _ yR (lo := w3.heap.size) (hp := w3.heap.size) (pa := w3.heap.size) (pb := w4.heap.size) (v := .slice (some ⟨g6, 0, none⟩) 1 c6) (es := [zfn e.i (e.j)]) yR (by first | rfl | simp) rfl (HO66.o.keep (Below.drew (Below.refl _ _)) yO) yS (show w3.heap.size <= w6.heap.size by omega) (by simp [Value.oneCell']) ⟨.inr ⟨HO6.o, fun g hg => (World.ownsRow.lt HO4.o g hg).2, show w4.heap.size <= w6.heap.size by omega⟩, fun g hg => by simp [Value.ownBlock] at hg; omega⟩ yL hs34 (show w4.heap.size <= w6.heap.size by omega) yL ?_; intro g9 c9' w9 own9 hg9 hgr9 hb9; have k9 : ∀ x, x < w4.heap.size -> w9.heap[x]? = w6.heap[x]? := (fun x hx => hgr9.block x (show x < w6.heap.size by omega) (fun e => by simp [Value.ownBlock] at e; omega))))
           go_wp2_with fail
           refine bodyPost_ret (v := .tuple #[.slice (some ⟨g9, 0, none⟩) 2 c9', .int .i64 0]) (by simp [results, Tryz.results24, go_sem]) rfl ?_
           rw [HQ.o.1, HQ.o.2, HD.o]; exact zcv.mk1 (lo := w3.heap.size) (Below.trans (Below.drew HB6.o) ((hb9.mono (show w.heap.size <= w3.heap.size from hs3)))) (zgD.oeds own9 (by have h : w6.heap.size <= w9.heap.size := hb9.size; omega)) hs3
theorem znm {n : Nat} {lx a : List Int} {r : zaa} (hn : lx.length = n) (h : zaC a.length r = true) : zaU (lx ++ a) (zaH n r) = zaU a r := by
 unfold zaH; cases hp : r.pair with
 | false => simp [zaU, hp]
 | true =>
   have h2 := zbs h hp; have hp2 : ({ letter := r.letter, left := r.left + n, right := r.right + n } : zaa).pair = true := hp; simp only [if_true]
   unfold zaU; rw [if_pos hp2, if_pos hp]; have e1 : (r.left + (n : Int)).toNat = n + r.left.toNat := by omega
   have e2 : (r.right + (n : Int)).toNat = n + r.right.toNat := by omega
   show (lx ++ a).getD (r.left + n).toNat 0 + (lx ++ a).getD (r.right + n).toNat 0 = _
   rw [e1, e2, yg, yg, List.getElem?_append_right yO, List.getElem?_append_right yO, hn, Nat.add_sub_cancel_left, Nat.add_sub_cancel_left]
   rw [<- yg, <- yg]
theorem zf3 {xs ys : List zaa} {lx ly : List Int} (hx : zaW xs = some lx) (hy : zaW ys = some ly) : zaW (xs ++ ys.map (zaH xs.length)) = some (lx ++ ly) := by
 rw [ziF, hx]; have hn : lx.length = xs.length := zaG hx
 suffices H : ∀ (l : List zaa) (a o : List Int), l.foldl zaR (some a) = some o -> (l.map (zaH xs.length)).foldl zaR (some (lx ++ a)) = some (lx ++ o) by simpa using H ys [] ly hy
 intro l
 induction l with
 | nil => intro a o h; simp at h; simp [h]
 | cons y l ih =>
   intro a o h; rw [List.map_cons, List.foldl_cons]; rw [List.foldl_cons] at h; cases hs : zaR (some a) y with
   | none => rw [hs, zcT] at h; cases h
   | some b =>
     rw [hs] at h; simp only [zaR, Option.bind_some] at hs
     split at hs
     · rename_i hok
       cases hs
       have e1 : zaC (lx ++ a).length (zaH xs.length y) = true := by rw [List.length_append, hn]; exact zjh hok.1
       have e2 : zaU (lx ++ a) (zaH xs.length y) = zaU a y := znm hn hok.1
       have e3 : zaR (some (lx ++ a)) (zaH xs.length y) = some (lx ++ (a ++ [zaU a y])) := by
        simp only [zaR, Option.bind_some]
        rw [e2, if_pos ⟨e1, hok.2⟩, List.append_assoc]
       rw [e3]; exact ih _ _ h
     · cases hs
theorem ziT {xs ys : List zaa} (hx : zag xs = true) (hy : zag ys = true) (hj : zag (zbh xs ys) = true) : zaF (zbh xs ys) = zaF xs + zaF ys := by
 obtain ⟨_, lx, h1⟩ := zai hx; obtain ⟨_, ly, h2⟩ := zai hy; obtain ⟨_, l, h3⟩ := zai hj; rw [zaD h1, zaD h2, zaD h3]; have hxl := zaG h1; have hyl := zaG h2; unfold zbh at h3; by_cases c1 : xs.length = 0
 · rw [if_pos c1] at h3
   rw [h2] at h3; cases h3
   have : lx = [] := yn yO; rw [this]; simp [zao]
 · rw [if_neg c1] at h3
   by_cases c2 : ys.length = 0
   · rw [if_pos c2] at h3
     rw [h1] at h3; cases h3
     have : ly = [] := yn yO; rw [this]; simp [zao]
   · rw [if_neg c2] at h3
     have hr := zf3 h1 h2; have hlen : (xs ++ ys.map (zaH xs.length)).length = xs.length + ys.length := by simp
     have e1 : ((xs.length : Int) - 1) = ((xs.length - 1 : Nat) : Int) := by omega
     have e2 : ((xs.length : Int) + ys.length - 1) = ((xs.length + ys.length - 1 : Nat) : Int) := by omega
     rw [e1, e2] at h3; have hl3 := zaG h3; have hw := zf1 h3 yO yO; have k1 := zeb h3 (xs.length + ys.length) yS; rw [hlen] at hw; rw [hw, List.length_append] at k1; have k2 := zeb hr (xs.length - 1) yO; have k3 := zeb hr (xs.length + ys.length - 1) yO
     have g2 : (lx ++ ly).getD (xs.length - 1) 0 = zao lx := by
      rw [zao, yg, List.getElem?_append_left yO, <- yg, hxl]
     have g3 : (lx ++ ly).getD (xs.length + ys.length - 1) 0 = zao ly := by
      rw [zao, yg, List.getElem?_append_right yO, <- yg, hxl, hyl]
      congr 1; omega
     rw [g2] at k2; rw [g3] at k3
     have g1 : zao l = l.getD (xs.length + ys.length) 0 := by
      rw [zao, hl3]; simp
     rw [g1, <- k1, <- k2, <- k3]; omega
theorem zhh {s g : Option (List zaa)} {o : List zaa} (h : zbC s g = some o) : ∃ a b, s = some a /\ g = some b /\ o = zbh a b /\ zag (zbh a b) = true := by
 unfold zbC at h; split at h
 · rename_i a b
   split at h
   · rename_i h2; cases h; exact ⟨a, b, rfl, rfl, rfl, h2⟩
   · cases h
 · cases h
theorem zhi {x o : List zaa} (h : zbt x = some o) : o = x /\ zag x = true := by
 unfold zbt at h; split at h
 · rename_i h2; cases h; exact ⟨rfl, h2⟩
 · cases h
theorem zlU {xs ys : List zaa} {lx ly : List Int} (h1 : zaW xs = some lx) (h2 : zaW ys = some ly) (hm : zao lx + zao ly <= ze2) : ∃ l, zaW (zbh xs ys) = some l /\ zao l = zao lx + zao ly := by
 have hxl := zaG h1; have hyl := zaG h2; unfold zbh; by_cases c1 : xs.length = 0
 · rw [if_pos c1]
   have : lx = [] := yn yO; exact ⟨ly, h2, by rw [this]; simp [zao]⟩
 · rw [if_neg c1]
   by_cases c2 : ys.length = 0
   · rw [if_pos c2]
     have : ly = [] := yn yO; exact ⟨lx, h1, by rw [this]; simp [zao]⟩
   · rw [if_neg c2]
     have hr := zf3 h1 h2; have hlen : (xs ++ ys.map (zaH xs.length)).length = xs.length + ys.length := by simp
     have e1 : ((xs.length : Int) - 1) = ((xs.length - 1 : Nat) : Int) := by omega
     have e2 : ((xs.length : Int) + ys.length - 1) = ((xs.length + ys.length - 1 : Nat) : Int) := by omega
     have g2 : (lx ++ ly).getD (xs.length - 1) 0 = zao lx := by
      rw [zao, yg, List.getElem?_append_left yO, <- yg, hxl]
     have g3 : (lx ++ ly).getD (xs.length + ys.length - 1) 0 = zao ly := by
      rw [zao, yg, List.getElem?_append_right yO, <- yg, hxl, hyl]
      congr 1; omega
     rw [e1, e2]; have h3 := zjw (a := xs.length - 1) (b := xs.length + ys.length - 1) hr yO yO (by rw [g2, g3]; exact hm); rw [g2, g3] at h3; exact ⟨_, h3, by simp [zao]⟩
end Go.Proofs.YtejgbfgocaggfaaGreatDoor
