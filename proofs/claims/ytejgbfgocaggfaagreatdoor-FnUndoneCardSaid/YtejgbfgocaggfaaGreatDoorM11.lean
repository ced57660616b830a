import Derived.Test.YtejgbfgocaggfaaGreatDoorM10
import Derived.Lib.OthersKept
set_option maxRecDepth 100000
set_option maxHeartbeats 8000000
namespace Go.Proofs.YtejgbfgocaggfaaGreatDoor
open Go.RowKit
def zgB (W : World) (K : Nat) (s : ByteArray) (pos : Nat) : Prop := W.heap[K]? = some (.stringIter s pos)
theorem zgB.lt {W : World} {K : Nat} {s : ByteArray} {pos : Nat} (h : zgB W K s pos) : K < W.heap.size := (Array.getElem?_eq_some_iff.1 h).1
theorem zgB.up {w w' : World} {K N : Nat} {s : ByteArray} {pos : Nat} (h : zgB w K s pos) (hb : Below N w w') (hlt : K < N) : zgB w' K s pos := (hb.block K hlt).trans h
theorem zgB.not_row {w : World} {K : Nat} {s : ByteArray} {pos : Nat} (h : zgB w K s pos) {base e sz n : Nat} {v : Value} {xs : List Value} (own : w.ownsRow base e sz v n xs) : some K ≠ v.ownBlock := by
 intro he; rcases own.2 with ⟨hn, _⟩ | ⟨g, cap, cur, rfl, hb, hgg, rest⟩
 · rw [hn] at he; cases he
 · have : g = K := by
    have : some g = some K := he.symm ▸ rfl; injection this
   subst this; rw [h] at hgg; cases hgg
theorem zgB.grown {w w' : World} {K base e sz n : Nat} {s : ByteArray} {pos : Nat} {v : Value} {xs : List Value} {o : Obj} (h : zgB w K s pos) (own : w.ownsRow base e sz v n xs) (hg : (w.alloc o).grownBy w' v.ownBlock) : zgB w' K s pos := by
 have h1 : zgB (w.alloc o) K s pos := h.up ((Below.refl w.heap.size w).alloc yL o) h.lt; exact (hg.block K h1.lt (h.not_row own)).trans h1
theorem zgB.set {w : World} {K B : Nat} {s : ByteArray} {pos : Nat} (h : zgB w K s pos) (hne : K ≠ B) (v : Value) : zgB (w.setCell ⟨B, 0, none⟩ v) K s pos := (heap_setCell_other w ⟨B, 0, none⟩ K v hne).trans h
def zaX (root : Int) (L : List zaa) (d : UInt8) : List zaa := L ++ [zaP ((L.length : Int) - 1) ((L.length : Int) - 1)] ++ (if d = 49 then [zaP (L.length : Int) root] else [])
def zdT (xs : List zaa) (n : Nat) : List zaa := if n = 0 \/ xs.length = 0 then [] else (ze1 n).tail.foldl (zaX ((xs.length : Int) - 1)) xs
theorem ziu (n : Nat) : ∀ k, n < 2 ^ k -> 1 <= k -> (ze1 n).length <= k := by
 induction n using Nat.strongRecOn with
 | ind n ih =>
   intro k hk h1; by_cases c : n < 2
   · rw [zd2 c]; simpa using h1
   · rw [zd3 c, List.length_append]
     have hk2 : 2 <= k := by
      rcases Nat.lt_or_ge k 2 with h | h
      · have : k = 1 := by omega
        subst this; simp at hk; omega
      · exact h
     obtain ⟨j, rfl⟩ : ∃ j, k = j + 1 := ⟨k - 1, by omega⟩
     rw [Nat.pow_succ] at hk; have := ih (n / 2) yO j yO yO; simp; omega
theorem zn1 (n : Nat) : ∀ d ∈ ze1 n, d = 48 \/ d = 49 := by
 induction n using Nat.strongRecOn with
 | ind n ih =>
   by_cases c : n < 2
   · rw [zd2 c]
     intro d hd; have : d = UInt8.ofNat (48 + n) := by simpa using hd
     have h2 : n = 0 \/ n = 1 := by omega
     rcases h2 with rfl | rfl
     · left; rw [this]; rfl
     · right; rw [this]; rfl
   · rw [zd3 c]
     intro d hd; rcases List.mem_append.1 hd with h | h
     · exact ih (n / 2) yO d h
     · have : d = UInt8.ofNat (48 + n % 2) := by simpa using h
       have h2 : n % 2 = 0 \/ n % 2 = 1 := by omega
       rcases h2 with e | e
       · left; rw [this, e]; rfl
       · right; rw [this, e]; rfl
theorem zkU (n : Nat) : 1 <= (ze1 n).length := by
 by_cases c : n < 2
 · rw [zd2 c]; simp
 · rw [zd3 c]; simp
theorem zkg (root : Int) (L : List zaa) (d : UInt8) : (zaX root L d).length <= L.length + 2 := by
 unfold zaX; split <;> simp
theorem zfd (root : Int) : ∀ (ds : List UInt8) (L : List zaa), (ds.foldl (zaX root) L).length <= L.length + 2 * ds.length := by
 intro ds
 induction ds with
 | nil => intro L; simp
 | cons d ds ih =>
   intro L; have h1 := ih (zaX root L d); have h2 := zkg root L d; simp only [List.foldl_cons, List.length_cons]
   omega
theorem SlS.drew1 {α : Type} {E : Enc α} {w : World} {v : Value} {xs : List α} (h : Sl E w w.heap.size v xs) : Sl E w.drew w.drew.heap.size v xs := h.keep fun _ _ => rfl
theorem zmD (v : Value) (xs : List zaa) (n : Nat) (w : World) (h : Sl zar w w.heap.size v xs) (hn : xs.length <= 1048576) (ht : n < 1152921504606846976) (htab : Lib.TabIs Tryz.prog w "math/bits.deBruijn64tab" .u8 zfc) :
  Calls Tryz.prog 133 #[.agg #[v], .int .i64 n] w (znO (zdT xs n) w) := by
 have h1 := fun o o' => (h.below (((Below.refl w.heap.size w).alloc yL o).alloc yS o')).le (B' := ((w.alloc o).alloc o').heap.size) (by simp; omega); have H1 := yq h1; have HT := yq htab; clear h1 htab; obtain ⟨A, c, rfl, hc, hm, hrow⟩ := h; clear hm hrow; by_cases h0 : n = 0 \/ xs.length = 0
 · have hg : zdT xs n = [] := by rw [zdT, if_pos h0]
   have Hg := yq hg; clear hg; by_cases hz : n = 0
   · subst hz
     clear h0; go_enter Tryz.func133, Tryz.ntmps133
     go_wp2_with fail
     refine bodyPost_ret (v := .agg #[.slice none 0 0]) (by simp [results, Tryz.results133, go_sem]) rfl ⟨yb, _, by rw [Hg.o]; exact World.ownsRow_nil _ _ _ _, rfl⟩
   · have hx : xs.length = 0 := by omega
     have g0 : ((n : Int) == 0) = false := by rw [beq_eq_false_iff_ne]; omega
     have g1 : ((xs.length : Int) == 0) = true := by simp [hx]
     clear h0 hx; go_enter Tryz.func133, Tryz.ntmps133
     go_wp2_with fail
     refine bodyPost_ret (v := .agg #[.slice none 0 0]) (by simp [results, Tryz.results133, go_sem]) rfl ⟨yb, _, by rw [Hg.o]; exact World.ownsRow_nil _ _ _ _, rfl⟩
 · have hg : zdT xs n = (ze1 n).tail.foldl (zaX ((xs.length : Int) - 1)) xs := by rw [zdT, if_neg h0]
   have Hg := yq hg; have g0 : ((n : Int) == 0) = false := by rw [beq_eq_false_iff_ne]; omega
   have g1 : ((xs.length : Int) == 0) = false := by rw [beq_eq_false_iff_ne]; omega
   have hwx : IntKind.i64.wrap ((xs.length : Int) - 1) = (xs.length : Int) - 1 := IntWalk.i64_in _ yO; clear hg; go_enter Tryz.func133, Tryz.ntmps133
   have hW0 : ∃ w0, w0 = (w.alloc (Obj.cells #[Value.slice A xs.length c] 26)).alloc (Obj.cells #[Value.slice none 0 0] 26) := ⟨_, rfl⟩
   obtain ⟨w0, hw0⟩ := hW0; have HW0 := yq hw0; have hs0 : w0.heap.size = w.heap.size + 2 := by rw [hw0]; simp
   have hB0 : Below w.heap.size w w0 := by rw [hw0]; exact yb
   have hS0 : Sl zar w0 w0.heap.size (Value.slice A xs.length c) xs := by rw [hw0]; exact H1.o _ _
   have x0 : w0.cell? ⟨w.heap.size, 0, none⟩ = some (.slice A xs.length c) := by rw [hw0]; simp [go_sem]
   have y0 : w0.cell? ⟨w.heap.size + 1, 0, none⟩ = some (.slice none 0 0) := by rw [hw0]; simp [go_sem]
   have f0 : w0.frozen? ⟨w.heap.size + 1, 0, none⟩ = false := by rw [hw0]; simp [go_sem]
   have X0 := yq x0; have Y0 := yq y0; have F0 := yq f0; have HB0 := yq hB0
   have cB : Calls Tryz.prog 31 #[.agg #[.slice A xs.length c]] w0.drew fun e w' => ∃ A1 c1, e = .returned (.agg #[.slice A1 xs.length c1]) /\ zac w' w0.heap.size (.slice A1 xs.length c1) xs /\ Below w0.heap.size w0 w' :=
    (zcs _ xs w0.drew (hS0.up (Below.drew (Below.refl _ _))) yO).mono fun e w' ⟨v', h1, h2, h3⟩ => by
      obtain ⟨A1, c1, rfl, _⟩ := zae h2; exact ⟨A1, c1, h1, h2, (Below.drew (Below.refl w0.heap.size w0)).trans h3⟩
   have cA : ∀ o, Calls Tryz.prog 31 #[.agg #[.slice A xs.length c]] (w0.alloc o).drew fun e w' => (∃ A1 c1, e = .returned (.agg #[.slice A1 xs.length c1]) /\ zac w' w0.heap.size (.slice A1 xs.length c1) xs /\ Below w0.heap.size w0 w') /\ w'.heap[w0.heap.size]? = some o :=
    fun o => (zcs _ xs (w0.alloc o).drew ((hS0.up ((Below.refl _ _).alloc yL o)).drew1) yO).mono fun e w' ⟨v', h1, h2, h3⟩ => by
     obtain ⟨A1, c1, rfl, _⟩ := zae h2; have hsz : w0.heap.size < (w0.alloc o).drew.heap.size := by show w0.heap.size < (w0.alloc o).heap.size; simp
     exact ⟨⟨A1, c1, h1, zad h2 (Nat.le_of_lt hsz), (Below.drew ((Below.refl w0.heap.size w0).alloc yL o)).trans (h3.mono (Nat.le_of_lt hsz))⟩, (h3.block w0.heap.size hsz).trans (zbe _ _)⟩
   have CA := yq cA; have CB := yq cB; have Hs0 := yq hs0; clear cA cB hB0 hS0 hw0 x0 y0 f0 hs0; go_upto_region 3 with fail
   rw [<- HW0.o]; clear HW0; go_cut [5, 6] (fun p q wx => ∃ (K : Nat) (vo : Value), p = .pointer (some ⟨K, 0, none⟩) /\ q = .int .i64 ((xs.length : Int) - 1) /\ w0.heap.size <= K /\ Boxed wx K 26 vo /\ zac wx w0.heap.size vo xs /\ Below w0.heap.size w0 wx)
   case first =>
    have x0 := X0.o; have z0 : w.heap.size < w0.heap.size := by have := Hs0.o; omega
    go_region_law (go_simp; go_at_call 31; first
      | ((with_reducible refine (CA.o _).mono ?_); rintro e w1 ⟨⟨A1, c1, rfl, own1, hb1⟩, bx1⟩; have bxB : Boxed w1 w0.heap.size 26 (.slice none 0 0) := bx1; have hcb := bxB.cell; have hfb := bxB.frozen; have hlb := bxB.lt; have xx1 := (hb1.cell (p := ⟨w.heap.size, 0, none⟩) z0).trans X0.o; have zz1 := Nat.lt_of_lt_of_le z0 hb1.size)
      | ((with_reducible refine CB.o.mono ?_); rintro e w1 ⟨A1, c1, rfl, own1, hb1⟩; have xx1 := (hb1.cell (p := ⟨w.heap.size, 0, none⟩) z0).trans X0.o; have zz1 := Nat.lt_of_lt_of_le z0 hb1.size))
    all_goals
     go_wp2_with fail
     go_meet
     first
      | exact ⟨_, _, rfl, rfl, hb1.size, Boxed.new _ _ _, own1.alloc _, hb1.alloc hb1.size _⟩
      | exact ⟨_, _, rfl, rfl, Nat.le_refl _, Boxed.set _ bxB, ownsRow_setCell_other (a := ⟨w0.heap.size, 0, none⟩) own1 (bxB.not_row (by decide) own1).symm _, hb1.setCell yL _⟩
   case rest =>
    revert hcut; generalize wc = w1; intro hcut; obtain ⟨K, vo, rfl, rfl, hK, bx1, own1, hb1⟩ := hcut; have hKl := bx1.lt; have hxt := ziu n 60 ht yO; have HT1 := yq (zdN HT.o (HB0.o.trans (hb1.mono HB0.o.size))); go_wp2_with fail
    refine (zit n ht _ HT1.o).mono ?_
    rintro e w2 ⟨rfl, hb2⟩; have bx2 := Boxed.up bx1 hb2 hKl; have own2 : zac w2 w0.heap.size vo xs := zac.below own1 hb2; have B2 := yq (hb1.trans (hb2.mono hb1.size)); clear hb1 hb2 bx1 own1; obtain ⟨BL, hBL⟩ : ∃ BL, ze1 n = BL := ⟨_, rfl⟩
    have hB1 : 1 <= BL.length := by rw [<- hBL]; exact zkU n
    have hB60 : BL.length <= 60 := by rw [<- hBL]; exact hxt
    have hdig : ∀ d ∈ BL, d = 48 \/ d = 49 := by rw [<- hBL]; exact zn1 n
    have HBL := yq hBL; rw [hBL]; clear hBL
    obtain ⟨d0, ds, rfl⟩ : ∃ d0 ds, BL = d0 :: ds := by
     cases BL with
     | nil => simp at hB1
     | cons a l => exact ⟨a, l, rfl⟩
    have Hdig := yq hdig; clear hdig hxt; go_wp2_with fail
    have hex : (⟨(d0 :: ds).toArray⟩ : ByteArray).extract 1 (ds.length + 1) = ⟨ds.toArray⟩ := by
     apply ByteArray.ext
     simp [ByteArray.data_extract]
    rw [hex]; clear hex; have hit : zgB (w2.iter ⟨ds.toArray⟩ 0) w2.heap.size ⟨ds.toArray⟩ 0 := World.iter_heap _ _ _; have hb3 : Below w2.heap.size w2 (w2.iter ⟨ds.toArray⟩ 0) := (Below.refl _ _).alloc yL _; have bx3 := Boxed.up bx2 hb3 bx2.lt; have own3 : zac (w2.iter ⟨ds.toArray⟩ 0) w0.heap.size vo xs := zac.below own2 hb3; have hK2 : K < w2.heap.size := bx2.lt; have B3 := yq (B2.o.trans (hb3.mono B2.o.size)); have hw02 : w0.heap.size <= w2.heap.size := B2.o.size; clear hb3 bx2 own2; revert hit bx3 own3 B3; generalize w2.iter ⟨ds.toArray⟩ 0 = w3; intro hit bx3 own3 B3; obtain ⟨I, hI⟩ : ∃ I, w2.heap.size = I := ⟨_, rfl⟩
    rw [hI] at hit hK2 hw02; rw [hI]; clear hI; have hdl : ds.length <= 60 := by simp at hB60; omega
    go_loopw [9] (fun q wr => ∃ (k : Nat) (vo : Value), k <= ds.length /\ zgB wr I ⟨ds.toArray⟩ k /\ Boxed wr K 26 vo /\ zac wr w0.heap.size vo ((ds.take k).foldl (zaX ((xs.length : Int) - 1)) xs) /\ Below w0.heap.size w0 wr) (fun _ wr => ds.length - (match wr.heap[I]? with | some (.stringIter _ p) => p | _ => 0))
    case atStart => exact ⟨0, vo, Nat.zero_le _, hit, bx3, by simpa using own3, B3.o⟩
    case round =>
     obtain ⟨k, vo, hk, hit, hbox, hown, hb⟩ := hrel; have Hb := yq hb; have Hown := yq hown; have Hbox := yq hbox; have Hit := yq hit; have hll := zfd ((xs.length : Int) - 1) (ds.take k) xs; obtain ⟨L, hL⟩ : ∃ L, (ds.take k).foldl (zaX ((xs.length : Int) - 1)) xs = L := ⟨_, rfl⟩
     have HL := yq hL; have hlen : L.length <= 2000000 := by rw [<- hL]; simp at hll; omega
     rw [hL] at Hown; clear hb hown hbox hit hll hL; by_cases hlt : k < ds.length
     · have Hlt := yq hlt
       have hsz : k < (⟨ds.toArray⟩ : ByteArray).size := by show k < ds.toArray.size; simpa using hlt
       have hdk : (⟨ds.toArray⟩ : ByteArray)[k]'hsz = ds[k] := rfl; have hd := Hdig.o ds[k] yS; have hnx := fun ty => Lib.run_next_ascii_at (P := Tryz.prog) wr I ⟨ds.toArray⟩ k ty Hit.o hsz (by rw [hdk]; rcases hd with h | h <;> rw [h] <;> decide); rw [hdk] at hnx; have hii := Lib.iterAt_heap wr I ⟨ds.toArray⟩ k (k + 1) Hit.o; have hio := fun j hj => Lib.iterAt_other wr I j ⟨ds.toArray⟩ (k + 1) hj; have his := Lib.iterAt_size wr I ⟨ds.toArray⟩ (k + 1); have hbi := Lib.below_iterAt Hb.o (k := I) hw02 ⟨ds.toArray⟩ (k + 1); obtain ⟨wi, hwi⟩ : ∃ wi, wr.iterAt I ⟨ds.toArray⟩ (k + 1) = wi := ⟨_, rfl⟩
       simp only [hwi] at hnx hii hio his hbi
       have Bi := yq hbi; have Iti := yq (show zgB wi I ⟨ds.toArray⟩ (k + 1) from hii); have Bxi := yq (show Boxed wi K 26 vo from (hio K yO).trans Hbox.o)
       have Owi := yq (show zac wi w0.heap.size vo L from za7 Hown.o fun g hg => hio g fun e => by
        have := Hit.o.not_row Hown.o
        rw [hg, e] at this; exact this rfl)
       obtain ⟨D, hD⟩ : ∃ D, ds[k] = D := ⟨_, rfl⟩
       rw [hD] at hnx hd; have HD := yq hD; obtain ⟨Ao, co, rfl, _⟩ := zae Owi.o; have bxc := Bxi.o.cell; have bxf := Bxi.o.frozen; clear hwi hii hio his hbi hdk hD; have hw1 : IntKind.i64.wrap ((L.length : Int) - 1) = (L.length : Int) - 1 := IntWalk.i64_in _ yO; have Hll : yh (L.length <= 1099511627775) := by rw [yh]; omega
       have Hw0 := yq (show w0.heap.size <= wi.heap.size from Bi.o.size); have HKw := yq (show K < wi.heap.size from Bxi.o.lt); have HIw := yq (show I < wi.heap.size from Iti.o.lt); have Hlen := yq hlen; clear hlen; go_upto_region 8 with fail
       go_cut [9] from 29 to 54 (fun q wx => q = .int .i64 L.length /\ ∃ vo : Value, zgB wx I ⟨ds.toArray⟩ (k + 1) /\ Boxed wx K 26 vo /\ zac wx w0.heap.size vo (L ++ [zaP ((L.length : Int) - 1) ((L.length : Int) - 1)]) /\ Below w0.heap.size w0 wx)
       case first =>
        go_region_law (first
         | (refine zbc (base := w0.heap.size) yR _ _ yR yR (by first | rfl | simp) rfl (zac.below Owi.o.drew hb2) Hll hs2 ?_; intro v3 w3 own3 hg3 hb3; have bx4 : Boxed w3 K 26 _ := Boxed.grown (Boxed.up (Boxed.mk' Bxi.o) hb2 HKw.o) (by decide) (zac.below Owi.o.drew hb2) hg3; have it4 : zgB w3 I ⟨ds.toArray⟩ (k + 1) := zgB.grown (zgB.up (w := wi.drew) Iti.o hb2 HIw.o) (zac.below Owi.o.drew hb2) hg3; obtain ⟨A3, c3, rfl, _⟩ := zae own3; have hcb3 := bx4.cell; have hfb3 := bx4.frozen; have hlb3 := bx4.lt)
         | (go_simp; go_at_call 121; refine (zdW _ _ _).mono ?_; rintro e w4 ⟨rfl, hb2⟩; have bx2 := Boxed.up (Boxed.mk' Bxi.o) hb2 HKw.o; have hcb2 := bx2.cell; have hfb2 := bx2.frozen; have hlb2 := bx2.lt; have hs2 : w0.heap.size <= w4.heap.size := Nat.le_trans Hw0.o hb2.size))
        all_goals
         go_wp2_with fail
         go_meet
         try rw [hw1] at own3
         have e9 : (L ++ [zaP ((L.length : Int) - 1) ((L.length : Int) - 1)]).length = L.length + 1 := by simp
         have own9 : zac w3 w0.heap.size (.slice A3 (L.length + 1) c3) (L ++ [zaP ((L.length : Int) - 1) ((L.length : Int) - 1)]) := by rw [<- e9]; exact own3
         refine ⟨rfl, _, it4.set yO _, Boxed.set _ bx4, ownsRow_setCell_other (a := ⟨K, 0, none⟩) own9 (bx4.not_row (by decide) own9).symm _, ?_⟩
         exact ((((Below.drew Bi.o).trans (hb2.mono Hw0.o)).alloc hs2 _).trans hb3).setCell hK _
       case rest =>
        revert hcut; generalize wc = w5; intro hcut; obtain ⟨rfl, vo5, it5, bx5, own5, b5⟩ := hcut; have It5 := yq it5; have Bx5 := yq bx5; have B5 := yq b5; obtain ⟨M, hM⟩ : ∃ M, L ++ [zaP ((L.length : Int) - 1) ((L.length : Int) - 1)] = M := ⟨_, rfl⟩
        rw [hM] at own5; have hMl : M.length = L.length + 1 := by rw [<- hM]; simp
        have HM := yq hM; have Ow5 := yq own5; obtain ⟨A5, c5, rfl, _⟩ := zae own5; have bxc5 := bx5.cell; have bxf5 := bx5.frozen; clear hM it5 bx5 b5 own5
        have Hstep : yh ((ds.take (k + 1)).foldl (zaX ((xs.length : Int) - 1)) xs = zaX ((xs.length : Int) - 1) L D) := by
         rw [yh, List.take_add_one, ye hlt, List.foldl_append, HL.o, HD.o]; rfl
        rcases hd with rfl | rfl
        · go_wp2_with fail
          have e : zaX ((xs.length : Int) - 1) L 48 = M := by rw [<- HM.o]; simp [zaX]
          refine ⟨⟨k + 1, _, by omega, It5.o, Bx5.o, ?_, B5.o⟩, ?_⟩
          · rw [Hstep.o, e]; exact Ow5.o
          · have i1 : w5.heap[I]? = some (.stringIter ⟨ds.toArray⟩ (k + 1)) := It5.o
            have i2 : wr.heap[I]? = some (.stringIter ⟨ds.toArray⟩ k) := Hit.o; rw [i1, i2]; show ds.length - (k + 1) < ds.length - k
            have := Hlt.o; omega
        · have Hw5 := yq (show w0.heap.size <= w5.heap.size from B5.o.size)
          have HK5 := yq (show K < w5.heap.size from Bx5.o.lt); have HI5 := yq (show I < w5.heap.size from It5.o.lt); have Hml : yh (M.length <= 1099511627775) := by rw [yh]; have := Hlen.o; omega
          have HMl := yq hMl; clear hMl; go_wp2_with fail
          go_region_law (first
           | (refine zbc (base := w0.heap.size) yR _ _ yR yR (by first | rfl | simp) rfl (zac.below Ow5.o.drew hb6) Hml hs6 ?_; intro v7 w7 own7 hg7 hb7; have bx7 : Boxed w7 K 26 _ := Boxed.grown (Boxed.up (Boxed.mk' Bx5.o) hb6 HK5.o) (by decide) (zac.below Ow5.o.drew hb6) hg7; have it7 : zgB w7 I ⟨ds.toArray⟩ (k + 1) := zgB.grown (zgB.up (w := w5.drew) It5.o hb6 HI5.o) (zac.below Ow5.o.drew hb6) hg7; obtain ⟨A7, c7, rfl, _⟩ := zae own7; have hcb7 := bx7.cell; have hfb7 := bx7.frozen; have hlb7 := bx7.lt)
           | (go_simp; go_at_call 121; refine (zdW _ _ _).mono ?_; rintro e w6 ⟨rfl, hb6⟩; have bx6 := Boxed.up (Boxed.mk' Bx5.o) hb6 HK5.o; have hcb6 := bx6.cell; have hfb6 := bx6.frozen; have hlb6 := bx6.lt; have hs6 : w0.heap.size <= w6.heap.size := Nat.le_trans Hw5.o hb6.size))
          all_goals
           go_wp2_with fail
           have e : zaX ((xs.length : Int) - 1) L 49 = M ++ [zaP (L.length : Int) ((xs.length : Int) - 1)] := by rw [<- HM.o]; simp [zaX]
           have e9 : (M ++ [zaP (L.length : Int) ((xs.length : Int) - 1)]).length = M.length + 1 := by simp
           have own9 : zac w7 w0.heap.size (.slice A7 (M.length + 1) c7) (M ++ [zaP (L.length : Int) ((xs.length : Int) - 1)]) := by rw [<- e9]; exact own7
           have it9 := it7.set (B := K) yO (.slice A7 (M.length + 1) c7); refine ⟨⟨k + 1, _, by have := Hlt.o; omega, it9, Boxed.set _ bx7, ?_, ?_⟩, ?_⟩
           · rw [Hstep.o, e]; exact ownsRow_setCell_other (a := ⟨K, 0, none⟩) own9 (bx7.not_row (by decide) own9).symm _
           · exact ((((Below.drew B5.o).trans (hb6.mono Hw5.o)).alloc hs6 _).trans hb7).setCell hK _
           · have i1 : (w7.setCell ⟨K, 0, none⟩ (.slice A7 (M.length + 1) c7)).heap[I]? = some (.stringIter ⟨ds.toArray⟩ (k + 1)) := it9
             have i2 : wr.heap[I]? = some (.stringIter ⟨ds.toArray⟩ k) := Hit.o; rw [i1, i2]; show ds.length - (k + 1) < ds.length - k
             have := Hlt.o; omega
     · have hkn : k = ds.length := by omega
       subst hkn; have hsz : ¬ ds.length < (⟨ds.toArray⟩ : ByteArray).size := by show ¬ ds.length < ds.toArray.size; simp
       have hnx := fun ty => Lib.run_next_end_at (P := Tryz.prog) wr I ⟨ds.toArray⟩ ds.length ty Hit.o hsz; obtain ⟨Ao, co, rfl, _⟩ := zae Hown.o; have bxc := Hbox.o.cell; have y0 := (Hb.o.cell (p := ⟨w.heap.size + 1, 0, none⟩) (by have := Hs0.o; show w.heap.size + 1 < _; omega)).trans Y0.o; have f0 := (Hb.o.frozen (p := ⟨w.heap.size + 1, 0, none⟩) (by have := Hs0.o; show w.heap.size + 1 < _; omega)).trans F0.o; have HL' : yh (zdT xs n = L) := by rw [yh, Hg.o, HBL.o, List.tail_cons, <- HL.o, List.take_length]
       clear hlen hlt hsz; go_wp2_with fail
       refine bodyPost_ret (v := .agg #[.slice Ao L.length co]) (by simp [results, Tryz.results133, go_sem, y0]) rfl ⟨?_, _, ?_, rfl⟩
       · exact (HB0.o.trans (Hb.o.mono HB0.o.size)).setCell (by show w.heap.size <= w.heap.size + 1; omega) _
       · rw [HL'.o]
         have h6 := ownsRow_setCell_below (a := ⟨w.heap.size + 1, 0, none⟩) Hown.o (by have := Hs0.o; show w.heap.size + 1 < w0.heap.size; omega) (.slice Ao L.length co); exact zad h6 HB0.o.size
def inB (n a b : Int) : Bool := decide (a <= n) && decide (n <= b)
theorem zmE (n a b : Int) (r : Bool) (w : World) (h : inB n a b = r) : Calls Tryz.prog 27 #[.int .i64 n, .int .i64 a, .int .i64 b] w fun e w' => e = .returned (.bool r) /\ w = w' :=
 (zdE n a b w).mono fun _ _ ⟨he, hw⟩ => ⟨by rw [he, <- h]; rfl, hw⟩
theorem zoC (n a b : Int) (r : Bool) (w : World) (h : inB n a b = r) : Calls Tryz.prog 21 #[.int .i64 n, .int .i64 a, .int .i64 b] w fun e w' => e = .returned (.bool r) /\ w = w' :=
 (zdF n a b w).mono fun _ _ ⟨he, hw⟩ => ⟨by rw [he, <- h]; rfl, hw⟩
def zck (xs : List zaa) (t : Int) : List zaa := if zag xs && inB t 0 1000000000000000 then zav (zdT xs t.toNat) else []
def zbR (xs : List zaa) (t : Int) : Int := if zag xs then if inB t 0 1000000000000000 then zas (zdT xs t.toNat) else 2 else 1
theorem zn2 (xs : List zaa) (n : Nat) (h : n < 1152921504606846976) : (zdT xs n).length <= xs.length + 120 := by
 unfold zdT; split
 · simp
 · have h1 := zfd ((xs.length : Int) - 1) (ze1 n).tail xs
   have h2 := ziu n 60 h yO; have h3 : (ze1 n).tail.length <= 60 := by simp; omega
   omega
theorem ziv (v : Value) (xs : List zaa) (t : Int) (w : World) (h : Sl zar w w.heap.size v xs) (hn : xs.length <= 1048576) (htab : Lib.TabIs Tryz.prog w "math/bits.deBruijn64tab" .u8 zfc) :
  Calls Tryz.prog 103 #[.agg #[v], .int .i64 t] w (zl8 (zck xs t) (zbR xs t) w) := by
 have h1 := fun o o' => (h.below (((Below.refl w.heap.size w).alloc yL o).alloc yS o')).le (B' := ((w.alloc o).alloc o').heap.size) (by simp; omega); have H1 := yq h1; have HT := yq htab; clear h1 htab; obtain ⟨A, c, rfl, hc, hm, hrow⟩ := h; clear hm hrow; go_enter Tryz.func103, Tryz.ntmps103
 go_wp2_with fail
 refine (zbG _ _ _ (H1.o _ _) yO).mono ?_
 rintro e w1 ⟨rfl, hb1⟩; obtain ⟨hc1, hf1⟩ := zdu hb1; have hz1 : w.heap.size + 1 < w1.heap.size := by have := hb1.size; simp at this; omega
 have a1 : w1.cell? ⟨w.heap.size, 0, none⟩ = some (.slice A xs.length c) := by rw [hc1 _ _ yo]; simp [go_sem]
 have c1 : w1.cell? ⟨w.heap.size + 1, 0, none⟩ = some (.slice none 0 0) := by rw [hc1 _ _ yo]; simp [go_sem]
 have f1 : w1.frozen? ⟨w.heap.size + 1, 0, none⟩ = false := by rw [hf1 _ _ yo]; simp [go_sem]
 have S1 := yq ((H1.o (Obj.cells #[Value.slice A xs.length c] 26) (Obj.cells #[Value.slice none 0 0] 26)).up hb1); have B1 := yq (((Below.refl w.heap.size w).alloc yL (Obj.cells #[Value.slice A xs.length c] 26)).alloc yS (Obj.cells #[Value.slice none 0 0] 26) |>.trans (hb1.mono (by simp; omega))); clear hc1 hf1 hb1; by_cases hok : zag xs = true
 · have hok2 : (!zag xs) = false := by simp [hok]
   have Hok := yq hok; clear hok; go_wp2_with fail
   by_cases hin : inB t 0 1000000000000000 = true
   · have Hin := yq hin
     have ht : 0 <= t /\ t <= 1000000000000000 := by simpa [inB] using hin
     obtain ⟨n, rfl⟩ := Int.eq_ofNat_of_zero_le ht.1; have hn60 : n < 1152921504606846976 := by omega
     clear hin ht; refine (zmE _ _ _ _ _ Hin.o).mono ?_
     rintro e w' ⟨rfl, rfl⟩; go_wp2_with fail
     refine (zmD _ xs n _ S1.o hn hn60 (zdN HT.o B1.o)).mono ?_
     rintro e w3 ⟨hb3, v3, own3, rfl⟩; have z3 : w1.heap.size <= w3.heap.size := hb3.size; have hz3 : w.heap.size + 1 < w3.heap.size := by omega
     have c3 := zb5 c1 hb3 yO; have f3 : w3.frozen? ⟨w.heap.size + 1, 0, none⟩ = false := by rw [hb3.frozen hz1, f1]
     have B3 := yq (B1.o.trans (hb3.mono yO)); have O3 := yq own3; have hpl := zn2 xs n hn60; clear a1 c1 f1 hb3 own3; go_wp2_with fail
     refine (zcJ _ _ _ _ O3.o yO).mono ?_
     rintro e w4 ⟨hb4, v4, own4, rfl⟩; obtain ⟨A4, k4, rfl, _⟩ := zae own4; have c4 := zb5 c3 hb4 yO; have f4 : w4.frozen? ⟨w.heap.size + 1, 0, none⟩ = false := by rw [hb4.frozen hz3, f3]
     have B4 := yq (B3.o.trans (hb4.mono yO)); have O4 := yq own4; clear c3 f3 hb4 own4; have e1 : zck xs n = zav (zdT xs n) := by rw [zck, Hok.o, Hin.o]; rfl
     have e2 : zbR xs n = zas (zdT xs n) := by rw [zbR, Hok.o, Hin.o]; rfl
     have E1 := yq e1; have E2 := yq e2; clear e1 e2; go_wp2
     refine bodyPost_ret (v := .tuple #[.agg #[.slice A4 (zav (zdT xs n)).length k4], .int .i64 (zas (zdT xs n))]) (by simp [results, Tryz.results103, go_sem, c4]) rfl ⟨?_, _, ?_, by rw [E2.o]⟩
     · exact B4.o.setCell (by show w.heap.size <= w.heap.size + 1; omega) _
     · rw [E1.o]
       exact zad (ownsRow_setCell_below O4.o (a := ⟨w.heap.size + 1, 0, none⟩) (by show w.heap.size + 1 < w1.heap.size; omega) _) yO
   · have hin' : inB t 0 1000000000000000 = false := by simpa using hin
     have Hin := yq hin'; clear hin hin'; refine (zmE _ _ _ _ _ Hin.o).mono ?_
     rintro e w' ⟨rfl, rfl⟩; go_wp2
     refine bodyPost_ret (v := .tuple #[.agg #[.slice none 0 0], .int .i64 2]) (by simp [results, Tryz.results103, go_sem, c1]) rfl ⟨?_, _, ?_, by rw [zbR, if_pos Hok.o, if_neg (by rw [Hin.o]; decide)]⟩
     · exact B1.o.setCell (by show w.heap.size <= w.heap.size + 1; omega) _
     · rw [zck, if_neg (by simp [Hin.o])]; exact World.ownsRow_nil _ _ _ _
 · have hok2 : (!zag xs) = true := by simp [hok]
   have Hok := yq hok; clear hok; go_wp2
   refine bodyPost_ret (v := .tuple #[.agg #[.slice none 0 0], .int .i64 1]) (by simp [results, Tryz.results103, go_sem, c1]) rfl ⟨?_, _, ?_, by rw [zbR, if_neg (by simp [Hok.o])]⟩
   · exact B1.o.setCell (by show w.heap.size <= w.heap.size + 1; omega) _
   · rw [zck, if_neg (by simp [Hok.o])]; exact World.ownsRow_nil _ _ _ _
theorem zo0 (n : Nat) : 0 < n -> ∀ d, d < (ze1 n).length -> 0 < n / 2 ^ d := by
 induction n using Nat.strongRecOn with
 | ind n ih =>
   intro hn d hd; by_cases c : n < 2
   · rw [zd2 c] at hd
     have : d = 0 := by simpa using hd
     subst this; simpa using hn
   · rw [zd3 c, List.length_append] at hd
     cases d with
     | zero => simpa using hn
     | succ d =>
       have := ih (n / 2) yO yO d (by simp at hd; omega); rw [Nat.pow_succ, Nat.mul_comm, <- Nat.div_div_eq_div_mul]; exact this
theorem zo1 (n : Nat) : n / 2 ^ (ze1 n).length = 0 := by
 induction n using Nat.strongRecOn with
 | ind n ih =>
   by_cases c : n < 2
   · rw [zd2 c]
     have : n / 2 = 0 := by omega
     simpa using this
   · rw [zd3 c, List.length_append]
     have := ih (n / 2) yO; show n / 2 ^ ((ze1 (n / 2)).length + 1) = 0
     rw [Nat.pow_succ, Nat.mul_comm, <- Nat.div_div_eq_div_mul]; exact this
theorem zn3 (n : Nat) : ∀ j, j < (ze1 n).length -> (ze1 n)[(ze1 n).length - 1 - j]? = some (UInt8.ofNat (48 + n / 2 ^ j % 2)) := by
 induction n using Nat.strongRecOn with
 | ind n ih =>
   intro j hj; by_cases c : n < 2
   · rw [zd2 c] at hj |-
     have : j = 0 := by simpa using hj
     subst this; have : n % 2 = n := by omega
     simp [this]
   · rw [zd3 c] at hj |-
     rw [List.length_append] at hj |-
     cases j with
     | zero => simp
     | succ j =>
       have h1 := ih (n / 2) yO j (by simp at hj; omega); have e : (ze1 (n / 2)).length + [UInt8.ofNat (48 + n % 2)].length - 1 - (j + 1) = (ze1 (n / 2)).length - 1 - j := by simp; omega
       rw [e, List.getElem?_append_left (by simp at hj; omega), h1, Nat.pow_succ, Nat.mul_comm, <- Nat.div_div_eq_div_mul]
theorem zn4 (i : Nat) (hi : i < 9223372036854775808) : bits BinOp.and IntKind.i64 (i : Int) 1 = ((i % 2 : Nat) : Int) := by
 have e63 : (2 : Int) ^ 63 = 9223372036854775808 := by decide
 have h := bits_mask .i64 63 (by decide) (fun n h0 h1 => by rw [e63] at h1; rw [IntKind.wrap_i64]; omega) 1 (by decide) (i : Int) yO (by rw [e63]; omega); have e : ((2 : Int) ^ 1 - 1) = 1 := by decide
 rw [e] at h; rw [h]; omega
theorem zkh (n d : Nat) : ((n : Int) / 2 ^ d) = ((n / 2 ^ d : Nat) : Int) := by
 rw [Int.natCast_ediv]; simp
theorem ziw {root : Int} {L : List zaa} {d : UInt8} (h : zaY L) : zaY (zaX root L d) := by
 unfold zaX; split <;> intro r hr <;> simp at hr
 · rcases hr with hr | rfl | rfl
   · exact h r hr
   · exact (by decide : (0 : Nat) <= 9223372036854775807)
   · exact (by decide : (0 : Nat) <= 9223372036854775807)
 · rcases hr with hr | rfl
   · exact h r hr
   · exact (by decide : (0 : Nat) <= 9223372036854775807)
theorem zfC {root : Int} : ∀ (ds : List UInt8) {L : List zaa}, zaY L -> zaY (ds.foldl (zaX root) L)
 | [], _, h => h
 | d :: ds, _, h => zfC ds (ziw (d := d) h)
theorem zlv {xs : List zaa} (n : Nat) (h : zaY xs) : zaY (zdT xs n) := by
 unfold zdT; split
 · intro r hr; simp at hr
 · exact zfC _ h
theorem zix (v : Value) (xs : List zaa) (t : Int) (w : World) (h : Sl zar w w.heap.size v xs) (hn : xs.length <= 1048576) (hs : zaY xs) :
  Calls Tryz.prog 88 #[.agg #[v], .int .i64 t] w (zl8 (zck xs t) (zbR xs t) w) := by
 have h1 := fun o o' => (h.below (((Below.refl w.heap.size w).alloc yL o).alloc yS o')).le (B' := ((w.alloc o).alloc o').heap.size) (by simp; omega); have H1 := yq h1; have Hs := yq hs; clear h1 hs; obtain ⟨A, c, rfl, hc, hm, hrow⟩ := h; clear hm hrow; go_enter Tryz.func88, Tryz.ntmps88
 go_wp2_with fail
 refine (zaZ _ _ _ _ _ (by simp [go_sem]) yo (H1.o _ _) Hs.o).mono ?_
 rintro e w1 ⟨rfl, hb1⟩; obtain ⟨hc1, hf1⟩ := zdu hb1; have hz1 : w.heap.size + 1 < w1.heap.size := by have := hb1.size; simp at this; omega
 have a1 : w1.cell? ⟨w.heap.size, 0, none⟩ = some (.slice A xs.length c) := by rw [hc1 _ _ yo]; simp [go_sem]
 have c1 : w1.cell? ⟨w.heap.size + 1, 0, none⟩ = some (.slice none 0 0) := by rw [hc1 _ _ yo]; simp [go_sem]
 have f1 : w1.frozen? ⟨w.heap.size + 1, 0, none⟩ = false := by rw [hf1 _ _ yo]; simp [go_sem]
 have S1 := yq ((H1.o (Obj.cells #[Value.slice A xs.length c] 26) (Obj.cells #[Value.slice none 0 0] 26)).up hb1); have B1 := yq (((Below.refl w.heap.size w).alloc yL (Obj.cells #[Value.slice A xs.length c] 26)).alloc yS (Obj.cells #[Value.slice none 0 0] 26) |>.trans (hb1.mono (by simp; omega))); clear hc1 hf1 hb1; by_cases hok : zag xs = true
 · have hok2 : (!zag xs) = false := by simp [hok]
   have Hok := yq hok; clear hok; go_wp2_with fail
   by_cases hin : inB t 0 1000000000000000 = true
   · have Hin := yq hin
     have ht : 0 <= t /\ t <= 1000000000000000 := by simpa [inB] using hin
     obtain ⟨n, rfl⟩ := Int.eq_ofNat_of_zero_le ht.1; have hn60 : n < 1152921504606846976 := by omega
     clear hin ht; refine (zoC _ _ _ _ _ Hin.o).mono ?_
     rintro e w' ⟨rfl, rfl⟩; have e1 : zck xs n = zav (zdT xs n) := by rw [zck, Hok.o, Hin.o]; rfl
     have e2 : zbR xs n = zas (zdT xs n) := by rw [zbR, Hok.o, Hin.o]; rfl
     have E1 := yq e1; have E2 := yq e2; clear e1 e2; by_cases h0 : n = 0 \/ xs.length = 0
     · have hg : zdT xs n = [] := by rw [zdT, if_pos h0]
       have hlo : zav (zdT xs n) = [] := by rw [hg]; rfl
       have hlc : zas (zdT xs n) = 0 := by rw [hg]; rfl
       have Hg := yq hg; have Ho := yq hlo; have Hc := yq hlc; clear hg hlo hlc; by_cases hz : n = 0
       · subst hz
         clear h0; go_wp2_with fail
         have e3 : zck xs 0 = [] := by
          have e : zck xs ((0 : Nat) : Int) = [] := by rw [E1.o, Ho.o]
          exact e
         have e4 : zbR xs 0 = 0 := by
          have e : zbR xs ((0 : Nat) : Int) = 0 := by rw [E2.o, Hc.o]
          exact e
         refine bodyPost_ret (v := .tuple #[.agg #[.slice none 0 0], .int .i64 0]) (by simp [results, Tryz.results88, go_sem, c1]) rfl ⟨?_, .slice none 0 0, ?_, by simp [e4]⟩
         · exact B1.o.setCell (by show w.heap.size <= w.heap.size + 1; omega) _
         · simp [e3]; exact World.ownsRow_nil _ _ _ _
       · have hx : xs.length = 0 := by omega
         have g0 : ((n : Int) == 0) = false := by rw [beq_eq_false_iff_ne]; omega
         have g1 : ((xs.length : Int) == 0) = true := by simp [hx]
         clear h0 hx; go_wp2_with fail
         refine bodyPost_ret (v := .tuple #[.agg #[.slice none 0 0], .int .i64 0]) (by simp [results, Tryz.results88, go_sem, c1]) rfl ⟨?_, _, ?_, by rw [E2.o, Hc.o]⟩
         · exact B1.o.setCell (by show w.heap.size <= w.heap.size + 1; omega) _
         · rw [E1.o, Ho.o]; exact World.ownsRow_nil _ _ _ _
     · have hg : zdT xs n = (ze1 n).tail.foldl (zaX ((xs.length : Int) - 1)) xs := by rw [zdT, if_neg h0]
       have Hg := yq hg; have g0 : ((n : Int) == 0) = false := by rw [beq_eq_false_iff_ne]; omega
       have g1 : ((xs.length : Int) == 0) = false := by rw [beq_eq_false_iff_ne]; omega
       have hwx : IntKind.i64.wrap ((xs.length : Int) - 1) = (xs.length : Int) - 1 := IntWalk.i64_in _ yO; have hn0 : 0 < n := by omega
       have hhi := zo1 n; have hlo := zo0 n hn0; have hpos := zkU n; have hxt := ziu n 60 hn60 yO; have hget := zn3 n; obtain ⟨BL, hBL⟩ : ∃ BL, ze1 n = BL := ⟨_, rfl⟩
       rw [hBL] at hhi hlo hpos hxt hget; have HBL := yq hBL; have Hhi := yq hhi; have Hlo := yq hlo; have Hget := yq hget; clear hg hBL hhi hlo hget h0; go_wp2_with fail
       refine (zcd _ _ _ _ _ a1 yO S1.o yO).mono ?_
       rintro e w3 ⟨v3, rfl, own3, hb3⟩; obtain ⟨A3, k3, rfl, _⟩ := zae own3; have z3 : w1.heap.size <= w3.heap.size := hb3.size; have hz3 : w.heap.size + 1 < w3.heap.size := by omega
       have a3 := zb5 a1 hb3 yO; have c3 := zb5 c1 hb3 yO; have f3 : w3.frozen? ⟨w.heap.size + 1, 0, none⟩ = false := by rw [hb3.frozen hz1, f1]
       have B3 := yq (B1.o.trans (hb3.mono yO)); have O3 := yq own3; have y3 : w.heap.size < w3.heap.size := by omega
       clear a1 c1 f1 hb3 own3; go_wp2_with fail
       go_loopw [8] (fun q wr => ∃ d : Nat, q = .int .i64 d /\ d <= BL.length /\ wr = w3.alloc (Obj.cells #[Value.slice A3 xs.length k3] 26)) (fun q _ => BL.length - (intOf q).toNat)
       case atStart => exact ⟨0, rfl, Nat.zero_le _, rfl⟩
       case round =>
        obtain ⟨d, rfl, hd, rfl⟩ := hrel; by_cases hdl : d < BL.length
        · have hsh : (0 : Int) < (n : Int) / 2 ^ d := by rw [zkh]; have := Hlo.o d hdl; omega
          have hd60 : d < 64 := by omega
          go_wp2_with fail
          exact ⟨⟨d + 1, rfl, hdl, trivial⟩, by simp [intOf]; omega⟩
        · have hdn : d = BL.length := by omega
          subst hdn; have hsh : ¬ ((0 : Int) < (n : Int) / 2 ^ BL.length) := by rw [zkh, Hhi.o]; decide
          obtain ⟨K, hK⟩ : ∃ K, w3.heap.size = K := ⟨_, rfl⟩
          have bx4 : Boxed (w3.alloc (Obj.cells #[Value.slice A3 xs.length k3] 26)) K 26 (.slice A3 xs.length k3) := by rw [<- hK]; exact Boxed.new _ _ _
          have own4 : zac (w3.alloc (Obj.cells #[Value.slice A3 xs.length k3] 26)) w1.heap.size (.slice A3 xs.length k3) xs := O3.o.alloc _; have b4 : Below w1.heap.size (w3.alloc (Obj.cells #[Value.slice A3 xs.length k3] 26)) (w3.alloc (Obj.cells #[Value.slice A3 xs.length k3] 26)) := Below.refl _ _; have B4 := yq (B3.o.alloc yO (Obj.cells #[Value.slice A3 xs.length k3] 26)); have y4 : w.heap.size + 1 < (w3.alloc (Obj.cells #[Value.slice A3 xs.length k3] 26)).heap.size := by simp; omega
          have c4 : (w3.alloc (Obj.cells #[Value.slice A3 xs.length k3] 26)).cell? ⟨w.heap.size + 1, 0, none⟩ = some (.slice none 0 0) := by simp [go_sem, c3, hz3]
          have f4 : (w3.alloc (Obj.cells #[Value.slice A3 xs.length k3] 26)).frozen? ⟨w.heap.size + 1, 0, none⟩ = false := by simp [go_sem, f3, hz3]
          have hK1 : w1.heap.size <= K := by omega
          rw [hK]; revert bx4 own4 b4 B4 y4 c4 f4; generalize w3.alloc (Obj.cells #[Value.slice A3 xs.length k3] 26) = w4; intro bx4 own4 b4 B4 y4 c4 f4; clear a3 c3 f3 y3 hK hdl hd; have h60 : BL.length <= 60 := hxt; have hbl : BL.tail.length = BL.length - 1 := by simp
          go_wp2_with fail
          go_loopw [9, 10] (fun q u wr => ∃ (k : Nat) (vo : Value), q = .int .i64 ((BL.length : Int) - 2 - k) /\ k <= BL.length - 1 /\ Boxed wr K 26 vo /\ zac wr w1.heap.size vo ((BL.tail.take k).foldl (zaX ((xs.length : Int) - 1)) xs) /\ Below w1.heap.size w4 wr) (fun q _ _ => (intOf q + 1).toNat)
          case atStart => exact ⟨0, _, by simp, Nat.zero_le _, bx4, by simpa using own4, b4⟩
          case round =>
           obtain ⟨k, vo, rfl, hk, hbox, hown, hb⟩ := hrel; have Hb := yq hb; have Hown := yq hown; have Hbox := yq hbox; have hll := zfd ((xs.length : Int) - 1) (BL.tail.take k) xs; obtain ⟨L, hL⟩ : ∃ L, (BL.tail.take k).foldl (zaX ((xs.length : Int) - 1)) xs = L := ⟨_, rfl⟩
           have HL := yq hL; have hlen : L.length <= 2000000 := by rw [<- hL]; simp at hll; omega
           rw [hL] at Hown; clear hb hown hbox hll hL; by_cases hlt : k < BL.length - 1
           · obtain ⟨j, hj⟩ : ∃ j : Nat, (BL.length : Int) - 2 - k = j := ⟨BL.length - 2 - k, by omega⟩
             have hjl : j < BL.length := by omega
             have hgt := Hget.o j hjl
             have hgt' : BL.tail[k]? = some (UInt8.ofNat (48 + n / 2 ^ j % 2)) := by
              rw [<- hgt, List.getElem?_tail]; congr 1; omega
             have Hgt := yq hgt'
             have hand : bits BinOp.and IntKind.i64 ((n : Int) / 2 ^ j) 1 = ((n / 2 ^ j % 2 : Nat) : Int) := by
              rw [zkh]; exact zn4 _ (Nat.lt_of_le_of_lt (Nat.div_le_self _ _) yO)
             obtain ⟨D, hD⟩ : ∃ D, n / 2 ^ j % 2 = D := ⟨_, rfl⟩
             have hD2 : D = 0 \/ D = 1 := by omega
             rw [hD] at hand Hgt; obtain ⟨Ao, co, rfl, _⟩ := zae Hown.o; have bxc := Hbox.o.cell; have bxf := Hbox.o.frozen; have hw1 : IntKind.i64.wrap ((L.length : Int) - 1) = (L.length : Int) - 1 := IntWalk.i64_in _ yO; have hw2 : IntKind.i64.wrap ((j : Int) - 1) = (j : Int) - 1 := IntWalk.i64_in _ yO; have Hll : yh (L.length <= 1099511627775) := by rw [yh]; omega
             have Hw4 := yq (show w1.heap.size <= w4.heap.size by have := bx4.lt; omega); have Hw0 := yq (show w1.heap.size <= wr.heap.size from Nat.le_trans (by have := bx4.lt; omega) Hb.o.size); have Hlen := yq hlen; rw [hj]; have Hj := yq hj; have Hlt := yq hlt; have hj60 : j < 64 := by omega
             clear hgt hgt' hD hlt hk hj
             have Hstep : yh ((BL.tail.take (k + 1)).foldl (zaX ((xs.length : Int) - 1)) xs = zaX ((xs.length : Int) - 1) L (UInt8.ofNat (48 + D))) := by
              rw [yh, List.take_add_one, Hgt.o, List.foldl_append, HL.o]; rfl
             obtain ⟨M, hM⟩ : ∃ M, L ++ [zaP ((L.length : Int) - 1) ((L.length : Int) - 1)] = M := ⟨_, rfl⟩
             have hMl : M.length = L.length + 1 := by rw [<- hM]; simp
             have HM := yq hM; have HMl := yq hMl; have Hml : yh (M.length <= 1099511627775) := by rw [yh]; have := Hlen.o; omega
             have HN := fun q : Int × Int => yq (show (M ++ [zaP q.1 q.2]).length = M.length + 1 by simp); have e0 : zaX ((xs.length : Int) - 1) L (UInt8.ofNat (48 + 0)) = M := by rw [<- hM]; simp [zaX]
             have e1 : zaX ((xs.length : Int) - 1) L (UInt8.ofNat (48 + 1)) = M ++ [zaP (L.length : Int) ((xs.length : Int) - 1)] := by rw [<- hM]; simp [zaX]
             have E3 := yq e0; have E4 := yq e1; have hm0 : (((j : Int) - 1) + 1).toNat < ((j : Int) + 1).toNat := by omega
             have Hm0 := yq hm0; clear hM hMl e0 e1 hm0; rcases hD2 with rfl | rfl
             · go_wp2_with (first
                | (at_builtin; refine za5 (base := w1.heap.size) (v := .slice Ao L.length co) rfl _ _ rfl yR yR rfl Hown.o Hll.o Hw0.o ?_; intro v5 w5 own5 hg5 hb5; go_loud (have bx5 : Boxed w5 K 26 _ := Boxed.grown Hbox.o (by decide) Hown.o hg5; obtain ⟨A5, c5, rfl, _⟩ := zae own5; have hcb5 := bx5.cell; have hfb5 := bx5.frozen; have hl5 := bx5.lt; have own6 := yq (zcK bx5 own5 HM.o HMl.o); have B6 : yh (Below w1.heap.size w4 (w5.setCell ⟨K, 0, none⟩ (.slice A5 (L.length + 1) c5))) := ((Hb.o.alloc Hw0.o _).trans hb5).setCell hK1 _; have X6 : yh (Boxed (w5.setCell ⟨K, 0, none⟩ (.slice A5 (L.length + 1) c5)) K 26 (.slice A5 (L.length + 1) c5)) := Boxed.set _ bx5; clear own5 hg5 hb5)))
               refine ⟨⟨k + 1, _, by congr 1; have := Hj.o; omega, by have := Hlt.o; omega, X6.o, ?_, B6.o⟩, by simp only [intOf]; exact Hm0.o⟩
               rw [Hstep.o, E3.o]; exact own6.o
             · go_wp2_with (first
                | (at_builtin; refine za5 (base := w1.heap.size) (v := .slice Ao L.length co) rfl _ _ rfl yR yR rfl Hown.o Hll.o Hw0.o ?_; intro v5 w5 own5 hg5 hb5; go_loud (have bx5 : Boxed w5 K 26 _ := Boxed.grown Hbox.o (by decide) Hown.o hg5; obtain ⟨A5, c5, rfl, _⟩ := zae own5; have hcb5 := bx5.cell; have hfb5 := bx5.frozen; have hl5 := bx5.lt; have own6 := yq (zcK bx5 own5 HM.o HMl.o); have B6 : yh (Below w1.heap.size w4 (w5.setCell ⟨K, 0, none⟩ (.slice A5 (L.length + 1) c5))) := ((Hb.o.alloc Hw0.o _).trans hb5).setCell hK1 _; have X6 : yh (Boxed (w5.setCell ⟨K, 0, none⟩ (.slice A5 (L.length + 1) c5)) K 26 (.slice A5 (L.length + 1) c5)) := Boxed.set _ bx5; clear own5 hg5 hb5))
                | (at_builtin; go_loud (refine za5 (base := w1.heap.size) (v := .slice A5 (L.length + 1) c5) rfl _ _ rfl yR yR yS own6.o Hml.o (Nat.le_trans Hw4.o B6.o.size) ?_); intro v7 w7 own7 hg7 hb7; have bx7 : Boxed w7 K 26 _ := Boxed.grown X6.o (by decide) own6.o hg7; obtain ⟨A7, c7, rfl, _⟩ := zae own7; have hcb7 := bx7.cell; have hfb7 := bx7.frozen; have hl7 := bx7.lt; go_loud (have own8 := yq (zcK bx7 own7 rfl (HN (L.length, (xs.length : Int) - 1)).o); have B8 : yh (Below w1.heap.size w4 (w7.setCell ⟨K, 0, none⟩ (.slice A7 (M.length + 1) c7))) := ((B6.o.alloc (Nat.le_trans Hw4.o B6.o.size) _).trans hb7).setCell hK1 _; have X8 : yh (Boxed (w7.setCell ⟨K, 0, none⟩ (.slice A7 (M.length + 1) c7)) K 26 (.slice A7 (M.length + 1) c7)) := Boxed.set _ bx7; clear own7 hg7 hb7)))
               refine ⟨⟨k + 1, _, by congr 1; have := Hj.o; omega, by have := Hlt.o; omega, X8.o, ?_, B8.o⟩, by simp only [intOf]; exact Hm0.o⟩
               rw [Hstep.o, E4.o]; exact own8.o
           · have hkn : k = BL.length - 1 := by omega
             subst hkn; have hneg : ¬ ((0 : Int) <= (BL.length : Int) - 2 - ((BL.length - 1 : Nat) : Int)) := by omega
             have hL' : zdT xs n = L := by rw [Hg.o, HBL.o, <- HL.o, <- hbl, List.take_length]
             have HL' := yq hL'; have z1 : w1.heap.size <= wr.heap.size := Nat.le_trans (by have := bx4.lt; omega) Hb.o.size; obtain ⟨Ao, co, rfl, _⟩ := zae Hown.o; have bxc := Hbox.o.cell; have hlr := Hbox.o.lt; have c9 : wr.cell? ⟨w.heap.size + 1, 0, none⟩ = some (.slice none 0 0) := (Hb.o.cell (p := ⟨w.heap.size + 1, 0, none⟩) (by show w.heap.size + 1 < w1.heap.size; omega)).trans c4; have f9 : wr.frozen? ⟨w.heap.size + 1, 0, none⟩ = false := (Hb.o.frozen (p := ⟨w.heap.size + 1, 0, none⟩) (by show w.heap.size + 1 < w1.heap.size; omega)).trans f4; have hz9 : w.heap.size + 1 < wr.heap.size := by omega
             have B9 := yq (B4.o.trans (Hb.o.mono yO)); clear hL' hlt hk hlen; go_wp2_with fail
             refine (zdY _ _ _ _ Hown.o (by rw [<- HL'.o]; exact zlv n Hs.o)).mono ?_
             rintro e w10 ⟨hb10, v10, own10, rfl⟩; obtain ⟨A10, k10, rfl, _⟩ := zae own10; have c10 := zb5 c9 hb10 yO; have f10 : w10.frozen? ⟨w.heap.size + 1, 0, none⟩ = false := by rw [hb10.frozen hz9, f9]
             have B10 := yq (B9.o.trans (hb10.mono yO)); have O10 := yq own10; clear c9 f9 hb10 own10; go_wp2
             refine bodyPost_ret (v := .tuple #[.agg #[.slice A10 (zav L).length k10], .int .i64 (zas L)]) (by simp [results, Tryz.results88, go_sem, c10]) rfl ⟨?_, _, ?_, by rw [E2.o, HL'.o]⟩
             · exact B10.o.setCell (by show w.heap.size <= w.heap.size + 1; omega) _
             · rw [E1.o, HL'.o]
               exact zad (ownsRow_setCell_below O10.o (a := ⟨w.heap.size + 1, 0, none⟩) (by show w.heap.size + 1 < w1.heap.size; omega) _) yO
   · have hin' : inB t 0 1000000000000000 = false := by simpa using hin
     have Hin := yq hin'; clear hin hin'; refine (zoC _ _ _ _ _ Hin.o).mono ?_
     rintro e w' ⟨rfl, rfl⟩; go_wp2
     refine bodyPost_ret (v := .tuple #[.agg #[.slice none 0 0], .int .i64 2]) (by simp [results, Tryz.results88, go_sem, c1]) rfl ⟨?_, _, ?_, by rw [zbR, if_pos Hok.o, if_neg (by rw [Hin.o]; decide)]⟩
     · exact B1.o.setCell (by show w.heap.size <= w.heap.size + 1; omega) _
     · rw [zck, if_neg (by simp [Hin.o])]; exact World.ownsRow_nil _ _ _ _
 · have hok2 : (!zag xs) = true := by simp [hok]
   have Hok := yq hok; clear hok; go_wp2
   refine bodyPost_ret (v := .tuple #[.agg #[.slice none 0 0], .int .i64 1]) (by simp [results, Tryz.results88, go_sem, c1]) rfl ⟨?_, _, ?_, by rw [zbR, if_neg (by simp [Hok.o])]⟩
   · exact B1.o.setCell (by show w.heap.size <= w.heap.size + 1; omega) _
   · rw [zck, if_neg (by simp [Hok.o])]; exact World.ownsRow_nil _ _ _ _
def zgg (t : ByteArray) : List ByteArray := Lib.charsB t
def zo2 (xs : List zaa) (ws : List ByteArray) : Option (List zaa) :=
 if 400 < (zin xs ws).1.length then none else if xs.length = 0 \/ zao (zin xs ws).2 < 0 then some [] else zbt (zaQ ((zin xs ws).1.take ((zao (zin xs ws).2).toNat + 1)))
theorem zhZ (xs : List zaa) (ws : List ByteArray) : ze5 (zo2 xs ws) (zec xs ws) (zdd xs ws) := by
 unfold zo2 zec zdd; split
 · exact .inr ⟨rfl, rfl⟩
 · split
   · exact .inl ⟨rfl, rfl, rfl⟩
   · exact zc8 _
def zed (e : zam) (p : List zaa) : Option (List zaa) := if e.kind = 5 then some (p.map zcu) else if e.kind = 6 then zbt (zdT p e.k.toNat) else zo2 p (zgg e.map)
theorem zh0 (r : zaa) : (zcu r).pair = r.pair := rfl
theorem zki (i : Nat) (r : zaa) : zaC i (zcu r) = zaC i r := by
 unfold zaC; rw [zh0]; split
 · show (decide (0 <= r.right) && decide (r.right <= (i : Int) - 1) && decide (0 <= r.left) && decide (r.left <= (i : Int) - 1)) = _
   rw [Bool.and_comm, Bool.and_left_comm, <- Bool.and_assoc]; cases decide (0 <= r.right) <;> cases decide (r.right <= (i : Int) - 1) <;> cases decide (0 <= r.left) <;> cases decide (r.left <= (i : Int) - 1) <;> rfl
 · show (zeh r.letter && r.right == 0 && r.left == 0) = _
   cases zeh r.letter <;> cases (r.right == 0) <;> cases (r.left == 0) <;> rfl
theorem zjj (out : List Int) (r : zaa) : zaU out (zcu r) = zaU out r := by
 unfold zaU; rw [zh0]; split
 · show out.getD r.right.toNat 0 + out.getD r.left.toNat 0 = _
   omega
 · rfl
theorem zmF (xs : List zaa) : zaW (xs.map zcu) = zaW xs := by
 unfold zaW; generalize some ([] : List Int) = o
 induction xs generalizing o with
 | nil => rfl
 | cons x xs ih =>
   simp only [List.map_cons, List.foldl_cons]
   have : zaR o (zcu x) = zaR o x := by
    unfold zaR; cases o with
    | none => rfl
    | some out => simp only [Option.bind_some, zki, zjj]
   rw [this, ih]
theorem zfe {xs : List zaa} (h : zag xs = true) : zag (xs.map zcu) = true := by
 unfold zag at *; rw [zmF, List.length_map]; exact h
theorem zex {t : ByteArray} (hw : zaB t = true) (h4 : t.size = 4) : (zgg t).length = 4 /\ ∀ s ∈ zgg t, zaB s = true := by
 have hall : ∀ k (h : k < t.size), zci t[k] = true := fun k h => zim hw h; refine ⟨by simp [zgg, Lib.charsB, Lib.charsUpTo_length, h4], fun s hs => ?_⟩
 unfold zgg Lib.charsB Lib.charsUpTo at hs; obtain ⟨k, hk, rfl⟩ := List.mem_map.1 hs; have hk4 : k < t.size := by rw [List.mem_range] at hk; exact hk
 unfold zaB; have hsz : (t.extract k (k + 1)).size = 1 := by simp; omega
 rw [hsz, Bool.and_eq_true]; refine ⟨by decide, ?_⟩
 rw [List.all_eq_true]; intro c hc; obtain ⟨j, hj⟩ := List.mem_iff_getElem?.1 hc; have h2 := (List.getElem?_eq_some_iff.1 hj).1
 rw [Lib.extract_data, List.getElem?_take, List.getElem?_drop] at hj
 split at hj
 · rename_i hlt
   have : j = 0 := by omega
   subst this; rw [Nat.add_zero, zbd t k hk4] at hj; rw [<- Option.some.inj hj]; exact hall k hk4
 · cases hj
theorem zjk (t : ByteArray) (w : World) (hw : zaB t = true) (h4 : t.size = 4) :
  Calls Tryz.prog 105 #[.string t] w fun e w' => ∃ v, e = .returned v /\ Sl zic w' w'.heap.size v (zgg t) /\ Below w.heap.size w w' := by
 have hm := zex hw h4
 have hal : ∀ (j : Nat) b, t.data.toList[j]? = some b -> b.toNat < 128 := fun j b hj => by
  have h1 : zci b = true := by
   unfold zaB at hw; simp only [Bool.and_eq_true] at hw; exact List.all_eq_true.1 hw.2 _ (List.mem_of_getElem? hj)
  simp [zci] at h1; omega
 have HC := yq (Tryz.strings_Split_chars t ⟨#[]⟩ w yR yO hal); have H4 := yq h4; have HM := yq hm; clear hal hm h4 hw; go_enter Tryz.func105, Tryz.ntmps105
 go_wp2_with fail
 refine HC.o.mono ?_
 rintro e w1 ⟨rfl, rfl⟩; go_wp2
 go_ret
 have e1 : (zgg t).length = t.size := by rw [HM.o.1, H4.o]
 refine ⟨.slice (some ⟨(w.iter t t.size).heap.size, 0, none⟩) t.size t.size, rfl, ?_, ?_⟩
 · refine ⟨some ⟨(w.iter t t.size).heap.size, 0, none⟩, t.size, by rw [e1], by omega, by rw [H4.o]; decide, fun _ => ⟨_, 0, rfl, by simp, fun k x hx => ⟨[.string x], rfl, fun j u hu => ?_⟩⟩⟩
   cases j with
   | succ j => simp at hu
   | zero =>
     simp at hu; subst hu
     have hc := cell_of_row ((w.iter t t.size).alloc (.cells ((Lib.charsB t).map Value.string).toArray 9)) (w.iter t t.size).heap.size k ((Lib.charsB t).map Value.string).toArray 9 (0, 0) (heap_alloc_new _ _); have hx' : (Lib.charsB t)[k]? = some x := hx; have hk : ((Lib.charsB t).map Value.string).toArray[k]? = some (Value.string x) := by rw [List.getElem?_toArray, List.getElem?_map, hx']; rfl
     rw [hk] at hc; simpa [zic] using hc
 · have : Below w.heap.size w (w.iter t t.size) := (Below.refl _ _).alloc yL _
   exact this.alloc (by simp [World.iter]) _
def zql (s : Option (List zaa)) (w : World) (e : Ending) (w' : World) : Prop :=
 Below w.heap.size w w' /\ ∃ v out c, zac w' w.heap.size v out /\ ze5 s out c /\ e = .returned (.tuple #[.agg #[v], .int .i64 c])
def zbK (e : zam) (vR : Value) : Array Value := #[.int .i64 e.kind, .int .i64 e.i, .int .i64 e.j, .int .i64 e.k, vR, .string e.map]
theorem zi0 {P : Program} {w w' : World} {nm : String} {k : IntKind} {zs : List Int} (h : Lib.TabIs P w nm k zs) (hb : Below w.heap.size w w') : Lib.TabIs P w' nm k zs := by
 unfold Lib.TabIs World.var? at h |-
 obtain ⟨g, hg, h2⟩ := Option.bind_eq_some_iff.1 h; rw [hg]; simp only [Option.bind_some]
 have hlt : g < w.heap.size := by
  rcases Nat.lt_or_ge g w.heap.size with h' | h'
  · exact h'
  · rw [Array.getElem?_eq_none h'] at h2; cases h2
 rw [hb.block g hlt]; exact h2
theorem zax {p : List zaa} (h : zag p = true) : p.length <= 400 := (zai h).1
theorem zo3 (E : Nat) (e : zam) (vR vP : Value) (p : List zaa) (w : World) (hE : Blk w E (zbK e vR) 37) (hP : Sl zar w w.heap.size vP p) (hg : zag p = true) (hk : e.kind = 5 \/ (e.kind = 6 /\ 0 <= e.k /\ e.k <= 1000000000000000) \/ (e.kind = 7 /\ zaB e.map = true /\ e.map.size = 4))
  (htab : Lib.TabIs Tryz.prog w "math/bits.deBruijn64tab" .u8 zfc) :
  Calls Tryz.prog 101 #[.agg #[vP], .pointer (some ⟨E, 0, none⟩)] w (zql (zed e p) w) := by
 have HP := yq hP; have HG := yq hg; have HT := yq htab; have hp4 := zax hg; obtain ⟨AP, cP, rfl, _⟩ := hP; have lE := hE.lt; clear hg htab; rcases hk with hk | ⟨hk, hk0, hk1⟩ | ⟨hk, hm, hm4⟩
 · have hc : zed e p = some (p.map zcu) := by unfold zed; rw [if_pos hk]
   have HC := yq hc; have x0 : w.cell? ⟨E, 0, none⟩ = some (.int .i64 5) := by rw [<- hk]; exact hE.cell rfl
   clear hE hc hk; go_enter Tryz.func101, Tryz.ntmps101
   go_wp2_with fail
   refine (zht _ p _ (HP.o.up yb) yO).mono ?_
   rintro e w1 ⟨v1, rfl, own1, hb_1⟩; have KR_2 : Blk w1 (w.heap.size + 1) #[.slice none 0 0] 26 := by have := (Below.unalloc hb_1).2; simpa [Blk] using this
   replace hb_1 := (Below.unalloc hb_1).1
   have KP_3 : Blk w1 (w.heap.size) #[.slice AP p.length cP] 26 := by have := (Below.unalloc hb_1).2; simpa [Blk] using this
   replace hb_1 := (Below.unalloc hb_1).1
   have z_w1 : w.heap.size <= w1.heap.size := hb_1.size; have KB_4 := yq hb_1; have HO := yq own1; obtain ⟨A1, c1, rfl, _⟩ := zae own1; clear own1 x0; have cR0_5 := Blk.cell (i := 0) (v := .slice none 0 0) KR_2 rfl; have zR0_6 := Blk.frozen KR_2 0; have lR_7 := Blk.lt KR_2; go_wp2_with fail
   refine bodyPost_ret (v := .tuple #[.agg #[.slice A1 (p.map zcu).length c1], .int .i64 0]) (by simp [results, Tryz.results101, go_sem, cR0_5]) rfl ⟨KB_4.o.setCell (by show w.heap.size <= w.heap.size + 1; omega) _, _, _, _, ?_, by rw [HC.o]; exact .inl ⟨rfl, rfl, zfe HG.o⟩, rfl⟩
   exact zad (ownsRow_setCell_below HO.o (a := ⟨w.heap.size + 1, 0, none⟩) yS _) (by simp; omega)
 · have hn5 : ¬ e.kind = 5 := by omega
   have hc : zed e p = zbt (zdT p e.k.toNat) := by unfold zed; rw [if_neg hn5, if_pos hk]
   have hpc : zck p e.k = zav (zdT p e.k.toNat) /\ zbR p e.k = zas (zdT p e.k.toNat) := by
    have hb : inB e.k 0 1000000000000000 = true := by simp [inB]; omega
    unfold zck zbR; simp [HG.o, hb]
   have HC := yq hc; have HPC := yq hpc; have x0 : w.cell? ⟨E, 0, none⟩ = some (.int .i64 6) := by rw [<- hk]; exact hE.cell rfl
   have x3 := hE.cell (i := 3) (v := .int .i64 e.k) rfl; have hEk := hE; clear hE hc hk hn5 hpc; go_enter Tryz.func101, Tryz.ntmps101
   go_wp2_with fail
   refine (ziv _ p e.k _ (HP.o.up yb) yO (zi0 HT.o yb)).mono ?_
   rintro e w1 ⟨hb_8, v1, own1, rfl⟩; have KR_9 : Blk w1 (w.heap.size + 1) #[.slice none 0 0] 26 := by have := (Below.unalloc hb_8).2; simpa [Blk] using this
   replace hb_8 := (Below.unalloc hb_8).1
   have KP_10 : Blk w1 (w.heap.size) #[.slice AP p.length cP] 26 := by have := (Below.unalloc hb_8).2; simpa [Blk] using this
   replace hb_8 := (Below.unalloc hb_8).1
   have z_w1 : w.heap.size <= w1.heap.size := hb_8.size; have KE_11 := Blk.up hEk hb_8; have KB_12 := yq hb_8; clear hEk; have HO := yq own1; obtain ⟨A1, c1, rfl, _⟩ := zae own1; clear own1 x0; have cR0_13 := Blk.cell (i := 0) (v := .slice none 0 0) KR_9 rfl; have zR0_14 := Blk.frozen KR_9 0; have lR_15 := Blk.lt KR_9; go_wp2_with fail
   refine bodyPost_ret (v := .tuple #[.agg #[.slice A1 (zck p e.k).length c1], .int .i64 (zbR p e.k)]) (by simp [results, Tryz.results101, go_sem, cR0_13]) rfl ⟨KB_12.o.setCell (by show w.heap.size <= w.heap.size + 1; omega) _, _, zck p e.k, zbR p e.k, ?_, by rw [HC.o, HPC.o.1, HPC.o.2]; exact zc8 _, rfl⟩
   exact zad (ownsRow_setCell_below HO.o (a := ⟨w.heap.size + 1, 0, none⟩) yS _) (by simp; omega)
 · have hn5 : ¬ e.kind = 5 := by omega
   have hn6 : ¬ e.kind = 6 := by omega
   have hc : zed e p = zo2 p (zgg e.map) := by unfold zed; rw [if_neg hn5, if_neg hn6]
   have hwm := zex hm hm4; have HC := yq hc; have HWM := yq hwm; have HM := yq hm; have x0 : w.cell? ⟨E, 0, none⟩ = some (.int .i64 7) := by rw [<- hk]; exact hE.cell rfl
   have hEk := hE; clear hE hc hk hn5 hn6 hm hwm; go_enter Tryz.func101, Tryz.ntmps101
   go_wp2_with fail
   have KE1 : Blk ((w.alloc (.cells #[.slice AP p.length cP] 26)).alloc (.cells #[.slice none 0 0] 26)) E (zbK e vR) 37 := (hEk.alloc _).alloc _; have cE5 := Blk.cell (i := 5) (v := .string e.map) KE1 rfl
   go_region_law (first
    | (go_simp; go_at_call 105; (refine (zjk e.map _ HM.o hm4).mono ?_); rintro e1 w1 ⟨vW, rfl, hW, hb1⟩; obtain ⟨hb2, KR1⟩ := Below.unalloc (Below.undrew hb1); obtain ⟨hb3, KP1⟩ := Below.unalloc hb2; have cP1 := Blk.cell (i := 0) (v := .slice AP p.length cP) KP1 rfl; have KR2 : Blk w1 (w.heap.size + 1) #[.slice none 0 0] 26 := (by simpa [Blk] using KR1); have lR2 := Blk.lt KR2)
    | (go_simp; go_at_call 104; (refine (zke _ _ p (zgg e.map) _ (HP.o.up hb3) hW HG.o HWM.o.2 HWM.o.1).mono ?_); rintro e2 w2 ⟨hb4, v2, own2, rfl⟩; obtain ⟨A2, k2, rfl, _⟩ := zae own2; have KR3 := KR2.up hb4; have cR3 := KR3.cell (i := 0) (v := .slice none 0 0) rfl; have fR3 := KR3.frozen 0; have lR3 := KR3.lt))
   all_goals
    have HO := yq own2; have HB := yq (Below.tr hb3 hb4); clear hb1 hb2 hb3 hb4 own2 KR1 KR2 KP1 cP1 hW cE5 KE1 KR3; go_wp2_with fail
    refine bodyPost_ret (v := .tuple #[.agg #[.slice A2 (zec p (zgg e.map)).length k2], .int .i64 (zdd p (zgg e.map))]) (by simp [results, Tryz.results101, go_sem, cR3]) rfl ⟨HB.o.setCell (by show w.heap.size <= w.heap.size + 1; omega) _, _, _, _, ?_, by rw [HC.o]; exact zhZ _ _, rfl⟩
    exact zad (ownsRow_setCell_below HO.o (a := ⟨w.heap.size + 1, 0, none⟩) lR2 _) yO
end Go.Proofs.YtejgbfgocaggfaaGreatDoor
